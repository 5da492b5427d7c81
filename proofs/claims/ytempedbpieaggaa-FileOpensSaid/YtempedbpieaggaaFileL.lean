/- Files: the document, and the law. -/
import Derived.Test.YtempedbpieaggaaFileO
namespace Go.Proofs.Ytempedbpieaggaa.Nice
open Go
set_option linter.unusedVariables false
set_option linter.unusedSimpArgs false
set_option maxRecDepth 100000
set_option maxHeartbeats 4000000

theorem rrec_any (l : List Int) (hl : Bytes l) (h4 : l.length ≤ 4000) : Spec Try.prog GF 28 [u8V l] [] (fun r ho => r = SV.tup [u8V (recB l), SV.i 0] ∧ ho = []) := by
  have hln := hl.n
  have hs := adO_bd l
  refine start 37 0 Try.func28 rfl rfl rfl rfl ?_
  refine r1 ?_
  refine s1 2 0 1 rfl rfl rfl rfl rfl rfl trivial ?_
  refine s1 3 8 2 rfl rfl rfl rfl rfl rfl trivial ?_
  refine e1 16 rfl ?_
  refine keep [0] rfl ?_
  refine W_seq ?_
  refine r1 ?_
  refine s1 7 16 1 rfl rfl rfl rfl rfl rfl trivial ?_
  refine s1 8 24 2 rfl rfl rfl rfl rfl rfl (by first | trivial | omega | (simp only [List.length_map, List.length_append, List.length_cons, List.length_nil] at *; omega)) ?_
  refine s1 9 32 3 rfl rfl rfl rfl rfl rfl (by first | trivial | omega | (simp only [List.length_map, List.length_append, List.length_cons, List.length_nil] at *; omega)) ?_
  refine e1 40 rfl ?_
  refine keep [0, 9] rfl ?_
  refine q1 rfl (fun hc1 => ?_) (fun hc1 => ?_)
  · skip
    exfalso; simp at hc1; omega
  · skip
    try simp only [decide_eq_true_eq, decide_eq_false_iff_not, Bool.not_eq_true', Bool.not_eq_false', beq_iff_eq, bne_iff_ne, beq_eq_false_iff_ne, Bool.and_eq_true, Bool.or_eq_true, Bool.and_eq_false_iff, Bool.or_eq_false_iff, ge_iff_le, gt_iff_lt, Int.not_lt, Int.not_le, ne_eq, Decidable.not_not, bne_eq_false_iff_eq] at hc1
    refine W_skip ?_
    refine tn ?_
    refine r1 ?_
    refine s1 11 40 1 rfl rfl rfl rfl rfl rfl trivial ?_
    refine c1 (rmore_any l hl) [] [] 12 48 2 rfl rfl rfl rfl rfl rfl rfl rfl Try.func22 rfl rfl rfl rfl trivial rfl rfl ?_
    refine s1 10 56 3 rfl rfl rfl rfl rfl rfl trivial ?_
    refine s1 13 64 4 rfl rfl rfl rfl rfl rfl trivial ?_
    refine s1 14 72 5 rfl rfl rfl rfl rfl rfl trivial ?_
    refine s1 4 80 6 rfl rfl rfl rfl rfl rfl trivial ?_
    refine s1 5 88 7 rfl rfl rfl rfl rfl rfl trivial ?_
    refine e1 96 rfl ?_
    refine keep [0, 4] rfl ?_
    refine r1 ?_
    refine s1 15 96 1 rfl rfl rfl rfl rfl rfl trivial ?_
    refine s1 16 104 2 rfl rfl rfl rfl rfl rfl (by first | trivial | omega | (simp only [List.length_map, List.length_append, List.length_cons, List.length_nil] at *; omega)) ?_
    refine sD 17 112 3 rfl rfl rfl rfl rfl rfl rfl rfl rfl (by omega) ?_
    refine s1 18 120 4 rfl rfl rfl rfl rfl rfl trivial ?_
    refine val 18 (.d (.val (.int .u8 ((l.length : Int) / 256 % 256)))) rfl (congrArg (fun x => SV.d (D.val (Value.int .u8 x))) rfl) ?_
    refine s1 19 128 5 rfl rfl rfl rfl rfl rfl trivial ?_
    refine s1 20 136 6 rfl rfl rfl rfl rfl rfl (by first | trivial | omega | (simp only [List.length_map, List.length_append, List.length_cons, List.length_nil] at *; omega)) ?_
    refine s1 21 144 7 rfl rfl rfl rfl rfl rfl trivial ?_
    refine val 21 (.d (.val (.int .u8 ((l.length : Int) % 256)))) rfl (congrArg (fun x => SV.d (D.val (Value.int .u8 x))) rfl) ?_
    refine s1 22 152 8 rfl rfl rfl rfl rfl rfl trivial ?_
    refine sD 23 160 9 rfl rfl rfl rfl rfl rfl rfl rfl rfl (by omega) ?_
    refine s1 24 168 10 rfl rfl rfl rfl rfl rfl trivial ?_
    refine val 24 (.d (.val (.int .u8 (adO l / 16777216 % 256)))) rfl (congrArg (fun x => SV.d (D.val (Value.int .u8 x))) rfl) ?_
    refine s1 25 176 11 rfl rfl rfl rfl rfl rfl trivial ?_
    refine sD 26 184 12 rfl rfl rfl rfl rfl rfl rfl rfl rfl (by omega) ?_
    refine s1 27 192 13 rfl rfl rfl rfl rfl rfl trivial ?_
    refine val 27 (.d (.val (.int .u8 (adO l / 65536 % 256)))) rfl (congrArg (fun x => SV.d (D.val (Value.int .u8 x))) rfl) ?_
    refine s1 28 200 14 rfl rfl rfl rfl rfl rfl trivial ?_
    refine sD 29 208 15 rfl rfl rfl rfl rfl rfl rfl rfl rfl (by omega) ?_
    refine s1 30 216 16 rfl rfl rfl rfl rfl rfl trivial ?_
    refine val 30 (.d (.val (.int .u8 (adO l / 256 % 256)))) rfl (congrArg (fun x => SV.d (D.val (Value.int .u8 x))) rfl) ?_
    refine s1 31 224 17 rfl rfl rfl rfl rfl rfl trivial ?_
    refine s1 32 232 18 rfl rfl rfl rfl rfl rfl trivial ?_
    refine val 32 (.d (.val (.int .u8 (adO l % 256)))) rfl (congrArg (fun x => SV.d (D.val (Value.int .u8 x))) rfl) ?_
    refine s1 33 240 19 rfl rfl rfl rfl rfl rfl trivial ?_
    refine s1 6 248 20 rfl rfl rfl rfl rfl rfl trivial ?_
    refine e1 256 rfl ?_
    refine keep [0, 6] rfl ?_
    refine r1 ?_
    refine s1 34 256 1 rfl rfl rfl rfl rfl rfl trivial ?_
    refine s1 35 264 2 rfl rfl rfl rfl rfl rfl trivial ?_
    refine s1 36 272 3 rfl rfl rfl rfl rfl rfl ⟨trivial, (by show (6 + l.length) * 1 ≤ 140737488355328; omega), (by simp only [maxLen]; omega)⟩ ?_
    refine s1 2 280 4 rfl rfl rfl rfl rfl rfl trivial ?_
    refine s1 3 288 5 rfl rfl rfl rfl rfl rfl trivial ?_
    refine e1 296 rfl ?_
    refine keep [2, 3] rfl ?_
    refine rowsc 272 (recB l).length (u8F (recB l)) rfl (recB_len l).symm (fun i c hi hc => rec_cat l i c hi hc) ?_
    refine freeze 2 272 (6 + l.length) rfl rfl (by rw [recB_len]; exact Nat.le_refl _) ?_
    refine cval 2 (u8V (recB l)) rfl (by unfold u8V; rw [recB_len]; rfl) ?_
    refine W_ret ?_
    exact out2 2 3 (u8V (recB l)) (SV.i 0) (π := []) (hout := []) Try.results28 rfl rfl rfl rfl rfl rfl trivial ⟨rfl, rfl⟩

def u8s (l : List Int) : List UInt8 := l.map fun v => UInt8.ofNat v.toNat
theorem u8s_get {l : List Int} (hl : Bytes l) (j : Nat) (hj : j < (u8s l).length) : u8F l j 0 = .val (.int .u8 ((u8s l)[j].toNat : Int)) := by
  have hj' : j < l.length := by simpa [u8s] using hj
  have e : (u8s l)[j] = UInt8.ofNat (l[j]'hj').toNat := by unfold u8s; exact List.getElem_map ..
  have := hl.b j
  rw [show l.getD j 0 = l[j]'hj' by simp [List.getD, hj']] at this
  rw [e, UInt8.toNat_ofNat']
  unfold u8F
  rw [show l.getD j 0 = l[j]'hj' by simp [List.getD, hj'], show ((l[j]'hj').toNat % 2 ^ 8 : Nat) = (l[j]'hj').toNat by omega, Int.toNat_of_nonneg this.1]

theorem rsameB_any (x y : List Int) (hx : Bytes x) (hy : Bytes y) : Spec Try.prog GF 47 [u8V x, u8V y] [] (fun r ho => r = SV.b (decide (x = y)) ∧ ho = []) := by
  refine start 10 0 Try.func47 rfl rfl rfl rfl ?_
  refine r1 ?_
  refine s1 4 0 1 rfl rfl rfl rfl rfl rfl trivial ?_
  refine e1 8 rfl ?_
  refine keep [0, 1] rfl ?_
  refine r1 ?_
  refine s1 5 8 1 rfl rfl rfl rfl rfl rfl trivial ?_
  refine sStr (u8s x) 6 16 2 rfl rfl rfl rfl rfl rfl rfl rfl rfl rfl (by simp [u8s]) (u8s_get hx) ?_
  refine s1 7 24 3 rfl rfl rfl rfl rfl rfl trivial ?_
  refine sStr (u8s y) 8 32 4 rfl rfl rfl rfl rfl rfl rfl rfl rfl rfl (by simp [u8s]) (u8s_get hy) ?_
  refine s1 9 40 5 rfl rfl rfl rfl rfl rfl (by first | trivial | omega | (simp only [List.length_map, List.length_append, List.length_cons, List.length_nil] at *; omega)) ?_
  refine s1 4 48 6 rfl rfl rfl rfl rfl rfl trivial ?_
  refine e1 56 rfl ?_
  refine keep [4] rfl ?_
  refine W_ret ?_
  exact out1 4 (SV.b (decide (x = y))) (π := []) (hout := []) Try.results47 rfl (by show SV.b _ = SV.b _; refine congrArg SV.b ?_; rw [ByteArray.toList_eq, ByteArray.toList_eq, Bool.eq_iff_iff, beq_iff_eq, decide_eq_true_iff]; exact bytes_eq_iff hx hy) rfl rfl trivial ⟨rfl, rfl⟩

theorem recB_bytes {b : List Int} (hb : Bytes b) (h : b.length ≤ 4000) : Bytes (recB b) := by
  have hs := adO_bd b
  refine ⟨by rw [recB_len]; omega, fun k => ?_⟩
  unfold recB
  simp only [List.getD]
  by_cases hk : k < 6
  · rw [List.getElem?_append_left (by exact hk)]
    match k, hk with
    | 0, _ | 1, _ | 2, _ | 3, _ | 4, _ | 5, _ => simp [recH]; omega
  · rw [List.getElem?_append_right (by show 6 ≤ k; omega)]
    exact hb.b (k - 6)

theorem ropen_file (l : List Int) (hl : Bytes l) (q : OpenR) (hp : opened l = q) : Spec Try.prog GF 30 [u8V l] [] (fun r ho => r = SV.tup [lstV q.L, SV.i q.n, SV.i q.e] ∧ ho = []) := by
  have hln := hl.n
  refine start 87 0 Try.func30 rfl rfl rfl rfl ?_
  refine r1 ?_
  refine s1 2 0 1 rfl rfl rfl rfl rfl rfl trivial ?_
  refine s1 3 8 2 rfl rfl rfl rfl rfl rfl trivial ?_
  refine s1 4 16 3 rfl rfl rfl rfl rfl rfl trivial ?_
  refine e1 24 rfl ?_
  refine keep [0] rfl ?_
  refine r1 ?_
  refine s1 5 24 1 rfl rfl rfl rfl rfl rfl trivial ?_
  refine e1 32 rfl ?_
  refine keep [0, 5] rfl ?_
  refine r1 ?_
  refine s1 6 32 1 rfl rfl rfl rfl rfl rfl trivial ?_
  refine e1 40 rfl ?_
  refine keep [0, 5, 6] rfl ?_
  refine W_block ?_
  refine ghostly 5 27 1 (lstF []) rfl ?_
  refine loop (α := Nat × List (List Int)) 1 (fun z => [(0, u8V l), (5, .sl 0 0 (z.2).length), (6, SV.i (z.1))]) (fun z => [some (.rows 27 1 (z.2).length (lstF (z.2)))]) (fun z => (z.1) ≤ l.length ∧ (z.2).length ≤ 200 ∧ opened l = opn l (201 - (z.2).length) (z.1) (z.2)) (fun z => l.length - (z.1)) (((0, []) : Nat × List (List Int))) [40] (fun _ => rfl) (show (0) ≤ l.length ∧ ([]).length ≤ 200 ∧ opened l = opn l (201 - ([]).length) (0) ([]) from ⟨Nat.zero_le _, Nat.zero_le _, rfl⟩) rfl ⟨rfl, rfl, rfl, trivial⟩ ⟨rfl, trivial⟩ (fun z hx => ?_)
  obtain ⟨n, L⟩ := z
  show W _ _ _ ⟨tOf [(0, u8V l), (5, .sl 0 0 L.length), (6, SV.i n)], hOf [some (.rows 27 1 L.length (lstF L))], 1⟩
  have hx : n ≤ l.length ∧ L.length ≤ 200 ∧ opened l = opn l (201 - L.length) n L := hx
  obtain ⟨hn, hL, hrun⟩ := hx
  have hml : (l.drop n).length = l.length - n := List.length_drop
  refine W_block ?_
  refine r1 ?_
  refine s1 12 1 1 rfl rfl rfl rfl rfl rfl trivial ?_
  refine s1 13 9 2 rfl rfl rfl rfl rfl rfl (by first | trivial | omega | (simp only [List.length_map, List.length_append, List.length_cons, List.length_nil] at *; omega)) ?_
  refine s1 14 17 3 rfl rfl rfl rfl rfl rfl trivial ?_
  refine sA 15 25 4 rfl rfl rfl rfl rfl rfl rfl rfl rfl (by unfold inRange; omega) ?_
  refine s1 7 33 5 rfl rfl rfl rfl rfl rfl trivial ?_
  refine e1 41 rfl ?_
  refine keep [0, 5, 6, 7] rfl ?_
  refine W_seq ?_
  refine r1 ?_
  refine s1 16 41 1 rfl rfl rfl rfl rfl rfl trivial ?_
  refine s1 17 49 2 rfl rfl rfl rfl rfl rfl (by first | trivial | omega | (simp only [List.length_map, List.length_append, List.length_cons, List.length_nil] at *; omega)) ?_
  refine e1 57 rfl ?_
  refine keep [0, 5, 6, 7, 17] rfl ?_
  refine q1 rfl (fun hc4 => ?_) (fun hc4 => ?_)
  · skip
    try simp only [decide_eq_true_eq, decide_eq_false_iff_not, Bool.not_eq_true', Bool.not_eq_false', beq_iff_eq, bne_iff_ne, beq_eq_false_iff_ne, Bool.and_eq_true, Bool.or_eq_true, Bool.and_eq_false_iff, Bool.or_eq_false_iff, ge_iff_le, gt_iff_lt, Int.not_lt, Int.not_le, ne_eq, Decidable.not_not, bne_eq_false_iff_eq] at hc4
    refine r1 ?_
    refine s1 18 57 1 rfl rfl rfl rfl rfl rfl trivial ?_
    refine s1 19 65 2 rfl rfl rfl rfl rfl rfl trivial ?_
    refine s1 2 73 3 rfl rfl rfl rfl rfl rfl trivial ?_
    refine s1 3 81 4 rfl rfl rfl rfl rfl rfl trivial ?_
    refine s1 4 89 5 rfl rfl rfl rfl rfl rfl trivial ?_
    refine e1 97 rfl ?_
    refine keep [2, 3, 4] rfl ?_
    refine freeze 2 0 L.length rfl rfl (Nat.le_refl _) ?_
    refine W_ret ?_
    refine tr ?_
    refine br ?_
    refine tr ?_
    refine br ?_
    have hq := hp.symm.trans (hrun.trans (opn_end (by omega)))
    exact out3 2 3 4 (lstV q.L) (SV.i q.n) (SV.i q.e) (π := []) (hout := []) Try.results30 rfl rfl rfl (by rw [hq]; rfl) (by rw [hq]; rfl) (by rw [hq]; rfl) rfl rfl trivial ⟨rfl, rfl⟩
  · skip
    try simp only [decide_eq_true_eq, decide_eq_false_iff_not, Bool.not_eq_true', Bool.not_eq_false', beq_iff_eq, bne_iff_ne, beq_eq_false_iff_ne, Bool.and_eq_true, Bool.or_eq_true, Bool.and_eq_false_iff, Bool.or_eq_false_iff, ge_iff_le, gt_iff_lt, Int.not_lt, Int.not_le, ne_eq, Decidable.not_not, bne_eq_false_iff_eq] at hc4
    refine W_skip ?_
    refine tn ?_
    refine W_seq ?_
    refine r1 ?_
    refine s1 20 57 1 rfl rfl rfl rfl rfl rfl trivial ?_
    refine s1 21 65 2 rfl rfl rfl rfl rfl rfl (by first | trivial | omega | (simp only [List.length_map, List.length_append, List.length_cons, List.length_nil] at *; omega)) ?_
    refine s1 22 73 3 rfl rfl rfl rfl rfl rfl (by first | trivial | omega | (simp only [List.length_map, List.length_append, List.length_cons, List.length_nil] at *; omega)) ?_
    refine e1 81 rfl ?_
    refine keep [0, 5, 6, 7, 22] rfl ?_
    refine q1 rfl (fun hc6 => ?_) (fun hc6 => ?_)
    · skip
      try simp only [decide_eq_true_eq, decide_eq_false_iff_not, Bool.not_eq_true', Bool.not_eq_false', beq_iff_eq, bne_iff_ne, beq_eq_false_iff_ne, Bool.and_eq_true, Bool.or_eq_true, Bool.and_eq_false_iff, Bool.or_eq_false_iff, ge_iff_le, gt_iff_lt, Int.not_lt, Int.not_le, ne_eq, Decidable.not_not, bne_eq_false_iff_eq] at hc6
      refine r1 ?_
      refine s1 23 81 1 rfl rfl rfl rfl rfl rfl trivial ?_
      refine s1 24 89 2 rfl rfl rfl rfl rfl rfl trivial ?_
      refine s1 2 97 3 rfl rfl rfl rfl rfl rfl trivial ?_
      refine s1 3 105 4 rfl rfl rfl rfl rfl rfl trivial ?_
      refine s1 4 113 5 rfl rfl rfl rfl rfl rfl trivial ?_
      refine e1 121 rfl ?_
      refine keep [2, 3, 4] rfl ?_
      refine freeze 2 0 L.length rfl rfl (Nat.le_refl _) ?_
      refine W_ret ?_
      refine tr ?_
      refine br ?_
      refine tr ?_
      refine br ?_
      have hq := hp.symm.trans (hrun.trans (opn_full (by omega) (by omega) (by omega)))
      exact out3 2 3 4 (lstV q.L) (SV.i q.n) (SV.i q.e) (π := []) (hout := []) Try.results30 rfl rfl rfl (by rw [hq]; rfl) (by rw [hq]; rfl) (by rw [hq]; rfl) rfl rfl trivial ⟨rfl, rfl⟩
    · skip
      try simp only [decide_eq_true_eq, decide_eq_false_iff_not, Bool.not_eq_true', Bool.not_eq_false', beq_iff_eq, bne_iff_ne, beq_eq_false_iff_ne, Bool.and_eq_true, Bool.or_eq_true, Bool.and_eq_false_iff, Bool.or_eq_false_iff, ge_iff_le, gt_iff_lt, Int.not_lt, Int.not_le, ne_eq, Decidable.not_not, bne_eq_false_iff_eq] at hc6
      refine W_skip ?_
      refine tn ?_
      refine W_seq ?_
      refine r1 ?_
      refine s1 25 81 1 rfl rfl rfl rfl rfl rfl trivial ?_
      refine s1 26 89 2 rfl rfl rfl rfl rfl rfl (by first | trivial | omega | (simp only [List.length_map, List.length_append, List.length_cons, List.length_nil] at *; omega)) ?_
      refine e1 97 rfl ?_
      refine keep [0, 5, 6, 7, 26] rfl ?_
      refine q1 rfl (fun hc8 => ?_) (fun hc8 => ?_)
      · skip
        try simp only [decide_eq_true_eq, decide_eq_false_iff_not, Bool.not_eq_true', Bool.not_eq_false', beq_iff_eq, bne_iff_ne, beq_eq_false_iff_ne, Bool.and_eq_true, Bool.or_eq_true, Bool.and_eq_false_iff, Bool.or_eq_false_iff, ge_iff_le, gt_iff_lt, Int.not_lt, Int.not_le, ne_eq, Decidable.not_not, bne_eq_false_iff_eq] at hc8
        refine r1 ?_
        refine s1 27 97 1 rfl rfl rfl rfl rfl rfl trivial ?_
        refine s1 28 105 2 rfl rfl rfl rfl rfl rfl trivial ?_
        refine s1 2 113 3 rfl rfl rfl rfl rfl rfl trivial ?_
        refine s1 3 121 4 rfl rfl rfl rfl rfl rfl trivial ?_
        refine s1 4 129 5 rfl rfl rfl rfl rfl rfl trivial ?_
        refine e1 137 rfl ?_
        refine keep [2, 3, 4] rfl ?_
        refine freeze 2 0 L.length rfl rfl (Nat.le_refl _) ?_
        refine W_ret ?_
        refine tr ?_
        refine br ?_
        refine tr ?_
        refine br ?_
        have hq := hp.symm.trans (hrun.trans (opn_bad (by omega) (by omega) (by omega) (fst_short (by omega)) (by decide)))
        exact out3 2 3 4 (lstV q.L) (SV.i q.n) (SV.i q.e) (π := []) (hout := []) Try.results30 rfl rfl rfl (by rw [hq]; rfl) (by rw [hq]; rfl) (by rw [hq]; rfl) rfl rfl trivial ⟨rfl, rfl⟩
      · skip
        try simp only [decide_eq_true_eq, decide_eq_false_iff_not, Bool.not_eq_true', Bool.not_eq_false', beq_iff_eq, bne_iff_ne, beq_eq_false_iff_ne, Bool.and_eq_true, Bool.or_eq_true, Bool.and_eq_false_iff, Bool.or_eq_false_iff, ge_iff_le, gt_iff_lt, Int.not_lt, Int.not_le, ne_eq, Decidable.not_not, bne_eq_false_iff_eq] at hc8
        refine W_skip ?_
        refine tn ?_
        have hx0 := hl.b n
        have hx1 := hl.b (n + 1)
        refine rd1 rfl ?_
        refine d1 29 97 1 rfl rfl rfl rfl rfl rfl trivial ?_
        refine d1 30 105 2 rfl rfl rfl rfl rfl rfl trivial ?_
        refine d1 31 113 3 rfl rfl rfl rfl rfl rfl (by first | trivial | omega | (simp only [List.length_map, List.length_append, List.length_cons, List.length_nil] at *; omega)) ?_
        refine d1 32 121 4 rfl rfl rfl rfl rfl rfl (by omega) ?_
        refine val 32 (.d (.val (.int .u8 (l.getD n 0)))) rfl (by simp only [Int.toNat_natCast]) ?_
        refine d1 33 129 5 rfl rfl rfl rfl rfl rfl trivial ?_
        refine val 33 (SV.i (l.getD n 0)) rfl (congrArg (fun x => SV.d (D.val (Value.int .i64 x))) (wrap_in ⟨by omega, by omega⟩)) ?_
        refine dA 34 137 6 rfl rfl rfl rfl rfl rfl rfl rfl rfl (by unfold inRange; omega) ?_
        refine d1 35 145 7 rfl rfl rfl rfl rfl rfl trivial ?_
        refine d1 36 153 8 rfl rfl rfl rfl rfl rfl trivial ?_
        refine dA 37 161 9 rfl rfl rfl rfl rfl rfl rfl rfl rfl (by unfold inRange; omega) ?_
        refine d1 38 169 10 rfl rfl rfl rfl rfl rfl (by omega) ?_
        refine d1 39 177 11 rfl rfl rfl rfl rfl rfl (by omega) ?_
        refine val 39 (.d (.val (.int .u8 (l.getD (n + 1) 0)))) rfl (congrArg (fun x => SV.d (D.val (Value.int .u8 x))) (by rw [show ((n : Int) + 1).toNat = n + 1 by omega])) ?_
        refine d1 40 185 12 rfl rfl rfl rfl rfl rfl trivial ?_
        refine val 40 (SV.i (l.getD (n + 1) 0)) rfl (congrArg (fun x => SV.d (D.val (Value.int .i64 x))) (wrap_in ⟨by omega, by omega⟩)) ?_
        refine dA 41 193 13 rfl rfl rfl rfl rfl rfl rfl rfl rfl (by unfold inRange; omega) ?_
        refine val 41 (SV.i ((fstN (l.drop n)) : Nat)) rfl (congrArg (fun x => SV.d (D.val (Value.int .i64 x))) (fstN_eq hl (by omega)).symm) ?_
        refine d1 8 201 14 rfl rfl rfl rfl rfl rfl trivial ?_
        refine de1 209 rfl (by kernel_rfl) ?_
        refine keep [0, 5, 6, 7, 8] rfl ?_
        refine W_seq ?_
        refine r1 ?_
        refine s1 42 209 1 rfl rfl rfl rfl rfl rfl trivial ?_
        refine s1 43 217 2 rfl rfl rfl rfl rfl rfl (by first | trivial | omega | (simp only [List.length_map, List.length_append, List.length_cons, List.length_nil] at *; omega)) ?_
        refine e1 225 rfl ?_
        refine keep [0, 5, 6, 7, 8, 43] rfl ?_
        refine q1 rfl (fun hc11 => ?_) (fun hc11 => ?_)
        · skip
          try simp only [decide_eq_true_eq, decide_eq_false_iff_not, Bool.not_eq_true', Bool.not_eq_false', beq_iff_eq, bne_iff_ne, beq_eq_false_iff_ne, Bool.and_eq_true, Bool.or_eq_true, Bool.and_eq_false_iff, Bool.or_eq_false_iff, ge_iff_le, gt_iff_lt, Int.not_lt, Int.not_le, ne_eq, Decidable.not_not, bne_eq_false_iff_eq] at hc11
          refine r1 ?_
          refine s1 44 225 1 rfl rfl rfl rfl rfl rfl trivial ?_
          refine s1 45 233 2 rfl rfl rfl rfl rfl rfl trivial ?_
          refine s1 2 241 3 rfl rfl rfl rfl rfl rfl trivial ?_
          refine s1 3 249 4 rfl rfl rfl rfl rfl rfl trivial ?_
          refine s1 4 257 5 rfl rfl rfl rfl rfl rfl trivial ?_
          refine e1 265 rfl ?_
          refine keep [2, 3, 4] rfl ?_
          refine freeze 2 0 L.length rfl rfl (Nat.le_refl _) ?_
          refine W_ret ?_
          refine tr ?_
          refine br ?_
          refine tr ?_
          refine br ?_
          have hq := hp.symm.trans (hrun.trans (opn_bad (by omega) (by omega) (by omega) (fst_size (by omega) (by omega)) (by decide)))
          exact out3 2 3 4 (lstV q.L) (SV.i q.n) (SV.i q.e) (π := []) (hout := []) Try.results30 rfl rfl rfl (by rw [hq]; rfl) (by rw [hq]; rfl) (by rw [hq]; rfl) rfl rfl trivial ⟨rfl, rfl⟩
        · skip
          try simp only [decide_eq_true_eq, decide_eq_false_iff_not, Bool.not_eq_true', Bool.not_eq_false', beq_iff_eq, bne_iff_ne, beq_eq_false_iff_ne, Bool.and_eq_true, Bool.or_eq_true, Bool.and_eq_false_iff, Bool.or_eq_false_iff, ge_iff_le, gt_iff_lt, Int.not_lt, Int.not_le, ne_eq, Decidable.not_not, bne_eq_false_iff_eq] at hc11
          refine W_skip ?_
          refine tn ?_
          refine W_seq ?_
          refine r1 ?_
          refine s1 46 225 1 rfl rfl rfl rfl rfl rfl trivial ?_
          refine s1 47 233 2 rfl rfl rfl rfl rfl rfl trivial ?_
          refine sA 48 241 3 rfl rfl rfl rfl rfl rfl rfl rfl rfl (by unfold inRange; omega) ?_
          refine s1 49 249 4 rfl rfl rfl rfl rfl rfl (by first | trivial | omega | (simp only [List.length_map, List.length_append, List.length_cons, List.length_nil] at *; omega)) ?_
          refine e1 257 rfl ?_
          refine keep [0, 5, 6, 8, 49] rfl ?_
          refine q1 rfl (fun hc13 => ?_) (fun hc13 => ?_)
          · skip
            try simp only [decide_eq_true_eq, decide_eq_false_iff_not, Bool.not_eq_true', Bool.not_eq_false', beq_iff_eq, bne_iff_ne, beq_eq_false_iff_ne, Bool.and_eq_true, Bool.or_eq_true, Bool.and_eq_false_iff, Bool.or_eq_false_iff, ge_iff_le, gt_iff_lt, Int.not_lt, Int.not_le, ne_eq, Decidable.not_not, bne_eq_false_iff_eq] at hc13
            refine r1 ?_
            refine s1 50 257 1 rfl rfl rfl rfl rfl rfl trivial ?_
            refine s1 51 265 2 rfl rfl rfl rfl rfl rfl trivial ?_
            refine s1 2 273 3 rfl rfl rfl rfl rfl rfl trivial ?_
            refine s1 3 281 4 rfl rfl rfl rfl rfl rfl trivial ?_
            refine s1 4 289 5 rfl rfl rfl rfl rfl rfl trivial ?_
            refine e1 297 rfl ?_
            refine keep [2, 3, 4] rfl ?_
            refine freeze 2 0 L.length rfl rfl (Nat.le_refl _) ?_
            refine W_ret ?_
            refine tr ?_
            refine br ?_
            refine tr ?_
            refine br ?_
            have hq := hp.symm.trans (hrun.trans (opn_bad (by omega) (by omega) (by omega) (fst_short2 (by omega) (by omega) (by omega)) (by decide)))
            exact out3 2 3 4 (lstV q.L) (SV.i q.n) (SV.i q.e) (π := []) (hout := []) Try.results30 rfl rfl rfl (by rw [hq]; rfl) (by rw [hq]; rfl) (by rw [hq]; rfl) rfl rfl trivial ⟨rfl, rfl⟩
          · skip
            try simp only [decide_eq_true_eq, decide_eq_false_iff_not, Bool.not_eq_true', Bool.not_eq_false', beq_iff_eq, bne_iff_ne, beq_eq_false_iff_ne, Bool.and_eq_true, Bool.or_eq_true, Bool.and_eq_false_iff, Bool.or_eq_false_iff, ge_iff_le, gt_iff_lt, Int.not_lt, Int.not_le, ne_eq, Decidable.not_not, bne_eq_false_iff_eq] at hc13
            refine W_skip ?_
            refine tn ?_
            have hBl : (fstB (l.drop n)).length = (fstN (l.drop n)) := (by unfold fstB; rw [List.length_take, List.length_drop, List.length_drop]; omega)
            have hbm := bytes_drop hl n
            have hiff := rec_iff hbm (by omega)
            have hrecb := recB_bytes (bytes_take (bytes_drop hbm 6) (fstN (l.drop n))) (by show (fstB (l.drop n)).length ≤ 4000; omega)
            refine r1 ?_
            refine s1 52 257 1 rfl rfl rfl rfl rfl rfl trivial ?_
            refine s1 53 265 2 rfl rfl rfl rfl rfl rfl trivial ?_
            refine s1 54 273 3 rfl rfl rfl rfl rfl rfl trivial ?_
            refine sA 55 281 4 rfl rfl rfl rfl rfl rfl rfl rfl rfl (by unfold inRange; omega) ?_
            refine s1 56 289 5 rfl rfl rfl rfl rfl rfl trivial ?_
            refine sA 57 297 6 rfl rfl rfl rfl rfl rfl rfl rfl rfl (by unfold inRange; omega) ?_
            refine s1 58 305 7 rfl rfl rfl rfl rfl rfl trivial ?_
            refine sA 59 313 8 rfl rfl rfl rfl rfl rfl rfl rfl rfl (by unfold inRange; omega) ?_
            refine s1w (u8V (fstB (l.drop n))) 60 321 9 rfl rfl rfl rfl rfl rfl ⟨by omega, by omega, by omega⟩ (fun M ρ z h => by rw [fstB_piece]; exact piece_w (by omega) (by omega) h) ?_
            refine s1 61 329 10 rfl rfl rfl rfl rfl rfl ⟨trivial, (by show (fstB (l.drop n)).length * 1 ≤ 140737488355328; omega), (by simp only [maxLen]; omega)⟩ ?_
            refine s1 9 337 11 rfl rfl rfl rfl rfl rfl trivial ?_
            refine e1 345 rfl ?_
            refine keep [0, 5, 6, 8, 9] rfl ?_
            refine freeze 9 329 (fstB (l.drop n)).length rfl rfl (Nat.le_refl _) ?_
            refine r1 ?_
            refine s1 63 345 1 rfl rfl rfl rfl rfl rfl trivial ?_
            refine c1 (rrec_any (fstB (l.drop n)) (bytes_take (bytes_drop (bytes_drop hl n) 6) _) (by omega)) [] [] 64 353 2 rfl rfl rfl rfl rfl rfl rfl rfl Try.func28 rfl rfl rfl rfl trivial rfl rfl ?_
            refine s1 62 361 3 rfl rfl rfl rfl rfl rfl trivial ?_
            refine s1 65 369 4 rfl rfl rfl rfl rfl rfl trivial ?_
            refine s1 66 377 5 rfl rfl rfl rfl rfl rfl trivial ?_
            refine s1 10 385 6 rfl rfl rfl rfl rfl rfl trivial ?_
            refine s1 11 393 7 rfl rfl rfl rfl rfl rfl trivial ?_
            refine e1 401 rfl ?_
            refine keep [0, 5, 6, 8, 9, 10] rfl ?_
            refine W_seq ?_
            refine r1 ?_
            refine s1 67 401 1 rfl rfl rfl rfl rfl rfl trivial ?_
            refine s1 68 409 2 rfl rfl rfl rfl rfl rfl trivial ?_
            refine s1 69 417 3 rfl rfl rfl rfl rfl rfl trivial ?_
            refine s1 70 425 4 rfl rfl rfl rfl rfl rfl trivial ?_
            refine sA 71 433 5 rfl rfl rfl rfl rfl rfl rfl rfl rfl (by unfold inRange; omega) ?_
            refine s1 72 441 6 rfl rfl rfl rfl rfl rfl trivial ?_
            refine sA 73 449 7 rfl rfl rfl rfl rfl rfl rfl rfl rfl (by unfold inRange; omega) ?_
            refine s1w (u8V ((l.drop n).take (6 + (fstN (l.drop n))))) 74 457 8 rfl rfl rfl rfl rfl rfl ⟨by omega, by omega, by omega⟩ (fun M ρ z h => piece_w (by omega) (by omega) h) ?_
            refine c1 (rsameB_any (recB (fstB (l.drop n))) ((l.drop n).take (6 + (fstN (l.drop n)))) hrecb (bytes_take (bytes_drop hl n) _)) [] [] 75 465 9 rfl rfl rfl rfl rfl rfl rfl rfl Try.func47 rfl rfl rfl rfl trivial rfl rfl ?_
            refine s1 76 473 10 rfl rfl rfl rfl rfl rfl trivial ?_
            refine e1 481 rfl ?_
            refine keep [0, 5, 6, 8, 9, 76] rfl ?_
            refine q1 rfl (fun hc17 => ?_) (fun hc17 => ?_)
            · skip
              try simp only [decide_eq_true_eq, decide_eq_false_iff_not, Bool.not_eq_true', Bool.not_eq_false', beq_iff_eq, bne_iff_ne, beq_eq_false_iff_ne, Bool.and_eq_true, Bool.or_eq_true, Bool.and_eq_false_iff, Bool.or_eq_false_iff, ge_iff_le, gt_iff_lt, Int.not_lt, Int.not_le, ne_eq, Decidable.not_not, bne_eq_false_iff_eq] at hc17
              refine r1 ?_
              refine s1 77 481 1 rfl rfl rfl rfl rfl rfl trivial ?_
              refine s1 78 489 2 rfl rfl rfl rfl rfl rfl trivial ?_
              refine s1 2 497 3 rfl rfl rfl rfl rfl rfl trivial ?_
              refine s1 3 505 4 rfl rfl rfl rfl rfl rfl trivial ?_
              refine s1 4 513 5 rfl rfl rfl rfl rfl rfl trivial ?_
              refine e1 521 rfl ?_
              refine keep [2, 3, 4] rfl ?_
              refine freeze 2 0 L.length rfl rfl (Nat.le_refl _) ?_
              refine W_ret ?_
              refine tr ?_
              refine br ?_
              refine tr ?_
              refine br ?_
              have hq := hp.symm.trans (hrun.trans (opn_bad (by omega) (by omega) (by omega) (fst_sum (by omega) (by omega) (by omega) (fun e => hc17 (hiff.2 e))) (by decide)))
              exact out3 2 3 4 (lstV q.L) (SV.i q.n) (SV.i q.e) (π := []) (hout := []) Try.results30 rfl rfl rfl (by rw [hq]; rfl) (by rw [hq]; rfl) (by rw [hq]; rfl) rfl rfl trivial ⟨rfl, rfl⟩
            · skip
              try simp only [decide_eq_true_eq, decide_eq_false_iff_not, Bool.not_eq_true', Bool.not_eq_false', beq_iff_eq, bne_iff_ne, beq_eq_false_iff_ne, Bool.and_eq_true, Bool.or_eq_true, Bool.and_eq_false_iff, Bool.or_eq_false_iff, ge_iff_le, gt_iff_lt, Int.not_lt, Int.not_le, ne_eq, Decidable.not_not, bne_eq_false_iff_eq] at hc17
              have hyes := fst_yes (l := (l.drop n)) (by omega) (by omega) (by omega) (hiff.1 hc17)
              refine W_skip ?_
              refine tn ?_
              refine r1 ?_
              refine s1 79 481 1 rfl rfl rfl rfl rfl rfl trivial ?_
              refine s1 80 489 2 rfl rfl rfl rfl rfl rfl trivial ?_
              refine s1 81 497 3 rfl rfl rfl rfl rfl rfl trivial ?_
              refine s1 82 505 4 rfl rfl rfl rfl rfl rfl ⟨Nat.le_refl _, trivial, (by show (L.length + 1) * 24 ≤ 140737488355328; omega), (by simp only [maxLen]; omega)⟩ ?_
              refine s1 5 513 5 rfl rfl rfl rfl rfl rfl trivial ?_
              refine e1 521 rfl ?_
              refine keep [0, 5, 6, 8] rfl ?_
              refine rowsc 505 (L ++ [(fstB (l.drop n))]).length (lstF (L ++ [(fstB (l.drop n))])) rfl (by simp) (fun i c hi hc => lst_cat L _ i c hi hc) ?_
              refine cval 5 (.sl 505 0 (L ++ [(fstB (l.drop n))]).length) rfl (by simp) ?_
              refine r0 ?_
              refine s1 83 521 1 rfl rfl rfl rfl rfl rfl trivial ?_
              refine s1 84 529 2 rfl rfl rfl rfl rfl rfl trivial ?_
              refine sA 85 537 3 rfl rfl rfl rfl rfl rfl rfl rfl rfl (by unfold inRange; omega) ?_
              refine sA 86 545 4 rfl rfl rfl rfl rfl rfl rfl rfl rfl (by unfold inRange; omega) ?_
              refine s1 6 553 5 rfl rfl rfl rfl rfl rfl trivial ?_
              refine e1 561 rfl ?_
              refine bn ?_
              refine tn ?_
              exact again (((n + (6 + (fstN (l.drop n))), L ++ [(fstB (l.drop n))]) : Nat × List (List Int))) [505] (show (n + (6 + (fstN (l.drop n)))) ≤ l.length ∧ (L ++ [(fstB (l.drop n))]).length ≤ 200 ∧ opened l = opn l (201 - (L ++ [(fstB (l.drop n))]).length) (n + (6 + (fstN (l.drop n)))) (L ++ [(fstB (l.drop n))]) from ⟨by omega, by simp; omega, (by rw [hrun, opn_go (by omega) (by omega) (by omega) (by rw [hyes]), hyes, List.length_append, List.length_singleton, show 201 - L.length - 1 = 201 - (L.length + 1) by omega]; show opn l _ (n + (6 + (fstB (l.drop n)).length)) _ = _; rw [hBl])⟩) (show l.length - (n + (6 + (fstN (l.drop n)))) < l.length - n from (by omega)) rfl ⟨rfl, rfl, rfl, trivial⟩ ⟨rfl, trivial⟩

structure LstOk (L : List (List Int)) : Prop where
  n : L.length ≤ 1048576
  b : ∀ k, (L.getD k []).length ≤ 1048576
theorem fst_len (l : List Int) : (fstR l).body.length ≤ 4000 := by
  by_cases h : (fstR l).e = 0
  · have := fst_ok h
    rw [this.2.2.2.2.1, this.2.2.2.2.2]; omega
  · unfold fstR at *
    repeat' split
    all_goals simp_all
theorem opn_ok (l : List Int) : ∀ f n L, L.length ≤ 200 → (∀ k, (L.getD k []).length ≤ 4000) → (opn l f n L).L.length ≤ 200 ∧ ∀ k, ((opn l f n L).L.getD k []).length ≤ 4000
  | 0, n, L, h1, h2 => ⟨h1, h2⟩
  | f + 1, n, L, h1, h2 => by
    unfold opn
    repeat' split
    · exact ⟨h1, h2⟩
    · exact ⟨h1, h2⟩
    · exact ⟨h1, h2⟩
    · refine opn_ok l f _ _ (by simp; omega) (fun k => ?_)
      simp only [List.getD]
      by_cases hk : k < L.length
      · rw [List.getElem?_append_left hk]; exact h2 k
      · rw [List.getElem?_append_right (by omega)]
        by_cases hz : k - L.length = 0
        · rw [hz]; exact fst_len _
        · obtain ⟨j, hj⟩ : ∃ j, k - L.length = j + 1 := ⟨k - L.length - 1, by omega⟩
          rw [hj]; simp
theorem opened_ok (l : List Int) : (opened l).L.length ≤ 200 ∧ ∀ k, ((opened l).L.getD k []).length ≤ 4000 := opn_ok l 201 0 [] (by decide) (fun k => by simp)

theorem same_selfB (x : List Int) (hx : x.length ≤ 1048576) : Spec Try.prog GF 18 [u8V x, u8V x] [] (fun r ho => r = SV.b true ∧ ho = []) := by
  refine start 26 0 Try.func18 rfl rfl rfl rfl ?_
  refine r1 ?_
  refine s1 4 0 1 rfl rfl rfl rfl rfl rfl trivial ?_
  refine e1 8 rfl ?_
  refine keep [0, 1] rfl ?_
  refine W_seq ?_
  refine r1 ?_
  refine s1 6 8 1 rfl rfl rfl rfl rfl rfl trivial ?_
  refine s1 7 16 2 rfl rfl rfl rfl rfl rfl (by first | trivial | omega | (simp only [List.length_map, List.length_append, List.length_cons, List.length_nil] at *; omega)) ?_
  refine s1 8 24 3 rfl rfl rfl rfl rfl rfl trivial ?_
  refine s1 9 32 4 rfl rfl rfl rfl rfl rfl (by first | trivial | omega | (simp only [List.length_map, List.length_append, List.length_cons, List.length_nil] at *; omega)) ?_
  refine s1 10 40 5 rfl rfl rfl rfl rfl rfl (by first | trivial | omega | (simp only [List.length_map, List.length_append, List.length_cons, List.length_nil] at *; omega)) ?_
  refine e1 48 rfl ?_
  refine keep [0, 1, 10] rfl ?_
  refine q1 rfl (fun hc1 => ?_) (fun hc1 => ?_)
  · skip
    exfalso; simp at hc1
  · skip
    try simp only [decide_eq_true_eq, decide_eq_false_iff_not, Bool.not_eq_true', Bool.not_eq_false', beq_iff_eq, bne_iff_ne, beq_eq_false_iff_ne, Bool.and_eq_true, Bool.or_eq_true, Bool.and_eq_false_iff, Bool.or_eq_false_iff, ge_iff_le, gt_iff_lt, Int.not_lt, Int.not_le, ne_eq, Decidable.not_not, bne_eq_false_iff_eq] at hc1
    refine W_skip ?_
    refine tn ?_
    refine W_seq ?_
    refine r1 ?_
    refine s1 5 48 1 rfl rfl rfl rfl rfl rfl trivial ?_
    refine e1 56 rfl ?_
    refine keep [0, 1, 5] rfl ?_
    refine W_block ?_
    refine loop (α := Nat) 0 (fun n => [(0, u8V x), (1, u8V x), (5, SV.i (n))]) (fun n => []) (fun n => (n) ≤ x.length) (fun n => x.length - (n)) (((0) : Nat)) [] (fun _ => rfl) (show (0) ≤ x.length from (Nat.zero_le _)) rfl ⟨rfl, rfl, rfl, trivial⟩ trivial (fun n hx => ?_)
    show W _ _ _ ⟨tOf [(0, u8V x), (1, u8V x), (5, SV.i n)], hOf [], 0⟩
    have hx : n ≤ x.length := hx
    refine W_seq ?_
    refine r1 ?_
    refine s1 11 0 1 rfl rfl rfl rfl rfl rfl trivial ?_
    refine s1 12 8 2 rfl rfl rfl rfl rfl rfl trivial ?_
    refine s1 13 16 3 rfl rfl rfl rfl rfl rfl (by first | trivial | omega | (simp only [List.length_map, List.length_append, List.length_cons, List.length_nil] at *; omega)) ?_
    refine s1 14 24 4 rfl rfl rfl rfl rfl rfl (by first | trivial | omega | (simp only [List.length_map, List.length_append, List.length_cons, List.length_nil] at *; omega)) ?_
    refine e1 32 rfl ?_
    refine keep [0, 1, 5, 14] rfl ?_
    refine q1 rfl (fun hc4 => ?_) (fun hc4 => ?_)
    · skip
      try simp only [decide_eq_true_eq, decide_eq_false_iff_not, Bool.not_eq_true', Bool.not_eq_false', beq_iff_eq, bne_iff_ne, beq_eq_false_iff_ne, Bool.and_eq_true, Bool.or_eq_true, Bool.and_eq_false_iff, Bool.or_eq_false_iff, ge_iff_le, gt_iff_lt, Int.not_lt, Int.not_le, ne_eq, Decidable.not_not, bne_eq_false_iff_eq] at hc4
      refine W_skip ?_
      refine tn ?_
      refine W_seq ?_
      refine W_block ?_
      refine rd1 rfl ?_
      refine d1 17 32 1 rfl rfl rfl rfl rfl rfl trivial ?_
      refine d1 18 40 2 rfl rfl rfl rfl rfl rfl trivial ?_
      refine d1 19 48 3 rfl rfl rfl rfl rfl rfl (by first | trivial | omega | (simp only [List.length_map, List.length_append, List.length_cons, List.length_nil] at *; omega)) ?_
      refine d1 20 56 4 rfl rfl rfl rfl rfl rfl (by first | trivial | omega | (simp only [List.length_map, List.length_append, List.length_cons, List.length_nil] at *; omega)) ?_
      refine d1 21 64 5 rfl rfl rfl rfl rfl rfl trivial ?_
      refine d1 22 72 6 rfl rfl rfl rfl rfl rfl trivial ?_
      refine d1 23 80 7 rfl rfl rfl rfl rfl rfl (by first | trivial | omega | (simp only [List.length_map, List.length_append, List.length_cons, List.length_nil] at *; omega)) ?_
      refine d1 24 88 8 rfl rfl rfl rfl rfl rfl (by first | trivial | omega | (simp only [List.length_map, List.length_append, List.length_cons, List.length_nil] at *; omega)) ?_
      refine d1 25 96 9 rfl rfl rfl rfl rfl rfl (by first | trivial | omega | (simp only [List.length_map, List.length_append, List.length_cons, List.length_nil] at *; omega)) ?_
      refine de1 104 rfl (by kernel_rfl) ?_
      refine keep [0, 1, 5, 25] rfl ?_
      refine q1 rfl (fun hc6 => ?_) (fun hc6 => ?_)
      · skip
        exfalso; simp at hc6
      · skip
        try simp only [decide_eq_true_eq, decide_eq_false_iff_not, Bool.not_eq_true', Bool.not_eq_false', beq_iff_eq, bne_iff_ne, beq_eq_false_iff_ne, Bool.and_eq_true, Bool.or_eq_true, Bool.and_eq_false_iff, Bool.or_eq_false_iff, ge_iff_le, gt_iff_lt, Int.not_lt, Int.not_le, ne_eq, Decidable.not_not, bne_eq_false_iff_eq] at hc6
        refine W_skip ?_
        refine bn ?_
        refine tn ?_
        refine r0 ?_
        refine s1 15 104 1 rfl rfl rfl rfl rfl rfl trivial ?_
        refine sA 16 112 2 rfl rfl rfl rfl rfl rfl rfl rfl rfl (by unfold inRange; omega) ?_
        refine s1 5 120 3 rfl rfl rfl rfl rfl rfl trivial ?_
        refine e1 128 rfl ?_
        refine tn ?_
        exact again ((n + 1 : Nat)) [] (show (n + 1) ≤ x.length from (by omega)) (show x.length - (n + 1) < x.length - n from (by omega)) rfl ⟨rfl, rfl, rfl, trivial⟩ trivial
    · skip
      try simp only [decide_eq_true_eq, decide_eq_false_iff_not, Bool.not_eq_true', Bool.not_eq_false', beq_iff_eq, bne_iff_ne, beq_eq_false_iff_ne, Bool.and_eq_true, Bool.or_eq_true, Bool.and_eq_false_iff, Bool.or_eq_false_iff, ge_iff_le, gt_iff_lt, Int.not_lt, Int.not_le, ne_eq, Decidable.not_not, bne_eq_false_iff_eq] at hc4
      refine W_exit ?_
      refine tx ?_
      refine tx ?_
      refine bx ?_
      refine tn ?_
      refine r1 ?_
      refine s1 4 32 1 rfl rfl rfl rfl rfl rfl trivial ?_
      refine e1 40 rfl ?_
      refine keep [4] rfl ?_
      refine W_ret ?_
      exact out1 4 (SV.b true) (π := []) (hout := []) Try.results18 rfl rfl rfl rfl trivial ⟨rfl, rfl⟩

theorem same_lists (L : List (List Int)) (h1 : L.length ≤ 200) (h2 : ∀ k, (L.getD k []).length ≤ 4000) : Spec Try.prog GF 31 [lstV L, lstV L] [] (fun r ho => r = SV.b true ∧ ho = []) := by
  refine start 27 0 Try.func31 rfl rfl rfl rfl ?_
  refine r1 ?_
  refine s1 4 0 1 rfl rfl rfl rfl rfl rfl trivial ?_
  refine e1 8 rfl ?_
  refine keep [0, 1] rfl ?_
  refine W_seq ?_
  refine r1 ?_
  refine s1 6 8 1 rfl rfl rfl rfl rfl rfl trivial ?_
  refine s1 7 16 2 rfl rfl rfl rfl rfl rfl (by first | trivial | omega | (simp only [List.length_map, List.length_append, List.length_cons, List.length_nil] at *; omega)) ?_
  refine s1 8 24 3 rfl rfl rfl rfl rfl rfl trivial ?_
  refine s1 9 32 4 rfl rfl rfl rfl rfl rfl (by first | trivial | omega | (simp only [List.length_map, List.length_append, List.length_cons, List.length_nil] at *; omega)) ?_
  refine s1 10 40 5 rfl rfl rfl rfl rfl rfl (by first | trivial | omega | (simp only [List.length_map, List.length_append, List.length_cons, List.length_nil] at *; omega)) ?_
  refine e1 48 rfl ?_
  refine keep [0, 1, 10] rfl ?_
  refine q1 rfl (fun hc1 => ?_) (fun hc1 => ?_)
  · skip
    exfalso; simp at hc1
  · skip
    try simp only [decide_eq_true_eq, decide_eq_false_iff_not, Bool.not_eq_true', Bool.not_eq_false', beq_iff_eq, bne_iff_ne, beq_eq_false_iff_ne, Bool.and_eq_true, Bool.or_eq_true, Bool.and_eq_false_iff, Bool.or_eq_false_iff, ge_iff_le, gt_iff_lt, Int.not_lt, Int.not_le, ne_eq, Decidable.not_not, bne_eq_false_iff_eq] at hc1
    refine W_skip ?_
    refine tn ?_
    refine W_seq ?_
    refine r1 ?_
    refine s1 5 48 1 rfl rfl rfl rfl rfl rfl trivial ?_
    refine e1 56 rfl ?_
    refine keep [0, 1, 5] rfl ?_
    refine W_block ?_
    refine loop (α := Nat) 0 (fun n => [(0, lstV L), (1, lstV L), (5, SV.i (n))]) (fun n => []) (fun n => (n) ≤ L.length) (fun n => L.length - (n)) (((0) : Nat)) [] (fun _ => rfl) (show (0) ≤ L.length from (Nat.zero_le _)) rfl ⟨rfl, rfl, rfl, trivial⟩ trivial (fun n hx => ?_)
    show W _ _ _ ⟨tOf [(0, lstV L), (1, lstV L), (5, SV.i n)], hOf [], 0⟩
    have hx : n ≤ L.length := hx
    refine W_seq ?_
    refine r1 ?_
    refine s1 11 0 1 rfl rfl rfl rfl rfl rfl trivial ?_
    refine s1 12 8 2 rfl rfl rfl rfl rfl rfl trivial ?_
    refine s1 13 16 3 rfl rfl rfl rfl rfl rfl (by first | trivial | omega | (simp only [List.length_map, List.length_append, List.length_cons, List.length_nil] at *; omega)) ?_
    refine s1 14 24 4 rfl rfl rfl rfl rfl rfl (by first | trivial | omega | (simp only [List.length_map, List.length_append, List.length_cons, List.length_nil] at *; omega)) ?_
    refine e1 32 rfl ?_
    refine keep [0, 1, 5, 14] rfl ?_
    refine q1 rfl (fun hc4 => ?_) (fun hc4 => ?_)
    · skip
      try simp only [decide_eq_true_eq, decide_eq_false_iff_not, Bool.not_eq_true', Bool.not_eq_false', beq_iff_eq, bne_iff_ne, beq_eq_false_iff_ne, Bool.and_eq_true, Bool.or_eq_true, Bool.and_eq_false_iff, Bool.or_eq_false_iff, ge_iff_le, gt_iff_lt, Int.not_lt, Int.not_le, ne_eq, Decidable.not_not, bne_eq_false_iff_eq] at hc4
      refine W_skip ?_
      refine tn ?_
      refine W_seq ?_
      refine W_block ?_
      refine rd1 rfl ?_
      refine d1 17 32 1 rfl rfl rfl rfl rfl rfl trivial ?_
      refine d1 18 40 2 rfl rfl rfl rfl rfl rfl trivial ?_
      refine d1 19 48 3 rfl rfl rfl rfl rfl rfl (by first | trivial | omega | (simp only [List.length_map, List.length_append, List.length_cons, List.length_nil] at *; omega)) ?_
      refine d1 20 56 4 rfl rfl rfl rfl rfl rfl (by omega) ?_
      refine val 20 (u8V (L.getD n [])) rfl (by simp only [Int.toNat_natCast]; rfl) ?_
      refine d1 21 64 5 rfl rfl rfl rfl rfl rfl trivial ?_
      refine d1 22 72 6 rfl rfl rfl rfl rfl rfl trivial ?_
      refine d1 23 80 7 rfl rfl rfl rfl rfl rfl (by first | trivial | omega | (simp only [List.length_map, List.length_append, List.length_cons, List.length_nil] at *; omega)) ?_
      refine d1 24 88 8 rfl rfl rfl rfl rfl rfl (by omega) ?_
      refine val 24 (u8V (L.getD n [])) rfl (by simp only [Int.toNat_natCast]; rfl) ?_
      refine dc1 (same_selfB (L.getD n []) (by have := h2 n; omega)) [] [] 25 96 9 rfl rfl rfl rfl rfl rfl rfl rfl Try.func18 rfl rfl rfl rfl trivial rfl rfl ?_
      refine d1 26 104 10 rfl rfl rfl rfl rfl rfl trivial ?_
      refine de1 112 rfl (by kernel_rfl) ?_
      refine keep [0, 1, 5, 26] rfl ?_
      refine q1 rfl (fun hc6 => ?_) (fun hc6 => ?_)
      · skip
        exfalso; exact absurd hc6 (by decide)
      · skip
        try simp only [decide_eq_true_eq, decide_eq_false_iff_not, Bool.not_eq_true', Bool.not_eq_false', beq_iff_eq, bne_iff_ne, beq_eq_false_iff_ne, Bool.and_eq_true, Bool.or_eq_true, Bool.and_eq_false_iff, Bool.or_eq_false_iff, ge_iff_le, gt_iff_lt, Int.not_lt, Int.not_le, ne_eq, Decidable.not_not, bne_eq_false_iff_eq] at hc6
        refine W_skip ?_
        refine bn ?_
        refine tn ?_
        refine r0 ?_
        refine s1 15 112 1 rfl rfl rfl rfl rfl rfl trivial ?_
        refine sA 16 120 2 rfl rfl rfl rfl rfl rfl rfl rfl rfl (by unfold inRange; omega) ?_
        refine s1 5 128 3 rfl rfl rfl rfl rfl rfl trivial ?_
        refine e1 136 rfl ?_
        refine tn ?_
        exact again ((n + 1 : Nat)) [] (show (n + 1) ≤ L.length from (by omega)) (show L.length - (n + 1) < L.length - n from (by omega)) rfl ⟨rfl, rfl, rfl, trivial⟩ trivial
    · skip
      try simp only [decide_eq_true_eq, decide_eq_false_iff_not, Bool.not_eq_true', Bool.not_eq_false', beq_iff_eq, bne_iff_ne, beq_eq_false_iff_ne, Bool.and_eq_true, Bool.or_eq_true, Bool.and_eq_false_iff, Bool.or_eq_false_iff, ge_iff_le, gt_iff_lt, Int.not_lt, Int.not_le, ne_eq, Decidable.not_not, bne_eq_false_iff_eq] at hc4
      refine W_exit ?_
      refine tx ?_
      refine tx ?_
      refine bx ?_
      refine tn ?_
      refine r1 ?_
      refine s1 4 32 1 rfl rfl rfl rfl rfl rfl trivial ?_
      refine e1 40 rfl ?_
      refine keep [4] rfl ?_
      refine W_ret ?_
      exact out1 4 (SV.b true) (π := []) (hout := []) Try.results31 rfl rfl rfl rfl trivial ⟨rfl, rfl⟩

theorem lawOpen_any (l : List Int) (hl : Bytes l) : Spec Try.prog GF 11 [u8V l] [] (fun r _ => r = SV.b true) := by
  have hok := opened_ok l
  refine start 34 0 Try.func11 rfl rfl rfl rfl ?_
  refine r1 ?_
  refine s1 2 0 1 rfl rfl rfl rfl rfl rfl trivial ?_
  refine e1 8 rfl ?_
  refine keep [0] rfl ?_
  refine r1 ?_
  refine s1 10 8 1 rfl rfl rfl rfl rfl rfl trivial ?_
  refine c1 (open_file l hl _ rfl) [] [] 11 16 2 rfl rfl rfl rfl rfl rfl rfl rfl Try.func29 rfl rfl rfl rfl trivial rfl rfl ?_
  refine s1 9 24 3 rfl rfl rfl rfl rfl rfl trivial ?_
  refine s1 12 32 4 rfl rfl rfl rfl rfl rfl trivial ?_
  refine s1 13 40 5 rfl rfl rfl rfl rfl rfl trivial ?_
  refine s1 14 48 6 rfl rfl rfl rfl rfl rfl trivial ?_
  refine s1 3 56 7 rfl rfl rfl rfl rfl rfl trivial ?_
  refine s1 4 64 8 rfl rfl rfl rfl rfl rfl trivial ?_
  refine s1 5 72 9 rfl rfl rfl rfl rfl rfl trivial ?_
  refine e1 80 rfl ?_
  refine keep [0, 3, 4, 5] rfl ?_
  refine r1 ?_
  refine s1 16 80 1 rfl rfl rfl rfl rfl rfl trivial ?_
  refine c1 (ropen_file l hl _ rfl) [] [] 17 88 2 rfl rfl rfl rfl rfl rfl rfl rfl Try.func30 rfl rfl rfl rfl trivial rfl rfl ?_
  refine s1 15 96 3 rfl rfl rfl rfl rfl rfl trivial ?_
  refine s1 18 104 4 rfl rfl rfl rfl rfl rfl trivial ?_
  refine s1 19 112 5 rfl rfl rfl rfl rfl rfl trivial ?_
  refine s1 20 120 6 rfl rfl rfl rfl rfl rfl trivial ?_
  refine s1 6 128 7 rfl rfl rfl rfl rfl rfl trivial ?_
  refine s1 7 136 8 rfl rfl rfl rfl rfl rfl trivial ?_
  refine s1 8 144 9 rfl rfl rfl rfl rfl rfl trivial ?_
  refine e1 152 rfl ?_
  refine keep [3, 4, 5, 6, 7, 8] rfl ?_
  refine r1 ?_
  refine s1 21 152 1 rfl rfl rfl rfl rfl rfl trivial ?_
  refine s1 22 160 2 rfl rfl rfl rfl rfl rfl trivial ?_
  refine c1 (same_lists (opened l).L hok.1 hok.2) [] [] 23 168 3 rfl rfl rfl rfl rfl rfl rfl rfl Try.func31 rfl rfl rfl rfl trivial rfl rfl ?_
  refine s1 24 176 4 rfl rfl rfl rfl rfl rfl trivial ?_
  refine g1 3 true 24 25 5 rfl rfl rfl rfl rfl ?_
  refine s1 25 184 5 rfl rfl rfl rfl rfl rfl trivial ?_
  refine g1 3 true 24 26 6 rfl rfl rfl rfl rfl ?_
  refine s1 26 192 6 rfl rfl rfl rfl rfl rfl trivial ?_
  refine g1 3 true 24 27 7 rfl rfl rfl rfl rfl ?_
  refine s1 27 200 7 rfl rfl rfl rfl rfl rfl (by first | trivial | omega | (simp only [List.length_map, List.length_append, List.length_cons, List.length_nil] at *; omega)) ?_
  refine val 27 (SV.b true) rfl (by simp) ?_
  refine s1 28 208 8 rfl rfl rfl rfl rfl rfl trivial ?_
  refine s1 29 216 9 rfl rfl rfl rfl rfl rfl trivial ?_
  refine g1 8 true 29 30 10 rfl rfl rfl rfl rfl ?_
  refine s1 30 224 10 rfl rfl rfl rfl rfl rfl trivial ?_
  refine g1 8 true 29 31 11 rfl rfl rfl rfl rfl ?_
  refine s1 31 232 11 rfl rfl rfl rfl rfl rfl trivial ?_
  refine g1 8 true 29 32 12 rfl rfl rfl rfl rfl ?_
  refine s1 32 240 12 rfl rfl rfl rfl rfl rfl (by first | trivial | omega | (simp only [List.length_map, List.length_append, List.length_cons, List.length_nil] at *; omega)) ?_
  refine val 32 (SV.b true) rfl (by simp) ?_
  refine s1 33 248 13 rfl rfl rfl rfl rfl rfl trivial ?_
  refine s1 2 256 14 rfl rfl rfl rfl rfl rfl trivial ?_
  refine e1 264 rfl ?_
  refine keep [2] rfl ?_
  refine W_ret ?_
  exact out1 2 (SV.b true) (π := []) (hout := []) Try.results11 rfl rfl rfl rfl trivial rfl

end Go.Proofs.Ytempedbpieaggaa.Nice
