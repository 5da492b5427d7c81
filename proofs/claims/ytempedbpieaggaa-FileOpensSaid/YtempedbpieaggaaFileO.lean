/- Files: opened by the program and by the document. -/
import Derived.Test.YtempedbpieaggaaFileW
namespace Go.Proofs.Ytempedbpieaggaa.Nice
open Go
set_option linter.unusedVariables false
set_option linter.unusedSimpArgs false
set_option maxRecDepth 100000
set_option maxHeartbeats 4000000

theorem fstN_eq {l : List Int} (hl : Bytes l) {n : Nat} (h : n + 2 ≤ l.length) : (fstN (l.drop n) : Int) = 256 * l.getD n 0 + l.getD (n + 1) 0 := by
  have hb := bytes_drop hl n
  have := (fstN_bd hb (by rw [List.length_drop]; omega)).1
  rw [← this, getB_take _ 1 (by rw [List.length_drop]; omega), getB_take _ 0 (by rw [List.length_drop]; omega), List.take_zero]
  have e : ∀ j, (l.drop n).getD j 0 = l.getD (n + j) 0 := fun j => by simp [List.getD, List.getElem?_drop]
  rw [e, e, show getB [] = 0 from rfl]
  show (0 * 256 + l.getD n 0) * 256 + l.getD (n + 1) 0 = _
  omega
theorem fstB_piece (l : List Int) (n : Nat) : fstB (l.drop n) = (l.drop (n + 6)).take (fstN (l.drop n)) := by unfold fstB; rw [List.drop_drop]
/-- The record of bytes. -/
def recH (b : List Int) : List Int := [(b.length : Int) / 256 % 256, (b.length : Int) % 256, adO b / 16777216 % 256, adO b / 65536 % 256, adO b / 256 % 256, adO b % 256]
def recB (b : List Int) : List Int := recH b ++ b
theorem recB_len (b : List Int) : (recB b).length = 6 + b.length := by unfold recB recH; simp; omega
theorem rec_cat (b : List Int) (i c : Nat) (hi : i < 6 + b.length) (hc : c < 1) : catR (litR 1 [.val (.int .u8 ((b.length : Int) / 256 % 256)), .val (.int .u8 ((b.length : Int) % 256)), .val (.int .u8 (adO b / 16777216 % 256)), .val (.int .u8 (adO b / 65536 % 256)), .val (.int .u8 (adO b / 256 % 256)), .val (.int .u8 (adO b % 256))]) 6 (u8F b) i c = u8F (recB b) i c := by
  obtain rfl : c = 0 := by omega
  unfold catR
  by_cases h : i < 6
  · rw [if_pos h]
    match i, h with
    | 0, _ | 1, _ | 2, _ | 3, _ | 4, _ | 5, _ => rfl
  · rw [if_neg h]
    unfold u8F recB
    have : (recH b ++ b).getD i 0 = b.getD (i - 6) 0 := by
      simp only [List.getD]
      rw [List.getElem?_append_right (by show 6 ≤ i; omega)]; rfl
    rw [this]
theorem rec_iff {m : List Int} (hb : Bytes m) (h : 6 + fstN m ≤ m.length) : recB (fstB m) = m.take (6 + fstN m) ↔ adO (fstB m) = fstS m := by
  have hN := fstN_bd hb (by omega)
  have hs := adO_bd (fstB m)
  have hl : (fstB m).length = fstN m := by unfold fstB; rw [List.length_take, List.length_drop]; omega
  match m, hb, h, hN, hs, hl with
  | c0 :: c1 :: c2 :: c3 :: c4 :: c5 :: r, hb, h, hN, hs, hl =>
    have b0 := hb.b 0
    have b1 := hb.b 1
    have b2 := hb.b 2
    have b3 := hb.b 3
    have b4 := hb.b 4
    have b5 := hb.b 5
    simp only [List.getD_cons_zero, List.getD_cons_succ] at b0 b1 b2 b3 b4 b5
    generalize hNN : fstN (c0 :: c1 :: c2 :: c3 :: c4 :: c5 :: r) = N at *
    have eN : (0 * 256 + c0) * 256 + c1 = (N : Int) := hN.1
    have eB : fstB (c0 :: c1 :: c2 :: c3 :: c4 :: c5 :: r) = r.take N := by unfold fstB; rw [hNN]; rfl
    have eS : fstS (c0 :: c1 :: c2 :: c3 :: c4 :: c5 :: r) = (((0 * 256 + c2) * 256 + c3) * 256 + c4) * 256 + c5 := rfl
    have eT : (c0 :: c1 :: c2 :: c3 :: c4 :: c5 :: r).take (6 + N) = c0 :: c1 :: c2 :: c3 :: c4 :: c5 :: r.take N := by
      rw [Nat.add_comm]; rfl
    rw [eB] at hs hl ⊢
    rw [eT, eS]
    unfold recB recH
    rw [hl]
    generalize adO (r.take N) = s at *
    simp only [List.cons_append, List.nil_append, List.cons.injEq, and_true]
    omega
  | [], hb, h, _, _, _ => simp at h
  | [_], hb, h, _, _, _ => simp at h; omega
  | [_, _], hb, h, _, _, _ => simp at h; omega
  | [_, _, _], hb, h, _, _, _ => simp at h; omega
  | [_, _, _, _], hb, h, _, _, _ => simp at h; omega
  | [_, _, _, _, _], hb, h, _, _, _ => simp at h; omega
theorem bytes_eq_iff {x y : List Int} (hx : Bytes x) (hy : Bytes y) : (x.map fun v => UInt8.ofNat v.toNat) = (y.map fun v => UInt8.ofNat v.toNat) ↔ x = y := by
  refine ⟨fun h => ?_, fun h => by rw [h]⟩
  have hl : x.length = y.length := by have := congrArg List.length h; simpa using this
  refine List.ext_getElem hl fun i h1 h2 => ?_
  have h3 : (x.map fun v => UInt8.ofNat v.toNat)[i]? = (y.map fun v => UInt8.ofNat v.toNat)[i]? := by rw [h]
  rw [List.getElem?_map, List.getElem?_map, List.getElem?_eq_getElem h1, List.getElem?_eq_getElem h2] at h3
  simp only [Option.map_some, Option.some.injEq] at h3
  have e1 := hx.b i
  have e2 := hy.b i
  rw [show x.getD i 0 = x[i] by simp [List.getD, h1]] at e1
  rw [show y.getD i 0 = y[i] by simp [List.getD, h2]] at e2
  have h4 := congrArg UInt8.toNat h3
  simp only [UInt8.toNat_ofNat'] at h4
  omega

theorem open_file (l : List Int) (hl : Bytes l) (q : OpenR) (hp : opened l = q) : Spec Try.prog GF 29 [u8V l] [] (fun r ho => r = SV.tup [lstV q.L, SV.i q.n, SV.i q.e] ∧ ho = []) := by
  have hln := hl.n
  refine start 41 0 Try.func29 rfl rfl rfl rfl ?_
  refine r1 ?_
  refine s1 2 0 1 rfl rfl rfl rfl rfl rfl trivial ?_
  refine s1 3 8 2 rfl rfl rfl rfl rfl rfl trivial ?_
  refine s1 4 16 3 rfl rfl rfl rfl rfl rfl trivial ?_
  refine e1 24 rfl ?_
  refine keep [0] rfl ?_
  refine r1 ?_
  refine s1 5 24 1 rfl rfl rfl rfl rfl rfl trivial ?_
  refine e1 32 rfl ?_
  refine keep [0, 5] rfl ?_
  refine r1 ?_
  refine s1 6 32 1 rfl rfl rfl rfl rfl rfl trivial ?_
  refine e1 40 rfl ?_
  refine keep [0, 5, 6] rfl ?_
  refine W_seq ?_
  refine W_block ?_
  refine ghostly 5 27 1 (lstF []) rfl ?_
  refine loop (α := Nat × List (List Int)) 1 (fun z => [(0, u8V l), (5, .sl 0 0 (z.2).length), (6, SV.i (z.1))]) (fun z => [some (.rows 27 1 (z.2).length (lstF (z.2)))]) (fun z => (z.1) ≤ l.length ∧ (z.2).length ≤ 200 ∧ opened l = opn l (201 - (z.2).length) (z.1) (z.2)) (fun z => l.length - (z.1)) (((0, []) : Nat × List (List Int))) [40] (fun _ => rfl) (show (0) ≤ l.length ∧ ([]).length ≤ 200 ∧ opened l = opn l (201 - ([]).length) (0) ([]) from ⟨Nat.zero_le _, Nat.zero_le _, rfl⟩) rfl ⟨rfl, rfl, rfl, trivial⟩ ⟨rfl, trivial⟩ (fun z hx => ?_)
  obtain ⟨n, L⟩ := z
  show W _ _ _ ⟨tOf [(0, u8V l), (5, .sl 0 0 L.length), (6, SV.i n)], hOf [some (.rows 27 1 L.length (lstF L))], 1⟩
  have hx : n ≤ l.length ∧ L.length ≤ 200 ∧ opened l = opn l (201 - L.length) n L := hx
  obtain ⟨hn, hL, hrun⟩ := hx
  refine W_seq ?_
  refine r1 ?_
  refine s1 9 1 1 rfl rfl rfl rfl rfl rfl trivial ?_
  refine s1 10 9 2 rfl rfl rfl rfl rfl rfl trivial ?_
  refine s1 11 17 3 rfl rfl rfl rfl rfl rfl (by first | trivial | omega | (simp only [List.length_map, List.length_append, List.length_cons, List.length_nil] at *; omega)) ?_
  refine s1 12 25 4 rfl rfl rfl rfl rfl rfl (by first | trivial | omega | (simp only [List.length_map, List.length_append, List.length_cons, List.length_nil] at *; omega)) ?_
  refine e1 33 rfl ?_
  refine keep [0, 5, 6, 12] rfl ?_
  refine q1 rfl (fun hc3 => ?_) (fun hc3 => ?_)
  · skip
    try simp only [decide_eq_true_eq, decide_eq_false_iff_not, Bool.not_eq_true', Bool.not_eq_false', beq_iff_eq, bne_iff_ne, beq_eq_false_iff_ne, Bool.and_eq_true, Bool.or_eq_true, Bool.and_eq_false_iff, Bool.or_eq_false_iff, ge_iff_le, gt_iff_lt, Int.not_lt, Int.not_le, ne_eq, Decidable.not_not, bne_eq_false_iff_eq] at hc3
    refine W_skip ?_
    refine tn ?_
    refine W_block ?_
    refine W_seq ?_
    refine r1 ?_
    refine s1 13 33 1 rfl rfl rfl rfl rfl rfl trivial ?_
    refine s1 14 41 2 rfl rfl rfl rfl rfl rfl (by first | trivial | omega | (simp only [List.length_map, List.length_append, List.length_cons, List.length_nil] at *; omega)) ?_
    refine s1 15 49 3 rfl rfl rfl rfl rfl rfl (by first | trivial | omega | (simp only [List.length_map, List.length_append, List.length_cons, List.length_nil] at *; omega)) ?_
    refine e1 57 rfl ?_
    refine keep [0, 5, 6, 15] rfl ?_
    refine q1 rfl (fun hc4 => ?_) (fun hc4 => ?_)
    · skip
      try simp only [decide_eq_true_eq, decide_eq_false_iff_not, Bool.not_eq_true', Bool.not_eq_false', beq_iff_eq, bne_iff_ne, beq_eq_false_iff_ne, Bool.and_eq_true, Bool.or_eq_true, Bool.and_eq_false_iff, Bool.or_eq_false_iff, ge_iff_le, gt_iff_lt, Int.not_lt, Int.not_le, ne_eq, Decidable.not_not, bne_eq_false_iff_eq] at hc4
      refine r1 ?_
      refine s1 16 57 1 rfl rfl rfl rfl rfl rfl trivial ?_
      refine s1 17 65 2 rfl rfl rfl rfl rfl rfl trivial ?_
      refine s1 2 73 3 rfl rfl rfl rfl rfl rfl trivial ?_
      refine s1 3 81 4 rfl rfl rfl rfl rfl rfl trivial ?_
      refine s1 4 89 5 rfl rfl rfl rfl rfl rfl trivial ?_
      refine e1 97 rfl ?_
      refine keep [2, 3, 4] rfl ?_
      refine freeze 2 0 L.length rfl rfl (Nat.le_refl _) ?_
      refine W_ret ?_
      refine tr ?_
      refine br ?_
      refine tr ?_
      refine br ?_
      refine tr ?_
      have hq := hp.symm.trans (hrun.trans (opn_full (by omega) (by omega) (by omega)))
      exact out3 2 3 4 (lstV q.L) (SV.i q.n) (SV.i q.e) (π := []) (hout := []) Try.results29 rfl rfl rfl (by rw [hq]; rfl) (by rw [hq]; rfl) (by rw [hq]; rfl) rfl rfl trivial ⟨rfl, rfl⟩
    · skip
      try simp only [decide_eq_true_eq, decide_eq_false_iff_not, Bool.not_eq_true', Bool.not_eq_false', beq_iff_eq, bne_iff_ne, beq_eq_false_iff_ne, Bool.and_eq_true, Bool.or_eq_true, Bool.and_eq_false_iff, Bool.or_eq_false_iff, ge_iff_le, gt_iff_lt, Int.not_lt, Int.not_le, ne_eq, Decidable.not_not, bne_eq_false_iff_eq] at hc4
      refine W_skip ?_
      refine tn ?_
      refine r1 ?_
      refine s1 19 57 1 rfl rfl rfl rfl rfl rfl trivial ?_
      refine s1 20 65 2 rfl rfl rfl rfl rfl rfl trivial ?_
      refine s1w (u8V (l.drop n)) 21 73 3 rfl rfl rfl rfl rfl rfl ⟨by omega, by omega, by omega⟩ (fun M ρ z h => drop_w (by omega) h) ?_
      refine c1 (first_any (l.drop n) (bytes_drop hl n) _ rfl) [] [] 22 81 4 rfl rfl rfl rfl rfl rfl rfl rfl Try.func46 rfl rfl rfl rfl trivial rfl rfl ?_
      refine s1 18 89 5 rfl rfl rfl rfl rfl rfl trivial ?_
      refine s1 23 97 6 rfl rfl rfl rfl rfl rfl trivial ?_
      refine s1 24 105 7 rfl rfl rfl rfl rfl rfl trivial ?_
      refine s1 7 113 8 rfl rfl rfl rfl rfl rfl trivial ?_
      refine s1 8 121 9 rfl rfl rfl rfl rfl rfl trivial ?_
      refine e1 129 rfl ?_
      refine keep [0, 5, 6, 7, 8] rfl ?_
      refine W_seq ?_
      refine r1 ?_
      refine s1 25 129 1 rfl rfl rfl rfl rfl rfl trivial ?_
      refine s1 26 137 2 rfl rfl rfl rfl rfl rfl (by first | trivial | omega | (simp only [List.length_map, List.length_append, List.length_cons, List.length_nil] at *; omega)) ?_
      refine e1 145 rfl ?_
      refine keep [0, 5, 6, 7, 8, 26] rfl ?_
      refine q1 rfl (fun hc7 => ?_) (fun hc7 => ?_)
      · skip
        try simp only [decide_eq_true_eq, decide_eq_false_iff_not, Bool.not_eq_true', Bool.not_eq_false', beq_iff_eq, bne_iff_ne, beq_eq_false_iff_ne, Bool.and_eq_true, Bool.or_eq_true, Bool.and_eq_false_iff, Bool.or_eq_false_iff, ge_iff_le, gt_iff_lt, Int.not_lt, Int.not_le, ne_eq, Decidable.not_not, bne_eq_false_iff_eq] at hc7
        refine r1 ?_
        refine s1 27 145 1 rfl rfl rfl rfl rfl rfl trivial ?_
        refine s1 28 153 2 rfl rfl rfl rfl rfl rfl trivial ?_
        refine s1 29 161 3 rfl rfl rfl rfl rfl rfl trivial ?_
        refine s1 2 169 4 rfl rfl rfl rfl rfl rfl trivial ?_
        refine s1 3 177 5 rfl rfl rfl rfl rfl rfl trivial ?_
        refine s1 4 185 6 rfl rfl rfl rfl rfl rfl trivial ?_
        refine e1 193 rfl ?_
        refine keep [2, 3, 4] rfl ?_
        refine freeze 2 0 L.length rfl rfl (Nat.le_refl _) ?_
        refine W_ret ?_
        refine tr ?_
        refine br ?_
        refine tr ?_
        refine br ?_
        refine tr ?_
        have hq := hp.symm.trans (hrun.trans (opn_bad (by omega) (by omega) (by omega) rfl hc7))
        exact out3 2 3 4 (lstV q.L) (SV.i q.n) (SV.i q.e) (π := []) (hout := []) Try.results29 rfl rfl rfl (by rw [hq]; rfl) (by rw [hq]; rfl) (by rw [hq]; rfl) rfl rfl trivial ⟨rfl, rfl⟩
      · skip
        try simp only [decide_eq_true_eq, decide_eq_false_iff_not, Bool.not_eq_true', Bool.not_eq_false', beq_iff_eq, bne_iff_ne, beq_eq_false_iff_ne, Bool.and_eq_true, Bool.or_eq_true, Bool.and_eq_false_iff, Bool.or_eq_false_iff, ge_iff_le, gt_iff_lt, Int.not_lt, Int.not_le, ne_eq, Decidable.not_not, bne_eq_false_iff_eq] at hc7
        have hbl := fst_ok hc7
        have hbl2 : (fstR (l.drop n)).body.length ≤ 4000 := (by rw [hbl.2.2.2.2.1, hbl.2.2.2.2.2]; omega)
        refine W_skip ?_
        refine tn ?_
        refine r1 ?_
        refine s1 30 145 1 rfl rfl rfl rfl rfl rfl trivial ?_
        refine s1 31 153 2 rfl rfl rfl rfl rfl rfl trivial ?_
        refine s1 32 161 3 rfl rfl rfl rfl rfl rfl trivial ?_
        refine s1 33 169 4 rfl rfl rfl rfl rfl rfl ⟨Nat.le_refl _, trivial, (by show (L.length + 1) * 24 ≤ 140737488355328; omega), (by simp only [maxLen]; omega)⟩ ?_
        refine s1 5 177 5 rfl rfl rfl rfl rfl rfl trivial ?_
        refine e1 185 rfl ?_
        refine keep [0, 5, 6, 7] rfl ?_
        refine rowsc 169 (L ++ [(fstR (l.drop n)).body]).length (lstF (L ++ [(fstR (l.drop n)).body])) rfl (by simp) (fun i c hi hc => lst_cat L _ i c hi hc) ?_
        refine cval 5 (.sl 169 0 (L ++ [(fstR (l.drop n)).body]).length) rfl (by simp) ?_
        refine r0 ?_
        refine s1 34 185 1 rfl rfl rfl rfl rfl rfl trivial ?_
        refine s1 35 193 2 rfl rfl rfl rfl rfl rfl trivial ?_
        refine s1 36 201 3 rfl rfl rfl rfl rfl rfl (by first | trivial | omega | (simp only [List.length_map, List.length_append, List.length_cons, List.length_nil] at *; omega)) ?_
        refine sA 37 209 4 rfl rfl rfl rfl rfl rfl rfl rfl rfl (by unfold inRange; omega) ?_
        refine sA 38 217 5 rfl rfl rfl rfl rfl rfl rfl rfl rfl (by unfold inRange; omega) ?_
        refine s1 6 225 6 rfl rfl rfl rfl rfl rfl trivial ?_
        refine e1 233 rfl ?_
        refine bn ?_
        refine tn ?_
        have hok := fst_ok hc7
        rw [List.length_drop] at hok
        exact again (((n + (6 + (fstR (l.drop n)).body.length), L ++ [(fstR (l.drop n)).body]) : Nat × List (List Int))) [169] (show (n + (6 + (fstR (l.drop n)).body.length)) ≤ l.length ∧ (L ++ [(fstR (l.drop n)).body]).length ≤ 200 ∧ opened l = opn l (201 - (L ++ [(fstR (l.drop n)).body]).length) (n + (6 + (fstR (l.drop n)).body.length)) (L ++ [(fstR (l.drop n)).body]) from ⟨by rw [hok.2.2.2.2.1, hok.2.2.2.2.2]; omega, by simp; omega, (by rw [hrun, opn_go (by omega) (by omega) (by omega) hc7, List.length_append, List.length_singleton, show 201 - L.length - 1 = 201 - (L.length + 1) by omega])⟩) (show l.length - (n + (6 + (fstR (l.drop n)).body.length)) < l.length - n from (by omega)) rfl ⟨rfl, rfl, rfl, trivial⟩ ⟨rfl, trivial⟩
  · skip
    try simp only [decide_eq_true_eq, decide_eq_false_iff_not, Bool.not_eq_true', Bool.not_eq_false', beq_iff_eq, bne_iff_ne, beq_eq_false_iff_ne, Bool.and_eq_true, Bool.or_eq_true, Bool.and_eq_false_iff, Bool.or_eq_false_iff, ge_iff_le, gt_iff_lt, Int.not_lt, Int.not_le, ne_eq, Decidable.not_not, bne_eq_false_iff_eq] at hc3
    refine W_exit ?_
    refine tx ?_
    refine tx ?_
    refine bx ?_
    refine tn ?_
    refine r1 ?_
    refine s1 39 33 1 rfl rfl rfl rfl rfl rfl trivial ?_
    refine s1 40 41 2 rfl rfl rfl rfl rfl rfl trivial ?_
    refine s1 2 49 3 rfl rfl rfl rfl rfl rfl trivial ?_
    refine s1 3 57 4 rfl rfl rfl rfl rfl rfl trivial ?_
    refine s1 4 65 5 rfl rfl rfl rfl rfl rfl trivial ?_
    refine e1 73 rfl ?_
    refine keep [2, 3, 4] rfl ?_
    refine freeze 2 0 L.length rfl rfl (Nat.le_refl _) ?_
    refine W_ret ?_
    have hq := hp.symm.trans (hrun.trans (opn_end (by omega)))
    exact out3 2 3 4 (lstV q.L) (SV.i q.n) (SV.i q.e) (π := []) (hout := []) Try.results29 rfl rfl rfl (by rw [hq]; rfl) (by rw [hq]; rfl) (by rw [hq]; rfl) rfl rfl trivial ⟨rfl, rfl⟩

theorem rmore_any (l : List Int) (hl : Bytes l) : Spec Try.prog GF 22 [SV.i 1, u8V l] [] (fun r ho => r = SV.tup [SV.i (adO l), SV.i 0] ∧ ho = []) := by
  have hl2 := hl.b
  have hln := hl.n
  refine start 50 0 Try.func22 rfl rfl rfl rfl ?_
  refine r1 ?_
  refine s1 4 0 1 rfl rfl rfl rfl rfl rfl trivial ?_
  refine s1 5 8 2 rfl rfl rfl rfl rfl rfl trivial ?_
  refine e1 16 rfl ?_
  refine keep [0, 1] rfl ?_
  refine r1 ?_
  refine s1 10 16 1 rfl rfl rfl rfl rfl rfl trivial ?_
  refine sD 11 24 2 rfl rfl rfl rfl rfl rfl rfl rfl rfl (by omega) ?_
  refine val 11 (SV.i 1) rfl rfl ?_
  refine s1 6 32 3 rfl rfl rfl rfl rfl rfl trivial ?_
  refine e1 40 rfl ?_
  refine keep [0, 1, 6] rfl ?_
  refine r1 ?_
  refine s1 12 40 1 rfl rfl rfl rfl rfl rfl trivial ?_
  refine sD 13 48 2 rfl rfl rfl rfl rfl rfl rfl rfl rfl (by omega) ?_
  refine val 13 (SV.i 0) rfl rfl ?_
  refine s1 7 56 3 rfl rfl rfl rfl rfl rfl trivial ?_
  refine e1 64 rfl ?_
  refine keep [0, 1, 6, 7] rfl ?_
  refine W_seq ?_
  refine r1 ?_
  refine s1 14 64 1 rfl rfl rfl rfl rfl rfl trivial ?_
  refine s1 15 72 2 rfl rfl rfl rfl rfl rfl (by first | trivial | omega | (simp only [List.length_map, List.length_append, List.length_cons, List.length_nil] at *; omega)) ?_
  refine s1 16 80 3 rfl rfl rfl rfl rfl rfl trivial ?_
  refine ask 16 rfl (fun hg3_16 => ?_) (fun hg3_16 => ?_)
  · skip
    try simp only [decide_eq_true_eq, decide_eq_false_iff_not, Bool.not_eq_true', Bool.not_eq_false', beq_iff_eq, bne_iff_ne, beq_eq_false_iff_ne, Bool.and_eq_true, Bool.or_eq_true, Bool.and_eq_false_iff, Bool.or_eq_false_iff, ge_iff_le, gt_iff_lt, Int.not_lt, Int.not_le, ne_eq, Decidable.not_not, bne_eq_false_iff_eq] at hg3_16
    exfalso; simp at hg3_16
  · skip
    try simp only [decide_eq_true_eq, decide_eq_false_iff_not, Bool.not_eq_true', Bool.not_eq_false', beq_iff_eq, bne_iff_ne, beq_eq_false_iff_ne, Bool.and_eq_true, Bool.or_eq_true, Bool.and_eq_false_iff, Bool.or_eq_false_iff, ge_iff_le, gt_iff_lt, Int.not_lt, Int.not_le, ne_eq, Decidable.not_not, bne_eq_false_iff_eq] at hg3_16
    refine g1 2 false 16 17 4 rfl rfl rfl rfl rfl ?_
    refine s1 17 88 4 rfl rfl rfl rfl rfl rfl trivial ?_
    refine g1 2 false 16 18 5 rfl rfl rfl rfl rfl ?_
    refine s1 18 96 5 rfl rfl rfl rfl rfl rfl (by first | trivial | omega | (simp only [List.length_map, List.length_append, List.length_cons, List.length_nil] at *; omega)) ?_
    refine s1 19 104 6 rfl rfl rfl rfl rfl rfl trivial ?_
    refine s1 20 112 7 rfl rfl rfl rfl rfl rfl trivial ?_
    refine ask 20 rfl (fun hg3_20 => ?_) (fun hg3_20 => ?_)
    · skip
      try simp only [decide_eq_true_eq, decide_eq_false_iff_not, Bool.not_eq_true', Bool.not_eq_false', beq_iff_eq, bne_iff_ne, beq_eq_false_iff_ne, Bool.and_eq_true, Bool.or_eq_true, Bool.and_eq_false_iff, Bool.or_eq_false_iff, ge_iff_le, gt_iff_lt, Int.not_lt, Int.not_le, ne_eq, Decidable.not_not, bne_eq_false_iff_eq] at hg3_20
      exfalso; simp at hg3_20
    · skip
      try simp only [decide_eq_true_eq, decide_eq_false_iff_not, Bool.not_eq_true', Bool.not_eq_false', beq_iff_eq, bne_iff_ne, beq_eq_false_iff_ne, Bool.and_eq_true, Bool.or_eq_true, Bool.and_eq_false_iff, Bool.or_eq_false_iff, ge_iff_le, gt_iff_lt, Int.not_lt, Int.not_le, ne_eq, Decidable.not_not, bne_eq_false_iff_eq] at hg3_20
      refine g1 6 false 20 21 8 rfl rfl rfl rfl rfl ?_
      refine s1 21 120 8 rfl rfl rfl rfl rfl rfl trivial ?_
      refine g1 6 false 20 22 9 rfl rfl rfl rfl rfl ?_
      refine s1 22 128 9 rfl rfl rfl rfl rfl rfl (by first | trivial | omega | (simp only [List.length_map, List.length_append, List.length_cons, List.length_nil] at *; omega)) ?_
      refine s1 23 136 10 rfl rfl rfl rfl rfl rfl trivial ?_
      refine e1 144 rfl ?_
      refine keep [1, 6, 7, 23] rfl ?_
      refine q1 rfl (fun hc3 => ?_) (fun hc3 => ?_)
      · skip
        exfalso; simp at hc3
      · skip
        try simp only [decide_eq_true_eq, decide_eq_false_iff_not, Bool.not_eq_true', Bool.not_eq_false', beq_iff_eq, bne_iff_ne, beq_eq_false_iff_ne, Bool.and_eq_true, Bool.or_eq_true, Bool.and_eq_false_iff, Bool.or_eq_false_iff, ge_iff_le, gt_iff_lt, Int.not_lt, Int.not_le, ne_eq, Decidable.not_not, bne_eq_false_iff_eq] at hc3
        refine W_skip ?_
        refine tn ?_
        refine W_seq ?_
        refine r1 ?_
        refine s1 24 144 1 rfl rfl rfl rfl rfl rfl trivial ?_
        refine s1 25 152 2 rfl rfl rfl rfl rfl rfl (by first | trivial | omega | (simp only [List.length_map, List.length_append, List.length_cons, List.length_nil] at *; omega)) ?_
        refine s1 26 160 3 rfl rfl rfl rfl rfl rfl trivial ?_
        refine e1 168 rfl ?_
        refine keep [6, 7, 24, 25, 26] rfl ?_
        refine W_block ?_
        refine loop (α := Nat) 0 (fun n => [(6, SV.i (adl (1, 0) (l.take (n))).1), (7, SV.i (adl (1, 0) (l.take (n))).2), (24, u8V l), (25, SV.i l.length), (26, SV.i (n))]) (fun n => []) (fun n => (n) ≤ l.length) (fun n => l.length - (n)) (((0) : Nat)) [] (fun _ => rfl) (show (0) ≤ l.length from (Nat.zero_le _)) rfl ⟨rfl, rfl, rfl, rfl, rfl, trivial⟩ trivial (fun n hx => ?_)
        show W _ _ _ ⟨tOf [(6, SV.i (adl (1, 0) (l.take n)).1), (7, SV.i (adl (1, 0) (l.take n)).2), (24, u8V l), (25, SV.i l.length), (26, SV.i n)], hOf [], 0⟩
        have hx : n ≤ l.length := hx
        have hb := adl_take_bd (1, 0) l n (by decide) (by decide)
        have hx8 := hl2 n
        have hst := adl_take (1, 0) l n
        refine r1 ?_
        refine s1 27 0 1 rfl rfl rfl rfl rfl rfl (by first | trivial | omega | (simp only [List.length_map, List.length_append, List.length_cons, List.length_nil] at *; omega)) ?_
        refine e1 8 rfl ?_
        refine keep [6, 7, 24, 25, 26, 27] rfl ?_
        refine W_seq ?_
        refine q1 rfl (fun hc6 => ?_) (fun hc6 => ?_)
        · skip
          try simp only [decide_eq_true_eq, decide_eq_false_iff_not, Bool.not_eq_true', Bool.not_eq_false', beq_iff_eq, bne_iff_ne, beq_eq_false_iff_ne, Bool.and_eq_true, Bool.or_eq_true, Bool.and_eq_false_iff, Bool.or_eq_false_iff, ge_iff_le, gt_iff_lt, Int.not_lt, Int.not_le, ne_eq, Decidable.not_not, bne_eq_false_iff_eq] at hc6
          refine W_skip ?_
          refine tn ?_
          refine W_seq ?_
          refine W_block ?_
          refine r1 ?_
          refine s1 28 8 1 rfl rfl rfl rfl rfl rfl (by first | trivial | omega | (simp only [List.length_map, List.length_append, List.length_cons, List.length_nil] at *; omega)) ?_
          refine s1 29 16 2 rfl rfl rfl rfl rfl rfl (by omega) ?_
          refine val 29 (.d (.val (.int .u8 (l.getD n 0)))) rfl (by simp only [Int.toNat_natCast]) ?_
          refine s1 9 24 3 rfl rfl rfl rfl rfl rfl trivial ?_
          refine e1 32 rfl ?_
          refine keep [6, 7, 9, 24, 25, 26] rfl ?_
          refine r1 ?_
          refine s1 30 32 1 rfl rfl rfl rfl rfl rfl trivial ?_
          refine s1 31 40 2 rfl rfl rfl rfl rfl rfl trivial ?_
          refine s1 32 48 3 rfl rfl rfl rfl rfl rfl trivial ?_
          refine val 32 (SV.i (l.getD n 0)) rfl (congrArg (fun x => SV.d (D.val (Value.int .i64 x))) (wrap_in ⟨by omega, by omega⟩)) ?_
          refine sA 33 56 4 rfl rfl rfl rfl rfl rfl rfl rfl rfl (by unfold inRange; omega) ?_
          refine s1 6 64 5 rfl rfl rfl rfl rfl rfl trivial ?_
          refine e1 72 rfl ?_
          refine keep [6, 7, 24, 25, 26] rfl ?_
          refine W_seq ?_
          refine W_block ?_
          refine loop (α := Int) 0 (fun a => [(6, SV.i (a)), (7, SV.i (adl (1, 0) (l.take n)).2), (24, u8V l), (25, SV.i l.length), (26, SV.i n)]) (fun a => []) (fun a => 0 ≤ (a) ∧ (a) < 131072 ∧ (a) % 65521 = (((adl (1, 0) (l.take n)).1 + (l.getD n 0)) % 65521)) (fun a => (a).toNat) ((((adl (1, 0) (l.take n)).1 + (l.getD n 0)) : Int)) [] (fun _ => rfl) (show 0 ≤ ((adl (1, 0) (l.take n)).1 + (l.getD n 0)) ∧ ((adl (1, 0) (l.take n)).1 + (l.getD n 0)) < 131072 ∧ ((adl (1, 0) (l.take n)).1 + (l.getD n 0)) % 65521 = (((adl (1, 0) (l.take n)).1 + (l.getD n 0)) % 65521) from ⟨by omega, by omega, rfl⟩) rfl ⟨rfl, rfl, rfl, rfl, rfl, trivial⟩ trivial (fun a hx => ?_)
          show W _ _ _ ⟨tOf [(6, SV.i a), (7, SV.i (adl (1, 0) (l.take n)).2), (24, u8V l), (25, SV.i l.length), (26, SV.i n)], hOf [], 0⟩
          have hx : 0 ≤ a ∧ a < 131072 ∧ a % 65521 = (((adl (1, 0) (l.take n)).1 + (l.getD n 0)) % 65521) := hx
          obtain ⟨ha0, ha1, ha2⟩ := hx
          refine W_seq ?_
          refine r1 ?_
          refine s1 34 0 1 rfl rfl rfl rfl rfl rfl trivial ?_
          refine s1 35 8 2 rfl rfl rfl rfl rfl rfl (by first | trivial | omega | (simp only [List.length_map, List.length_append, List.length_cons, List.length_nil] at *; omega)) ?_
          refine e1 16 rfl ?_
          refine keep [6, 7, 24, 25, 26, 35] rfl ?_
          refine q1 rfl (fun hc9 => ?_) (fun hc9 => ?_)
          · skip
            try simp only [decide_eq_true_eq, decide_eq_false_iff_not, Bool.not_eq_true', Bool.not_eq_false', beq_iff_eq, bne_iff_ne, beq_eq_false_iff_ne, Bool.and_eq_true, Bool.or_eq_true, Bool.and_eq_false_iff, Bool.or_eq_false_iff, ge_iff_le, gt_iff_lt, Int.not_lt, Int.not_le, ne_eq, Decidable.not_not, bne_eq_false_iff_eq] at hc9
            refine W_skip ?_
            refine tn ?_
            refine W_block ?_
            refine r0 ?_
            refine s1 36 16 1 rfl rfl rfl rfl rfl rfl trivial ?_
            refine sA 37 24 2 rfl rfl rfl rfl rfl rfl rfl rfl rfl (by unfold inRange; omega) ?_
            refine s1 6 32 3 rfl rfl rfl rfl rfl rfl trivial ?_
            refine e1 40 rfl ?_
            refine bn ?_
            refine tn ?_
            exact again ((a - 65521 : Int)) [] (show 0 ≤ (a - 65521) ∧ (a - 65521) < 131072 ∧ (a - 65521) % 65521 = (((adl (1, 0) (l.take n)).1 + (l.getD n 0)) % 65521) from ⟨by omega, by omega, by omega⟩) (show (a - 65521).toNat < a.toNat from (by omega)) rfl ⟨rfl, rfl, rfl, rfl, rfl, trivial⟩ trivial
          · skip
            try simp only [decide_eq_true_eq, decide_eq_false_iff_not, Bool.not_eq_true', Bool.not_eq_false', beq_iff_eq, bne_iff_ne, beq_eq_false_iff_ne, Bool.and_eq_true, Bool.or_eq_true, Bool.and_eq_false_iff, Bool.or_eq_false_iff, ge_iff_le, gt_iff_lt, Int.not_lt, Int.not_le, ne_eq, Decidable.not_not, bne_eq_false_iff_eq] at hc9
            refine W_exit ?_
            refine tx ?_
            refine tx ?_
            refine bx ?_
            refine tn ?_
            obtain rfl : a = (((adl (1, 0) (l.take n)).1 + (l.getD n 0)) % 65521) := (by omega)
            refine r1 ?_
            refine s1 38 16 1 rfl rfl rfl rfl rfl rfl trivial ?_
            refine s1 39 24 2 rfl rfl rfl rfl rfl rfl trivial ?_
            refine sA 40 32 3 rfl rfl rfl rfl rfl rfl rfl rfl rfl (by unfold inRange; omega) ?_
            refine s1 7 40 4 rfl rfl rfl rfl rfl rfl trivial ?_
            refine e1 48 rfl ?_
            refine keep [6, 7, 24, 25, 26] rfl ?_
            refine W_block ?_
            refine loop (α := Int) 0 (fun b => [(6, SV.i (((adl (1, 0) (l.take n)).1 + (l.getD n 0)) % 65521)), (7, SV.i (b)), (24, u8V l), (25, SV.i l.length), (26, SV.i n)]) (fun b => []) (fun b => 0 ≤ (b) ∧ (b) < 131072 ∧ (b) % 65521 = ((adl (1, 0) (l.take n)).2 + (((adl (1, 0) (l.take n)).1 + (l.getD n 0)) % 65521)) % 65521) (fun b => (b).toNat) ((((adl (1, 0) (l.take n)).2 + (((adl (1, 0) (l.take n)).1 + (l.getD n 0)) % 65521)) : Int)) [] (fun _ => rfl) (show 0 ≤ ((adl (1, 0) (l.take n)).2 + (((adl (1, 0) (l.take n)).1 + (l.getD n 0)) % 65521)) ∧ ((adl (1, 0) (l.take n)).2 + (((adl (1, 0) (l.take n)).1 + (l.getD n 0)) % 65521)) < 131072 ∧ ((adl (1, 0) (l.take n)).2 + (((adl (1, 0) (l.take n)).1 + (l.getD n 0)) % 65521)) % 65521 = ((adl (1, 0) (l.take n)).2 + (((adl (1, 0) (l.take n)).1 + (l.getD n 0)) % 65521)) % 65521 from ⟨by omega, by omega, rfl⟩) rfl ⟨rfl, rfl, rfl, rfl, rfl, trivial⟩ trivial (fun b hx => ?_)
            show W _ _ _ ⟨tOf [(6, SV.i (((adl (1, 0) (l.take n)).1 + (l.getD n 0)) % 65521)), (7, SV.i b), (24, u8V l), (25, SV.i l.length), (26, SV.i n)], hOf [], 0⟩
            have hx : 0 ≤ b ∧ b < 131072 ∧ b % 65521 = ((adl (1, 0) (l.take n)).2 + (((adl (1, 0) (l.take n)).1 + (l.getD n 0)) % 65521)) % 65521 := hx
            obtain ⟨hb0, hb1, hb2⟩ := hx
            refine W_seq ?_
            refine r1 ?_
            refine s1 41 0 1 rfl rfl rfl rfl rfl rfl trivial ?_
            refine s1 42 8 2 rfl rfl rfl rfl rfl rfl (by first | trivial | omega | (simp only [List.length_map, List.length_append, List.length_cons, List.length_nil] at *; omega)) ?_
            refine e1 16 rfl ?_
            refine keep [6, 7, 24, 25, 26, 42] rfl ?_
            refine q1 rfl (fun hc12 => ?_) (fun hc12 => ?_)
            · skip
              try simp only [decide_eq_true_eq, decide_eq_false_iff_not, Bool.not_eq_true', Bool.not_eq_false', beq_iff_eq, bne_iff_ne, beq_eq_false_iff_ne, Bool.and_eq_true, Bool.or_eq_true, Bool.and_eq_false_iff, Bool.or_eq_false_iff, ge_iff_le, gt_iff_lt, Int.not_lt, Int.not_le, ne_eq, Decidable.not_not, bne_eq_false_iff_eq] at hc12
              refine W_skip ?_
              refine tn ?_
              refine W_block ?_
              refine r0 ?_
              refine s1 43 16 1 rfl rfl rfl rfl rfl rfl trivial ?_
              refine sA 44 24 2 rfl rfl rfl rfl rfl rfl rfl rfl rfl (by unfold inRange; omega) ?_
              refine s1 7 32 3 rfl rfl rfl rfl rfl rfl trivial ?_
              refine e1 40 rfl ?_
              refine bn ?_
              refine tn ?_
              exact again ((b - 65521 : Int)) [] (show 0 ≤ (b - 65521) ∧ (b - 65521) < 131072 ∧ (b - 65521) % 65521 = ((adl (1, 0) (l.take n)).2 + (((adl (1, 0) (l.take n)).1 + (l.getD n 0)) % 65521)) % 65521 from ⟨by omega, by omega, by omega⟩) (show (b - 65521).toNat < b.toNat from (by omega)) rfl ⟨rfl, rfl, rfl, rfl, rfl, trivial⟩ trivial
            · skip
              try simp only [decide_eq_true_eq, decide_eq_false_iff_not, Bool.not_eq_true', Bool.not_eq_false', beq_iff_eq, bne_iff_ne, beq_eq_false_iff_ne, Bool.and_eq_true, Bool.or_eq_true, Bool.and_eq_false_iff, Bool.or_eq_false_iff, ge_iff_le, gt_iff_lt, Int.not_lt, Int.not_le, ne_eq, Decidable.not_not, bne_eq_false_iff_eq] at hc12
              refine W_exit ?_
              refine tx ?_
              refine tx ?_
              refine bx ?_
              refine bn ?_
              refine tn ?_
              refine cval 7 (SV.i (adl (1, 0) (l.take (n + 1))).2) rfl (by rw [hst (by omega)]; exact congrArg SV.i (by show b = ((adl (1, 0) (l.take n)).2 + ((adl (1, 0) (l.take n)).1 + (l.getD n 0))) % 65521; omega)) ?_
              refine cval 6 (SV.i (adl (1, 0) (l.take (n + 1))).1) rfl (by rw [hst (by omega)]; rfl) ?_
              refine r0 ?_
              refine sA 45 16 1 rfl rfl rfl rfl rfl rfl rfl rfl rfl (by unfold inRange; omega) ?_
              refine s1 26 24 2 rfl rfl rfl rfl rfl rfl trivial ?_
              refine e1 32 rfl ?_
              refine tn ?_
              exact again ((n + 1 : Nat)) [] (show (n + 1) ≤ l.length from (by omega)) (show l.length - (n + 1) < l.length - n from (by omega)) rfl ⟨rfl, rfl, rfl, rfl, rfl, trivial⟩ trivial
        · skip
          try simp only [decide_eq_true_eq, decide_eq_false_iff_not, Bool.not_eq_true', Bool.not_eq_false', beq_iff_eq, bne_iff_ne, beq_eq_false_iff_ne, Bool.and_eq_true, Bool.or_eq_true, Bool.and_eq_false_iff, Bool.or_eq_false_iff, ge_iff_le, gt_iff_lt, Int.not_lt, Int.not_le, ne_eq, Decidable.not_not, bne_eq_false_iff_eq] at hc6
          refine W_exit ?_
          refine tx ?_
          refine tx ?_
          refine bx ?_
          refine tn ?_
          obtain rfl : n = l.length := (by omega)
          have hz := adP_bd l
          refine cval 7 (SV.i (adP l).2) rfl (by rw [List.take_length]; rfl) ?_
          refine cval 6 (SV.i (adP l).1) rfl (by rw [List.take_length]; rfl) ?_
          refine r1 ?_
          refine s1 46 8 1 rfl rfl rfl rfl rfl rfl trivial ?_
          refine sA 47 16 2 rfl rfl rfl rfl rfl rfl rfl rfl rfl (by unfold inRange; omega) ?_
          refine s1 48 24 3 rfl rfl rfl rfl rfl rfl trivial ?_
          refine sA 49 32 4 rfl rfl rfl rfl rfl rfl rfl rfl rfl (by unfold inRange; omega) ?_
          refine s1 4 40 5 rfl rfl rfl rfl rfl rfl trivial ?_
          refine s1 5 48 6 rfl rfl rfl rfl rfl rfl trivial ?_
          refine e1 56 rfl ?_
          refine keep [4, 5] rfl ?_
          refine W_ret ?_
          exact out2 4 5 (SV.i (adO l)) (SV.i 0) (π := []) (hout := []) Try.results22 rfl rfl (congrArg (fun x => SV.d (D.val (Value.int .i64 x))) (by unfold adO; omega)) rfl rfl rfl trivial ⟨rfl, rfl⟩

end Go.Proofs.Ytempedbpieaggaa.Nice
