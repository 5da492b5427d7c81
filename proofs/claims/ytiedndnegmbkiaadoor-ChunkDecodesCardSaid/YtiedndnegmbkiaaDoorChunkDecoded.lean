/- The document decodes samples. -/
import Derived.Test.YtiedndnegmbkiaaDoorChunkCan
namespace Go.Proofs.YtiedndnegmbkiaaDoor.Nice
open Go
set_option linter.unusedVariables false
set_option linter.unusedSimpArgs false
set_option maxRecDepth 100000
set_option maxHeartbeats 4000000

theorem encB_bytes {M : List Smp} (h : sfault M = 0) (hl : M.length ≤ 120) : Bytes (encB M) := by
  have h1 := encL_len M M.length
  have hb := pack_bd (encL M M.length) (encL_bits M M.length)
  refine ⟨by unfold encB; rw [pack_length]; omega, fun k => ?_⟩
  by_cases hk : k < (encB M).length
  · have e : (encB M).getD k 0 = (encB M)[k] := by simp [List.getD, hk]
    rw [e]; exact hb _ (List.getElem_mem hk)
  · rw [List.getD_eq_getElem?_getD, List.getElem?_eq_none (by omega)]; exact ⟨by decide, by decide⟩

theorem decoded_any (l : List Int) (hl : Bytes l) : Spec Tryd.prog GC 14 [u8V l] [] (fun r ho => (decE l = 0 ∧ r = SV.tup [smpV (decM l), SV.i 0] ∧ ho = []) ∨ (decE l ≠ 0 ∧ r = SV.tup [.d .nils, SV.i (decE l)] ∧ ho = [])) := by
  have hlb := hl
  obtain ⟨hl1, hl2⟩ := hl
  refine start 113 0 Tryd.func14 rfl rfl rfl rfl ?_
  refine r1 ?_
  refine s1 2 0 1 rfl rfl rfl rfl rfl rfl trivial ?_
  refine s1 3 8 2 rfl rfl rfl rfl rfl rfl trivial ?_
  refine e1 16 rfl ?_
  refine keep [0] rfl ?_
  refine W_seq ?_
  refine r1 ?_
  refine s1 17 16 1 rfl rfl rfl rfl rfl rfl trivial ?_
  refine s1 18 24 2 rfl rfl rfl rfl rfl rfl (by first | trivial | omega | (simp only [List.length_map, List.length_append, List.length_cons, List.length_nil] at *; omega)) ?_
  refine s1 19 32 3 rfl rfl rfl rfl rfl rfl (by first | trivial | omega | (simp only [List.length_map, List.length_append, List.length_cons, List.length_nil] at *; omega)) ?_
  refine e1 40 rfl ?_
  refine keep [0, 19] rfl ?_
  refine q1 rfl (fun hc1 => ?_) (fun hc1 => ?_)
  · skip
    try simp only [decide_eq_true_eq, decide_eq_false_iff_not, Bool.not_eq_true', Bool.not_eq_false', beq_iff_eq, bne_iff_ne, beq_eq_false_iff_ne, Bool.and_eq_true, Bool.or_eq_true, Bool.and_eq_false_iff, Bool.or_eq_false_iff, ge_iff_le, gt_iff_lt, Int.not_lt, Int.not_le, ne_eq, Decidable.not_not, bne_eq_false_iff_eq] at hc1
    refine r1 ?_
    refine s1 2 40 1 rfl rfl rfl rfl rfl rfl trivial ?_
    refine s1 3 48 2 rfl rfl rfl rfl rfl rfl trivial ?_
    refine e1 56 rfl ?_
    refine keep [2, 3] rfl ?_
    refine W_ret ?_
    refine tr ?_
    have hE : decE l = 5 := (by unfold decE; rw [if_pos (by omega)])
    exact out2 2 3 (.d .nils) (SV.i (decE l)) (π := []) (hout := []) Tryd.results14 rfl rfl rfl (by rw [hE]; rfl) rfl rfl trivial (.inr ⟨by rw [hE]; first | decide | assumption, rfl, rfl⟩)
  · skip
    try simp only [decide_eq_true_eq, decide_eq_false_iff_not, Bool.not_eq_true', Bool.not_eq_false', beq_iff_eq, bne_iff_ne, beq_eq_false_iff_ne, Bool.and_eq_true, Bool.or_eq_true, Bool.and_eq_false_iff, Bool.or_eq_false_iff, ge_iff_le, gt_iff_lt, Int.not_lt, Int.not_le, ne_eq, Decidable.not_not, bne_eq_false_iff_eq] at hc1
    have h0 : l.length ≠ 0 := (by omega)
    have hb0 := hl2 0
    refine W_skip ?_
    refine tn ?_
    refine r1 ?_
    refine s1 20 40 1 rfl rfl rfl rfl rfl rfl trivial ?_
    refine s1 21 48 2 rfl rfl rfl rfl rfl rfl (by constructor <;> omega) ?_
    refine s1 22 56 3 rfl rfl rfl rfl rfl rfl (by omega) ?_
    refine val 22 (.d (.val (.int .u8 (l.getD 0 0)))) rfl rfl ?_
    refine s1 23 64 4 rfl rfl rfl rfl rfl rfl trivial ?_
    refine val 23 (SV.i (l.getD 0 0)) rfl (congrArg (fun x => SV.d (D.val (Value.int .i64 x))) (wrap_in ⟨by omega, by omega⟩)) ?_
    refine s1 4 72 5 rfl rfl rfl rfl rfl rfl trivial ?_
    refine e1 80 rfl ?_
    refine keep [0, 4] rfl ?_
    refine W_seq ?_
    refine r1 ?_
    refine s1 24 80 1 rfl rfl rfl rfl rfl rfl trivial ?_
    refine s1 25 88 2 rfl rfl rfl rfl rfl rfl (by first | trivial | omega | (simp only [List.length_map, List.length_append, List.length_cons, List.length_nil] at *; omega)) ?_
    refine e1 96 rfl ?_
    refine keep [0, 4, 25] rfl ?_
    refine q1 rfl (fun hc4 => ?_) (fun hc4 => ?_)
    · skip
      try simp only [decide_eq_true_eq, decide_eq_false_iff_not, Bool.not_eq_true', Bool.not_eq_false', beq_iff_eq, bne_iff_ne, beq_eq_false_iff_ne, Bool.and_eq_true, Bool.or_eq_true, Bool.and_eq_false_iff, Bool.or_eq_false_iff, ge_iff_le, gt_iff_lt, Int.not_lt, Int.not_le, ne_eq, Decidable.not_not, bne_eq_false_iff_eq] at hc4
      refine r1 ?_
      refine s1 2 96 1 rfl rfl rfl rfl rfl rfl trivial ?_
      refine s1 3 104 2 rfl rfl rfl rfl rfl rfl trivial ?_
      refine e1 112 rfl ?_
      refine keep [2, 3] rfl ?_
      refine W_ret ?_
      refine tr ?_
      have hE : decE l = 4 := (by unfold decE; rw [if_neg h0, if_pos (by rw [byte8 hlb]; omega)])
      exact out2 2 3 (.d .nils) (SV.i (decE l)) (π := []) (hout := []) Tryd.results14 rfl rfl rfl (by rw [hE]; rfl) rfl rfl trivial (.inr ⟨by rw [hE]; first | decide | assumption, rfl, rfl⟩)
    · skip
      try simp only [decide_eq_true_eq, decide_eq_false_iff_not, Bool.not_eq_true', Bool.not_eq_false', beq_iff_eq, bne_iff_ne, beq_eq_false_iff_ne, Bool.and_eq_true, Bool.or_eq_true, Bool.and_eq_false_iff, Bool.or_eq_false_iff, ge_iff_le, gt_iff_lt, Int.not_lt, Int.not_le, ne_eq, Decidable.not_not, bne_eq_false_iff_eq] at hc4
      have hN : numB l 0 8 ≤ 120 := (by rw [byte8 hlb]; omega)
      have hN0 := (numB_bd l 0 8).1
      refine W_skip ?_
      refine tn ?_
      refine cval 4 (SV.i (numB l 0 8)) rfl (by rw [byte8 hlb]) ?_
      refine r1 ?_
      refine s1 5 96 1 rfl rfl rfl rfl rfl rfl trivial ?_
      refine e1 104 rfl ?_
      refine keep [0, 4, 5] rfl ?_
      refine r1 ?_
      refine s1 6 104 1 rfl rfl rfl rfl rfl rfl trivial ?_
      refine e1 112 rfl ?_
      refine keep [0, 4, 5, 6] rfl ?_
      refine W_seq ?_
      refine r1 ?_
      refine s1 7 112 1 rfl rfl rfl rfl rfl rfl trivial ?_
      refine e1 120 rfl ?_
      refine keep [0, 4, 5, 6, 7] rfl ?_
      refine W_block ?_
      refine ghostly 6 49 2 (smpF []) rfl ?_
      refine loop (α := Nat × Nat × List Smp) 1 (fun z => [(0, u8V l), (4, SV.i (numB l 0 8)), (5, SV.i (z.2.1)), (6, .sl 0 0 (z.2.2).length), (7, SV.i (z.1))]) (fun z => [some (.rows 49 2 (z.2.2).length (smpF (z.2.2)))]) (fun z => ((z.1) : Int) ≤ numB l 0 8 ∧ decS l (z.1) = ⟨(z.2.2), (z.2.1), 0⟩ ∧ (z.2.2).length = (z.1) ∧ faultTo (z.2.2) (z.1) = 0 ∧ (z.2.1) ≤ 8 * l.length) (fun z => (numB l 0 8).toNat - (z.1)) (((0, 8, []) : Nat × Nat × List Smp)) [120] (fun _ => rfl) (show ((0) : Int) ≤ numB l 0 8 ∧ decS l (0) = ⟨([]), (8), 0⟩ ∧ ([]).length = (0) ∧ faultTo ([]) (0) = 0 ∧ (8) ≤ 8 * l.length from ⟨hN0, rfl, rfl, rfl, by omega⟩) rfl ⟨rfl, rfl, rfl, rfl, rfl, trivial⟩ ⟨rfl, trivial⟩ (fun z hx => ?_)
      obtain ⟨k, n, M⟩ := z
      show W _ _ _ ⟨tOf [(0, u8V l), (4, SV.i (numB l 0 8)), (5, SV.i n), (6, .sl 0 0 M.length), (7, SV.i k)], hOf [some (.rows 49 2 M.length (smpF M))], 1⟩
      have hx : (k : Int) ≤ numB l 0 8 ∧ decS l k = ⟨M, n, 0⟩ ∧ M.length = k ∧ faultTo M k = 0 ∧ n ≤ 8 * l.length := hx
      obtain ⟨hk, hd, hMl, hf, hn⟩ := hx
      refine W_seq ?_
      refine r1 ?_
      refine s1 26 1 1 rfl rfl rfl rfl rfl rfl trivial ?_
      refine s1 27 9 2 rfl rfl rfl rfl rfl rfl trivial ?_
      refine s1 28 17 3 rfl rfl rfl rfl rfl rfl (by first | trivial | omega | (simp only [List.length_map, List.length_append, List.length_cons, List.length_nil] at *; omega)) ?_
      refine e1 25 rfl ?_
      refine keep [0, 4, 5, 6, 7, 28] rfl ?_
      refine q1 rfl (fun hc9 => ?_) (fun hc9 => ?_)
      · skip
        try simp only [decide_eq_true_eq, decide_eq_false_iff_not, Bool.not_eq_true', Bool.not_eq_false', beq_iff_eq, bne_iff_ne, beq_eq_false_iff_ne, Bool.and_eq_true, Bool.or_eq_true, Bool.and_eq_false_iff, Bool.or_eq_false_iff, ge_iff_le, gt_iff_lt, Int.not_lt, Int.not_le, ne_eq, Decidable.not_not, bne_eq_false_iff_eq] at hc9
        refine W_skip ?_
        refine tn ?_
        refine W_seq ?_
        refine W_block ?_
        refine r1 ?_
        refine s1 32 25 1 rfl rfl rfl rfl rfl rfl trivial ?_
        refine s1 33 33 2 rfl rfl rfl rfl rfl rfl trivial ?_
        refine c1 (zigAt_any l hlb n hn) [] [] 34 41 3 rfl rfl rfl rfl rfl rfl rfl rfl Tryd.func43 rfl rfl rfl rfl trivial rfl rfl ?_
        refine s1 31 49 4 rfl rfl rfl rfl rfl rfl trivial ?_
        refine s1 35 57 5 rfl rfl rfl rfl rfl rfl trivial ?_
        refine s1 36 65 6 rfl rfl rfl rfl rfl rfl trivial ?_
        refine s1 37 73 7 rfl rfl rfl rfl rfl rfl trivial ?_
        refine s1 8 81 8 rfl rfl rfl rfl rfl rfl trivial ?_
        refine s1 9 89 9 rfl rfl rfl rfl rfl rfl trivial ?_
        refine s1 10 97 10 rfl rfl rfl rfl rfl rfl trivial ?_
        refine e1 105 rfl ?_
        refine keep [0, 4, 6, 7, 8, 9, 10] rfl ?_
        refine W_seq ?_
        refine r1 ?_
        refine s1 38 105 1 rfl rfl rfl rfl rfl rfl trivial ?_
        refine s1 39 113 2 rfl rfl rfl rfl rfl rfl (by first | trivial | omega | (simp only [List.length_map, List.length_append, List.length_cons, List.length_nil] at *; omega)) ?_
        refine e1 121 rfl ?_
        refine keep [0, 4, 6, 7, 8, 9, 10, 39] rfl ?_
        refine q1 rfl (fun hc12 => ?_) (fun hc12 => ?_)
        · skip
          try simp only [decide_eq_true_eq, decide_eq_false_iff_not, Bool.not_eq_true', Bool.not_eq_false', beq_iff_eq, bne_iff_ne, beq_eq_false_iff_ne, Bool.and_eq_true, Bool.or_eq_true, Bool.and_eq_false_iff, Bool.or_eq_false_iff, ge_iff_le, gt_iff_lt, Int.not_lt, Int.not_le, ne_eq, Decidable.not_not, bne_eq_false_iff_eq] at hc12
          refine r1 ?_
          refine s1 40 121 1 rfl rfl rfl rfl rfl rfl trivial ?_
          refine s1 2 129 2 rfl rfl rfl rfl rfl rfl trivial ?_
          refine s1 3 137 3 rfl rfl rfl rfl rfl rfl trivial ?_
          refine e1 145 rfl ?_
          refine keep [2, 3] rfl ?_
          refine W_ret ?_
          refine tr ?_
          refine br ?_
          refine tr ?_
          refine tr ?_
          refine br ?_
          refine tr ?_
          have he := dec_e1 hd hc12
          have hE : decE l = (zgt l n).e := (by rw [decE_loop h0 hN (show k + 1 ≤ decN l by unfold decN; omega) (by rw [he]; exact hc12), he])
          exact out2 2 3 (.d .nils) (SV.i (decE l)) (π := []) (hout := []) Tryd.results14 rfl rfl rfl (by rw [hE]; rfl) rfl rfl trivial (.inr ⟨by rw [hE]; first | decide | assumption, rfl, rfl⟩)
        · skip
          try simp only [decide_eq_true_eq, decide_eq_false_iff_not, Bool.not_eq_true', Bool.not_eq_false', beq_iff_eq, bne_iff_ne, beq_eq_false_iff_ne, Bool.and_eq_true, Bool.or_eq_true, Bool.and_eq_false_iff, Bool.or_eq_false_iff, ge_iff_le, gt_iff_lt, Int.not_lt, Int.not_le, ne_eq, Decidable.not_not, bne_eq_false_iff_eq] at hc12
          refine W_skip ?_
          refine tn ?_
          refine cval 9 (SV.i ((zgt l n).at' : Nat)) rfl (by unfold zgA; rw [if_pos hc12]) ?_
          refine r1 ?_
          refine s1 42 121 1 rfl rfl rfl rfl rfl rfl trivial ?_
          refine s1 43 129 2 rfl rfl rfl rfl rfl rfl trivial ?_
          refine c1 (zigAt_any l hlb ((zgt l n).at') (zgt_le l n hn)) [] [] 44 137 3 rfl rfl rfl rfl rfl rfl rfl rfl Tryd.func43 rfl rfl rfl rfl trivial rfl rfl ?_
          refine s1 41 145 4 rfl rfl rfl rfl rfl rfl trivial ?_
          refine s1 45 153 5 rfl rfl rfl rfl rfl rfl trivial ?_
          refine s1 46 161 6 rfl rfl rfl rfl rfl rfl trivial ?_
          refine s1 47 169 7 rfl rfl rfl rfl rfl rfl trivial ?_
          refine s1 11 177 8 rfl rfl rfl rfl rfl rfl trivial ?_
          refine s1 12 185 9 rfl rfl rfl rfl rfl rfl trivial ?_
          refine s1 13 193 10 rfl rfl rfl rfl rfl rfl trivial ?_
          refine e1 201 rfl ?_
          refine keep [0, 4, 6, 7, 8, 11, 12, 13] rfl ?_
          refine W_seq ?_
          refine r1 ?_
          refine s1 48 201 1 rfl rfl rfl rfl rfl rfl trivial ?_
          refine s1 49 209 2 rfl rfl rfl rfl rfl rfl (by first | trivial | omega | (simp only [List.length_map, List.length_append, List.length_cons, List.length_nil] at *; omega)) ?_
          refine e1 217 rfl ?_
          refine keep [0, 4, 6, 7, 8, 11, 12, 13, 49] rfl ?_
          refine q1 rfl (fun hc15 => ?_) (fun hc15 => ?_)
          · skip
            try simp only [decide_eq_true_eq, decide_eq_false_iff_not, Bool.not_eq_true', Bool.not_eq_false', beq_iff_eq, bne_iff_ne, beq_eq_false_iff_ne, Bool.and_eq_true, Bool.or_eq_true, Bool.and_eq_false_iff, Bool.or_eq_false_iff, ge_iff_le, gt_iff_lt, Int.not_lt, Int.not_le, ne_eq, Decidable.not_not, bne_eq_false_iff_eq] at hc15
            refine r1 ?_
            refine s1 50 217 1 rfl rfl rfl rfl rfl rfl trivial ?_
            refine s1 2 225 2 rfl rfl rfl rfl rfl rfl trivial ?_
            refine s1 3 233 3 rfl rfl rfl rfl rfl rfl trivial ?_
            refine e1 241 rfl ?_
            refine keep [2, 3] rfl ?_
            refine W_ret ?_
            refine tr ?_
            refine br ?_
            refine tr ?_
            refine tr ?_
            refine br ?_
            refine tr ?_
            have he := dec_e2 hd hc12 hc15
            have hE : decE l = (zgt l ((zgt l n).at')).e := (by rw [decE_loop h0 hN (show k + 1 ≤ decN l by unfold decN; omega) (by rw [he]; exact hc15), he])
            exact out2 2 3 (.d .nils) (SV.i (decE l)) (π := []) (hout := []) Tryd.results14 rfl rfl rfl (by rw [hE]; rfl) rfl rfl trivial (.inr ⟨by rw [hE]; first | decide | assumption, rfl, rfl⟩)
          · skip
            try simp only [decide_eq_true_eq, decide_eq_false_iff_not, Bool.not_eq_true', Bool.not_eq_false', beq_iff_eq, bne_iff_ne, beq_eq_false_iff_ne, Bool.and_eq_true, Bool.or_eq_true, Bool.and_eq_false_iff, Bool.or_eq_false_iff, ge_iff_le, gt_iff_lt, Int.not_lt, Int.not_le, ne_eq, Decidable.not_not, bne_eq_false_iff_eq] at hc15
            have hx1 := zgt_sm l n
            have hx2 := zgt_sm l ((zgt l n).at')
            unfold isSm at hx1 hx2
            refine W_skip ?_
            refine tn ?_
            refine cval 12 (SV.i ((zgt l ((zgt l n).at')).at' : Nat)) rfl (by unfold zgA; rw [if_pos hc15]) ?_
            have ho1 := smp_bd hf hMl (k - 1)
            have ho2 := smp_bd hf hMl (k - 2)
            unfold inB at ho1 ho2
            refine r1 ?_
            refine s1 51 217 1 rfl rfl rfl rfl rfl rfl trivial ?_
            refine s1 5 225 2 rfl rfl rfl rfl rfl rfl trivial ?_
            refine e1 233 rfl ?_
            refine keep [0, 4, 5, 6, 7, 8, 11] rfl ?_
            refine r1 ?_
            refine s1 52 233 1 rfl rfl rfl rfl rfl rfl trivial ?_
            refine s1 53 241 2 rfl rfl rfl rfl rfl rfl trivial ?_
            refine s1 54 249 3 rfl rfl rfl rfl rfl rfl trivial ?_
            refine s1 14 257 4 rfl rfl rfl rfl rfl rfl trivial ?_
            refine s0 265 5 rfl rfl rfl rfl rfl (by first | trivial | omega | (simp only [List.length_map, List.length_append, List.length_cons, List.length_nil] at *; omega)) ?_
            refine e1 273 rfl ?_
            refine keep [0, 4, 5, 6, 7, 14] rfl ?_
            refine W_seq ?_
            refine r1 ?_
            refine s1 55 273 1 rfl rfl rfl rfl rfl rfl trivial ?_
            refine s1 56 281 2 rfl rfl rfl rfl rfl rfl (by first | trivial | omega | (simp only [List.length_map, List.length_append, List.length_cons, List.length_nil] at *; omega)) ?_
            refine e1 289 rfl ?_
            refine keep [0, 4, 5, 6, 7, 14, 56] rfl ?_
            refine q1 rfl (fun hc19 => ?_) (fun hc19 => ?_)
            · skip
              try simp only [decide_eq_true_eq, decide_eq_false_iff_not, Bool.not_eq_true', Bool.not_eq_false', beq_iff_eq, bne_iff_ne, beq_eq_false_iff_ne, Bool.and_eq_true, Bool.or_eq_true, Bool.and_eq_false_iff, Bool.or_eq_false_iff, ge_iff_le, gt_iff_lt, Int.not_lt, Int.not_le, ne_eq, Decidable.not_not, bne_eq_false_iff_eq] at hc19
              refine rd1 rfl ?_
              refine d1 57 289 1 rfl rfl rfl rfl rfl rfl trivial ?_
              refine d1 58 297 2 rfl rfl rfl rfl rfl rfl (by first | trivial | omega | (simp only [List.length_map, List.length_append, List.length_cons, List.length_nil] at *; omega)) ?_
              refine d1 59 305 3 rfl rfl rfl rfl rfl rfl trivial ?_
              refine d1 60 313 4 rfl rfl rfl rfl rfl rfl trivial ?_
              refine dA 61 321 5 rfl rfl rfl rfl rfl rfl rfl rfl rfl (by unfold inRange; omega) ?_
              refine d1 62 329 6 rfl rfl rfl rfl rfl rfl (by constructor <;> omega) ?_
              refine d1 63 337 7 rfl rfl rfl rfl rfl rfl trivial ?_
              refine d1 64 345 8 rfl rfl rfl rfl rfl rfl (by omega) ?_
              refine val 64 (SV.i (M.getD (k - 1) default).t) rfl (by rw [show ((k : Int) - 1).toNat = k - 1 by omega]; show SV.i (M.getD (0 + (k - 1)) default).t = _; rw [Nat.zero_add]) ?_
              refine dA 65 353 9 rfl rfl rfl rfl rfl rfl rfl rfl rfl (by unfold inRange; omega) ?_
              refine d1 66 361 10 rfl rfl rfl rfl rfl rfl trivial ?_
              refine d0 369 11 rfl rfl rfl rfl rfl (by first | trivial | omega | (simp only [List.length_map, List.length_append, List.length_cons, List.length_nil] at *; omega)) ?_
              refine de1 377 rfl (by kernel_rfl) ?_
              refine keep [0, 4, 5, 6, 7, 14] rfl ?_
              refine rd0 rfl ?_
              refine d1 67 377 1 rfl rfl rfl rfl rfl rfl trivial ?_
              refine d1 68 385 2 rfl rfl rfl rfl rfl rfl (by first | trivial | omega | (simp only [List.length_map, List.length_append, List.length_cons, List.length_nil] at *; omega)) ?_
              refine d1 69 393 3 rfl rfl rfl rfl rfl rfl trivial ?_
              refine d1 70 401 4 rfl rfl rfl rfl rfl rfl trivial ?_
              refine dA 71 409 5 rfl rfl rfl rfl rfl rfl rfl rfl rfl (by unfold inRange; omega) ?_
              refine d1 72 417 6 rfl rfl rfl rfl rfl rfl (by constructor <;> omega) ?_
              refine d1 73 425 7 rfl rfl rfl rfl rfl rfl trivial ?_
              refine d1 74 433 8 rfl rfl rfl rfl rfl rfl (by omega) ?_
              refine val 74 (SV.i (M.getD (k - 1) default).v) rfl (by rw [show ((k : Int) - 1).toNat = k - 1 by omega]; show SV.i (M.getD (0 + (k - 1)) default).v = _; rw [Nat.zero_add]) ?_
              refine dA 75 441 9 rfl rfl rfl rfl rfl rfl rfl rfl rfl (by unfold inRange; omega) ?_
              refine d1 76 449 10 rfl rfl rfl rfl rfl rfl trivial ?_
              refine d0 457 11 rfl rfl rfl rfl rfl (by first | trivial | omega | (simp only [List.length_map, List.length_append, List.length_cons, List.length_nil] at *; omega)) ?_
              refine de1 465 rfl (by kernel_rfl) ?_
              refine tn ?_
              refine W_seq ?_
              refine r1 ?_
              refine s1 77 465 1 rfl rfl rfl rfl rfl rfl trivial ?_
              refine s1 78 473 2 rfl rfl rfl rfl rfl rfl (by first | trivial | omega | (simp only [List.length_map, List.length_append, List.length_cons, List.length_nil] at *; omega)) ?_
              refine e1 481 rfl ?_
              refine keep [0, 4, 5, 6, 7, 14, 78] rfl ?_
              refine q1 rfl (fun hc22 => ?_) (fun hc22 => ?_)
              · skip
                try simp only [decide_eq_true_eq, decide_eq_false_iff_not, Bool.not_eq_true', Bool.not_eq_false', beq_iff_eq, bne_iff_ne, beq_eq_false_iff_ne, Bool.and_eq_true, Bool.or_eq_true, Bool.and_eq_false_iff, Bool.or_eq_false_iff, ge_iff_le, gt_iff_lt, Int.not_lt, Int.not_le, ne_eq, Decidable.not_not, bne_eq_false_iff_eq] at hc22
                refine rd0 rfl ?_
                refine d1 79 481 1 rfl rfl rfl rfl rfl rfl trivial ?_
                refine d1 80 489 2 rfl rfl rfl rfl rfl rfl (by first | trivial | omega | (simp only [List.length_map, List.length_append, List.length_cons, List.length_nil] at *; omega)) ?_
                refine d1 81 497 3 rfl rfl rfl rfl rfl rfl trivial ?_
                refine d1 82 505 4 rfl rfl rfl rfl rfl rfl trivial ?_
                refine dA 83 513 5 rfl rfl rfl rfl rfl rfl rfl rfl rfl (by unfold inRange; omega) ?_
                refine d1 84 521 6 rfl rfl rfl rfl rfl rfl (by first | trivial | omega | (simp only [List.length_map, List.length_append, List.length_cons, List.length_nil] at *; omega)) ?_
                refine d1 85 529 7 rfl rfl rfl rfl rfl rfl trivial ?_
                refine d1 86 537 8 rfl rfl rfl rfl rfl rfl (by omega) ?_
                refine val 86 (SV.i (M.getD (k - 1) default).t) rfl (by rw [show ((k : Int) - 1).toNat = k - 1 by omega]; show SV.i (M.getD (0 + (k - 1)) default).t = _; rw [Nat.zero_add]) ?_
                refine d1 87 545 9 rfl rfl rfl rfl rfl rfl trivial ?_
                refine d1 88 553 10 rfl rfl rfl rfl rfl rfl trivial ?_
                refine dA 89 561 11 rfl rfl rfl rfl rfl rfl rfl rfl rfl (by unfold inRange; omega) ?_
                refine d1 90 569 12 rfl rfl rfl rfl rfl rfl (by first | trivial | omega | (simp only [List.length_map, List.length_append, List.length_cons, List.length_nil] at *; omega)) ?_
                refine d1 91 577 13 rfl rfl rfl rfl rfl rfl trivial ?_
                refine d1 92 585 14 rfl rfl rfl rfl rfl rfl (by omega) ?_
                refine val 92 (SV.i (M.getD (k - 2) default).t) rfl (by rw [show ((k : Int) - 2).toNat = k - 2 by omega]; show SV.i (M.getD (0 + (k - 2)) default).t = _; rw [Nat.zero_add]) ?_
                refine dA 93 593 15 rfl rfl rfl rfl rfl rfl rfl rfl rfl (by unfold inRange; omega) ?_
                refine dA 94 601 16 rfl rfl rfl rfl rfl rfl rfl rfl rfl (by unfold inRange; omega) ?_
                refine d1 95 609 17 rfl rfl rfl rfl rfl rfl trivial ?_
                refine d0 617 18 rfl rfl rfl rfl rfl (by first | trivial | omega | (simp only [List.length_map, List.length_append, List.length_cons, List.length_nil] at *; omega)) ?_
                refine de1 625 rfl (by kernel_rfl) ?_
                refine tn ?_
                have hsm : (sampleOf (lstN M k) (zgt l n).x (zgt l ((zgt l n).at')).x) = ⟨(zgt l n).x + (M.getD (k - 1) default).t + ((M.getD (k - 1) default).t - (M.getD (k - 2) default).t), (zgt l ((zgt l n).at')).x + (M.getD (k - 1) default).v⟩ := (by exact sampleOf_2 M _ _ (by omega))
                refine chval 257 (Blk.cells 49 2 [SV.i (sampleOf (lstN M k) (zgt l n).x (zgt l ((zgt l n).at')).x).t, SV.i (sampleOf (lstN M k) (zgt l n).x (zgt l ((zgt l n).at')).x).v]) rfl (show Blk.cells 49 2 [SV.i ((zgt l n).x + (M.getD (k - 1) default).t + ((M.getD (k - 1) default).t - (M.getD (k - 2) default).t)), SV.i ((zgt l ((zgt l n).at')).x + (M.getD (k - 1) default).v)] = Blk.cells 49 2 [SV.i (sampleOf (lstN M k) (zgt l n).x (zgt l ((zgt l n).at')).x).t, SV.i (sampleOf (lstN M k) (zgt l n).x (zgt l ((zgt l n).at')).x).v] from by rw [hsm]) ?_
                refine r1 ?_
                refine s1 96 625 1 rfl rfl rfl rfl rfl rfl trivial ?_
                refine s1 97 633 2 rfl rfl rfl rfl rfl rfl (by first | trivial | omega | (simp only [List.length_map, List.length_append, List.length_cons, List.length_nil] at *; omega)) ?_
                refine s1 98 641 3 rfl rfl rfl rfl rfl rfl trivial ?_
                refine s1 99 649 4 rfl rfl rfl rfl rfl rfl ⟨Nat.le_refl _, trivial, (by show (M.length + 1) * 16 ≤ 140737488355328; omega), (by simp only [maxLen]; omega)⟩ ?_
                refine s1 6 657 5 rfl rfl rfl rfl rfl rfl trivial ?_
                refine e1 665 rfl ?_
                refine keep [0, 4, 5, 6, 7] rfl ?_
                refine rowsc 649 (M ++ [(sampleOf (lstN M k) (zgt l n).x (zgt l ((zgt l n).at')).x)]).length (smpF (M ++ [(sampleOf (lstN M k) (zgt l n).x (zgt l ((zgt l n).at')).x)])) rfl (by simp) (fun q c hq hc => cat_smp' (s := (sampleOf (lstN M k) (zgt l n).x (zgt l ((zgt l n).at')).x)) q c hq hc) ?_
                refine cval 6 (.sl 649 0 (M ++ [(sampleOf (lstN M k) (zgt l n).x (zgt l ((zgt l n).at')).x)]).length) rfl (by simp) ?_
                have hsf : sfault (M ++ [(sampleOf (lstN M k) (zgt l n).x (zgt l ((zgt l n).at')).x)]) = lfault (lstN M k) (sampleOf (lstN M k) (zgt l n).x (zgt l ((zgt l n).at')).x) := (by rw [sfault_snoc (by rw [hMl]; exact hf) (by omega), hMl])
                refine r1 ?_
                refine s1 100 665 1 rfl rfl rfl rfl rfl rfl trivial ?_
                refine c1 (sfault_own (M ++ [(sampleOf (lstN M k) (zgt l n).x (zgt l ((zgt l n).at')).x)]) (by simp; omega)) [649] [649] 101 673 2 rfl rfl rfl rfl rfl rfl rfl rfl Tryd.func32 rfl rfl rfl rfl ⟨rfl, trivial⟩ rfl rfl ?_
                refine s1 102 681 3 rfl rfl rfl rfl rfl rfl (by first | trivial | omega | (simp only [List.length_map, List.length_append, List.length_cons, List.length_nil] at *; omega)) ?_
                refine e1 689 rfl ?_
                refine keep [0, 4, 5, 6, 7, 102] rfl ?_
                refine q1 rfl (fun hc25 => ?_) (fun hc25 => ?_)
                · skip
                  try simp only [decide_eq_true_eq, decide_eq_false_iff_not, Bool.not_eq_true', Bool.not_eq_false', beq_iff_eq, bne_iff_ne, beq_eq_false_iff_ne, Bool.and_eq_true, Bool.or_eq_true, Bool.and_eq_false_iff, Bool.or_eq_false_iff, ge_iff_le, gt_iff_lt, Int.not_lt, Int.not_le, ne_eq, Decidable.not_not, bne_eq_false_iff_eq] at hc25
                  refine r1 ?_
                  refine s1 2 689 1 rfl rfl rfl rfl rfl rfl trivial ?_
                  refine s1 3 697 2 rfl rfl rfl rfl rfl rfl trivial ?_
                  refine e1 705 rfl ?_
                  refine keep [2, 3] rfl ?_
                  refine W_ret ?_
                  refine br ?_
                  refine tr ?_
                  refine tr ?_
                  refine br ?_
                  refine tr ?_
                  rw [hsf] at hc25
                  have he := dec_e3 hd hc12 hc15 hc25
                  have hE : decE l = 4 := (by rw [decE_loop h0 hN (show k + 1 ≤ decN l by unfold decN; omega) (by rw [he]; decide), he])
                  exact out2 2 3 (.d .nils) (SV.i (decE l)) (π := []) (hout := []) Tryd.results14 rfl rfl rfl (by rw [hE]; rfl) rfl rfl trivial (.inr ⟨by rw [hE]; first | decide | assumption, rfl, rfl⟩)
                · skip
                  try simp only [decide_eq_true_eq, decide_eq_false_iff_not, Bool.not_eq_true', Bool.not_eq_false', beq_iff_eq, bne_iff_ne, beq_eq_false_iff_ne, Bool.and_eq_true, Bool.or_eq_true, Bool.and_eq_false_iff, Bool.or_eq_false_iff, ge_iff_le, gt_iff_lt, Int.not_lt, Int.not_le, ne_eq, Decidable.not_not, bne_eq_false_iff_eq] at hc25
                  rw [hsf] at hc25
                  have hds := dec_e4 hd hc12 hc15 hc25
                  refine W_skip ?_
                  refine bn ?_
                  refine tn ?_
                  refine r0 ?_
                  refine s1 29 689 1 rfl rfl rfl rfl rfl rfl trivial ?_
                  refine sA 30 697 2 rfl rfl rfl rfl rfl rfl rfl rfl rfl (by unfold inRange; omega) ?_
                  refine s1 7 705 3 rfl rfl rfl rfl rfl rfl trivial ?_
                  refine e1 713 rfl ?_
                  refine tn ?_
                  exact again (((k + 1, (zgt l ((zgt l n).at')).at', M ++ [(sampleOf (lstN M k) (zgt l n).x (zgt l ((zgt l n).at')).x)]) : Nat × Nat × List Smp)) [649] (show ((k + 1) : Int) ≤ numB l 0 8 ∧ decS l (k + 1) = ⟨(M ++ [(sampleOf (lstN M k) (zgt l n).x (zgt l ((zgt l n).at')).x)]), ((zgt l ((zgt l n).at')).at'), 0⟩ ∧ (M ++ [(sampleOf (lstN M k) (zgt l n).x (zgt l ((zgt l n).at')).x)]).length = (k + 1) ∧ faultTo (M ++ [(sampleOf (lstN M k) (zgt l n).x (zgt l ((zgt l n).at')).x)]) (k + 1) = 0 ∧ ((zgt l ((zgt l n).at')).at') ≤ 8 * l.length from ⟨by omega, hds, by simp [hMl], (by rw [← hMl, faultTo_snoc M _ (by rw [hMl]; exact hf), hMl]; exact hc25), zgt_le l _ (zgt_le l n hn)⟩) (show (numB l 0 8).toNat - (k + 1) < (numB l 0 8).toNat - k from (by omega)) rfl ⟨rfl, rfl, rfl, rfl, rfl, trivial⟩ ⟨rfl, trivial⟩
              · skip
                try simp only [decide_eq_true_eq, decide_eq_false_iff_not, Bool.not_eq_true', Bool.not_eq_false', beq_iff_eq, bne_iff_ne, beq_eq_false_iff_ne, Bool.and_eq_true, Bool.or_eq_true, Bool.and_eq_false_iff, Bool.or_eq_false_iff, ge_iff_le, gt_iff_lt, Int.not_lt, Int.not_le, ne_eq, Decidable.not_not, bne_eq_false_iff_eq] at hc22
                refine W_skip ?_
                refine tn ?_
                have hsm : (sampleOf (lstN M k) (zgt l n).x (zgt l ((zgt l n).at')).x) = ⟨(zgt l n).x + (M.getD (k - 1) default).t, (zgt l ((zgt l n).at')).x + (M.getD (k - 1) default).v⟩ := (by obtain rfl : k = 1 := (by omega); exact sampleOf_1 M _ _)
                refine chval 257 (Blk.cells 49 2 [SV.i (sampleOf (lstN M k) (zgt l n).x (zgt l ((zgt l n).at')).x).t, SV.i (sampleOf (lstN M k) (zgt l n).x (zgt l ((zgt l n).at')).x).v]) rfl (show Blk.cells 49 2 [SV.i ((zgt l n).x + (M.getD (k - 1) default).t), SV.i ((zgt l ((zgt l n).at')).x + (M.getD (k - 1) default).v)] = Blk.cells 49 2 [SV.i (sampleOf (lstN M k) (zgt l n).x (zgt l ((zgt l n).at')).x).t, SV.i (sampleOf (lstN M k) (zgt l n).x (zgt l ((zgt l n).at')).x).v] from by rw [hsm]) ?_
                refine r1 ?_
                refine s1 96 481 1 rfl rfl rfl rfl rfl rfl trivial ?_
                refine s1 97 489 2 rfl rfl rfl rfl rfl rfl (by first | trivial | omega | (simp only [List.length_map, List.length_append, List.length_cons, List.length_nil] at *; omega)) ?_
                refine s1 98 497 3 rfl rfl rfl rfl rfl rfl trivial ?_
                refine s1 99 505 4 rfl rfl rfl rfl rfl rfl ⟨Nat.le_refl _, trivial, (by show (M.length + 1) * 16 ≤ 140737488355328; omega), (by simp only [maxLen]; omega)⟩ ?_
                refine s1 6 513 5 rfl rfl rfl rfl rfl rfl trivial ?_
                refine e1 521 rfl ?_
                refine keep [0, 4, 5, 6, 7] rfl ?_
                refine rowsc 505 (M ++ [(sampleOf (lstN M k) (zgt l n).x (zgt l ((zgt l n).at')).x)]).length (smpF (M ++ [(sampleOf (lstN M k) (zgt l n).x (zgt l ((zgt l n).at')).x)])) rfl (by simp) (fun q c hq hc => cat_smp' (s := (sampleOf (lstN M k) (zgt l n).x (zgt l ((zgt l n).at')).x)) q c hq hc) ?_
                refine cval 6 (.sl 505 0 (M ++ [(sampleOf (lstN M k) (zgt l n).x (zgt l ((zgt l n).at')).x)]).length) rfl (by simp) ?_
                have hsf : sfault (M ++ [(sampleOf (lstN M k) (zgt l n).x (zgt l ((zgt l n).at')).x)]) = lfault (lstN M k) (sampleOf (lstN M k) (zgt l n).x (zgt l ((zgt l n).at')).x) := (by rw [sfault_snoc (by rw [hMl]; exact hf) (by omega), hMl])
                refine r1 ?_
                refine s1 100 521 1 rfl rfl rfl rfl rfl rfl trivial ?_
                refine c1 (sfault_own (M ++ [(sampleOf (lstN M k) (zgt l n).x (zgt l ((zgt l n).at')).x)]) (by simp; omega)) [505] [505] 101 529 2 rfl rfl rfl rfl rfl rfl rfl rfl Tryd.func32 rfl rfl rfl rfl ⟨rfl, trivial⟩ rfl rfl ?_
                refine s1 102 537 3 rfl rfl rfl rfl rfl rfl (by first | trivial | omega | (simp only [List.length_map, List.length_append, List.length_cons, List.length_nil] at *; omega)) ?_
                refine e1 545 rfl ?_
                refine keep [0, 4, 5, 6, 7, 102] rfl ?_
                refine q1 rfl (fun hc25 => ?_) (fun hc25 => ?_)
                · skip
                  try simp only [decide_eq_true_eq, decide_eq_false_iff_not, Bool.not_eq_true', Bool.not_eq_false', beq_iff_eq, bne_iff_ne, beq_eq_false_iff_ne, Bool.and_eq_true, Bool.or_eq_true, Bool.and_eq_false_iff, Bool.or_eq_false_iff, ge_iff_le, gt_iff_lt, Int.not_lt, Int.not_le, ne_eq, Decidable.not_not, bne_eq_false_iff_eq] at hc25
                  refine r1 ?_
                  refine s1 2 545 1 rfl rfl rfl rfl rfl rfl trivial ?_
                  refine s1 3 553 2 rfl rfl rfl rfl rfl rfl trivial ?_
                  refine e1 561 rfl ?_
                  refine keep [2, 3] rfl ?_
                  refine W_ret ?_
                  refine br ?_
                  refine tr ?_
                  refine tr ?_
                  refine br ?_
                  refine tr ?_
                  rw [hsf] at hc25
                  have he := dec_e3 hd hc12 hc15 hc25
                  have hE : decE l = 4 := (by rw [decE_loop h0 hN (show k + 1 ≤ decN l by unfold decN; omega) (by rw [he]; decide), he])
                  exact out2 2 3 (.d .nils) (SV.i (decE l)) (π := []) (hout := []) Tryd.results14 rfl rfl rfl (by rw [hE]; rfl) rfl rfl trivial (.inr ⟨by rw [hE]; first | decide | assumption, rfl, rfl⟩)
                · skip
                  try simp only [decide_eq_true_eq, decide_eq_false_iff_not, Bool.not_eq_true', Bool.not_eq_false', beq_iff_eq, bne_iff_ne, beq_eq_false_iff_ne, Bool.and_eq_true, Bool.or_eq_true, Bool.and_eq_false_iff, Bool.or_eq_false_iff, ge_iff_le, gt_iff_lt, Int.not_lt, Int.not_le, ne_eq, Decidable.not_not, bne_eq_false_iff_eq] at hc25
                  rw [hsf] at hc25
                  have hds := dec_e4 hd hc12 hc15 hc25
                  refine W_skip ?_
                  refine bn ?_
                  refine tn ?_
                  refine r0 ?_
                  refine s1 29 545 1 rfl rfl rfl rfl rfl rfl trivial ?_
                  refine sA 30 553 2 rfl rfl rfl rfl rfl rfl rfl rfl rfl (by unfold inRange; omega) ?_
                  refine s1 7 561 3 rfl rfl rfl rfl rfl rfl trivial ?_
                  refine e1 569 rfl ?_
                  refine tn ?_
                  exact again (((k + 1, (zgt l ((zgt l n).at')).at', M ++ [(sampleOf (lstN M k) (zgt l n).x (zgt l ((zgt l n).at')).x)]) : Nat × Nat × List Smp)) [505] (show ((k + 1) : Int) ≤ numB l 0 8 ∧ decS l (k + 1) = ⟨(M ++ [(sampleOf (lstN M k) (zgt l n).x (zgt l ((zgt l n).at')).x)]), ((zgt l ((zgt l n).at')).at'), 0⟩ ∧ (M ++ [(sampleOf (lstN M k) (zgt l n).x (zgt l ((zgt l n).at')).x)]).length = (k + 1) ∧ faultTo (M ++ [(sampleOf (lstN M k) (zgt l n).x (zgt l ((zgt l n).at')).x)]) (k + 1) = 0 ∧ ((zgt l ((zgt l n).at')).at') ≤ 8 * l.length from ⟨by omega, hds, by simp [hMl], (by rw [← hMl, faultTo_snoc M _ (by rw [hMl]; exact hf), hMl]; exact hc25), zgt_le l _ (zgt_le l n hn)⟩) (show (numB l 0 8).toNat - (k + 1) < (numB l 0 8).toNat - k from (by omega)) rfl ⟨rfl, rfl, rfl, rfl, rfl, trivial⟩ ⟨rfl, trivial⟩
            · skip
              try simp only [decide_eq_true_eq, decide_eq_false_iff_not, Bool.not_eq_true', Bool.not_eq_false', beq_iff_eq, bne_iff_ne, beq_eq_false_iff_ne, Bool.and_eq_true, Bool.or_eq_true, Bool.and_eq_false_iff, Bool.or_eq_false_iff, ge_iff_le, gt_iff_lt, Int.not_lt, Int.not_le, ne_eq, Decidable.not_not, bne_eq_false_iff_eq] at hc19
              refine W_skip ?_
              refine tn ?_
              refine W_seq ?_
              refine r1 ?_
              refine s1 77 289 1 rfl rfl rfl rfl rfl rfl trivial ?_
              refine s1 78 297 2 rfl rfl rfl rfl rfl rfl (by first | trivial | omega | (simp only [List.length_map, List.length_append, List.length_cons, List.length_nil] at *; omega)) ?_
              refine e1 305 rfl ?_
              refine keep [0, 4, 5, 6, 7, 14, 78] rfl ?_
              refine q1 rfl (fun hc22 => ?_) (fun hc22 => ?_)
              · skip
                exfalso; simp at hc22; omega
              · skip
                try simp only [decide_eq_true_eq, decide_eq_false_iff_not, Bool.not_eq_true', Bool.not_eq_false', beq_iff_eq, bne_iff_ne, beq_eq_false_iff_ne, Bool.and_eq_true, Bool.or_eq_true, Bool.and_eq_false_iff, Bool.or_eq_false_iff, ge_iff_le, gt_iff_lt, Int.not_lt, Int.not_le, ne_eq, Decidable.not_not, bne_eq_false_iff_eq] at hc22
                refine W_skip ?_
                refine tn ?_
                have hsm : (sampleOf (lstN M k) (zgt l n).x (zgt l ((zgt l n).at')).x) = ⟨(zgt l n).x, (zgt l ((zgt l n).at')).x⟩ := (by obtain rfl : k = 0 := (by omega); rfl)
                refine chval 257 (Blk.cells 49 2 [SV.i (sampleOf (lstN M k) (zgt l n).x (zgt l ((zgt l n).at')).x).t, SV.i (sampleOf (lstN M k) (zgt l n).x (zgt l ((zgt l n).at')).x).v]) rfl (show Blk.cells 49 2 [SV.i ((zgt l n).x), SV.i ((zgt l ((zgt l n).at')).x)] = Blk.cells 49 2 [SV.i (sampleOf (lstN M k) (zgt l n).x (zgt l ((zgt l n).at')).x).t, SV.i (sampleOf (lstN M k) (zgt l n).x (zgt l ((zgt l n).at')).x).v] from by rw [hsm]) ?_
                refine r1 ?_
                refine s1 96 305 1 rfl rfl rfl rfl rfl rfl trivial ?_
                refine s1 97 313 2 rfl rfl rfl rfl rfl rfl (by first | trivial | omega | (simp only [List.length_map, List.length_append, List.length_cons, List.length_nil] at *; omega)) ?_
                refine s1 98 321 3 rfl rfl rfl rfl rfl rfl trivial ?_
                refine s1 99 329 4 rfl rfl rfl rfl rfl rfl ⟨Nat.le_refl _, trivial, (by show (M.length + 1) * 16 ≤ 140737488355328; omega), (by simp only [maxLen]; omega)⟩ ?_
                refine s1 6 337 5 rfl rfl rfl rfl rfl rfl trivial ?_
                refine e1 345 rfl ?_
                refine keep [0, 4, 5, 6, 7] rfl ?_
                refine rowsc 329 (M ++ [(sampleOf (lstN M k) (zgt l n).x (zgt l ((zgt l n).at')).x)]).length (smpF (M ++ [(sampleOf (lstN M k) (zgt l n).x (zgt l ((zgt l n).at')).x)])) rfl (by simp) (fun q c hq hc => cat_smp' (s := (sampleOf (lstN M k) (zgt l n).x (zgt l ((zgt l n).at')).x)) q c hq hc) ?_
                refine cval 6 (.sl 329 0 (M ++ [(sampleOf (lstN M k) (zgt l n).x (zgt l ((zgt l n).at')).x)]).length) rfl (by simp) ?_
                have hsf : sfault (M ++ [(sampleOf (lstN M k) (zgt l n).x (zgt l ((zgt l n).at')).x)]) = lfault (lstN M k) (sampleOf (lstN M k) (zgt l n).x (zgt l ((zgt l n).at')).x) := (by rw [sfault_snoc (by rw [hMl]; exact hf) (by omega), hMl])
                refine r1 ?_
                refine s1 100 345 1 rfl rfl rfl rfl rfl rfl trivial ?_
                refine c1 (sfault_own (M ++ [(sampleOf (lstN M k) (zgt l n).x (zgt l ((zgt l n).at')).x)]) (by simp; omega)) [329] [329] 101 353 2 rfl rfl rfl rfl rfl rfl rfl rfl Tryd.func32 rfl rfl rfl rfl ⟨rfl, trivial⟩ rfl rfl ?_
                refine s1 102 361 3 rfl rfl rfl rfl rfl rfl (by first | trivial | omega | (simp only [List.length_map, List.length_append, List.length_cons, List.length_nil] at *; omega)) ?_
                refine e1 369 rfl ?_
                refine keep [0, 4, 5, 6, 7, 102] rfl ?_
                refine q1 rfl (fun hc25 => ?_) (fun hc25 => ?_)
                · skip
                  try simp only [decide_eq_true_eq, decide_eq_false_iff_not, Bool.not_eq_true', Bool.not_eq_false', beq_iff_eq, bne_iff_ne, beq_eq_false_iff_ne, Bool.and_eq_true, Bool.or_eq_true, Bool.and_eq_false_iff, Bool.or_eq_false_iff, ge_iff_le, gt_iff_lt, Int.not_lt, Int.not_le, ne_eq, Decidable.not_not, bne_eq_false_iff_eq] at hc25
                  refine r1 ?_
                  refine s1 2 369 1 rfl rfl rfl rfl rfl rfl trivial ?_
                  refine s1 3 377 2 rfl rfl rfl rfl rfl rfl trivial ?_
                  refine e1 385 rfl ?_
                  refine keep [2, 3] rfl ?_
                  refine W_ret ?_
                  refine br ?_
                  refine tr ?_
                  refine tr ?_
                  refine br ?_
                  refine tr ?_
                  rw [hsf] at hc25
                  have he := dec_e3 hd hc12 hc15 hc25
                  have hE : decE l = 4 := (by rw [decE_loop h0 hN (show k + 1 ≤ decN l by unfold decN; omega) (by rw [he]; decide), he])
                  exact out2 2 3 (.d .nils) (SV.i (decE l)) (π := []) (hout := []) Tryd.results14 rfl rfl rfl (by rw [hE]; rfl) rfl rfl trivial (.inr ⟨by rw [hE]; first | decide | assumption, rfl, rfl⟩)
                · skip
                  try simp only [decide_eq_true_eq, decide_eq_false_iff_not, Bool.not_eq_true', Bool.not_eq_false', beq_iff_eq, bne_iff_ne, beq_eq_false_iff_ne, Bool.and_eq_true, Bool.or_eq_true, Bool.and_eq_false_iff, Bool.or_eq_false_iff, ge_iff_le, gt_iff_lt, Int.not_lt, Int.not_le, ne_eq, Decidable.not_not, bne_eq_false_iff_eq] at hc25
                  rw [hsf] at hc25
                  have hds := dec_e4 hd hc12 hc15 hc25
                  refine W_skip ?_
                  refine bn ?_
                  refine tn ?_
                  refine r0 ?_
                  refine s1 29 369 1 rfl rfl rfl rfl rfl rfl trivial ?_
                  refine sA 30 377 2 rfl rfl rfl rfl rfl rfl rfl rfl rfl (by unfold inRange; omega) ?_
                  refine s1 7 385 3 rfl rfl rfl rfl rfl rfl trivial ?_
                  refine e1 393 rfl ?_
                  refine tn ?_
                  exact again (((k + 1, (zgt l ((zgt l n).at')).at', M ++ [(sampleOf (lstN M k) (zgt l n).x (zgt l ((zgt l n).at')).x)]) : Nat × Nat × List Smp)) [329] (show ((k + 1) : Int) ≤ numB l 0 8 ∧ decS l (k + 1) = ⟨(M ++ [(sampleOf (lstN M k) (zgt l n).x (zgt l ((zgt l n).at')).x)]), ((zgt l ((zgt l n).at')).at'), 0⟩ ∧ (M ++ [(sampleOf (lstN M k) (zgt l n).x (zgt l ((zgt l n).at')).x)]).length = (k + 1) ∧ faultTo (M ++ [(sampleOf (lstN M k) (zgt l n).x (zgt l ((zgt l n).at')).x)]) (k + 1) = 0 ∧ ((zgt l ((zgt l n).at')).at') ≤ 8 * l.length from ⟨by omega, hds, by simp [hMl], (by rw [← hMl, faultTo_snoc M _ (by rw [hMl]; exact hf), hMl]; exact hc25), zgt_le l _ (zgt_le l n hn)⟩) (show (numB l 0 8).toNat - (k + 1) < (numB l 0 8).toNat - k from (by omega)) rfl ⟨rfl, rfl, rfl, rfl, rfl, trivial⟩ ⟨rfl, trivial⟩
      · skip
        try simp only [decide_eq_true_eq, decide_eq_false_iff_not, Bool.not_eq_true', Bool.not_eq_false', beq_iff_eq, bne_iff_ne, beq_eq_false_iff_ne, Bool.and_eq_true, Bool.or_eq_true, Bool.and_eq_false_iff, Bool.or_eq_false_iff, ge_iff_le, gt_iff_lt, Int.not_lt, Int.not_le, ne_eq, Decidable.not_not, bne_eq_false_iff_eq] at hc9
        refine W_exit ?_
        refine tx ?_
        refine tx ?_
        refine bx ?_
        refine tn ?_
        have hkN : k = decN l := (by unfold decN; omega)
        have hdN : decS l (decN l) = ⟨M, n, 0⟩ := (by rw [← hkN]; exact hd)
        have hend := decE_end h0 hN hdN
        have hfM : faultTo M M.length = 0 := (by rw [hMl]; exact hf)
        refine freeze 6 0 M.length rfl rfl (Nat.le_refl _) ?_
        refine r1 ?_
        refine s1 104 25 1 rfl rfl rfl rfl rfl rfl trivial ?_
        refine c1 (encoded_ok M (smpIn_good hfM (by omega)) (sfault_good hfM (by omega))) [] [33] 105 33 2 rfl rfl rfl rfl rfl rfl rfl rfl Tryd.func11 rfl rfl rfl rfl trivial rfl rfl ?_
        refine s1 103 41 3 rfl rfl rfl rfl rfl rfl trivial ?_
        refine s1 106 49 4 rfl rfl rfl rfl rfl rfl trivial ?_
        refine s1 107 57 5 rfl rfl rfl rfl rfl rfl trivial ?_
        refine s1 15 65 6 rfl rfl rfl rfl rfl rfl trivial ?_
        refine s1 16 73 7 rfl rfl rfl rfl rfl rfl trivial ?_
        refine e1 81 rfl ?_
        refine keep [0, 6, 15] rfl ?_
        refine W_seq ?_
        refine freeze 15 33 (encB M).length rfl rfl (Nat.le_refl _) ?_
        refine r1 ?_
        refine s1 108 81 1 rfl rfl rfl rfl rfl rfl trivial ?_
        refine s1 109 89 2 rfl rfl rfl rfl rfl rfl trivial ?_
        refine c1 (refSame_any (encB M) l (encB_bytes (sfault_good hfM (by omega)) (by omega)) hlb) [] [] 110 97 3 rfl rfl rfl rfl rfl rfl rfl rfl Tryd.func44 rfl rfl rfl rfl trivial rfl rfl ?_
        refine s1 111 105 4 rfl rfl rfl rfl rfl rfl trivial ?_
        refine e1 113 rfl ?_
        refine keep [6, 111] rfl ?_
        refine q1 rfl (fun hc28 => ?_) (fun hc28 => ?_)
        · skip
          try simp only [decide_eq_true_eq, decide_eq_false_iff_not, Bool.not_eq_true', Bool.not_eq_false', beq_iff_eq, bne_iff_ne, beq_eq_false_iff_ne, Bool.and_eq_true, Bool.or_eq_true, Bool.and_eq_false_iff, Bool.or_eq_false_iff, ge_iff_le, gt_iff_lt, Int.not_lt, Int.not_le, ne_eq, Decidable.not_not, bne_eq_false_iff_eq] at hc28
          refine r1 ?_
          refine s1 2 113 1 rfl rfl rfl rfl rfl rfl trivial ?_
          refine s1 3 121 2 rfl rfl rfl rfl rfl rfl trivial ?_
          refine e1 129 rfl ?_
          refine keep [2, 3] rfl ?_
          refine W_ret ?_
          refine tr ?_
          have hE : decE l = 4 := (by rw [hend, if_neg (fun h => by have := (enc_iff hlb h0 hdN).2 h; simp [this] at hc28)])
          exact out2 2 3 (.d .nils) (SV.i (decE l)) (π := []) (hout := []) Tryd.results14 rfl rfl rfl (by rw [hE]; rfl) rfl rfl trivial (.inr ⟨by rw [hE]; first | decide | assumption, rfl, rfl⟩)
        · skip
          try simp only [decide_eq_true_eq, decide_eq_false_iff_not, Bool.not_eq_true', Bool.not_eq_false', beq_iff_eq, bne_iff_ne, beq_eq_false_iff_ne, Bool.and_eq_true, Bool.or_eq_true, Bool.and_eq_false_iff, Bool.or_eq_false_iff, ge_iff_le, gt_iff_lt, Int.not_lt, Int.not_le, ne_eq, Decidable.not_not, bne_eq_false_iff_eq] at hc28
          refine W_skip ?_
          refine tn ?_
          refine r1 ?_
          refine s1 112 113 1 rfl rfl rfl rfl rfl rfl trivial ?_
          refine s1 2 121 2 rfl rfl rfl rfl rfl rfl trivial ?_
          refine s1 3 129 3 rfl rfl rfl rfl rfl rfl trivial ?_
          refine e1 137 rfl ?_
          refine keep [2, 3] rfl ?_
          refine W_ret ?_
          have hE : decE l = 0 := (by rw [hend, if_pos ((enc_iff hlb h0 hdN).1 (by simpa using hc28))])
          have hMM : decM l = M := (by unfold decM; rw [hdN])
          exact out2 2 3 (smpV (decM l)) (SV.i 0) (π := []) (hout := []) Tryd.results14 rfl rfl (by rw [hMM]; rfl) rfl rfl rfl trivial (.inl ⟨hE, rfl, rfl⟩)

end Go.Proofs.YtiedndnegmbkiaaDoor.Nice
