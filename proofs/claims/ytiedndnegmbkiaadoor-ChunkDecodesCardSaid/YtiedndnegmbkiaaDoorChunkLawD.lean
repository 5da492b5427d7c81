/- The law ChunkDecodes. -/
import Derived.Test.YtiedndnegmbkiaaDoorChunkDecoded
namespace Go.Proofs.YtiedndnegmbkiaaDoor.Nice
open Go
set_option linter.unusedVariables false
set_option linter.unusedSimpArgs false
set_option maxRecDepth 100000
set_option maxHeartbeats 4000000

theorem decE_good {l : List Int} (h : decE l = 0) : l.length ≠ 0 ∧ numB l 0 8 ≤ 120 ∧ (decS l (decN l)).e = 0 := by
  unfold decE at h
  split at h
  · cases h
  · next h0 =>
    split at h
    · cases h
    · next h1 =>
      split at h
      · next h2 => exact absurd h h2
      · next h2 => exact ⟨h0, by omega, by omega⟩
theorem decM_len {l : List Int} (h : decE l = 0) : (decM l).length ≤ 120 := by
  obtain ⟨h0, h1, h2⟩ := decE_good h
  have := (decS_bits h0 (decN l) h2).1
  have h3 := (numB_bd l 0 8).1
  unfold decM
  rw [this]; unfold decN; omega
theorem decode_ok (l : List Int) (hl : Bytes l) (hE : decE l = 0) : Spec Tryd.prog GC 13 [u8V l] [] (fun r ho => r = SV.tup [.sl 0 0 (decM l).length, SV.i 0] ∧ ho = [some (.rows 49 2 (decM l).length (smpF (decM l)))]) := (decode_any l hl).mono fun r ho h => by
  rcases h with ⟨_, h1, h2⟩ | ⟨h, _⟩
  · exact ⟨h1, h2⟩
  · exact absurd hE h
theorem decode_bad (l : List Int) (hl : Bytes l) (hE : decE l ≠ 0) : Spec Tryd.prog GC 13 [u8V l] [] (fun r ho => r = SV.tup [.d .nils, SV.i (decE l)] ∧ ho = []) := (decode_any l hl).mono fun r ho h => by
  rcases h with ⟨h, _⟩ | ⟨_, h1, h2⟩
  · exact absurd h hE
  · exact ⟨h1, h2⟩
theorem decoded_ok (l : List Int) (hl : Bytes l) (hE : decE l = 0) : Spec Tryd.prog GC 14 [u8V l] [] (fun r ho => r = SV.tup [smpV (decM l), SV.i 0] ∧ ho = []) := (decoded_any l hl).mono fun r ho h => by
  rcases h with ⟨_, h1, h2⟩ | ⟨h, _⟩
  · exact ⟨h1, h2⟩
  · exact absurd hE h
theorem decoded_bad (l : List Int) (hl : Bytes l) (hE : decE l ≠ 0) : Spec Tryd.prog GC 14 [u8V l] [] (fun r ho => r = SV.tup [.d .nils, SV.i (decE l)] ∧ ho = []) := (decoded_any l hl).mono fun r ho h => by
  rcases h with ⟨h, _⟩ | ⟨_, h1, h2⟩
  · exact absurd h hE
  · exact ⟨h1, h2⟩

theorem sameS_any (x : List Smp) (hx0 : x.length ≤ 1000000) : Spec Tryd.prog GC 15 [smpV x, smpV x] [] (fun r ho => r = SV.b true ∧ ho = []) := by
  refine start 26 0 Tryd.func15 rfl rfl rfl rfl ?_
  refine r1 ?_
  refine s1 4 0 1 rfl rfl rfl rfl rfl rfl trivial ?_
  refine e1 8 rfl ?_
  refine keep [0, 1] rfl ?_
  refine W_seq ?_
  refine r1 ?_
  refine s1 6 8 1 rfl rfl rfl rfl rfl rfl trivial ?_
  refine s1 7 16 2 rfl rfl rfl rfl rfl rfl (by first | trivial | omega | (simp only [List.length_map, List.length_append, List.length_cons, List.length_nil] at *; omega)) ?_
  refine s1 8 24 3 rfl rfl rfl rfl rfl rfl trivial ?_
  refine s1 9 32 4 rfl rfl rfl rfl rfl rfl (by first | trivial | omega | (simp only [List.length_map, List.length_append, List.length_cons, List.length_nil] at *; omega)) ?_
  refine s1 10 40 5 rfl rfl rfl rfl rfl rfl (by first | trivial | omega | (simp only [List.length_map, List.length_append, List.length_cons, List.length_nil] at *; omega)) ?_
  refine e1 48 rfl ?_
  refine keep [0, 1, 10] rfl ?_
  refine q1 rfl (fun hc1 => ?_) (fun hc1 => ?_)
  · skip
    exfalso; simp at hc1
  · skip
    try simp only [decide_eq_true_eq, decide_eq_false_iff_not, Bool.not_eq_true', Bool.not_eq_false', beq_iff_eq, bne_iff_ne, beq_eq_false_iff_ne, Bool.and_eq_true, Bool.or_eq_true, Bool.and_eq_false_iff, Bool.or_eq_false_iff, ge_iff_le, gt_iff_lt, Int.not_lt, Int.not_le, ne_eq, Decidable.not_not, bne_eq_false_iff_eq] at hc1
    refine W_skip ?_
    refine tn ?_
    refine W_seq ?_
    refine r1 ?_
    refine s1 5 48 1 rfl rfl rfl rfl rfl rfl trivial ?_
    refine e1 56 rfl ?_
    refine keep [0, 1, 5] rfl ?_
    refine W_block ?_
    refine loop (α := Nat) 0 (fun n => [(0, smpV x), (1, smpV x), (5, SV.i (n))]) (fun n => []) (fun n => (n) ≤ x.length) (fun n => x.length - (n)) (((0) : Nat)) [] (fun _ => rfl) (show (0) ≤ x.length from (Nat.zero_le _)) rfl ⟨rfl, rfl, rfl, trivial⟩ trivial (fun n hx => ?_)
    show W _ _ _ ⟨tOf [(0, smpV x), (1, smpV x), (5, SV.i n)], hOf [], 0⟩
    have hx : n ≤ x.length := hx
    refine W_seq ?_
    refine r1 ?_
    refine s1 11 0 1 rfl rfl rfl rfl rfl rfl trivial ?_
    refine s1 12 8 2 rfl rfl rfl rfl rfl rfl trivial ?_
    refine s1 13 16 3 rfl rfl rfl rfl rfl rfl (by first | trivial | omega | (simp only [List.length_map, List.length_append, List.length_cons, List.length_nil] at *; omega)) ?_
    refine s1 14 24 4 rfl rfl rfl rfl rfl rfl (by first | trivial | omega | (simp only [List.length_map, List.length_append, List.length_cons, List.length_nil] at *; omega)) ?_
    refine e1 32 rfl ?_
    refine keep [0, 1, 5, 14] rfl ?_
    refine q1 rfl (fun hc4 => ?_) (fun hc4 => ?_)
    · skip
      try simp only [decide_eq_true_eq, decide_eq_false_iff_not, Bool.not_eq_true', Bool.not_eq_false', beq_iff_eq, bne_iff_ne, beq_eq_false_iff_ne, Bool.and_eq_true, Bool.or_eq_true, Bool.and_eq_false_iff, Bool.or_eq_false_iff, ge_iff_le, gt_iff_lt, Int.not_lt, Int.not_le, ne_eq, Decidable.not_not, bne_eq_false_iff_eq] at hc4
      refine W_skip ?_
      refine tn ?_
      refine W_seq ?_
      refine W_block ?_
      refine rd1 rfl ?_
      refine d1 17 32 1 rfl rfl rfl rfl rfl rfl trivial ?_
      refine d1 18 40 2 rfl rfl rfl rfl rfl rfl trivial ?_
      refine d1 19 48 3 rfl rfl rfl rfl rfl rfl (by first | trivial | omega | (simp only [List.length_map, List.length_append, List.length_cons, List.length_nil] at *; omega)) ?_
      refine d1 20 56 4 rfl rfl rfl rfl rfl rfl (by first | trivial | omega | (simp only [List.length_map, List.length_append, List.length_cons, List.length_nil] at *; omega)) ?_
      refine val 20 (smpS (x.getD n default)) rfl (by rfl) ?_
      refine d1 21 64 5 rfl rfl rfl rfl rfl rfl trivial ?_
      refine d1 22 72 6 rfl rfl rfl rfl rfl rfl trivial ?_
      refine d1 23 80 7 rfl rfl rfl rfl rfl rfl (by first | trivial | omega | (simp only [List.length_map, List.length_append, List.length_cons, List.length_nil] at *; omega)) ?_
      refine d1 24 88 8 rfl rfl rfl rfl rfl rfl (by first | trivial | omega | (simp only [List.length_map, List.length_append, List.length_cons, List.length_nil] at *; omega)) ?_
      refine val 24 (smpS (x.getD n default)) rfl (by rfl) ?_
      refine dEq (op := .neq) 25 96 9 rfl rfl rfl rfl rfl rfl rfl rfl rfl (by kernel_rfl) (by kernel_rfl) rfl (.inr ⟨rfl, rfl⟩) ?_
      refine de1 104 rfl (by kernel_rfl) ?_
      refine keep [0, 1, 5, 25] rfl ?_
      refine q1 rfl (fun hc6 => ?_) (fun hc6 => ?_)
      · skip
        exfalso; simp at hc6
      · skip
        try simp only [decide_eq_true_eq, decide_eq_false_iff_not, Bool.not_eq_true', Bool.not_eq_false', beq_iff_eq, bne_iff_ne, beq_eq_false_iff_ne, Bool.and_eq_true, Bool.or_eq_true, Bool.and_eq_false_iff, Bool.or_eq_false_iff, ge_iff_le, gt_iff_lt, Int.not_lt, Int.not_le, ne_eq, Decidable.not_not, bne_eq_false_iff_eq] at hc6
        refine W_skip ?_
        refine bn ?_
        refine tn ?_
        refine r0 ?_
        refine s1 15 104 1 rfl rfl rfl rfl rfl rfl trivial ?_
        refine sA 16 112 2 rfl rfl rfl rfl rfl rfl rfl rfl rfl (by unfold inRange; omega) ?_
        refine s1 5 120 3 rfl rfl rfl rfl rfl rfl trivial ?_
        refine e1 128 rfl ?_
        refine tn ?_
        exact again ((n + 1 : Nat)) [] (show (n + 1) ≤ x.length from (by omega)) (show x.length - (n + 1) < x.length - n from (by omega)) rfl ⟨rfl, rfl, rfl, trivial⟩ trivial
    · skip
      try simp only [decide_eq_true_eq, decide_eq_false_iff_not, Bool.not_eq_true', Bool.not_eq_false', beq_iff_eq, bne_iff_ne, beq_eq_false_iff_ne, Bool.and_eq_true, Bool.or_eq_true, Bool.and_eq_false_iff, Bool.or_eq_false_iff, ge_iff_le, gt_iff_lt, Int.not_lt, Int.not_le, ne_eq, Decidable.not_not, bne_eq_false_iff_eq] at hc4
      refine W_exit ?_
      refine tx ?_
      refine tx ?_
      refine bx ?_
      refine tn ?_
      refine r1 ?_
      refine s1 4 32 1 rfl rfl rfl rfl rfl rfl trivial ?_
      refine e1 40 rfl ?_
      refine keep [4] rfl ?_
      refine W_ret ?_
      exact out1 4 (SV.b true) (π := []) (hout := []) Tryd.results15 rfl rfl rfl rfl trivial ⟨rfl, rfl⟩

theorem sameS_nil : Spec Tryd.prog GC 15 [.d .nils, .d .nils] [] (fun r ho => r = SV.b true ∧ ho = []) :=
  (sameS_any [] (by decide)).args rfl fun M ρ i x' hx => by
    match i, hx with
    | 0, hx => cases hx; exact ⟨_, rfl, fun u hu => hu.nil_vec⟩
    | 1, hx => cases hx; exact ⟨_, rfl, fun u hu => hu.nil_vec⟩
    | n + 2, hx => simp at hx

theorem lawD_ok (l : List Int) (hl : Bytes l) (hE : decE l = 0) : Spec Tryd.prog GC 4 [u8V l] [] (fun r _ => r = SV.b true) := by
  refine start 25 0 Tryd.func4 rfl rfl rfl rfl ?_
  refine r1 ?_
  refine s1 2 0 1 rfl rfl rfl rfl rfl rfl trivial ?_
  refine e1 8 rfl ?_
  refine keep [0] rfl ?_
  refine r1 ?_
  refine s1 8 8 1 rfl rfl rfl rfl rfl rfl trivial ?_
  refine c1 (decode_ok l hl hE) [] [16] 9 16 2 rfl rfl rfl rfl rfl rfl rfl rfl Tryd.func13 rfl rfl rfl rfl trivial rfl rfl ?_
  refine s1 7 24 3 rfl rfl rfl rfl rfl rfl trivial ?_
  refine s1 10 32 4 rfl rfl rfl rfl rfl rfl trivial ?_
  refine s1 11 40 5 rfl rfl rfl rfl rfl rfl trivial ?_
  refine s1 3 48 6 rfl rfl rfl rfl rfl rfl trivial ?_
  refine s1 4 56 7 rfl rfl rfl rfl rfl rfl trivial ?_
  refine e1 64 rfl ?_
  refine keep [0, 3, 4] rfl ?_
  refine r1 ?_
  refine s1 13 64 1 rfl rfl rfl rfl rfl rfl trivial ?_
  refine c1 (decoded_ok l hl hE) [] [] 14 72 2 rfl rfl rfl rfl rfl rfl rfl rfl Tryd.func14 rfl rfl rfl rfl trivial rfl rfl ?_
  refine s1 12 80 3 rfl rfl rfl rfl rfl rfl trivial ?_
  refine s1 15 88 4 rfl rfl rfl rfl rfl rfl trivial ?_
  refine s1 16 96 5 rfl rfl rfl rfl rfl rfl trivial ?_
  refine s1 5 104 6 rfl rfl rfl rfl rfl rfl trivial ?_
  refine s1 6 112 7 rfl rfl rfl rfl rfl rfl trivial ?_
  refine e1 120 rfl ?_
  refine keep [3, 4, 5, 6] rfl ?_
  refine freeze 3 16 (decM l).length rfl rfl (Nat.le_refl _) ?_
  refine r1 ?_
  refine s1 17 120 1 rfl rfl rfl rfl rfl rfl trivial ?_
  refine s1 18 128 2 rfl rfl rfl rfl rfl rfl trivial ?_
  refine c1 (sameS_any (decM l) (by have := decM_len hE; omega)) [] [] 19 136 3 rfl rfl rfl rfl rfl rfl rfl rfl Tryd.func15 rfl rfl rfl rfl trivial rfl rfl ?_
  refine s1 20 144 4 rfl rfl rfl rfl rfl rfl trivial ?_
  refine ask 20 rfl (fun hg3_20 => ?_) (fun hg3_20 => ?_)
  · skip
    try simp only [decide_eq_true_eq, decide_eq_false_iff_not, Bool.not_eq_true', Bool.not_eq_false', beq_iff_eq, bne_iff_ne, beq_eq_false_iff_ne, Bool.and_eq_true, Bool.or_eq_true, Bool.and_eq_false_iff, Bool.or_eq_false_iff, ge_iff_le, gt_iff_lt, Int.not_lt, Int.not_le, ne_eq, Decidable.not_not, bne_eq_false_iff_eq] at hg3_20
    refine g1 3 true 20 21 5 rfl rfl rfl rfl rfl ?_
    refine s1 21 152 5 rfl rfl rfl rfl rfl rfl trivial ?_
    refine g1 3 true 20 22 6 rfl rfl rfl rfl rfl ?_
    refine s1 22 160 6 rfl rfl rfl rfl rfl rfl trivial ?_
    refine g1 3 true 20 23 7 rfl rfl rfl rfl rfl ?_
    refine s1 23 168 7 rfl rfl rfl rfl rfl rfl (by first | trivial | omega | (simp only [List.length_map, List.length_append, List.length_cons, List.length_nil] at *; omega)) ?_
    refine s1 24 176 8 rfl rfl rfl rfl rfl rfl trivial ?_
    refine s1 2 184 9 rfl rfl rfl rfl rfl rfl trivial ?_
    refine e1 192 rfl ?_
    refine keep [2] rfl ?_
    refine W_ret ?_
    exact out1 2 (SV.b true) (π := []) (hout := []) Tryd.results4 rfl (by first | rfl | (simp; done) | (simp; rfl) | (simp [*]; rfl)) rfl rfl trivial rfl
  · skip
    try simp only [decide_eq_true_eq, decide_eq_false_iff_not, Bool.not_eq_true', Bool.not_eq_false', beq_iff_eq, bne_iff_ne, beq_eq_false_iff_ne, Bool.and_eq_true, Bool.or_eq_true, Bool.and_eq_false_iff, Bool.or_eq_false_iff, ge_iff_le, gt_iff_lt, Int.not_lt, Int.not_le, ne_eq, Decidable.not_not, bne_eq_false_iff_eq] at hg3_20
    all_goals (exfalso; first | (simp at hg3_20; done) | (simp at hg3_20; omega) | (simp_all; omega) | omega)

theorem lawD_bad (l : List Int) (hl : Bytes l) (hE : decE l ≠ 0) : Spec Tryd.prog GC 4 [u8V l] [] (fun r _ => r = SV.b true) := by
  refine start 25 0 Tryd.func4 rfl rfl rfl rfl ?_
  refine r1 ?_
  refine s1 2 0 1 rfl rfl rfl rfl rfl rfl trivial ?_
  refine e1 8 rfl ?_
  refine keep [0] rfl ?_
  refine r1 ?_
  refine s1 8 8 1 rfl rfl rfl rfl rfl rfl trivial ?_
  refine c1 (decode_bad l hl hE) [] [] 9 16 2 rfl rfl rfl rfl rfl rfl rfl rfl Tryd.func13 rfl rfl rfl rfl trivial rfl rfl ?_
  refine s1 7 24 3 rfl rfl rfl rfl rfl rfl trivial ?_
  refine s1 10 32 4 rfl rfl rfl rfl rfl rfl trivial ?_
  refine s1 11 40 5 rfl rfl rfl rfl rfl rfl trivial ?_
  refine s1 3 48 6 rfl rfl rfl rfl rfl rfl trivial ?_
  refine s1 4 56 7 rfl rfl rfl rfl rfl rfl trivial ?_
  refine e1 64 rfl ?_
  refine keep [0, 3, 4] rfl ?_
  refine r1 ?_
  refine s1 13 64 1 rfl rfl rfl rfl rfl rfl trivial ?_
  refine c1 (decoded_bad l hl hE) [] [] 14 72 2 rfl rfl rfl rfl rfl rfl rfl rfl Tryd.func14 rfl rfl rfl rfl trivial rfl rfl ?_
  refine s1 12 80 3 rfl rfl rfl rfl rfl rfl trivial ?_
  refine s1 15 88 4 rfl rfl rfl rfl rfl rfl trivial ?_
  refine s1 16 96 5 rfl rfl rfl rfl rfl rfl trivial ?_
  refine s1 5 104 6 rfl rfl rfl rfl rfl rfl trivial ?_
  refine s1 6 112 7 rfl rfl rfl rfl rfl rfl trivial ?_
  refine e1 120 rfl ?_
  refine keep [3, 4, 5, 6] rfl ?_
  refine r1 ?_
  refine s1 17 120 1 rfl rfl rfl rfl rfl rfl trivial ?_
  refine s1 18 128 2 rfl rfl rfl rfl rfl rfl trivial ?_
  refine c1 (sameS_nil) [] [] 19 136 3 rfl rfl rfl rfl rfl rfl rfl rfl Tryd.func15 rfl rfl rfl rfl trivial rfl rfl ?_
  refine s1 20 144 4 rfl rfl rfl rfl rfl rfl trivial ?_
  refine ask 20 rfl (fun hg3_20 => ?_) (fun hg3_20 => ?_)
  · skip
    try simp only [decide_eq_true_eq, decide_eq_false_iff_not, Bool.not_eq_true', Bool.not_eq_false', beq_iff_eq, bne_iff_ne, beq_eq_false_iff_ne, Bool.and_eq_true, Bool.or_eq_true, Bool.and_eq_false_iff, Bool.or_eq_false_iff, ge_iff_le, gt_iff_lt, Int.not_lt, Int.not_le, ne_eq, Decidable.not_not, bne_eq_false_iff_eq] at hg3_20
    refine g1 3 true 20 21 5 rfl rfl rfl rfl rfl ?_
    refine s1 21 152 5 rfl rfl rfl rfl rfl rfl trivial ?_
    refine g1 3 true 20 22 6 rfl rfl rfl rfl rfl ?_
    refine s1 22 160 6 rfl rfl rfl rfl rfl rfl trivial ?_
    refine g1 3 true 20 23 7 rfl rfl rfl rfl rfl ?_
    refine s1 23 168 7 rfl rfl rfl rfl rfl rfl (by first | trivial | omega | (simp only [List.length_map, List.length_append, List.length_cons, List.length_nil] at *; omega)) ?_
    refine s1 24 176 8 rfl rfl rfl rfl rfl rfl trivial ?_
    refine s1 2 184 9 rfl rfl rfl rfl rfl rfl trivial ?_
    refine e1 192 rfl ?_
    refine keep [2] rfl ?_
    refine W_ret ?_
    exact out1 2 (SV.b true) (π := []) (hout := []) Tryd.results4 rfl (by first | rfl | (simp; done) | (simp; rfl) | (simp [*]; rfl)) rfl rfl trivial rfl
  · skip
    try simp only [decide_eq_true_eq, decide_eq_false_iff_not, Bool.not_eq_true', Bool.not_eq_false', beq_iff_eq, bne_iff_ne, beq_eq_false_iff_ne, Bool.and_eq_true, Bool.or_eq_true, Bool.and_eq_false_iff, Bool.or_eq_false_iff, ge_iff_le, gt_iff_lt, Int.not_lt, Int.not_le, ne_eq, Decidable.not_not, bne_eq_false_iff_eq] at hg3_20
    all_goals (exfalso; first | (simp at hg3_20; done) | (simp at hg3_20; omega) | (simp_all; omega) | omega)

theorem lawD_any (l : List Int) (hl : Bytes l) : Spec Tryd.prog GC 4 [u8V l] [] (fun r _ => r = SV.b true) := by
  by_cases hE : decE l = 0
  · exact lawD_ok l hl hE
  · exact lawD_bad l hl hE

end Go.Proofs.YtiedndnegmbkiaaDoor.Nice
