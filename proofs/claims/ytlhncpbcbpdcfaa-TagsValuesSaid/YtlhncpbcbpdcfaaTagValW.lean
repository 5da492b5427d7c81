/- The values of a key: the law. -/
import Derived.Test.YtlhncpbcbpdcfaaTagValR
namespace Go.Proofs.Ytlhncpbcbpdcfaa.Nice
open Go Go.Proofs
set_option linter.unusedVariables false
set_option linter.unusedSimpArgs false
set_option maxRecDepth 100000
set_option maxHeartbeats 4000000

theorem valP_len {p : Bool} {ss : List (List TagD)} (key : ByteArray) (hp : p = true ↔ TagsOk ss) : (valP p ss key).1.length ≤ 480 ∧ (valP p ss key).2.1.length ≤ 480 := by
  by_cases h : p = false ∨ nameB key = false
  · rw [val_no h]; exact ⟨Nat.zero_le _, Nat.zero_le _⟩
  · have h1 : p = true := by cases p with | true => rfl | false => exact absurd (.inl rfl) h
    have h2 : nameB key = true := by cases hn : nameB key with | true => rfl | false => exact absurd (.inr hn) h
    have hok := hp.1 h1
    have := len_S (ss := ss) (fun i hi => (hok.2 i hi).len) ss.length (Nat.le_refl _)
    have h3 := vals_len (E := idxS ss ss.length) key
    have h40 := hok.1
    rw [val_yes h1 h2]
    refine ⟨by simp only; omega, ?_⟩
    show (List.map _ _).length ≤ 480
    rw [List.length_map]; omega
theorem refValues2_any (ss : List (List TagD)) (key : ByteArray) (hin : TagsIn ss) (hks : key.size ≤ 9223372036854775807) (p : Bool) (hp : p = true ↔ TagsOk ss) : Spec Try.prog GT 25 [serV ss ss.length, .d (.val (.string key))] [] (fun r ho => r = SV.tup [strsV (valP p ss key).1, intsV (valP p ss key).2.1, SV.i (valP p ss key).2.2] ∧ ho = []) := by
  rw [← ref_val hp]; exact refValues_any ss key hin hks p hp

theorem texts_any (L : List Str) (hL : L.length ≤ 480) : Spec Try.prog GT 26 [strsV L, strsV L] [] (fun r ho => r = SV.b true ∧ ho = []) := by
  refine start 26 0 Try.func26 rfl rfl rfl rfl ?_
  refine r1 ?_
  refine s1 4 0 1 rfl rfl rfl rfl rfl rfl trivial ?_
  refine e1 8 rfl ?_
  refine keep [0, 1] rfl ?_
  refine W_seq ?_
  refine r1 ?_
  refine s1 6 8 1 rfl rfl rfl rfl rfl rfl trivial ?_
  refine s1 7 16 2 rfl rfl rfl rfl rfl rfl (by first | trivial | omega) ?_
  refine s1 8 24 3 rfl rfl rfl rfl rfl rfl trivial ?_
  refine s1 9 32 4 rfl rfl rfl rfl rfl rfl (by first | trivial | omega) ?_
  refine s1 10 40 5 rfl rfl rfl rfl rfl rfl (by first | trivial | omega) ?_
  refine e1 48 rfl ?_
  refine keep [0, 1, 10] rfl ?_
  refine q1 rfl (fun hc1 => ?_) (fun hc1 => ?_)
  · skip
    exfalso; simp at hc1
  · skip
    try simp only [cs, ne_eq] at hc1
    refine W_skip ?_
    refine tn ?_
    refine W_seq ?_
    refine r1 ?_
    refine s1 5 48 1 rfl rfl rfl rfl rfl rfl trivial ?_
    refine e1 56 rfl ?_
    refine keep [0, 1, 5] rfl ?_
    refine W_block ?_
    refine loop (α := Nat) 0 (fun n => [(0, strsV L), (1, strsV L), (5, SV.i (n))]) (fun n => []) (fun n => (n) ≤ L.length) (fun n => L.length - (n)) (((0) : Nat)) [] (fun _ => rfl) (show (0) ≤ L.length from (Nat.zero_le _)) rfl ⟨rfl, rfl, rfl, trivial⟩ trivial (fun n hx => ?_)
    show W _ _ _ ⟨tOf [(0, strsV L), (1, strsV L), (5, SV.i n)], hOf [], 0⟩
    have hx : n ≤ L.length := hx
    refine W_seq ?_
    refine r1 ?_
    refine s1 11 0 1 rfl rfl rfl rfl rfl rfl trivial ?_
    refine s1 12 8 2 rfl rfl rfl rfl rfl rfl trivial ?_
    refine s1 13 16 3 rfl rfl rfl rfl rfl rfl (by first | trivial | omega) ?_
    refine s1 14 24 4 rfl rfl rfl rfl rfl rfl (by first | trivial | omega) ?_
    refine e1 32 rfl ?_
    refine keep [0, 1, 5, 14] rfl ?_
    refine q1 rfl (fun hc4 => ?_) (fun hc4 => ?_)
    · skip
      try simp only [cs, ne_eq] at hc4
      refine W_skip ?_
      refine tn ?_
      refine W_seq ?_
      refine W_block ?_
      refine rd1 rfl ?_
      refine d1 17 32 1 rfl rfl rfl rfl rfl rfl trivial ?_
      refine d1 18 40 2 rfl rfl rfl rfl rfl rfl trivial ?_
      refine d1 19 48 3 rfl rfl rfl rfl rfl rfl (by first | trivial | omega) ?_
      refine d1 20 56 4 rfl rfl rfl rfl rfl rfl (by first | trivial | omega) ?_
      refine d1 21 64 5 rfl rfl rfl rfl rfl rfl trivial ?_
      refine d1 22 72 6 rfl rfl rfl rfl rfl rfl trivial ?_
      refine d1 23 80 7 rfl rfl rfl rfl rfl rfl (by first | trivial | omega) ?_
      refine d1 24 88 8 rfl rfl rfl rfl rfl rfl (by first | trivial | omega) ?_
      refine d1 25 96 9 rfl rfl rfl rfl rfl rfl (by first | trivial | omega) ?_
      refine de1 104 rfl (by kernel_rfl) ?_
      refine keep [0, 1, 5, 25] rfl ?_
      refine q1 rfl (fun hc6 => ?_) (fun hc6 => ?_)
      · skip
        exfalso; simp at hc6
      · skip
        try simp only [cs, ne_eq] at hc6
        refine W_skip ?_
        refine bn ?_
        refine tn ?_
        refine r0 ?_
        refine s1 15 104 1 rfl rfl rfl rfl rfl rfl trivial ?_
        refine sA 16 112 2 rfl rfl rfl rfl rfl rfl rfl rfl rfl (by unfold inRange; omega) ?_
        refine s1 5 120 3 rfl rfl rfl rfl rfl rfl trivial ?_
        refine e1 128 rfl ?_
        refine tn ?_
        exact again ((n + 1 : Nat)) [] (show (n + 1) ≤ L.length from (by omega)) (show L.length - (n + 1) < L.length - n from (by omega)) rfl ⟨rfl, rfl, rfl, trivial⟩ trivial
    · skip
      try simp only [cs, ne_eq] at hc4
      refine W_exit ?_
      refine tx ?_
      refine tx ?_
      refine bx ?_
      refine tn ?_
      refine r1 ?_
      refine s1 4 32 1 rfl rfl rfl rfl rfl rfl trivial ?_
      refine e1 40 rfl ?_
      refine keep [4] rfl ?_
      refine W_ret ?_
      exact out1 4 (SV.b true) (π := []) (hout := []) Try.results26 rfl rfl rfl rfl trivial ⟨rfl, rfl⟩

theorem lawValues_any (ss : List (List TagD)) (key : ByteArray) (hin : TagsIn ss) (hks : key.size ≤ 9223372036854775807) : Spec Try.prog GT 10 [serV ss ss.length, .d (.val (.string key))] [] (fun r _ => r = SV.b true) := by
  obtain ⟨p, hp⟩ : ∃ p : Bool, p = true ↔ TagsOk ss := (by by_cases h : TagsOk ss; exact ⟨true, by simp [h]⟩; exact ⟨false, by simp [h]⟩)
  obtain ⟨hl1, hl2⟩ := valP_len key hp
  refine start 38 0 Try.func10 rfl rfl rfl rfl ?_
  refine r1 ?_
  refine s1 4 0 1 rfl rfl rfl rfl rfl rfl trivial ?_
  refine e1 8 rfl ?_
  refine keep [0, 1] rfl ?_
  refine r1 ?_
  refine s1 12 8 1 rfl rfl rfl rfl rfl rfl trivial ?_
  refine s1 13 16 2 rfl rfl rfl rfl rfl rfl trivial ?_
  refine c1 (values_any ss key hin hks p hp) [] [] 14 24 3 rfl rfl rfl rfl rfl rfl rfl rfl Try.func24 rfl rfl rfl rfl trivial rfl rfl ?_
  refine s1 11 32 4 rfl rfl rfl rfl rfl rfl trivial ?_
  refine s1 15 40 5 rfl rfl rfl rfl rfl rfl trivial ?_
  refine s1 16 48 6 rfl rfl rfl rfl rfl rfl trivial ?_
  refine s1 17 56 7 rfl rfl rfl rfl rfl rfl trivial ?_
  refine s1 5 64 8 rfl rfl rfl rfl rfl rfl trivial ?_
  refine s1 6 72 9 rfl rfl rfl rfl rfl rfl trivial ?_
  refine s1 7 80 10 rfl rfl rfl rfl rfl rfl trivial ?_
  refine e1 88 rfl ?_
  refine keep [0, 1, 5, 6, 7] rfl ?_
  refine r1 ?_
  refine s1 19 88 1 rfl rfl rfl rfl rfl rfl trivial ?_
  refine s1 20 96 2 rfl rfl rfl rfl rfl rfl trivial ?_
  refine c1 (refValues2_any ss key hin hks p hp) [] [] 21 104 3 rfl rfl rfl rfl rfl rfl rfl rfl Try.func25 rfl rfl rfl rfl trivial rfl rfl ?_
  refine s1 18 112 4 rfl rfl rfl rfl rfl rfl trivial ?_
  refine s1 22 120 5 rfl rfl rfl rfl rfl rfl trivial ?_
  refine s1 23 128 6 rfl rfl rfl rfl rfl rfl trivial ?_
  refine s1 24 136 7 rfl rfl rfl rfl rfl rfl trivial ?_
  refine s1 8 144 8 rfl rfl rfl rfl rfl rfl trivial ?_
  refine s1 9 152 9 rfl rfl rfl rfl rfl rfl trivial ?_
  refine s1 10 160 10 rfl rfl rfl rfl rfl rfl trivial ?_
  refine e1 168 rfl ?_
  refine keep [5, 6, 7, 8, 9, 10] rfl ?_
  refine r1 ?_
  refine s1 25 168 1 rfl rfl rfl rfl rfl rfl trivial ?_
  refine s1 26 176 2 rfl rfl rfl rfl rfl rfl trivial ?_
  refine c1 (texts_any (valP p ss key).1 hl1) [] [] 27 184 3 rfl rfl rfl rfl rfl rfl rfl rfl Try.func26 rfl rfl rfl rfl trivial rfl rfl ?_
  refine s1 28 192 4 rfl rfl rfl rfl rfl rfl trivial ?_
  refine ask 28 rfl (fun hg3_28 => ?_) (fun hg3_28 => ?_)
  · skip
    try simp only [cs, ne_eq] at hg3_28
    refine g1 3 true 28 29 5 rfl rfl rfl rfl rfl ?_
    refine s1 29 200 5 rfl rfl rfl rfl rfl rfl trivial ?_
    refine g1 3 true 28 30 6 rfl rfl rfl rfl rfl ?_
    refine s1 30 208 6 rfl rfl rfl rfl rfl rfl trivial ?_
    refine g1 3 true 28 31 7 rfl rfl rfl rfl rfl ?_
    refine c1 (same_any (valP p ss key).2.1 (valP p ss key).2.1 (by omega) (by omega)) [] [] 31 216 7 rfl rfl rfl rfl rfl rfl rfl rfl Try.func13 rfl rfl rfl rfl trivial rfl rfl ?_
    refine s1 32 224 8 rfl rfl rfl rfl rfl rfl trivial ?_
    refine s1 33 232 9 rfl rfl rfl rfl rfl rfl trivial ?_
    refine ask 33 rfl (fun hg3_33 => ?_) (fun hg3_33 => ?_)
    · skip
      try simp only [cs, ne_eq] at hg3_33
      refine g1 8 true 33 34 10 rfl rfl rfl rfl rfl ?_
      refine s1 34 240 10 rfl rfl rfl rfl rfl rfl trivial ?_
      refine g1 8 true 33 35 11 rfl rfl rfl rfl rfl ?_
      refine s1 35 248 11 rfl rfl rfl rfl rfl rfl trivial ?_
      refine g1 8 true 33 36 12 rfl rfl rfl rfl rfl ?_
      refine s1 36 256 12 rfl rfl rfl rfl rfl rfl (by first | trivial | omega) ?_
      refine s1 37 264 13 rfl rfl rfl rfl rfl rfl trivial ?_
      refine s1 4 272 14 rfl rfl rfl rfl rfl rfl trivial ?_
      refine e1 280 rfl ?_
      refine keep [4] rfl ?_
      refine W_ret ?_
      exact out1 4 (SV.b true) (π := []) (hout := []) Try.results10 rfl (by first | (simp; done) | (simp; rfl) | (simp [sameB] at *; done)) rfl rfl trivial rfl
    · skip
      try simp only [cs, ne_eq] at hg3_33
      refine g0 8 true 33 34 10 rfl rfl rfl rfl rfl rfl ?_
      refine g0 8 true 33 35 11 rfl rfl rfl rfl rfl rfl ?_
      refine g0 8 true 33 36 12 rfl rfl rfl rfl rfl rfl ?_
      refine s1 37 264 13 rfl rfl rfl rfl rfl rfl trivial ?_
      refine s1 4 272 14 rfl rfl rfl rfl rfl rfl trivial ?_
      refine e1 280 rfl ?_
      refine keep [4] rfl ?_
      refine W_ret ?_
      exact out1 4 (SV.b true) (π := []) (hout := []) Try.results10 rfl (by first | (simp; done) | (simp; rfl) | (simp [sameB] at *; done)) rfl rfl trivial rfl
  · skip
    try simp only [cs, ne_eq] at hg3_28
    refine g0 3 true 28 29 5 rfl rfl rfl rfl rfl rfl ?_
    refine g0 3 true 28 30 6 rfl rfl rfl rfl rfl rfl ?_
    refine g0 3 true 28 31 7 rfl rfl rfl rfl rfl rfl ?_
    refine s1 32 224 8 rfl rfl rfl rfl rfl rfl trivial ?_
    refine s1 33 232 9 rfl rfl rfl rfl rfl rfl trivial ?_
    refine g0 8 true 33 34 10 rfl rfl rfl rfl rfl rfl ?_
    refine g0 8 true 33 35 11 rfl rfl rfl rfl rfl rfl ?_
    refine g0 8 true 33 36 12 rfl rfl rfl rfl rfl rfl ?_
    refine s1 37 264 13 rfl rfl rfl rfl rfl rfl trivial ?_
    refine s1 4 272 14 rfl rfl rfl rfl rfl rfl trivial ?_
    refine e1 280 rfl ?_
    refine keep [4] rfl ?_
    refine W_ret ?_
    exact out1 4 (SV.b true) (π := []) (hout := []) Try.results10 rfl (by first | (simp; done) | (simp; rfl) | (simp [sameB] at *; done)) rfl rfl trivial rfl

end Go.Proofs.Ytlhncpbcbpdcfaa.Nice
