/- Ranks: the walks and the law. -/
import Derived.Test.YtlhncpbcbpdcfaaQuantRankP
namespace Go.Proofs.Ytlhncpbcbpdcfaa.Nice
open Go
set_option linter.unusedVariables false
set_option linter.unusedSimpArgs false
set_option maxRecDepth 100000
set_option maxHeartbeats 4000000

theorem mkValues_any (l : List Int) : Spec Try.prog G0 37 [intsV l] [] (fun r ho => r = .fn 58 [.ptr 0 0 0] ∧ ho = [some (.cells 24 1 [intsV l])]) := by
  refine start 4 0 Try.func37 rfl rfl rfl rfl ?_
  refine r1 ?_
  refine s1 1 0 1 rfl rfl rfl rfl rfl rfl trivial ?_
  refine s1 2 8 2 rfl rfl rfl rfl rfl rfl trivial ?_
  refine e1 16 rfl ?_
  refine keep [1] rfl ?_
  refine r1 ?_
  refine s1 3 16 1 rfl rfl rfl rfl rfl rfl trivial ?_
  refine s1 2 24 2 rfl rfl rfl rfl rfl rfl trivial ?_
  refine e1 32 rfl ?_
  refine keep [2] rfl ?_
  refine W_ret ?_
  exact out1 2 (.fn 58 [.ptr 0 0 0]) (π := [0]) (hout := [some (.cells 24 1 [intsV l])]) Try.results37 rfl rfl rfl rfl ⟨rfl, trivial⟩ ⟨rfl, rfl⟩

theorem rank1_any (i : Nat) (part tot : Int) (s : List Int) (hi : i ≤ 500) (hs : s.length ≤ 1000) (ht : 0 ≤ tot ∧ tot ≤ 1048576) (hp : 0 ≤ part ∧ part ≤ 1048576) : Spec Try.prog G0 39 [SV.i i, .ptr 0 0 0, .ptr 1 0 0, .ptr 2 0 0] [.cells 3 1 [SV.i tot], .cells 3 1 [SV.i part], .cells 24 1 [intsV s]] (fun r ho => r = SV.b (decide (part * s.length ≤ ((i : Int) + 1) * tot)) ∧ ho = [some (.cells 3 1 [SV.i tot]), some (.cells 3 1 [SV.i part]), some (.cells 24 1 [intsV s])]) := by
  refine start 15 3 Try.func39 rfl rfl rfl rfl ?_
  refine r1 ?_
  refine s1 5 3 1 rfl rfl rfl rfl rfl rfl trivial ?_
  refine e1 11 rfl ?_
  refine keep [0, 1, 2, 3] rfl ?_
  refine r1 ?_
  refine s1 6 11 1 rfl rfl rfl rfl rfl rfl trivial ?_
  refine sA 7 19 2 rfl rfl rfl rfl rfl rfl rfl rfl rfl (by unfold inRange; omega) ?_
  refine s1 8 27 3 rfl rfl rfl rfl rfl rfl (by first | trivial | omega) ?_
  refine sA 9 35 4 rfl rfl rfl rfl rfl rfl rfl rfl rfl (prod_in (by omega) (by omega) ht.1 ht.2) ?_
  refine s1 10 43 5 rfl rfl rfl rfl rfl rfl (by first | trivial | omega) ?_
  refine s1 11 51 6 rfl rfl rfl rfl rfl rfl (by first | trivial | omega) ?_
  refine s1 12 59 7 rfl rfl rfl rfl rfl rfl (by first | trivial | omega) ?_
  refine sA 13 67 8 rfl rfl rfl rfl rfl rfl rfl rfl rfl (by rw [Int.mul_comm]; exact prod_in (by omega) (by omega) hp.1 hp.2) ?_
  refine s1 14 75 9 rfl rfl rfl rfl rfl rfl (by first | trivial | omega) ?_
  refine s1 5 83 10 rfl rfl rfl rfl rfl rfl trivial ?_
  refine e1 91 rfl ?_
  refine keep [5] rfl ?_
  refine W_ret ?_
  exact out1 5 (SV.b (decide (part * s.length ≤ ((i : Int) + 1) * tot))) (π := [0, 1, 2]) (hout := [some (.cells 3 1 [SV.i tot]), some (.cells 3 1 [SV.i part]), some (.cells 24 1 [intsV s])]) Try.results39 rfl rfl rfl rfl ⟨rfl, rfl, rfl, trivial⟩ ⟨rfl, rfl⟩

theorem rankSearch_any (part tot : Int) (s : List Int) (hs2 : s.length ≤ 500) (ht1 : 1 ≤ tot) (hs : s.length ≤ 1000) (ht : 0 ≤ tot ∧ tot ≤ 1048576) (hp : 0 ≤ part ∧ part ≤ 1048576) : Spec Try.prog G0 38 [SV.i s.length, .fn 39 [.ptr 0 0 0, .ptr 1 0 0, .ptr 2 0 0]] [.cells 3 1 [SV.i tot], .cells 3 1 [SV.i part], .cells 24 1 [intsV s]] (fun r ho => r = SV.i (rankIx s.length part tot : Nat) ∧ ho = [some (.cells 3 1 [SV.i tot]), some (.cells 3 1 [SV.i part]), some (.cells 24 1 [intsV s])]) := by
  refine start 26 3 Try.func38 rfl rfl rfl rfl ?_
  refine r1 ?_
  refine s1 4 3 1 rfl rfl rfl rfl rfl rfl trivial ?_
  refine e1 11 rfl ?_
  refine keep [0, 1] rfl ?_
  refine r1 ?_
  refine s1 8 11 1 rfl rfl rfl rfl rfl rfl trivial ?_
  refine s1 5 19 2 rfl rfl rfl rfl rfl rfl trivial ?_
  refine s1 6 27 3 rfl rfl rfl rfl rfl rfl trivial ?_
  refine e1 35 rfl ?_
  refine keep [1, 5, 6] rfl ?_
  refine W_seq ?_
  refine W_block ?_
  refine loop (α := Nat × Nat) 3 (fun x => [(1, .fn 39 [.ptr 0 0 0, .ptr 1 0 0, .ptr 2 0 0]), (5, SV.i x.1), (6, SV.i x.2)]) (fun x => [some (.cells 3 1 [SV.i tot]), some (.cells 3 1 [SV.i part]), some (.cells 24 1 [intsV s])]) (fun x => x.1 ≤ x.2 ∧ x.2 ≤ s.length ∧ (∀ k, k < x.1 → ((k : Int) + 1) * tot < part * s.length) ∧ (x.2 < s.length → part * s.length ≤ ((x.2 : Int) + 1) * tot)) (fun x => x.2 - x.1) ((0, s.length)) [0, 1, 2] (fun _ => rfl) ⟨Nat.zero_le _, Nat.le_refl _, fun k hk => by omega, fun h => by omega⟩ rfl ⟨rfl, rfl, rfl, trivial⟩ ⟨rfl, rfl, rfl, trivial⟩ (fun x hx => ?_)
  obtain ⟨h1, h2, h3, h4⟩ := hx
  refine W_seq ?_
  refine r1 ?_
  refine s1 9 3 1 rfl rfl rfl rfl rfl rfl trivial ?_
  refine s1 10 11 2 rfl rfl rfl rfl rfl rfl trivial ?_
  refine s1 11 19 3 rfl rfl rfl rfl rfl rfl (by first | trivial | omega) ?_
  refine e1 27 rfl ?_
  refine keep [1, 5, 6, 11] rfl ?_
  refine q1 rfl (fun hc2 => ?_) (fun hc2 => ?_)
  · skip
    try simp only [cs, ne_eq] at hc2
    refine W_skip ?_
    refine tn ?_
    refine W_block ?_
    refine r1 ?_
    refine s1 12 27 1 rfl rfl rfl rfl rfl rfl trivial ?_
    refine s1 13 35 2 rfl rfl rfl rfl rfl rfl trivial ?_
    refine sA 14 43 3 rfl rfl rfl rfl rfl rfl rfl rfl rfl (by unfold inRange; omega) ?_
    refine s1 15 51 4 rfl rfl rfl rfl rfl rfl trivial ?_
    refine s1 16 59 5 rfl rfl rfl rfl rfl rfl (by first | trivial | omega) ?_
    refine s1 17 67 6 rfl rfl rfl rfl rfl rfl trivial ?_
    refine val 17 (SV.i (((x.1 + x.2) / 2) : Nat)) rfl (half_eq x.1 x.2 (by omega)) ?_
    refine s1 7 75 7 rfl rfl rfl rfl rfl rfl trivial ?_
    refine e1 83 rfl ?_
    refine keep [1, 5, 6, 7] rfl ?_
    refine r1 ?_
    refine s1 18 83 1 rfl rfl rfl rfl rfl rfl trivial ?_
    refine s1 19 91 2 rfl rfl rfl rfl rfl rfl trivial ?_
    refine c1 (rank1_any ((x.1 + x.2) / 2) part tot s (by omega) hs ht hp) [0, 1, 2] [0, 1, 2] 20 99 3 rfl rfl rfl rfl rfl rfl rfl rfl Try.func39 rfl rfl rfl rfl ⟨rfl, rfl, rfl, trivial⟩ rfl rfl ?_
    refine s1 21 107 4 rfl rfl rfl rfl rfl rfl trivial ?_
    refine e1 115 rfl ?_
    refine keep [1, 5, 6, 7, 21] rfl ?_
    refine q1 rfl (fun hc4 => ?_) (fun hc4 => ?_)
    · skip
      try simp only [cs, ne_eq] at hc4
      refine r0 ?_
      refine s1 22 115 1 rfl rfl rfl rfl rfl rfl trivial ?_
      refine sA 23 123 2 rfl rfl rfl rfl rfl rfl rfl rfl rfl (by unfold inRange; omega) ?_
      refine s1 5 131 3 rfl rfl rfl rfl rfl rfl trivial ?_
      refine e1 139 rfl ?_
      refine bn ?_
      refine tn ?_
      exact again ((((x.1 + x.2) / 2) + 1, x.2)) [0, 1, 2] ⟨by simp only; omega, h2, fun k hk => pre_asc ht1 (by simp only at hk; omega) (show (((((x.1 + x.2) / 2) : Nat) : Int) + 1) * tot < _ from by omega), h4⟩ (by simp only; omega) rfl ⟨rfl, rfl, rfl, trivial⟩ ⟨rfl, rfl, rfl, trivial⟩
    · skip
      try simp only [cs, ne_eq] at hc4
      refine r0 ?_
      refine s1 24 115 1 rfl rfl rfl rfl rfl rfl trivial ?_
      refine s1 6 123 2 rfl rfl rfl rfl rfl rfl trivial ?_
      refine e1 131 rfl ?_
      refine bn ?_
      refine tn ?_
      exact again ((x.1, ((x.1 + x.2) / 2))) [0, 1, 2] ⟨by simp only; omega, by simp only; omega, h3, fun hk => by simpa using hc4⟩ (by simp only; omega) rfl ⟨rfl, rfl, rfl, trivial⟩ ⟨rfl, rfl, rfl, trivial⟩
  · skip
    try simp only [cs, ne_eq] at hc2
    refine W_exit ?_
    refine tx ?_
    refine tx ?_
    refine bx ?_
    refine tn ?_
    refine r1 ?_
    refine s1 25 27 1 rfl rfl rfl rfl rfl rfl trivial ?_
    refine s1 4 35 2 rfl rfl rfl rfl rfl rfl trivial ?_
    refine e1 43 rfl ?_
    refine keep [4] rfl ?_
    refine W_ret ?_
    have hp2 : rankIx s.length part tot = x.1 := rank_eq (by omega) h3 (fun h => by have e : x.2 = x.1 := (by omega); rw [e] at h4; exact h4 h)
    exact out1 4 (SV.i (rankIx s.length part tot : Nat)) (π := [0, 1, 2]) (hout := [some (.cells 3 1 [SV.i tot]), some (.cells 3 1 [SV.i part]), some (.cells 24 1 [intsV s])]) Try.results38 rfl (by rw [hp2]; rfl) rfl rfl ⟨rfl, rfl, rfl, trivial⟩ ⟨rfl, rfl⟩

theorem rank_any (l : List Int) (part tot : Int) (hl : l.length ≤ 9223372036854775807) : Spec Try.prog G0 18 [intsV l, SV.i part, SV.i tot] [] (fun r ho => r = SV.tup [SV.i (qrank l part tot).1, SV.i (qrank l part tot).2] ∧ ho = []) := by
  refine start 34 0 Try.func18 rfl rfl rfl rfl ?_
  refine r1 ?_
  refine s1 4 0 1 rfl rfl rfl rfl rfl rfl trivial ?_
  refine s1 5 8 2 rfl rfl rfl rfl rfl rfl trivial ?_
  refine s1 6 16 3 rfl rfl rfl rfl rfl rfl trivial ?_
  refine s1 7 24 4 rfl rfl rfl rfl rfl rfl trivial ?_
  refine e1 32 rfl ?_
  refine keep [0, 4, 5] rfl ?_
  refine W_seq ?_
  refine W_block ?_
  refine r1 ?_
  refine s1 11 32 1 rfl rfl rfl rfl rfl rfl trivial ?_
  refine s1 12 40 2 rfl rfl rfl rfl rfl rfl (by first | trivial | omega) ?_
  refine s1 13 48 3 rfl rfl rfl rfl rfl rfl (by first | trivial | omega) ?_
  refine s1 10 56 4 rfl rfl rfl rfl rfl rfl trivial ?_
  refine e1 64 rfl ?_
  refine keep [0, 4, 5, 10] rfl ?_
  refine q1 rfl (fun hc1 => ?_) (fun hc1 => ?_)
  · skip
    try simp only [cs, ne_eq] at hc1
    refine r1 ?_
    refine s1 6 64 1 rfl rfl rfl rfl rfl rfl trivial ?_
    refine s1 7 72 2 rfl rfl rfl rfl rfl rfl trivial ?_
    refine e1 80 rfl ?_
    refine keep [6, 7] rfl ?_
    refine W_ret ?_
    refine br ?_
    refine tr ?_
    exact out2 6 7 (SV.i (qrank l part tot).1) (SV.i (qrank l part tot).2) (π := []) (hout := []) Try.results18 rfl rfl (by rw [qr_size (by omega)]; first | rfl | (rw [srt_len]; rfl)) (by rw [qr_size (by omega)]; first | rfl | (rw [srt_len]; rfl)) rfl rfl trivial ⟨rfl, rfl⟩
  · skip
    try simp only [cs, ne_eq] at hc1
    refine r1 ?_
    refine s1 15 64 1 rfl rfl rfl rfl rfl rfl (by first | trivial | omega) ?_
    refine s1 16 72 2 rfl rfl rfl rfl rfl rfl (by first | trivial | omega) ?_
    refine c1 (share_any part tot) [] [] 17 80 3 rfl rfl rfl rfl rfl rfl rfl rfl Try.func31 rfl rfl rfl rfl trivial rfl rfl ?_
    refine s1 18 88 4 rfl rfl rfl rfl rfl rfl trivial ?_
    refine s1 14 96 5 rfl rfl rfl rfl rfl rfl trivial ?_
    refine e1 104 rfl ?_
    refine keep [0, 4, 5, 14] rfl ?_
    refine q1 rfl (fun hc3 => ?_) (fun hc3 => ?_)
    · skip
      try simp only [cs, ne_eq] at hc3
      refine r1 ?_
      refine s1 6 104 1 rfl rfl rfl rfl rfl rfl trivial ?_
      refine s1 7 112 2 rfl rfl rfl rfl rfl rfl trivial ?_
      refine e1 120 rfl ?_
      refine keep [6, 7] rfl ?_
      refine W_ret ?_
      refine br ?_
      refine tr ?_
      exact out2 6 7 (SV.i (qrank l part tot).1) (SV.i (qrank l part tot).2) (π := []) (hout := []) Try.results18 rfl rfl (by rw [qr_range (by omega) (by simpa using hc3)]; first | rfl | (rw [srt_len]; rfl)) (by rw [qr_range (by omega) (by simpa using hc3)]; first | rfl | (rw [srt_len]; rfl)) rfl rfl trivial ⟨rfl, rfl⟩
    · skip
      try simp only [cs, ne_eq] at hc3
      refine r1 ?_
      refine s1 20 104 1 rfl rfl rfl rfl rfl rfl trivial ?_
      refine s1 21 112 2 rfl rfl rfl rfl rfl rfl (by first | trivial | omega) ?_
      refine s1 22 120 3 rfl rfl rfl rfl rfl rfl (by first | trivial | omega) ?_
      refine s1 19 128 4 rfl rfl rfl rfl rfl rfl trivial ?_
      refine e1 136 rfl ?_
      refine keep [0, 4, 5, 19] rfl ?_
      refine q1 rfl (fun hc5 => ?_) (fun hc5 => ?_)
      · skip
        try simp only [cs, ne_eq] at hc5
        refine r1 ?_
        refine s1 6 136 1 rfl rfl rfl rfl rfl rfl trivial ?_
        refine s1 7 144 2 rfl rfl rfl rfl rfl rfl trivial ?_
        refine e1 152 rfl ?_
        refine keep [6, 7] rfl ?_
        refine W_ret ?_
        refine br ?_
        refine tr ?_
        exact out2 6 7 (SV.i (qrank l part tot).1) (SV.i (qrank l part tot).2) (π := []) (hout := []) Try.results18 rfl rfl (by rw [qr_none (by omega) (by simpa using hc3) (by omega)]; first | rfl | (rw [srt_len]; rfl)) (by rw [qr_none (by omega) (by simpa using hc3) (by omega)]; first | rfl | (rw [srt_len]; rfl)) rfl rfl trivial ⟨rfl, rfl⟩
      · skip
        try simp only [cs, ne_eq] at hc5
        refine W_skip ?_
        refine bn ?_
        refine tn ?_
        have hsh := share_of (by simpa using hc3)
        refine r1 ?_
        refine s1 23 136 1 rfl rfl rfl rfl rfl rfl trivial ?_
        refine c1 (mkValues_any l) [] [144] 24 144 2 rfl rfl rfl rfl rfl rfl rfl rfl Try.func37 rfl rfl rfl rfl trivial rfl rfl ?_
        refine c1 (sorted_spec l (by omega) (by intro e; subst e; exact hc5 rfl)) [144] [144] 25 152 3 rfl rfl rfl rfl rfl rfl rfl rfl Try.func36 rfl rfl rfl rfl ⟨rfl, trivial⟩ rfl rfl ?_
        refine s1 8 160 4 rfl rfl rfl rfl rfl rfl trivial ?_
        refine s0 168 5 rfl rfl rfl rfl rfl (by first | trivial | omega) ?_
        refine e1 176 rfl ?_
        refine keep [4, 5, 8] rfl ?_
        refine r1 ?_
        refine s1 26 176 1 rfl rfl rfl rfl rfl rfl (by first | trivial | omega) ?_
        refine s1 27 184 2 rfl rfl rfl rfl rfl rfl (by first | trivial | omega) ?_
        refine s1 28 192 3 rfl rfl rfl rfl rfl rfl trivial ?_
        refine c1 (rankSearch_any part tot (srt l) (by rw [srt_len]; omega) hsh.1 (by rw [srt_len]; omega) ⟨by omega, hsh.2.1⟩ ⟨hsh.2.2.1, by omega⟩) [8, 0, 160] [8, 0, 160] 29 200 4 rfl rfl rfl rfl rfl rfl rfl rfl Try.func38 rfl rfl rfl rfl ⟨rfl, rfl, rfl, trivial⟩ rfl rfl ?_
        refine s1 9 208 5 rfl rfl rfl rfl rfl rfl trivial ?_
        refine e1 216 rfl ?_
        refine keep [8, 9] rfl ?_
        have hri := (rank_is (n := l.length) hsh.1 hsh.2.2.2 (by omega)).1
        have hsl := srt_len l
        refine r1 ?_
        refine s1 30 216 1 rfl rfl rfl rfl rfl rfl (by first | trivial | omega) ?_
        refine s1 31 224 2 rfl rfl rfl rfl rfl rfl trivial ?_
        refine s1 32 232 3 rfl rfl rfl rfl rfl rfl (by rw [srt_len] at *; omega) ?_
        refine s1 33 240 4 rfl rfl rfl rfl rfl rfl (by rw [srt_len] at *; omega) ?_
        refine s1 6 248 5 rfl rfl rfl rfl rfl rfl trivial ?_
        refine s1 7 256 6 rfl rfl rfl rfl rfl rfl trivial ?_
        refine e1 264 rfl ?_
        refine keep [6, 7] rfl ?_
        refine W_ret ?_
        exact out2 6 7 (SV.i (qrank l part tot).1) (SV.i (qrank l part tot).2) (π := []) (hout := []) Try.results18 rfl rfl (by rw [qr_ok (by omega) (by simpa using hc3) (by omega)]; first | rfl | (rw [srt_len]; rfl)) (by rw [qr_ok (by omega) (by simpa using hc3) (by omega)]; first | rfl | (rw [srt_len]; rfl)) rfl rfl trivial ⟨rfl, rfl⟩

theorem refRank_any (l : List Int) (part tot : Int) (hl : l.length ≤ 9223372036854775807) : Spec Try.prog G0 19 [intsV l, SV.i part, SV.i tot] [] (fun r ho => r = SV.tup [SV.i (qrank l part tot).1, SV.i (qrank l part tot).2] ∧ ho = []) := by
  refine start 63 0 Try.func19 rfl rfl rfl rfl ?_
  refine r1 ?_
  refine s1 6 0 1 rfl rfl rfl rfl rfl rfl trivial ?_
  refine s1 7 8 2 rfl rfl rfl rfl rfl rfl trivial ?_
  refine e1 16 rfl ?_
  refine keep [0, 1, 2] rfl ?_
  refine W_seq ?_
  refine r1 ?_
  refine s1 15 16 1 rfl rfl rfl rfl rfl rfl trivial ?_
  refine s1 16 24 2 rfl rfl rfl rfl rfl rfl (by first | trivial | omega) ?_
  refine s1 17 32 3 rfl rfl rfl rfl rfl rfl (by first | trivial | omega) ?_
  refine e1 40 rfl ?_
  refine keep [0, 1, 2, 17] rfl ?_
  refine q1 rfl (fun hc1 => ?_) (fun hc1 => ?_)
  · skip
    try simp only [cs, ne_eq] at hc1
    refine r1 ?_
    refine s1 6 40 1 rfl rfl rfl rfl rfl rfl trivial ?_
    refine s1 7 48 2 rfl rfl rfl rfl rfl rfl trivial ?_
    refine e1 56 rfl ?_
    refine keep [6, 7] rfl ?_
    refine W_ret ?_
    refine tr ?_
    exact out2 6 7 (SV.i (qrank l part tot).1) (SV.i (qrank l part tot).2) (π := []) (hout := []) Try.results19 rfl rfl (by rw [qr_size (by omega)]; first | rfl | (rw [srt_len]; rfl)) (by rw [qr_size (by omega)]; first | rfl | (rw [srt_len]; rfl)) rfl rfl trivial ⟨rfl, rfl⟩
  · skip
    try simp only [cs, ne_eq] at hc1
    refine W_skip ?_
    refine tn ?_
    refine W_seq ?_
    refine r1 ?_
    refine s1 18 40 1 rfl rfl rfl rfl rfl rfl trivial ?_
    refine s1 19 48 2 rfl rfl rfl rfl rfl rfl trivial ?_
    refine c1 (shareMay_any part tot) [] [] 20 56 3 rfl rfl rfl rfl rfl rfl rfl rfl Try.func33 rfl rfl rfl rfl trivial rfl rfl ?_
    refine s1 21 64 4 rfl rfl rfl rfl rfl rfl trivial ?_
    refine e1 72 rfl ?_
    refine keep [0, 1, 2, 21] rfl ?_
    refine q1 rfl (fun hc3 => ?_) (fun hc3 => ?_)
    · skip
      try simp only [cs, ne_eq] at hc3
      refine r1 ?_
      refine s1 6 72 1 rfl rfl rfl rfl rfl rfl trivial ?_
      refine s1 7 80 2 rfl rfl rfl rfl rfl rfl trivial ?_
      refine e1 88 rfl ?_
      refine keep [6, 7] rfl ?_
      refine W_ret ?_
      refine tr ?_
      exact out2 6 7 (SV.i (qrank l part tot).1) (SV.i (qrank l part tot).2) (π := []) (hout := []) Try.results19 rfl rfl (by rw [qr_range (by omega) (by simpa using hc3)]; first | rfl | (rw [srt_len]; rfl)) (by rw [qr_range (by omega) (by simpa using hc3)]; first | rfl | (rw [srt_len]; rfl)) rfl rfl trivial ⟨rfl, rfl⟩
    · skip
      try simp only [cs, ne_eq] at hc3
      refine W_skip ?_
      refine tn ?_
      refine W_seq ?_
      refine r1 ?_
      refine s1 22 72 1 rfl rfl rfl rfl rfl rfl trivial ?_
      refine s1 23 80 2 rfl rfl rfl rfl rfl rfl (by first | trivial | omega) ?_
      refine s1 24 88 3 rfl rfl rfl rfl rfl rfl (by first | trivial | omega) ?_
      refine e1 96 rfl ?_
      refine keep [0, 1, 2, 24] rfl ?_
      refine q1 rfl (fun hc5 => ?_) (fun hc5 => ?_)
      · skip
        try simp only [cs, ne_eq] at hc5
        refine r1 ?_
        refine s1 6 96 1 rfl rfl rfl rfl rfl rfl trivial ?_
        refine s1 7 104 2 rfl rfl rfl rfl rfl rfl trivial ?_
        refine e1 112 rfl ?_
        refine keep [6, 7] rfl ?_
        refine W_ret ?_
        refine tr ?_
        exact out2 6 7 (SV.i (qrank l part tot).1) (SV.i (qrank l part tot).2) (π := []) (hout := []) Try.results19 rfl rfl (by rw [qr_none (by omega) (by simpa using hc3) (by omega)]; first | rfl | (rw [srt_len]; rfl)) (by rw [qr_none (by omega) (by simpa using hc3) (by omega)]; first | rfl | (rw [srt_len]; rfl)) rfl rfl trivial ⟨rfl, rfl⟩
      · skip
        try simp only [cs, ne_eq] at hc5
        refine W_skip ?_
        refine tn ?_
        have hsh := share_of (by simpa using hc3)
        refine r1 ?_
        refine s1 8 96 1 rfl rfl rfl rfl rfl rfl trivial ?_
        refine e1 104 rfl ?_
        refine keep [0, 1, 2, 8] rfl ?_
        refine r1 ?_
        refine s1 9 104 1 rfl rfl rfl rfl rfl rfl trivial ?_
        refine e1 112 rfl ?_
        refine keep [0, 1, 2, 8, 9] rfl ?_
        refine W_seq ?_
        refine r1 ?_
        refine s1 25 112 1 rfl rfl rfl rfl rfl rfl trivial ?_
        refine s1 26 120 2 rfl rfl rfl rfl rfl rfl (by first | trivial | omega) ?_
        refine s1 27 128 3 rfl rfl rfl rfl rfl rfl trivial ?_
        refine e1 136 rfl ?_
        refine keep [0, 1, 2, 8, 9, 25, 26, 27] rfl ?_
        refine W_block ?_
        refine loop (α := Nat) 0 (fun n => [(0, intsV l), (1, SV.i part), (2, SV.i tot), (8, SV.i (best l part tot (n)).1), (9, SV.b (best l part tot (n)).2), (25, intsV l), (26, SV.i l.length), (27, SV.i (n))]) (fun n => []) (fun n => (n) ≤ l.length) (fun n => l.length - (n)) (((0) : Nat)) [] (fun _ => rfl) (show (0) ≤ l.length from (Nat.zero_le _)) rfl ⟨rfl, rfl, rfl, rfl, rfl, rfl, rfl, rfl, trivial⟩ trivial (fun n hx => ?_)
        show W _ _ _ ⟨tOf [(0, intsV l), (1, SV.i part), (2, SV.i tot), (8, SV.i (best l part tot n).1), (9, SV.b (best l part tot n).2), (25, intsV l), (26, SV.i l.length), (27, SV.i n)], hOf [], 0⟩
        have hx : n ≤ l.length := hx
        refine r1 ?_
        refine s1 28 0 1 rfl rfl rfl rfl rfl rfl (by first | trivial | omega) ?_
        refine e1 8 rfl ?_
        refine keep [0, 1, 2, 8, 9, 25, 26, 27, 28] rfl ?_
        refine W_seq ?_
        refine q1 rfl (fun hc10 => ?_) (fun hc10 => ?_)
        · skip
          try simp only [cs, ne_eq] at hc10
          refine W_skip ?_
          refine tn ?_
          refine W_seq ?_
          refine W_block ?_
          refine r1 ?_
          refine s1 29 8 1 rfl rfl rfl rfl rfl rfl (by first | trivial | omega) ?_
          refine s1 30 16 2 rfl rfl rfl rfl rfl rfl (by first | trivial | omega) ?_
          refine s1 11 24 3 rfl rfl rfl rfl rfl rfl trivial ?_
          refine e1 32 rfl ?_
          refine keep [0, 1, 2, 8, 9, 11, 25, 26, 27] rfl ?_
          refine r1 ?_
          refine s1 12 32 1 rfl rfl rfl rfl rfl rfl trivial ?_
          refine e1 40 rfl ?_
          refine keep [0, 1, 2, 8, 9, 11, 12, 25, 26, 27] rfl ?_
          refine W_seq ?_
          refine r1 ?_
          refine s1 31 40 1 rfl rfl rfl rfl rfl rfl trivial ?_
          refine s1 32 48 2 rfl rfl rfl rfl rfl rfl (by first | trivial | omega) ?_
          refine s1 33 56 3 rfl rfl rfl rfl rfl rfl trivial ?_
          refine e1 64 rfl ?_
          refine keep [0, 1, 2, 8, 9, 11, 12, 25, 26, 27, 31, 32, 33] rfl ?_
          refine W_block ?_
          refine loop (α := Nat) 0 (fun q => [(0, intsV l), (1, SV.i part), (2, SV.i tot), (8, SV.i (best l part tot n).1), (9, SV.b (best l part tot n).2), (11, SV.i (l.getD n 0)), (12, SV.i (cntTo l (l.getD n 0) (q) : Nat)), (25, intsV l), (26, SV.i l.length), (27, SV.i n), (31, intsV l), (32, SV.i l.length), (33, SV.i (q))]) (fun q => []) (fun q => (q) ≤ l.length) (fun q => l.length - (q)) (((0) : Nat)) [] (fun _ => rfl) (show (0) ≤ l.length from (Nat.zero_le _)) rfl ⟨rfl, rfl, rfl, rfl, rfl, rfl, rfl, rfl, rfl, rfl, rfl, rfl, rfl, trivial⟩ trivial (fun q hx => ?_)
          show W _ _ _ ⟨tOf [(0, intsV l), (1, SV.i part), (2, SV.i tot), (8, SV.i (best l part tot n).1), (9, SV.b (best l part tot n).2), (11, SV.i (l.getD n 0)), (12, SV.i (cntTo l (l.getD n 0) q : Nat)), (25, intsV l), (26, SV.i l.length), (27, SV.i n), (31, intsV l), (32, SV.i l.length), (33, SV.i q)], hOf [], 0⟩
          have hx : q ≤ l.length := hx
          refine r1 ?_
          refine s1 34 0 1 rfl rfl rfl rfl rfl rfl (by first | trivial | omega) ?_
          refine e1 8 rfl ?_
          refine keep [0, 1, 2, 8, 9, 11, 12, 25, 26, 27, 31, 32, 33, 34] rfl ?_
          refine W_seq ?_
          refine q1 rfl (fun hc14 => ?_) (fun hc14 => ?_)
          · skip
            try simp only [cs, ne_eq] at hc14
            refine W_skip ?_
            refine tn ?_
            refine W_seq ?_
            refine W_block ?_
            refine r1 ?_
            refine s1 35 8 1 rfl rfl rfl rfl rfl rfl (by first | trivial | omega) ?_
            refine s1 36 16 2 rfl rfl rfl rfl rfl rfl (by first | trivial | omega) ?_
            refine s1 14 24 3 rfl rfl rfl rfl rfl rfl trivial ?_
            refine e1 32 rfl ?_
            refine keep [0, 1, 2, 8, 9, 11, 12, 14, 25, 26, 27, 31, 32, 33] rfl ?_
            refine r1 ?_
            refine s1 37 32 1 rfl rfl rfl rfl rfl rfl trivial ?_
            refine s1 38 40 2 rfl rfl rfl rfl rfl rfl trivial ?_
            refine s1 39 48 3 rfl rfl rfl rfl rfl rfl (by first | trivial | omega) ?_
            refine e1 56 rfl ?_
            refine keep [0, 1, 2, 8, 9, 11, 12, 25, 26, 27, 31, 32, 33, 39] rfl ?_
            refine q1 rfl (fun hc16 => ?_) (fun hc16 => ?_)
            · skip
              try simp only [cs, ne_eq] at hc16
              refine r0 ?_
              refine s1 40 56 1 rfl rfl rfl rfl rfl rfl trivial ?_
              refine sA 41 64 2 rfl rfl rfl rfl rfl rfl rfl rfl rfl (by have := cntTo_le l (l.getD n 0) q; unfold inRange; omega) ?_
              refine s1 12 72 3 rfl rfl rfl rfl rfl rfl trivial ?_
              refine e1 80 rfl ?_
              refine bn ?_
              refine tn ?_
              refine cval 12 (SV.i (cntTo l (l.getD n 0) (q + 1) : Nat)) rfl (by rw [cnt_yes (show l.getD q 0 ≤ (l.getD n 0) from hc16)]; rfl) ?_
              refine r0 ?_
              refine sA 42 80 1 rfl rfl rfl rfl rfl rfl rfl rfl rfl (by unfold inRange; omega) ?_
              refine s1 33 88 2 rfl rfl rfl rfl rfl rfl trivial ?_
              refine e1 96 rfl ?_
              refine tn ?_
              exact again ((q + 1 : Nat)) [] (show (q + 1) ≤ l.length from (by omega)) (show l.length - (q + 1) < l.length - q from (by omega)) rfl ⟨rfl, rfl, rfl, rfl, rfl, rfl, rfl, rfl, rfl, rfl, rfl, rfl, rfl, trivial⟩ trivial
            · skip
              try simp only [cs, ne_eq] at hc16
              refine W_skip ?_
              refine bn ?_
              refine tn ?_
              refine cval 12 (SV.i (cntTo l (l.getD n 0) (q + 1) : Nat)) rfl (by rw [cnt_no (show (l.getD n 0) < l.getD q 0 from hc16)]) ?_
              refine r0 ?_
              refine sA 42 56 1 rfl rfl rfl rfl rfl rfl rfl rfl rfl (by unfold inRange; omega) ?_
              refine s1 33 64 2 rfl rfl rfl rfl rfl rfl trivial ?_
              refine e1 72 rfl ?_
              refine tn ?_
              exact again ((q + 1 : Nat)) [] (show (q + 1) ≤ l.length from (by omega)) (show l.length - (q + 1) < l.length - q from (by omega)) rfl ⟨rfl, rfl, rfl, rfl, rfl, rfl, rfl, rfl, rfl, rfl, rfl, rfl, rfl, trivial⟩ trivial
          · skip
            try simp only [cs, ne_eq] at hc14
            refine W_exit ?_
            refine tx ?_
            refine tx ?_
            refine bx ?_
            refine tn ?_
            obtain rfl : q = l.length := (by omega)
            refine r1 ?_
            refine s1 43 8 1 rfl rfl rfl rfl rfl rfl trivial ?_
            refine s1 44 16 2 rfl rfl rfl rfl rfl rfl trivial ?_
            refine sA 45 24 3 rfl rfl rfl rfl rfl rfl rfl rfl rfl (by have := cntTo_le l (l.getD n 0) l.length; exact prod_in (by omega) (by omega) (by omega) hsh.2.1) ?_
            refine s1 46 32 4 rfl rfl rfl rfl rfl rfl trivial ?_
            refine s1 47 40 5 rfl rfl rfl rfl rfl rfl trivial ?_
            refine s1 48 48 6 rfl rfl rfl rfl rfl rfl (by first | trivial | omega) ?_
            refine sA 49 56 7 rfl rfl rfl rfl rfl rfl rfl rfl rfl (by rw [Int.mul_comm]; exact prod_in (by omega) (by omega) hsh.2.2.1 (by omega)) ?_
            refine s1 50 64 8 rfl rfl rfl rfl rfl rfl (by first | trivial | omega) ?_
            refine s1 51 72 9 rfl rfl rfl rfl rfl rfl trivial ?_
            refine ask 51 rfl (fun hg19_51 => ?_) (fun hg19_51 => ?_)
            · skip
              try simp only [cs, ne_eq] at hg19_51
              refine g1 8 true 51 52 10 rfl rfl rfl rfl rfl ?_
              refine s1 52 80 10 rfl rfl rfl rfl rfl rfl trivial ?_
              refine g1 8 true 51 53 11 rfl rfl rfl rfl rfl ?_
              refine s1 53 88 11 rfl rfl rfl rfl rfl rfl trivial ?_
              refine g1 8 true 51 54 12 rfl rfl rfl rfl rfl ?_
              refine s1 54 96 12 rfl rfl rfl rfl rfl rfl trivial ?_
              refine ask 54 rfl (fun hg19_54 => ?_) (fun hg19_54 => ?_)
              · skip
                try simp only [cs, ne_eq] at hg19_54
                refine g0 11 false 54 55 13 rfl rfl rfl rfl rfl rfl ?_
                refine g0 11 false 54 56 14 rfl rfl rfl rfl rfl rfl ?_
                refine g0 11 false 54 57 15 rfl rfl rfl rfl rfl rfl ?_
                refine g1 8 true 51 58 16 rfl rfl rfl rfl rfl ?_
                refine s1 58 128 16 rfl rfl rfl rfl rfl rfl trivial ?_
                refine s1 59 136 17 rfl rfl rfl rfl rfl rfl trivial ?_
                refine e1 144 rfl ?_
                refine keep [0, 1, 2, 8, 9, 11, 25, 26, 27, 59] rfl ?_
                refine q1 rfl (fun hc19 => ?_) (fun hc19 => ?_)
                · skip
                  try simp only [cs, ne_eq] at hc19
                  refine r1 ?_
                  refine s1 60 144 1 rfl rfl rfl rfl rfl rfl trivial ?_
                  refine s1 8 152 2 rfl rfl rfl rfl rfl rfl trivial ?_
                  refine e1 160 rfl ?_
                  refine keep [0, 1, 2, 8, 25, 26, 27] rfl ?_
                  refine r0 ?_
                  refine s1 9 160 1 rfl rfl rfl rfl rfl rfl trivial ?_
                  refine e1 168 rfl ?_
                  refine bn ?_
                  refine tn ?_
                  have hB : (best l part tot (n + 1)) = ((l.getD n 0), true) := best_yes ⟨(by unfold goodB; exact decide_eq_true (by omega)), (by first | exact .inl (by simpa using hg19_54) | exact .inr (by simpa using hc19))⟩
                  refine cval 8 (SV.i (best l part tot (n + 1)).1) rfl (by first | (rw [hB]; done) | (rw [hB]; rfl)) ?_
                  refine cval 9 (SV.b (best l part tot (n + 1)).2) rfl (by rw [hB]) ?_
                  refine r0 ?_
                  refine sA 61 168 1 rfl rfl rfl rfl rfl rfl rfl rfl rfl (by unfold inRange; omega) ?_
                  refine s1 27 176 2 rfl rfl rfl rfl rfl rfl trivial ?_
                  refine e1 184 rfl ?_
                  refine tn ?_
                  exact again ((n + 1 : Nat)) [] (show (n + 1) ≤ l.length from (by omega)) (show l.length - (n + 1) < l.length - n from (by omega)) rfl ⟨rfl, rfl, rfl, rfl, rfl, rfl, rfl, rfl, trivial⟩ trivial
                · skip
                  exact absurd hc19 (by decide)
              · skip
                try simp only [cs, ne_eq] at hg19_54
                refine g1 11 false 54 55 13 rfl rfl rfl rfl rfl ?_
                refine s1 55 104 13 rfl rfl rfl rfl rfl rfl trivial ?_
                refine g1 11 false 54 56 14 rfl rfl rfl rfl rfl ?_
                refine s1 56 112 14 rfl rfl rfl rfl rfl rfl trivial ?_
                refine g1 11 false 54 57 15 rfl rfl rfl rfl rfl ?_
                refine s1 57 120 15 rfl rfl rfl rfl rfl rfl (by first | trivial | omega) ?_
                refine g1 8 true 51 58 16 rfl rfl rfl rfl rfl ?_
                refine s1 58 128 16 rfl rfl rfl rfl rfl rfl trivial ?_
                refine s1 59 136 17 rfl rfl rfl rfl rfl rfl trivial ?_
                refine e1 144 rfl ?_
                refine keep [0, 1, 2, 8, 9, 11, 25, 26, 27, 59] rfl ?_
                refine q1 rfl (fun hc19 => ?_) (fun hc19 => ?_)
                · skip
                  try simp only [cs, ne_eq] at hc19
                  refine r1 ?_
                  refine s1 60 144 1 rfl rfl rfl rfl rfl rfl trivial ?_
                  refine s1 8 152 2 rfl rfl rfl rfl rfl rfl trivial ?_
                  refine e1 160 rfl ?_
                  refine keep [0, 1, 2, 8, 25, 26, 27] rfl ?_
                  refine r0 ?_
                  refine s1 9 160 1 rfl rfl rfl rfl rfl rfl trivial ?_
                  refine e1 168 rfl ?_
                  refine bn ?_
                  refine tn ?_
                  have hB : (best l part tot (n + 1)) = ((l.getD n 0), true) := best_yes ⟨(by unfold goodB; exact decide_eq_true (by omega)), (by first | exact .inl (by simpa using hg19_54) | exact .inr (by simpa using hc19))⟩
                  refine cval 8 (SV.i (best l part tot (n + 1)).1) rfl (by first | (rw [hB]; done) | (rw [hB]; rfl)) ?_
                  refine cval 9 (SV.b (best l part tot (n + 1)).2) rfl (by rw [hB]) ?_
                  refine r0 ?_
                  refine sA 61 168 1 rfl rfl rfl rfl rfl rfl rfl rfl rfl (by unfold inRange; omega) ?_
                  refine s1 27 176 2 rfl rfl rfl rfl rfl rfl trivial ?_
                  refine e1 184 rfl ?_
                  refine tn ?_
                  exact again ((n + 1 : Nat)) [] (show (n + 1) ≤ l.length from (by omega)) (show l.length - (n + 1) < l.length - n from (by omega)) rfl ⟨rfl, rfl, rfl, rfl, rfl, rfl, rfl, rfl, trivial⟩ trivial
                · skip
                  try simp only [cs, ne_eq] at hc19
                  refine W_skip ?_
                  refine bn ?_
                  refine tn ?_
                  have hB : (best l part tot (n + 1)) = (best l part tot n) := best_no (by rintro ⟨hg, hd⟩; unfold goodB at hg; rw [decide_eq_true_eq] at hg; exact hd.elim (fun hd => by first | omega | (rw [hg19_54] at hd; cases hd)) (fun hd => by omega))
                  refine cval 8 (SV.i (best l part tot (n + 1)).1) rfl (by rw [hB]) ?_
                  refine cval 9 (SV.b (best l part tot (n + 1)).2) rfl (by rw [hB]) ?_
                  refine r0 ?_
                  refine sA 61 144 1 rfl rfl rfl rfl rfl rfl rfl rfl rfl (by unfold inRange; omega) ?_
                  refine s1 27 152 2 rfl rfl rfl rfl rfl rfl trivial ?_
                  refine e1 160 rfl ?_
                  refine tn ?_
                  exact again ((n + 1 : Nat)) [] (show (n + 1) ≤ l.length from (by omega)) (show l.length - (n + 1) < l.length - n from (by omega)) rfl ⟨rfl, rfl, rfl, rfl, rfl, rfl, rfl, rfl, trivial⟩ trivial
            · skip
              try simp only [cs, ne_eq] at hg19_51
              refine g0 8 true 51 52 10 rfl rfl rfl rfl rfl rfl ?_
              refine g0 8 true 51 53 11 rfl rfl rfl rfl rfl rfl ?_
              refine g0 8 true 51 54 12 rfl rfl rfl rfl rfl rfl ?_
              refine gz 11 false 54 55 13 rfl rfl rfl rfl rfl rfl ?_
              refine gz 11 false 54 56 14 rfl rfl rfl rfl rfl rfl ?_
              refine gz 11 false 54 57 15 rfl rfl rfl rfl rfl rfl ?_
              refine g0 8 true 51 58 16 rfl rfl rfl rfl rfl rfl ?_
              refine s1 59 136 17 rfl rfl rfl rfl rfl rfl trivial ?_
              refine e1 144 rfl ?_
              refine keep [0, 1, 2, 8, 9, 11, 25, 26, 27, 59] rfl ?_
              refine q1 rfl (fun hc19 => ?_) (fun hc19 => ?_)
              · skip
                exact absurd hc19 (by decide)
              · skip
                try simp only [cs, ne_eq] at hc19
                refine W_skip ?_
                refine bn ?_
                refine tn ?_
                have hB : (best l part tot (n + 1)) = (best l part tot n) := best_no (by rintro ⟨hg, hd⟩; unfold goodB at hg; rw [decide_eq_true_eq] at hg; exact hd.elim (fun hd => by first | omega | (rw [hg19_54] at hd; cases hd)) (fun hd => by omega))
                refine cval 8 (SV.i (best l part tot (n + 1)).1) rfl (by rw [hB]) ?_
                refine cval 9 (SV.b (best l part tot (n + 1)).2) rfl (by rw [hB]) ?_
                refine r0 ?_
                refine sA 61 144 1 rfl rfl rfl rfl rfl rfl rfl rfl rfl (by unfold inRange; omega) ?_
                refine s1 27 152 2 rfl rfl rfl rfl rfl rfl trivial ?_
                refine e1 160 rfl ?_
                refine tn ?_
                exact again ((n + 1 : Nat)) [] (show (n + 1) ≤ l.length from (by omega)) (show l.length - (n + 1) < l.length - n from (by omega)) rfl ⟨rfl, rfl, rfl, rfl, rfl, rfl, rfl, rfl, trivial⟩ trivial
        · skip
          try simp only [cs, ne_eq] at hc10
          refine W_exit ?_
          refine tx ?_
          refine tx ?_
          refine bx ?_
          refine tn ?_
          obtain rfl : n = l.length := (by omega)
          refine r1 ?_
          refine s1 62 8 1 rfl rfl rfl rfl rfl rfl trivial ?_
          refine s1 6 16 2 rfl rfl rfl rfl rfl rfl trivial ?_
          refine s1 7 24 3 rfl rfl rfl rfl rfl rfl trivial ?_
          refine e1 32 rfl ?_
          refine keep [6, 7] rfl ?_
          refine W_ret ?_
          exact out2 6 7 (SV.i (qrank l part tot).1) (SV.i (qrank l part tot).2) (π := []) (hout := []) Try.results19 rfl rfl (by rw [qr_ok (by omega) (by simpa using hc3) (by omega), best_rank hsh.1 hsh.2.2.2 (by omega)]; rfl) (by rw [qr_ok (by omega) (by simpa using hc3) (by omega)]; rfl) rfl rfl trivial ⟨rfl, rfl⟩

theorem lawRank_any (l : List Int) (part tot : Int) (hl : l.length ≤ 9223372036854775807) : Spec Try.prog G0 7 [intsV l, SV.i part, SV.i tot] [] (fun r _ => r = SV.b true) := by
  refine start 33 0 Try.func7 rfl rfl rfl rfl ?_
  refine r1 ?_
  refine s1 6 0 1 rfl rfl rfl rfl rfl rfl trivial ?_
  refine e1 8 rfl ?_
  refine keep [0, 1, 2] rfl ?_
  refine r1 ?_
  refine s1 12 8 1 rfl rfl rfl rfl rfl rfl trivial ?_
  refine s1 13 16 2 rfl rfl rfl rfl rfl rfl trivial ?_
  refine s1 14 24 3 rfl rfl rfl rfl rfl rfl trivial ?_
  refine c1 (rank_any l part tot hl) [] [] 15 32 4 rfl rfl rfl rfl rfl rfl rfl rfl Try.func18 rfl rfl rfl rfl trivial rfl rfl ?_
  refine s1 11 40 5 rfl rfl rfl rfl rfl rfl trivial ?_
  refine s1 16 48 6 rfl rfl rfl rfl rfl rfl trivial ?_
  refine s1 17 56 7 rfl rfl rfl rfl rfl rfl trivial ?_
  refine s1 7 64 8 rfl rfl rfl rfl rfl rfl trivial ?_
  refine s1 8 72 9 rfl rfl rfl rfl rfl rfl trivial ?_
  refine e1 80 rfl ?_
  refine keep [0, 1, 2, 7, 8] rfl ?_
  refine r1 ?_
  refine s1 19 80 1 rfl rfl rfl rfl rfl rfl trivial ?_
  refine s1 20 88 2 rfl rfl rfl rfl rfl rfl trivial ?_
  refine s1 21 96 3 rfl rfl rfl rfl rfl rfl trivial ?_
  refine c1 (refRank_any l part tot hl) [] [] 22 104 4 rfl rfl rfl rfl rfl rfl rfl rfl Try.func19 rfl rfl rfl rfl trivial rfl rfl ?_
  refine s1 18 112 5 rfl rfl rfl rfl rfl rfl trivial ?_
  refine s1 23 120 6 rfl rfl rfl rfl rfl rfl trivial ?_
  refine s1 24 128 7 rfl rfl rfl rfl rfl rfl trivial ?_
  refine s1 9 136 8 rfl rfl rfl rfl rfl rfl trivial ?_
  refine s1 10 144 9 rfl rfl rfl rfl rfl rfl trivial ?_
  refine e1 152 rfl ?_
  refine keep [7, 8, 9, 10] rfl ?_
  refine r1 ?_
  refine s1 25 152 1 rfl rfl rfl rfl rfl rfl trivial ?_
  refine s1 26 160 2 rfl rfl rfl rfl rfl rfl trivial ?_
  refine s1 27 168 3 rfl rfl rfl rfl rfl rfl (by first | trivial | omega) ?_
  refine s1 28 176 4 rfl rfl rfl rfl rfl rfl trivial ?_
  refine ask 28 rfl (fun hg3_28 => ?_) (fun hg3_28 => ?_)
  · skip
    try simp only [cs, ne_eq] at hg3_28
    refine g1 3 true 28 29 5 rfl rfl rfl rfl rfl ?_
    refine s1 29 184 5 rfl rfl rfl rfl rfl rfl trivial ?_
    refine g1 3 true 28 30 6 rfl rfl rfl rfl rfl ?_
    refine s1 30 192 6 rfl rfl rfl rfl rfl rfl trivial ?_
    refine g1 3 true 28 31 7 rfl rfl rfl rfl rfl ?_
    refine s1 31 200 7 rfl rfl rfl rfl rfl rfl (by first | trivial | omega) ?_
    refine s1 32 208 8 rfl rfl rfl rfl rfl rfl trivial ?_
    refine s1 6 216 9 rfl rfl rfl rfl rfl rfl trivial ?_
    refine e1 224 rfl ?_
    refine keep [6] rfl ?_
    refine W_ret ?_
    exact out1 6 (SV.b true) (π := []) (hout := []) Try.results7 rfl (by first | (simp; done) | (simp; rfl) | (simp at *; done)) rfl rfl trivial rfl
  · skip
    try simp only [cs, ne_eq] at hg3_28
    refine g0 3 true 28 29 5 rfl rfl rfl rfl rfl rfl ?_
    refine g0 3 true 28 30 6 rfl rfl rfl rfl rfl rfl ?_
    refine g0 3 true 28 31 7 rfl rfl rfl rfl rfl rfl ?_
    refine s1 32 208 8 rfl rfl rfl rfl rfl rfl trivial ?_
    refine s1 6 216 9 rfl rfl rfl rfl rfl rfl trivial ?_
    refine e1 224 rfl ?_
    refine keep [6] rfl ?_
    refine W_ret ?_
    exact out1 6 (SV.b true) (π := []) (hout := []) Try.results7 rfl (by first | (simp; done) | (simp; rfl) | (simp at *; done)) rfl rfl trivial rfl

end Go.Proofs.Ytlhncpbcbpdcfaa.Nice
