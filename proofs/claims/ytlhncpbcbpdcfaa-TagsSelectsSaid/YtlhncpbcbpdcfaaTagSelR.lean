/- Choosing by matchers: the document and the law. -/
import Derived.Test.YtlhncpbcbpdcfaaTagSel
namespace Go.Proofs.Ytlhncpbcbpdcfaa.Nice
open Go
set_option linter.unusedVariables false
set_option linter.unusedSimpArgs false
set_option maxRecDepth 100000
set_option maxHeartbeats 4000000

theorem meant_any (l : List TagD) (m : MatD) (hl : l.length ≤ 9223372036854775807) : Spec Try.prog GT 49 [tagsV l, matV m] [] (fun r ho => r = SV.b (meantB l m) ∧ ho = []) := by
  refine start 46 0 Try.func49 rfl rfl rfl rfl ?_
  refine r1 ?_
  refine s1 3 0 1 rfl rfl rfl rfl rfl rfl trivial ?_
  refine s1 4 8 2 rfl rfl rfl rfl rfl rfl trivial ?_
  refine e1 16 rfl ?_
  refine keep [0, 3] rfl ?_
  refine r1 ?_
  refine s1 5 16 1 rfl rfl rfl rfl rfl rfl trivial ?_
  refine e1 24 rfl ?_
  refine keep [0, 3, 5] rfl ?_
  refine r1 ?_
  refine s1 6 24 1 rfl rfl rfl rfl rfl rfl trivial ?_
  refine e1 32 rfl ?_
  refine keep [0, 3, 5, 6] rfl ?_
  refine W_seq ?_
  refine r1 ?_
  refine s1 9 32 1 rfl rfl rfl rfl rfl rfl trivial ?_
  refine s1 10 40 2 rfl rfl rfl rfl rfl rfl (by first | trivial | omega) ?_
  refine s1 11 48 3 rfl rfl rfl rfl rfl rfl trivial ?_
  refine e1 56 rfl ?_
  refine keep [3, 5, 6, 9, 10, 11] rfl ?_
  refine W_block ?_
  refine loop (α := Nat) 1 (fun n => [(3, .ptr 0 0 0), (5, SV.b (tagB l m (n))), (6, SV.b (keyB l m (n))), (9, tagsV l), (10, SV.i l.length), (11, SV.i (n))]) (fun n => [some (.cells 67 3 [SV.i m.kind, .d (.val (.string m.key)), .d (.val (.string m.val))])]) (fun n => (n) ≤ l.length) (fun n => l.length - (n)) (((0) : Nat)) [0] (fun _ => rfl) (show (0) ≤ l.length from (Nat.zero_le _)) rfl ⟨rfl, rfl, rfl, rfl, rfl, rfl, trivial⟩ ⟨rfl, trivial⟩ (fun n hx => ?_)
  show W _ _ _ ⟨tOf [(3, .ptr 0 0 0), (5, SV.b (tagB l m n)), (6, SV.b (keyB l m n)), (9, tagsV l), (10, SV.i l.length), (11, SV.i n)], hOf [some (.cells 67 3 [SV.i m.kind, .d (.val (.string m.key)), .d (.val (.string m.val))])], 1⟩
  have hx : n ≤ l.length := hx
  refine r1 ?_
  refine s1 12 1 1 rfl rfl rfl rfl rfl rfl (by first | trivial | omega) ?_
  refine e1 9 rfl ?_
  refine keep [3, 5, 6, 9, 10, 11, 12] rfl ?_
  refine W_seq ?_
  refine q1 rfl (fun hc4 => ?_) (fun hc4 => ?_)
  · skip
    try simp only [cs, ne_eq] at hc4
    refine W_skip ?_
    refine tn ?_
    refine W_seq ?_
    refine W_block ?_
    refine r1 ?_
    refine s1 13 9 1 rfl rfl rfl rfl rfl rfl (by first | trivial | omega) ?_
    refine s1 14 17 2 rfl rfl rfl rfl rfl rfl (by first | trivial | omega) ?_
    refine s1 8 25 3 rfl rfl rfl rfl rfl rfl trivial ?_
    refine s0 33 4 rfl rfl rfl rfl rfl (by first | trivial | omega) ?_
    refine e1 41 rfl ?_
    refine keep [3, 5, 6, 8, 9, 10, 11] rfl ?_
    refine r1 ?_
    refine s1 15 41 1 rfl rfl rfl rfl rfl rfl trivial ?_
    refine s1 16 49 2 rfl rfl rfl rfl rfl rfl trivial ?_
    refine ask 16 rfl (fun hg6_16 => ?_) (fun hg6_16 => ?_)
    · skip
      try simp only [cs, ne_eq] at hg6_16
      refine g0 1 false 16 17 3 rfl rfl rfl rfl rfl rfl ?_
      refine g0 1 false 16 18 4 rfl rfl rfl rfl rfl rfl ?_
      refine g0 1 false 16 19 5 rfl rfl rfl rfl rfl rfl ?_
      refine g0 1 false 16 20 6 rfl rfl rfl rfl rfl rfl ?_
      refine s1 21 89 7 rfl rfl rfl rfl rfl rfl trivial ?_
      refine s1 5 97 8 rfl rfl rfl rfl rfl rfl trivial ?_
      refine e1 105 rfl ?_
      refine keep [3, 5, 6, 8, 9, 10, 11] rfl ?_
      refine r0 ?_
      refine s1 22 105 1 rfl rfl rfl rfl rfl rfl trivial ?_
      refine s1 23 113 2 rfl rfl rfl rfl rfl rfl trivial ?_
      refine ask 23 rfl (fun hg7_23 => ?_) (fun hg7_23 => ?_)
      · skip
        try simp only [cs, ne_eq] at hg7_23
        refine g0 1 false 23 24 3 rfl rfl rfl rfl rfl rfl ?_
        refine g0 1 false 23 25 4 rfl rfl rfl rfl rfl rfl ?_
        refine g0 1 false 23 26 5 rfl rfl rfl rfl rfl rfl ?_
        refine g0 1 false 23 27 6 rfl rfl rfl rfl rfl rfl ?_
        refine g0 1 false 23 28 7 rfl rfl rfl rfl rfl rfl ?_
        refine g0 1 false 23 29 8 rfl rfl rfl rfl rfl rfl ?_
        refine s1 30 169 9 rfl rfl rfl rfl rfl rfl trivial ?_
        refine s1 6 177 10 rfl rfl rfl rfl rfl rfl trivial ?_
        refine e1 185 rfl ?_
        refine bn ?_
        refine tn ?_
        refine r0 ?_
        refine sA 31 185 1 rfl rfl rfl rfl rfl rfl rfl rfl rfl (by unfold inRange; omega) ?_
        refine s1 11 193 2 rfl rfl rfl rfl rfl rfl trivial ?_
        refine e1 201 rfl ?_
        refine tn ?_
        exact again ((n + 1 : Nat)) [0] (show (n + 1) ≤ l.length from (by omega)) (show l.length - (n + 1) < l.length - n from (by omega)) rfl ⟨rfl, (by show SV.b _ = SV.b _; rw [tagB_succ, hg6_16]; first | rfl | exact congrArg SV.b (eq_tag (l.getD n default) m)), (by show SV.b _ = SV.b _; rw [keyB_succ, hg7_23]; first | rfl | exact congrArg SV.b (eq_key (l.getD n default) m)), rfl, rfl, rfl, trivial⟩ ⟨rfl, trivial⟩
      · skip
        try simp only [cs, ne_eq] at hg7_23
        refine g1 1 false 23 24 3 rfl rfl rfl rfl rfl ?_
        refine s1 24 121 3 rfl rfl rfl rfl rfl rfl trivial ?_
        refine g1 1 false 23 25 4 rfl rfl rfl rfl rfl ?_
        refine s1 25 129 4 rfl rfl rfl rfl rfl rfl (by first | trivial | omega) ?_
        refine g1 1 false 23 26 5 rfl rfl rfl rfl rfl ?_
        refine s1 26 137 5 rfl rfl rfl rfl rfl rfl trivial ?_
        refine g1 1 false 23 27 6 rfl rfl rfl rfl rfl ?_
        refine s1 27 145 6 rfl rfl rfl rfl rfl rfl trivial ?_
        refine g1 1 false 23 28 7 rfl rfl rfl rfl rfl ?_
        refine s1 28 153 7 rfl rfl rfl rfl rfl rfl (by first | trivial | omega) ?_
        refine g1 1 false 23 29 8 rfl rfl rfl rfl rfl ?_
        refine s1 29 161 8 rfl rfl rfl rfl rfl rfl (by first | trivial | omega) ?_
        refine s1 30 169 9 rfl rfl rfl rfl rfl rfl trivial ?_
        refine s1 6 177 10 rfl rfl rfl rfl rfl rfl trivial ?_
        refine e1 185 rfl ?_
        refine bn ?_
        refine tn ?_
        refine r0 ?_
        refine sA 31 185 1 rfl rfl rfl rfl rfl rfl rfl rfl rfl (by unfold inRange; omega) ?_
        refine s1 11 193 2 rfl rfl rfl rfl rfl rfl trivial ?_
        refine e1 201 rfl ?_
        refine tn ?_
        exact again ((n + 1 : Nat)) [0] (show (n + 1) ≤ l.length from (by omega)) (show l.length - (n + 1) < l.length - n from (by omega)) rfl ⟨rfl, (by show SV.b _ = SV.b _; rw [tagB_succ, hg6_16]; first | rfl | exact congrArg SV.b (eq_tag (l.getD n default) m)), (by show SV.b _ = SV.b _; rw [keyB_succ, hg7_23]; first | rfl | exact congrArg SV.b (eq_key (l.getD n default) m)), rfl, rfl, rfl, trivial⟩ ⟨rfl, trivial⟩
    · skip
      try simp only [cs, ne_eq] at hg6_16
      refine g1 1 false 16 17 3 rfl rfl rfl rfl rfl ?_
      refine s1 17 57 3 rfl rfl rfl rfl rfl rfl (by first | trivial | omega) ?_
      refine g1 1 false 16 18 4 rfl rfl rfl rfl rfl ?_
      refine s1 18 65 4 rfl rfl rfl rfl rfl rfl trivial ?_
      refine g1 1 false 16 19 5 rfl rfl rfl rfl rfl ?_
      refine s1 19 73 5 rfl rfl rfl rfl rfl rfl (by first | trivial | omega) ?_
      refine g1 1 false 16 20 6 rfl rfl rfl rfl rfl ?_
      refine sEq (op := .eql) 20 81 6 rfl rfl rfl rfl rfl rfl rfl rfl rfl (by kernel_rfl) (by kernel_rfl) rfl (.inl ⟨rfl, rfl⟩) ?_
      refine s1 21 89 7 rfl rfl rfl rfl rfl rfl trivial ?_
      refine s1 5 97 8 rfl rfl rfl rfl rfl rfl trivial ?_
      refine e1 105 rfl ?_
      refine keep [3, 5, 6, 8, 9, 10, 11] rfl ?_
      refine r0 ?_
      refine s1 22 105 1 rfl rfl rfl rfl rfl rfl trivial ?_
      refine s1 23 113 2 rfl rfl rfl rfl rfl rfl trivial ?_
      refine ask 23 rfl (fun hg7_23 => ?_) (fun hg7_23 => ?_)
      · skip
        try simp only [cs, ne_eq] at hg7_23
        refine g0 1 false 23 24 3 rfl rfl rfl rfl rfl rfl ?_
        refine g0 1 false 23 25 4 rfl rfl rfl rfl rfl rfl ?_
        refine g0 1 false 23 26 5 rfl rfl rfl rfl rfl rfl ?_
        refine g0 1 false 23 27 6 rfl rfl rfl rfl rfl rfl ?_
        refine g0 1 false 23 28 7 rfl rfl rfl rfl rfl rfl ?_
        refine g0 1 false 23 29 8 rfl rfl rfl rfl rfl rfl ?_
        refine s1 30 169 9 rfl rfl rfl rfl rfl rfl trivial ?_
        refine s1 6 177 10 rfl rfl rfl rfl rfl rfl trivial ?_
        refine e1 185 rfl ?_
        refine bn ?_
        refine tn ?_
        refine r0 ?_
        refine sA 31 185 1 rfl rfl rfl rfl rfl rfl rfl rfl rfl (by unfold inRange; omega) ?_
        refine s1 11 193 2 rfl rfl rfl rfl rfl rfl trivial ?_
        refine e1 201 rfl ?_
        refine tn ?_
        exact again ((n + 1 : Nat)) [0] (show (n + 1) ≤ l.length from (by omega)) (show l.length - (n + 1) < l.length - n from (by omega)) rfl ⟨rfl, (by show SV.b _ = SV.b _; rw [tagB_succ, hg6_16]; first | rfl | exact congrArg SV.b (eq_tag (l.getD n default) m)), (by show SV.b _ = SV.b _; rw [keyB_succ, hg7_23]; first | rfl | exact congrArg SV.b (eq_key (l.getD n default) m)), rfl, rfl, rfl, trivial⟩ ⟨rfl, trivial⟩
      · skip
        try simp only [cs, ne_eq] at hg7_23
        refine g1 1 false 23 24 3 rfl rfl rfl rfl rfl ?_
        refine s1 24 121 3 rfl rfl rfl rfl rfl rfl trivial ?_
        refine g1 1 false 23 25 4 rfl rfl rfl rfl rfl ?_
        refine s1 25 129 4 rfl rfl rfl rfl rfl rfl (by first | trivial | omega) ?_
        refine g1 1 false 23 26 5 rfl rfl rfl rfl rfl ?_
        refine s1 26 137 5 rfl rfl rfl rfl rfl rfl trivial ?_
        refine g1 1 false 23 27 6 rfl rfl rfl rfl rfl ?_
        refine s1 27 145 6 rfl rfl rfl rfl rfl rfl trivial ?_
        refine g1 1 false 23 28 7 rfl rfl rfl rfl rfl ?_
        refine s1 28 153 7 rfl rfl rfl rfl rfl rfl (by first | trivial | omega) ?_
        refine g1 1 false 23 29 8 rfl rfl rfl rfl rfl ?_
        refine s1 29 161 8 rfl rfl rfl rfl rfl rfl (by first | trivial | omega) ?_
        refine s1 30 169 9 rfl rfl rfl rfl rfl rfl trivial ?_
        refine s1 6 177 10 rfl rfl rfl rfl rfl rfl trivial ?_
        refine e1 185 rfl ?_
        refine bn ?_
        refine tn ?_
        refine r0 ?_
        refine sA 31 185 1 rfl rfl rfl rfl rfl rfl rfl rfl rfl (by unfold inRange; omega) ?_
        refine s1 11 193 2 rfl rfl rfl rfl rfl rfl trivial ?_
        refine e1 201 rfl ?_
        refine tn ?_
        exact again ((n + 1 : Nat)) [0] (show (n + 1) ≤ l.length from (by omega)) (show l.length - (n + 1) < l.length - n from (by omega)) rfl ⟨rfl, (by show SV.b _ = SV.b _; rw [tagB_succ, hg6_16]; first | rfl | exact congrArg SV.b (eq_tag (l.getD n default) m)), (by show SV.b _ = SV.b _; rw [keyB_succ, hg7_23]; first | rfl | exact congrArg SV.b (eq_key (l.getD n default) m)), rfl, rfl, rfl, trivial⟩ ⟨rfl, trivial⟩
  · skip
    try simp only [cs, ne_eq] at hc4
    refine W_exit ?_
    refine tx ?_
    refine tx ?_
    refine bx ?_
    refine tn ?_
    refine W_seq ?_
    obtain rfl : n = l.length := (by omega)
    refine r1 ?_
    refine s1 32 9 1 rfl rfl rfl rfl rfl rfl trivial ?_
    refine s1 33 17 2 rfl rfl rfl rfl rfl rfl (by first | trivial | omega) ?_
    refine e1 25 rfl ?_
    refine keep [5, 6, 33] rfl ?_
    refine W_block ?_
    refine r1 ?_
    refine s1 35 25 1 rfl rfl rfl rfl rfl rfl (by first | trivial | omega) ?_
    refine s1 34 33 2 rfl rfl rfl rfl rfl rfl trivial ?_
    refine e1 41 rfl ?_
    refine keep [5, 6, 33, 34] rfl ?_
    refine q1 rfl (fun hc10 => ?_) (fun hc10 => ?_)
    · skip
      try simp only [cs, ne_eq] at hc10
      refine r1 ?_
      refine s1 36 41 1 rfl rfl rfl rfl rfl rfl trivial ?_
      refine s1 4 49 2 rfl rfl rfl rfl rfl rfl trivial ?_
      refine e1 57 rfl ?_
      refine keep [4] rfl ?_
      refine W_ret ?_
      refine br ?_
      refine tr ?_
      exact out1 4 (SV.b (meantB l m)) (π := []) (hout := []) Try.results49 rfl (by first | (rw [meant_1 (by assumption)]; rfl) | (rw [meant_2 (by assumption)]; rfl) | (rw [meant_3 (by assumption)]; rfl) | (rw [meant_4 (by assumption) (by assumption) (by assumption)]; rfl)) rfl rfl trivial ⟨rfl, rfl⟩
    · skip
      try simp only [cs, ne_eq] at hc10
      refine r1 ?_
      refine s1 38 41 1 rfl rfl rfl rfl rfl rfl (by first | trivial | omega) ?_
      refine s1 37 49 2 rfl rfl rfl rfl rfl rfl trivial ?_
      refine e1 57 rfl ?_
      refine keep [5, 6, 33, 37] rfl ?_
      refine q1 rfl (fun hc12 => ?_) (fun hc12 => ?_)
      · skip
        try simp only [cs, ne_eq] at hc12
        refine r1 ?_
        refine s1 39 57 1 rfl rfl rfl rfl rfl rfl trivial ?_
        refine s1 40 65 2 rfl rfl rfl rfl rfl rfl trivial ?_
        refine s1 4 73 3 rfl rfl rfl rfl rfl rfl trivial ?_
        refine e1 81 rfl ?_
        refine keep [4] rfl ?_
        refine W_ret ?_
        refine br ?_
        refine tr ?_
        exact out1 4 (SV.b (meantB l m)) (π := []) (hout := []) Try.results49 rfl (by first | (rw [meant_1 (by assumption)]; rfl) | (rw [meant_2 (by assumption)]; rfl) | (rw [meant_3 (by assumption)]; rfl) | (rw [meant_4 (by assumption) (by assumption) (by assumption)]; rfl)) rfl rfl trivial ⟨rfl, rfl⟩
      · skip
        try simp only [cs, ne_eq] at hc12
        refine r1 ?_
        refine s1 42 57 1 rfl rfl rfl rfl rfl rfl (by first | trivial | omega) ?_
        refine s1 41 65 2 rfl rfl rfl rfl rfl rfl trivial ?_
        refine e1 73 rfl ?_
        refine keep [6, 41] rfl ?_
        refine q1 rfl (fun hc14 => ?_) (fun hc14 => ?_)
        · skip
          try simp only [cs, ne_eq] at hc14
          refine r1 ?_
          refine s1 43 73 1 rfl rfl rfl rfl rfl rfl trivial ?_
          refine s1 4 81 2 rfl rfl rfl rfl rfl rfl trivial ?_
          refine e1 89 rfl ?_
          refine keep [4] rfl ?_
          refine W_ret ?_
          refine br ?_
          refine tr ?_
          exact out1 4 (SV.b (meantB l m)) (π := []) (hout := []) Try.results49 rfl (by first | (rw [meant_1 (by assumption)]; rfl) | (rw [meant_2 (by assumption)]; rfl) | (rw [meant_3 (by assumption)]; rfl) | (rw [meant_4 (by assumption) (by assumption) (by assumption)]; rfl)) rfl rfl trivial ⟨rfl, rfl⟩
        · skip
          try simp only [cs, ne_eq] at hc14
          refine W_skip ?_
          refine bn ?_
          refine tn ?_
          refine r1 ?_
          refine s1 44 73 1 rfl rfl rfl rfl rfl rfl trivial ?_
          refine s1 45 81 2 rfl rfl rfl rfl rfl rfl trivial ?_
          refine s1 4 89 3 rfl rfl rfl rfl rfl rfl trivial ?_
          refine e1 97 rfl ?_
          refine keep [4] rfl ?_
          refine W_ret ?_
          exact out1 4 (SV.b (meantB l m)) (π := []) (hout := []) Try.results49 rfl (by first | (rw [meant_1 (by assumption)]; rfl) | (rw [meant_2 (by assumption)]; rfl) | (rw [meant_3 (by assumption)]; rfl) | (rw [meant_4 (by assumption) (by assumption) (by assumption)]; rfl)) rfl rfl trivial ⟨rfl, rfl⟩

theorem refSelect_any (ss : List (List TagD)) (ms : List MatD) (hin : TagsIn ss) (hms : MatsIn ms) (p : Bool) (hp : p = true ↔ TagsOk ss) : Spec Try.prog GT 23 [serV ss ss.length, matsV ms] [] (fun r ho => r = SV.tup [intsV (selP p ss ms).1, SV.i (selP p ss ms).2] ∧ ho = []) := by
  have hmn := hms.n
  refine start 88 0 Try.func23 rfl rfl rfl rfl ?_
  refine r1 ?_
  refine s1 4 0 1 rfl rfl rfl rfl rfl rfl trivial ?_
  refine s1 5 8 2 rfl rfl rfl rfl rfl rfl trivial ?_
  refine e1 16 rfl ?_
  refine keep [0, 1] rfl ?_
  refine W_seq ?_
  refine r1 ?_
  refine s1 14 16 1 rfl rfl rfl rfl rfl rfl trivial ?_
  refine c1 (refTagsMay_any ss hin p hp) [] [] 15 24 2 rfl rfl rfl rfl rfl rfl rfl rfl Try.func21 rfl rfl rfl rfl trivial rfl rfl ?_
  refine s1 16 32 3 rfl rfl rfl rfl rfl rfl trivial ?_
  refine e1 40 rfl ?_
  refine keep [0, 1, 16] rfl ?_
  refine q1 rfl (fun hc1 => ?_) (fun hc1 => ?_)
  · skip
    try simp only [cs, ne_eq] at hc1
    refine r1 ?_
    refine s1 4 40 1 rfl rfl rfl rfl rfl rfl trivial ?_
    refine s1 5 48 2 rfl rfl rfl rfl rfl rfl trivial ?_
    refine e1 56 rfl ?_
    refine keep [4, 5] rfl ?_
    refine nilv 4 1 (intsF []) rfl ?_
    refine W_ret ?_
    refine tr ?_
    exact out2 4 5 (intsV (selP p ss ms).1) (SV.i (selP p ss ms).2) (π := []) (hout := []) Try.results23 rfl rfl (by rw [sel_form (by simpa using hc1)]; rfl) (by rw [sel_form (by simpa using hc1)]; rfl) rfl rfl trivial ⟨rfl, rfl⟩
  · skip
    try simp only [cs, ne_eq] at hc1
    refine W_skip ?_
    refine tn ?_
    refine W_seq ?_
    have hpt : p = true := (by simpa using hc1)
    have hok := hp.1 hpt
    have h40 := hok.1
    refine r1 ?_
    refine s1 17 40 1 rfl rfl rfl rfl rfl rfl trivial ?_
    refine s1 18 48 2 rfl rfl rfl rfl rfl rfl (by first | trivial | omega) ?_
    refine s1 19 56 3 rfl rfl rfl rfl rfl rfl (by first | trivial | omega) ?_
    refine e1 64 rfl ?_
    refine keep [0, 1, 19] rfl ?_
    refine q1 rfl (fun hc3 => ?_) (fun hc3 => ?_)
    · skip
      try simp only [cs, ne_eq] at hc3
      refine r1 ?_
      refine s1 4 64 1 rfl rfl rfl rfl rfl rfl trivial ?_
      refine s1 5 72 2 rfl rfl rfl rfl rfl rfl trivial ?_
      refine e1 80 rfl ?_
      refine keep [4, 5] rfl ?_
      refine nilv 4 1 (intsF []) rfl ?_
      refine W_ret ?_
      refine tr ?_
      exact out2 4 5 (intsV (selP p ss ms).1) (SV.i (selP p ss ms).2) (π := []) (hout := []) Try.results23 rfl rfl (by rw [sel_size (by simpa using hc1) (by omega)]; rfl) (by rw [sel_size (by simpa using hc1) (by omega)]; rfl) rfl rfl trivial ⟨rfl, rfl⟩
    · skip
      try simp only [cs, ne_eq] at hc3
      refine W_skip ?_
      refine tn ?_
      refine W_seq ?_
      refine r1 ?_
      refine s1 20 64 1 rfl rfl rfl rfl rfl rfl trivial ?_
      refine s1 21 72 2 rfl rfl rfl rfl rfl rfl (by first | trivial | omega) ?_
      refine s1 22 80 3 rfl rfl rfl rfl rfl rfl trivial ?_
      refine e1 88 rfl ?_
      refine keep [0, 1, 20, 21, 22] rfl ?_
      refine W_block ?_
      refine loop (α := Nat) 0 (fun n => [(0, serV ss ss.length), (1, matsV ms), (20, matsV ms), (21, SV.i ms.length), (22, SV.i (n))]) (fun n => []) (fun n => (n) ≤ ms.length ∧ ∀ j, j < (n) → faultB (ms.getD j default) = 0) (fun n => ms.length - (n)) (((0) : Nat)) [] (fun _ => rfl) (show (0) ≤ ms.length ∧ ∀ j, j < (0) → faultB (ms.getD j default) = 0 from ⟨Nat.zero_le _, fun j hj => by omega⟩) rfl ⟨rfl, rfl, rfl, rfl, rfl, trivial⟩ trivial (fun n hx => ?_)
      show W _ _ _ ⟨tOf [(0, serV ss ss.length), (1, matsV ms), (20, matsV ms), (21, SV.i ms.length), (22, SV.i n)], hOf [], 0⟩
      have hx : n ≤ ms.length ∧ ∀ j, j < n → faultB (ms.getD j default) = 0 := hx
      obtain ⟨hn, hno⟩ := hx
      refine r1 ?_
      refine s1 23 0 1 rfl rfl rfl rfl rfl rfl (by first | trivial | omega) ?_
      refine e1 8 rfl ?_
      refine keep [0, 1, 20, 21, 22, 23] rfl ?_
      refine W_seq ?_
      refine q1 rfl (fun hc6 => ?_) (fun hc6 => ?_)
      · skip
        try simp only [cs, ne_eq] at hc6
        refine W_skip ?_
        refine tn ?_
        refine W_seq ?_
        refine W_block ?_
        refine r1 ?_
        refine s1 24 8 1 rfl rfl rfl rfl rfl rfl (by first | trivial | omega) ?_
        refine s1 25 16 2 rfl rfl rfl rfl rfl rfl (by first | trivial | omega) ?_
        refine val 25 (matV (ms.getD n default)) rfl (by first | rfl | (simp only [Nat.zero_add, Int.toNat_natCast]; rfl)) ?_
        refine s1 7 24 3 rfl rfl rfl rfl rfl rfl trivial ?_
        refine s0 32 4 rfl rfl rfl rfl rfl (by first | trivial | omega) ?_
        refine e1 40 rfl ?_
        refine keep [0, 1, 7, 20, 21, 22] rfl ?_
        refine W_seq ?_
        refine r1 ?_
        refine s1 26 40 1 rfl rfl rfl rfl rfl rfl trivial ?_
        refine s1 27 48 2 rfl rfl rfl rfl rfl rfl (by first | trivial | omega) ?_
        refine s1 28 56 3 rfl rfl rfl rfl rfl rfl (by first | trivial | omega) ?_
        refine s1 29 64 4 rfl rfl rfl rfl rfl rfl trivial ?_
        refine ask 29 rfl (fun hg8_29 => ?_) (fun hg8_29 => ?_)
        · skip
          try simp only [cs, ne_eq] at hg8_29
          refine g0 3 false 29 30 5 rfl rfl rfl rfl rfl rfl ?_
          refine g0 3 false 29 31 6 rfl rfl rfl rfl rfl rfl ?_
          refine g0 3 false 29 32 7 rfl rfl rfl rfl rfl rfl ?_
          refine s1 33 96 8 rfl rfl rfl rfl rfl rfl trivial ?_
          refine e1 104 rfl ?_
          refine keep [0, 1, 7, 20, 21, 22, 33] rfl ?_
          refine q1 rfl (fun hc8 => ?_) (fun hc8 => ?_)
          · skip
            try simp only [cs, ne_eq] at hc8
            refine r1 ?_
            refine s1 4 104 1 rfl rfl rfl rfl rfl rfl trivial ?_
            refine s1 5 112 2 rfl rfl rfl rfl rfl rfl trivial ?_
            refine e1 120 rfl ?_
            refine keep [4, 5] rfl ?_
            refine nilv 4 1 (intsF []) rfl ?_
            refine W_ret ?_
            refine tr ?_
            refine br ?_
            refine tr ?_
            refine tr ?_
            refine br ?_
            refine tr ?_
            have hF : faultB (ms.getD n default) = 3 := (by first | (exfalso; omega) | exact f3 (by omega) | exact f4k (by omega) (by omega) (by assumption) | exact f4v (by omega) (by omega) (by assumption) (by assumption) | exact f4s (by omega) (by omega) (by assumption) (by assumption))
            exact out2 4 5 (intsV (selP p ss ms).1) (SV.i (selP p ss ms).2) (π := []) (hout := []) Try.results23 rfl rfl (by rw [sel_fault hpt (by omega) (by omega) hno (by rw [hF]; decide), hF]; rfl) (by rw [sel_fault hpt (by omega) (by omega) hno (by rw [hF]; decide), hF]; rfl) rfl rfl trivial ⟨rfl, rfl⟩
          · skip
            exact absurd hc8 (by decide)
        · skip
          try simp only [cs, ne_eq] at hg8_29
          refine g1 3 false 29 30 5 rfl rfl rfl rfl rfl ?_
          refine s1 30 72 5 rfl rfl rfl rfl rfl rfl trivial ?_
          refine g1 3 false 29 31 6 rfl rfl rfl rfl rfl ?_
          refine s1 31 80 6 rfl rfl rfl rfl rfl rfl (by first | trivial | omega) ?_
          refine g1 3 false 29 32 7 rfl rfl rfl rfl rfl ?_
          refine s1 32 88 7 rfl rfl rfl rfl rfl rfl (by first | trivial | omega) ?_
          refine s1 33 96 8 rfl rfl rfl rfl rfl rfl trivial ?_
          refine e1 104 rfl ?_
          refine keep [0, 1, 7, 20, 21, 22, 33] rfl ?_
          refine q1 rfl (fun hc8 => ?_) (fun hc8 => ?_)
          · skip
            try simp only [cs, ne_eq] at hc8
            refine r1 ?_
            refine s1 4 104 1 rfl rfl rfl rfl rfl rfl trivial ?_
            refine s1 5 112 2 rfl rfl rfl rfl rfl rfl trivial ?_
            refine e1 120 rfl ?_
            refine keep [4, 5] rfl ?_
            refine nilv 4 1 (intsF []) rfl ?_
            refine W_ret ?_
            refine tr ?_
            refine br ?_
            refine tr ?_
            refine tr ?_
            refine br ?_
            refine tr ?_
            have hF : faultB (ms.getD n default) = 3 := (by first | (exfalso; omega) | exact f3 (by omega) | exact f4k (by omega) (by omega) (by assumption) | exact f4v (by omega) (by omega) (by assumption) (by assumption) | exact f4s (by omega) (by omega) (by assumption) (by assumption))
            exact out2 4 5 (intsV (selP p ss ms).1) (SV.i (selP p ss ms).2) (π := []) (hout := []) Try.results23 rfl rfl (by rw [sel_fault hpt (by omega) (by omega) hno (by rw [hF]; decide), hF]; rfl) (by rw [sel_fault hpt (by omega) (by omega) hno (by rw [hF]; decide), hF]; rfl) rfl rfl trivial ⟨rfl, rfl⟩
          · skip
            try simp only [cs, ne_eq] at hc8
            refine W_skip ?_
            refine tn ?_
            refine W_seq ?_
            refine r1 ?_
            refine s1 34 104 1 rfl rfl rfl rfl rfl rfl trivial ?_
            refine s1 35 112 2 rfl rfl rfl rfl rfl rfl trivial ?_
            refine s1 36 120 3 rfl rfl rfl rfl rfl rfl (by first | trivial | omega) ?_
            refine c1 (good_any (ms.getD n default).key (hms.k n)) [] [] 37 128 4 rfl rfl rfl rfl rfl rfl rfl rfl Try.func44 rfl rfl rfl rfl trivial rfl rfl ?_
            refine s1 38 136 5 rfl rfl rfl rfl rfl rfl trivial ?_
            refine e1 144 rfl ?_
            refine keep [0, 1, 7, 20, 21, 22, 38] rfl ?_
            refine q1 rfl (fun hc10 => ?_) (fun hc10 => ?_)
            · skip
              try simp only [cs, ne_eq] at hc10
              refine r1 ?_
              refine s1 4 144 1 rfl rfl rfl rfl rfl rfl trivial ?_
              refine s1 5 152 2 rfl rfl rfl rfl rfl rfl trivial ?_
              refine e1 160 rfl ?_
              refine keep [4, 5] rfl ?_
              refine nilv 4 1 (intsF []) rfl ?_
              refine W_ret ?_
              refine tr ?_
              refine br ?_
              refine tr ?_
              refine tr ?_
              refine br ?_
              refine tr ?_
              have hF : faultB (ms.getD n default) = 4 := (by first | (exfalso; omega) | exact f3 (by omega) | exact f4k (by omega) (by omega) (by assumption) | exact f4v (by omega) (by omega) (by assumption) (by assumption) | exact f4s (by omega) (by omega) (by assumption) (by assumption))
              exact out2 4 5 (intsV (selP p ss ms).1) (SV.i (selP p ss ms).2) (π := []) (hout := []) Try.results23 rfl rfl (by rw [sel_fault hpt (by omega) (by omega) hno (by rw [hF]; decide), hF]; rfl) (by rw [sel_fault hpt (by omega) (by omega) hno (by rw [hF]; decide), hF]; rfl) rfl rfl trivial ⟨rfl, rfl⟩
            · skip
              try simp only [cs, ne_eq] at hc10
              refine W_skip ?_
              refine tn ?_
              refine r1 ?_
              refine s1 39 144 1 rfl rfl rfl rfl rfl rfl trivial ?_
              refine s1 40 152 2 rfl rfl rfl rfl rfl rfl (by first | trivial | omega) ?_
              refine s1 41 160 3 rfl rfl rfl rfl rfl rfl (by first | trivial | omega) ?_
              refine s1 42 168 4 rfl rfl rfl rfl rfl rfl trivial ?_
              refine ask 42 rfl (fun hg12_42 => ?_) (fun hg12_42 => ?_)
              · skip
                try simp only [cs, ne_eq] at hg12_42
                refine g1 3 true 42 43 5 rfl rfl rfl rfl rfl ?_
                refine s1 43 176 5 rfl rfl rfl rfl rfl rfl trivial ?_
                refine g1 3 true 42 44 6 rfl rfl rfl rfl rfl ?_
                refine s1 44 184 6 rfl rfl rfl rfl rfl rfl trivial ?_
                refine g1 3 true 42 45 7 rfl rfl rfl rfl rfl ?_
                refine s1 45 192 7 rfl rfl rfl rfl rfl rfl (by first | trivial | omega) ?_
                refine g1 3 true 42 46 8 rfl rfl rfl rfl rfl ?_
                refine c1 (good_any (ms.getD n default).val (hms.v n)) [] [] 46 200 8 rfl rfl rfl rfl rfl rfl rfl rfl Try.func44 rfl rfl rfl rfl trivial rfl rfl ?_
                refine g1 3 true 42 47 9 rfl rfl rfl rfl rfl ?_
                refine s1 47 208 9 rfl rfl rfl rfl rfl rfl trivial ?_
                refine s1 48 216 10 rfl rfl rfl rfl rfl rfl trivial ?_
                refine s1 49 224 11 rfl rfl rfl rfl rfl rfl trivial ?_
                refine ask 49 rfl (fun hg12_49 => ?_) (fun hg12_49 => ?_)
                · skip
                  try simp only [cs, ne_eq] at hg12_49
                  refine g0 10 false 49 50 12 rfl rfl rfl rfl rfl rfl ?_
                  refine g0 10 false 49 51 13 rfl rfl rfl rfl rfl rfl ?_
                  refine g0 10 false 49 52 14 rfl rfl rfl rfl rfl rfl ?_
                  refine g0 10 false 49 53 15 rfl rfl rfl rfl rfl rfl ?_
                  refine gz 14 true 53 54 16 rfl rfl rfl rfl rfl rfl ?_
                  refine gz 14 true 53 55 17 rfl rfl rfl rfl rfl rfl ?_
                  refine gz 14 true 53 56 18 rfl rfl rfl rfl rfl rfl ?_
                  refine gz 14 true 53 57 19 rfl rfl rfl rfl rfl rfl ?_
                  refine g0 10 false 49 58 20 rfl rfl rfl rfl rfl rfl ?_
                  refine s1 59 304 21 rfl rfl rfl rfl rfl rfl trivial ?_
                  refine e1 312 rfl ?_
                  refine keep [0, 1, 20, 21, 22, 59] rfl ?_
                  refine q1 rfl (fun hc12 => ?_) (fun hc12 => ?_)
                  · skip
                    try simp only [cs, ne_eq] at hc12
                    refine r1 ?_
                    refine s1 4 312 1 rfl rfl rfl rfl rfl rfl trivial ?_
                    refine s1 5 320 2 rfl rfl rfl rfl rfl rfl trivial ?_
                    refine e1 328 rfl ?_
                    refine keep [4, 5] rfl ?_
                    refine nilv 4 1 (intsF []) rfl ?_
                    refine W_ret ?_
                    refine br ?_
                    refine tr ?_
                    refine tr ?_
                    refine br ?_
                    refine tr ?_
                    have hF : faultB (ms.getD n default) = 4 := (by first | (exfalso; omega) | exact f3 (by omega) | exact f4k (by omega) (by omega) (by assumption) | exact f4v (by omega) (by omega) (by assumption) (by assumption) | exact f4s (by omega) (by omega) (by assumption) (by assumption))
                    exact out2 4 5 (intsV (selP p ss ms).1) (SV.i (selP p ss ms).2) (π := []) (hout := []) Try.results23 rfl rfl (by rw [sel_fault hpt (by omega) (by omega) hno (by rw [hF]; decide), hF]; rfl) (by rw [sel_fault hpt (by omega) (by omega) hno (by rw [hF]; decide), hF]; rfl) rfl rfl trivial ⟨rfl, rfl⟩
                  · skip
                    exact absurd hc12 (by decide)
                · skip
                  try simp only [cs, ne_eq] at hg12_49
                  refine g1 10 false 49 50 12 rfl rfl rfl rfl rfl ?_
                  refine s1 50 232 12 rfl rfl rfl rfl rfl rfl trivial ?_
                  refine g1 10 false 49 51 13 rfl rfl rfl rfl rfl ?_
                  refine s1 51 240 13 rfl rfl rfl rfl rfl rfl (by first | trivial | omega) ?_
                  refine g1 10 false 49 52 14 rfl rfl rfl rfl rfl ?_
                  refine s1 52 248 14 rfl rfl rfl rfl rfl rfl (by first | trivial | omega) ?_
                  refine g1 10 false 49 53 15 rfl rfl rfl rfl rfl ?_
                  refine s1 53 256 15 rfl rfl rfl rfl rfl rfl trivial ?_
                  refine ask 53 rfl (fun hg12_53 => ?_) (fun hg12_53 => ?_)
                  · skip
                    try simp only [cs, ne_eq] at hg12_53
                    refine g1 14 true 53 54 16 rfl rfl rfl rfl rfl ?_
                    refine s1 54 264 16 rfl rfl rfl rfl rfl rfl trivial ?_
                    refine g1 14 true 53 55 17 rfl rfl rfl rfl rfl ?_
                    refine s1 55 272 17 rfl rfl rfl rfl rfl rfl trivial ?_
                    refine g1 14 true 53 56 18 rfl rfl rfl rfl rfl ?_
                    refine s1 56 280 18 rfl rfl rfl rfl rfl rfl (by first | trivial | omega) ?_
                    refine g1 14 true 53 57 19 rfl rfl rfl rfl rfl ?_
                    refine s1 57 288 19 rfl rfl rfl rfl rfl rfl (by first | trivial | omega) ?_
                    refine g1 10 false 49 58 20 rfl rfl rfl rfl rfl ?_
                    refine s1 58 296 20 rfl rfl rfl rfl rfl rfl trivial ?_
                    refine s1 59 304 21 rfl rfl rfl rfl rfl rfl trivial ?_
                    refine e1 312 rfl ?_
                    refine keep [0, 1, 20, 21, 22, 59] rfl ?_
                    refine q1 rfl (fun hc12 => ?_) (fun hc12 => ?_)
                    · skip
                      try simp only [cs, ne_eq] at hc12
                      refine r1 ?_
                      refine s1 4 312 1 rfl rfl rfl rfl rfl rfl trivial ?_
                      refine s1 5 320 2 rfl rfl rfl rfl rfl rfl trivial ?_
                      refine e1 328 rfl ?_
                      refine keep [4, 5] rfl ?_
                      refine nilv 4 1 (intsF []) rfl ?_
                      refine W_ret ?_
                      refine br ?_
                      refine tr ?_
                      refine tr ?_
                      refine br ?_
                      refine tr ?_
                      have hF : faultB (ms.getD n default) = 4 := (by first | (exfalso; omega) | exact f3 (by omega) | exact f4k (by omega) (by omega) (by assumption) | exact f4v (by omega) (by omega) (by assumption) (by assumption) | exact f4s (by omega) (by omega) (by assumption) (by assumption))
                      exact out2 4 5 (intsV (selP p ss ms).1) (SV.i (selP p ss ms).2) (π := []) (hout := []) Try.results23 rfl rfl (by rw [sel_fault hpt (by omega) (by omega) hno (by rw [hF]; decide), hF]; rfl) (by rw [sel_fault hpt (by omega) (by omega) hno (by rw [hF]; decide), hF]; rfl) rfl rfl trivial ⟨rfl, rfl⟩
                    · skip
                      try simp only [cs, ne_eq] at hc12
                      refine W_skip ?_
                      refine bn ?_
                      refine tn ?_
                      refine r0 ?_
                      refine sA 60 312 1 rfl rfl rfl rfl rfl rfl rfl rfl rfl (by unfold inRange; omega) ?_
                      refine s1 22 320 2 rfl rfl rfl rfl rfl rfl trivial ?_
                      refine e1 328 rfl ?_
                      refine tn ?_
                      exact again ((n + 1 : Nat)) [] (show (n + 1) ≤ ms.length ∧ ∀ j, j < (n + 1) → faultB (ms.getD j default) = 0 from ⟨by omega, fun j hj => by by_cases e : j = n; (subst e; first | (exfalso; omega) | exact f0l (by omega) (by omega) (by assumption) (by assumption) | exact f0h (by omega) (by omega) (by assumption) (by assumption)); exact hno j (by omega)⟩) (show ms.length - (n + 1) < ms.length - n from (by omega)) rfl ⟨rfl, rfl, rfl, rfl, rfl, trivial⟩ trivial
                  · skip
                    try simp only [cs, ne_eq] at hg12_53
                    refine g0 14 true 53 54 16 rfl rfl rfl rfl rfl rfl ?_
                    refine g0 14 true 53 55 17 rfl rfl rfl rfl rfl rfl ?_
                    refine g0 14 true 53 56 18 rfl rfl rfl rfl rfl rfl ?_
                    refine g0 14 true 53 57 19 rfl rfl rfl rfl rfl rfl ?_
                    refine g1 10 false 49 58 20 rfl rfl rfl rfl rfl ?_
                    refine s1 58 296 20 rfl rfl rfl rfl rfl rfl trivial ?_
                    refine s1 59 304 21 rfl rfl rfl rfl rfl rfl trivial ?_
                    refine e1 312 rfl ?_
                    refine keep [0, 1, 20, 21, 22, 59] rfl ?_
                    refine q1 rfl (fun hc12 => ?_) (fun hc12 => ?_)
                    · skip
                      exact absurd hc12 (by decide)
                    · skip
                      try simp only [cs, ne_eq] at hc12
                      refine W_skip ?_
                      refine bn ?_
                      refine tn ?_
                      refine r0 ?_
                      refine sA 60 312 1 rfl rfl rfl rfl rfl rfl rfl rfl rfl (by unfold inRange; omega) ?_
                      refine s1 22 320 2 rfl rfl rfl rfl rfl rfl trivial ?_
                      refine e1 328 rfl ?_
                      refine tn ?_
                      exact again ((n + 1 : Nat)) [] (show (n + 1) ≤ ms.length ∧ ∀ j, j < (n + 1) → faultB (ms.getD j default) = 0 from ⟨by omega, fun j hj => by by_cases e : j = n; (subst e; first | (exfalso; omega) | exact f0l (by omega) (by omega) (by assumption) (by assumption) | exact f0h (by omega) (by omega) (by assumption) (by assumption)); exact hno j (by omega)⟩) (show ms.length - (n + 1) < ms.length - n from (by omega)) rfl ⟨rfl, rfl, rfl, rfl, rfl, trivial⟩ trivial
              · skip
                try simp only [cs, ne_eq] at hg12_42
                refine g0 3 true 42 43 5 rfl rfl rfl rfl rfl rfl ?_
                refine g0 3 true 42 44 6 rfl rfl rfl rfl rfl rfl ?_
                refine g0 3 true 42 45 7 rfl rfl rfl rfl rfl rfl ?_
                refine g0 3 true 42 46 8 rfl rfl rfl rfl rfl rfl ?_
                refine g0 3 true 42 47 9 rfl rfl rfl rfl rfl rfl ?_
                refine s1 48 216 10 rfl rfl rfl rfl rfl rfl trivial ?_
                refine s1 49 224 11 rfl rfl rfl rfl rfl rfl trivial ?_
                refine g1 10 false 49 50 12 rfl rfl rfl rfl rfl ?_
                refine s1 50 232 12 rfl rfl rfl rfl rfl rfl trivial ?_
                refine g1 10 false 49 51 13 rfl rfl rfl rfl rfl ?_
                refine s1 51 240 13 rfl rfl rfl rfl rfl rfl (by first | trivial | omega) ?_
                refine g1 10 false 49 52 14 rfl rfl rfl rfl rfl ?_
                refine s1 52 248 14 rfl rfl rfl rfl rfl rfl (by first | trivial | omega) ?_
                refine g1 10 false 49 53 15 rfl rfl rfl rfl rfl ?_
                refine s1 53 256 15 rfl rfl rfl rfl rfl rfl trivial ?_
                refine ask 53 rfl (fun hg12_53 => ?_) (fun hg12_53 => ?_)
                · skip
                  try simp only [cs, ne_eq] at hg12_53
                  refine g1 14 true 53 54 16 rfl rfl rfl rfl rfl ?_
                  refine s1 54 264 16 rfl rfl rfl rfl rfl rfl trivial ?_
                  refine g1 14 true 53 55 17 rfl rfl rfl rfl rfl ?_
                  refine s1 55 272 17 rfl rfl rfl rfl rfl rfl trivial ?_
                  refine g1 14 true 53 56 18 rfl rfl rfl rfl rfl ?_
                  refine s1 56 280 18 rfl rfl rfl rfl rfl rfl (by first | trivial | omega) ?_
                  refine g1 14 true 53 57 19 rfl rfl rfl rfl rfl ?_
                  refine s1 57 288 19 rfl rfl rfl rfl rfl rfl (by first | trivial | omega) ?_
                  refine g1 10 false 49 58 20 rfl rfl rfl rfl rfl ?_
                  refine s1 58 296 20 rfl rfl rfl rfl rfl rfl trivial ?_
                  refine s1 59 304 21 rfl rfl rfl rfl rfl rfl trivial ?_
                  refine e1 312 rfl ?_
                  refine keep [0, 1, 20, 21, 22, 59] rfl ?_
                  refine q1 rfl (fun hc12 => ?_) (fun hc12 => ?_)
                  · skip
                    try simp only [cs, ne_eq] at hc12
                    refine r1 ?_
                    refine s1 4 312 1 rfl rfl rfl rfl rfl rfl trivial ?_
                    refine s1 5 320 2 rfl rfl rfl rfl rfl rfl trivial ?_
                    refine e1 328 rfl ?_
                    refine keep [4, 5] rfl ?_
                    refine nilv 4 1 (intsF []) rfl ?_
                    refine W_ret ?_
                    refine br ?_
                    refine tr ?_
                    refine tr ?_
                    refine br ?_
                    refine tr ?_
                    have hF : faultB (ms.getD n default) = 4 := (by first | (exfalso; omega) | exact f3 (by omega) | exact f4k (by omega) (by omega) (by assumption) | exact f4v (by omega) (by omega) (by assumption) (by assumption) | exact f4s (by omega) (by omega) (by assumption) (by assumption))
                    exact out2 4 5 (intsV (selP p ss ms).1) (SV.i (selP p ss ms).2) (π := []) (hout := []) Try.results23 rfl rfl (by rw [sel_fault hpt (by omega) (by omega) hno (by rw [hF]; decide), hF]; rfl) (by rw [sel_fault hpt (by omega) (by omega) hno (by rw [hF]; decide), hF]; rfl) rfl rfl trivial ⟨rfl, rfl⟩
                  · skip
                    try simp only [cs, ne_eq] at hc12
                    refine W_skip ?_
                    refine bn ?_
                    refine tn ?_
                    refine r0 ?_
                    refine sA 60 312 1 rfl rfl rfl rfl rfl rfl rfl rfl rfl (by unfold inRange; omega) ?_
                    refine s1 22 320 2 rfl rfl rfl rfl rfl rfl trivial ?_
                    refine e1 328 rfl ?_
                    refine tn ?_
                    exact again ((n + 1 : Nat)) [] (show (n + 1) ≤ ms.length ∧ ∀ j, j < (n + 1) → faultB (ms.getD j default) = 0 from ⟨by omega, fun j hj => by by_cases e : j = n; (subst e; first | (exfalso; omega) | exact f0l (by omega) (by omega) (by assumption) (by assumption) | exact f0h (by omega) (by omega) (by assumption) (by assumption)); exact hno j (by omega)⟩) (show ms.length - (n + 1) < ms.length - n from (by omega)) rfl ⟨rfl, rfl, rfl, rfl, rfl, trivial⟩ trivial
                · skip
                  try simp only [cs, ne_eq] at hg12_53
                  refine g0 14 true 53 54 16 rfl rfl rfl rfl rfl rfl ?_
                  refine g0 14 true 53 55 17 rfl rfl rfl rfl rfl rfl ?_
                  refine g0 14 true 53 56 18 rfl rfl rfl rfl rfl rfl ?_
                  refine g0 14 true 53 57 19 rfl rfl rfl rfl rfl rfl ?_
                  refine g1 10 false 49 58 20 rfl rfl rfl rfl rfl ?_
                  refine s1 58 296 20 rfl rfl rfl rfl rfl rfl trivial ?_
                  refine s1 59 304 21 rfl rfl rfl rfl rfl rfl trivial ?_
                  refine e1 312 rfl ?_
                  refine keep [0, 1, 20, 21, 22, 59] rfl ?_
                  refine q1 rfl (fun hc12 => ?_) (fun hc12 => ?_)
                  · skip
                    exact absurd hc12 (by decide)
                  · skip
                    try simp only [cs, ne_eq] at hc12
                    refine W_skip ?_
                    refine bn ?_
                    refine tn ?_
                    refine r0 ?_
                    refine sA 60 312 1 rfl rfl rfl rfl rfl rfl rfl rfl rfl (by unfold inRange; omega) ?_
                    refine s1 22 320 2 rfl rfl rfl rfl rfl rfl trivial ?_
                    refine e1 328 rfl ?_
                    refine tn ?_
                    exact again ((n + 1 : Nat)) [] (show (n + 1) ≤ ms.length ∧ ∀ j, j < (n + 1) → faultB (ms.getD j default) = 0 from ⟨by omega, fun j hj => by by_cases e : j = n; (subst e; first | (exfalso; omega) | exact f0l (by omega) (by omega) (by assumption) (by assumption) | exact f0h (by omega) (by omega) (by assumption) (by assumption)); exact hno j (by omega)⟩) (show ms.length - (n + 1) < ms.length - n from (by omega)) rfl ⟨rfl, rfl, rfl, rfl, rfl, trivial⟩ trivial
      · skip
        try simp only [cs, ne_eq] at hc6
        refine W_exit ?_
        refine tx ?_
        refine tx ?_
        refine bx ?_
        refine tn ?_
        obtain rfl : n = ms.length := (by omega)
        refine r1 ?_
        refine s1 8 8 1 rfl rfl rfl rfl rfl rfl trivial ?_
        refine e1 16 rfl ?_
        refine keep [0, 1, 8] rfl ?_
        refine W_seq ?_
        refine r1 ?_
        refine s1 61 16 1 rfl rfl rfl rfl rfl rfl trivial ?_
        refine s1 62 24 2 rfl rfl rfl rfl rfl rfl (by first | trivial | omega) ?_
        refine s1 63 32 3 rfl rfl rfl rfl rfl rfl trivial ?_
        refine e1 40 rfl ?_
        refine keep [1, 8, 61, 62, 63] rfl ?_
        refine W_block ?_
        refine ghostly 8 3 1 (intsF []) rfl ?_
        refine loop (α := Nat) 1 (fun i => [(1, matsV ms), (8, .sl 0 0 (selL ss ms ms.length (i)).length), (61, serV ss ss.length), (62, SV.i ss.length), (63, SV.i (i))]) (fun i => [some (.rows 3 1 (selL ss ms ms.length (i)).length (intsF (selL ss ms ms.length (i))))]) (fun i => (i) ≤ ss.length) (fun i => ss.length - (i)) (((0) : Nat)) [40] (fun _ => rfl) (show (0) ≤ ss.length from (Nat.zero_le _)) rfl ⟨rfl, rfl, rfl, rfl, rfl, trivial⟩ ⟨rfl, trivial⟩ (fun i hx => ?_)
        show W _ _ _ ⟨tOf [(1, matsV ms), (8, .sl 0 0 (selL ss ms ms.length i).length), (61, serV ss ss.length), (62, SV.i ss.length), (63, SV.i i)], hOf [some (.rows 3 1 (selL ss ms ms.length i).length (intsF (selL ss ms ms.length i)))], 1⟩
        have hx : i ≤ ss.length := hx
        have hsl := selL_len ss ms ms.length i
        refine r1 ?_
        refine s1 64 1 1 rfl rfl rfl rfl rfl rfl (by first | trivial | omega) ?_
        refine e1 9 rfl ?_
        refine keep [1, 8, 61, 62, 63, 64] rfl ?_
        refine W_seq ?_
        refine q1 rfl (fun hc17 => ?_) (fun hc17 => ?_)
        · skip
          try simp only [cs, ne_eq] at hc17
          refine W_skip ?_
          refine tn ?_
          refine W_seq ?_
          refine W_block ?_
          refine r1 ?_
          refine s1 65 9 1 rfl rfl rfl rfl rfl rfl trivial ?_
          refine s1 66 17 2 rfl rfl rfl rfl rfl rfl (by first | trivial | omega) ?_
          refine s1 67 25 3 rfl rfl rfl rfl rfl rfl (by first | trivial | omega) ?_
          refine val 67 (tagsV (ss.getD i [])) rfl (by first | rfl | (unfold tagsV; simp only [Int.toNat_natCast, Nat.zero_add]; rfl)) ?_
          refine s1 9 33 4 rfl rfl rfl rfl rfl rfl trivial ?_
          refine s1 10 41 5 rfl rfl rfl rfl rfl rfl trivial ?_
          refine e1 49 rfl ?_
          refine keep [1, 8, 9, 10, 61, 62, 63] rfl ?_
          refine r1 ?_
          refine s1 11 49 1 rfl rfl rfl rfl rfl rfl trivial ?_
          refine e1 57 rfl ?_
          refine keep [1, 8, 9, 10, 11, 61, 62, 63] rfl ?_
          refine W_seq ?_
          refine r1 ?_
          refine s1 68 57 1 rfl rfl rfl rfl rfl rfl trivial ?_
          refine s1 69 65 2 rfl rfl rfl rfl rfl rfl (by first | trivial | omega) ?_
          refine s1 70 73 3 rfl rfl rfl rfl rfl rfl trivial ?_
          refine e1 81 rfl ?_
          refine keep [1, 8, 9, 10, 11, 61, 62, 63, 68, 69, 70] rfl ?_
          refine W_block ?_
          refine loop (α := Nat) 1 (fun n => [(1, matsV ms), (8, .sl 0 0 (selL ss ms ms.length i).length), (9, SV.i i), (10, tagsV (ss.getD i [])), (11, SV.b (allB ss ms (n) i)), (61, serV ss ss.length), (62, SV.i ss.length), (63, SV.i i), (68, matsV ms), (69, SV.i ms.length), (70, SV.i (n))]) (fun n => [some (.rows 3 1 (selL ss ms ms.length i).length (intsF (selL ss ms ms.length i)))]) (fun n => (n) ≤ ms.length) (fun n => ms.length - (n)) (((0) : Nat)) [0] (fun _ => rfl) (show (0) ≤ ms.length from (Nat.zero_le _)) rfl ⟨rfl, rfl, rfl, rfl, rfl, rfl, rfl, rfl, rfl, rfl, rfl, trivial⟩ ⟨rfl, trivial⟩ (fun n hx => ?_)
          show W _ _ _ ⟨tOf [(1, matsV ms), (8, .sl 0 0 (selL ss ms ms.length i).length), (9, SV.i i), (10, tagsV (ss.getD i [])), (11, SV.b (allB ss ms n i)), (61, serV ss ss.length), (62, SV.i ss.length), (63, SV.i i), (68, matsV ms), (69, SV.i ms.length), (70, SV.i n)], hOf [some (.rows 3 1 (selL ss ms ms.length i).length (intsF (selL ss ms ms.length i)))], 1⟩
          have hx : n ≤ ms.length := hx
          refine r1 ?_
          refine s1 71 1 1 rfl rfl rfl rfl rfl rfl (by first | trivial | omega) ?_
          refine e1 9 rfl ?_
          refine keep [1, 8, 9, 10, 11, 61, 62, 63, 68, 69, 70, 71] rfl ?_
          refine W_seq ?_
          refine q1 rfl (fun hc21 => ?_) (fun hc21 => ?_)
          · skip
            try simp only [cs, ne_eq] at hc21
            refine W_skip ?_
            refine tn ?_
            refine W_seq ?_
            refine W_block ?_
            refine r1 ?_
            refine s1 72 9 1 rfl rfl rfl rfl rfl rfl (by first | trivial | omega) ?_
            refine s1 73 17 2 rfl rfl rfl rfl rfl rfl (by first | trivial | omega) ?_
            refine val 73 (matV (ms.getD n default)) rfl (by first | rfl | (simp only [Nat.zero_add, Int.toNat_natCast]; rfl)) ?_
            refine s1 13 25 3 rfl rfl rfl rfl rfl rfl trivial ?_
            refine s0 33 4 rfl rfl rfl rfl rfl (by first | trivial | omega) ?_
            refine e1 41 rfl ?_
            refine keep [1, 8, 9, 10, 11, 13, 61, 62, 63, 68, 69, 70] rfl ?_
            refine r0 ?_
            refine s1 74 41 1 rfl rfl rfl rfl rfl rfl trivial ?_
            refine s1 75 49 2 rfl rfl rfl rfl rfl rfl trivial ?_
            refine ask 75 rfl (fun hg23_75 => ?_) (fun hg23_75 => ?_)
            · skip
              try simp only [cs, ne_eq] at hg23_75
              refine g1 1 true 75 76 3 rfl rfl rfl rfl rfl ?_
              refine s1 76 57 3 rfl rfl rfl rfl rfl rfl trivial ?_
              refine g1 1 true 75 77 4 rfl rfl rfl rfl rfl ?_
              refine s1 77 65 4 rfl rfl rfl rfl rfl rfl (by first | trivial | omega) ?_
              refine g1 1 true 75 78 5 rfl rfl rfl rfl rfl ?_
              refine c1 (meant_any (ss.getD i []) (ms.getD n default) (hin.l i)) [] [] 78 73 5 rfl rfl rfl rfl rfl rfl rfl rfl Try.func49 rfl rfl rfl rfl trivial rfl rfl ?_
              refine s1 79 81 6 rfl rfl rfl rfl rfl rfl trivial ?_
              refine s1 11 89 7 rfl rfl rfl rfl rfl rfl trivial ?_
              refine e1 97 rfl ?_
              refine bn ?_
              refine tn ?_
              refine r0 ?_
              refine sA 80 97 1 rfl rfl rfl rfl rfl rfl rfl rfl rfl (by unfold inRange; omega) ?_
              refine s1 70 105 2 rfl rfl rfl rfl rfl rfl trivial ?_
              refine e1 113 rfl ?_
              refine tn ?_
              exact again ((n + 1 : Nat)) [0] (show (n + 1) ≤ ms.length from (by omega)) (show ms.length - (n + 1) < ms.length - n from (by omega)) rfl ⟨rfl, rfl, rfl, rfl, (by show SV.b _ = SV.b _; rw [allB_succ]; first | (rw [hg23_75]; rfl) | (rw [hg23_75]; simp)), rfl, rfl, rfl, rfl, rfl, rfl, trivial⟩ ⟨rfl, trivial⟩
            · skip
              try simp only [cs, ne_eq] at hg23_75
              refine g0 1 true 75 76 3 rfl rfl rfl rfl rfl rfl ?_
              refine g0 1 true 75 77 4 rfl rfl rfl rfl rfl rfl ?_
              refine g0 1 true 75 78 5 rfl rfl rfl rfl rfl rfl ?_
              refine s1 79 81 6 rfl rfl rfl rfl rfl rfl trivial ?_
              refine s1 11 89 7 rfl rfl rfl rfl rfl rfl trivial ?_
              refine e1 97 rfl ?_
              refine bn ?_
              refine tn ?_
              refine r0 ?_
              refine sA 80 97 1 rfl rfl rfl rfl rfl rfl rfl rfl rfl (by unfold inRange; omega) ?_
              refine s1 70 105 2 rfl rfl rfl rfl rfl rfl trivial ?_
              refine e1 113 rfl ?_
              refine tn ?_
              exact again ((n + 1 : Nat)) [0] (show (n + 1) ≤ ms.length from (by omega)) (show ms.length - (n + 1) < ms.length - n from (by omega)) rfl ⟨rfl, rfl, rfl, rfl, (by show SV.b _ = SV.b _; rw [allB_succ]; first | (rw [hg23_75]; rfl) | (rw [hg23_75]; simp)), rfl, rfl, rfl, rfl, rfl, rfl, trivial⟩ ⟨rfl, trivial⟩
          · skip
            try simp only [cs, ne_eq] at hc21
            refine W_exit ?_
            refine tx ?_
            refine tx ?_
            refine bx ?_
            refine tn ?_
            obtain rfl : n = ms.length := (by omega)
            refine r1 ?_
            refine s1 81 9 1 rfl rfl rfl rfl rfl rfl trivial ?_
            refine e1 17 rfl ?_
            refine keep [1, 8, 9, 61, 62, 63, 81] rfl ?_
            refine q1 rfl (fun hc25 => ?_) (fun hc25 => ?_)
            · skip
              try simp only [cs, ne_eq] at hc25
              refine r0 ?_
              refine s1 82 17 1 rfl rfl rfl rfl rfl rfl trivial ?_
              refine s1 83 25 2 rfl rfl rfl rfl rfl rfl trivial ?_
              refine s1 84 33 3 rfl rfl rfl rfl rfl rfl trivial ?_
              refine s1 85 41 4 rfl rfl rfl rfl rfl rfl ⟨Nat.le_refl _, trivial, (by show (_ + 1) * 8 ≤ 140737488355328; omega), (by simp only [maxLen]; omega)⟩ ?_
              refine s1 8 49 5 rfl rfl rfl rfl rfl rfl trivial ?_
              refine e1 57 rfl ?_
              refine bn ?_
              refine tn ?_
              have hS := selL_succ ss ms ms.length i
              rw [if_pos hc25] at hS
              refine rowsc 41 (selL ss ms ms.length (i + 1)).length (intsF (selL ss ms ms.length (i + 1))) rfl (by rw [hS]; simp) (fun i c hi hc => by rw [hS]; exact ints_cat _ _ i c hi hc) ?_
              refine cval 8 (.sl 41 0 (selL ss ms ms.length (i + 1)).length) rfl (by rw [hS]; simp) ?_
              refine r0 ?_
              refine sA 86 57 1 rfl rfl rfl rfl rfl rfl rfl rfl rfl (by unfold inRange; omega) ?_
              refine s1 63 65 2 rfl rfl rfl rfl rfl rfl trivial ?_
              refine e1 73 rfl ?_
              refine tn ?_
              exact again ((i + 1 : Nat)) [41] (show (i + 1) ≤ ss.length from (by omega)) (show ss.length - (i + 1) < ss.length - i from (by omega)) rfl ⟨rfl, rfl, rfl, rfl, rfl, trivial⟩ ⟨rfl, trivial⟩
            · skip
              try simp only [cs, ne_eq] at hc25
              refine W_skip ?_
              refine bn ?_
              refine tn ?_
              have hS := selL_succ ss ms ms.length i
              rw [if_neg (by simpa using hc25)] at hS
              refine rowsc 0 (selL ss ms ms.length (i + 1)).length (intsF (selL ss ms ms.length (i + 1))) rfl (by rw [hS]) (fun i c hi hc => by rw [hS]) ?_
              refine cval 8 (.sl 0 0 (selL ss ms ms.length (i + 1)).length) rfl (by rw [hS]) ?_
              refine r0 ?_
              refine sA 86 17 1 rfl rfl rfl rfl rfl rfl rfl rfl rfl (by unfold inRange; omega) ?_
              refine s1 63 25 2 rfl rfl rfl rfl rfl rfl trivial ?_
              refine e1 33 rfl ?_
              refine tn ?_
              exact again ((i + 1 : Nat)) [0] (show (i + 1) ≤ ss.length from (by omega)) (show ss.length - (i + 1) < ss.length - i from (by omega)) rfl ⟨rfl, rfl, rfl, rfl, rfl, trivial⟩ ⟨rfl, trivial⟩
        · skip
          try simp only [cs, ne_eq] at hc17
          refine W_exit ?_
          refine tx ?_
          refine tx ?_
          refine bx ?_
          refine tn ?_
          obtain rfl : i = ss.length := (by omega)
          refine freeze 8 0 (selL ss ms ms.length ss.length).length rfl rfl (Nat.le_refl _) ?_
          refine r1 ?_
          refine s1 87 9 1 rfl rfl rfl rfl rfl rfl trivial ?_
          refine s1 4 17 2 rfl rfl rfl rfl rfl rfl trivial ?_
          refine s1 5 25 3 rfl rfl rfl rfl rfl rfl trivial ?_
          refine e1 33 rfl ?_
          refine keep [4, 5] rfl ?_
          refine W_ret ?_
          exact out2 4 5 (intsV (selP p ss ms).1) (SV.i (selP p ss ms).2) (π := []) (hout := []) Try.results23 rfl rfl (by rw [sel_ok hpt (by omega) hno]; rfl) (by rw [sel_ok hpt (by omega) hno]; rfl) rfl rfl trivial ⟨rfl, rfl⟩

theorem lawSelect_any (ss : List (List TagD)) (ms : List MatD) (hin : TagsIn ss) (hms : MatsIn ms) : Spec Try.prog GT 9 [serV ss ss.length, matsV ms] [] (fun r _ => r = SV.b true) := by
  obtain ⟨p, hp⟩ : ∃ p : Bool, p = true ↔ TagsOk ss := (by by_cases h : TagsOk ss; exact ⟨true, by simp [h]⟩; exact ⟨false, by simp [h]⟩)
  have hsl := sel_len (p := p) (ss := ss) (ms := ms)
  have hssn := hin.n
  refine start 29 0 Try.func9 rfl rfl rfl rfl ?_
  refine r1 ?_
  refine s1 4 0 1 rfl rfl rfl rfl rfl rfl trivial ?_
  refine e1 8 rfl ?_
  refine keep [0, 1] rfl ?_
  refine r1 ?_
  refine s1 10 8 1 rfl rfl rfl rfl rfl rfl trivial ?_
  refine s1 11 16 2 rfl rfl rfl rfl rfl rfl trivial ?_
  refine c1 (select_any ss ms hin hms p hp) [] [] 12 24 3 rfl rfl rfl rfl rfl rfl rfl rfl Try.func22 rfl rfl rfl rfl trivial rfl rfl ?_
  refine s1 9 32 4 rfl rfl rfl rfl rfl rfl trivial ?_
  refine s1 13 40 5 rfl rfl rfl rfl rfl rfl trivial ?_
  refine s1 14 48 6 rfl rfl rfl rfl rfl rfl trivial ?_
  refine s1 5 56 7 rfl rfl rfl rfl rfl rfl trivial ?_
  refine s1 6 64 8 rfl rfl rfl rfl rfl rfl trivial ?_
  refine e1 72 rfl ?_
  refine keep [0, 1, 5, 6] rfl ?_
  refine r1 ?_
  refine s1 16 72 1 rfl rfl rfl rfl rfl rfl trivial ?_
  refine s1 17 80 2 rfl rfl rfl rfl rfl rfl trivial ?_
  refine c1 (refSelect_any ss ms hin hms p hp) [] [] 18 88 3 rfl rfl rfl rfl rfl rfl rfl rfl Try.func23 rfl rfl rfl rfl trivial rfl rfl ?_
  refine s1 15 96 4 rfl rfl rfl rfl rfl rfl trivial ?_
  refine s1 19 104 5 rfl rfl rfl rfl rfl rfl trivial ?_
  refine s1 20 112 6 rfl rfl rfl rfl rfl rfl trivial ?_
  refine s1 7 120 7 rfl rfl rfl rfl rfl rfl trivial ?_
  refine s1 8 128 8 rfl rfl rfl rfl rfl rfl trivial ?_
  refine e1 136 rfl ?_
  refine keep [5, 6, 7, 8] rfl ?_
  refine r1 ?_
  refine s1 21 136 1 rfl rfl rfl rfl rfl rfl trivial ?_
  refine s1 22 144 2 rfl rfl rfl rfl rfl rfl trivial ?_
  refine c1 (same_any (selP p ss ms).1 (selP p ss ms).1 (by omega) (by omega)) [] [] 23 152 3 rfl rfl rfl rfl rfl rfl rfl rfl Try.func13 rfl rfl rfl rfl trivial rfl rfl ?_
  refine s1 24 160 4 rfl rfl rfl rfl rfl rfl trivial ?_
  refine ask 24 rfl (fun hg3_24 => ?_) (fun hg3_24 => ?_)
  · skip
    try simp only [cs, ne_eq] at hg3_24
    refine g1 3 true 24 25 5 rfl rfl rfl rfl rfl ?_
    refine s1 25 168 5 rfl rfl rfl rfl rfl rfl trivial ?_
    refine g1 3 true 24 26 6 rfl rfl rfl rfl rfl ?_
    refine s1 26 176 6 rfl rfl rfl rfl rfl rfl trivial ?_
    refine g1 3 true 24 27 7 rfl rfl rfl rfl rfl ?_
    refine s1 27 184 7 rfl rfl rfl rfl rfl rfl (by first | trivial | omega) ?_
    refine s1 28 192 8 rfl rfl rfl rfl rfl rfl trivial ?_
    refine s1 4 200 9 rfl rfl rfl rfl rfl rfl trivial ?_
    refine e1 208 rfl ?_
    refine keep [4] rfl ?_
    refine W_ret ?_
    exact out1 4 (SV.b true) (π := []) (hout := []) Try.results9 rfl (by first | (simp; done) | (simp; rfl) | (simp [sameB] at *; done)) rfl rfl trivial rfl
  · skip
    try simp only [cs, ne_eq] at hg3_24
    refine g0 3 true 24 25 5 rfl rfl rfl rfl rfl rfl ?_
    refine g0 3 true 24 26 6 rfl rfl rfl rfl rfl rfl ?_
    refine g0 3 true 24 27 7 rfl rfl rfl rfl rfl rfl ?_
    refine s1 28 192 8 rfl rfl rfl rfl rfl rfl trivial ?_
    refine s1 4 200 9 rfl rfl rfl rfl rfl rfl trivial ?_
    refine e1 208 rfl ?_
    refine keep [4] rfl ?_
    refine W_ret ?_
    exact out1 4 (SV.b true) (π := []) (hout := []) Try.results9 rfl (by first | (simp; done) | (simp; rfl) | (simp [sameB] at *; done)) rfl rfl trivial rfl

end Go.Proofs.Ytlhncpbcbpdcfaa.Nice
