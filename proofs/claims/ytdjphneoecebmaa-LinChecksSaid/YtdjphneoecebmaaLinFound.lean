/- The search: seeker.found. -/
import Derived.Test.YtdjphneoecebmaaLinPre
namespace Go.Proofs.Ytdjphneoecebmaa.Nice
open Go
set_option linter.unusedVariables false
set_option linter.unusedSimpArgs false
set_option maxRecDepth 100000
set_option maxHeartbeats 4000000

theorem found_tail (L : List Act) (hL : L.length ≤ 9) (kd f : Nat) (hIH : ∀ f', f = f' + 1 → ∀ (m : Nat) (o : Ob) (Z : List Nat) (E : List (Nat × List Ob)), Pre L kd m o f' E → Spec Try.prog G0 13 [.ptr 0 0 0, SVu m, objV o] [seekB L, .fam Z ⟨famS E, []⟩] (fun r ho => ∃ b Z' E', r = SV.b b ∧ ho = [some (seekB L), some (.fam Z' ⟨famS E', []⟩)] ∧ Aft L kd m o f' E b E')) (m : Nat) (o : Ob) (E : List (Nat × List Ob)) (hp : Pre L kd m o f E) (Z0 : List Nat) (E0 : List (Nat × List Ob)) (hall : allTo L m L.length = false) (hM0 : Mid L kd m o f E E0 0) : W ⟨Try.prog, 110, 2, G0⟩ (codeAt [1, 1, 1, 1, 1, 1] (Try.f13.body.getD .skip)) (outQ ⟨Try.prog, 110, 2, G0⟩ Try.f13 (fun r ho => ∃ b Z' E', r = SV.b b ∧ ho = [some (seekB L), some (.fam Z' ⟨famS E', []⟩)] ∧ Aft L kd m o f E b E')) ⟨tOf [(0, .ptr 0 0 0), (1, SVu m), (2, objV o)], hOf [some (seekB L), some (.fam Z0 ⟨famS E0, []⟩)], 2⟩ := by
  have hm9 : m < 512 := Nat.lt_of_lt_of_le hp.hm (by exact Nat.pow_le_pow_right (n := 2) (by omega) hL)
  refine W_seq ?_
  refine r1 ?_
  refine s1 63 2 1 rfl rfl rfl rfl rfl rfl trivial ?_
  refine s1 64 10 2 rfl rfl rfl rfl rfl rfl trivial ?_
  refine s1 65 18 3 rfl rfl rfl rfl rfl rfl trivial ?_
  refine s1 66 26 4 rfl rfl rfl rfl rfl rfl (by first | trivial | omega) ?_
  refine s1 67 34 5 rfl rfl rfl rfl rfl rfl (by first | trivial | omega) ?_
  refine s1 68 42 6 rfl rfl rfl rfl rfl rfl trivial ?_
  refine e1 50 rfl ?_
  refine keep [0, 1, 2, 66, 67, 68] rfl ?_
  refine W_block ?_
  refine loop (α := Nat × (List Nat) × (List (Nat × List Ob))) 2 (fun z => [(0, .ptr 0 0 0), (1, SVu m), (2, objV o), (66, actsV L), (67, SV.i L.length), (68, SV.i (z.1))]) (fun z => [some (seekB L), some (.fam (z.2.1) ⟨famS (z.2.2), []⟩)]) (fun z => Mid L kd m o f E (z.2.2) (z.1)) (fun z => L.length - (z.1)) (((0, Z0, E0) : Nat × (List Nat) × (List (Nat × List Ob)))) [0, 1] (fun _ => rfl) (show Mid L kd m o f E (E0) (0) from hM0) rfl ⟨rfl, rfl, rfl, rfl, rfl, rfl, trivial⟩ ⟨rfl, rfl, trivial⟩ (fun z hx => ?_)
  obtain ⟨n, Z, E1⟩ := z
  show W _ _ _ ⟨tOf [(0, .ptr 0 0 0), (1, SVu m), (2, objV o), (66, actsV L), (67, SV.i L.length), (68, SV.i n)], hOf [some (seekB L), some (.fam Z ⟨famS E1, []⟩)], 2⟩
  have hx : Mid L kd m o f E E1 n := hx
  have hM := hx
  have hb := bitv m hm9 n
  have hnn := hM.hn
  refine r1 ?_
  refine s1 69 2 1 rfl rfl rfl rfl rfl rfl (by first | trivial | omega) ?_
  refine e1 10 rfl ?_
  refine keep [0, 1, 2, 66, 67, 68, 69] rfl ?_
  refine W_seq ?_
  refine q1 rfl (fun hc13 => ?_) (fun hc13 => ?_)
  · skip
    try simp only [cs, ne_eq] at hc13
    refine W_skip ?_
    refine tn ?_
    refine W_seq ?_
    refine W_block ?_
    refine r1 ?_
    refine s1 70 10 1 rfl rfl rfl rfl rfl rfl trivial ?_
    refine s1 71 18 2 rfl rfl rfl rfl rfl rfl (by first | trivial | omega) ?_
    refine s1 72 26 3 rfl rfl rfl rfl rfl rfl (by first | trivial | omega) ?_
    refine s1 11 34 4 rfl rfl rfl rfl rfl rfl trivial ?_
    refine s1 10 42 5 rfl rfl rfl rfl rfl rfl trivial ?_
    refine s0 50 6 rfl rfl rfl rfl rfl (by first | trivial | omega) ?_
    refine e1 58 rfl ?_
    refine keep [0, 1, 2, 10, 11, 66, 67, 68] rfl ?_
    refine W_seq ?_
    refine r1 ?_
    refine s1 73 58 1 rfl rfl rfl rfl rfl rfl trivial ?_
    refine s1 74 66 2 rfl rfl rfl rfl rfl rfl trivial ?_
    refine s1 75 74 3 rfl rfl rfl rfl rfl rfl (by first | trivial | omega) ?_
    refine s1 76 82 4 rfl rfl rfl rfl rfl rfl (by first | trivial | omega) ?_
    refine s1 77 90 5 rfl rfl rfl rfl rfl rfl (by first | trivial | omega) ?_
    refine val 77 (SV.b (m.testBit n)) rfl (by show SV.b (bits .and .u64 ((m : Int).fdiv (2 ^ (min ((n : Int)).toNat 64))) 1 == 1) = _; rw [hb (by omega)]; cases m.testBit n <;> rfl) ?_
    refine s1 78 98 6 rfl rfl rfl rfl rfl rfl trivial ?_
    refine ask 78 rfl (fun hg15_78 => ?_) (fun hg15_78 => ?_)
    · skip
      try simp only [cs, ne_eq] at hg15_78
      refine g0 5 false 78 79 7 rfl rfl rfl rfl rfl rfl ?_
      refine g0 5 false 78 80 8 rfl rfl rfl rfl rfl rfl ?_
      refine g0 5 false 78 81 9 rfl rfl rfl rfl rfl rfl ?_
      refine g0 5 false 78 82 10 rfl rfl rfl rfl rfl rfl ?_
      refine g0 5 false 78 83 11 rfl rfl rfl rfl rfl rfl ?_
      refine s1 84 146 12 rfl rfl rfl rfl rfl rfl trivial ?_
      refine e1 154 rfl ?_
      refine keep [0, 1, 2, 10, 11, 66, 67, 68, 84] rfl ?_
      refine q1 rfl (fun hc15 => ?_) (fun hc15 => ?_)
      · skip
        try simp only [cs, ne_eq] at hc15
        refine W_exit ?_
        refine tx ?_
        refine bx ?_
        refine tn ?_
        refine r0 ?_
        refine sA 109 154 1 rfl rfl rfl rfl rfl rfl rfl rfl rfl (by unfold inRange; omega) ?_
        refine s1 68 162 2 rfl rfl rfl rfl rfl rfl trivial ?_
        refine e1 170 rfl ?_
        refine tn ?_
        exact again (((n + 1, Z, E1) : Nat × (List Nat) × (List (Nat × List Ob)))) [0, 1] (show Mid L kd m o f E (E1) (n + 1) from mid_skip hM (by omega) (brn_bit (by first | exact hg15_78 | simpa using hg15_78))) (show L.length - (n + 1) < L.length - n from (by omega)) rfl ⟨rfl, rfl, rfl, rfl, rfl, rfl, trivial⟩ ⟨rfl, rfl, trivial⟩
      exact absurd hc15 (by decide)
    try simp only [cs, ne_eq] at hg15_78
    refine g1 5 false 78 79 7 rfl rfl rfl rfl rfl ?_
    refine s1 79 106 7 rfl rfl rfl rfl rfl rfl trivial ?_
    refine g1 5 false 78 80 8 rfl rfl rfl rfl rfl ?_
    refine s1 80 114 8 rfl rfl rfl rfl rfl rfl trivial ?_
    refine g1 5 false 78 81 9 rfl rfl rfl rfl rfl ?_
    refine s1 81 122 9 rfl rfl rfl rfl rfl rfl trivial ?_
    refine g1 5 false 78 82 10 rfl rfl rfl rfl rfl ?_
    refine c1 (ready_any L hL m n hm9 (by omega) Z (famS E1)) [0, 1] [0, 1] 82 130 10 rfl rfl rfl rfl rfl rfl rfl rfl Try.func17 rfl rfl rfl rfl ⟨rfl, rfl, trivial⟩ rfl rfl ?_
    refine g1 5 false 78 83 11 rfl rfl rfl rfl rfl ?_
    refine s1 83 138 11 rfl rfl rfl rfl rfl rfl trivial ?_
    refine s1 84 146 12 rfl rfl rfl rfl rfl rfl trivial ?_
    refine e1 154 rfl ?_
    refine keep [0, 1, 2, 10, 11, 66, 67, 68, 84] rfl ?_
    refine q1 rfl (fun hc15 => ?_) (fun hc15 => ?_)
    · skip
      try simp only [cs, ne_eq] at hc15
      refine W_exit ?_
      refine tx ?_
      refine bx ?_
      refine tn ?_
      refine r0 ?_
      refine sA 109 154 1 rfl rfl rfl rfl rfl rfl rfl rfl rfl (by unfold inRange; omega) ?_
      refine s1 68 162 2 rfl rfl rfl rfl rfl rfl trivial ?_
      refine e1 170 rfl ?_
      refine tn ?_
      exact again (((n + 1, Z, E1) : Nat × (List Nat) × (List (Nat × List Ob)))) [0, 1] (show Mid L kd m o f E (E1) (n + 1) from mid_skip hM (by omega) (brn_rdy (by simpa using hc15))) (show L.length - (n + 1) < L.length - n from (by omega)) rfl ⟨rfl, rfl, rfl, rfl, rfl, rfl, trivial⟩ ⟨rfl, rfl, trivial⟩
    try simp only [cs, ne_eq] at hc15
    refine W_skip ?_
    refine tn ?_
    obtain ⟨f', hf⟩ := f_pos hp (show n < L.length by omega) (by first | exact hg15_78 | simpa using hg15_78)
    refine r1 ?_
    refine s1 86 154 1 rfl rfl rfl rfl rfl rfl trivial ?_
    refine s1 87 162 2 rfl rfl rfl rfl rfl rfl (by first | trivial | omega) ?_
    refine sOk 88 170 3 (next_call (ob := o) (ac := L.getD n default) rfl rfl rfl (by have := hp.hs; omega)) rfl rfl rfl rfl rfl trivial rfl rfl rfl ?_
    refine s1 85 178 4 rfl rfl rfl rfl rfl rfl trivial ?_
    refine s1 89 186 5 rfl rfl rfl rfl rfl rfl trivial ?_
    refine s1 90 194 6 rfl rfl rfl rfl rfl rfl trivial ?_
    refine s1 12 202 7 rfl rfl rfl rfl rfl rfl trivial ?_
    refine s1 13 210 8 rfl rfl rfl rfl rfl rfl trivial ?_
    refine e1 218 rfl ?_
    refine keep [0, 1, 2, 10, 11, 12, 13, 66, 67, 68] rfl ?_
    refine r1 ?_
    refine s1 91 218 1 rfl rfl rfl rfl rfl rfl trivial ?_
    refine s1 92 226 2 rfl rfl rfl rfl rfl rfl (by first | trivial | omega) ?_
    refine s1 93 234 3 rfl rfl rfl rfl rfl rfl (by first | trivial | omega) ?_
    refine s1 94 242 4 rfl rfl rfl rfl rfl rfl trivial ?_
    refine ask 94 rfl (fun hg17_94 => ?_) (fun hg17_94 => ?_)
    · skip
      try simp only [cs, ne_eq] at hg17_94
      refine g0 3 false 94 95 5 rfl rfl rfl rfl rfl rfl ?_
      refine g0 3 false 94 96 6 rfl rfl rfl rfl rfl rfl ?_
      refine g0 3 false 94 97 7 rfl rfl rfl rfl rfl rfl ?_
      refine g0 3 false 94 98 8 rfl rfl rfl rfl rfl rfl ?_
      refine s1 99 282 9 rfl rfl rfl rfl rfl rfl trivial ?_
      refine s1 100 290 10 rfl rfl rfl rfl rfl rfl trivial ?_
      refine g1 9 true 100 101 11 rfl rfl rfl rfl rfl ?_
      refine s1 101 298 11 rfl rfl rfl rfl rfl rfl trivial ?_
      refine g1 9 true 100 102 12 rfl rfl rfl rfl rfl ?_
      refine s1 102 306 12 rfl rfl rfl rfl rfl rfl trivial ?_
      refine g1 9 true 100 103 13 rfl rfl rfl rfl rfl ?_
      refine s1 103 314 13 rfl rfl rfl rfl rfl rfl trivial ?_
      refine g1 9 true 100 104 14 rfl rfl rfl rfl rfl ?_
      refine s1 104 322 14 rfl rfl rfl rfl rfl rfl (by first | trivial | omega) ?_
      refine g1 9 true 100 105 15 rfl rfl rfl rfl rfl ?_
      refine s1 105 330 15 rfl rfl rfl rfl rfl rfl (by first | trivial | omega) ?_
      refine val 105 (SVu (m ||| 2 ^ n)) rfl (by show SV.d (.val (.int .u64 (bits .or .u64 (m : Int) (IntKind.u64.wrap (1 * 2 ^ (min ((n : Int)).toNat 64)))))) = _; rw [orv m hm9 n (by omega)]) ?_
      refine g1 9 true 100 106 16 rfl rfl rfl rfl rfl ?_
      refine s1 106 338 16 rfl rfl rfl rfl rfl rfl trivial ?_
      refine g1 9 true 100 107 17 rfl rfl rfl rfl rfl ?_
      refine cQ (hIH f' hf (m ||| 2 ^ n) (onext o (L.getD n default)).1 Z E1 (pre_next hL hp hM (by omega) (by first | exact hg15_78 | simpa using hg15_78) hf (.inr trivial))) [0, 1] 107 346 17 rfl rfl rfl rfl rfl rfl rfl Try.func13 rfl rfl rfl ⟨rfl, rfl, trivial⟩ ?_
      rintro _ _ ⟨b, Z2, E2, rfl, rfl, haf⟩
      refine val 107 (SV.b b) rfl rfl ?_
      refine hval 1 _ rfl (.fam Z2 ⟨famS E2, []⟩) rfl ?_
      refine hval 0 _ rfl (seekB L) rfl ?_
      refine s1 108 354 18 rfl rfl rfl rfl rfl rfl trivial ?_
      refine e1 362 rfl ?_
      refine keep [0, 1, 2, 66, 67, 68, 108] rfl ?_
      refine q1 rfl (fun hc17 => ?_) (fun hc17 => ?_)
      · skip
        try simp only [cs, ne_eq] at hc17
        refine r1 ?_
        refine s1 6 362 1 rfl rfl rfl rfl rfl rfl trivial ?_
        refine e1 370 rfl ?_
        refine keep [6] rfl ?_
        refine W_ret ?_
        refine br ?_
        refine tr ?_
        refine tr ?_
        refine br ?_
        refine tr ?_
        exact out1 6 (SV.b true) (π := [0, 1]) (hout := [some (seekB L), some (.fam Z2 ⟨famS E2, []⟩)]) Try.results13 rfl rfl rfl rfl ⟨rfl, rfl, trivial⟩ ⟨true, Z2, E2, rfl, rfl, aft_yes hL hM (by omega) hf haf (by simpa using hc17) (by first | exact hg15_78 | simpa using hg15_78) (by simpa using hc15) (by unfold fits; simp only [Int.toNat_natCast] at hg17_94 ; rw [decide_eq_true hg17_94]; simp)⟩
      try simp only [cs, ne_eq] at hc17
      refine W_skip ?_
      refine bn ?_
      refine tn ?_
      refine r0 ?_
      refine sA 109 362 1 rfl rfl rfl rfl rfl rfl rfl rfl rfl (by unfold inRange; omega) ?_
      refine s1 68 370 2 rfl rfl rfl rfl rfl rfl trivial ?_
      refine e1 378 rfl ?_
      refine tn ?_
      exact again (((n + 1, Z2, E2) : Nat × (List Nat) × (List (Nat × List Ob)))) [0, 1] (show Mid L kd m o f E (E2) (n + 1) from mid_tried hM (by omega) hf haf (by simpa using hc17)) (show L.length - (n + 1) < L.length - n from (by omega)) rfl ⟨rfl, rfl, rfl, rfl, rfl, rfl, trivial⟩ ⟨rfl, rfl, trivial⟩
    try simp only [cs, ne_eq] at hg17_94
    refine g1 3 false 94 95 5 rfl rfl rfl rfl rfl ?_
    refine s1 95 250 5 rfl rfl rfl rfl rfl rfl trivial ?_
    refine g1 3 false 94 96 6 rfl rfl rfl rfl rfl ?_
    refine s1 96 258 6 rfl rfl rfl rfl rfl rfl trivial ?_
    refine g1 3 false 94 97 7 rfl rfl rfl rfl rfl ?_
    refine s1 97 266 7 rfl rfl rfl rfl rfl rfl (by first | trivial | omega) ?_
    refine g1 3 false 94 98 8 rfl rfl rfl rfl rfl ?_
    refine s1 98 274 8 rfl rfl rfl rfl rfl rfl (by first | trivial | omega) ?_
    refine s1 99 282 9 rfl rfl rfl rfl rfl rfl trivial ?_
    refine s1 100 290 10 rfl rfl rfl rfl rfl rfl trivial ?_
    refine ask 100 rfl (fun hg17_100 => ?_) (fun hg17_100 => ?_)
    · skip
      try simp only [cs, ne_eq] at hg17_100
      refine g1 9 true 100 101 11 rfl rfl rfl rfl rfl ?_
      refine s1 101 298 11 rfl rfl rfl rfl rfl rfl trivial ?_
      refine g1 9 true 100 102 12 rfl rfl rfl rfl rfl ?_
      refine s1 102 306 12 rfl rfl rfl rfl rfl rfl trivial ?_
      refine g1 9 true 100 103 13 rfl rfl rfl rfl rfl ?_
      refine s1 103 314 13 rfl rfl rfl rfl rfl rfl trivial ?_
      refine g1 9 true 100 104 14 rfl rfl rfl rfl rfl ?_
      refine s1 104 322 14 rfl rfl rfl rfl rfl rfl (by first | trivial | omega) ?_
      refine g1 9 true 100 105 15 rfl rfl rfl rfl rfl ?_
      refine s1 105 330 15 rfl rfl rfl rfl rfl rfl (by first | trivial | omega) ?_
      refine val 105 (SVu (m ||| 2 ^ n)) rfl (by show SV.d (.val (.int .u64 (bits .or .u64 (m : Int) (IntKind.u64.wrap (1 * 2 ^ (min ((n : Int)).toNat 64)))))) = _; rw [orv m hm9 n (by omega)]) ?_
      refine g1 9 true 100 106 16 rfl rfl rfl rfl rfl ?_
      refine s1 106 338 16 rfl rfl rfl rfl rfl rfl trivial ?_
      refine g1 9 true 100 107 17 rfl rfl rfl rfl rfl ?_
      refine cQ (hIH f' hf (m ||| 2 ^ n) (onext o (L.getD n default)).1 Z E1 (pre_next hL hp hM (by omega) (by first | exact hg15_78 | simpa using hg15_78) hf (.inr trivial))) [0, 1] 107 346 17 rfl rfl rfl rfl rfl rfl rfl Try.func13 rfl rfl rfl ⟨rfl, rfl, trivial⟩ ?_
      rintro _ _ ⟨b, Z2, E2, rfl, rfl, haf⟩
      refine val 107 (SV.b b) rfl rfl ?_
      refine hval 1 _ rfl (.fam Z2 ⟨famS E2, []⟩) rfl ?_
      refine hval 0 _ rfl (seekB L) rfl ?_
      refine s1 108 354 18 rfl rfl rfl rfl rfl rfl trivial ?_
      refine e1 362 rfl ?_
      refine keep [0, 1, 2, 66, 67, 68, 108] rfl ?_
      refine q1 rfl (fun hc17 => ?_) (fun hc17 => ?_)
      · skip
        try simp only [cs, ne_eq] at hc17
        refine r1 ?_
        refine s1 6 362 1 rfl rfl rfl rfl rfl rfl trivial ?_
        refine e1 370 rfl ?_
        refine keep [6] rfl ?_
        refine W_ret ?_
        refine br ?_
        refine tr ?_
        refine tr ?_
        refine br ?_
        refine tr ?_
        exact out1 6 (SV.b true) (π := [0, 1]) (hout := [some (seekB L), some (.fam Z2 ⟨famS E2, []⟩)]) Try.results13 rfl rfl rfl rfl ⟨rfl, rfl, trivial⟩ ⟨true, Z2, E2, rfl, rfl, aft_yes hL hM (by omega) hf haf (by simpa using hc17) (by first | exact hg15_78 | simpa using hg15_78) (by simpa using hc15) (by unfold fits; simp only [Int.toNat_natCast] at hg17_94 hg17_100; rw [decide_eq_true hg17_100]; simp)⟩
      try simp only [cs, ne_eq] at hc17
      refine W_skip ?_
      refine bn ?_
      refine tn ?_
      refine r0 ?_
      refine sA 109 362 1 rfl rfl rfl rfl rfl rfl rfl rfl rfl (by unfold inRange; omega) ?_
      refine s1 68 370 2 rfl rfl rfl rfl rfl rfl trivial ?_
      refine e1 378 rfl ?_
      refine tn ?_
      exact again (((n + 1, Z2, E2) : Nat × (List Nat) × (List (Nat × List Ob)))) [0, 1] (show Mid L kd m o f E (E2) (n + 1) from mid_tried hM (by omega) hf haf (by simpa using hc17)) (show L.length - (n + 1) < L.length - n from (by omega)) rfl ⟨rfl, rfl, rfl, rfl, rfl, rfl, trivial⟩ ⟨rfl, rfl, trivial⟩
    try simp only [cs, ne_eq] at hg17_100
    refine g0 9 true 100 101 11 rfl rfl rfl rfl rfl rfl ?_
    refine g0 9 true 100 102 12 rfl rfl rfl rfl rfl rfl ?_
    refine g0 9 true 100 103 13 rfl rfl rfl rfl rfl rfl ?_
    refine g0 9 true 100 104 14 rfl rfl rfl rfl rfl rfl ?_
    refine g0 9 true 100 105 15 rfl rfl rfl rfl rfl rfl ?_
    refine g0 9 true 100 106 16 rfl rfl rfl rfl rfl rfl ?_
    refine g0 9 true 100 107 17 rfl rfl rfl rfl rfl rfl ?_
    refine s1 108 354 18 rfl rfl rfl rfl rfl rfl trivial ?_
    refine e1 362 rfl ?_
    refine keep [0, 1, 2, 66, 67, 68, 108] rfl ?_
    refine q1 rfl (fun hc17 => ?_) (fun hc17 => ?_)
    · skip
      exact absurd hc17 (by decide)
    try simp only [cs, ne_eq] at hc17
    refine W_skip ?_
    refine bn ?_
    refine tn ?_
    refine r0 ?_
    refine sA 109 362 1 rfl rfl rfl rfl rfl rfl rfl rfl rfl (by unfold inRange; omega) ?_
    refine s1 68 370 2 rfl rfl rfl rfl rfl rfl trivial ?_
    refine e1 378 rfl ?_
    refine tn ?_
    exact again (((n + 1, Z, E1) : Nat × (List Nat) × (List (Nat × List Ob)))) [0, 1] (show Mid L kd m o f E (E1) (n + 1) from mid_skip hM (by omega) (brn_fit (by unfold fits; simp only [Int.toNat_natCast] at hg17_94 hg17_100; rw [decide_eq_false hg17_94, decide_eq_false hg17_100]; rfl))) (show L.length - (n + 1) < L.length - n from (by omega)) rfl ⟨rfl, rfl, rfl, rfl, rfl, rfl, trivial⟩ ⟨rfl, rfl, trivial⟩
  try simp only [cs, ne_eq] at hc13
  refine W_exit ?_
  refine tx ?_
  refine tx ?_
  refine bx ?_
  refine tn ?_
  refine r1 ?_
  refine s1 6 10 1 rfl rfl rfl rfl rfl rfl trivial ?_
  refine e1 18 rfl ?_
  refine keep [6] rfl ?_
  refine W_ret ?_
  obtain rfl : n = L.length := (by have := hM.hn; omega)
  exact out1 6 (SV.b false) (π := [0, 1]) (hout := [some (seekB L), some (.fam Z ⟨famS E1, []⟩)]) Try.results13 rfl rfl rfl rfl ⟨rfl, rfl, trivial⟩ ⟨false, Z, E1, rfl, rfl, aft_no hL hall hM⟩

theorem found_step (L : List Act) (hL : L.length ≤ 9) (kd f : Nat) (hIH : ∀ f', f = f' + 1 → ∀ (m : Nat) (o : Ob) (Z : List Nat) (E : List (Nat × List Ob)), Pre L kd m o f' E → Spec Try.prog G0 13 [.ptr 0 0 0, SVu m, objV o] [seekB L, .fam Z ⟨famS E, []⟩] (fun r ho => ∃ b Z' E', r = SV.b b ∧ ho = [some (seekB L), some (.fam Z' ⟨famS E', []⟩)] ∧ Aft L kd m o f' E b E')) (m : Nat) (o : Ob) (E : List (Nat × List Ob)) (hp : Pre L kd m o f E) (Z : List Nat) : Spec Try.prog G0 13 [.ptr 0 0 0, SVu m, objV o] [seekB L, .fam Z ⟨famS E, []⟩] (fun r ho => ∃ b Z' E', r = SV.b b ∧ ho = [some (seekB L), some (.fam Z' ⟨famS E', []⟩)] ∧ Aft L kd m o f E b E') := by
  have hm9 : m < 512 := Nat.lt_of_lt_of_le hp.hm (by exact Nat.pow_le_pow_right (n := 2) (by omega) hL)
  refine start 110 2 Try.func13 rfl rfl rfl rfl ?_
  refine r1 ?_
  refine s1 6 2 1 rfl rfl rfl rfl rfl rfl trivial ?_
  refine e1 10 rfl ?_
  refine keep [0, 1, 2] rfl ?_
  refine r1 ?_
  refine s1 7 10 1 rfl rfl rfl rfl rfl rfl trivial ?_
  refine e1 18 rfl ?_
  refine keep [0, 1, 2, 7] rfl ?_
  refine W_seq ?_
  refine r1 ?_
  refine s1 14 18 1 rfl rfl rfl rfl rfl rfl trivial ?_
  refine s1 15 26 2 rfl rfl rfl rfl rfl rfl trivial ?_
  refine s1 16 34 3 rfl rfl rfl rfl rfl rfl trivial ?_
  refine s1 17 42 4 rfl rfl rfl rfl rfl rfl (by first | trivial | omega) ?_
  refine s1 18 50 5 rfl rfl rfl rfl rfl rfl (by first | trivial | omega) ?_
  refine s1 19 58 6 rfl rfl rfl rfl rfl rfl trivial ?_
  refine e1 66 rfl ?_
  refine keep [0, 1, 2, 7, 17, 18, 19] rfl ?_
  refine W_block ?_
  refine loop (α := Nat) 2 (fun n => [(0, .ptr 0 0 0), (1, SVu m), (2, objV o), (7, SV.b (allTo L m (n))), (17, actsV L), (18, SV.i L.length), (19, SV.i (n))]) (fun n => [some (seekB L), some (.fam Z ⟨famS E, []⟩)]) (fun n => (n) ≤ L.length) (fun n => L.length - (n)) (((0) : Nat)) [0, 1] (fun _ => rfl) (show (0) ≤ L.length from (Nat.zero_le _)) rfl ⟨rfl, rfl, rfl, rfl, rfl, rfl, rfl, trivial⟩ ⟨rfl, rfl, trivial⟩ (fun n hx => ?_)
  show W _ _ _ ⟨tOf [(0, .ptr 0 0 0), (1, SVu m), (2, objV o), (7, SV.b (allTo L m n)), (17, actsV L), (18, SV.i L.length), (19, SV.i n)], hOf [some (seekB L), some (.fam Z ⟨famS E, []⟩)], 2⟩
  have hx : n ≤ L.length := hx
  have hb := bitv m hm9 n
  refine r1 ?_
  refine s1 20 2 1 rfl rfl rfl rfl rfl rfl (by first | trivial | omega) ?_
  refine e1 10 rfl ?_
  refine keep [0, 1, 2, 7, 17, 18, 19, 20] rfl ?_
  refine W_seq ?_
  refine q1 rfl (fun hc3 => ?_) (fun hc3 => ?_)
  · skip
    try simp only [cs, ne_eq] at hc3
    refine W_skip ?_
    refine tn ?_
    refine W_seq ?_
    refine W_block ?_
    refine r1 ?_
    refine s1 21 10 1 rfl rfl rfl rfl rfl rfl trivial ?_
    refine s1 22 18 2 rfl rfl rfl rfl rfl rfl (by first | trivial | omega) ?_
    refine s1 23 26 3 rfl rfl rfl rfl rfl rfl (by first | trivial | omega) ?_
    refine s1 9 34 4 rfl rfl rfl rfl rfl rfl trivial ?_
    refine s1 8 42 5 rfl rfl rfl rfl rfl rfl trivial ?_
    refine s0 50 6 rfl rfl rfl rfl rfl (by first | trivial | omega) ?_
    refine e1 58 rfl ?_
    refine keep [0, 1, 2, 7, 8, 9, 17, 18, 19] rfl ?_
    refine r0 ?_
    refine s1 24 58 1 rfl rfl rfl rfl rfl rfl trivial ?_
    refine s1 25 66 2 rfl rfl rfl rfl rfl rfl trivial ?_
    refine ask 25 rfl (fun hg5_25 => ?_) (fun hg5_25 => ?_)
    · skip
      try simp only [cs, ne_eq] at hg5_25
      refine g1 1 true 25 26 3 rfl rfl rfl rfl rfl ?_
      refine s1 26 74 3 rfl rfl rfl rfl rfl rfl trivial ?_
      refine g1 1 true 25 27 4 rfl rfl rfl rfl rfl ?_
      refine s1 27 82 4 rfl rfl rfl rfl rfl rfl (by first | trivial | omega) ?_
      refine g1 1 true 25 28 5 rfl rfl rfl rfl rfl ?_
      refine s1 28 90 5 rfl rfl rfl rfl rfl rfl (by first | trivial | omega) ?_
      refine g1 1 true 25 29 6 rfl rfl rfl rfl rfl ?_
      refine s1 29 98 6 rfl rfl rfl rfl rfl rfl trivial ?_
      refine ask 29 rfl (fun hg5_29 => ?_) (fun hg5_29 => ?_)
      · skip
        try simp only [cs, ne_eq] at hg5_29
        refine g0 5 false 29 30 7 rfl rfl rfl rfl rfl rfl ?_
        refine g0 5 false 29 31 8 rfl rfl rfl rfl rfl rfl ?_
        refine g0 5 false 29 32 9 rfl rfl rfl rfl rfl rfl ?_
        refine g0 5 false 29 33 10 rfl rfl rfl rfl rfl rfl ?_
        refine g0 5 false 29 34 11 rfl rfl rfl rfl rfl rfl ?_
        refine g1 1 true 25 35 12 rfl rfl rfl rfl rfl ?_
        refine s1 35 146 12 rfl rfl rfl rfl rfl rfl trivial ?_
        refine s1 36 154 13 rfl rfl rfl rfl rfl rfl trivial ?_
        refine s1 7 162 14 rfl rfl rfl rfl rfl rfl trivial ?_
        refine e1 170 rfl ?_
        refine bn ?_
        refine tn ?_
        refine r0 ?_
        refine sA 37 170 1 rfl rfl rfl rfl rfl rfl rfl rfl rfl (by unfold inRange; omega) ?_
        refine s1 19 178 2 rfl rfl rfl rfl rfl rfl trivial ?_
        refine e1 186 rfl ?_
        refine tn ?_
        exact again ((n + 1 : Nat)) [0, 1] (show (n + 1) ≤ L.length from (by omega)) (show L.length - (n + 1) < L.length - n from (by omega)) rfl ⟨rfl, rfl, rfl, (by show SV.b _ = SV.b _; rw [allTo_succ]; first | (rw [hg5_25]; rfl) | (simp only [Int.toNat_natCast] at hg5_29; rw [hg5_25, decide_eq_true hg5_29]; rfl) | (simp only [Int.toNat_natCast] at hg5_29; rw [hg5_25, decide_eq_false hg5_29]; simp; done)), rfl, rfl, rfl, trivial⟩ ⟨rfl, rfl, trivial⟩
      try simp only [cs, ne_eq] at hg5_29
      refine g1 5 false 29 30 7 rfl rfl rfl rfl rfl ?_
      refine s1 30 106 7 rfl rfl rfl rfl rfl rfl trivial ?_
      refine g1 5 false 29 31 8 rfl rfl rfl rfl rfl ?_
      refine s1 31 114 8 rfl rfl rfl rfl rfl rfl trivial ?_
      refine g1 5 false 29 32 9 rfl rfl rfl rfl rfl ?_
      refine s1 32 122 9 rfl rfl rfl rfl rfl rfl (by first | trivial | omega) ?_
      refine g1 5 false 29 33 10 rfl rfl rfl rfl rfl ?_
      refine s1 33 130 10 rfl rfl rfl rfl rfl rfl (by first | trivial | omega) ?_
      refine g1 5 false 29 34 11 rfl rfl rfl rfl rfl ?_
      refine s1 34 138 11 rfl rfl rfl rfl rfl rfl (by first | trivial | omega) ?_
      refine val 34 (SV.b (m.testBit n)) rfl (by show SV.b (bits .and .u64 ((m : Int).fdiv (2 ^ (min ((n : Int)).toNat 64))) 1 == 1) = _; rw [hb (by omega)]; cases m.testBit n <;> rfl) ?_
      refine g1 1 true 25 35 12 rfl rfl rfl rfl rfl ?_
      refine s1 35 146 12 rfl rfl rfl rfl rfl rfl trivial ?_
      refine s1 36 154 13 rfl rfl rfl rfl rfl rfl trivial ?_
      refine s1 7 162 14 rfl rfl rfl rfl rfl rfl trivial ?_
      refine e1 170 rfl ?_
      refine bn ?_
      refine tn ?_
      refine r0 ?_
      refine sA 37 170 1 rfl rfl rfl rfl rfl rfl rfl rfl rfl (by unfold inRange; omega) ?_
      refine s1 19 178 2 rfl rfl rfl rfl rfl rfl trivial ?_
      refine e1 186 rfl ?_
      refine tn ?_
      exact again ((n + 1 : Nat)) [0, 1] (show (n + 1) ≤ L.length from (by omega)) (show L.length - (n + 1) < L.length - n from (by omega)) rfl ⟨rfl, rfl, rfl, (by show SV.b _ = SV.b _; rw [allTo_succ]; first | (rw [hg5_25]; rfl) | (simp only [Int.toNat_natCast] at hg5_29; rw [hg5_25, decide_eq_true hg5_29]; rfl) | (simp only [Int.toNat_natCast] at hg5_29; rw [hg5_25, decide_eq_false hg5_29]; simp; done)), rfl, rfl, rfl, trivial⟩ ⟨rfl, rfl, trivial⟩
    try simp only [cs, ne_eq] at hg5_25
    refine g0 1 true 25 26 3 rfl rfl rfl rfl rfl rfl ?_
    refine g0 1 true 25 27 4 rfl rfl rfl rfl rfl rfl ?_
    refine g0 1 true 25 28 5 rfl rfl rfl rfl rfl rfl ?_
    refine g0 1 true 25 29 6 rfl rfl rfl rfl rfl rfl ?_
    refine gz 5 false 29 30 7 rfl rfl rfl rfl rfl rfl ?_
    refine gz 5 false 29 31 8 rfl rfl rfl rfl rfl rfl ?_
    refine gz 5 false 29 32 9 rfl rfl rfl rfl rfl rfl ?_
    refine gz 5 false 29 33 10 rfl rfl rfl rfl rfl rfl ?_
    refine gz 5 false 29 34 11 rfl rfl rfl rfl rfl rfl ?_
    refine g0 1 true 25 35 12 rfl rfl rfl rfl rfl rfl ?_
    refine s1 36 154 13 rfl rfl rfl rfl rfl rfl trivial ?_
    refine s1 7 162 14 rfl rfl rfl rfl rfl rfl trivial ?_
    refine e1 170 rfl ?_
    refine bn ?_
    refine tn ?_
    refine r0 ?_
    refine sA 37 170 1 rfl rfl rfl rfl rfl rfl rfl rfl rfl (by unfold inRange; omega) ?_
    refine s1 19 178 2 rfl rfl rfl rfl rfl rfl trivial ?_
    refine e1 186 rfl ?_
    refine tn ?_
    exact again ((n + 1 : Nat)) [0, 1] (show (n + 1) ≤ L.length from (by omega)) (show L.length - (n + 1) < L.length - n from (by omega)) rfl ⟨rfl, rfl, rfl, (by show SV.b _ = SV.b _; rw [allTo_succ]; first | (rw [hg5_25]; rfl) | (simp only [Int.toNat_natCast] at hg5_29; rw [hg5_25, decide_eq_true hg5_29]; rfl) | (simp only [Int.toNat_natCast] at hg5_29; rw [hg5_25, decide_eq_false hg5_29]; simp; done)), rfl, rfl, rfl, trivial⟩ ⟨rfl, rfl, trivial⟩
  try simp only [cs, ne_eq] at hc3
  refine W_exit ?_
  refine tx ?_
  refine tx ?_
  refine bx ?_
  refine tn ?_
  refine W_seq ?_
  obtain rfl : n = L.length := (by omega)
  refine r1 ?_
  refine s1 38 10 1 rfl rfl rfl rfl rfl rfl trivial ?_
  refine e1 18 rfl ?_
  refine keep [0, 1, 2, 38] rfl ?_
  refine q1 rfl (fun hc7 => ?_) (fun hc7 => ?_)
  · skip
    try simp only [cs, ne_eq] at hc7
    refine r1 ?_
    refine s1 6 18 1 rfl rfl rfl rfl rfl rfl trivial ?_
    refine e1 26 rfl ?_
    refine keep [6] rfl ?_
    refine W_ret ?_
    refine tr ?_
    exact out1 6 (SV.b true) (π := [0, 1]) (hout := [some (seekB L), some (.fam Z ⟨famS E, []⟩)]) Try.results13 rfl rfl rfl rfl ⟨rfl, rfl, trivial⟩ ⟨true, Z, E, rfl, rfl, aft_all hp hc7⟩
  try simp only [cs, ne_eq] at hc7
  have hall := hc7
  refine W_skip ?_
  refine tn ?_
  refine W_seq ?_
  rcases hk : kidx E m with _ | j
  · skip
    refine rd1 rfl ?_
    refine d1 39 18 1 rfl rfl rfl rfl rfl rfl trivial ?_
    refine d1 40 26 2 rfl rfl rfl rfl rfl rfl trivial ?_
    refine d1 41 34 3 rfl rfl rfl rfl rfl rfl trivial ?_
    refine d1 42 42 4 rfl rfl rfl rfl rfl rfl (by first | trivial | omega) ?_
    refine d1 43 50 5 rfl rfl rfl rfl rfl rfl trivial ?_
    refine dLookF none (.d .nils) (hk ▸ KF E m) (.inl ⟨rfl, .slice none 0 0, (by kernel_rfl), rfl, rfl⟩) 44 58 6 rfl rfl rfl rfl rfl rfl Try.underlying42 rfl (fun M ρ u h => h.val) rfl rfl ?_
    refine d1 45 66 7 rfl rfl rfl rfl rfl rfl trivial ?_
    refine dNilI 46 74 8 rfl rfl rfl rfl rfl rfl rfl (fun M ρ x h => obj_iface h) ?_
    refine dMeth (methV o) 47 82 9 rfl rfl rfl rfl rfl rfl rfl (fun M ρ x h => meth_of h) ?_
    refine dc1 (containsN_any o) [] [] 48 90 10 rfl rfl rfl rfl rfl rfl rfl rfl Try.func16 rfl rfl rfl rfl trivial rfl rfl ?_
    refine de1 98 rfl (by kernel_rfl) ?_
    refine keep [0, 1, 2, 48] rfl ?_
    refine q1 rfl (fun hc9 => ?_) (fun hc9 => ?_)
    · skip
      exact absurd hc9 (by decide)
    try simp only [cs, ne_eq] at hc9
    refine W_skip ?_
    refine tn ?_
    refine rd1 rfl ?_
    refine d1 49 98 1 rfl rfl rfl rfl rfl rfl trivial ?_
    refine d1 50 106 2 rfl rfl rfl rfl rfl rfl trivial ?_
    refine d1 51 114 3 rfl rfl rfl rfl rfl rfl trivial ?_
    refine d1 52 122 4 rfl rfl rfl rfl rfl rfl (by first | trivial | omega) ?_
    refine d1 53 130 5 rfl rfl rfl rfl rfl rfl trivial ?_
    refine d1 54 138 6 rfl rfl rfl rfl rfl rfl trivial ?_
    refine d1 55 146 7 rfl rfl rfl rfl rfl rfl trivial ?_
    refine d1 56 154 8 rfl rfl rfl rfl rfl rfl trivial ?_
    refine d1 57 162 9 rfl rfl rfl rfl rfl rfl (by first | trivial | omega) ?_
    refine d1 58 170 10 rfl rfl rfl rfl rfl rfl trivial ?_
    refine dLookF none (.d .nils) (hk ▸ KF E m) (.inl ⟨rfl, .slice none 0 0, (by kernel_rfl), rfl, rfl⟩) 59 178 11 rfl rfl rfl rfl rfl rfl Try.underlying42 rfl (fun M ρ u h => h.val) rfl rfl ?_
    refine d1 60 186 12 rfl rfl rfl rfl rfl rfl trivial ?_
    refine d1 61 194 13 rfl rfl rfl rfl rfl rfl trivial ?_
    refine d1 62 202 14 rfl rfl rfl rfl rfl rfl (by first | exact ⟨trivial, (by decide), (by decide)⟩ | exact ⟨Nat.le_refl _, trivial, (by show (l.length + 1) * 16 ≤ 140737488355328; omega), (by simp only [maxLen]; omega)⟩) ?_
    refine dMapF none (.sl 202 0 1) (hk ▸ KF E m) (fun p hp => by cases hp) 210 15 rfl rfl rfl rfl rfl Try.underlying42 rfl (fun M ρ u h => h.val) rfl rfl ?_
    refine de1 218 rfl (by kernel_rfl) ?_
    refine keep [0, 1, 2] rfl ?_
    refine chval 202 (.cells 35 1 [objV o]) rfl rfl ?_
    refine torows 202 1 (objF [o]) rfl (by decide) (Nat.le_refl _) (fun i c hi hc => by obtain rfl : i = 0 := (by omega); obtain rfl : c = 0 := (by omega); rfl) ?_
    refine famShut 1 (famS E).length [202] (.sl 0 0 1) [.rows 35 1 1 (objF [o])] rfl (push_at E _) rfl ⟨rfl, trivial⟩ rfl (fun Z2 => ?_)
    refine chval 1 (.fam Z2 ⟨famS (E ++ [(m, [o])]), []⟩) rfl (by rw [← famS_push (l := [o])]; rfl) ?_
    refine tell 2 [(0, .ptr 0 0 0), (1, SVu m), (2, objV o)] [some (seekB L), some (.fam Z2 ⟨famS (E ++ [(m, [o])]), []⟩)] [0, 1] rfl rfl ⟨rfl, rfl, rfl, trivial⟩ ⟨rfl, rfl, trivial⟩ ?_
    exact found_tail L hL kd f hIH m o E hp Z2 (E ++ [(m, [o])]) hall (mid0 hp (total_push E m o) (fun d x h => mem_push h))
  obtain ⟨l, hj⟩ := kidx_some hk
  have hll := total_at hj
  have hpt := hp.ht
  refine famOpen 1 j rfl (famS_at hj) rfl rfl (fun Z1 => ?_)
  refine rd1 rfl ?_
  refine d1 39 26 1 rfl rfl rfl rfl rfl rfl trivial ?_
  refine d1 40 34 2 rfl rfl rfl rfl rfl rfl trivial ?_
  refine d1 41 42 3 rfl rfl rfl rfl rfl rfl trivial ?_
  refine d1 42 50 4 rfl rfl rfl rfl rfl rfl (by first | trivial | omega) ?_
  refine d1 43 58 5 rfl rfl rfl rfl rfl rfl trivial ?_
  refine dLookF (some j) (.sl 18 0 l.length) (hk ▸ KF E m) (.inr ⟨j, rfl, List.mem_singleton.2 rfl⟩) 44 66 6 rfl rfl rfl rfl rfl rfl Try.underlying42 rfl (fun M ρ u h => h.val) rfl rfl ?_
  refine d1 45 74 7 rfl rfl rfl rfl rfl rfl trivial ?_
  refine dNilI 46 82 8 rfl rfl rfl rfl rfl rfl rfl (fun M ρ x h => obj_iface h) ?_
  refine dMeth (methV o) 47 90 9 rfl rfl rfl rfl rfl rfl rfl (fun M ρ x h => meth_of h) ?_
  refine dc1 (containsO_any o l (by omega) (fun i hi => by have := hp.hok m (l.getD i default) ⟨(m, l), List.mem_of_getElem? hj, rfl, (by rw [getG hi]; exact List.getElem_mem hi)⟩; exact ⟨hp.hk.trans this.1.symm, by omega⟩)) [18] [18] 48 98 10 rfl rfl rfl rfl rfl rfl rfl rfl Try.func16 rfl rfl rfl rfl ⟨rfl, trivial⟩ rfl rfl ?_
  refine de1 106 rfl (by kernel_rfl) ?_
  refine keep [0, 1, 2, 48] rfl ?_
  refine q1 rfl (fun hc9 => ?_) (fun hc9 => ?_)
  · skip
    try simp only [cs, ne_eq] at hc9
    refine r1 ?_
    refine s1 6 106 1 rfl rfl rfl rfl rfl rfl trivial ?_
    refine e1 114 rfl ?_
    refine keep [6] rfl ?_
    refine famShut 1 j [18] (.sl 0 0 l.length) [.rows 35 1 l.length (objF l)] rfl (famS_at hj) rfl ⟨rfl, trivial⟩ rfl (fun Z2 => ?_)
    refine chval 1 (.fam Z2 ⟨famS E, []⟩) rfl (by rw [famS_self hj]) ?_
    refine W_ret ?_
    refine tr ?_
    exact out1 6 (SV.b false) (π := [0, 1]) (hout := [some (seekB L), some (.fam Z2 ⟨famS E, []⟩)]) Try.results13 rfl rfl rfl rfl ⟨rfl, rfl, trivial⟩ ⟨false, Z2, E, rfl, rfl, aft_seen hp hj hc9⟩
  try simp only [cs, ne_eq] at hc9
  refine W_skip ?_
  refine tn ?_
  refine rd1 rfl ?_
  refine d1 49 106 1 rfl rfl rfl rfl rfl rfl trivial ?_
  refine d1 50 114 2 rfl rfl rfl rfl rfl rfl trivial ?_
  refine d1 51 122 3 rfl rfl rfl rfl rfl rfl trivial ?_
  refine d1 52 130 4 rfl rfl rfl rfl rfl rfl (by first | trivial | omega) ?_
  refine d1 53 138 5 rfl rfl rfl rfl rfl rfl trivial ?_
  refine d1 54 146 6 rfl rfl rfl rfl rfl rfl trivial ?_
  refine d1 55 154 7 rfl rfl rfl rfl rfl rfl trivial ?_
  refine d1 56 162 8 rfl rfl rfl rfl rfl rfl trivial ?_
  refine d1 57 170 9 rfl rfl rfl rfl rfl rfl (by first | trivial | omega) ?_
  refine d1 58 178 10 rfl rfl rfl rfl rfl rfl trivial ?_
  refine dLookF (some j) (.sl 18 0 l.length) (hk ▸ KF E m) (.inr ⟨j, rfl, List.mem_singleton.2 rfl⟩) 59 186 11 rfl rfl rfl rfl rfl rfl Try.underlying42 rfl (fun M ρ u h => h.val) rfl rfl ?_
  refine d1 60 194 12 rfl rfl rfl rfl rfl rfl trivial ?_
  refine d1 61 202 13 rfl rfl rfl rfl rfl rfl trivial ?_
  refine d1 62 210 14 rfl rfl rfl rfl rfl rfl (by first | exact ⟨trivial, (by decide), (by decide)⟩ | exact ⟨Nat.le_refl _, trivial, (by show (l.length + 1) * 16 ≤ 140737488355328; omega), (by simp only [maxLen]; omega)⟩) ?_
  refine dMapF (some j) (.sl 210 0 (l.length + 1)) (hk ▸ KF E m) (fun p hp => by rw [List.mem_singleton.1 hp]) 218 15 rfl rfl rfl rfl rfl Try.underlying42 rfl (fun M ρ u h => h.val) rfl rfl ?_
  refine de1 226 rfl (by kernel_rfl) ?_
  refine keep [0, 1, 2] rfl ?_
  refine rowsc 210 (l ++ [o]).length (objF (l ++ [o])) rfl (by simp) (fun i c hi hc => obj_cat l o i c hi hc) ?_
  refine famShut 1 j [210] (.sl 0 0 (l ++ [o]).length) [.rows 35 1 (l ++ [o]).length (objF (l ++ [o]))] rfl (set_at hj _) (by rw [List.length_append]; rfl) ⟨rfl, trivial⟩ rfl (fun Z2 => ?_)
  refine chval 1 (.fam Z2 ⟨famS (E.set j (m, l ++ [o])), []⟩) rfl (by rw [List.set_set, famS_set]) ?_
  refine tell 2 [(0, .ptr 0 0 0), (1, SVu m), (2, objV o)] [some (seekB L), some (.fam Z2 ⟨famS (E.set j (m, l ++ [o])), []⟩)] [0, 1] rfl rfl ⟨rfl, rfl, rfl, trivial⟩ ⟨rfl, rfl, trivial⟩ ?_
  exact found_tail L hL kd f hIH m o E hp Z2 (E.set j (m, l ++ [o])) hall (mid0 hp (total_set o hj) (fun d x h => mem_set hj h))

theorem found_any (L : List Act) (hL : L.length ≤ 9) (kd : Nat) : ∀ (f m : Nat) (o : Ob) (Z : List Nat) (E : List (Nat × List Ob)), Pre L kd m o f E → Spec Try.prog G0 13 [.ptr 0 0 0, SVu m, objV o] [seekB L, .fam Z ⟨famS E, []⟩] (fun r ho => ∃ b Z' E', r = SV.b b ∧ ho = [some (seekB L), some (.fam Z' ⟨famS E', []⟩)] ∧ Aft L kd m o f E b E') := by
  intro f
  induction f with
  | zero => intro m o Z E hp; exact found_step L hL kd 0 (fun f' e => by omega) m o E hp Z
  | succ f ih => intro m o Z E hp; exact found_step L hL kd (f + 1) (fun f' e => by obtain rfl : f = f' := (by omega); exact ih) m o E hp Z
end Go.Proofs.Ytdjphneoecebmaa.Nice
