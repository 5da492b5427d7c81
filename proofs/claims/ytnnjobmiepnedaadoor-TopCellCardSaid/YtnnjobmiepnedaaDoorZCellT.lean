/- The codes of package cell. -/
import Derived.Test.YtnnjobmiepnedaaDoorZAsmT
namespace Go.Proofs.YtnnjobmiepnedaaDoor.Nice
open Go
set_option linter.unusedVariables false
set_option linter.unusedSimpArgs false
set_option maxRecDepth 100000
set_option maxHeartbeats 4000000
abbrev st_again : ByteArray := ⟨#[97, 103, 97, 105, 110]⟩
abbrev st_base : ByteArray := ⟨#[98, 97, 115, 101]⟩
abbrev st_now : ByteArray := ⟨#[110, 111, 119]⟩
abbrev st_odd : ByteArray := ⟨#[111, 100, 100]⟩
abbrev st_one : ByteArray := ⟨#[111, 110, 101]⟩
abbrev st_same : ByteArray := ⟨#[115, 97, 109, 101]⟩
abbrev st_turn : ByteArray := ⟨#[116, 117, 114, 110]⟩
abbrev st_two : ByteArray := ⟨#[116, 119, 111]⟩
abbrev st_v : ByteArray := ⟨#[118]⟩
theorem cell_may_any (wide : Int) : Spec Tryd.prog GV 55 [SV.i wide] [] (fun r ho => r = SV.b ((decide (1 ≤ wide) && decide (wide ≤ 6))) ∧ ho = []) := by
  refine start 9 0 Tryd.func55 rfl rfl rfl rfl ?_
  refine r1 ?_
  refine s1 2 0 1 rfl rfl rfl rfl rfl rfl trivial ?_
  refine e1 8 rfl ?_
  refine keep [0] rfl ?_
  refine r1 ?_
  refine s1 3 8 1 rfl rfl rfl rfl rfl rfl trivial ?_
  refine s1 4 16 2 rfl rfl rfl rfl rfl rfl (by first | trivial | omega) ?_
  refine s1 5 24 3 rfl rfl rfl rfl rfl rfl trivial ?_
  refine ask 5 rfl (fun hg1_5 => ?_) (fun hg1_5 => ?_)
  · skip
    try simp only [cs, ne_eq] at hg1_5
    refine g1 2 true 5 6 4 rfl rfl rfl rfl rfl ?_
    refine s1 6 32 4 rfl rfl rfl rfl rfl rfl trivial ?_
    refine g1 2 true 5 7 5 rfl rfl rfl rfl rfl ?_
    refine s1 7 40 5 rfl rfl rfl rfl rfl rfl (by first | trivial | omega) ?_
    refine s1 8 48 6 rfl rfl rfl rfl rfl rfl trivial ?_
    refine s1 2 56 7 rfl rfl rfl rfl rfl rfl trivial ?_
    refine e1 64 rfl ?_
    refine keep [2] rfl ?_
    refine W_ret ?_
    exact out1 2 (SV.b ((decide (1 ≤ wide) && decide (wide ≤ 6)))) (π := []) (hout := []) Tryd.results55 rfl (by show SV.b _ = SV.b _; refine congrArg SV.b (Bool.eq_iff_iff.2 ?_); simp at *; try omega) rfl rfl trivial ⟨rfl, rfl⟩
  · skip
    try simp only [cs, ne_eq] at hg1_5
    refine g0 2 true 5 6 4 rfl rfl rfl rfl rfl rfl ?_
    refine g0 2 true 5 7 5 rfl rfl rfl rfl rfl rfl ?_
    refine s1 8 48 6 rfl rfl rfl rfl rfl rfl trivial ?_
    refine s1 2 56 7 rfl rfl rfl rfl rfl rfl trivial ?_
    refine e1 64 rfl ?_
    refine keep [2] rfl ?_
    refine W_ret ?_
    exact out1 2 (SV.b ((decide (1 ≤ wide) && decide (wide ≤ 6)))) (π := []) (hout := []) Tryd.results55 rfl (by show SV.b _ = SV.b _; refine congrArg SV.b (Bool.eq_iff_iff.2 ?_); simp at *; try omega) rfl rfl trivial ⟨rfl, rfl⟩

def digS : ByteArray := ⟨#[48, 49, 50, 51, 52, 53, 54, 55, 56, 57, 97, 98, 99, 100, 101, 102, 103, 104, 105, 106, 107, 108, 109, 110, 111, 112, 113, 114, 115, 116, 117, 118, 119, 120, 121, 122]⟩
def digit (n : Int) : ByteArray := digS.extract n.toNat (n + 1).toNat
theorem digit_size (n : Int) : (digit n).size ≤ 36 := by
  unfold digit
  rw [ByteArray.size_extract]
  have : digS.size = 36 := rfl
  rw [this]; omega
theorem cat_le {a b : ByteArray} (ha : a.size ≤ 100) (hb : b.size ≤ 36) : a.size + b.size ≤ 9223372036854775807 := by omega

theorem small_any (n : Int) (h0 : 0 ≤ n) (h9 : n < 10) : Spec Tryd.prog GV 81 [SV.i n] [] (fun r ho => r = .d (.val (.string (digit n))) ∧ ho = []) := by
  refine start 15 0 Tryd.func81 rfl rfl rfl rfl ?_
  refine r1 ?_
  refine s1 2 0 1 rfl rfl rfl rfl rfl rfl trivial ?_
  refine e1 8 rfl ?_
  refine keep [0] rfl ?_
  refine W_seq ?_
  refine r1 ?_
  refine s1 3 8 1 rfl rfl rfl rfl rfl rfl trivial ?_
  refine s1 4 16 2 rfl rfl rfl rfl rfl rfl (by first | trivial | omega) ?_
  refine e1 24 rfl ?_
  refine keep [0, 4] rfl ?_
  refine q1 rfl (fun hc1 => ?_) (fun hc1 => ?_)
  · skip
    try simp only [cs, ne_eq] at hc1
    refine r1 ?_
    refine s1 5 24 1 rfl rfl rfl rfl rfl rfl trivial ?_
    refine s1 6 32 2 rfl rfl rfl rfl rfl rfl trivial ?_
    refine sA 7 40 3 rfl rfl rfl rfl rfl rfl rfl rfl rfl (by unfold inRange; omega) ?_
    refine s1 8 48 4 rfl rfl rfl rfl rfl rfl (by show 0 ≤ n ∧ n ≤ n + 1 ∧ n + 1 ≤ 36; omega) ?_
    refine s1 2 56 5 rfl rfl rfl rfl rfl rfl trivial ?_
    refine e1 64 rfl ?_
    refine keep [2] rfl ?_
    refine W_ret ?_
    refine tr ?_
    exact out1 2 (.d (.val (.string (digit n)))) (π := []) (hout := []) Tryd.results81 rfl rfl rfl rfl trivial ⟨rfl, rfl⟩
  · skip
    exfalso; simp at hc1; omega

theorem format_any (n : Int) (h0 : 0 ≤ n) (h9 : n < 10) : Spec Tryd.prog GV 80 [SV.i n, SV.i 10] [] (fun r ho => r = .d (.val (.string (digit n))) ∧ ho = []) := by
  refine start 54 0 Tryd.func80 rfl rfl rfl rfl ?_
  refine r1 ?_
  refine s1 4 0 1 rfl rfl rfl rfl rfl rfl trivial ?_
  refine e1 8 rfl ?_
  refine keep [0, 1] rfl ?_
  refine W_seq ?_
  refine r1 ?_
  refine s1 10 8 1 rfl rfl rfl rfl rfl rfl trivial ?_
  refine s1 11 16 2 rfl rfl rfl rfl rfl rfl (by first | trivial | omega) ?_
  refine e1 24 rfl ?_
  refine keep [0, 1, 11] rfl ?_
  refine q1 rfl (fun hc1 => ?_) (fun hc1 => ?_)
  · skip
    try simp only [cs, ne_eq] at hc1
    refine W_seq ?_
    refine r1 ?_
    refine s1 12 24 1 rfl rfl rfl rfl rfl rfl trivial ?_
    refine s1 13 32 2 rfl rfl rfl rfl rfl rfl (by first | trivial | omega) ?_
    refine s1 14 40 3 rfl rfl rfl rfl rfl rfl trivial ?_
    refine ask 14 rfl (fun hg2_14 => ?_) (fun hg2_14 => ?_)
    · skip
      try simp only [cs, ne_eq] at hg2_14
      refine g1 2 true 14 15 4 rfl rfl rfl rfl rfl ?_
      refine s1 15 48 4 rfl rfl rfl rfl rfl rfl trivial ?_
      refine g1 2 true 14 16 5 rfl rfl rfl rfl rfl ?_
      refine s1 16 56 5 rfl rfl rfl rfl rfl rfl (by first | trivial | omega) ?_
      refine s1 17 64 6 rfl rfl rfl rfl rfl rfl trivial ?_
      refine e1 72 rfl ?_
      refine keep [0, 17] rfl ?_
      refine q1 rfl (fun hc2 => ?_) (fun hc2 => ?_)
      · skip
        try simp only [cs, ne_eq] at hc2
        refine r1 ?_
        refine s1 18 72 1 rfl rfl rfl rfl rfl rfl trivial ?_
        refine c1 (small_any n h0 h9) [] [] 19 80 2 rfl rfl rfl rfl rfl rfl rfl rfl Tryd.func81 rfl rfl rfl rfl trivial rfl rfl ?_
        refine s1 4 88 3 rfl rfl rfl rfl rfl rfl trivial ?_
        refine e1 96 rfl ?_
        refine keep [4] rfl ?_
        refine W_ret ?_
        refine tr ?_
        refine tr ?_
        exact out1 4 (.d (.val (.string (digit n)))) (π := []) (hout := []) Tryd.results80 rfl rfl rfl rfl trivial ⟨rfl, rfl⟩
      · skip
        exfalso; simp at hc2; omega
    · skip
      try simp only [cs, ne_eq] at hg2_14
      all_goals (exfalso; omega)
  · skip
    exact absurd hc1 (by decide)

theorem itoa0_any (n : Int) (h0 : 0 ≤ n) (h9 : n < 10) : Spec Tryd.prog GV 79 [SV.i n] [] (fun r ho => r = .d (.val (.string (digit n))) ∧ ho = []) := by
  refine start 5 0 Tryd.func79 rfl rfl rfl rfl ?_
  refine r1 ?_
  refine s1 2 0 1 rfl rfl rfl rfl rfl rfl trivial ?_
  refine e1 8 rfl ?_
  refine keep [0] rfl ?_
  refine r1 ?_
  refine s1 3 8 1 rfl rfl rfl rfl rfl rfl trivial ?_
  refine c1 (format_any n h0 h9) [] [] 4 16 2 rfl rfl rfl rfl rfl rfl rfl rfl Tryd.func80 rfl rfl rfl rfl trivial rfl rfl ?_
  refine s1 2 24 3 rfl rfl rfl rfl rfl rfl trivial ?_
  refine e1 32 rfl ?_
  refine keep [2] rfl ?_
  refine W_ret ?_
  exact out1 2 (.d (.val (.string (digit n)))) (π := []) (hout := []) Tryd.results79 rfl rfl rfl rfl trivial ⟨rfl, rfl⟩

theorem itoa_any (n : Int) (h0 : 0 ≤ n) (h9 : n < 10) : Spec Tryd.prog GV 72 [SV.i n] [] (fun r ho => r = .d (.val (.string (digit n))) ∧ ho = []) := by
  refine start 5 0 Tryd.func72 rfl rfl rfl rfl ?_
  refine r1 ?_
  refine s1 2 0 1 rfl rfl rfl rfl rfl rfl trivial ?_
  refine e1 8 rfl ?_
  refine keep [0] rfl ?_
  refine r1 ?_
  refine s1 3 8 1 rfl rfl rfl rfl rfl rfl trivial ?_
  refine c1 (itoa0_any n h0 h9) [] [] 4 16 2 rfl rfl rfl rfl rfl rfl rfl rfl Tryd.func79 rfl rfl rfl rfl trivial rfl rfl ?_
  refine s1 2 24 3 rfl rfl rfl rfl rfl rfl trivial ?_
  refine e1 32 rfl ?_
  refine keep [2] rfl ?_
  refine W_ret ?_
  exact out1 2 (.d (.val (.string (digit n)))) (π := []) (hout := []) Tryd.results72 rfl rfl rfl rfl trivial ⟨rfl, rfl⟩

theorem cell_name_any (n : Int) (h0 : 0 ≤ n) (h9 : n < 10) : Spec Tryd.prog GV 57 [SV.i n] [] (fun r ho => r = .d (.val (.string (st_v ++ digit n))) ∧ ho = []) := by
  refine start 6 0 Tryd.func57 rfl rfl rfl rfl ?_
  refine r1 ?_
  refine s1 2 0 1 rfl rfl rfl rfl rfl rfl trivial ?_
  refine e1 8 rfl ?_
  refine keep [0] rfl ?_
  refine r1 ?_
  refine s1 3 8 1 rfl rfl rfl rfl rfl rfl trivial ?_
  refine c1 (itoa_any n h0 h9) [] [] 4 16 2 rfl rfl rfl rfl rfl rfl rfl rfl Tryd.func72 rfl rfl rfl rfl trivial rfl rfl ?_
  refine sCat 5 24 3 rfl rfl rfl rfl rfl rfl rfl rfl (cat_le (by decide) (digit_size _)) ?_
  refine s1 2 32 4 rfl rfl rfl rfl rfl rfl trivial ?_
  refine e1 40 rfl ?_
  refine keep [2] rfl ?_
  refine W_ret ?_
  exact out1 2 (.d (.val (.string (st_v ++ digit n)))) (π := []) (hout := []) Tryd.results57 rfl rfl rfl rfl trivial ⟨rfl, rfl⟩

theorem no_Words (wide : Int) (hr : ¬ (1 ≤ wide ∧ wide ≤ 6)) : Spec Tryd.prog GV 26 [SV.i wide] [] (fun r ho => r = SV.tup [.d .nils, SV.i 2] ∧ ho = []) := by
  refine start 10 0 Tryd.func26 rfl rfl rfl rfl ?_
  refine r1 ?_
  refine s1 2 0 1 rfl rfl rfl rfl rfl rfl trivial ?_
  refine s1 3 8 2 rfl rfl rfl rfl rfl rfl trivial ?_
  refine e1 16 rfl ?_
  refine keep [0] rfl ?_
  refine W_seq ?_
  refine r1 ?_
  refine s1 4 16 1 rfl rfl rfl rfl rfl rfl trivial ?_
  refine c1 (cell_may_any wide) [] [] 5 24 2 rfl rfl rfl rfl rfl rfl rfl rfl Tryd.func55 rfl rfl rfl rfl trivial rfl rfl ?_
  refine s1 6 32 3 rfl rfl rfl rfl rfl rfl trivial ?_
  refine e1 40 rfl ?_
  refine keep [0, 6] rfl ?_
  refine q1 rfl (fun hc1 => ?_) (fun hc1 => ?_)
  · skip
    try simp only [cs, ne_eq] at hc1
    refine r1 ?_
    refine s1 2 40 1 rfl rfl rfl rfl rfl rfl trivial ?_
    refine s1 3 48 2 rfl rfl rfl rfl rfl rfl trivial ?_
    refine e1 56 rfl ?_
    refine keep [2, 3] rfl ?_
    refine W_ret ?_
    refine tr ?_
    exact out2 2 3 (.d .nils) (SV.i 2) (π := []) (hout := []) Tryd.results26 rfl rfl rfl rfl rfl rfl trivial ⟨rfl, rfl⟩
  · skip
    exfalso; simp at hc1; omega

theorem no_Put (wide : Int) (hr : ¬ (1 ≤ wide ∧ wide ≤ 6)) : Spec Tryd.prog GV 27 [SV.i wide] [] (fun r ho => r = SV.tup [.d .nils, SV.i 2] ∧ ho = []) := by
  refine start 41 0 Tryd.func27 rfl rfl rfl rfl ?_
  refine r1 ?_
  refine s1 2 0 1 rfl rfl rfl rfl rfl rfl trivial ?_
  refine s1 3 8 2 rfl rfl rfl rfl rfl rfl trivial ?_
  refine e1 16 rfl ?_
  refine keep [0] rfl ?_
  refine W_seq ?_
  refine r1 ?_
  refine s1 7 16 1 rfl rfl rfl rfl rfl rfl trivial ?_
  refine c1 (cell_may_any wide) [] [] 8 24 2 rfl rfl rfl rfl rfl rfl rfl rfl Tryd.func55 rfl rfl rfl rfl trivial rfl rfl ?_
  refine s1 9 32 3 rfl rfl rfl rfl rfl rfl trivial ?_
  refine e1 40 rfl ?_
  refine keep [0, 9] rfl ?_
  refine q1 rfl (fun hc1 => ?_) (fun hc1 => ?_)
  · skip
    try simp only [cs, ne_eq] at hc1
    refine r1 ?_
    refine s1 2 40 1 rfl rfl rfl rfl rfl rfl trivial ?_
    refine s1 3 48 2 rfl rfl rfl rfl rfl rfl trivial ?_
    refine e1 56 rfl ?_
    refine keep [2, 3] rfl ?_
    refine W_ret ?_
    refine tr ?_
    exact out2 2 3 (.d .nils) (SV.i 2) (π := []) (hout := []) Tryd.results27 rfl rfl rfl rfl rfl rfl trivial ⟨rfl, rfl⟩
  · skip
    exfalso; simp at hc1; omega

theorem no_Get (wide : Int) (hr : ¬ (1 ≤ wide ∧ wide ≤ 6)) : Spec Tryd.prog GV 28 [SV.i wide] [] (fun r ho => r = SV.tup [.d .nils, SV.i 2] ∧ ho = []) := by
  refine start 45 0 Tryd.func28 rfl rfl rfl rfl ?_
  refine r1 ?_
  refine s1 2 0 1 rfl rfl rfl rfl rfl rfl trivial ?_
  refine s1 3 8 2 rfl rfl rfl rfl rfl rfl trivial ?_
  refine e1 16 rfl ?_
  refine keep [0] rfl ?_
  refine W_seq ?_
  refine r1 ?_
  refine s1 7 16 1 rfl rfl rfl rfl rfl rfl trivial ?_
  refine c1 (cell_may_any wide) [] [] 8 24 2 rfl rfl rfl rfl rfl rfl rfl rfl Tryd.func55 rfl rfl rfl rfl trivial rfl rfl ?_
  refine s1 9 32 3 rfl rfl rfl rfl rfl rfl trivial ?_
  refine e1 40 rfl ?_
  refine keep [0, 9] rfl ?_
  refine q1 rfl (fun hc1 => ?_) (fun hc1 => ?_)
  · skip
    try simp only [cs, ne_eq] at hc1
    refine r1 ?_
    refine s1 2 40 1 rfl rfl rfl rfl rfl rfl trivial ?_
    refine s1 3 48 2 rfl rfl rfl rfl rfl rfl trivial ?_
    refine e1 56 rfl ?_
    refine keep [2, 3] rfl ?_
    refine W_ret ?_
    refine tr ?_
    exact out2 2 3 (.d .nils) (SV.i 2) (π := []) (hout := []) Tryd.results28 rfl rfl rfl rfl rfl rfl trivial ⟨rfl, rfl⟩
  · skip
    exfalso; simp at hc1; omega

theorem yes_Words (wide : Int) (hr : 1 ≤ wide ∧ wide ≤ 6) : Spec Tryd.prog GV 26 [SV.i wide] [] (fun r ho => r = SV.tup [.sl 0 0 (1 + wide).toNat, SV.i 0] ∧ ho = [none]) := by
  refine start 10 0 Tryd.func26 rfl rfl rfl rfl ?_
  refine r1 ?_
  refine s1 2 0 1 rfl rfl rfl rfl rfl rfl trivial ?_
  refine s1 3 8 2 rfl rfl rfl rfl rfl rfl trivial ?_
  refine e1 16 rfl ?_
  refine keep [0] rfl ?_
  refine W_seq ?_
  refine r1 ?_
  refine s1 4 16 1 rfl rfl rfl rfl rfl rfl trivial ?_
  refine c1 (cell_may_any wide) [] [] 5 24 2 rfl rfl rfl rfl rfl rfl rfl rfl Tryd.func55 rfl rfl rfl rfl trivial rfl rfl ?_
  refine s1 6 32 3 rfl rfl rfl rfl rfl rfl trivial ?_
  refine e1 40 rfl ?_
  refine keep [0, 6] rfl ?_
  refine q1 rfl (fun hc1 => ?_) (fun hc1 => ?_)
  · skip
    exfalso; simp at hc1; omega
  · skip
    try simp only [cs, ne_eq] at hc1
    refine W_skip ?_
    refine tn ?_
    refine r1 ?_
    refine s1 7 40 1 rfl rfl rfl rfl rfl rfl trivial ?_
    refine sA 8 48 2 rfl rfl rfl rfl rfl rfl rfl rfl rfl (by unfold inRange; omega) ?_
    refine s1 9 56 3 rfl rfl rfl rfl rfl rfl (by refine ⟨?_, rfl, ?_, ?_⟩; omega; (show _ * 8 ≤ (140737488355328 : Int); omega); omega) ?_
    refine s1 2 64 4 rfl rfl rfl rfl rfl rfl trivial ?_
    refine s1 3 72 5 rfl rfl rfl rfl rfl rfl trivial ?_
    refine e1 80 rfl ?_
    refine keep [2, 3] rfl ?_
    refine W_ret ?_
    exact out2 2 3 (.sl 0 0 (1 + wide).toNat) (SV.i 0) (π := [56]) (hout := [none]) Tryd.results26 rfl rfl rfl rfl rfl rfl trivial ⟨rfl, rfl⟩

def L_put1 (wide : Int) : Nat → Bld
  | 0 => (mk [])
  | n + 1 => ((L_put1 wide n).reg (st_v ++ digit (n : Int)))

theorem okL_put1 (wide : Int) : ∀ n : Nat, (L_put1 wide n).ok (0 + 0 * n)
  | 0 => ok_up (ok_mk []) (by omega)
  | n + 1 => ok_up (ok_reg (s := (st_v ++ digit (n : Int))) ((okL_put1 wide n))) (by omega)

def L_put2 (wide : Int) : Nat → Bld
  | 0 => (((((L_put1 wide wide.toNat).set st_one 1).word 13 st_turn st_base 0).doo 3 st_turn st_turn st_one).word 14 st_turn st_base 0)
  | n + 1 => ((L_put2 wide n).word 14 (st_v ++ digit (n : Int)) st_base (1 + (n : Int)))

theorem okL_put2 (wide : Int) : ∀ n : Nat, (L_put2 wide n).ok (0 + 0 * wide.toNat + 4 + 1 * n)
  | 0 => ok_up (ok_word 14 st_turn st_base 0 (ok_doo 3 st_turn st_turn st_one (ok_word 13 st_turn st_base 0 (ok_set st_one 1 (okL_put1 wide wide.toNat))))) (by omega)
  | n + 1 => ok_up (ok_word 14 (st_v ++ digit (n : Int)) st_base (1 + (n : Int)) ((okL_put2 wide n))) (by omega)

def B_Put (wide : Int) : Bld := (((L_put2 wide wide.toNat).doo 3 st_turn st_turn st_one).word 14 st_turn st_base 0)
theorem yes_Put (wide : Int) (hr : 1 ≤ wide ∧ wide ≤ 6) : Spec Tryd.prog GV 27 [SV.i wide] [] (fun r ho => r = SV.tup [.sl 0 0 (fin (B_Put wide)).length, SV.i 0] ∧ ho = [some (.rows 64 5 (fin (B_Put wide)).length (insF (fin (B_Put wide))))]) := by
  refine start 41 0 Tryd.func27 rfl rfl rfl rfl ?_
  refine r1 ?_
  refine s1 2 0 1 rfl rfl rfl rfl rfl rfl trivial ?_
  refine s1 3 8 2 rfl rfl rfl rfl rfl rfl trivial ?_
  refine e1 16 rfl ?_
  refine keep [0] rfl ?_
  refine W_seq ?_
  refine r1 ?_
  refine s1 7 16 1 rfl rfl rfl rfl rfl rfl trivial ?_
  refine c1 (cell_may_any wide) [] [] 8 24 2 rfl rfl rfl rfl rfl rfl rfl rfl Tryd.func55 rfl rfl rfl rfl trivial rfl rfl ?_
  refine s1 9 32 3 rfl rfl rfl rfl rfl rfl trivial ?_
  refine e1 40 rfl ?_
  refine keep [0, 9] rfl ?_
  refine q1 rfl (fun hc1 => ?_) (fun hc1 => ?_)
  · skip
    exfalso; simp at hc1; omega
  · skip
    try simp only [decide_eq_true_eq, decide_eq_false_iff_not] at hc1
    refine W_skip ?_
    refine tn ?_
    refine r1 ?_
    refine c1 (nil_any) [] [40, 41, 42, 43, 44] 10 40 1 rfl rfl rfl rfl rfl rfl rfl rfl Tryd.func34 rfl rfl rfl rfl trivial rfl rfl ?_
    have hb1 := ok_mk []
    refine s1 4 48 2 rfl rfl rfl rfl rfl rfl trivial ?_
    refine e1 56 rfl ?_
    refine keep [0, 4] rfl ?_
    refine W_seq ?_
    refine r1 ?_
    refine s1 11 56 1 rfl rfl rfl rfl rfl rfl trivial ?_
    refine s1 12 64 2 rfl rfl rfl rfl rfl rfl trivial ?_
    refine e1 72 rfl ?_
    refine keep [0, 4, 11, 12] rfl ?_
    refine W_block ?_
    refine loop (α := Nat) 5 (fun n => [(0, SV.i wide), (4, .ptr 0 0 0), (11, SV.i wide), (12, SV.i n)]) (fun n => [some (.cells 114 4 [.sl 1 0 (L_put1 wide n).ops.length, .map 2, .sl 3 0 (L_put1 wide n).gotos.length, .map 4]), some (.rows 64 5 (L_put1 wide n).ops.length (insF (L_put1 wide n).ops)), some (.map (mapE (L_put1 wide n).places)), some (.rows 116 2 (L_put1 wide n).gotos.length (gotoF (L_put1 wide n).gotos)), some (.map (mapE (L_put1 wide n).regs))]) (fun n => n ≤ wide.toNat) (fun n => wide.toNat - n) (0) [40, 41, 42, 43, 44] (fun _ => rfl) (Nat.zero_le _) rfl ⟨rfl, rfl, rfl, rfl, trivial⟩ ⟨rfl, rfl, rfl, rfl, rfl, trivial⟩ (fun n hx => ?_)
    have hb2 := okL_put1 wide n
    refine r1 ?_
    refine s1 13 5 1 rfl rfl rfl rfl rfl rfl (by first | trivial | omega) ?_
    refine e1 13 rfl ?_
    refine keep [0, 4, 11, 12, 13] rfl ?_
    refine W_seq ?_
    refine q1 rfl (fun hc5 => ?_) (fun hc5 => ?_)
    · skip
      try simp only [decide_eq_true_eq, decide_eq_false_iff_not] at hc5
      refine W_skip ?_
      refine tn ?_
      refine W_seq ?_
      refine W_block ?_
      refine r1 ?_
      refine s1 14 13 1 rfl rfl rfl rfl rfl rfl trivial ?_
      refine s1 5 21 2 rfl rfl rfl rfl rfl rfl trivial ?_
      refine e1 29 rfl ?_
      refine keep [0, 4, 5, 11, 12] rfl ?_
      refine r0 ?_
      refine s1 15 29 1 rfl rfl rfl rfl rfl rfl trivial ?_
      refine s1 16 37 2 rfl rfl rfl rfl rfl rfl trivial ?_
      refine c1 (cell_name_any (n : Int) (by omega) (by omega)) [] [] 17 45 3 rfl rfl rfl rfl rfl rfl rfl rfl Tryd.func57 rfl rfl rfl rfl trivial rfl rfl ?_
      refine c1 (reg_any (L_put1 wide n) (st_v ++ digit (n : Int))) [0, 1, 2, 3, 4] [0, 1, 2, 3, 4] 18 53 4 rfl rfl rfl rfl rfl rfl rfl rfl Tryd.func56 rfl rfl rfl rfl ⟨rfl, rfl, rfl, rfl, rfl, trivial⟩ rfl rfl ?_
      have hb3 := ok_reg (s := (st_v ++ digit (n : Int))) hb2
      refine e1 61 rfl ?_
      refine bn ?_
      refine tn ?_
      refine r0 ?_
      refine sA 19 61 1 rfl rfl rfl rfl rfl rfl rfl rfl rfl (by unfold inRange; omega) ?_
      refine s1 12 69 2 rfl rfl rfl rfl rfl rfl trivial ?_
      refine e1 77 rfl ?_
      refine tn ?_
      exact again (n + 1) [0, 1, 2, 3, 4] (by omega) (by omega) rfl ⟨rfl, rfl, rfl, rfl, trivial⟩ ⟨rfl, rfl, rfl, rfl, rfl, trivial⟩
    · skip
      try simp only [decide_eq_true_eq, decide_eq_false_iff_not] at hc5
      obtain rfl : n = wide.toNat := (by omega)
      have hb4 := okL_put1 wide wide.toNat
      refine W_exit ?_
      refine tx ?_
      refine tx ?_
      refine bx ?_
      refine tn ?_
      refine r1 ?_
      refine s1 20 13 1 rfl rfl rfl rfl rfl rfl trivial ?_
      refine c1 (set_any (L_put1 wide wide.toNat) st_one 1 hb4 (by omega)) [0, 1, 2, 3, 4] [0, 1, 2, 3, 4, 21] 21 21 2 rfl rfl rfl rfl rfl rfl rfl rfl Tryd.func54 rfl rfl rfl rfl ⟨rfl, rfl, rfl, rfl, rfl, trivial⟩ rfl rfl ?_
      have hb5 := ok_set st_one 1 hb4
      refine c1 (asmword_any ((L_put1 wide wide.toNat).set st_one 1) 13 st_turn st_base 0 hb5 (by omega)) [0, 21, 2, 3, 4] [0, 21, 2, 3, 4, 29] 22 29 3 rfl rfl rfl rfl rfl rfl rfl rfl Tryd.func35 rfl rfl rfl rfl ⟨rfl, rfl, rfl, rfl, rfl, trivial⟩ rfl rfl ?_
      have hb6 := ok_word 13 st_turn st_base 0 hb5
      refine e1 37 rfl ?_
      refine keep [0, 4] rfl ?_
      refine r1 ?_
      refine s1 23 37 1 rfl rfl rfl rfl rfl rfl trivial ?_
      refine c1 (doo_any (((L_put1 wide wide.toNat).set st_one 1).word 13 st_turn st_base 0) 3 st_turn st_turn st_one hb6 (by omega)) [0, 29, 2, 3, 4] [0, 29, 2, 3, 4, 45] 24 45 2 rfl rfl rfl rfl rfl rfl rfl rfl Tryd.func38 rfl rfl rfl rfl ⟨rfl, rfl, rfl, rfl, rfl, trivial⟩ rfl rfl ?_
      have hb7 := ok_doo 3 st_turn st_turn st_one hb6
      refine c1 (asmword_any ((((L_put1 wide wide.toNat).set st_one 1).word 13 st_turn st_base 0).doo 3 st_turn st_turn st_one) 14 st_turn st_base 0 hb7 (by omega)) [0, 45, 2, 3, 4] [0, 45, 2, 3, 4, 53] 25 53 3 rfl rfl rfl rfl rfl rfl rfl rfl Tryd.func35 rfl rfl rfl rfl ⟨rfl, rfl, rfl, rfl, rfl, trivial⟩ rfl rfl ?_
      have hb8 := ok_word 14 st_turn st_base 0 hb7
      refine e1 61 rfl ?_
      refine keep [0, 4] rfl ?_
      refine W_seq ?_
      refine r1 ?_
      refine s1 26 61 1 rfl rfl rfl rfl rfl rfl trivial ?_
      refine s1 27 69 2 rfl rfl rfl rfl rfl rfl trivial ?_
      refine e1 77 rfl ?_
      refine keep [4, 26, 27] rfl ?_
      refine W_block ?_
      refine loop (α := Nat) 5 (fun n => [(4, .ptr 0 0 0), (26, SV.i wide), (27, SV.i n)]) (fun n => [some (.cells 114 4 [.sl 1 0 (L_put2 wide n).ops.length, .map 2, .sl 3 0 (L_put2 wide n).gotos.length, .map 4]), some (.rows 64 5 (L_put2 wide n).ops.length (insF (L_put2 wide n).ops)), some (.map (mapE (L_put2 wide n).places)), some (.rows 116 2 (L_put2 wide n).gotos.length (gotoF (L_put2 wide n).gotos)), some (.map (mapE (L_put2 wide n).regs))]) (fun n => n ≤ wide.toNat) (fun n => wide.toNat - n) (0) [0, 53, 2, 3, 4] (fun _ => rfl) (Nat.zero_le _) rfl ⟨rfl, rfl, rfl, trivial⟩ ⟨rfl, rfl, rfl, rfl, rfl, trivial⟩ (fun n hx => ?_)
      have hb9 := okL_put2 wide n
      refine r1 ?_
      refine s1 28 5 1 rfl rfl rfl rfl rfl rfl (by first | trivial | omega) ?_
      refine e1 13 rfl ?_
      refine keep [4, 26, 27, 28] rfl ?_
      refine W_seq ?_
      refine q1 rfl (fun hc12 => ?_) (fun hc12 => ?_)
      · skip
        try simp only [decide_eq_true_eq, decide_eq_false_iff_not] at hc12
        refine W_skip ?_
        refine tn ?_
        refine W_seq ?_
        refine W_block ?_
        refine r1 ?_
        refine s1 29 13 1 rfl rfl rfl rfl rfl rfl trivial ?_
        refine s1 6 21 2 rfl rfl rfl rfl rfl rfl trivial ?_
        refine e1 29 rfl ?_
        refine keep [4, 6, 26, 27] rfl ?_
        refine r0 ?_
        refine s1 30 29 1 rfl rfl rfl rfl rfl rfl trivial ?_
        refine s1 31 37 2 rfl rfl rfl rfl rfl rfl trivial ?_
        refine c1 (cell_name_any (n : Int) (by omega) (by omega)) [] [] 32 45 3 rfl rfl rfl rfl rfl rfl rfl rfl Tryd.func57 rfl rfl rfl rfl trivial rfl rfl ?_
        refine s1 33 53 4 rfl rfl rfl rfl rfl rfl trivial ?_
        refine sA 34 61 5 rfl rfl rfl rfl rfl rfl rfl rfl rfl (by unfold inRange; omega) ?_
        refine c1 (asmword_any (L_put2 wide n) 14 (st_v ++ digit (n : Int)) st_base (1 + (n : Int)) hb9 (by omega)) [0, 1, 2, 3, 4] [0, 1, 2, 3, 4, 69] 35 69 6 rfl rfl rfl rfl rfl rfl rfl rfl Tryd.func35 rfl rfl rfl rfl ⟨rfl, rfl, rfl, rfl, rfl, trivial⟩ rfl rfl ?_
        have hb10 := ok_word 14 (st_v ++ digit (n : Int)) st_base (1 + (n : Int)) hb9
        refine e1 77 rfl ?_
        refine bn ?_
        refine tn ?_
        refine r0 ?_
        refine sA 36 77 1 rfl rfl rfl rfl rfl rfl rfl rfl rfl (by unfold inRange; omega) ?_
        refine s1 27 85 2 rfl rfl rfl rfl rfl rfl trivial ?_
        refine e1 93 rfl ?_
        refine tn ?_
        exact again (n + 1) [0, 69, 2, 3, 4] (by omega) (by omega) rfl ⟨rfl, rfl, rfl, trivial⟩ ⟨rfl, rfl, rfl, rfl, rfl, trivial⟩
      · skip
        try simp only [decide_eq_true_eq, decide_eq_false_iff_not] at hc12
        obtain rfl : n = wide.toNat := (by omega)
        have hb11 := okL_put2 wide wide.toNat
        refine W_exit ?_
        refine tx ?_
        refine tx ?_
        refine bx ?_
        refine tn ?_
        refine r1 ?_
        refine s1 37 13 1 rfl rfl rfl rfl rfl rfl trivial ?_
        refine c1 (doo_any (L_put2 wide wide.toNat) 3 st_turn st_turn st_one hb11 (by omega)) [0, 1, 2, 3, 4] [0, 1, 2, 3, 4, 21] 38 21 2 rfl rfl rfl rfl rfl rfl rfl rfl Tryd.func38 rfl rfl rfl rfl ⟨rfl, rfl, rfl, rfl, rfl, trivial⟩ rfl rfl ?_
        have hb12 := ok_doo 3 st_turn st_turn st_one hb11
        refine c1 (asmword_any ((L_put2 wide wide.toNat).doo 3 st_turn st_turn st_one) 14 st_turn st_base 0 hb12 (by omega)) [0, 21, 2, 3, 4] [0, 21, 2, 3, 4, 29] 39 29 3 rfl rfl rfl rfl rfl rfl rfl rfl Tryd.func35 rfl rfl rfl rfl ⟨rfl, rfl, rfl, rfl, rfl, trivial⟩ rfl rfl ?_
        have hb13 := ok_word 14 st_turn st_base 0 hb12
        refine c1 (ops_any (((L_put2 wide wide.toNat).doo 3 st_turn st_turn st_one).word 14 st_turn st_base 0) hb13 (by omega)) [0, 29, 2, 3, 4] [0, 29, 2, 3, 4] 40 37 4 rfl rfl rfl rfl rfl rfl rfl rfl Tryd.func36 rfl rfl rfl rfl ⟨rfl, rfl, rfl, rfl, rfl, trivial⟩ rfl rfl ?_
        refine s1 2 45 5 rfl rfl rfl rfl rfl rfl trivial ?_
        refine s1 3 53 6 rfl rfl rfl rfl rfl rfl trivial ?_
        refine e1 61 rfl ?_
        refine keep [2, 3] rfl ?_
        refine W_ret ?_
        exact out2 2 3 (.sl 0 0 (fin (B_Put wide)).length) (SV.i 0) (π := [29]) (hout := [some (.rows 64 5 (fin (B_Put wide)).length (insF (fin (B_Put wide))))]) Tryd.results27 rfl rfl rfl rfl rfl rfl ⟨rfl, trivial⟩ ⟨rfl, rfl⟩

theorem ok_Put {wide : Int} (h : 1 ≤ wide ∧ wide ≤ 6) : mayB (fin (B_Put wide)) = true ∧ 0 < (fin (B_Put wide)).length ∧ (fin (B_Put wide)).length ≤ 1000 := by
  obtain rfl | rfl | rfl | rfl | rfl | rfl : wide = 1 ∨ wide = 2 ∨ wide = 3 ∨ wide = 4 ∨ wide = 5 ∨ wide = 6 := (by omega)
  all_goals decide +kernel

def L_get1 (wide : Int) : Nat → Bld
  | 0 => ((((((mk []).set st_two 2).mark st_again).word 13 st_turn st_base 0).doo 7 st_odd st_turn st_two).iff 11 st_odd st_again)
  | n + 1 => ((L_get1 wide n).word 13 (st_v ++ digit (n : Int)) st_base (1 + (n : Int)))

theorem okL_get1 (wide : Int) : ∀ n : Nat, (L_get1 wide n).ok (4 + 1 * n)
  | 0 => ok_up (ok_iff 11 st_odd st_again (ok_doo 7 st_odd st_turn st_two (ok_word 13 st_turn st_base 0 (ok_mark st_again (ok_set st_two 2 (ok_mk [])))))) (by omega)
  | n + 1 => ok_up (ok_word 13 (st_v ++ digit (n : Int)) st_base (1 + (n : Int)) ((okL_get1 wide n))) (by omega)

def L_get2 (wide : Int) : Nat → Bld
  | 0 => ((((L_get1 wide wide.toNat).word 13 st_now st_base 0).doo 8 st_same st_turn st_now).iff 12 st_same st_again)
  | n + 1 => ((L_get2 wide n).tell (st_v ++ digit (n : Int)))

theorem okL_get2 (wide : Int) : ∀ n : Nat, (L_get2 wide n).ok (4 + 1 * wide.toNat + 3 + 1 * n)
  | 0 => ok_up (ok_iff 12 st_same st_again (ok_doo 8 st_same st_turn st_now (ok_word 13 st_now st_base 0 (okL_get1 wide wide.toNat)))) (by omega)
  | n + 1 => ok_up (ok_tell (st_v ++ digit (n : Int)) ((okL_get2 wide n))) (by omega)

def B_Get (wide : Int) : Bld := (L_get2 wide wide.toNat)
theorem yes_Get (wide : Int) (hr : 1 ≤ wide ∧ wide ≤ 6) : Spec Tryd.prog GV 28 [SV.i wide] [] (fun r ho => r = SV.tup [.sl 0 0 (fin (B_Get wide)).length, SV.i 0] ∧ ho = [some (.rows 64 5 (fin (B_Get wide)).length (insF (fin (B_Get wide))))]) := by
  refine start 45 0 Tryd.func28 rfl rfl rfl rfl ?_
  refine r1 ?_
  refine s1 2 0 1 rfl rfl rfl rfl rfl rfl trivial ?_
  refine s1 3 8 2 rfl rfl rfl rfl rfl rfl trivial ?_
  refine e1 16 rfl ?_
  refine keep [0] rfl ?_
  refine W_seq ?_
  refine r1 ?_
  refine s1 7 16 1 rfl rfl rfl rfl rfl rfl trivial ?_
  refine c1 (cell_may_any wide) [] [] 8 24 2 rfl rfl rfl rfl rfl rfl rfl rfl Tryd.func55 rfl rfl rfl rfl trivial rfl rfl ?_
  refine s1 9 32 3 rfl rfl rfl rfl rfl rfl trivial ?_
  refine e1 40 rfl ?_
  refine keep [0, 9] rfl ?_
  refine q1 rfl (fun hc1 => ?_) (fun hc1 => ?_)
  · skip
    exfalso; simp at hc1; omega
  · skip
    try simp only [decide_eq_true_eq, decide_eq_false_iff_not] at hc1
    refine W_skip ?_
    refine tn ?_
    refine r1 ?_
    refine c1 (nil_any) [] [40, 41, 42, 43, 44] 10 40 1 rfl rfl rfl rfl rfl rfl rfl rfl Tryd.func34 rfl rfl rfl rfl trivial rfl rfl ?_
    have hb1 := ok_mk []
    refine c1 (set_any (mk []) st_two 2 hb1 (by omega)) [40, 41, 42, 43, 44] [40, 41, 42, 43, 44, 48] 11 48 2 rfl rfl rfl rfl rfl rfl rfl rfl Tryd.func54 rfl rfl rfl rfl ⟨rfl, rfl, rfl, rfl, rfl, trivial⟩ rfl rfl ?_
    have hb2 := ok_set st_two 2 hb1
    refine s1 4 56 3 rfl rfl rfl rfl rfl rfl trivial ?_
    refine e1 64 rfl ?_
    refine keep [0, 4] rfl ?_
    refine r1 ?_
    refine s1 12 64 1 rfl rfl rfl rfl rfl rfl trivial ?_
    refine c1 (mark_any ((mk []).set st_two 2) st_again hb2 (by omega)) [40, 48, 42, 43, 44] [40, 48, 42, 43, 44] 13 72 2 rfl rfl rfl rfl rfl rfl rfl rfl Tryd.func37 rfl rfl rfl rfl ⟨rfl, rfl, rfl, rfl, rfl, trivial⟩ rfl rfl ?_
    have hb3 := ok_mark st_again hb2
    refine c1 (asmword_any (((mk []).set st_two 2).mark st_again) 13 st_turn st_base 0 hb3 (by omega)) [40, 48, 42, 43, 44] [40, 48, 42, 43, 44, 80] 14 80 3 rfl rfl rfl rfl rfl rfl rfl rfl Tryd.func35 rfl rfl rfl rfl ⟨rfl, rfl, rfl, rfl, rfl, trivial⟩ rfl rfl ?_
    have hb4 := ok_word 13 st_turn st_base 0 hb3
    refine e1 88 rfl ?_
    refine keep [0, 4] rfl ?_
    refine r1 ?_
    refine s1 15 88 1 rfl rfl rfl rfl rfl rfl trivial ?_
    refine c1 (doo_any ((((mk []).set st_two 2).mark st_again).word 13 st_turn st_base 0) 7 st_odd st_turn st_two hb4 (by omega)) [40, 80, 42, 43, 44] [40, 80, 42, 43, 44, 96] 16 96 2 rfl rfl rfl rfl rfl rfl rfl rfl Tryd.func38 rfl rfl rfl rfl ⟨rfl, rfl, rfl, rfl, rfl, trivial⟩ rfl rfl ?_
    have hb5 := ok_doo 7 st_odd st_turn st_two hb4
    refine c1 (iff_any (((((mk []).set st_two 2).mark st_again).word 13 st_turn st_base 0).doo 7 st_odd st_turn st_two) 11 st_odd st_again hb5 (by omega)) [40, 96, 42, 43, 44] [40, 96, 42, 43, 44, 104, 105] 17 104 3 rfl rfl rfl rfl rfl rfl rfl rfl Tryd.func33 rfl rfl rfl rfl ⟨rfl, rfl, rfl, rfl, rfl, trivial⟩ rfl rfl ?_
    have hb6 := ok_iff 11 st_odd st_again hb5
    refine e1 112 rfl ?_
    refine keep [0, 4] rfl ?_
    refine W_seq ?_
    refine r1 ?_
    refine s1 18 112 1 rfl rfl rfl rfl rfl rfl trivial ?_
    refine s1 19 120 2 rfl rfl rfl rfl rfl rfl trivial ?_
    refine e1 128 rfl ?_
    refine keep [0, 4, 18, 19] rfl ?_
    refine W_block ?_
    refine loop (α := Nat) 5 (fun n => [(0, SV.i wide), (4, .ptr 0 0 0), (18, SV.i wide), (19, SV.i n)]) (fun n => [some (.cells 114 4 [.sl 1 0 (L_get1 wide n).ops.length, .map 2, .sl 3 0 (L_get1 wide n).gotos.length, .map 4]), some (.rows 64 5 (L_get1 wide n).ops.length (insF (L_get1 wide n).ops)), some (.map (mapE (L_get1 wide n).places)), some (.rows 116 2 (L_get1 wide n).gotos.length (gotoF (L_get1 wide n).gotos)), some (.map (mapE (L_get1 wide n).regs))]) (fun n => n ≤ wide.toNat) (fun n => wide.toNat - n) (0) [40, 105, 42, 104, 44] (fun _ => rfl) (Nat.zero_le _) rfl ⟨rfl, rfl, rfl, rfl, trivial⟩ ⟨rfl, rfl, rfl, rfl, rfl, trivial⟩ (fun n hx => ?_)
    have hb7 := okL_get1 wide n
    refine r1 ?_
    refine s1 20 5 1 rfl rfl rfl rfl rfl rfl (by first | trivial | omega) ?_
    refine e1 13 rfl ?_
    refine keep [0, 4, 18, 19, 20] rfl ?_
    refine W_seq ?_
    refine q1 rfl (fun hc7 => ?_) (fun hc7 => ?_)
    · skip
      try simp only [decide_eq_true_eq, decide_eq_false_iff_not] at hc7
      refine W_skip ?_
      refine tn ?_
      refine W_seq ?_
      refine W_block ?_
      refine r1 ?_
      refine s1 21 13 1 rfl rfl rfl rfl rfl rfl trivial ?_
      refine s1 5 21 2 rfl rfl rfl rfl rfl rfl trivial ?_
      refine e1 29 rfl ?_
      refine keep [0, 4, 5, 18, 19] rfl ?_
      refine r0 ?_
      refine s1 22 29 1 rfl rfl rfl rfl rfl rfl trivial ?_
      refine s1 23 37 2 rfl rfl rfl rfl rfl rfl trivial ?_
      refine c1 (cell_name_any (n : Int) (by omega) (by omega)) [] [] 24 45 3 rfl rfl rfl rfl rfl rfl rfl rfl Tryd.func57 rfl rfl rfl rfl trivial rfl rfl ?_
      refine s1 25 53 4 rfl rfl rfl rfl rfl rfl trivial ?_
      refine sA 26 61 5 rfl rfl rfl rfl rfl rfl rfl rfl rfl (by unfold inRange; omega) ?_
      refine c1 (asmword_any (L_get1 wide n) 13 (st_v ++ digit (n : Int)) st_base (1 + (n : Int)) hb7 (by omega)) [0, 1, 2, 3, 4] [0, 1, 2, 3, 4, 69] 27 69 6 rfl rfl rfl rfl rfl rfl rfl rfl Tryd.func35 rfl rfl rfl rfl ⟨rfl, rfl, rfl, rfl, rfl, trivial⟩ rfl rfl ?_
      have hb8 := ok_word 13 (st_v ++ digit (n : Int)) st_base (1 + (n : Int)) hb7
      refine e1 77 rfl ?_
      refine bn ?_
      refine tn ?_
      refine r0 ?_
      refine sA 28 77 1 rfl rfl rfl rfl rfl rfl rfl rfl rfl (by unfold inRange; omega) ?_
      refine s1 19 85 2 rfl rfl rfl rfl rfl rfl trivial ?_
      refine e1 93 rfl ?_
      refine tn ?_
      exact again (n + 1) [0, 69, 2, 3, 4] (by omega) (by omega) rfl ⟨rfl, rfl, rfl, rfl, trivial⟩ ⟨rfl, rfl, rfl, rfl, rfl, trivial⟩
    · skip
      try simp only [decide_eq_true_eq, decide_eq_false_iff_not] at hc7
      obtain rfl : n = wide.toNat := (by omega)
      have hb9 := okL_get1 wide wide.toNat
      refine W_exit ?_
      refine tx ?_
      refine tx ?_
      refine bx ?_
      refine tn ?_
      refine r1 ?_
      refine s1 29 13 1 rfl rfl rfl rfl rfl rfl trivial ?_
      refine c1 (asmword_any (L_get1 wide wide.toNat) 13 st_now st_base 0 hb9 (by omega)) [0, 1, 2, 3, 4] [0, 1, 2, 3, 4, 21] 30 21 2 rfl rfl rfl rfl rfl rfl rfl rfl Tryd.func35 rfl rfl rfl rfl ⟨rfl, rfl, rfl, rfl, rfl, trivial⟩ rfl rfl ?_
      have hb10 := ok_word 13 st_now st_base 0 hb9
      refine c1 (doo_any ((L_get1 wide wide.toNat).word 13 st_now st_base 0) 8 st_same st_turn st_now hb10 (by omega)) [0, 21, 2, 3, 4] [0, 21, 2, 3, 4, 29] 31 29 3 rfl rfl rfl rfl rfl rfl rfl rfl Tryd.func38 rfl rfl rfl rfl ⟨rfl, rfl, rfl, rfl, rfl, trivial⟩ rfl rfl ?_
      have hb11 := ok_doo 8 st_same st_turn st_now hb10
      refine c1 (iff_any (((L_get1 wide wide.toNat).word 13 st_now st_base 0).doo 8 st_same st_turn st_now) 12 st_same st_again hb11 (by omega)) [0, 29, 2, 3, 4] [0, 29, 2, 3, 4, 37, 38] 32 37 4 rfl rfl rfl rfl rfl rfl rfl rfl Tryd.func33 rfl rfl rfl rfl ⟨rfl, rfl, rfl, rfl, rfl, trivial⟩ rfl rfl ?_
      have hb12 := ok_iff 12 st_same st_again hb11
      refine e1 45 rfl ?_
      refine keep [0, 4] rfl ?_
      refine W_seq ?_
      refine r1 ?_
      refine s1 33 45 1 rfl rfl rfl rfl rfl rfl trivial ?_
      refine s1 34 53 2 rfl rfl rfl rfl rfl rfl trivial ?_
      refine e1 61 rfl ?_
      refine keep [4, 33, 34] rfl ?_
      refine W_block ?_
      refine loop (α := Nat) 5 (fun n => [(4, .ptr 0 0 0), (33, SV.i wide), (34, SV.i n)]) (fun n => [some (.cells 114 4 [.sl 1 0 (L_get2 wide n).ops.length, .map 2, .sl 3 0 (L_get2 wide n).gotos.length, .map 4]), some (.rows 64 5 (L_get2 wide n).ops.length (insF (L_get2 wide n).ops)), some (.map (mapE (L_get2 wide n).places)), some (.rows 116 2 (L_get2 wide n).gotos.length (gotoF (L_get2 wide n).gotos)), some (.map (mapE (L_get2 wide n).regs))]) (fun n => n ≤ wide.toNat) (fun n => wide.toNat - n) (0) [0, 38, 2, 37, 4] (fun _ => rfl) (Nat.zero_le _) rfl ⟨rfl, rfl, rfl, trivial⟩ ⟨rfl, rfl, rfl, rfl, rfl, trivial⟩ (fun n hx => ?_)
      have hb13 := okL_get2 wide n
      refine r1 ?_
      refine s1 35 5 1 rfl rfl rfl rfl rfl rfl (by first | trivial | omega) ?_
      refine e1 13 rfl ?_
      refine keep [4, 33, 34, 35] rfl ?_
      refine W_seq ?_
      refine q1 rfl (fun hc13 => ?_) (fun hc13 => ?_)
      · skip
        try simp only [decide_eq_true_eq, decide_eq_false_iff_not] at hc13
        refine W_skip ?_
        refine tn ?_
        refine W_seq ?_
        refine W_block ?_
        refine r1 ?_
        refine s1 36 13 1 rfl rfl rfl rfl rfl rfl trivial ?_
        refine s1 6 21 2 rfl rfl rfl rfl rfl rfl trivial ?_
        refine e1 29 rfl ?_
        refine keep [4, 6, 33, 34] rfl ?_
        refine r0 ?_
        refine s1 37 29 1 rfl rfl rfl rfl rfl rfl trivial ?_
        refine s1 38 37 2 rfl rfl rfl rfl rfl rfl trivial ?_
        refine c1 (cell_name_any (n : Int) (by omega) (by omega)) [] [] 39 45 3 rfl rfl rfl rfl rfl rfl rfl rfl Tryd.func57 rfl rfl rfl rfl trivial rfl rfl ?_
        refine sLit 1 (strsF [(st_v ++ digit (n : Int))]) 40 53 4 rfl rfl rfl rfl rfl rfl rfl rfl rfl (by intro i c hi hc; obtain rfl : i = 0 := (by omega); obtain rfl : c = 0 := (by omega); rfl) ?_
        refine c1 (tell_any (L_get2 wide n) (st_v ++ digit (n : Int)) hb13 (by omega)) [0, 1, 2, 3, 4] [0, 1, 2, 3, 4, 61] 41 61 5 rfl rfl rfl rfl rfl rfl rfl rfl Tryd.func40 rfl rfl rfl rfl ⟨rfl, rfl, rfl, rfl, rfl, trivial⟩ rfl rfl ?_
        have hb14 := ok_tell (st_v ++ digit (n : Int)) hb13
        refine e1 69 rfl ?_
        refine bn ?_
        refine tn ?_
        refine r0 ?_
        refine sA 42 69 1 rfl rfl rfl rfl rfl rfl rfl rfl rfl (by unfold inRange; omega) ?_
        refine s1 34 77 2 rfl rfl rfl rfl rfl rfl trivial ?_
        refine e1 85 rfl ?_
        refine tn ?_
        exact again (n + 1) [0, 61, 2, 3, 4] (by omega) (by omega) rfl ⟨rfl, rfl, rfl, trivial⟩ ⟨rfl, rfl, rfl, rfl, rfl, trivial⟩
      · skip
        try simp only [decide_eq_true_eq, decide_eq_false_iff_not] at hc13
        obtain rfl : n = wide.toNat := (by omega)
        have hb15 := okL_get2 wide wide.toNat
        refine W_exit ?_
        refine tx ?_
        refine tx ?_
        refine bx ?_
        refine tn ?_
        refine r1 ?_
        refine s1 43 13 1 rfl rfl rfl rfl rfl rfl trivial ?_
        refine c1 (ops_any (L_get2 wide wide.toNat) hb15 (by omega)) [0, 1, 2, 3, 4] [0, 1, 2, 3, 4] 44 21 2 rfl rfl rfl rfl rfl rfl rfl rfl Tryd.func36 rfl rfl rfl rfl ⟨rfl, rfl, rfl, rfl, rfl, trivial⟩ rfl rfl ?_
        refine s1 2 29 3 rfl rfl rfl rfl rfl rfl trivial ?_
        refine s1 3 37 4 rfl rfl rfl rfl rfl rfl trivial ?_
        refine e1 45 rfl ?_
        refine keep [2, 3] rfl ?_
        refine W_ret ?_
        exact out2 2 3 (.sl 0 0 (fin (B_Get wide)).length) (SV.i 0) (π := [1]) (hout := [some (.rows 64 5 (fin (B_Get wide)).length (insF (fin (B_Get wide))))]) Tryd.results28 rfl rfl rfl rfl rfl rfl ⟨rfl, trivial⟩ ⟨rfl, rfl⟩

theorem ok_Get {wide : Int} (h : 1 ≤ wide ∧ wide ≤ 6) : mayB (fin (B_Get wide)) = true ∧ 0 < (fin (B_Get wide)).length ∧ (fin (B_Get wide)).length ≤ 1000 := by
  obtain rfl | rfl | rfl | rfl | rfl | rfl : wide = 1 ∨ wide = 2 ∨ wide = 3 ∨ wide = 4 ∨ wide = 5 ∨ wide = 6 := (by omega)
  all_goals decide +kernel


end Go.Proofs.YtnnjobmiepnedaaDoor.Nice
