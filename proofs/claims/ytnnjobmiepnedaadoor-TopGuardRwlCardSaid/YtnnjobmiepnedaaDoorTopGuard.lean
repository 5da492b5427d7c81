/- guarded: the machine of 1, 2, 3, 4 threads. -/
import Derived.Test.YtnnjobmiepnedaaDoorTopBase
namespace Go.Proofs.YtnnjobmiepnedaaDoor.Nice
open Go
set_option linter.unusedVariables false
set_option linter.unusedSimpArgs false
set_option maxRecDepth 100000
set_option maxHeartbeats 4000000

def cUp : Nat → List CallD
  | 0 => []
  | i + 1 => cUp i ++ c3
def addC : List SV := [SV.i 1, SV.i 1, SV.i 1, SV.i 0, SV.i 0, SV.i 13, SV.i 0, SV.i 5, SV.i 1, SV.i 0, SV.i 3, SV.i 0, SV.i 0, SV.i 1, SV.i 0, SV.i 14, SV.i 0, SV.i 5, SV.i 1, SV.i 0]
theorem add_cells (i c : Nat) (hi : i < 4) (hc : c < 5) : addC[i * 5 + c]? = some (.d (insF addL i c)) := by
  match i, hi, c, hc with
  | 0, _, 0, _ | 0, _, 1, _ | 0, _, 2, _ | 0, _, 3, _ | 0, _, 4, _ | 1, _, 0, _ | 1, _, 1, _ | 1, _, 2, _ | 1, _, 3, _ | 1, _, 4, _ | 2, _, 0, _ | 2, _, 1, _ | 2, _, 2, _ | 2, _, 3, _ | 2, _, 4, _ | 3, _, 0, _ | 3, _, 1, _ | 3, _, 2, _ | 3, _, 3, _ | 3, _, 4, _ => rfl
theorem cUp_len : ∀ i, (cUp i).length = 3 * i
  | 0 => rfl
  | i + 1 => by rw [cUp, List.length_append, cUp_len i]; rfl
theorem call_cat (i : Nat) (k c : Nat) (hk : k < 3 * i + 3) (hc : c < 2) (M : Imm) (v : Value) (h : DR M (catR (callF (cUp i)) (3 * i) (litR 2 [.val (.int .i64 0), .nils, .val (.int .i64 2), .nils, .val (.int .i64 1), .nils]) k c) v) : DR M (callF (cUp (i + 1)) k c) v := by
  have hl := cUp_len i
  unfold catR at h
  have e : cUp (i + 1) = cUp i ++ c3 := rfl
  unfold callF at h ⊢
  rw [e]
  split at h
  · next hlt => rw [List.getD_eq_getElem?_getD, List.getElem?_append_left (by omega), ← List.getD_eq_getElem?_getD]; exact h
  · next hlt =>
    rw [List.getD_eq_getElem?_getD, List.getElem?_append_right (by omega), hl]
    obtain ⟨j, rfl⟩ : ∃ j, k = 3 * i + j := ⟨k - 3 * i, by omega⟩
    rw [Nat.add_sub_cancel_left] at h ⊢
    have hj : j < 3 := by omega
    match j, hj, c, hc with
    | 0, _, 0, _ | 1, _, 0, _ | 2, _, 0, _ => exact h
    | 0, _, 1, _ | 1, _, 1, _ | 2, _, 1, _ => have h : DR M .nils v := h; cases h with | nils a => exact .vec0 _ _ _ _
def machR (n : Nat) : Nat → Nat → D := fun i _ => .vec 2 ((qM n).ts.getD i []).length (callF ((qM n).ts.getD i []))
def codesR (n : Nat) : Nat → Nat → D := fun i _ => .vec 5 ((qM n).cs.getD i []).length (insF ((qM n).cs.getD i []))
theorem codes_cells (n i c : Nat) (hi : i < 3) (hc : c < 1) : ([insV winL, insV woutL, insV addL] : List SV)[i * 1 + c]? = some (.d (codesR n i c)) := by
  match i, hi, c, hc with
  | 0, _, 0, _ | 1, _, 0, _ | 2, _, 0, _ => rfl
theorem okq (n : Nat) (h4 : n ≤ 4) : (qM n).ok := by
  refine ⟨by show (2 : Nat) ≤ _; decide, by show (3 : Nat) ≤ _; decide, by show (List.replicate n callsL).length ≤ _; rw [List.length_replicate]; omega, fun k => ?_, fun k => ?_⟩
  · show ([winL, woutL, addL].getD k []).length ≤ _
    match k with
    | 0 | 1 | 2 => decide
    | k + 3 => exact Nat.zero_le _
  · show ((List.replicate n callsL).getD k []).length ≤ _
    rw [List.getD_eq_getElem?_getD, List.getElem?_replicate]
    split <;> decide

theorem words_rwl  : Spec Tryd.prog GV 9 [] [] (fun r ho => r = .sl 0 0 1 ∧ ho = [some (.rows 3 1 1 (intsF [0]))]) := by
  refine start 2 0 Tryd.func9 rfl rfl rfl rfl ?_
  refine r1 ?_
  refine s1 0 0 1 rfl rfl rfl rfl rfl rfl trivial ?_
  refine e1 8 rfl ?_
  refine keep [] rfl ?_
  refine r1 ?_
  refine s1 1 8 1 rfl rfl rfl rfl rfl rfl trivial ?_
  refine s1 0 16 2 rfl rfl rfl rfl rfl rfl trivial ?_
  refine e1 24 rfl ?_
  refine keep [0] rfl ?_
  refine torows (k := 1) 8 1 (intsF [0]) rfl (by decide) (by decide) (fun i c hi hc => by obtain rfl : i = 0 := (by omega); obtain rfl : c = 0 := (by omega); rfl) ?_
  refine W_ret ?_
  exact out1 0 (.sl 0 0 1) (π := [8]) (hout := [some (.rows 3 1 1 (intsF [0]))]) Tryd.results9 rfl rfl rfl rfl ⟨rfl, trivial⟩ ⟨rfl, rfl⟩

theorem guarded_1  : Spec Tryd.prog GV 8 [intsV [0], insV winL, insV woutL, SV.i 1, SV.i 6, SV.b false] [] (fun r ho => r = SV.tup [machS (qM 1), SV.b true] ∧ ho = []) := by
  refine start 95 0 Tryd.func8 rfl rfl rfl rfl ?_
  refine r1 ?_
  refine s1 12 0 1 rfl rfl rfl rfl rfl rfl trivial ?_
  refine s1 13 8 2 rfl rfl rfl rfl rfl rfl trivial ?_
  refine e1 16 rfl ?_
  refine keep [0, 1, 2, 3, 4, 5, 12] rfl ?_
  refine r1 ?_
  refine s1 21 16 1 rfl rfl rfl rfl rfl rfl trivial ?_
  refine s1 22 24 2 rfl rfl rfl rfl rfl rfl (by first | trivial | omega) ?_
  refine val 22 (SV.i 1) rfl rfl ?_
  refine s1 14 32 3 rfl rfl rfl rfl rfl rfl trivial ?_
  refine e1 40 rfl ?_
  refine keep [0, 1, 2, 3, 4, 5, 12, 14] rfl ?_
  refine r1 ?_
  refine s1 23 40 1 rfl rfl rfl rfl rfl rfl trivial ?_
  refine s1 24 48 2 rfl rfl rfl rfl rfl rfl trivial ?_
  refine s1 25 56 3 rfl rfl rfl rfl rfl rfl trivial ?_
  refine s1 26 64 4 rfl rfl rfl rfl rfl rfl trivial ?_
  refine s1 27 72 5 rfl rfl rfl rfl rfl rfl trivial ?_
  refine s1 28 80 6 rfl rfl rfl rfl rfl rfl trivial ?_
  refine s1 29 88 7 rfl rfl rfl rfl rfl rfl trivial ?_
  refine s1 15 96 8 rfl rfl rfl rfl rfl rfl trivial ?_
  refine e1 104 rfl ?_
  refine keep [0, 1, 2, 3, 4, 5, 12, 14, 15] rfl ?_
  refine chval 88 (.cells 64 5 addC) rfl rfl ?_
  refine torows (k := 5) 88 4 (insF addL) rfl (by decide) (by decide) add_cells ?_
  refine freeze 15 88 4 rfl rfl (Nat.le_refl _) ?_
  refine cval 15 (insV addL) rfl rfl ?_
  refine rd1 rfl ?_
  refine d1 30 104 1 rfl rfl rfl rfl rfl rfl trivial ?_
  refine d1 31 112 2 rfl rfl rfl rfl rfl rfl ⟨trivial, (by decide), (by decide)⟩ ?_
  refine d1 32 120 3 rfl rfl rfl rfl rfl rfl trivial ?_
  refine d1 33 128 4 rfl rfl rfl rfl rfl rfl ⟨Nat.le_refl _, trivial, (by decide), (by decide)⟩ ?_
  refine d1 34 136 5 rfl rfl rfl rfl rfl rfl trivial ?_
  refine d1 35 144 6 rfl rfl rfl rfl rfl rfl trivial ?_
  refine d1 36 152 7 rfl rfl rfl rfl rfl rfl trivial ?_
  refine d1 37 160 8 rfl rfl rfl rfl rfl rfl trivial ?_
  refine d1 38 168 9 rfl rfl rfl rfl rfl rfl trivial ?_
  refine d1 39 176 10 rfl rfl rfl rfl rfl rfl ⟨by decide, rfl, by decide, by decide⟩ ?_
  refine d1 40 184 11 rfl rfl rfl rfl rfl rfl trivial ?_
  refine d1 16 192 12 rfl rfl rfl rfl rfl rfl trivial ?_
  refine d0 200 13 rfl rfl rfl rfl rfl (by first | trivial | omega) ?_
  refine de1 208 rfl (by kernel_rfl) ?_
  refine keep [1, 2, 3, 4, 5, 12, 14, 16] rfl ?_
  refine rowsc (k := 1) (L := 2) 128 2 (intsF [0, 0]) rfl rfl (fun i c hi hc => by obtain rfl : c = 0 := (by omega); rcases (show i = 0 ∨ i = 1 by omega) with rfl | rfl <;> rfl) ?_
  refine cfreeze 192 0 128 2 rfl rfl rfl (Nat.le_refl _) rfl ?_
  refine chval 160 (.cells 32 1 [insV winL, insV woutL, insV addL]) rfl rfl ?_
  refine torows (k := 1) 160 3 (codesR 1) rfl (by decide) (by decide) (codes_cells 1) ?_
  refine cfreeze 192 1 160 3 rfl rfl rfl (Nat.le_refl _) rfl ?_
  refine chval 192 (.cells 28 3 [.d (.vec 1 2 (intsF [0, 0])), .d (.vec 1 3 (codesR 1)), .sl 176 0 1]) rfl rfl ?_
  refine tocells 176 [.d .nils] rfl rfl (by decide) ?_
  refine W_seq ?_
  refine r1 ?_
  refine s1 17 208 1 rfl rfl rfl rfl rfl rfl trivial ?_
  refine e1 216 rfl ?_
  refine keep [1, 2, 3, 4, 5, 12, 14, 16, 17] rfl ?_
  refine W_block ?_
  refine W_unroll 2 ?_
  refine unr ?_
  refine W_seq ?_
  refine r1 ?_
  refine s1 41 216 1 rfl rfl rfl rfl rfl rfl trivial ?_
  refine s1 42 224 2 rfl rfl rfl rfl rfl rfl trivial ?_
  refine s1 43 232 3 rfl rfl rfl rfl rfl rfl (by first | trivial | omega) ?_
  refine e1 240 rfl ?_
  refine keep [1, 2, 3, 4, 5, 12, 14, 16, 17, 43] rfl ?_
  refine q1 rfl (fun hc5 => ?_) (fun hc5 => ?_)
  · skip
    try simp only [cs, ne_eq] at hc5
    refine W_skip ?_
    refine tn ?_
    refine W_seq ?_
    refine W_block ?_
    refine r1 ?_
    refine s1 18 240 1 rfl rfl rfl rfl rfl rfl trivial ?_
    refine e1 248 rfl ?_
    refine keep [1, 2, 3, 4, 5, 12, 14, 16, 17, 18] rfl ?_
    refine W_block ?_
    refine cghostly 176 0 38 2 (callF (cUp 0)) rfl rfl rfl ?_
    refine loop (α := Nat) 4 (fun i => [(1, insV winL), (2, insV woutL), (3, SV.i 1), (4, SV.i 6), (5, SV.b false), (12, .ptr 0 0 0), (14, SV.i 1), (16, .ptr 1 0 0), (17, SV.i 0), (18, SV.i (i))]) (fun i => [some (.cells 28 3 [.d .nils, .d .nils, .d .nils]), some (.cells 28 3 [.d (.vec 1 2 (intsF [0, 0])), .d (.vec 1 3 (codesR 1)), .sl 2 0 1]), some (.cells 39 1 [.sl 3 0 (3 * (i))]), some (.rows 38 2 (3 * (i)) (callF (cUp (i))))]) (fun i => (i) ≤ 6) (fun i => 6 - (i)) (((0) : Nat)) [0, 192, 176, 248] (fun _ => rfl) (show (0) ≤ 6 from (by omega)) rfl ⟨rfl, rfl, rfl, rfl, rfl, rfl, rfl, rfl, rfl, rfl, trivial⟩ ⟨rfl, rfl, rfl, rfl, trivial⟩ (fun i hx => ?_)
    show W _ _ _ ⟨tOf [(1, insV winL), (2, insV woutL), (3, SV.i 1), (4, SV.i 6), (5, SV.b false), (12, .ptr 0 0 0), (14, SV.i 1), (16, .ptr 1 0 0), (17, SV.i 0), (18, SV.i i)], hOf [some (.cells 28 3 [.d .nils, .d .nils, .d .nils]), some (.cells 28 3 [.d (.vec 1 2 (intsF [0, 0])), .d (.vec 1 3 (codesR 1)), .sl 2 0 1]), some (.cells 39 1 [.sl 3 0 (3 * i)]), some (.rows 38 2 (3 * i) (callF (cUp i)))], 4⟩
    have hx : i ≤ 6 := hx
    refine W_seq ?_
    refine r1 ?_
    refine s1 46 4 1 rfl rfl rfl rfl rfl rfl trivial ?_
    refine s1 47 12 2 rfl rfl rfl rfl rfl rfl trivial ?_
    refine s1 48 20 3 rfl rfl rfl rfl rfl rfl (by first | trivial | omega) ?_
    refine e1 28 rfl ?_
    refine keep [1, 2, 3, 4, 5, 12, 14, 16, 17, 18, 48] rfl ?_
    refine q1 rfl (fun hc8 => ?_) (fun hc8 => ?_)
    · skip
      try simp only [cs, ne_eq] at hc8
      refine W_skip ?_
      refine tn ?_
      refine W_seq ?_
      refine W_block ?_
      refine r1 ?_
      refine s1 51 28 1 rfl rfl rfl rfl rfl rfl trivial ?_
      refine s1 19 36 2 rfl rfl rfl rfl rfl rfl trivial ?_
      refine s0 44 3 rfl rfl rfl rfl rfl (by first | trivial | omega) ?_
      refine e1 52 rfl ?_
      refine keep [1, 2, 3, 4, 5, 12, 14, 16, 17, 18, 19] rfl ?_
      refine r1 ?_
      refine s1 52 52 1 rfl rfl rfl rfl rfl rfl trivial ?_
      refine s1 20 60 2 rfl rfl rfl rfl rfl rfl trivial ?_
      refine s0 68 3 rfl rfl rfl rfl rfl (by first | trivial | omega) ?_
      refine e1 76 rfl ?_
      refine keep [1, 2, 3, 4, 5, 12, 14, 16, 17, 18, 19, 20] rfl ?_
      refine W_seq ?_
      refine r1 ?_
      refine s1 53 76 1 rfl rfl rfl rfl rfl rfl trivial ?_
      refine e1 84 rfl ?_
      refine keep [1, 2, 3, 4, 5, 12, 14, 16, 17, 18, 19, 20, 53] rfl ?_
      refine q1 rfl (fun hc12 => ?_) (fun hc12 => ?_)
      · skip
        exact absurd hc12 (by decide)
      · skip
        try simp only [cs, ne_eq] at hc12
        refine W_skip ?_
        refine tn ?_
        refine rd0 rfl ?_
        refine d1 60 84 1 rfl rfl rfl rfl rfl rfl trivial ?_
        refine d1 61 92 2 rfl rfl rfl rfl rfl rfl (by first | trivial | omega) ?_
        refine d1 62 100 3 rfl rfl rfl rfl rfl rfl trivial ?_
        refine d1 63 108 4 rfl rfl rfl rfl rfl rfl trivial ?_
        refine d1 64 116 5 rfl rfl rfl rfl rfl rfl (by first | trivial | omega) ?_
        refine d1 65 124 6 rfl rfl rfl rfl rfl rfl trivial ?_
        refine d1 66 132 7 rfl rfl rfl rfl rfl rfl (by first | trivial | omega) ?_
        refine d1 67 140 8 rfl rfl rfl rfl rfl rfl (by first | trivial | omega) ?_
        refine d1 68 148 9 rfl rfl rfl rfl rfl rfl (by first | trivial | omega) ?_
        refine d1 69 156 10 rfl rfl rfl rfl rfl rfl trivial ?_
        refine d1 70 164 11 rfl rfl rfl rfl rfl rfl (by first | trivial | omega) ?_
        refine d1 71 172 12 rfl rfl rfl rfl rfl rfl trivial ?_
        refine d1 72 180 13 rfl rfl rfl rfl rfl rfl ⟨Nat.le_refl _, trivial, (by show (3 * i + 3) * 32 ≤ 140737488355328; omega), (by simp only [maxLen]; omega)⟩ ?_
        refine d1 73 188 14 rfl rfl rfl rfl rfl rfl (by first | trivial | omega) ?_
        refine d0 196 15 rfl rfl rfl rfl rfl (by first | trivial | omega) ?_
        refine de1 204 rfl (by kernel_rfl) ?_
        refine bn ?_
        refine tn ?_
        refine rowsw 180 (3 * (i + 1)) (callF (cUp (i + 1))) rfl rfl (fun k c hk hc M v h => call_cat i k c hk hc M v h) ?_
        refine r0 ?_
        refine s1 49 204 1 rfl rfl rfl rfl rfl rfl trivial ?_
        refine sA 50 212 2 rfl rfl rfl rfl rfl rfl rfl rfl rfl (by unfold inRange; omega) ?_
        refine s1 18 220 3 rfl rfl rfl rfl rfl rfl trivial ?_
        refine e1 228 rfl ?_
        refine tn ?_
        exact again ((i + 1 : Nat)) [0, 1, 2, 180] (show (i + 1) ≤ 6 from (by omega)) (show 6 - (i + 1) < 6 - i from (by omega)) rfl ⟨rfl, rfl, rfl, rfl, rfl, rfl, rfl, rfl, rfl, rfl, trivial⟩ ⟨rfl, rfl, rfl, rfl, trivial⟩
    · skip
      try simp only [cs, ne_eq] at hc8
      obtain rfl : i = 6 := by omega
      refine W_exit ?_
      refine tx ?_
      refine tx ?_
      refine bx ?_
      refine bn ?_
      refine tn ?_
      refine cfreeze 2 0 3 (3 * 6) rfl rfl rfl (Nat.le_refl _) rfl ?_
      refine chval 2 (.cells 39 1 [.d (.vec 2 (3 * 6) (callF (cUp 6)))]) rfl rfl ?_
      refine r0 ?_
      refine s1 44 28 1 rfl rfl rfl rfl rfl rfl trivial ?_
      refine sA 45 36 2 rfl rfl rfl rfl rfl rfl rfl rfl rfl (by unfold inRange; omega) ?_
      refine val 45 (SV.i 1) rfl rfl ?_
      refine s1 17 44 3 rfl rfl rfl rfl rfl rfl trivial ?_
      refine e1 52 rfl ?_
      refine tn ?_
      refine unr ?_
      refine W_seq ?_
      refine r1 ?_
      refine s1 41 52 1 rfl rfl rfl rfl rfl rfl trivial ?_
      refine s1 42 60 2 rfl rfl rfl rfl rfl rfl trivial ?_
      refine s1 43 68 3 rfl rfl rfl rfl rfl rfl (by first | trivial | omega) ?_
      refine e1 76 rfl ?_
      refine keep [1, 2, 3, 4, 5, 12, 14, 16, 17, 43] rfl ?_
      refine q1 rfl (fun hc5 => ?_) (fun hc5 => ?_)
      · skip
        exact absurd hc5 (by decide)
      · skip
        try simp only [cs, ne_eq] at hc5
        refine W_exit ?_
        refine tx ?_
        refine tx ?_
        refine bx ?_
        refine tn ?_
        refine torows (k := 1) 2 1 (machR 1) rfl (by decide) (by decide) (fun i c hi hc => by obtain rfl : c = 0 := (by omega); obtain rfl : i = 0 := (by omega); rfl) ?_
        refine cfreeze 1 2 2 1 rfl rfl rfl (Nat.le_refl _) rfl ?_
        refine chval 1 (machBlk (qM 1)) rfl rfl ?_
        refine rd1 rfl ?_
        refine d1 74 76 1 rfl rfl rfl rfl rfl rfl (by first | trivial | omega) ?_
        refine d1 75 84 2 rfl rfl rfl rfl rfl rfl trivial ?_
        refine d1 76 92 3 rfl rfl rfl rfl rfl rfl (by first | trivial | omega) ?_
        refine d1 77 100 4 rfl rfl rfl rfl rfl rfl trivial ?_
        refine ask 77 rfl (fun hg16_77 => ?_) (fun hg16_77 => ?_)
        · skip
          try simp only [cs, ne_eq] at hg16_77
          refine g1 3 true 77 78 5 rfl rfl rfl rfl rfl ?_
          refine d1 78 108 5 rfl rfl rfl rfl rfl rfl trivial ?_
          refine g1 3 true 77 79 6 rfl rfl rfl rfl rfl ?_
          refine d1 79 116 6 rfl rfl rfl rfl rfl rfl (by first | trivial | omega) ?_
          refine d1 80 124 7 rfl rfl rfl rfl rfl rfl trivial ?_
          refine d1 81 132 8 rfl rfl rfl rfl rfl rfl trivial ?_
          refine ask 81 rfl (fun hg16_81 => ?_) (fun hg16_81 => ?_)
          · skip
            try simp only [cs, ne_eq] at hg16_81
            refine g1 7 true 81 82 9 rfl rfl rfl rfl rfl ?_
            refine d1 82 140 9 rfl rfl rfl rfl rfl rfl trivial ?_
            refine g1 7 true 81 83 10 rfl rfl rfl rfl rfl ?_
            refine d1 83 148 10 rfl rfl rfl rfl rfl rfl (by first | trivial | omega) ?_
            refine g1 7 true 81 84 11 rfl rfl rfl rfl rfl ?_
            refine d1 84 156 11 rfl rfl rfl rfl rfl rfl (by first | trivial | omega) ?_
            refine d1 85 164 12 rfl rfl rfl rfl rfl rfl trivial ?_
            refine d1 86 172 13 rfl rfl rfl rfl rfl rfl trivial ?_
            refine ask 86 rfl (fun hg16_86 => ?_) (fun hg16_86 => ?_)
            · skip
              try simp only [cs, ne_eq] at hg16_86
              refine g1 12 true 86 87 14 rfl rfl rfl rfl rfl ?_
              refine d1 87 180 14 rfl rfl rfl rfl rfl rfl trivial ?_
              refine g1 12 true 86 88 15 rfl rfl rfl rfl rfl ?_
              refine d1 88 188 15 rfl rfl rfl rfl rfl rfl (by first | trivial | omega) ?_
              refine g1 12 true 86 89 16 rfl rfl rfl rfl rfl ?_
              refine d1 89 196 16 rfl rfl rfl rfl rfl rfl (by first | trivial | omega) ?_
              refine d1 90 204 17 rfl rfl rfl rfl rfl rfl trivial ?_
              refine d1 91 212 18 rfl rfl rfl rfl rfl rfl trivial ?_
              refine ask 91 rfl (fun hg16_91 => ?_) (fun hg16_91 => ?_)
              · skip
                try simp only [cs, ne_eq] at hg16_91
                refine g1 17 true 91 92 19 rfl rfl rfl rfl rfl ?_
                refine d1 92 220 19 rfl rfl rfl rfl rfl rfl (by first | trivial | omega) ?_
                refine g1 17 true 91 93 20 rfl rfl rfl rfl rfl ?_
                refine dc1 (mach_any (qM 1) (okq 1 (by decide))) [] [] 93 228 20 rfl rfl rfl rfl rfl rfl rfl rfl Tryd.func30 rfl rfl rfl rfl trivial rfl rfl ?_
                refine d1 94 236 21 rfl rfl rfl rfl rfl rfl trivial ?_
                refine val 94 (SV.b true) rfl (by show SV.b (machB (qM 1)) = _; rw [mach_q 1 (by decide) (by decide)]) ?_
                refine d0 244 22 rfl rfl rfl rfl rfl (by first | trivial | omega) ?_
                refine d1 13 252 23 rfl rfl rfl rfl rfl rfl trivial ?_
                refine de1 260 rfl (by kernel_rfl) ?_
                refine keep [12, 13] rfl ?_
                refine W_ret ?_
                exact outN (SV.tup [machS (qM 1), SV.b true]) (π := []) (hout := []) Tryd.results8 rfl (by trivial) rfl rfl rfl trivial ⟨rfl, rfl⟩
              · skip
                try simp only [cs, ne_eq] at hg16_91
                exact absurd hg16_91 (by decide)
            · skip
              try simp only [cs, ne_eq] at hg16_86
              exact absurd hg16_86 (by decide)
          · skip
            try simp only [cs, ne_eq] at hg16_81
            exact absurd hg16_81 (by decide)
        · skip
          try simp only [cs, ne_eq] at hg16_77
          exact absurd hg16_77 (by decide)
  · skip
    exact absurd hc5 (by decide)

theorem guarded_2  : Spec Tryd.prog GV 8 [intsV [0], insV winL, insV woutL, SV.i 2, SV.i 6, SV.b false] [] (fun r ho => r = SV.tup [machS (qM 2), SV.b true] ∧ ho = []) := by
  refine start 95 0 Tryd.func8 rfl rfl rfl rfl ?_
  refine r1 ?_
  refine s1 12 0 1 rfl rfl rfl rfl rfl rfl trivial ?_
  refine s1 13 8 2 rfl rfl rfl rfl rfl rfl trivial ?_
  refine e1 16 rfl ?_
  refine keep [0, 1, 2, 3, 4, 5, 12] rfl ?_
  refine r1 ?_
  refine s1 21 16 1 rfl rfl rfl rfl rfl rfl trivial ?_
  refine s1 22 24 2 rfl rfl rfl rfl rfl rfl (by first | trivial | omega) ?_
  refine val 22 (SV.i 1) rfl rfl ?_
  refine s1 14 32 3 rfl rfl rfl rfl rfl rfl trivial ?_
  refine e1 40 rfl ?_
  refine keep [0, 1, 2, 3, 4, 5, 12, 14] rfl ?_
  refine r1 ?_
  refine s1 23 40 1 rfl rfl rfl rfl rfl rfl trivial ?_
  refine s1 24 48 2 rfl rfl rfl rfl rfl rfl trivial ?_
  refine s1 25 56 3 rfl rfl rfl rfl rfl rfl trivial ?_
  refine s1 26 64 4 rfl rfl rfl rfl rfl rfl trivial ?_
  refine s1 27 72 5 rfl rfl rfl rfl rfl rfl trivial ?_
  refine s1 28 80 6 rfl rfl rfl rfl rfl rfl trivial ?_
  refine s1 29 88 7 rfl rfl rfl rfl rfl rfl trivial ?_
  refine s1 15 96 8 rfl rfl rfl rfl rfl rfl trivial ?_
  refine e1 104 rfl ?_
  refine keep [0, 1, 2, 3, 4, 5, 12, 14, 15] rfl ?_
  refine chval 88 (.cells 64 5 addC) rfl rfl ?_
  refine torows (k := 5) 88 4 (insF addL) rfl (by decide) (by decide) add_cells ?_
  refine freeze 15 88 4 rfl rfl (Nat.le_refl _) ?_
  refine cval 15 (insV addL) rfl rfl ?_
  refine rd1 rfl ?_
  refine d1 30 104 1 rfl rfl rfl rfl rfl rfl trivial ?_
  refine d1 31 112 2 rfl rfl rfl rfl rfl rfl ⟨trivial, (by decide), (by decide)⟩ ?_
  refine d1 32 120 3 rfl rfl rfl rfl rfl rfl trivial ?_
  refine d1 33 128 4 rfl rfl rfl rfl rfl rfl ⟨Nat.le_refl _, trivial, (by decide), (by decide)⟩ ?_
  refine d1 34 136 5 rfl rfl rfl rfl rfl rfl trivial ?_
  refine d1 35 144 6 rfl rfl rfl rfl rfl rfl trivial ?_
  refine d1 36 152 7 rfl rfl rfl rfl rfl rfl trivial ?_
  refine d1 37 160 8 rfl rfl rfl rfl rfl rfl trivial ?_
  refine d1 38 168 9 rfl rfl rfl rfl rfl rfl trivial ?_
  refine d1 39 176 10 rfl rfl rfl rfl rfl rfl ⟨by decide, rfl, by decide, by decide⟩ ?_
  refine d1 40 184 11 rfl rfl rfl rfl rfl rfl trivial ?_
  refine d1 16 192 12 rfl rfl rfl rfl rfl rfl trivial ?_
  refine d0 200 13 rfl rfl rfl rfl rfl (by first | trivial | omega) ?_
  refine de1 208 rfl (by kernel_rfl) ?_
  refine keep [1, 2, 3, 4, 5, 12, 14, 16] rfl ?_
  refine rowsc (k := 1) (L := 2) 128 2 (intsF [0, 0]) rfl rfl (fun i c hi hc => by obtain rfl : c = 0 := (by omega); rcases (show i = 0 ∨ i = 1 by omega) with rfl | rfl <;> rfl) ?_
  refine cfreeze 192 0 128 2 rfl rfl rfl (Nat.le_refl _) rfl ?_
  refine chval 160 (.cells 32 1 [insV winL, insV woutL, insV addL]) rfl rfl ?_
  refine torows (k := 1) 160 3 (codesR 2) rfl (by decide) (by decide) (codes_cells 2) ?_
  refine cfreeze 192 1 160 3 rfl rfl rfl (Nat.le_refl _) rfl ?_
  refine chval 192 (.cells 28 3 [.d (.vec 1 2 (intsF [0, 0])), .d (.vec 1 3 (codesR 2)), .sl 176 0 2]) rfl rfl ?_
  refine tocells 176 [.d .nils, .d .nils] rfl rfl (by decide) ?_
  refine W_seq ?_
  refine r1 ?_
  refine s1 17 208 1 rfl rfl rfl rfl rfl rfl trivial ?_
  refine e1 216 rfl ?_
  refine keep [1, 2, 3, 4, 5, 12, 14, 16, 17] rfl ?_
  refine W_block ?_
  refine W_unroll 3 ?_
  refine unr ?_
  refine W_seq ?_
  refine r1 ?_
  refine s1 41 216 1 rfl rfl rfl rfl rfl rfl trivial ?_
  refine s1 42 224 2 rfl rfl rfl rfl rfl rfl trivial ?_
  refine s1 43 232 3 rfl rfl rfl rfl rfl rfl (by first | trivial | omega) ?_
  refine e1 240 rfl ?_
  refine keep [1, 2, 3, 4, 5, 12, 14, 16, 17, 43] rfl ?_
  refine q1 rfl (fun hc5 => ?_) (fun hc5 => ?_)
  · skip
    try simp only [cs, ne_eq] at hc5
    refine W_skip ?_
    refine tn ?_
    refine W_seq ?_
    refine W_block ?_
    refine r1 ?_
    refine s1 18 240 1 rfl rfl rfl rfl rfl rfl trivial ?_
    refine e1 248 rfl ?_
    refine keep [1, 2, 3, 4, 5, 12, 14, 16, 17, 18] rfl ?_
    refine W_block ?_
    refine cghostly 176 0 38 2 (callF (cUp 0)) rfl rfl rfl ?_
    refine loop (α := Nat) 4 (fun i => [(1, insV winL), (2, insV woutL), (3, SV.i 2), (4, SV.i 6), (5, SV.b false), (12, .ptr 0 0 0), (14, SV.i 1), (16, .ptr 1 0 0), (17, SV.i 0), (18, SV.i (i))]) (fun i => [some (.cells 28 3 [.d .nils, .d .nils, .d .nils]), some (.cells 28 3 [.d (.vec 1 2 (intsF [0, 0])), .d (.vec 1 3 (codesR 2)), .sl 2 0 2]), some (.cells 39 1 [.sl 3 0 (3 * (i)), .d .nils]), some (.rows 38 2 (3 * (i)) (callF (cUp (i))))]) (fun i => (i) ≤ 6) (fun i => 6 - (i)) (((0) : Nat)) [0, 192, 176, 248] (fun _ => rfl) (show (0) ≤ 6 from (by omega)) rfl ⟨rfl, rfl, rfl, rfl, rfl, rfl, rfl, rfl, rfl, rfl, trivial⟩ ⟨rfl, rfl, rfl, rfl, trivial⟩ (fun i hx => ?_)
    show W _ _ _ ⟨tOf [(1, insV winL), (2, insV woutL), (3, SV.i 2), (4, SV.i 6), (5, SV.b false), (12, .ptr 0 0 0), (14, SV.i 1), (16, .ptr 1 0 0), (17, SV.i 0), (18, SV.i i)], hOf [some (.cells 28 3 [.d .nils, .d .nils, .d .nils]), some (.cells 28 3 [.d (.vec 1 2 (intsF [0, 0])), .d (.vec 1 3 (codesR 2)), .sl 2 0 2]), some (.cells 39 1 [.sl 3 0 (3 * i), .d .nils]), some (.rows 38 2 (3 * i) (callF (cUp i)))], 4⟩
    have hx : i ≤ 6 := hx
    refine W_seq ?_
    refine r1 ?_
    refine s1 46 4 1 rfl rfl rfl rfl rfl rfl trivial ?_
    refine s1 47 12 2 rfl rfl rfl rfl rfl rfl trivial ?_
    refine s1 48 20 3 rfl rfl rfl rfl rfl rfl (by first | trivial | omega) ?_
    refine e1 28 rfl ?_
    refine keep [1, 2, 3, 4, 5, 12, 14, 16, 17, 18, 48] rfl ?_
    refine q1 rfl (fun hc8 => ?_) (fun hc8 => ?_)
    · skip
      try simp only [cs, ne_eq] at hc8
      refine W_skip ?_
      refine tn ?_
      refine W_seq ?_
      refine W_block ?_
      refine r1 ?_
      refine s1 51 28 1 rfl rfl rfl rfl rfl rfl trivial ?_
      refine s1 19 36 2 rfl rfl rfl rfl rfl rfl trivial ?_
      refine s0 44 3 rfl rfl rfl rfl rfl (by first | trivial | omega) ?_
      refine e1 52 rfl ?_
      refine keep [1, 2, 3, 4, 5, 12, 14, 16, 17, 18, 19] rfl ?_
      refine r1 ?_
      refine s1 52 52 1 rfl rfl rfl rfl rfl rfl trivial ?_
      refine s1 20 60 2 rfl rfl rfl rfl rfl rfl trivial ?_
      refine s0 68 3 rfl rfl rfl rfl rfl (by first | trivial | omega) ?_
      refine e1 76 rfl ?_
      refine keep [1, 2, 3, 4, 5, 12, 14, 16, 17, 18, 19, 20] rfl ?_
      refine W_seq ?_
      refine r1 ?_
      refine s1 53 76 1 rfl rfl rfl rfl rfl rfl trivial ?_
      refine e1 84 rfl ?_
      refine keep [1, 2, 3, 4, 5, 12, 14, 16, 17, 18, 19, 20, 53] rfl ?_
      refine q1 rfl (fun hc12 => ?_) (fun hc12 => ?_)
      · skip
        exact absurd hc12 (by decide)
      · skip
        try simp only [cs, ne_eq] at hc12
        refine W_skip ?_
        refine tn ?_
        refine rd0 rfl ?_
        refine d1 60 84 1 rfl rfl rfl rfl rfl rfl trivial ?_
        refine d1 61 92 2 rfl rfl rfl rfl rfl rfl (by first | trivial | omega) ?_
        refine d1 62 100 3 rfl rfl rfl rfl rfl rfl trivial ?_
        refine d1 63 108 4 rfl rfl rfl rfl rfl rfl trivial ?_
        refine d1 64 116 5 rfl rfl rfl rfl rfl rfl (by first | trivial | omega) ?_
        refine d1 65 124 6 rfl rfl rfl rfl rfl rfl trivial ?_
        refine d1 66 132 7 rfl rfl rfl rfl rfl rfl (by first | trivial | omega) ?_
        refine d1 67 140 8 rfl rfl rfl rfl rfl rfl (by first | trivial | omega) ?_
        refine d1 68 148 9 rfl rfl rfl rfl rfl rfl (by first | trivial | omega) ?_
        refine d1 69 156 10 rfl rfl rfl rfl rfl rfl trivial ?_
        refine d1 70 164 11 rfl rfl rfl rfl rfl rfl (by first | trivial | omega) ?_
        refine d1 71 172 12 rfl rfl rfl rfl rfl rfl trivial ?_
        refine d1 72 180 13 rfl rfl rfl rfl rfl rfl ⟨Nat.le_refl _, trivial, (by show (3 * i + 3) * 32 ≤ 140737488355328; omega), (by simp only [maxLen]; omega)⟩ ?_
        refine d1 73 188 14 rfl rfl rfl rfl rfl rfl (by first | trivial | omega) ?_
        refine d0 196 15 rfl rfl rfl rfl rfl (by first | trivial | omega) ?_
        refine de1 204 rfl (by kernel_rfl) ?_
        refine bn ?_
        refine tn ?_
        refine rowsw 180 (3 * (i + 1)) (callF (cUp (i + 1))) rfl rfl (fun k c hk hc M v h => call_cat i k c hk hc M v h) ?_
        refine r0 ?_
        refine s1 49 204 1 rfl rfl rfl rfl rfl rfl trivial ?_
        refine sA 50 212 2 rfl rfl rfl rfl rfl rfl rfl rfl rfl (by unfold inRange; omega) ?_
        refine s1 18 220 3 rfl rfl rfl rfl rfl rfl trivial ?_
        refine e1 228 rfl ?_
        refine tn ?_
        exact again ((i + 1 : Nat)) [0, 1, 2, 180] (show (i + 1) ≤ 6 from (by omega)) (show 6 - (i + 1) < 6 - i from (by omega)) rfl ⟨rfl, rfl, rfl, rfl, rfl, rfl, rfl, rfl, rfl, rfl, trivial⟩ ⟨rfl, rfl, rfl, rfl, trivial⟩
    · skip
      try simp only [cs, ne_eq] at hc8
      obtain rfl : i = 6 := by omega
      refine W_exit ?_
      refine tx ?_
      refine tx ?_
      refine bx ?_
      refine bn ?_
      refine tn ?_
      refine cfreeze 2 0 3 (3 * 6) rfl rfl rfl (Nat.le_refl _) rfl ?_
      refine chval 2 (.cells 39 1 [.d (.vec 2 (3 * 6) (callF (cUp 6))), .d .nils]) rfl rfl ?_
      refine r0 ?_
      refine s1 44 28 1 rfl rfl rfl rfl rfl rfl trivial ?_
      refine sA 45 36 2 rfl rfl rfl rfl rfl rfl rfl rfl rfl (by unfold inRange; omega) ?_
      refine val 45 (SV.i 1) rfl rfl ?_
      refine s1 17 44 3 rfl rfl rfl rfl rfl rfl trivial ?_
      refine e1 52 rfl ?_
      refine tn ?_
      refine unr ?_
      refine W_seq ?_
      refine r1 ?_
      refine s1 41 52 1 rfl rfl rfl rfl rfl rfl trivial ?_
      refine s1 42 60 2 rfl rfl rfl rfl rfl rfl trivial ?_
      refine s1 43 68 3 rfl rfl rfl rfl rfl rfl (by first | trivial | omega) ?_
      refine e1 76 rfl ?_
      refine keep [1, 2, 3, 4, 5, 12, 14, 16, 17, 43] rfl ?_
      refine q1 rfl (fun hc5 => ?_) (fun hc5 => ?_)
      · skip
        try simp only [cs, ne_eq] at hc5
        refine W_skip ?_
        refine tn ?_
        refine W_seq ?_
        refine W_block ?_
        refine r1 ?_
        refine s1 18 76 1 rfl rfl rfl rfl rfl rfl trivial ?_
        refine e1 84 rfl ?_
        refine keep [1, 2, 3, 4, 5, 12, 14, 16, 17, 18] rfl ?_
        refine W_block ?_
        refine cghostly 2 1 38 2 (callF (cUp 0)) rfl rfl rfl ?_
        refine loop (α := Nat) 4 (fun i => [(1, insV winL), (2, insV woutL), (3, SV.i 2), (4, SV.i 6), (5, SV.b false), (12, .ptr 0 0 0), (14, SV.i 1), (16, .ptr 1 0 0), (17, SV.i 1), (18, SV.i (i))]) (fun i => [some (.cells 28 3 [.d .nils, .d .nils, .d .nils]), some (.cells 28 3 [.d (.vec 1 2 (intsF [0, 0])), .d (.vec 1 3 (codesR 2)), .sl 2 0 2]), some (.cells 39 1 [.d (.vec 2 (3 * 6) (callF (cUp 6))), .sl 3 0 (3 * (i))]), some (.rows 38 2 (3 * (i)) (callF (cUp (i))))]) (fun i => (i) ≤ 6) (fun i => 6 - (i)) (((0) : Nat)) [0, 1, 2, 84] (fun _ => rfl) (show (0) ≤ 6 from (by omega)) rfl ⟨rfl, rfl, rfl, rfl, rfl, rfl, rfl, rfl, rfl, rfl, trivial⟩ ⟨rfl, rfl, rfl, rfl, trivial⟩ (fun i hx => ?_)
        show W _ _ _ ⟨tOf [(1, insV winL), (2, insV woutL), (3, SV.i 2), (4, SV.i 6), (5, SV.b false), (12, .ptr 0 0 0), (14, SV.i 1), (16, .ptr 1 0 0), (17, SV.i 1), (18, SV.i i)], hOf [some (.cells 28 3 [.d .nils, .d .nils, .d .nils]), some (.cells 28 3 [.d (.vec 1 2 (intsF [0, 0])), .d (.vec 1 3 (codesR 2)), .sl 2 0 2]), some (.cells 39 1 [.d (.vec 2 (3 * 6) (callF (cUp 6))), .sl 3 0 (3 * i)]), some (.rows 38 2 (3 * i) (callF (cUp i)))], 4⟩
        have hx : i ≤ 6 := hx
        refine W_seq ?_
        refine r1 ?_
        refine s1 46 4 1 rfl rfl rfl rfl rfl rfl trivial ?_
        refine s1 47 12 2 rfl rfl rfl rfl rfl rfl trivial ?_
        refine s1 48 20 3 rfl rfl rfl rfl rfl rfl (by first | trivial | omega) ?_
        refine e1 28 rfl ?_
        refine keep [1, 2, 3, 4, 5, 12, 14, 16, 17, 18, 48] rfl ?_
        refine q1 rfl (fun hc8 => ?_) (fun hc8 => ?_)
        · skip
          try simp only [cs, ne_eq] at hc8
          refine W_skip ?_
          refine tn ?_
          refine W_seq ?_
          refine W_block ?_
          refine r1 ?_
          refine s1 51 28 1 rfl rfl rfl rfl rfl rfl trivial ?_
          refine s1 19 36 2 rfl rfl rfl rfl rfl rfl trivial ?_
          refine s0 44 3 rfl rfl rfl rfl rfl (by first | trivial | omega) ?_
          refine e1 52 rfl ?_
          refine keep [1, 2, 3, 4, 5, 12, 14, 16, 17, 18, 19] rfl ?_
          refine r1 ?_
          refine s1 52 52 1 rfl rfl rfl rfl rfl rfl trivial ?_
          refine s1 20 60 2 rfl rfl rfl rfl rfl rfl trivial ?_
          refine s0 68 3 rfl rfl rfl rfl rfl (by first | trivial | omega) ?_
          refine e1 76 rfl ?_
          refine keep [1, 2, 3, 4, 5, 12, 14, 16, 17, 18, 19, 20] rfl ?_
          refine W_seq ?_
          refine r1 ?_
          refine s1 53 76 1 rfl rfl rfl rfl rfl rfl trivial ?_
          refine e1 84 rfl ?_
          refine keep [1, 2, 3, 4, 5, 12, 14, 16, 17, 18, 19, 20, 53] rfl ?_
          refine q1 rfl (fun hc12 => ?_) (fun hc12 => ?_)
          · skip
            exact absurd hc12 (by decide)
          · skip
            try simp only [cs, ne_eq] at hc12
            refine W_skip ?_
            refine tn ?_
            refine rd0 rfl ?_
            refine d1 60 84 1 rfl rfl rfl rfl rfl rfl trivial ?_
            refine d1 61 92 2 rfl rfl rfl rfl rfl rfl (by first | trivial | omega) ?_
            refine d1 62 100 3 rfl rfl rfl rfl rfl rfl trivial ?_
            refine d1 63 108 4 rfl rfl rfl rfl rfl rfl trivial ?_
            refine d1 64 116 5 rfl rfl rfl rfl rfl rfl (by first | trivial | omega) ?_
            refine d1 65 124 6 rfl rfl rfl rfl rfl rfl trivial ?_
            refine d1 66 132 7 rfl rfl rfl rfl rfl rfl (by first | trivial | omega) ?_
            refine d1 67 140 8 rfl rfl rfl rfl rfl rfl (by first | trivial | omega) ?_
            refine d1 68 148 9 rfl rfl rfl rfl rfl rfl (by first | trivial | omega) ?_
            refine d1 69 156 10 rfl rfl rfl rfl rfl rfl trivial ?_
            refine d1 70 164 11 rfl rfl rfl rfl rfl rfl (by first | trivial | omega) ?_
            refine d1 71 172 12 rfl rfl rfl rfl rfl rfl trivial ?_
            refine d1 72 180 13 rfl rfl rfl rfl rfl rfl ⟨Nat.le_refl _, trivial, (by show (3 * i + 3) * 32 ≤ 140737488355328; omega), (by simp only [maxLen]; omega)⟩ ?_
            refine d1 73 188 14 rfl rfl rfl rfl rfl rfl (by first | trivial | omega) ?_
            refine d0 196 15 rfl rfl rfl rfl rfl (by first | trivial | omega) ?_
            refine de1 204 rfl (by kernel_rfl) ?_
            refine bn ?_
            refine tn ?_
            refine rowsw 180 (3 * (i + 1)) (callF (cUp (i + 1))) rfl rfl (fun k c hk hc M v h => call_cat i k c hk hc M v h) ?_
            refine r0 ?_
            refine s1 49 204 1 rfl rfl rfl rfl rfl rfl trivial ?_
            refine sA 50 212 2 rfl rfl rfl rfl rfl rfl rfl rfl rfl (by unfold inRange; omega) ?_
            refine s1 18 220 3 rfl rfl rfl rfl rfl rfl trivial ?_
            refine e1 228 rfl ?_
            refine tn ?_
            exact again ((i + 1 : Nat)) [0, 1, 2, 180] (show (i + 1) ≤ 6 from (by omega)) (show 6 - (i + 1) < 6 - i from (by omega)) rfl ⟨rfl, rfl, rfl, rfl, rfl, rfl, rfl, rfl, rfl, rfl, trivial⟩ ⟨rfl, rfl, rfl, rfl, trivial⟩
        · skip
          try simp only [cs, ne_eq] at hc8
          obtain rfl : i = 6 := by omega
          refine W_exit ?_
          refine tx ?_
          refine tx ?_
          refine bx ?_
          refine bn ?_
          refine tn ?_
          refine cfreeze 2 1 3 (3 * 6) rfl rfl rfl (Nat.le_refl _) rfl ?_
          refine chval 2 (.cells 39 1 [.d (.vec 2 (3 * 6) (callF (cUp 6))), .d (.vec 2 (3 * 6) (callF (cUp 6)))]) rfl rfl ?_
          refine r0 ?_
          refine s1 44 28 1 rfl rfl rfl rfl rfl rfl trivial ?_
          refine sA 45 36 2 rfl rfl rfl rfl rfl rfl rfl rfl rfl (by unfold inRange; omega) ?_
          refine val 45 (SV.i 2) rfl rfl ?_
          refine s1 17 44 3 rfl rfl rfl rfl rfl rfl trivial ?_
          refine e1 52 rfl ?_
          refine tn ?_
          refine unr ?_
          refine W_seq ?_
          refine r1 ?_
          refine s1 41 52 1 rfl rfl rfl rfl rfl rfl trivial ?_
          refine s1 42 60 2 rfl rfl rfl rfl rfl rfl trivial ?_
          refine s1 43 68 3 rfl rfl rfl rfl rfl rfl (by first | trivial | omega) ?_
          refine e1 76 rfl ?_
          refine keep [1, 2, 3, 4, 5, 12, 14, 16, 17, 43] rfl ?_
          refine q1 rfl (fun hc5 => ?_) (fun hc5 => ?_)
          · skip
            exact absurd hc5 (by decide)
          · skip
            try simp only [cs, ne_eq] at hc5
            refine W_exit ?_
            refine tx ?_
            refine tx ?_
            refine bx ?_
            refine tn ?_
            refine torows (k := 1) 2 2 (machR 2) rfl (by decide) (by decide) (fun i c hi hc => by obtain rfl : c = 0 := (by omega); rcases (show i = 0 ∨ i = 1 by omega) with rfl | rfl <;> rfl) ?_
            refine cfreeze 1 2 2 2 rfl rfl rfl (Nat.le_refl _) rfl ?_
            refine chval 1 (machBlk (qM 2)) rfl rfl ?_
            refine rd1 rfl ?_
            refine d1 74 76 1 rfl rfl rfl rfl rfl rfl (by first | trivial | omega) ?_
            refine d1 75 84 2 rfl rfl rfl rfl rfl rfl trivial ?_
            refine d1 76 92 3 rfl rfl rfl rfl rfl rfl (by first | trivial | omega) ?_
            refine d1 77 100 4 rfl rfl rfl rfl rfl rfl trivial ?_
            refine ask 77 rfl (fun hg16_77 => ?_) (fun hg16_77 => ?_)
            · skip
              try simp only [cs, ne_eq] at hg16_77
              refine g1 3 true 77 78 5 rfl rfl rfl rfl rfl ?_
              refine d1 78 108 5 rfl rfl rfl rfl rfl rfl trivial ?_
              refine g1 3 true 77 79 6 rfl rfl rfl rfl rfl ?_
              refine d1 79 116 6 rfl rfl rfl rfl rfl rfl (by first | trivial | omega) ?_
              refine d1 80 124 7 rfl rfl rfl rfl rfl rfl trivial ?_
              refine d1 81 132 8 rfl rfl rfl rfl rfl rfl trivial ?_
              refine ask 81 rfl (fun hg16_81 => ?_) (fun hg16_81 => ?_)
              · skip
                try simp only [cs, ne_eq] at hg16_81
                refine g1 7 true 81 82 9 rfl rfl rfl rfl rfl ?_
                refine d1 82 140 9 rfl rfl rfl rfl rfl rfl trivial ?_
                refine g1 7 true 81 83 10 rfl rfl rfl rfl rfl ?_
                refine d1 83 148 10 rfl rfl rfl rfl rfl rfl (by first | trivial | omega) ?_
                refine g1 7 true 81 84 11 rfl rfl rfl rfl rfl ?_
                refine d1 84 156 11 rfl rfl rfl rfl rfl rfl (by first | trivial | omega) ?_
                refine d1 85 164 12 rfl rfl rfl rfl rfl rfl trivial ?_
                refine d1 86 172 13 rfl rfl rfl rfl rfl rfl trivial ?_
                refine ask 86 rfl (fun hg16_86 => ?_) (fun hg16_86 => ?_)
                · skip
                  try simp only [cs, ne_eq] at hg16_86
                  refine g1 12 true 86 87 14 rfl rfl rfl rfl rfl ?_
                  refine d1 87 180 14 rfl rfl rfl rfl rfl rfl trivial ?_
                  refine g1 12 true 86 88 15 rfl rfl rfl rfl rfl ?_
                  refine d1 88 188 15 rfl rfl rfl rfl rfl rfl (by first | trivial | omega) ?_
                  refine g1 12 true 86 89 16 rfl rfl rfl rfl rfl ?_
                  refine d1 89 196 16 rfl rfl rfl rfl rfl rfl (by first | trivial | omega) ?_
                  refine d1 90 204 17 rfl rfl rfl rfl rfl rfl trivial ?_
                  refine d1 91 212 18 rfl rfl rfl rfl rfl rfl trivial ?_
                  refine ask 91 rfl (fun hg16_91 => ?_) (fun hg16_91 => ?_)
                  · skip
                    try simp only [cs, ne_eq] at hg16_91
                    refine g1 17 true 91 92 19 rfl rfl rfl rfl rfl ?_
                    refine d1 92 220 19 rfl rfl rfl rfl rfl rfl (by first | trivial | omega) ?_
                    refine g1 17 true 91 93 20 rfl rfl rfl rfl rfl ?_
                    refine dc1 (mach_any (qM 2) (okq 2 (by decide))) [] [] 93 228 20 rfl rfl rfl rfl rfl rfl rfl rfl Tryd.func30 rfl rfl rfl rfl trivial rfl rfl ?_
                    refine d1 94 236 21 rfl rfl rfl rfl rfl rfl trivial ?_
                    refine val 94 (SV.b true) rfl (by show SV.b (machB (qM 2)) = _; rw [mach_q 2 (by decide) (by decide)]) ?_
                    refine d0 244 22 rfl rfl rfl rfl rfl (by first | trivial | omega) ?_
                    refine d1 13 252 23 rfl rfl rfl rfl rfl rfl trivial ?_
                    refine de1 260 rfl (by kernel_rfl) ?_
                    refine keep [12, 13] rfl ?_
                    refine W_ret ?_
                    exact outN (SV.tup [machS (qM 2), SV.b true]) (π := []) (hout := []) Tryd.results8 rfl (by trivial) rfl rfl rfl trivial ⟨rfl, rfl⟩
                  · skip
                    try simp only [cs, ne_eq] at hg16_91
                    exact absurd hg16_91 (by decide)
                · skip
                  try simp only [cs, ne_eq] at hg16_86
                  exact absurd hg16_86 (by decide)
              · skip
                try simp only [cs, ne_eq] at hg16_81
                exact absurd hg16_81 (by decide)
            · skip
              try simp only [cs, ne_eq] at hg16_77
              exact absurd hg16_77 (by decide)
      · skip
        exact absurd hc5 (by decide)
  · skip
    exact absurd hc5 (by decide)

theorem guarded_3  : Spec Tryd.prog GV 8 [intsV [0], insV winL, insV woutL, SV.i 3, SV.i 6, SV.b false] [] (fun r ho => r = SV.tup [machS (qM 3), SV.b true] ∧ ho = []) := by
  refine start 95 0 Tryd.func8 rfl rfl rfl rfl ?_
  refine r1 ?_
  refine s1 12 0 1 rfl rfl rfl rfl rfl rfl trivial ?_
  refine s1 13 8 2 rfl rfl rfl rfl rfl rfl trivial ?_
  refine e1 16 rfl ?_
  refine keep [0, 1, 2, 3, 4, 5, 12] rfl ?_
  refine r1 ?_
  refine s1 21 16 1 rfl rfl rfl rfl rfl rfl trivial ?_
  refine s1 22 24 2 rfl rfl rfl rfl rfl rfl (by first | trivial | omega) ?_
  refine val 22 (SV.i 1) rfl rfl ?_
  refine s1 14 32 3 rfl rfl rfl rfl rfl rfl trivial ?_
  refine e1 40 rfl ?_
  refine keep [0, 1, 2, 3, 4, 5, 12, 14] rfl ?_
  refine r1 ?_
  refine s1 23 40 1 rfl rfl rfl rfl rfl rfl trivial ?_
  refine s1 24 48 2 rfl rfl rfl rfl rfl rfl trivial ?_
  refine s1 25 56 3 rfl rfl rfl rfl rfl rfl trivial ?_
  refine s1 26 64 4 rfl rfl rfl rfl rfl rfl trivial ?_
  refine s1 27 72 5 rfl rfl rfl rfl rfl rfl trivial ?_
  refine s1 28 80 6 rfl rfl rfl rfl rfl rfl trivial ?_
  refine s1 29 88 7 rfl rfl rfl rfl rfl rfl trivial ?_
  refine s1 15 96 8 rfl rfl rfl rfl rfl rfl trivial ?_
  refine e1 104 rfl ?_
  refine keep [0, 1, 2, 3, 4, 5, 12, 14, 15] rfl ?_
  refine chval 88 (.cells 64 5 addC) rfl rfl ?_
  refine torows (k := 5) 88 4 (insF addL) rfl (by decide) (by decide) add_cells ?_
  refine freeze 15 88 4 rfl rfl (Nat.le_refl _) ?_
  refine cval 15 (insV addL) rfl rfl ?_
  refine rd1 rfl ?_
  refine d1 30 104 1 rfl rfl rfl rfl rfl rfl trivial ?_
  refine d1 31 112 2 rfl rfl rfl rfl rfl rfl ⟨trivial, (by decide), (by decide)⟩ ?_
  refine d1 32 120 3 rfl rfl rfl rfl rfl rfl trivial ?_
  refine d1 33 128 4 rfl rfl rfl rfl rfl rfl ⟨Nat.le_refl _, trivial, (by decide), (by decide)⟩ ?_
  refine d1 34 136 5 rfl rfl rfl rfl rfl rfl trivial ?_
  refine d1 35 144 6 rfl rfl rfl rfl rfl rfl trivial ?_
  refine d1 36 152 7 rfl rfl rfl rfl rfl rfl trivial ?_
  refine d1 37 160 8 rfl rfl rfl rfl rfl rfl trivial ?_
  refine d1 38 168 9 rfl rfl rfl rfl rfl rfl trivial ?_
  refine d1 39 176 10 rfl rfl rfl rfl rfl rfl ⟨by decide, rfl, by decide, by decide⟩ ?_
  refine d1 40 184 11 rfl rfl rfl rfl rfl rfl trivial ?_
  refine d1 16 192 12 rfl rfl rfl rfl rfl rfl trivial ?_
  refine d0 200 13 rfl rfl rfl rfl rfl (by first | trivial | omega) ?_
  refine de1 208 rfl (by kernel_rfl) ?_
  refine keep [1, 2, 3, 4, 5, 12, 14, 16] rfl ?_
  refine rowsc (k := 1) (L := 2) 128 2 (intsF [0, 0]) rfl rfl (fun i c hi hc => by obtain rfl : c = 0 := (by omega); rcases (show i = 0 ∨ i = 1 by omega) with rfl | rfl <;> rfl) ?_
  refine cfreeze 192 0 128 2 rfl rfl rfl (Nat.le_refl _) rfl ?_
  refine chval 160 (.cells 32 1 [insV winL, insV woutL, insV addL]) rfl rfl ?_
  refine torows (k := 1) 160 3 (codesR 3) rfl (by decide) (by decide) (codes_cells 3) ?_
  refine cfreeze 192 1 160 3 rfl rfl rfl (Nat.le_refl _) rfl ?_
  refine chval 192 (.cells 28 3 [.d (.vec 1 2 (intsF [0, 0])), .d (.vec 1 3 (codesR 3)), .sl 176 0 3]) rfl rfl ?_
  refine tocells 176 [.d .nils, .d .nils, .d .nils] rfl rfl (by decide) ?_
  refine W_seq ?_
  refine r1 ?_
  refine s1 17 208 1 rfl rfl rfl rfl rfl rfl trivial ?_
  refine e1 216 rfl ?_
  refine keep [1, 2, 3, 4, 5, 12, 14, 16, 17] rfl ?_
  refine W_block ?_
  refine W_unroll 4 ?_
  refine unr ?_
  refine W_seq ?_
  refine r1 ?_
  refine s1 41 216 1 rfl rfl rfl rfl rfl rfl trivial ?_
  refine s1 42 224 2 rfl rfl rfl rfl rfl rfl trivial ?_
  refine s1 43 232 3 rfl rfl rfl rfl rfl rfl (by first | trivial | omega) ?_
  refine e1 240 rfl ?_
  refine keep [1, 2, 3, 4, 5, 12, 14, 16, 17, 43] rfl ?_
  refine q1 rfl (fun hc5 => ?_) (fun hc5 => ?_)
  · skip
    try simp only [cs, ne_eq] at hc5
    refine W_skip ?_
    refine tn ?_
    refine W_seq ?_
    refine W_block ?_
    refine r1 ?_
    refine s1 18 240 1 rfl rfl rfl rfl rfl rfl trivial ?_
    refine e1 248 rfl ?_
    refine keep [1, 2, 3, 4, 5, 12, 14, 16, 17, 18] rfl ?_
    refine W_block ?_
    refine cghostly 176 0 38 2 (callF (cUp 0)) rfl rfl rfl ?_
    refine loop (α := Nat) 4 (fun i => [(1, insV winL), (2, insV woutL), (3, SV.i 3), (4, SV.i 6), (5, SV.b false), (12, .ptr 0 0 0), (14, SV.i 1), (16, .ptr 1 0 0), (17, SV.i 0), (18, SV.i (i))]) (fun i => [some (.cells 28 3 [.d .nils, .d .nils, .d .nils]), some (.cells 28 3 [.d (.vec 1 2 (intsF [0, 0])), .d (.vec 1 3 (codesR 3)), .sl 2 0 3]), some (.cells 39 1 [.sl 3 0 (3 * (i)), .d .nils, .d .nils]), some (.rows 38 2 (3 * (i)) (callF (cUp (i))))]) (fun i => (i) ≤ 6) (fun i => 6 - (i)) (((0) : Nat)) [0, 192, 176, 248] (fun _ => rfl) (show (0) ≤ 6 from (by omega)) rfl ⟨rfl, rfl, rfl, rfl, rfl, rfl, rfl, rfl, rfl, rfl, trivial⟩ ⟨rfl, rfl, rfl, rfl, trivial⟩ (fun i hx => ?_)
    show W _ _ _ ⟨tOf [(1, insV winL), (2, insV woutL), (3, SV.i 3), (4, SV.i 6), (5, SV.b false), (12, .ptr 0 0 0), (14, SV.i 1), (16, .ptr 1 0 0), (17, SV.i 0), (18, SV.i i)], hOf [some (.cells 28 3 [.d .nils, .d .nils, .d .nils]), some (.cells 28 3 [.d (.vec 1 2 (intsF [0, 0])), .d (.vec 1 3 (codesR 3)), .sl 2 0 3]), some (.cells 39 1 [.sl 3 0 (3 * i), .d .nils, .d .nils]), some (.rows 38 2 (3 * i) (callF (cUp i)))], 4⟩
    have hx : i ≤ 6 := hx
    refine W_seq ?_
    refine r1 ?_
    refine s1 46 4 1 rfl rfl rfl rfl rfl rfl trivial ?_
    refine s1 47 12 2 rfl rfl rfl rfl rfl rfl trivial ?_
    refine s1 48 20 3 rfl rfl rfl rfl rfl rfl (by first | trivial | omega) ?_
    refine e1 28 rfl ?_
    refine keep [1, 2, 3, 4, 5, 12, 14, 16, 17, 18, 48] rfl ?_
    refine q1 rfl (fun hc8 => ?_) (fun hc8 => ?_)
    · skip
      try simp only [cs, ne_eq] at hc8
      refine W_skip ?_
      refine tn ?_
      refine W_seq ?_
      refine W_block ?_
      refine r1 ?_
      refine s1 51 28 1 rfl rfl rfl rfl rfl rfl trivial ?_
      refine s1 19 36 2 rfl rfl rfl rfl rfl rfl trivial ?_
      refine s0 44 3 rfl rfl rfl rfl rfl (by first | trivial | omega) ?_
      refine e1 52 rfl ?_
      refine keep [1, 2, 3, 4, 5, 12, 14, 16, 17, 18, 19] rfl ?_
      refine r1 ?_
      refine s1 52 52 1 rfl rfl rfl rfl rfl rfl trivial ?_
      refine s1 20 60 2 rfl rfl rfl rfl rfl rfl trivial ?_
      refine s0 68 3 rfl rfl rfl rfl rfl (by first | trivial | omega) ?_
      refine e1 76 rfl ?_
      refine keep [1, 2, 3, 4, 5, 12, 14, 16, 17, 18, 19, 20] rfl ?_
      refine W_seq ?_
      refine r1 ?_
      refine s1 53 76 1 rfl rfl rfl rfl rfl rfl trivial ?_
      refine e1 84 rfl ?_
      refine keep [1, 2, 3, 4, 5, 12, 14, 16, 17, 18, 19, 20, 53] rfl ?_
      refine q1 rfl (fun hc12 => ?_) (fun hc12 => ?_)
      · skip
        exact absurd hc12 (by decide)
      · skip
        try simp only [cs, ne_eq] at hc12
        refine W_skip ?_
        refine tn ?_
        refine rd0 rfl ?_
        refine d1 60 84 1 rfl rfl rfl rfl rfl rfl trivial ?_
        refine d1 61 92 2 rfl rfl rfl rfl rfl rfl (by first | trivial | omega) ?_
        refine d1 62 100 3 rfl rfl rfl rfl rfl rfl trivial ?_
        refine d1 63 108 4 rfl rfl rfl rfl rfl rfl trivial ?_
        refine d1 64 116 5 rfl rfl rfl rfl rfl rfl (by first | trivial | omega) ?_
        refine d1 65 124 6 rfl rfl rfl rfl rfl rfl trivial ?_
        refine d1 66 132 7 rfl rfl rfl rfl rfl rfl (by first | trivial | omega) ?_
        refine d1 67 140 8 rfl rfl rfl rfl rfl rfl (by first | trivial | omega) ?_
        refine d1 68 148 9 rfl rfl rfl rfl rfl rfl (by first | trivial | omega) ?_
        refine d1 69 156 10 rfl rfl rfl rfl rfl rfl trivial ?_
        refine d1 70 164 11 rfl rfl rfl rfl rfl rfl (by first | trivial | omega) ?_
        refine d1 71 172 12 rfl rfl rfl rfl rfl rfl trivial ?_
        refine d1 72 180 13 rfl rfl rfl rfl rfl rfl ⟨Nat.le_refl _, trivial, (by show (3 * i + 3) * 32 ≤ 140737488355328; omega), (by simp only [maxLen]; omega)⟩ ?_
        refine d1 73 188 14 rfl rfl rfl rfl rfl rfl (by first | trivial | omega) ?_
        refine d0 196 15 rfl rfl rfl rfl rfl (by first | trivial | omega) ?_
        refine de1 204 rfl (by kernel_rfl) ?_
        refine bn ?_
        refine tn ?_
        refine rowsw 180 (3 * (i + 1)) (callF (cUp (i + 1))) rfl rfl (fun k c hk hc M v h => call_cat i k c hk hc M v h) ?_
        refine r0 ?_
        refine s1 49 204 1 rfl rfl rfl rfl rfl rfl trivial ?_
        refine sA 50 212 2 rfl rfl rfl rfl rfl rfl rfl rfl rfl (by unfold inRange; omega) ?_
        refine s1 18 220 3 rfl rfl rfl rfl rfl rfl trivial ?_
        refine e1 228 rfl ?_
        refine tn ?_
        exact again ((i + 1 : Nat)) [0, 1, 2, 180] (show (i + 1) ≤ 6 from (by omega)) (show 6 - (i + 1) < 6 - i from (by omega)) rfl ⟨rfl, rfl, rfl, rfl, rfl, rfl, rfl, rfl, rfl, rfl, trivial⟩ ⟨rfl, rfl, rfl, rfl, trivial⟩
    · skip
      try simp only [cs, ne_eq] at hc8
      obtain rfl : i = 6 := by omega
      refine W_exit ?_
      refine tx ?_
      refine tx ?_
      refine bx ?_
      refine bn ?_
      refine tn ?_
      refine cfreeze 2 0 3 (3 * 6) rfl rfl rfl (Nat.le_refl _) rfl ?_
      refine chval 2 (.cells 39 1 [.d (.vec 2 (3 * 6) (callF (cUp 6))), .d .nils, .d .nils]) rfl rfl ?_
      refine r0 ?_
      refine s1 44 28 1 rfl rfl rfl rfl rfl rfl trivial ?_
      refine sA 45 36 2 rfl rfl rfl rfl rfl rfl rfl rfl rfl (by unfold inRange; omega) ?_
      refine val 45 (SV.i 1) rfl rfl ?_
      refine s1 17 44 3 rfl rfl rfl rfl rfl rfl trivial ?_
      refine e1 52 rfl ?_
      refine tn ?_
      refine unr ?_
      refine W_seq ?_
      refine r1 ?_
      refine s1 41 52 1 rfl rfl rfl rfl rfl rfl trivial ?_
      refine s1 42 60 2 rfl rfl rfl rfl rfl rfl trivial ?_
      refine s1 43 68 3 rfl rfl rfl rfl rfl rfl (by first | trivial | omega) ?_
      refine e1 76 rfl ?_
      refine keep [1, 2, 3, 4, 5, 12, 14, 16, 17, 43] rfl ?_
      refine q1 rfl (fun hc5 => ?_) (fun hc5 => ?_)
      · skip
        try simp only [cs, ne_eq] at hc5
        refine W_skip ?_
        refine tn ?_
        refine W_seq ?_
        refine W_block ?_
        refine r1 ?_
        refine s1 18 76 1 rfl rfl rfl rfl rfl rfl trivial ?_
        refine e1 84 rfl ?_
        refine keep [1, 2, 3, 4, 5, 12, 14, 16, 17, 18] rfl ?_
        refine W_block ?_
        refine cghostly 2 1 38 2 (callF (cUp 0)) rfl rfl rfl ?_
        refine loop (α := Nat) 4 (fun i => [(1, insV winL), (2, insV woutL), (3, SV.i 3), (4, SV.i 6), (5, SV.b false), (12, .ptr 0 0 0), (14, SV.i 1), (16, .ptr 1 0 0), (17, SV.i 1), (18, SV.i (i))]) (fun i => [some (.cells 28 3 [.d .nils, .d .nils, .d .nils]), some (.cells 28 3 [.d (.vec 1 2 (intsF [0, 0])), .d (.vec 1 3 (codesR 3)), .sl 2 0 3]), some (.cells 39 1 [.d (.vec 2 (3 * 6) (callF (cUp 6))), .sl 3 0 (3 * (i)), .d .nils]), some (.rows 38 2 (3 * (i)) (callF (cUp (i))))]) (fun i => (i) ≤ 6) (fun i => 6 - (i)) (((0) : Nat)) [0, 1, 2, 84] (fun _ => rfl) (show (0) ≤ 6 from (by omega)) rfl ⟨rfl, rfl, rfl, rfl, rfl, rfl, rfl, rfl, rfl, rfl, trivial⟩ ⟨rfl, rfl, rfl, rfl, trivial⟩ (fun i hx => ?_)
        show W _ _ _ ⟨tOf [(1, insV winL), (2, insV woutL), (3, SV.i 3), (4, SV.i 6), (5, SV.b false), (12, .ptr 0 0 0), (14, SV.i 1), (16, .ptr 1 0 0), (17, SV.i 1), (18, SV.i i)], hOf [some (.cells 28 3 [.d .nils, .d .nils, .d .nils]), some (.cells 28 3 [.d (.vec 1 2 (intsF [0, 0])), .d (.vec 1 3 (codesR 3)), .sl 2 0 3]), some (.cells 39 1 [.d (.vec 2 (3 * 6) (callF (cUp 6))), .sl 3 0 (3 * i), .d .nils]), some (.rows 38 2 (3 * i) (callF (cUp i)))], 4⟩
        have hx : i ≤ 6 := hx
        refine W_seq ?_
        refine r1 ?_
        refine s1 46 4 1 rfl rfl rfl rfl rfl rfl trivial ?_
        refine s1 47 12 2 rfl rfl rfl rfl rfl rfl trivial ?_
        refine s1 48 20 3 rfl rfl rfl rfl rfl rfl (by first | trivial | omega) ?_
        refine e1 28 rfl ?_
        refine keep [1, 2, 3, 4, 5, 12, 14, 16, 17, 18, 48] rfl ?_
        refine q1 rfl (fun hc8 => ?_) (fun hc8 => ?_)
        · skip
          try simp only [cs, ne_eq] at hc8
          refine W_skip ?_
          refine tn ?_
          refine W_seq ?_
          refine W_block ?_
          refine r1 ?_
          refine s1 51 28 1 rfl rfl rfl rfl rfl rfl trivial ?_
          refine s1 19 36 2 rfl rfl rfl rfl rfl rfl trivial ?_
          refine s0 44 3 rfl rfl rfl rfl rfl (by first | trivial | omega) ?_
          refine e1 52 rfl ?_
          refine keep [1, 2, 3, 4, 5, 12, 14, 16, 17, 18, 19] rfl ?_
          refine r1 ?_
          refine s1 52 52 1 rfl rfl rfl rfl rfl rfl trivial ?_
          refine s1 20 60 2 rfl rfl rfl rfl rfl rfl trivial ?_
          refine s0 68 3 rfl rfl rfl rfl rfl (by first | trivial | omega) ?_
          refine e1 76 rfl ?_
          refine keep [1, 2, 3, 4, 5, 12, 14, 16, 17, 18, 19, 20] rfl ?_
          refine W_seq ?_
          refine r1 ?_
          refine s1 53 76 1 rfl rfl rfl rfl rfl rfl trivial ?_
          refine e1 84 rfl ?_
          refine keep [1, 2, 3, 4, 5, 12, 14, 16, 17, 18, 19, 20, 53] rfl ?_
          refine q1 rfl (fun hc12 => ?_) (fun hc12 => ?_)
          · skip
            exact absurd hc12 (by decide)
          · skip
            try simp only [cs, ne_eq] at hc12
            refine W_skip ?_
            refine tn ?_
            refine rd0 rfl ?_
            refine d1 60 84 1 rfl rfl rfl rfl rfl rfl trivial ?_
            refine d1 61 92 2 rfl rfl rfl rfl rfl rfl (by first | trivial | omega) ?_
            refine d1 62 100 3 rfl rfl rfl rfl rfl rfl trivial ?_
            refine d1 63 108 4 rfl rfl rfl rfl rfl rfl trivial ?_
            refine d1 64 116 5 rfl rfl rfl rfl rfl rfl (by first | trivial | omega) ?_
            refine d1 65 124 6 rfl rfl rfl rfl rfl rfl trivial ?_
            refine d1 66 132 7 rfl rfl rfl rfl rfl rfl (by first | trivial | omega) ?_
            refine d1 67 140 8 rfl rfl rfl rfl rfl rfl (by first | trivial | omega) ?_
            refine d1 68 148 9 rfl rfl rfl rfl rfl rfl (by first | trivial | omega) ?_
            refine d1 69 156 10 rfl rfl rfl rfl rfl rfl trivial ?_
            refine d1 70 164 11 rfl rfl rfl rfl rfl rfl (by first | trivial | omega) ?_
            refine d1 71 172 12 rfl rfl rfl rfl rfl rfl trivial ?_
            refine d1 72 180 13 rfl rfl rfl rfl rfl rfl ⟨Nat.le_refl _, trivial, (by show (3 * i + 3) * 32 ≤ 140737488355328; omega), (by simp only [maxLen]; omega)⟩ ?_
            refine d1 73 188 14 rfl rfl rfl rfl rfl rfl (by first | trivial | omega) ?_
            refine d0 196 15 rfl rfl rfl rfl rfl (by first | trivial | omega) ?_
            refine de1 204 rfl (by kernel_rfl) ?_
            refine bn ?_
            refine tn ?_
            refine rowsw 180 (3 * (i + 1)) (callF (cUp (i + 1))) rfl rfl (fun k c hk hc M v h => call_cat i k c hk hc M v h) ?_
            refine r0 ?_
            refine s1 49 204 1 rfl rfl rfl rfl rfl rfl trivial ?_
            refine sA 50 212 2 rfl rfl rfl rfl rfl rfl rfl rfl rfl (by unfold inRange; omega) ?_
            refine s1 18 220 3 rfl rfl rfl rfl rfl rfl trivial ?_
            refine e1 228 rfl ?_
            refine tn ?_
            exact again ((i + 1 : Nat)) [0, 1, 2, 180] (show (i + 1) ≤ 6 from (by omega)) (show 6 - (i + 1) < 6 - i from (by omega)) rfl ⟨rfl, rfl, rfl, rfl, rfl, rfl, rfl, rfl, rfl, rfl, trivial⟩ ⟨rfl, rfl, rfl, rfl, trivial⟩
        · skip
          try simp only [cs, ne_eq] at hc8
          obtain rfl : i = 6 := by omega
          refine W_exit ?_
          refine tx ?_
          refine tx ?_
          refine bx ?_
          refine bn ?_
          refine tn ?_
          refine cfreeze 2 1 3 (3 * 6) rfl rfl rfl (Nat.le_refl _) rfl ?_
          refine chval 2 (.cells 39 1 [.d (.vec 2 (3 * 6) (callF (cUp 6))), .d (.vec 2 (3 * 6) (callF (cUp 6))), .d .nils]) rfl rfl ?_
          refine r0 ?_
          refine s1 44 28 1 rfl rfl rfl rfl rfl rfl trivial ?_
          refine sA 45 36 2 rfl rfl rfl rfl rfl rfl rfl rfl rfl (by unfold inRange; omega) ?_
          refine val 45 (SV.i 2) rfl rfl ?_
          refine s1 17 44 3 rfl rfl rfl rfl rfl rfl trivial ?_
          refine e1 52 rfl ?_
          refine tn ?_
          refine unr ?_
          refine W_seq ?_
          refine r1 ?_
          refine s1 41 52 1 rfl rfl rfl rfl rfl rfl trivial ?_
          refine s1 42 60 2 rfl rfl rfl rfl rfl rfl trivial ?_
          refine s1 43 68 3 rfl rfl rfl rfl rfl rfl (by first | trivial | omega) ?_
          refine e1 76 rfl ?_
          refine keep [1, 2, 3, 4, 5, 12, 14, 16, 17, 43] rfl ?_
          refine q1 rfl (fun hc5 => ?_) (fun hc5 => ?_)
          · skip
            try simp only [cs, ne_eq] at hc5
            refine W_skip ?_
            refine tn ?_
            refine W_seq ?_
            refine W_block ?_
            refine r1 ?_
            refine s1 18 76 1 rfl rfl rfl rfl rfl rfl trivial ?_
            refine e1 84 rfl ?_
            refine keep [1, 2, 3, 4, 5, 12, 14, 16, 17, 18] rfl ?_
            refine W_block ?_
            refine cghostly 2 2 38 2 (callF (cUp 0)) rfl rfl rfl ?_
            refine loop (α := Nat) 4 (fun i => [(1, insV winL), (2, insV woutL), (3, SV.i 3), (4, SV.i 6), (5, SV.b false), (12, .ptr 0 0 0), (14, SV.i 1), (16, .ptr 1 0 0), (17, SV.i 2), (18, SV.i (i))]) (fun i => [some (.cells 28 3 [.d .nils, .d .nils, .d .nils]), some (.cells 28 3 [.d (.vec 1 2 (intsF [0, 0])), .d (.vec 1 3 (codesR 3)), .sl 2 0 3]), some (.cells 39 1 [.d (.vec 2 (3 * 6) (callF (cUp 6))), .d (.vec 2 (3 * 6) (callF (cUp 6))), .sl 3 0 (3 * (i))]), some (.rows 38 2 (3 * (i)) (callF (cUp (i))))]) (fun i => (i) ≤ 6) (fun i => 6 - (i)) (((0) : Nat)) [0, 1, 2, 84] (fun _ => rfl) (show (0) ≤ 6 from (by omega)) rfl ⟨rfl, rfl, rfl, rfl, rfl, rfl, rfl, rfl, rfl, rfl, trivial⟩ ⟨rfl, rfl, rfl, rfl, trivial⟩ (fun i hx => ?_)
            show W _ _ _ ⟨tOf [(1, insV winL), (2, insV woutL), (3, SV.i 3), (4, SV.i 6), (5, SV.b false), (12, .ptr 0 0 0), (14, SV.i 1), (16, .ptr 1 0 0), (17, SV.i 2), (18, SV.i i)], hOf [some (.cells 28 3 [.d .nils, .d .nils, .d .nils]), some (.cells 28 3 [.d (.vec 1 2 (intsF [0, 0])), .d (.vec 1 3 (codesR 3)), .sl 2 0 3]), some (.cells 39 1 [.d (.vec 2 (3 * 6) (callF (cUp 6))), .d (.vec 2 (3 * 6) (callF (cUp 6))), .sl 3 0 (3 * i)]), some (.rows 38 2 (3 * i) (callF (cUp i)))], 4⟩
            have hx : i ≤ 6 := hx
            refine W_seq ?_
            refine r1 ?_
            refine s1 46 4 1 rfl rfl rfl rfl rfl rfl trivial ?_
            refine s1 47 12 2 rfl rfl rfl rfl rfl rfl trivial ?_
            refine s1 48 20 3 rfl rfl rfl rfl rfl rfl (by first | trivial | omega) ?_
            refine e1 28 rfl ?_
            refine keep [1, 2, 3, 4, 5, 12, 14, 16, 17, 18, 48] rfl ?_
            refine q1 rfl (fun hc8 => ?_) (fun hc8 => ?_)
            · skip
              try simp only [cs, ne_eq] at hc8
              refine W_skip ?_
              refine tn ?_
              refine W_seq ?_
              refine W_block ?_
              refine r1 ?_
              refine s1 51 28 1 rfl rfl rfl rfl rfl rfl trivial ?_
              refine s1 19 36 2 rfl rfl rfl rfl rfl rfl trivial ?_
              refine s0 44 3 rfl rfl rfl rfl rfl (by first | trivial | omega) ?_
              refine e1 52 rfl ?_
              refine keep [1, 2, 3, 4, 5, 12, 14, 16, 17, 18, 19] rfl ?_
              refine r1 ?_
              refine s1 52 52 1 rfl rfl rfl rfl rfl rfl trivial ?_
              refine s1 20 60 2 rfl rfl rfl rfl rfl rfl trivial ?_
              refine s0 68 3 rfl rfl rfl rfl rfl (by first | trivial | omega) ?_
              refine e1 76 rfl ?_
              refine keep [1, 2, 3, 4, 5, 12, 14, 16, 17, 18, 19, 20] rfl ?_
              refine W_seq ?_
              refine r1 ?_
              refine s1 53 76 1 rfl rfl rfl rfl rfl rfl trivial ?_
              refine e1 84 rfl ?_
              refine keep [1, 2, 3, 4, 5, 12, 14, 16, 17, 18, 19, 20, 53] rfl ?_
              refine q1 rfl (fun hc12 => ?_) (fun hc12 => ?_)
              · skip
                exact absurd hc12 (by decide)
              · skip
                try simp only [cs, ne_eq] at hc12
                refine W_skip ?_
                refine tn ?_
                refine rd0 rfl ?_
                refine d1 60 84 1 rfl rfl rfl rfl rfl rfl trivial ?_
                refine d1 61 92 2 rfl rfl rfl rfl rfl rfl (by first | trivial | omega) ?_
                refine d1 62 100 3 rfl rfl rfl rfl rfl rfl trivial ?_
                refine d1 63 108 4 rfl rfl rfl rfl rfl rfl trivial ?_
                refine d1 64 116 5 rfl rfl rfl rfl rfl rfl (by first | trivial | omega) ?_
                refine d1 65 124 6 rfl rfl rfl rfl rfl rfl trivial ?_
                refine d1 66 132 7 rfl rfl rfl rfl rfl rfl (by first | trivial | omega) ?_
                refine d1 67 140 8 rfl rfl rfl rfl rfl rfl (by first | trivial | omega) ?_
                refine d1 68 148 9 rfl rfl rfl rfl rfl rfl (by first | trivial | omega) ?_
                refine d1 69 156 10 rfl rfl rfl rfl rfl rfl trivial ?_
                refine d1 70 164 11 rfl rfl rfl rfl rfl rfl (by first | trivial | omega) ?_
                refine d1 71 172 12 rfl rfl rfl rfl rfl rfl trivial ?_
                refine d1 72 180 13 rfl rfl rfl rfl rfl rfl ⟨Nat.le_refl _, trivial, (by show (3 * i + 3) * 32 ≤ 140737488355328; omega), (by simp only [maxLen]; omega)⟩ ?_
                refine d1 73 188 14 rfl rfl rfl rfl rfl rfl (by first | trivial | omega) ?_
                refine d0 196 15 rfl rfl rfl rfl rfl (by first | trivial | omega) ?_
                refine de1 204 rfl (by kernel_rfl) ?_
                refine bn ?_
                refine tn ?_
                refine rowsw 180 (3 * (i + 1)) (callF (cUp (i + 1))) rfl rfl (fun k c hk hc M v h => call_cat i k c hk hc M v h) ?_
                refine r0 ?_
                refine s1 49 204 1 rfl rfl rfl rfl rfl rfl trivial ?_
                refine sA 50 212 2 rfl rfl rfl rfl rfl rfl rfl rfl rfl (by unfold inRange; omega) ?_
                refine s1 18 220 3 rfl rfl rfl rfl rfl rfl trivial ?_
                refine e1 228 rfl ?_
                refine tn ?_
                exact again ((i + 1 : Nat)) [0, 1, 2, 180] (show (i + 1) ≤ 6 from (by omega)) (show 6 - (i + 1) < 6 - i from (by omega)) rfl ⟨rfl, rfl, rfl, rfl, rfl, rfl, rfl, rfl, rfl, rfl, trivial⟩ ⟨rfl, rfl, rfl, rfl, trivial⟩
            · skip
              try simp only [cs, ne_eq] at hc8
              obtain rfl : i = 6 := by omega
              refine W_exit ?_
              refine tx ?_
              refine tx ?_
              refine bx ?_
              refine bn ?_
              refine tn ?_
              refine cfreeze 2 2 3 (3 * 6) rfl rfl rfl (Nat.le_refl _) rfl ?_
              refine chval 2 (.cells 39 1 [.d (.vec 2 (3 * 6) (callF (cUp 6))), .d (.vec 2 (3 * 6) (callF (cUp 6))), .d (.vec 2 (3 * 6) (callF (cUp 6)))]) rfl rfl ?_
              refine r0 ?_
              refine s1 44 28 1 rfl rfl rfl rfl rfl rfl trivial ?_
              refine sA 45 36 2 rfl rfl rfl rfl rfl rfl rfl rfl rfl (by unfold inRange; omega) ?_
              refine val 45 (SV.i 3) rfl rfl ?_
              refine s1 17 44 3 rfl rfl rfl rfl rfl rfl trivial ?_
              refine e1 52 rfl ?_
              refine tn ?_
              refine unr ?_
              refine W_seq ?_
              refine r1 ?_
              refine s1 41 52 1 rfl rfl rfl rfl rfl rfl trivial ?_
              refine s1 42 60 2 rfl rfl rfl rfl rfl rfl trivial ?_
              refine s1 43 68 3 rfl rfl rfl rfl rfl rfl (by first | trivial | omega) ?_
              refine e1 76 rfl ?_
              refine keep [1, 2, 3, 4, 5, 12, 14, 16, 17, 43] rfl ?_
              refine q1 rfl (fun hc5 => ?_) (fun hc5 => ?_)
              · skip
                exact absurd hc5 (by decide)
              · skip
                try simp only [cs, ne_eq] at hc5
                refine W_exit ?_
                refine tx ?_
                refine tx ?_
                refine bx ?_
                refine tn ?_
                refine torows (k := 1) 2 3 (machR 3) rfl (by decide) (by decide) (fun i c hi hc => by obtain rfl : c = 0 := (by omega); rcases (show i = 0 ∨ i = 1 ∨ i = 2 by omega) with rfl | rfl | rfl <;> rfl) ?_
                refine cfreeze 1 2 2 3 rfl rfl rfl (Nat.le_refl _) rfl ?_
                refine chval 1 (machBlk (qM 3)) rfl rfl ?_
                refine rd1 rfl ?_
                refine d1 74 76 1 rfl rfl rfl rfl rfl rfl (by first | trivial | omega) ?_
                refine d1 75 84 2 rfl rfl rfl rfl rfl rfl trivial ?_
                refine d1 76 92 3 rfl rfl rfl rfl rfl rfl (by first | trivial | omega) ?_
                refine d1 77 100 4 rfl rfl rfl rfl rfl rfl trivial ?_
                refine ask 77 rfl (fun hg16_77 => ?_) (fun hg16_77 => ?_)
                · skip
                  try simp only [cs, ne_eq] at hg16_77
                  refine g1 3 true 77 78 5 rfl rfl rfl rfl rfl ?_
                  refine d1 78 108 5 rfl rfl rfl rfl rfl rfl trivial ?_
                  refine g1 3 true 77 79 6 rfl rfl rfl rfl rfl ?_
                  refine d1 79 116 6 rfl rfl rfl rfl rfl rfl (by first | trivial | omega) ?_
                  refine d1 80 124 7 rfl rfl rfl rfl rfl rfl trivial ?_
                  refine d1 81 132 8 rfl rfl rfl rfl rfl rfl trivial ?_
                  refine ask 81 rfl (fun hg16_81 => ?_) (fun hg16_81 => ?_)
                  · skip
                    try simp only [cs, ne_eq] at hg16_81
                    refine g1 7 true 81 82 9 rfl rfl rfl rfl rfl ?_
                    refine d1 82 140 9 rfl rfl rfl rfl rfl rfl trivial ?_
                    refine g1 7 true 81 83 10 rfl rfl rfl rfl rfl ?_
                    refine d1 83 148 10 rfl rfl rfl rfl rfl rfl (by first | trivial | omega) ?_
                    refine g1 7 true 81 84 11 rfl rfl rfl rfl rfl ?_
                    refine d1 84 156 11 rfl rfl rfl rfl rfl rfl (by first | trivial | omega) ?_
                    refine d1 85 164 12 rfl rfl rfl rfl rfl rfl trivial ?_
                    refine d1 86 172 13 rfl rfl rfl rfl rfl rfl trivial ?_
                    refine ask 86 rfl (fun hg16_86 => ?_) (fun hg16_86 => ?_)
                    · skip
                      try simp only [cs, ne_eq] at hg16_86
                      refine g1 12 true 86 87 14 rfl rfl rfl rfl rfl ?_
                      refine d1 87 180 14 rfl rfl rfl rfl rfl rfl trivial ?_
                      refine g1 12 true 86 88 15 rfl rfl rfl rfl rfl ?_
                      refine d1 88 188 15 rfl rfl rfl rfl rfl rfl (by first | trivial | omega) ?_
                      refine g1 12 true 86 89 16 rfl rfl rfl rfl rfl ?_
                      refine d1 89 196 16 rfl rfl rfl rfl rfl rfl (by first | trivial | omega) ?_
                      refine d1 90 204 17 rfl rfl rfl rfl rfl rfl trivial ?_
                      refine d1 91 212 18 rfl rfl rfl rfl rfl rfl trivial ?_
                      refine ask 91 rfl (fun hg16_91 => ?_) (fun hg16_91 => ?_)
                      · skip
                        try simp only [cs, ne_eq] at hg16_91
                        refine g1 17 true 91 92 19 rfl rfl rfl rfl rfl ?_
                        refine d1 92 220 19 rfl rfl rfl rfl rfl rfl (by first | trivial | omega) ?_
                        refine g1 17 true 91 93 20 rfl rfl rfl rfl rfl ?_
                        refine dc1 (mach_any (qM 3) (okq 3 (by decide))) [] [] 93 228 20 rfl rfl rfl rfl rfl rfl rfl rfl Tryd.func30 rfl rfl rfl rfl trivial rfl rfl ?_
                        refine d1 94 236 21 rfl rfl rfl rfl rfl rfl trivial ?_
                        refine val 94 (SV.b true) rfl (by show SV.b (machB (qM 3)) = _; rw [mach_q 3 (by decide) (by decide)]) ?_
                        refine d0 244 22 rfl rfl rfl rfl rfl (by first | trivial | omega) ?_
                        refine d1 13 252 23 rfl rfl rfl rfl rfl rfl trivial ?_
                        refine de1 260 rfl (by kernel_rfl) ?_
                        refine keep [12, 13] rfl ?_
                        refine W_ret ?_
                        exact outN (SV.tup [machS (qM 3), SV.b true]) (π := []) (hout := []) Tryd.results8 rfl (by trivial) rfl rfl rfl trivial ⟨rfl, rfl⟩
                      · skip
                        try simp only [cs, ne_eq] at hg16_91
                        exact absurd hg16_91 (by decide)
                    · skip
                      try simp only [cs, ne_eq] at hg16_86
                      exact absurd hg16_86 (by decide)
                  · skip
                    try simp only [cs, ne_eq] at hg16_81
                    exact absurd hg16_81 (by decide)
                · skip
                  try simp only [cs, ne_eq] at hg16_77
                  exact absurd hg16_77 (by decide)
          · skip
            exact absurd hc5 (by decide)
      · skip
        exact absurd hc5 (by decide)
  · skip
    exact absurd hc5 (by decide)

theorem guarded_4  : Spec Tryd.prog GV 8 [intsV [0], insV winL, insV woutL, SV.i 4, SV.i 6, SV.b false] [] (fun r ho => r = SV.tup [machS (qM 4), SV.b true] ∧ ho = []) := by
  refine start 95 0 Tryd.func8 rfl rfl rfl rfl ?_
  refine r1 ?_
  refine s1 12 0 1 rfl rfl rfl rfl rfl rfl trivial ?_
  refine s1 13 8 2 rfl rfl rfl rfl rfl rfl trivial ?_
  refine e1 16 rfl ?_
  refine keep [0, 1, 2, 3, 4, 5, 12] rfl ?_
  refine r1 ?_
  refine s1 21 16 1 rfl rfl rfl rfl rfl rfl trivial ?_
  refine s1 22 24 2 rfl rfl rfl rfl rfl rfl (by first | trivial | omega) ?_
  refine val 22 (SV.i 1) rfl rfl ?_
  refine s1 14 32 3 rfl rfl rfl rfl rfl rfl trivial ?_
  refine e1 40 rfl ?_
  refine keep [0, 1, 2, 3, 4, 5, 12, 14] rfl ?_
  refine r1 ?_
  refine s1 23 40 1 rfl rfl rfl rfl rfl rfl trivial ?_
  refine s1 24 48 2 rfl rfl rfl rfl rfl rfl trivial ?_
  refine s1 25 56 3 rfl rfl rfl rfl rfl rfl trivial ?_
  refine s1 26 64 4 rfl rfl rfl rfl rfl rfl trivial ?_
  refine s1 27 72 5 rfl rfl rfl rfl rfl rfl trivial ?_
  refine s1 28 80 6 rfl rfl rfl rfl rfl rfl trivial ?_
  refine s1 29 88 7 rfl rfl rfl rfl rfl rfl trivial ?_
  refine s1 15 96 8 rfl rfl rfl rfl rfl rfl trivial ?_
  refine e1 104 rfl ?_
  refine keep [0, 1, 2, 3, 4, 5, 12, 14, 15] rfl ?_
  refine chval 88 (.cells 64 5 addC) rfl rfl ?_
  refine torows (k := 5) 88 4 (insF addL) rfl (by decide) (by decide) add_cells ?_
  refine freeze 15 88 4 rfl rfl (Nat.le_refl _) ?_
  refine cval 15 (insV addL) rfl rfl ?_
  refine rd1 rfl ?_
  refine d1 30 104 1 rfl rfl rfl rfl rfl rfl trivial ?_
  refine d1 31 112 2 rfl rfl rfl rfl rfl rfl ⟨trivial, (by decide), (by decide)⟩ ?_
  refine d1 32 120 3 rfl rfl rfl rfl rfl rfl trivial ?_
  refine d1 33 128 4 rfl rfl rfl rfl rfl rfl ⟨Nat.le_refl _, trivial, (by decide), (by decide)⟩ ?_
  refine d1 34 136 5 rfl rfl rfl rfl rfl rfl trivial ?_
  refine d1 35 144 6 rfl rfl rfl rfl rfl rfl trivial ?_
  refine d1 36 152 7 rfl rfl rfl rfl rfl rfl trivial ?_
  refine d1 37 160 8 rfl rfl rfl rfl rfl rfl trivial ?_
  refine d1 38 168 9 rfl rfl rfl rfl rfl rfl trivial ?_
  refine d1 39 176 10 rfl rfl rfl rfl rfl rfl ⟨by decide, rfl, by decide, by decide⟩ ?_
  refine d1 40 184 11 rfl rfl rfl rfl rfl rfl trivial ?_
  refine d1 16 192 12 rfl rfl rfl rfl rfl rfl trivial ?_
  refine d0 200 13 rfl rfl rfl rfl rfl (by first | trivial | omega) ?_
  refine de1 208 rfl (by kernel_rfl) ?_
  refine keep [1, 2, 3, 4, 5, 12, 14, 16] rfl ?_
  refine rowsc (k := 1) (L := 2) 128 2 (intsF [0, 0]) rfl rfl (fun i c hi hc => by obtain rfl : c = 0 := (by omega); rcases (show i = 0 ∨ i = 1 by omega) with rfl | rfl <;> rfl) ?_
  refine cfreeze 192 0 128 2 rfl rfl rfl (Nat.le_refl _) rfl ?_
  refine chval 160 (.cells 32 1 [insV winL, insV woutL, insV addL]) rfl rfl ?_
  refine torows (k := 1) 160 3 (codesR 4) rfl (by decide) (by decide) (codes_cells 4) ?_
  refine cfreeze 192 1 160 3 rfl rfl rfl (Nat.le_refl _) rfl ?_
  refine chval 192 (.cells 28 3 [.d (.vec 1 2 (intsF [0, 0])), .d (.vec 1 3 (codesR 4)), .sl 176 0 4]) rfl rfl ?_
  refine tocells 176 [.d .nils, .d .nils, .d .nils, .d .nils] rfl rfl (by decide) ?_
  refine W_seq ?_
  refine r1 ?_
  refine s1 17 208 1 rfl rfl rfl rfl rfl rfl trivial ?_
  refine e1 216 rfl ?_
  refine keep [1, 2, 3, 4, 5, 12, 14, 16, 17] rfl ?_
  refine W_block ?_
  refine W_unroll 5 ?_
  refine unr ?_
  refine W_seq ?_
  refine r1 ?_
  refine s1 41 216 1 rfl rfl rfl rfl rfl rfl trivial ?_
  refine s1 42 224 2 rfl rfl rfl rfl rfl rfl trivial ?_
  refine s1 43 232 3 rfl rfl rfl rfl rfl rfl (by first | trivial | omega) ?_
  refine e1 240 rfl ?_
  refine keep [1, 2, 3, 4, 5, 12, 14, 16, 17, 43] rfl ?_
  refine q1 rfl (fun hc5 => ?_) (fun hc5 => ?_)
  · skip
    try simp only [cs, ne_eq] at hc5
    refine W_skip ?_
    refine tn ?_
    refine W_seq ?_
    refine W_block ?_
    refine r1 ?_
    refine s1 18 240 1 rfl rfl rfl rfl rfl rfl trivial ?_
    refine e1 248 rfl ?_
    refine keep [1, 2, 3, 4, 5, 12, 14, 16, 17, 18] rfl ?_
    refine W_block ?_
    refine cghostly 176 0 38 2 (callF (cUp 0)) rfl rfl rfl ?_
    refine loop (α := Nat) 4 (fun i => [(1, insV winL), (2, insV woutL), (3, SV.i 4), (4, SV.i 6), (5, SV.b false), (12, .ptr 0 0 0), (14, SV.i 1), (16, .ptr 1 0 0), (17, SV.i 0), (18, SV.i (i))]) (fun i => [some (.cells 28 3 [.d .nils, .d .nils, .d .nils]), some (.cells 28 3 [.d (.vec 1 2 (intsF [0, 0])), .d (.vec 1 3 (codesR 4)), .sl 2 0 4]), some (.cells 39 1 [.sl 3 0 (3 * (i)), .d .nils, .d .nils, .d .nils]), some (.rows 38 2 (3 * (i)) (callF (cUp (i))))]) (fun i => (i) ≤ 6) (fun i => 6 - (i)) (((0) : Nat)) [0, 192, 176, 248] (fun _ => rfl) (show (0) ≤ 6 from (by omega)) rfl ⟨rfl, rfl, rfl, rfl, rfl, rfl, rfl, rfl, rfl, rfl, trivial⟩ ⟨rfl, rfl, rfl, rfl, trivial⟩ (fun i hx => ?_)
    show W _ _ _ ⟨tOf [(1, insV winL), (2, insV woutL), (3, SV.i 4), (4, SV.i 6), (5, SV.b false), (12, .ptr 0 0 0), (14, SV.i 1), (16, .ptr 1 0 0), (17, SV.i 0), (18, SV.i i)], hOf [some (.cells 28 3 [.d .nils, .d .nils, .d .nils]), some (.cells 28 3 [.d (.vec 1 2 (intsF [0, 0])), .d (.vec 1 3 (codesR 4)), .sl 2 0 4]), some (.cells 39 1 [.sl 3 0 (3 * i), .d .nils, .d .nils, .d .nils]), some (.rows 38 2 (3 * i) (callF (cUp i)))], 4⟩
    have hx : i ≤ 6 := hx
    refine W_seq ?_
    refine r1 ?_
    refine s1 46 4 1 rfl rfl rfl rfl rfl rfl trivial ?_
    refine s1 47 12 2 rfl rfl rfl rfl rfl rfl trivial ?_
    refine s1 48 20 3 rfl rfl rfl rfl rfl rfl (by first | trivial | omega) ?_
    refine e1 28 rfl ?_
    refine keep [1, 2, 3, 4, 5, 12, 14, 16, 17, 18, 48] rfl ?_
    refine q1 rfl (fun hc8 => ?_) (fun hc8 => ?_)
    · skip
      try simp only [cs, ne_eq] at hc8
      refine W_skip ?_
      refine tn ?_
      refine W_seq ?_
      refine W_block ?_
      refine r1 ?_
      refine s1 51 28 1 rfl rfl rfl rfl rfl rfl trivial ?_
      refine s1 19 36 2 rfl rfl rfl rfl rfl rfl trivial ?_
      refine s0 44 3 rfl rfl rfl rfl rfl (by first | trivial | omega) ?_
      refine e1 52 rfl ?_
      refine keep [1, 2, 3, 4, 5, 12, 14, 16, 17, 18, 19] rfl ?_
      refine r1 ?_
      refine s1 52 52 1 rfl rfl rfl rfl rfl rfl trivial ?_
      refine s1 20 60 2 rfl rfl rfl rfl rfl rfl trivial ?_
      refine s0 68 3 rfl rfl rfl rfl rfl (by first | trivial | omega) ?_
      refine e1 76 rfl ?_
      refine keep [1, 2, 3, 4, 5, 12, 14, 16, 17, 18, 19, 20] rfl ?_
      refine W_seq ?_
      refine r1 ?_
      refine s1 53 76 1 rfl rfl rfl rfl rfl rfl trivial ?_
      refine e1 84 rfl ?_
      refine keep [1, 2, 3, 4, 5, 12, 14, 16, 17, 18, 19, 20, 53] rfl ?_
      refine q1 rfl (fun hc12 => ?_) (fun hc12 => ?_)
      · skip
        exact absurd hc12 (by decide)
      · skip
        try simp only [cs, ne_eq] at hc12
        refine W_skip ?_
        refine tn ?_
        refine rd0 rfl ?_
        refine d1 60 84 1 rfl rfl rfl rfl rfl rfl trivial ?_
        refine d1 61 92 2 rfl rfl rfl rfl rfl rfl (by first | trivial | omega) ?_
        refine d1 62 100 3 rfl rfl rfl rfl rfl rfl trivial ?_
        refine d1 63 108 4 rfl rfl rfl rfl rfl rfl trivial ?_
        refine d1 64 116 5 rfl rfl rfl rfl rfl rfl (by first | trivial | omega) ?_
        refine d1 65 124 6 rfl rfl rfl rfl rfl rfl trivial ?_
        refine d1 66 132 7 rfl rfl rfl rfl rfl rfl (by first | trivial | omega) ?_
        refine d1 67 140 8 rfl rfl rfl rfl rfl rfl (by first | trivial | omega) ?_
        refine d1 68 148 9 rfl rfl rfl rfl rfl rfl (by first | trivial | omega) ?_
        refine d1 69 156 10 rfl rfl rfl rfl rfl rfl trivial ?_
        refine d1 70 164 11 rfl rfl rfl rfl rfl rfl (by first | trivial | omega) ?_
        refine d1 71 172 12 rfl rfl rfl rfl rfl rfl trivial ?_
        refine d1 72 180 13 rfl rfl rfl rfl rfl rfl ⟨Nat.le_refl _, trivial, (by show (3 * i + 3) * 32 ≤ 140737488355328; omega), (by simp only [maxLen]; omega)⟩ ?_
        refine d1 73 188 14 rfl rfl rfl rfl rfl rfl (by first | trivial | omega) ?_
        refine d0 196 15 rfl rfl rfl rfl rfl (by first | trivial | omega) ?_
        refine de1 204 rfl (by kernel_rfl) ?_
        refine bn ?_
        refine tn ?_
        refine rowsw 180 (3 * (i + 1)) (callF (cUp (i + 1))) rfl rfl (fun k c hk hc M v h => call_cat i k c hk hc M v h) ?_
        refine r0 ?_
        refine s1 49 204 1 rfl rfl rfl rfl rfl rfl trivial ?_
        refine sA 50 212 2 rfl rfl rfl rfl rfl rfl rfl rfl rfl (by unfold inRange; omega) ?_
        refine s1 18 220 3 rfl rfl rfl rfl rfl rfl trivial ?_
        refine e1 228 rfl ?_
        refine tn ?_
        exact again ((i + 1 : Nat)) [0, 1, 2, 180] (show (i + 1) ≤ 6 from (by omega)) (show 6 - (i + 1) < 6 - i from (by omega)) rfl ⟨rfl, rfl, rfl, rfl, rfl, rfl, rfl, rfl, rfl, rfl, trivial⟩ ⟨rfl, rfl, rfl, rfl, trivial⟩
    · skip
      try simp only [cs, ne_eq] at hc8
      obtain rfl : i = 6 := by omega
      refine W_exit ?_
      refine tx ?_
      refine tx ?_
      refine bx ?_
      refine bn ?_
      refine tn ?_
      refine cfreeze 2 0 3 (3 * 6) rfl rfl rfl (Nat.le_refl _) rfl ?_
      refine chval 2 (.cells 39 1 [.d (.vec 2 (3 * 6) (callF (cUp 6))), .d .nils, .d .nils, .d .nils]) rfl rfl ?_
      refine r0 ?_
      refine s1 44 28 1 rfl rfl rfl rfl rfl rfl trivial ?_
      refine sA 45 36 2 rfl rfl rfl rfl rfl rfl rfl rfl rfl (by unfold inRange; omega) ?_
      refine val 45 (SV.i 1) rfl rfl ?_
      refine s1 17 44 3 rfl rfl rfl rfl rfl rfl trivial ?_
      refine e1 52 rfl ?_
      refine tn ?_
      refine unr ?_
      refine W_seq ?_
      refine r1 ?_
      refine s1 41 52 1 rfl rfl rfl rfl rfl rfl trivial ?_
      refine s1 42 60 2 rfl rfl rfl rfl rfl rfl trivial ?_
      refine s1 43 68 3 rfl rfl rfl rfl rfl rfl (by first | trivial | omega) ?_
      refine e1 76 rfl ?_
      refine keep [1, 2, 3, 4, 5, 12, 14, 16, 17, 43] rfl ?_
      refine q1 rfl (fun hc5 => ?_) (fun hc5 => ?_)
      · skip
        try simp only [cs, ne_eq] at hc5
        refine W_skip ?_
        refine tn ?_
        refine W_seq ?_
        refine W_block ?_
        refine r1 ?_
        refine s1 18 76 1 rfl rfl rfl rfl rfl rfl trivial ?_
        refine e1 84 rfl ?_
        refine keep [1, 2, 3, 4, 5, 12, 14, 16, 17, 18] rfl ?_
        refine W_block ?_
        refine cghostly 2 1 38 2 (callF (cUp 0)) rfl rfl rfl ?_
        refine loop (α := Nat) 4 (fun i => [(1, insV winL), (2, insV woutL), (3, SV.i 4), (4, SV.i 6), (5, SV.b false), (12, .ptr 0 0 0), (14, SV.i 1), (16, .ptr 1 0 0), (17, SV.i 1), (18, SV.i (i))]) (fun i => [some (.cells 28 3 [.d .nils, .d .nils, .d .nils]), some (.cells 28 3 [.d (.vec 1 2 (intsF [0, 0])), .d (.vec 1 3 (codesR 4)), .sl 2 0 4]), some (.cells 39 1 [.d (.vec 2 (3 * 6) (callF (cUp 6))), .sl 3 0 (3 * (i)), .d .nils, .d .nils]), some (.rows 38 2 (3 * (i)) (callF (cUp (i))))]) (fun i => (i) ≤ 6) (fun i => 6 - (i)) (((0) : Nat)) [0, 1, 2, 84] (fun _ => rfl) (show (0) ≤ 6 from (by omega)) rfl ⟨rfl, rfl, rfl, rfl, rfl, rfl, rfl, rfl, rfl, rfl, trivial⟩ ⟨rfl, rfl, rfl, rfl, trivial⟩ (fun i hx => ?_)
        show W _ _ _ ⟨tOf [(1, insV winL), (2, insV woutL), (3, SV.i 4), (4, SV.i 6), (5, SV.b false), (12, .ptr 0 0 0), (14, SV.i 1), (16, .ptr 1 0 0), (17, SV.i 1), (18, SV.i i)], hOf [some (.cells 28 3 [.d .nils, .d .nils, .d .nils]), some (.cells 28 3 [.d (.vec 1 2 (intsF [0, 0])), .d (.vec 1 3 (codesR 4)), .sl 2 0 4]), some (.cells 39 1 [.d (.vec 2 (3 * 6) (callF (cUp 6))), .sl 3 0 (3 * i), .d .nils, .d .nils]), some (.rows 38 2 (3 * i) (callF (cUp i)))], 4⟩
        have hx : i ≤ 6 := hx
        refine W_seq ?_
        refine r1 ?_
        refine s1 46 4 1 rfl rfl rfl rfl rfl rfl trivial ?_
        refine s1 47 12 2 rfl rfl rfl rfl rfl rfl trivial ?_
        refine s1 48 20 3 rfl rfl rfl rfl rfl rfl (by first | trivial | omega) ?_
        refine e1 28 rfl ?_
        refine keep [1, 2, 3, 4, 5, 12, 14, 16, 17, 18, 48] rfl ?_
        refine q1 rfl (fun hc8 => ?_) (fun hc8 => ?_)
        · skip
          try simp only [cs, ne_eq] at hc8
          refine W_skip ?_
          refine tn ?_
          refine W_seq ?_
          refine W_block ?_
          refine r1 ?_
          refine s1 51 28 1 rfl rfl rfl rfl rfl rfl trivial ?_
          refine s1 19 36 2 rfl rfl rfl rfl rfl rfl trivial ?_
          refine s0 44 3 rfl rfl rfl rfl rfl (by first | trivial | omega) ?_
          refine e1 52 rfl ?_
          refine keep [1, 2, 3, 4, 5, 12, 14, 16, 17, 18, 19] rfl ?_
          refine r1 ?_
          refine s1 52 52 1 rfl rfl rfl rfl rfl rfl trivial ?_
          refine s1 20 60 2 rfl rfl rfl rfl rfl rfl trivial ?_
          refine s0 68 3 rfl rfl rfl rfl rfl (by first | trivial | omega) ?_
          refine e1 76 rfl ?_
          refine keep [1, 2, 3, 4, 5, 12, 14, 16, 17, 18, 19, 20] rfl ?_
          refine W_seq ?_
          refine r1 ?_
          refine s1 53 76 1 rfl rfl rfl rfl rfl rfl trivial ?_
          refine e1 84 rfl ?_
          refine keep [1, 2, 3, 4, 5, 12, 14, 16, 17, 18, 19, 20, 53] rfl ?_
          refine q1 rfl (fun hc12 => ?_) (fun hc12 => ?_)
          · skip
            exact absurd hc12 (by decide)
          · skip
            try simp only [cs, ne_eq] at hc12
            refine W_skip ?_
            refine tn ?_
            refine rd0 rfl ?_
            refine d1 60 84 1 rfl rfl rfl rfl rfl rfl trivial ?_
            refine d1 61 92 2 rfl rfl rfl rfl rfl rfl (by first | trivial | omega) ?_
            refine d1 62 100 3 rfl rfl rfl rfl rfl rfl trivial ?_
            refine d1 63 108 4 rfl rfl rfl rfl rfl rfl trivial ?_
            refine d1 64 116 5 rfl rfl rfl rfl rfl rfl (by first | trivial | omega) ?_
            refine d1 65 124 6 rfl rfl rfl rfl rfl rfl trivial ?_
            refine d1 66 132 7 rfl rfl rfl rfl rfl rfl (by first | trivial | omega) ?_
            refine d1 67 140 8 rfl rfl rfl rfl rfl rfl (by first | trivial | omega) ?_
            refine d1 68 148 9 rfl rfl rfl rfl rfl rfl (by first | trivial | omega) ?_
            refine d1 69 156 10 rfl rfl rfl rfl rfl rfl trivial ?_
            refine d1 70 164 11 rfl rfl rfl rfl rfl rfl (by first | trivial | omega) ?_
            refine d1 71 172 12 rfl rfl rfl rfl rfl rfl trivial ?_
            refine d1 72 180 13 rfl rfl rfl rfl rfl rfl ⟨Nat.le_refl _, trivial, (by show (3 * i + 3) * 32 ≤ 140737488355328; omega), (by simp only [maxLen]; omega)⟩ ?_
            refine d1 73 188 14 rfl rfl rfl rfl rfl rfl (by first | trivial | omega) ?_
            refine d0 196 15 rfl rfl rfl rfl rfl (by first | trivial | omega) ?_
            refine de1 204 rfl (by kernel_rfl) ?_
            refine bn ?_
            refine tn ?_
            refine rowsw 180 (3 * (i + 1)) (callF (cUp (i + 1))) rfl rfl (fun k c hk hc M v h => call_cat i k c hk hc M v h) ?_
            refine r0 ?_
            refine s1 49 204 1 rfl rfl rfl rfl rfl rfl trivial ?_
            refine sA 50 212 2 rfl rfl rfl rfl rfl rfl rfl rfl rfl (by unfold inRange; omega) ?_
            refine s1 18 220 3 rfl rfl rfl rfl rfl rfl trivial ?_
            refine e1 228 rfl ?_
            refine tn ?_
            exact again ((i + 1 : Nat)) [0, 1, 2, 180] (show (i + 1) ≤ 6 from (by omega)) (show 6 - (i + 1) < 6 - i from (by omega)) rfl ⟨rfl, rfl, rfl, rfl, rfl, rfl, rfl, rfl, rfl, rfl, trivial⟩ ⟨rfl, rfl, rfl, rfl, trivial⟩
        · skip
          try simp only [cs, ne_eq] at hc8
          obtain rfl : i = 6 := by omega
          refine W_exit ?_
          refine tx ?_
          refine tx ?_
          refine bx ?_
          refine bn ?_
          refine tn ?_
          refine cfreeze 2 1 3 (3 * 6) rfl rfl rfl (Nat.le_refl _) rfl ?_
          refine chval 2 (.cells 39 1 [.d (.vec 2 (3 * 6) (callF (cUp 6))), .d (.vec 2 (3 * 6) (callF (cUp 6))), .d .nils, .d .nils]) rfl rfl ?_
          refine r0 ?_
          refine s1 44 28 1 rfl rfl rfl rfl rfl rfl trivial ?_
          refine sA 45 36 2 rfl rfl rfl rfl rfl rfl rfl rfl rfl (by unfold inRange; omega) ?_
          refine val 45 (SV.i 2) rfl rfl ?_
          refine s1 17 44 3 rfl rfl rfl rfl rfl rfl trivial ?_
          refine e1 52 rfl ?_
          refine tn ?_
          refine unr ?_
          refine W_seq ?_
          refine r1 ?_
          refine s1 41 52 1 rfl rfl rfl rfl rfl rfl trivial ?_
          refine s1 42 60 2 rfl rfl rfl rfl rfl rfl trivial ?_
          refine s1 43 68 3 rfl rfl rfl rfl rfl rfl (by first | trivial | omega) ?_
          refine e1 76 rfl ?_
          refine keep [1, 2, 3, 4, 5, 12, 14, 16, 17, 43] rfl ?_
          refine q1 rfl (fun hc5 => ?_) (fun hc5 => ?_)
          · skip
            try simp only [cs, ne_eq] at hc5
            refine W_skip ?_
            refine tn ?_
            refine W_seq ?_
            refine W_block ?_
            refine r1 ?_
            refine s1 18 76 1 rfl rfl rfl rfl rfl rfl trivial ?_
            refine e1 84 rfl ?_
            refine keep [1, 2, 3, 4, 5, 12, 14, 16, 17, 18] rfl ?_
            refine W_block ?_
            refine cghostly 2 2 38 2 (callF (cUp 0)) rfl rfl rfl ?_
            refine loop (α := Nat) 4 (fun i => [(1, insV winL), (2, insV woutL), (3, SV.i 4), (4, SV.i 6), (5, SV.b false), (12, .ptr 0 0 0), (14, SV.i 1), (16, .ptr 1 0 0), (17, SV.i 2), (18, SV.i (i))]) (fun i => [some (.cells 28 3 [.d .nils, .d .nils, .d .nils]), some (.cells 28 3 [.d (.vec 1 2 (intsF [0, 0])), .d (.vec 1 3 (codesR 4)), .sl 2 0 4]), some (.cells 39 1 [.d (.vec 2 (3 * 6) (callF (cUp 6))), .d (.vec 2 (3 * 6) (callF (cUp 6))), .sl 3 0 (3 * (i)), .d .nils]), some (.rows 38 2 (3 * (i)) (callF (cUp (i))))]) (fun i => (i) ≤ 6) (fun i => 6 - (i)) (((0) : Nat)) [0, 1, 2, 84] (fun _ => rfl) (show (0) ≤ 6 from (by omega)) rfl ⟨rfl, rfl, rfl, rfl, rfl, rfl, rfl, rfl, rfl, rfl, trivial⟩ ⟨rfl, rfl, rfl, rfl, trivial⟩ (fun i hx => ?_)
            show W _ _ _ ⟨tOf [(1, insV winL), (2, insV woutL), (3, SV.i 4), (4, SV.i 6), (5, SV.b false), (12, .ptr 0 0 0), (14, SV.i 1), (16, .ptr 1 0 0), (17, SV.i 2), (18, SV.i i)], hOf [some (.cells 28 3 [.d .nils, .d .nils, .d .nils]), some (.cells 28 3 [.d (.vec 1 2 (intsF [0, 0])), .d (.vec 1 3 (codesR 4)), .sl 2 0 4]), some (.cells 39 1 [.d (.vec 2 (3 * 6) (callF (cUp 6))), .d (.vec 2 (3 * 6) (callF (cUp 6))), .sl 3 0 (3 * i), .d .nils]), some (.rows 38 2 (3 * i) (callF (cUp i)))], 4⟩
            have hx : i ≤ 6 := hx
            refine W_seq ?_
            refine r1 ?_
            refine s1 46 4 1 rfl rfl rfl rfl rfl rfl trivial ?_
            refine s1 47 12 2 rfl rfl rfl rfl rfl rfl trivial ?_
            refine s1 48 20 3 rfl rfl rfl rfl rfl rfl (by first | trivial | omega) ?_
            refine e1 28 rfl ?_
            refine keep [1, 2, 3, 4, 5, 12, 14, 16, 17, 18, 48] rfl ?_
            refine q1 rfl (fun hc8 => ?_) (fun hc8 => ?_)
            · skip
              try simp only [cs, ne_eq] at hc8
              refine W_skip ?_
              refine tn ?_
              refine W_seq ?_
              refine W_block ?_
              refine r1 ?_
              refine s1 51 28 1 rfl rfl rfl rfl rfl rfl trivial ?_
              refine s1 19 36 2 rfl rfl rfl rfl rfl rfl trivial ?_
              refine s0 44 3 rfl rfl rfl rfl rfl (by first | trivial | omega) ?_
              refine e1 52 rfl ?_
              refine keep [1, 2, 3, 4, 5, 12, 14, 16, 17, 18, 19] rfl ?_
              refine r1 ?_
              refine s1 52 52 1 rfl rfl rfl rfl rfl rfl trivial ?_
              refine s1 20 60 2 rfl rfl rfl rfl rfl rfl trivial ?_
              refine s0 68 3 rfl rfl rfl rfl rfl (by first | trivial | omega) ?_
              refine e1 76 rfl ?_
              refine keep [1, 2, 3, 4, 5, 12, 14, 16, 17, 18, 19, 20] rfl ?_
              refine W_seq ?_
              refine r1 ?_
              refine s1 53 76 1 rfl rfl rfl rfl rfl rfl trivial ?_
              refine e1 84 rfl ?_
              refine keep [1, 2, 3, 4, 5, 12, 14, 16, 17, 18, 19, 20, 53] rfl ?_
              refine q1 rfl (fun hc12 => ?_) (fun hc12 => ?_)
              · skip
                exact absurd hc12 (by decide)
              · skip
                try simp only [cs, ne_eq] at hc12
                refine W_skip ?_
                refine tn ?_
                refine rd0 rfl ?_
                refine d1 60 84 1 rfl rfl rfl rfl rfl rfl trivial ?_
                refine d1 61 92 2 rfl rfl rfl rfl rfl rfl (by first | trivial | omega) ?_
                refine d1 62 100 3 rfl rfl rfl rfl rfl rfl trivial ?_
                refine d1 63 108 4 rfl rfl rfl rfl rfl rfl trivial ?_
                refine d1 64 116 5 rfl rfl rfl rfl rfl rfl (by first | trivial | omega) ?_
                refine d1 65 124 6 rfl rfl rfl rfl rfl rfl trivial ?_
                refine d1 66 132 7 rfl rfl rfl rfl rfl rfl (by first | trivial | omega) ?_
                refine d1 67 140 8 rfl rfl rfl rfl rfl rfl (by first | trivial | omega) ?_
                refine d1 68 148 9 rfl rfl rfl rfl rfl rfl (by first | trivial | omega) ?_
                refine d1 69 156 10 rfl rfl rfl rfl rfl rfl trivial ?_
                refine d1 70 164 11 rfl rfl rfl rfl rfl rfl (by first | trivial | omega) ?_
                refine d1 71 172 12 rfl rfl rfl rfl rfl rfl trivial ?_
                refine d1 72 180 13 rfl rfl rfl rfl rfl rfl ⟨Nat.le_refl _, trivial, (by show (3 * i + 3) * 32 ≤ 140737488355328; omega), (by simp only [maxLen]; omega)⟩ ?_
                refine d1 73 188 14 rfl rfl rfl rfl rfl rfl (by first | trivial | omega) ?_
                refine d0 196 15 rfl rfl rfl rfl rfl (by first | trivial | omega) ?_
                refine de1 204 rfl (by kernel_rfl) ?_
                refine bn ?_
                refine tn ?_
                refine rowsw 180 (3 * (i + 1)) (callF (cUp (i + 1))) rfl rfl (fun k c hk hc M v h => call_cat i k c hk hc M v h) ?_
                refine r0 ?_
                refine s1 49 204 1 rfl rfl rfl rfl rfl rfl trivial ?_
                refine sA 50 212 2 rfl rfl rfl rfl rfl rfl rfl rfl rfl (by unfold inRange; omega) ?_
                refine s1 18 220 3 rfl rfl rfl rfl rfl rfl trivial ?_
                refine e1 228 rfl ?_
                refine tn ?_
                exact again ((i + 1 : Nat)) [0, 1, 2, 180] (show (i + 1) ≤ 6 from (by omega)) (show 6 - (i + 1) < 6 - i from (by omega)) rfl ⟨rfl, rfl, rfl, rfl, rfl, rfl, rfl, rfl, rfl, rfl, trivial⟩ ⟨rfl, rfl, rfl, rfl, trivial⟩
            · skip
              try simp only [cs, ne_eq] at hc8
              obtain rfl : i = 6 := by omega
              refine W_exit ?_
              refine tx ?_
              refine tx ?_
              refine bx ?_
              refine bn ?_
              refine tn ?_
              refine cfreeze 2 2 3 (3 * 6) rfl rfl rfl (Nat.le_refl _) rfl ?_
              refine chval 2 (.cells 39 1 [.d (.vec 2 (3 * 6) (callF (cUp 6))), .d (.vec 2 (3 * 6) (callF (cUp 6))), .d (.vec 2 (3 * 6) (callF (cUp 6))), .d .nils]) rfl rfl ?_
              refine r0 ?_
              refine s1 44 28 1 rfl rfl rfl rfl rfl rfl trivial ?_
              refine sA 45 36 2 rfl rfl rfl rfl rfl rfl rfl rfl rfl (by unfold inRange; omega) ?_
              refine val 45 (SV.i 3) rfl rfl ?_
              refine s1 17 44 3 rfl rfl rfl rfl rfl rfl trivial ?_
              refine e1 52 rfl ?_
              refine tn ?_
              refine unr ?_
              refine W_seq ?_
              refine r1 ?_
              refine s1 41 52 1 rfl rfl rfl rfl rfl rfl trivial ?_
              refine s1 42 60 2 rfl rfl rfl rfl rfl rfl trivial ?_
              refine s1 43 68 3 rfl rfl rfl rfl rfl rfl (by first | trivial | omega) ?_
              refine e1 76 rfl ?_
              refine keep [1, 2, 3, 4, 5, 12, 14, 16, 17, 43] rfl ?_
              refine q1 rfl (fun hc5 => ?_) (fun hc5 => ?_)
              · skip
                try simp only [cs, ne_eq] at hc5
                refine W_skip ?_
                refine tn ?_
                refine W_seq ?_
                refine W_block ?_
                refine r1 ?_
                refine s1 18 76 1 rfl rfl rfl rfl rfl rfl trivial ?_
                refine e1 84 rfl ?_
                refine keep [1, 2, 3, 4, 5, 12, 14, 16, 17, 18] rfl ?_
                refine W_block ?_
                refine cghostly 2 3 38 2 (callF (cUp 0)) rfl rfl rfl ?_
                refine loop (α := Nat) 4 (fun i => [(1, insV winL), (2, insV woutL), (3, SV.i 4), (4, SV.i 6), (5, SV.b false), (12, .ptr 0 0 0), (14, SV.i 1), (16, .ptr 1 0 0), (17, SV.i 3), (18, SV.i (i))]) (fun i => [some (.cells 28 3 [.d .nils, .d .nils, .d .nils]), some (.cells 28 3 [.d (.vec 1 2 (intsF [0, 0])), .d (.vec 1 3 (codesR 4)), .sl 2 0 4]), some (.cells 39 1 [.d (.vec 2 (3 * 6) (callF (cUp 6))), .d (.vec 2 (3 * 6) (callF (cUp 6))), .d (.vec 2 (3 * 6) (callF (cUp 6))), .sl 3 0 (3 * (i))]), some (.rows 38 2 (3 * (i)) (callF (cUp (i))))]) (fun i => (i) ≤ 6) (fun i => 6 - (i)) (((0) : Nat)) [0, 1, 2, 84] (fun _ => rfl) (show (0) ≤ 6 from (by omega)) rfl ⟨rfl, rfl, rfl, rfl, rfl, rfl, rfl, rfl, rfl, rfl, trivial⟩ ⟨rfl, rfl, rfl, rfl, trivial⟩ (fun i hx => ?_)
                show W _ _ _ ⟨tOf [(1, insV winL), (2, insV woutL), (3, SV.i 4), (4, SV.i 6), (5, SV.b false), (12, .ptr 0 0 0), (14, SV.i 1), (16, .ptr 1 0 0), (17, SV.i 3), (18, SV.i i)], hOf [some (.cells 28 3 [.d .nils, .d .nils, .d .nils]), some (.cells 28 3 [.d (.vec 1 2 (intsF [0, 0])), .d (.vec 1 3 (codesR 4)), .sl 2 0 4]), some (.cells 39 1 [.d (.vec 2 (3 * 6) (callF (cUp 6))), .d (.vec 2 (3 * 6) (callF (cUp 6))), .d (.vec 2 (3 * 6) (callF (cUp 6))), .sl 3 0 (3 * i)]), some (.rows 38 2 (3 * i) (callF (cUp i)))], 4⟩
                have hx : i ≤ 6 := hx
                refine W_seq ?_
                refine r1 ?_
                refine s1 46 4 1 rfl rfl rfl rfl rfl rfl trivial ?_
                refine s1 47 12 2 rfl rfl rfl rfl rfl rfl trivial ?_
                refine s1 48 20 3 rfl rfl rfl rfl rfl rfl (by first | trivial | omega) ?_
                refine e1 28 rfl ?_
                refine keep [1, 2, 3, 4, 5, 12, 14, 16, 17, 18, 48] rfl ?_
                refine q1 rfl (fun hc8 => ?_) (fun hc8 => ?_)
                · skip
                  try simp only [cs, ne_eq] at hc8
                  refine W_skip ?_
                  refine tn ?_
                  refine W_seq ?_
                  refine W_block ?_
                  refine r1 ?_
                  refine s1 51 28 1 rfl rfl rfl rfl rfl rfl trivial ?_
                  refine s1 19 36 2 rfl rfl rfl rfl rfl rfl trivial ?_
                  refine s0 44 3 rfl rfl rfl rfl rfl (by first | trivial | omega) ?_
                  refine e1 52 rfl ?_
                  refine keep [1, 2, 3, 4, 5, 12, 14, 16, 17, 18, 19] rfl ?_
                  refine r1 ?_
                  refine s1 52 52 1 rfl rfl rfl rfl rfl rfl trivial ?_
                  refine s1 20 60 2 rfl rfl rfl rfl rfl rfl trivial ?_
                  refine s0 68 3 rfl rfl rfl rfl rfl (by first | trivial | omega) ?_
                  refine e1 76 rfl ?_
                  refine keep [1, 2, 3, 4, 5, 12, 14, 16, 17, 18, 19, 20] rfl ?_
                  refine W_seq ?_
                  refine r1 ?_
                  refine s1 53 76 1 rfl rfl rfl rfl rfl rfl trivial ?_
                  refine e1 84 rfl ?_
                  refine keep [1, 2, 3, 4, 5, 12, 14, 16, 17, 18, 19, 20, 53] rfl ?_
                  refine q1 rfl (fun hc12 => ?_) (fun hc12 => ?_)
                  · skip
                    exact absurd hc12 (by decide)
                  · skip
                    try simp only [cs, ne_eq] at hc12
                    refine W_skip ?_
                    refine tn ?_
                    refine rd0 rfl ?_
                    refine d1 60 84 1 rfl rfl rfl rfl rfl rfl trivial ?_
                    refine d1 61 92 2 rfl rfl rfl rfl rfl rfl (by first | trivial | omega) ?_
                    refine d1 62 100 3 rfl rfl rfl rfl rfl rfl trivial ?_
                    refine d1 63 108 4 rfl rfl rfl rfl rfl rfl trivial ?_
                    refine d1 64 116 5 rfl rfl rfl rfl rfl rfl (by first | trivial | omega) ?_
                    refine d1 65 124 6 rfl rfl rfl rfl rfl rfl trivial ?_
                    refine d1 66 132 7 rfl rfl rfl rfl rfl rfl (by first | trivial | omega) ?_
                    refine d1 67 140 8 rfl rfl rfl rfl rfl rfl (by first | trivial | omega) ?_
                    refine d1 68 148 9 rfl rfl rfl rfl rfl rfl (by first | trivial | omega) ?_
                    refine d1 69 156 10 rfl rfl rfl rfl rfl rfl trivial ?_
                    refine d1 70 164 11 rfl rfl rfl rfl rfl rfl (by first | trivial | omega) ?_
                    refine d1 71 172 12 rfl rfl rfl rfl rfl rfl trivial ?_
                    refine d1 72 180 13 rfl rfl rfl rfl rfl rfl ⟨Nat.le_refl _, trivial, (by show (3 * i + 3) * 32 ≤ 140737488355328; omega), (by simp only [maxLen]; omega)⟩ ?_
                    refine d1 73 188 14 rfl rfl rfl rfl rfl rfl (by first | trivial | omega) ?_
                    refine d0 196 15 rfl rfl rfl rfl rfl (by first | trivial | omega) ?_
                    refine de1 204 rfl (by kernel_rfl) ?_
                    refine bn ?_
                    refine tn ?_
                    refine rowsw 180 (3 * (i + 1)) (callF (cUp (i + 1))) rfl rfl (fun k c hk hc M v h => call_cat i k c hk hc M v h) ?_
                    refine r0 ?_
                    refine s1 49 204 1 rfl rfl rfl rfl rfl rfl trivial ?_
                    refine sA 50 212 2 rfl rfl rfl rfl rfl rfl rfl rfl rfl (by unfold inRange; omega) ?_
                    refine s1 18 220 3 rfl rfl rfl rfl rfl rfl trivial ?_
                    refine e1 228 rfl ?_
                    refine tn ?_
                    exact again ((i + 1 : Nat)) [0, 1, 2, 180] (show (i + 1) ≤ 6 from (by omega)) (show 6 - (i + 1) < 6 - i from (by omega)) rfl ⟨rfl, rfl, rfl, rfl, rfl, rfl, rfl, rfl, rfl, rfl, trivial⟩ ⟨rfl, rfl, rfl, rfl, trivial⟩
                · skip
                  try simp only [cs, ne_eq] at hc8
                  obtain rfl : i = 6 := by omega
                  refine W_exit ?_
                  refine tx ?_
                  refine tx ?_
                  refine bx ?_
                  refine bn ?_
                  refine tn ?_
                  refine cfreeze 2 3 3 (3 * 6) rfl rfl rfl (Nat.le_refl _) rfl ?_
                  refine chval 2 (.cells 39 1 [.d (.vec 2 (3 * 6) (callF (cUp 6))), .d (.vec 2 (3 * 6) (callF (cUp 6))), .d (.vec 2 (3 * 6) (callF (cUp 6))), .d (.vec 2 (3 * 6) (callF (cUp 6)))]) rfl rfl ?_
                  refine r0 ?_
                  refine s1 44 28 1 rfl rfl rfl rfl rfl rfl trivial ?_
                  refine sA 45 36 2 rfl rfl rfl rfl rfl rfl rfl rfl rfl (by unfold inRange; omega) ?_
                  refine val 45 (SV.i 4) rfl rfl ?_
                  refine s1 17 44 3 rfl rfl rfl rfl rfl rfl trivial ?_
                  refine e1 52 rfl ?_
                  refine tn ?_
                  refine unr ?_
                  refine W_seq ?_
                  refine r1 ?_
                  refine s1 41 52 1 rfl rfl rfl rfl rfl rfl trivial ?_
                  refine s1 42 60 2 rfl rfl rfl rfl rfl rfl trivial ?_
                  refine s1 43 68 3 rfl rfl rfl rfl rfl rfl (by first | trivial | omega) ?_
                  refine e1 76 rfl ?_
                  refine keep [1, 2, 3, 4, 5, 12, 14, 16, 17, 43] rfl ?_
                  refine q1 rfl (fun hc5 => ?_) (fun hc5 => ?_)
                  · skip
                    exact absurd hc5 (by decide)
                  · skip
                    try simp only [cs, ne_eq] at hc5
                    refine W_exit ?_
                    refine tx ?_
                    refine tx ?_
                    refine bx ?_
                    refine tn ?_
                    refine torows (k := 1) 2 4 (machR 4) rfl (by decide) (by decide) (fun i c hi hc => by obtain rfl : c = 0 := (by omega); rcases (show i = 0 ∨ i = 1 ∨ i = 2 ∨ i = 3 by omega) with rfl | rfl | rfl | rfl <;> rfl) ?_
                    refine cfreeze 1 2 2 4 rfl rfl rfl (Nat.le_refl _) rfl ?_
                    refine chval 1 (machBlk (qM 4)) rfl rfl ?_
                    refine rd1 rfl ?_
                    refine d1 74 76 1 rfl rfl rfl rfl rfl rfl (by first | trivial | omega) ?_
                    refine d1 75 84 2 rfl rfl rfl rfl rfl rfl trivial ?_
                    refine d1 76 92 3 rfl rfl rfl rfl rfl rfl (by first | trivial | omega) ?_
                    refine d1 77 100 4 rfl rfl rfl rfl rfl rfl trivial ?_
                    refine ask 77 rfl (fun hg16_77 => ?_) (fun hg16_77 => ?_)
                    · skip
                      try simp only [cs, ne_eq] at hg16_77
                      refine g1 3 true 77 78 5 rfl rfl rfl rfl rfl ?_
                      refine d1 78 108 5 rfl rfl rfl rfl rfl rfl trivial ?_
                      refine g1 3 true 77 79 6 rfl rfl rfl rfl rfl ?_
                      refine d1 79 116 6 rfl rfl rfl rfl rfl rfl (by first | trivial | omega) ?_
                      refine d1 80 124 7 rfl rfl rfl rfl rfl rfl trivial ?_
                      refine d1 81 132 8 rfl rfl rfl rfl rfl rfl trivial ?_
                      refine ask 81 rfl (fun hg16_81 => ?_) (fun hg16_81 => ?_)
                      · skip
                        try simp only [cs, ne_eq] at hg16_81
                        refine g1 7 true 81 82 9 rfl rfl rfl rfl rfl ?_
                        refine d1 82 140 9 rfl rfl rfl rfl rfl rfl trivial ?_
                        refine g1 7 true 81 83 10 rfl rfl rfl rfl rfl ?_
                        refine d1 83 148 10 rfl rfl rfl rfl rfl rfl (by first | trivial | omega) ?_
                        refine g1 7 true 81 84 11 rfl rfl rfl rfl rfl ?_
                        refine d1 84 156 11 rfl rfl rfl rfl rfl rfl (by first | trivial | omega) ?_
                        refine d1 85 164 12 rfl rfl rfl rfl rfl rfl trivial ?_
                        refine d1 86 172 13 rfl rfl rfl rfl rfl rfl trivial ?_
                        refine ask 86 rfl (fun hg16_86 => ?_) (fun hg16_86 => ?_)
                        · skip
                          try simp only [cs, ne_eq] at hg16_86
                          refine g1 12 true 86 87 14 rfl rfl rfl rfl rfl ?_
                          refine d1 87 180 14 rfl rfl rfl rfl rfl rfl trivial ?_
                          refine g1 12 true 86 88 15 rfl rfl rfl rfl rfl ?_
                          refine d1 88 188 15 rfl rfl rfl rfl rfl rfl (by first | trivial | omega) ?_
                          refine g1 12 true 86 89 16 rfl rfl rfl rfl rfl ?_
                          refine d1 89 196 16 rfl rfl rfl rfl rfl rfl (by first | trivial | omega) ?_
                          refine d1 90 204 17 rfl rfl rfl rfl rfl rfl trivial ?_
                          refine d1 91 212 18 rfl rfl rfl rfl rfl rfl trivial ?_
                          refine ask 91 rfl (fun hg16_91 => ?_) (fun hg16_91 => ?_)
                          · skip
                            try simp only [cs, ne_eq] at hg16_91
                            refine g1 17 true 91 92 19 rfl rfl rfl rfl rfl ?_
                            refine d1 92 220 19 rfl rfl rfl rfl rfl rfl (by first | trivial | omega) ?_
                            refine g1 17 true 91 93 20 rfl rfl rfl rfl rfl ?_
                            refine dc1 (mach_any (qM 4) (okq 4 (by decide))) [] [] 93 228 20 rfl rfl rfl rfl rfl rfl rfl rfl Tryd.func30 rfl rfl rfl rfl trivial rfl rfl ?_
                            refine d1 94 236 21 rfl rfl rfl rfl rfl rfl trivial ?_
                            refine val 94 (SV.b true) rfl (by show SV.b (machB (qM 4)) = _; rw [mach_q 4 (by decide) (by decide)]) ?_
                            refine d0 244 22 rfl rfl rfl rfl rfl (by first | trivial | omega) ?_
                            refine d1 13 252 23 rfl rfl rfl rfl rfl rfl trivial ?_
                            refine de1 260 rfl (by kernel_rfl) ?_
                            refine keep [12, 13] rfl ?_
                            refine W_ret ?_
                            exact outN (SV.tup [machS (qM 4), SV.b true]) (π := []) (hout := []) Tryd.results8 rfl (by trivial) rfl rfl rfl trivial ⟨rfl, rfl⟩
                          · skip
                            try simp only [cs, ne_eq] at hg16_91
                            exact absurd hg16_91 (by decide)
                        · skip
                          try simp only [cs, ne_eq] at hg16_86
                          exact absurd hg16_86 (by decide)
                      · skip
                        try simp only [cs, ne_eq] at hg16_81
                        exact absurd hg16_81 (by decide)
                    · skip
                      try simp only [cs, ne_eq] at hg16_77
                      exact absurd hg16_77 (by decide)
              · skip
                exact absurd hc5 (by decide)
          · skip
            exact absurd hc5 (by decide)
      · skip
        exact absurd hc5 (by decide)
  · skip
    exact absurd hc5 (by decide)

end Go.Proofs.YtnnjobmiepnedaaDoor.Nice
