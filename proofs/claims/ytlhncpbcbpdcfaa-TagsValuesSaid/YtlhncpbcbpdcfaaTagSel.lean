/- Choosing by matchers: the walks of the program. -/
import Derived.Test.YtlhncpbcbpdcfaaTagSelP
namespace Go.Proofs.Ytlhncpbcbpdcfaa.Nice
open Go
set_option linter.unusedVariables false
set_option linter.unusedSimpArgs false
set_option maxRecDepth 100000
set_option maxHeartbeats 4000000

def AscL (b : List Int) : Prop := ∀ i j, i ≤ j → j < b.length → b.getD i 0 ≤ b.getD j 0
theorem ascL_of {b : List Int} {n : Nat} (h : Asc b n) : AscL b := by
  intro i j hij hj
  rcases Nat.lt_or_ge i j with h1 | h1
  · have := List.pairwise_iff_getElem.1 h.pw i j (by omega) hj h1
    rw [show b.getD i 0 = b[i] from by simp [List.getD, show i < b.length by omega], show b.getD j 0 = b[j] from by simp [List.getD, hj]]
    exact this
  · obtain rfl : i = j := by omega
    exact Int.le_refl _
theorem mem_pos {b : List Int} {v : Int} {p : Nat} (hb : AscL b) (hp : p ≤ b.length) (h1 : ∀ k, k < p → b.getD k 0 < v) (h2 : p < b.length → v ≤ b.getD p 0) : v ∈ b ↔ p < b.length ∧ b.getD p 0 = v := by
  constructor
  · intro h
    obtain ⟨k, hk, rfl⟩ := List.mem_iff_getElem.1 h
    have e : b.getD k 0 = b[k] := by simp [List.getD, hk]
    have : ¬ k < p := fun hkp => by have := h1 k hkp; omega
    have h3 := h2 (by omega)
    have h4 := hb p k (by omega) hk
    exact ⟨by omega, by omega⟩
  · rintro ⟨h3, h4⟩
    rw [← h4, show b.getD p 0 = b[p] from by simp [List.getD, h3]]
    exact List.getElem_mem h3

theorem tsearch_any (b : List Int) (v : Int) (hb : AscL b) (hbl : b.length ≤ 500) : Spec Try.prog GT 35 [intsV b, SV.i v] [] (fun r ho => r = SV.tup [SV.i (posOf b v), SV.b (decide (v ∈ b))] ∧ ho = []) := by
  refine start 54 0 Try.func35 rfl rfl rfl rfl ?_
  refine r1 ?_
  refine s1 4 0 1 rfl rfl rfl rfl rfl rfl trivial ?_
  refine s1 5 8 2 rfl rfl rfl rfl rfl rfl trivial ?_
  refine e1 16 rfl ?_
  refine keep [0, 1] rfl ?_
  refine r1 ?_
  refine s1 10 16 1 rfl rfl rfl rfl rfl rfl trivial ?_
  refine s1 11 24 2 rfl rfl rfl rfl rfl rfl (by first | trivial | omega) ?_
  refine s1 6 32 3 rfl rfl rfl rfl rfl rfl trivial ?_
  refine e1 40 rfl ?_
  refine keep [0, 1, 6] rfl ?_
  refine r1 ?_
  refine s1 12 40 1 rfl rfl rfl rfl rfl rfl trivial ?_
  refine s1 7 48 2 rfl rfl rfl rfl rfl rfl trivial ?_
  refine s1 8 56 3 rfl rfl rfl rfl rfl rfl trivial ?_
  refine e1 64 rfl ?_
  refine keep [0, 1, 6, 7, 8] rfl ?_
  refine W_seq ?_
  refine W_block ?_
  refine loop (α := Nat × Nat) 0 (fun x => [(0, intsV b), (1, SV.i v), (6, SV.i b.length), (7, SV.i x.1), (8, SV.i x.2)]) (fun x => []) (fun x => x.1 ≤ x.2 ∧ x.2 ≤ b.length ∧ (∀ k, k < x.1 → b.getD k 0 < v) ∧ (x.2 < b.length → v ≤ b.getD x.2 0)) (fun x => x.2 - x.1) ((0, b.length)) [] (fun _ => rfl) ⟨Nat.zero_le _, Nat.le_refl _, fun k hk => by omega, fun h => by omega⟩ rfl ⟨rfl, rfl, rfl, rfl, rfl, trivial⟩ trivial (fun x hx => ?_)
  obtain ⟨h1, h2, h3, h4⟩ := hx
  refine W_seq ?_
  refine r1 ?_
  refine s1 13 0 1 rfl rfl rfl rfl rfl rfl trivial ?_
  refine s1 14 8 2 rfl rfl rfl rfl rfl rfl trivial ?_
  refine s1 15 16 3 rfl rfl rfl rfl rfl rfl (by first | trivial | omega) ?_
  refine e1 24 rfl ?_
  refine keep [0, 1, 6, 7, 8, 15] rfl ?_
  refine q1 rfl (fun hc3 => ?_) (fun hc3 => ?_)
  · skip
    try simp only [cs, ne_eq] at hc3
    refine W_skip ?_
    refine tn ?_
    refine W_block ?_
    refine r1 ?_
    refine s1 16 24 1 rfl rfl rfl rfl rfl rfl trivial ?_
    refine s1 17 32 2 rfl rfl rfl rfl rfl rfl trivial ?_
    refine sA 18 40 3 rfl rfl rfl rfl rfl rfl rfl rfl rfl (by unfold inRange; omega) ?_
    refine s1 19 48 4 rfl rfl rfl rfl rfl rfl trivial ?_
    refine s1 20 56 5 rfl rfl rfl rfl rfl rfl (by first | trivial | omega) ?_
    refine s1 21 64 6 rfl rfl rfl rfl rfl rfl trivial ?_
    refine val 21 (SV.i ((x.1 + x.2) / 2 : Nat)) rfl (half_eq x.1 x.2 (by omega)) ?_
    refine s1 9 72 7 rfl rfl rfl rfl rfl rfl trivial ?_
    refine e1 80 rfl ?_
    refine keep [0, 1, 6, 7, 8, 9] rfl ?_
    refine r1 ?_
    refine s1 22 80 1 rfl rfl rfl rfl rfl rfl trivial ?_
    refine s1 23 88 2 rfl rfl rfl rfl rfl rfl trivial ?_
    refine s1 24 96 3 rfl rfl rfl rfl rfl rfl (by first | trivial | omega) ?_
    refine s1 25 104 4 rfl rfl rfl rfl rfl rfl (by first | trivial | omega) ?_
    refine s1 26 112 5 rfl rfl rfl rfl rfl rfl trivial ?_
    refine c1 (less_any (b.getD ((x.1 + x.2) / 2) 0) v) [] [] 27 120 6 rfl rfl rfl rfl rfl rfl rfl rfl Try.func54 rfl rfl rfl rfl trivial rfl rfl ?_
    refine e1 128 rfl ?_
    refine keep [0, 1, 6, 7, 8, 9, 27] rfl ?_
    refine q1 rfl (fun hc5 => ?_) (fun hc5 => ?_)
    · skip
      try simp only [cs, ne_eq] at hc5
      refine r0 ?_
      refine s1 28 128 1 rfl rfl rfl rfl rfl rfl trivial ?_
      refine sA 29 136 2 rfl rfl rfl rfl rfl rfl rfl rfl rfl (by unfold inRange; omega) ?_
      refine s1 7 144 3 rfl rfl rfl rfl rfl rfl trivial ?_
      refine e1 152 rfl ?_
      refine bn ?_
      refine tn ?_
      exact again (((x.1 + x.2) / 2 + 1, x.2)) [] ⟨by simp only; omega, h2, fun k hk => by have hm : b.getD ((x.1 + x.2) / 2) 0 < v := hc5; have := hb k ((x.1 + x.2) / 2) (by simp only at hk; omega) (by omega); omega, h4⟩ (by simp only; omega) rfl ⟨rfl, rfl, rfl, rfl, rfl, trivial⟩ trivial
    · skip
      try simp only [cs, ne_eq] at hc5
      refine r0 ?_
      refine s1 30 128 1 rfl rfl rfl rfl rfl rfl trivial ?_
      refine s1 8 136 2 rfl rfl rfl rfl rfl rfl trivial ?_
      refine e1 144 rfl ?_
      refine bn ?_
      refine tn ?_
      exact again ((x.1, (x.1 + x.2) / 2)) [] ⟨by simp only; omega, by simp only; omega, h3, fun hk => hc5⟩ (by simp only; omega) rfl ⟨rfl, rfl, rfl, rfl, rfl, trivial⟩ trivial
  · skip
    try simp only [cs, ne_eq] at hc3
    refine W_exit ?_
    refine tx ?_
    refine tx ?_
    refine bx ?_
    refine tn ?_
    refine r1 ?_
    refine s1 31 24 1 rfl rfl rfl rfl rfl rfl trivial ?_
    refine s1 32 32 2 rfl rfl rfl rfl rfl rfl trivial ?_
    refine s1 33 40 3 rfl rfl rfl rfl rfl rfl trivial ?_
    refine s1 34 48 4 rfl rfl rfl rfl rfl rfl (by first | trivial | omega) ?_
    refine s1 35 56 5 rfl rfl rfl rfl rfl rfl trivial ?_
    refine ask 35 rfl (fun hg8_35 => ?_) (fun hg8_35 => ?_)
    · skip
      try simp only [cs, ne_eq] at hg8_35
      refine g1 4 true 35 36 6 rfl rfl rfl rfl rfl ?_
      refine s1 36 64 6 rfl rfl rfl rfl rfl rfl trivial ?_
      refine g1 4 true 35 37 7 rfl rfl rfl rfl rfl ?_
      refine s1 37 72 7 rfl rfl rfl rfl rfl rfl trivial ?_
      refine g1 4 true 35 38 8 rfl rfl rfl rfl rfl ?_
      refine s1 38 80 8 rfl rfl rfl rfl rfl rfl (by first | trivial | omega) ?_
      refine g1 4 true 35 39 9 rfl rfl rfl rfl rfl ?_
      refine s1 39 88 9 rfl rfl rfl rfl rfl rfl (by first | trivial | omega) ?_
      refine g1 4 true 35 40 10 rfl rfl rfl rfl rfl ?_
      refine s1 40 96 10 rfl rfl rfl rfl rfl rfl trivial ?_
      refine g1 4 true 35 41 11 rfl rfl rfl rfl rfl ?_
      refine s1 41 104 11 rfl rfl rfl rfl rfl rfl (by first | trivial | omega) ?_
      refine g1 4 true 35 42 12 rfl rfl rfl rfl rfl ?_
      refine s1 42 112 12 rfl rfl rfl rfl rfl rfl trivial ?_
      refine ask 42 rfl (fun hg8_42 => ?_) (fun hg8_42 => ?_)
      · skip
        try simp only [cs, ne_eq] at hg8_42
        refine g0 11 false 42 43 13 rfl rfl rfl rfl rfl rfl ?_
        refine g0 11 false 42 44 14 rfl rfl rfl rfl rfl rfl ?_
        refine g0 11 false 42 45 15 rfl rfl rfl rfl rfl rfl ?_
        refine g0 11 false 42 46 16 rfl rfl rfl rfl rfl rfl ?_
        refine g0 11 false 42 47 17 rfl rfl rfl rfl rfl rfl ?_
        refine g0 11 false 42 48 18 rfl rfl rfl rfl rfl rfl ?_
        refine gz 17 true 48 49 19 rfl rfl rfl rfl rfl rfl ?_
        refine gz 17 true 48 50 20 rfl rfl rfl rfl rfl rfl ?_
        refine g0 11 false 42 51 21 rfl rfl rfl rfl rfl rfl ?_
        refine g1 4 true 35 52 22 rfl rfl rfl rfl rfl ?_
        refine s1 52 192 22 rfl rfl rfl rfl rfl rfl trivial ?_
        refine s1 53 200 23 rfl rfl rfl rfl rfl rfl trivial ?_
        refine s1 4 208 24 rfl rfl rfl rfl rfl rfl trivial ?_
        refine s1 5 216 25 rfl rfl rfl rfl rfl rfl trivial ?_
        refine e1 224 rfl ?_
        refine keep [4, 5] rfl ?_
        refine W_ret ?_
        have h4 : x.1 < b.length → v ≤ b.getD x.1 0 := (fun h => by have e : x.2 = x.1 := (by omega); rw [e] at h4; exact h4 h)
        have hp : posOf b v = x.1 := pos_eq (by omega) h3 h4
        have hmem := mem_pos hb (by omega) h3 h4
        exact out2 4 5 (SV.i (posOf b v)) (SV.b (decide (v ∈ b))) (π := []) (hout := []) Try.results35 rfl rfl (by rw [hp]; rfl) (by show SV.b _ = SV.b _; refine congrArg SV.b ?_; (try simp only [Int.toNat_natCast] at *); rw [Bool.eq_iff_iff, decide_eq_true_eq, hmem]; constructor <;> intro hh <;> first | rfl | omega | (exfalso; omega) | (simp at hh; done) | (simp at hh; omega)) rfl rfl trivial ⟨rfl, rfl⟩
      · skip
        try simp only [cs, ne_eq] at hg8_42
        refine g1 11 false 42 43 13 rfl rfl rfl rfl rfl ?_
        refine s1 43 120 13 rfl rfl rfl rfl rfl rfl trivial ?_
        refine g1 11 false 42 44 14 rfl rfl rfl rfl rfl ?_
        refine s1 44 128 14 rfl rfl rfl rfl rfl rfl trivial ?_
        refine g1 11 false 42 45 15 rfl rfl rfl rfl rfl ?_
        refine s1 45 136 15 rfl rfl rfl rfl rfl rfl (by first | trivial | omega) ?_
        refine g1 11 false 42 46 16 rfl rfl rfl rfl rfl ?_
        refine s1 46 144 16 rfl rfl rfl rfl rfl rfl (by first | trivial | omega) ?_
        refine g1 11 false 42 47 17 rfl rfl rfl rfl rfl ?_
        refine c1 (nan55_any (b.getD x.1 0)) [] [] 47 152 17 rfl rfl rfl rfl rfl rfl rfl rfl Try.func55 rfl rfl rfl rfl trivial rfl rfl ?_
        refine g1 11 false 42 48 18 rfl rfl rfl rfl rfl ?_
        refine s1 48 160 18 rfl rfl rfl rfl rfl rfl trivial ?_
        refine ask 48 rfl (fun hg8_48 => ?_) (fun hg8_48 => ?_)
        · skip
          try simp only [cs, ne_eq] at hg8_48
          exact absurd hg8_48 (by decide)
        · skip
          try simp only [cs, ne_eq] at hg8_48
          refine g0 17 true 48 49 19 rfl rfl rfl rfl rfl rfl ?_
          refine g0 17 true 48 50 20 rfl rfl rfl rfl rfl rfl ?_
          refine g1 11 false 42 51 21 rfl rfl rfl rfl rfl ?_
          refine s1 51 184 21 rfl rfl rfl rfl rfl rfl trivial ?_
          refine g1 4 true 35 52 22 rfl rfl rfl rfl rfl ?_
          refine s1 52 192 22 rfl rfl rfl rfl rfl rfl trivial ?_
          refine s1 53 200 23 rfl rfl rfl rfl rfl rfl trivial ?_
          refine s1 4 208 24 rfl rfl rfl rfl rfl rfl trivial ?_
          refine s1 5 216 25 rfl rfl rfl rfl rfl rfl trivial ?_
          refine e1 224 rfl ?_
          refine keep [4, 5] rfl ?_
          refine W_ret ?_
          have h4 : x.1 < b.length → v ≤ b.getD x.1 0 := (fun h => by have e : x.2 = x.1 := (by omega); rw [e] at h4; exact h4 h)
          have hp : posOf b v = x.1 := pos_eq (by omega) h3 h4
          have hmem := mem_pos hb (by omega) h3 h4
          exact out2 4 5 (SV.i (posOf b v)) (SV.b (decide (v ∈ b))) (π := []) (hout := []) Try.results35 rfl rfl (by rw [hp]; rfl) (by show SV.b _ = SV.b _; refine congrArg SV.b ?_; (try simp only [Int.toNat_natCast] at *); rw [Bool.eq_iff_iff, decide_eq_true_eq, hmem]; constructor <;> intro hh <;> first | rfl | omega | (exfalso; omega) | (simp at hh; done) | (simp at hh; omega)) rfl rfl trivial ⟨rfl, rfl⟩
    · skip
      try simp only [cs, ne_eq] at hg8_35
      refine g0 4 true 35 36 6 rfl rfl rfl rfl rfl rfl ?_
      refine g0 4 true 35 37 7 rfl rfl rfl rfl rfl rfl ?_
      refine g0 4 true 35 38 8 rfl rfl rfl rfl rfl rfl ?_
      refine g0 4 true 35 39 9 rfl rfl rfl rfl rfl rfl ?_
      refine g0 4 true 35 40 10 rfl rfl rfl rfl rfl rfl ?_
      refine g0 4 true 35 41 11 rfl rfl rfl rfl rfl rfl ?_
      refine g0 4 true 35 42 12 rfl rfl rfl rfl rfl rfl ?_
      refine gz 11 false 42 43 13 rfl rfl rfl rfl rfl rfl ?_
      refine gz 11 false 42 44 14 rfl rfl rfl rfl rfl rfl ?_
      refine gz 11 false 42 45 15 rfl rfl rfl rfl rfl rfl ?_
      refine gz 11 false 42 46 16 rfl rfl rfl rfl rfl rfl ?_
      refine gz 11 false 42 47 17 rfl rfl rfl rfl rfl rfl ?_
      refine gz 11 false 42 48 18 rfl rfl rfl rfl rfl rfl ?_
      refine gz 17 true 48 49 19 rfl rfl rfl rfl rfl rfl ?_
      refine gz 17 true 48 50 20 rfl rfl rfl rfl rfl rfl ?_
      refine gz 11 false 42 51 21 rfl rfl rfl rfl rfl rfl ?_
      refine g0 4 true 35 52 22 rfl rfl rfl rfl rfl rfl ?_
      refine s1 53 200 23 rfl rfl rfl rfl rfl rfl trivial ?_
      refine s1 4 208 24 rfl rfl rfl rfl rfl rfl trivial ?_
      refine s1 5 216 25 rfl rfl rfl rfl rfl rfl trivial ?_
      refine e1 224 rfl ?_
      refine keep [4, 5] rfl ?_
      refine W_ret ?_
      have h4 : x.1 < b.length → v ≤ b.getD x.1 0 := (fun h => by have e : x.2 = x.1 := (by omega); rw [e] at h4; exact h4 h)
      have hp : posOf b v = x.1 := pos_eq (by omega) h3 h4
      have hmem := mem_pos hb (by omega) h3 h4
      exact out2 4 5 (SV.i (posOf b v)) (SV.b (decide (v ∈ b))) (π := []) (hout := []) Try.results35 rfl rfl (by rw [hp]; rfl) (by show SV.b _ = SV.b _; refine congrArg SV.b ?_; (try simp only [Int.toNat_natCast] at *); rw [Bool.eq_iff_iff, decide_eq_true_eq, hmem]; constructor <;> intro hh <;> first | rfl | omega | (exfalso; omega) | (simp at hh; done) | (simp at hh; omega)) rfl rfl trivial ⟨rfl, rfl⟩

theorem both_any (a b : List Int) (w : Bool) (ha : a.length ≤ 500) (hb : AscL b) (hbl : b.length ≤ 500) : Spec Try.prog GT 48 [intsV a, intsV b, SV.b w] [] (fun r ho => r = intsV (bothL a b w) ∧ ho = []) := by
  refine start 33 0 Try.func48 rfl rfl rfl rfl ?_
  refine r1 ?_
  refine s1 6 0 1 rfl rfl rfl rfl rfl rfl trivial ?_
  refine e1 8 rfl ?_
  refine keep [0, 1, 2] rfl ?_
  refine r1 ?_
  refine s1 7 8 1 rfl rfl rfl rfl rfl rfl trivial ?_
  refine e1 16 rfl ?_
  refine keep [0, 1, 2, 7] rfl ?_
  refine W_seq ?_
  refine r1 ?_
  refine s1 12 16 1 rfl rfl rfl rfl rfl rfl trivial ?_
  refine s1 13 24 2 rfl rfl rfl rfl rfl rfl (by first | trivial | omega) ?_
  refine s1 14 32 3 rfl rfl rfl rfl rfl rfl trivial ?_
  refine e1 40 rfl ?_
  refine keep [1, 2, 7, 12, 13, 14] rfl ?_
  refine W_block ?_
  refine ghostly 7 3 1 (intsF []) rfl ?_
  refine loop (α := Nat) 1 (fun n => [(1, intsV b), (2, SV.b w), (7, .sl 0 0 (bothL (a.take (n)) b w).length), (12, intsV a), (13, SV.i a.length), (14, SV.i (n))]) (fun n => [some (.rows 3 1 (bothL (a.take (n)) b w).length (intsF (bothL (a.take (n)) b w)))]) (fun n => (n) ≤ a.length) (fun n => a.length - (n)) (((0) : Nat)) [40] (fun _ => rfl) (show (0) ≤ a.length from (Nat.zero_le _)) rfl ⟨rfl, rfl, rfl, rfl, rfl, rfl, trivial⟩ ⟨rfl, trivial⟩ (fun n hx => ?_)
  show W _ _ _ ⟨tOf [(1, intsV b), (2, SV.b w), (7, .sl 0 0 (bothL (a.take n) b w).length), (12, intsV a), (13, SV.i a.length), (14, SV.i n)], hOf [some (.rows 3 1 (bothL (a.take n) b w).length (intsF (bothL (a.take n) b w)))], 1⟩
  have hx : n ≤ a.length := hx
  have hbn := both_len a b w n
  refine r1 ?_
  refine s1 15 1 1 rfl rfl rfl rfl rfl rfl (by first | trivial | omega) ?_
  refine e1 9 rfl ?_
  refine keep [1, 2, 7, 12, 13, 14, 15] rfl ?_
  refine W_seq ?_
  refine q1 rfl (fun hc3 => ?_) (fun hc3 => ?_)
  · skip
    try simp only [cs, ne_eq] at hc3
    refine W_skip ?_
    refine tn ?_
    refine W_seq ?_
    refine W_block ?_
    refine r1 ?_
    refine s1 16 9 1 rfl rfl rfl rfl rfl rfl (by first | trivial | omega) ?_
    refine s1 17 17 2 rfl rfl rfl rfl rfl rfl (by first | trivial | omega) ?_
    refine s1 9 25 3 rfl rfl rfl rfl rfl rfl trivial ?_
    refine e1 33 rfl ?_
    refine keep [1, 2, 7, 9, 12, 13, 14] rfl ?_
    refine r1 ?_
    refine s1 19 33 1 rfl rfl rfl rfl rfl rfl trivial ?_
    refine s1 20 41 2 rfl rfl rfl rfl rfl rfl trivial ?_
    refine c1 (tsearch_any b (a.getD n 0) hb hbl) [] [] 21 49 3 rfl rfl rfl rfl rfl rfl rfl rfl Try.func35 rfl rfl rfl rfl trivial rfl rfl ?_
    refine s1 18 57 4 rfl rfl rfl rfl rfl rfl trivial ?_
    refine s1 22 65 5 rfl rfl rfl rfl rfl rfl trivial ?_
    refine s1 23 73 6 rfl rfl rfl rfl rfl rfl trivial ?_
    refine s1 10 81 7 rfl rfl rfl rfl rfl rfl trivial ?_
    refine s1 11 89 8 rfl rfl rfl rfl rfl rfl trivial ?_
    refine e1 97 rfl ?_
    refine keep [1, 2, 7, 9, 11, 12, 13, 14] rfl ?_
    refine r1 ?_
    refine s1 24 97 1 rfl rfl rfl rfl rfl rfl trivial ?_
    refine s1 25 105 2 rfl rfl rfl rfl rfl rfl trivial ?_
    refine s1 26 113 3 rfl rfl rfl rfl rfl rfl (by first | trivial | omega) ?_
    refine e1 121 rfl ?_
    refine keep [1, 2, 7, 9, 12, 13, 14, 26] rfl ?_
    refine q1 rfl (fun hc6 => ?_) (fun hc6 => ?_)
    · skip
      try simp only [cs, ne_eq] at hc6
      refine r0 ?_
      refine s1 27 121 1 rfl rfl rfl rfl rfl rfl trivial ?_
      refine s1 28 129 2 rfl rfl rfl rfl rfl rfl trivial ?_
      refine s1 29 137 3 rfl rfl rfl rfl rfl rfl trivial ?_
      refine s1 30 145 4 rfl rfl rfl rfl rfl rfl ⟨Nat.le_refl _, trivial, (by show (_ + 1) * 8 ≤ 140737488355328; omega), (by simp only [maxLen]; omega)⟩ ?_
      refine s1 7 153 5 rfl rfl rfl rfl rfl rfl trivial ?_
      refine e1 161 rfl ?_
      refine bn ?_
      refine tn ?_
      have hB := both_succ a b w n (by omega)
      rw [if_pos (by simpa using hc6)] at hB
      refine rowsc 145 (bothL (a.take (n + 1)) b w).length (intsF (bothL (a.take (n + 1)) b w)) rfl (by rw [hB]; simp) (fun i c hi hc => by rw [hB]; exact ints_cat _ _ i c hi hc) ?_
      refine cval 7 (.sl 145 0 (bothL (a.take (n + 1)) b w).length) rfl (by rw [hB]; simp) ?_
      refine r0 ?_
      refine sA 31 161 1 rfl rfl rfl rfl rfl rfl rfl rfl rfl (by unfold inRange; omega) ?_
      refine s1 14 169 2 rfl rfl rfl rfl rfl rfl trivial ?_
      refine e1 177 rfl ?_
      refine tn ?_
      exact again ((n + 1 : Nat)) [145] (show (n + 1) ≤ a.length from (by omega)) (show a.length - (n + 1) < a.length - n from (by omega)) rfl ⟨rfl, rfl, rfl, rfl, rfl, rfl, trivial⟩ ⟨rfl, trivial⟩
    · skip
      try simp only [cs, ne_eq] at hc6
      refine W_skip ?_
      refine bn ?_
      refine tn ?_
      have hB := both_succ a b w n (by omega)
      rw [if_neg (by simpa using hc6)] at hB
      refine rowsc 0 (bothL (a.take (n + 1)) b w).length (intsF (bothL (a.take (n + 1)) b w)) rfl (by rw [hB]) (fun i c hi hc => by rw [hB]) ?_
      refine cval 7 (.sl 0 0 (bothL (a.take (n + 1)) b w).length) rfl (by rw [hB]) ?_
      refine r0 ?_
      refine sA 31 121 1 rfl rfl rfl rfl rfl rfl rfl rfl rfl (by unfold inRange; omega) ?_
      refine s1 14 129 2 rfl rfl rfl rfl rfl rfl trivial ?_
      refine e1 137 rfl ?_
      refine tn ?_
      exact again ((n + 1 : Nat)) [0] (show (n + 1) ≤ a.length from (by omega)) (show a.length - (n + 1) < a.length - n from (by omega)) rfl ⟨rfl, rfl, rfl, rfl, rfl, rfl, trivial⟩ ⟨rfl, trivial⟩
  · skip
    try simp only [cs, ne_eq] at hc3
    refine W_exit ?_
    refine tx ?_
    refine tx ?_
    refine bx ?_
    refine tn ?_
    obtain rfl : n = a.length := (by omega)
    refine rowsc 0 (bothL a b w).length (intsF (bothL a b w)) rfl (by rw [List.take_length]) (fun i c hi hc => by rw [List.take_length]) ?_
    refine cval 7 (.sl 0 0 (bothL a b w).length) rfl (by rw [List.take_length]) ?_
    refine freeze 7 0 (bothL a b w).length rfl rfl (Nat.le_refl _) ?_
    refine r1 ?_
    refine s1 32 9 1 rfl rfl rfl rfl rfl rfl trivial ?_
    refine s1 6 17 2 rfl rfl rfl rfl rfl rfl trivial ?_
    refine e1 25 rfl ?_
    refine keep [6] rfl ?_
    refine W_ret ?_
    exact out1 6 (intsV (bothL a b w)) (π := []) (hout := []) Try.results48 rfl rfl rfl rfl trivial ⟨rfl, rfl⟩

theorem fault_any (m : MatD) (hmk : m.key.size ≤ 9223372036854775807) (hmv : m.val.size ≤ 9223372036854775807) : Spec Try.prog GT 47 [matV m] [] (fun r ho => r = SV.i (faultB m) ∧ ho = []) := by
  refine start 43 0 Try.func47 rfl rfl rfl rfl ?_
  refine r1 ?_
  refine s1 1 0 1 rfl rfl rfl rfl rfl rfl trivial ?_
  refine s1 2 8 2 rfl rfl rfl rfl rfl rfl trivial ?_
  refine e1 16 rfl ?_
  refine keep [1] rfl ?_
  refine r1 ?_
  refine s1 4 16 1 rfl rfl rfl rfl rfl rfl trivial ?_
  refine s1 5 24 2 rfl rfl rfl rfl rfl rfl (by first | trivial | omega) ?_
  refine s1 6 32 3 rfl rfl rfl rfl rfl rfl (by first | trivial | omega) ?_
  refine s1 7 40 4 rfl rfl rfl rfl rfl rfl trivial ?_
  refine ask 7 rfl (fun hg1_7 => ?_) (fun hg1_7 => ?_)
  · skip
    try simp only [cs, ne_eq] at hg1_7
    refine g0 3 false 7 8 5 rfl rfl rfl rfl rfl rfl ?_
    refine g0 3 false 7 9 6 rfl rfl rfl rfl rfl rfl ?_
    refine g0 3 false 7 10 7 rfl rfl rfl rfl rfl rfl ?_
    refine s1 11 72 8 rfl rfl rfl rfl rfl rfl trivial ?_
    refine s1 3 80 9 rfl rfl rfl rfl rfl rfl trivial ?_
    refine e1 88 rfl ?_
    refine keep [1, 3] rfl ?_
    refine W_seq ?_
    refine W_block ?_
    refine r1 ?_
    refine s1 13 88 1 rfl rfl rfl rfl rfl rfl trivial ?_
    refine s1 14 96 2 rfl rfl rfl rfl rfl rfl (by first | trivial | omega) ?_
    refine s1 15 104 3 rfl rfl rfl rfl rfl rfl (by first | trivial | omega) ?_
    refine s1 16 112 4 rfl rfl rfl rfl rfl rfl trivial ?_
    refine ask 16 rfl (fun hg2_16 => ?_) (fun hg2_16 => ?_)
    · skip
      try simp only [cs, ne_eq] at hg2_16
      refine g0 3 false 16 17 5 rfl rfl rfl rfl rfl rfl ?_
      refine g0 3 false 16 18 6 rfl rfl rfl rfl rfl rfl ?_
      refine g0 3 false 16 19 7 rfl rfl rfl rfl rfl rfl ?_
      refine s1 20 144 8 rfl rfl rfl rfl rfl rfl trivial ?_
      refine s1 12 152 9 rfl rfl rfl rfl rfl rfl trivial ?_
      refine e1 160 rfl ?_
      refine keep [1, 3, 12] rfl ?_
      refine q1 rfl (fun hc2 => ?_) (fun hc2 => ?_)
      · skip
        try simp only [cs, ne_eq] at hc2
        refine r1 ?_
        refine s1 2 160 1 rfl rfl rfl rfl rfl rfl trivial ?_
        refine e1 168 rfl ?_
        refine keep [2] rfl ?_
        refine W_ret ?_
        refine br ?_
        refine tr ?_
        exact out1 2 (SV.i (faultB m)) (π := []) (hout := []) Try.results47 rfl (by first | (exfalso; omega) | exact congrArg SV.i (f3 (by omega)).symm | exact congrArg SV.i (f4k (by omega) (by omega) (by assumption)).symm | exact congrArg SV.i (f4v (by omega) (by omega) (by assumption) (by assumption)).symm | exact congrArg SV.i (f4s (by omega) (by omega) (by assumption) (by assumption)).symm | exact congrArg SV.i (f0l (by omega) (by omega) (by assumption) (by assumption)).symm | exact congrArg SV.i (f0h (by omega) (by omega) (by assumption) (by assumption)).symm) rfl rfl trivial ⟨rfl, rfl⟩
      · skip
        exact absurd hc2 (by decide)
    · skip
      try simp only [cs, ne_eq] at hg2_16
      refine g1 3 false 16 17 5 rfl rfl rfl rfl rfl ?_
      refine s1 17 120 5 rfl rfl rfl rfl rfl rfl trivial ?_
      refine g1 3 false 16 18 6 rfl rfl rfl rfl rfl ?_
      refine s1 18 128 6 rfl rfl rfl rfl rfl rfl (by first | trivial | omega) ?_
      refine g1 3 false 16 19 7 rfl rfl rfl rfl rfl ?_
      refine s1 19 136 7 rfl rfl rfl rfl rfl rfl (by first | trivial | omega) ?_
      refine s1 20 144 8 rfl rfl rfl rfl rfl rfl trivial ?_
      refine s1 12 152 9 rfl rfl rfl rfl rfl rfl trivial ?_
      refine e1 160 rfl ?_
      refine keep [1, 3, 12] rfl ?_
      refine q1 rfl (fun hc2 => ?_) (fun hc2 => ?_)
      · skip
        try simp only [cs, ne_eq] at hc2
        refine r1 ?_
        refine s1 2 160 1 rfl rfl rfl rfl rfl rfl trivial ?_
        refine e1 168 rfl ?_
        refine keep [2] rfl ?_
        refine W_ret ?_
        refine br ?_
        refine tr ?_
        exact out1 2 (SV.i (faultB m)) (π := []) (hout := []) Try.results47 rfl (by first | (exfalso; omega) | exact congrArg SV.i (f3 (by omega)).symm | exact congrArg SV.i (f4k (by omega) (by omega) (by assumption)).symm | exact congrArg SV.i (f4v (by omega) (by omega) (by assumption) (by assumption)).symm | exact congrArg SV.i (f4s (by omega) (by omega) (by assumption) (by assumption)).symm | exact congrArg SV.i (f0l (by omega) (by omega) (by assumption) (by assumption)).symm | exact congrArg SV.i (f0h (by omega) (by omega) (by assumption) (by assumption)).symm) rfl rfl trivial ⟨rfl, rfl⟩
      · skip
        try simp only [cs, ne_eq] at hc2
        refine W_seq ?_
        refine r1 ?_
        refine s1 22 160 1 rfl rfl rfl rfl rfl rfl trivial ?_
        refine s1 23 168 2 rfl rfl rfl rfl rfl rfl trivial ?_
        refine s1 24 176 3 rfl rfl rfl rfl rfl rfl (by first | trivial | omega) ?_
        refine c1 (name_any m.key hmk) [] [] 25 184 4 rfl rfl rfl rfl rfl rfl rfl rfl Try.func40 rfl rfl rfl rfl trivial rfl rfl ?_
        refine s1 26 192 5 rfl rfl rfl rfl rfl rfl trivial ?_
        refine s1 21 200 6 rfl rfl rfl rfl rfl rfl trivial ?_
        refine e1 208 rfl ?_
        refine keep [1, 3, 21] rfl ?_
        refine q1 rfl (fun hc4 => ?_) (fun hc4 => ?_)
        · skip
          try simp only [cs, ne_eq] at hc4
          refine W_skip ?_
          refine tn ?_
          refine q1 rfl (fun hc4 => ?_) (fun hc4 => ?_)
          · skip
            try simp only [cs, ne_eq] at hc4
            refine r1 ?_
            refine s1 2 208 1 rfl rfl rfl rfl rfl rfl trivial ?_
            refine e1 216 rfl ?_
            refine keep [2] rfl ?_
            refine W_ret ?_
            refine br ?_
            refine tr ?_
            exact out1 2 (SV.i (faultB m)) (π := []) (hout := []) Try.results47 rfl (by first | (exfalso; omega) | exact congrArg SV.i (f3 (by omega)).symm | exact congrArg SV.i (f4k (by omega) (by omega) (by assumption)).symm | exact congrArg SV.i (f4v (by omega) (by omega) (by assumption) (by assumption)).symm | exact congrArg SV.i (f4s (by omega) (by omega) (by assumption) (by assumption)).symm | exact congrArg SV.i (f0l (by omega) (by omega) (by assumption) (by assumption)).symm | exact congrArg SV.i (f0h (by omega) (by omega) (by assumption) (by assumption)).symm) rfl rfl trivial ⟨rfl, rfl⟩
          · skip
            try simp only [cs, ne_eq] at hc4
            exfalso; first | omega | contradiction | (simp_all; done)
        · skip
          try simp only [cs, ne_eq] at hc4
          refine r1 ?_
          refine s1 27 208 1 rfl rfl rfl rfl rfl rfl trivial ?_
          refine s1 28 216 2 rfl rfl rfl rfl rfl rfl trivial ?_
          refine g1 1 true 28 29 3 rfl rfl rfl rfl rfl ?_
          refine s1 29 224 3 rfl rfl rfl rfl rfl rfl trivial ?_
          refine g1 1 true 28 30 4 rfl rfl rfl rfl rfl ?_
          refine s1 30 232 4 rfl rfl rfl rfl rfl rfl trivial ?_
          refine g1 1 true 28 31 5 rfl rfl rfl rfl rfl ?_
          refine s1 31 240 5 rfl rfl rfl rfl rfl rfl (by first | trivial | omega) ?_
          refine g1 1 true 28 32 6 rfl rfl rfl rfl rfl ?_
          refine c1 (name_any m.val hmv) [] [] 32 248 6 rfl rfl rfl rfl rfl rfl rfl rfl Try.func40 rfl rfl rfl rfl trivial rfl rfl ?_
          refine g1 1 true 28 33 7 rfl rfl rfl rfl rfl ?_
          refine s1 33 256 7 rfl rfl rfl rfl rfl rfl trivial ?_
          refine s1 34 264 8 rfl rfl rfl rfl rfl rfl trivial ?_
          refine s1 21 272 9 rfl rfl rfl rfl rfl rfl trivial ?_
          refine e1 280 rfl ?_
          refine keep [1, 3, 21] rfl ?_
          refine q1 rfl (fun hc5 => ?_) (fun hc5 => ?_)
          · skip
            try simp only [cs, ne_eq] at hc5
            refine W_skip ?_
            refine tn ?_
            refine q1 rfl (fun hc5 => ?_) (fun hc5 => ?_)
            · skip
              try simp only [cs, ne_eq] at hc5
              refine r1 ?_
              refine s1 2 280 1 rfl rfl rfl rfl rfl rfl trivial ?_
              refine e1 288 rfl ?_
              refine keep [2] rfl ?_
              refine W_ret ?_
              refine br ?_
              refine tr ?_
              exact out1 2 (SV.i (faultB m)) (π := []) (hout := []) Try.results47 rfl (by first | (exfalso; omega) | exact congrArg SV.i (f3 (by omega)).symm | exact congrArg SV.i (f4k (by omega) (by omega) (by assumption)).symm | exact congrArg SV.i (f4v (by omega) (by omega) (by assumption) (by assumption)).symm | exact congrArg SV.i (f4s (by omega) (by omega) (by assumption) (by assumption)).symm | exact congrArg SV.i (f0l (by omega) (by omega) (by assumption) (by assumption)).symm | exact congrArg SV.i (f0h (by omega) (by omega) (by assumption) (by assumption)).symm) rfl rfl trivial ⟨rfl, rfl⟩
            · skip
              try simp only [cs, ne_eq] at hc5
              exfalso; first | omega | contradiction | (simp_all; done)
          · skip
            try simp only [cs, ne_eq] at hc5
            refine r0 ?_
            refine s1 35 280 1 rfl rfl rfl rfl rfl rfl trivial ?_
            refine s1 36 288 2 rfl rfl rfl rfl rfl rfl trivial ?_
            refine s1 37 296 3 rfl rfl rfl rfl rfl rfl trivial ?_
            refine g0 2 true 37 38 4 rfl rfl rfl rfl rfl rfl ?_
            refine g0 2 true 37 39 5 rfl rfl rfl rfl rfl rfl ?_
            refine g0 2 true 37 40 6 rfl rfl rfl rfl rfl rfl ?_
            refine g0 2 true 37 41 7 rfl rfl rfl rfl rfl rfl ?_
            refine s1 42 336 8 rfl rfl rfl rfl rfl rfl trivial ?_
            refine s1 21 344 9 rfl rfl rfl rfl rfl rfl trivial ?_
            refine e1 352 rfl ?_
            refine tn ?_
            refine q1 rfl (fun hc6 => ?_) (fun hc6 => ?_)
            · skip
              exact absurd hc6 (by decide)
            · skip
              try simp only [cs, ne_eq] at hc6
              refine W_skip ?_
              refine bn ?_
              refine tn ?_
              refine r1 ?_
              refine s1 2 352 1 rfl rfl rfl rfl rfl rfl trivial ?_
              refine e1 360 rfl ?_
              refine keep [2] rfl ?_
              refine W_ret ?_
              exact out1 2 (SV.i (faultB m)) (π := []) (hout := []) Try.results47 rfl (by first | (exfalso; omega) | exact congrArg SV.i (f3 (by omega)).symm | exact congrArg SV.i (f4k (by omega) (by omega) (by assumption)).symm | exact congrArg SV.i (f4v (by omega) (by omega) (by assumption) (by assumption)).symm | exact congrArg SV.i (f4s (by omega) (by omega) (by assumption) (by assumption)).symm | exact congrArg SV.i (f0l (by omega) (by omega) (by assumption) (by assumption)).symm | exact congrArg SV.i (f0h (by omega) (by omega) (by assumption) (by assumption)).symm) rfl rfl trivial ⟨rfl, rfl⟩
  · skip
    try simp only [cs, ne_eq] at hg1_7
    refine g1 3 false 7 8 5 rfl rfl rfl rfl rfl ?_
    refine s1 8 48 5 rfl rfl rfl rfl rfl rfl trivial ?_
    refine g1 3 false 7 9 6 rfl rfl rfl rfl rfl ?_
    refine s1 9 56 6 rfl rfl rfl rfl rfl rfl (by first | trivial | omega) ?_
    refine g1 3 false 7 10 7 rfl rfl rfl rfl rfl ?_
    refine s1 10 64 7 rfl rfl rfl rfl rfl rfl (by first | trivial | omega) ?_
    refine s1 11 72 8 rfl rfl rfl rfl rfl rfl trivial ?_
    refine s1 3 80 9 rfl rfl rfl rfl rfl rfl trivial ?_
    refine e1 88 rfl ?_
    refine keep [1, 3] rfl ?_
    refine W_seq ?_
    refine W_block ?_
    refine r1 ?_
    refine s1 13 88 1 rfl rfl rfl rfl rfl rfl trivial ?_
    refine s1 14 96 2 rfl rfl rfl rfl rfl rfl (by first | trivial | omega) ?_
    refine s1 15 104 3 rfl rfl rfl rfl rfl rfl (by first | trivial | omega) ?_
    refine s1 16 112 4 rfl rfl rfl rfl rfl rfl trivial ?_
    refine ask 16 rfl (fun hg2_16 => ?_) (fun hg2_16 => ?_)
    · skip
      try simp only [cs, ne_eq] at hg2_16
      refine g0 3 false 16 17 5 rfl rfl rfl rfl rfl rfl ?_
      refine g0 3 false 16 18 6 rfl rfl rfl rfl rfl rfl ?_
      refine g0 3 false 16 19 7 rfl rfl rfl rfl rfl rfl ?_
      refine s1 20 144 8 rfl rfl rfl rfl rfl rfl trivial ?_
      refine s1 12 152 9 rfl rfl rfl rfl rfl rfl trivial ?_
      refine e1 160 rfl ?_
      refine keep [1, 3, 12] rfl ?_
      refine q1 rfl (fun hc2 => ?_) (fun hc2 => ?_)
      · skip
        try simp only [cs, ne_eq] at hc2
        refine r1 ?_
        refine s1 2 160 1 rfl rfl rfl rfl rfl rfl trivial ?_
        refine e1 168 rfl ?_
        refine keep [2] rfl ?_
        refine W_ret ?_
        refine br ?_
        refine tr ?_
        exact out1 2 (SV.i (faultB m)) (π := []) (hout := []) Try.results47 rfl (by first | (exfalso; omega) | exact congrArg SV.i (f3 (by omega)).symm | exact congrArg SV.i (f4k (by omega) (by omega) (by assumption)).symm | exact congrArg SV.i (f4v (by omega) (by omega) (by assumption) (by assumption)).symm | exact congrArg SV.i (f4s (by omega) (by omega) (by assumption) (by assumption)).symm | exact congrArg SV.i (f0l (by omega) (by omega) (by assumption) (by assumption)).symm | exact congrArg SV.i (f0h (by omega) (by omega) (by assumption) (by assumption)).symm) rfl rfl trivial ⟨rfl, rfl⟩
      · skip
        exact absurd hc2 (by decide)
    · skip
      try simp only [cs, ne_eq] at hg2_16
      refine g1 3 false 16 17 5 rfl rfl rfl rfl rfl ?_
      refine s1 17 120 5 rfl rfl rfl rfl rfl rfl trivial ?_
      refine g1 3 false 16 18 6 rfl rfl rfl rfl rfl ?_
      refine s1 18 128 6 rfl rfl rfl rfl rfl rfl (by first | trivial | omega) ?_
      refine g1 3 false 16 19 7 rfl rfl rfl rfl rfl ?_
      refine s1 19 136 7 rfl rfl rfl rfl rfl rfl (by first | trivial | omega) ?_
      refine s1 20 144 8 rfl rfl rfl rfl rfl rfl trivial ?_
      refine s1 12 152 9 rfl rfl rfl rfl rfl rfl trivial ?_
      refine e1 160 rfl ?_
      refine keep [1, 3, 12] rfl ?_
      refine q1 rfl (fun hc2 => ?_) (fun hc2 => ?_)
      · skip
        try simp only [cs, ne_eq] at hc2
        refine r1 ?_
        refine s1 2 160 1 rfl rfl rfl rfl rfl rfl trivial ?_
        refine e1 168 rfl ?_
        refine keep [2] rfl ?_
        refine W_ret ?_
        refine br ?_
        refine tr ?_
        exact out1 2 (SV.i (faultB m)) (π := []) (hout := []) Try.results47 rfl (by first | (exfalso; omega) | exact congrArg SV.i (f3 (by omega)).symm | exact congrArg SV.i (f4k (by omega) (by omega) (by assumption)).symm | exact congrArg SV.i (f4v (by omega) (by omega) (by assumption) (by assumption)).symm | exact congrArg SV.i (f4s (by omega) (by omega) (by assumption) (by assumption)).symm | exact congrArg SV.i (f0l (by omega) (by omega) (by assumption) (by assumption)).symm | exact congrArg SV.i (f0h (by omega) (by omega) (by assumption) (by assumption)).symm) rfl rfl trivial ⟨rfl, rfl⟩
      · skip
        try simp only [cs, ne_eq] at hc2
        refine W_seq ?_
        refine r1 ?_
        refine s1 22 160 1 rfl rfl rfl rfl rfl rfl trivial ?_
        refine s1 23 168 2 rfl rfl rfl rfl rfl rfl trivial ?_
        refine s1 24 176 3 rfl rfl rfl rfl rfl rfl (by first | trivial | omega) ?_
        refine c1 (name_any m.key hmk) [] [] 25 184 4 rfl rfl rfl rfl rfl rfl rfl rfl Try.func40 rfl rfl rfl rfl trivial rfl rfl ?_
        refine s1 26 192 5 rfl rfl rfl rfl rfl rfl trivial ?_
        refine s1 21 200 6 rfl rfl rfl rfl rfl rfl trivial ?_
        refine e1 208 rfl ?_
        refine keep [1, 3, 21] rfl ?_
        refine q1 rfl (fun hc4 => ?_) (fun hc4 => ?_)
        · skip
          try simp only [cs, ne_eq] at hc4
          refine W_skip ?_
          refine tn ?_
          refine q1 rfl (fun hc4 => ?_) (fun hc4 => ?_)
          · skip
            try simp only [cs, ne_eq] at hc4
            refine r1 ?_
            refine s1 2 208 1 rfl rfl rfl rfl rfl rfl trivial ?_
            refine e1 216 rfl ?_
            refine keep [2] rfl ?_
            refine W_ret ?_
            refine br ?_
            refine tr ?_
            exact out1 2 (SV.i (faultB m)) (π := []) (hout := []) Try.results47 rfl (by first | (exfalso; omega) | exact congrArg SV.i (f3 (by omega)).symm | exact congrArg SV.i (f4k (by omega) (by omega) (by assumption)).symm | exact congrArg SV.i (f4v (by omega) (by omega) (by assumption) (by assumption)).symm | exact congrArg SV.i (f4s (by omega) (by omega) (by assumption) (by assumption)).symm | exact congrArg SV.i (f0l (by omega) (by omega) (by assumption) (by assumption)).symm | exact congrArg SV.i (f0h (by omega) (by omega) (by assumption) (by assumption)).symm) rfl rfl trivial ⟨rfl, rfl⟩
          · skip
            try simp only [cs, ne_eq] at hc4
            exfalso; first | omega | contradiction | (simp_all; done)
        · skip
          try simp only [cs, ne_eq] at hc4
          refine r1 ?_
          refine s1 27 208 1 rfl rfl rfl rfl rfl rfl trivial ?_
          refine s1 28 216 2 rfl rfl rfl rfl rfl rfl trivial ?_
          refine ask 28 rfl (fun hg5_28 => ?_) (fun hg5_28 => ?_)
          · skip
            try simp only [cs, ne_eq] at hg5_28
            refine g1 1 true 28 29 3 rfl rfl rfl rfl rfl ?_
            refine s1 29 224 3 rfl rfl rfl rfl rfl rfl trivial ?_
            refine g1 1 true 28 30 4 rfl rfl rfl rfl rfl ?_
            refine s1 30 232 4 rfl rfl rfl rfl rfl rfl trivial ?_
            refine g1 1 true 28 31 5 rfl rfl rfl rfl rfl ?_
            refine s1 31 240 5 rfl rfl rfl rfl rfl rfl (by first | trivial | omega) ?_
            refine g1 1 true 28 32 6 rfl rfl rfl rfl rfl ?_
            refine c1 (name_any m.val hmv) [] [] 32 248 6 rfl rfl rfl rfl rfl rfl rfl rfl Try.func40 rfl rfl rfl rfl trivial rfl rfl ?_
            refine g1 1 true 28 33 7 rfl rfl rfl rfl rfl ?_
            refine s1 33 256 7 rfl rfl rfl rfl rfl rfl trivial ?_
            refine s1 34 264 8 rfl rfl rfl rfl rfl rfl trivial ?_
            refine s1 21 272 9 rfl rfl rfl rfl rfl rfl trivial ?_
            refine e1 280 rfl ?_
            refine keep [1, 3, 21] rfl ?_
            refine q1 rfl (fun hc5 => ?_) (fun hc5 => ?_)
            · skip
              try simp only [cs, ne_eq] at hc5
              refine W_skip ?_
              refine tn ?_
              refine q1 rfl (fun hc5 => ?_) (fun hc5 => ?_)
              · skip
                try simp only [cs, ne_eq] at hc5
                refine r1 ?_
                refine s1 2 280 1 rfl rfl rfl rfl rfl rfl trivial ?_
                refine e1 288 rfl ?_
                refine keep [2] rfl ?_
                refine W_ret ?_
                refine br ?_
                refine tr ?_
                exact out1 2 (SV.i (faultB m)) (π := []) (hout := []) Try.results47 rfl (by first | (exfalso; omega) | exact congrArg SV.i (f3 (by omega)).symm | exact congrArg SV.i (f4k (by omega) (by omega) (by assumption)).symm | exact congrArg SV.i (f4v (by omega) (by omega) (by assumption) (by assumption)).symm | exact congrArg SV.i (f4s (by omega) (by omega) (by assumption) (by assumption)).symm | exact congrArg SV.i (f0l (by omega) (by omega) (by assumption) (by assumption)).symm | exact congrArg SV.i (f0h (by omega) (by omega) (by assumption) (by assumption)).symm) rfl rfl trivial ⟨rfl, rfl⟩
              · skip
                try simp only [cs, ne_eq] at hc5
                exfalso; first | omega | contradiction | (simp_all; done)
            · skip
              try simp only [cs, ne_eq] at hc5
              refine r0 ?_
              refine s1 35 280 1 rfl rfl rfl rfl rfl rfl trivial ?_
              refine s1 36 288 2 rfl rfl rfl rfl rfl rfl trivial ?_
              refine s1 37 296 3 rfl rfl rfl rfl rfl rfl trivial ?_
              refine ask 37 rfl (fun hg6_37 => ?_) (fun hg6_37 => ?_)
              · skip
                try simp only [cs, ne_eq] at hg6_37
                refine g1 2 true 37 38 4 rfl rfl rfl rfl rfl ?_
                refine s1 38 304 4 rfl rfl rfl rfl rfl rfl trivial ?_
                refine g1 2 true 37 39 5 rfl rfl rfl rfl rfl ?_
                refine s1 39 312 5 rfl rfl rfl rfl rfl rfl trivial ?_
                refine g1 2 true 37 40 6 rfl rfl rfl rfl rfl ?_
                refine s1 40 320 6 rfl rfl rfl rfl rfl rfl (by first | trivial | omega) ?_
                refine g1 2 true 37 41 7 rfl rfl rfl rfl rfl ?_
                refine s1 41 328 7 rfl rfl rfl rfl rfl rfl (by first | trivial | omega) ?_
                refine s1 42 336 8 rfl rfl rfl rfl rfl rfl trivial ?_
                refine s1 21 344 9 rfl rfl rfl rfl rfl rfl trivial ?_
                refine e1 352 rfl ?_
                refine tn ?_
                refine q1 rfl (fun hc6 => ?_) (fun hc6 => ?_)
                · skip
                  try simp only [cs, ne_eq] at hc6
                  refine r1 ?_
                  refine s1 2 352 1 rfl rfl rfl rfl rfl rfl trivial ?_
                  refine e1 360 rfl ?_
                  refine keep [2] rfl ?_
                  refine W_ret ?_
                  refine br ?_
                  refine tr ?_
                  exact out1 2 (SV.i (faultB m)) (π := []) (hout := []) Try.results47 rfl (by first | (exfalso; omega) | exact congrArg SV.i (f3 (by omega)).symm | exact congrArg SV.i (f4k (by omega) (by omega) (by assumption)).symm | exact congrArg SV.i (f4v (by omega) (by omega) (by assumption) (by assumption)).symm | exact congrArg SV.i (f4s (by omega) (by omega) (by assumption) (by assumption)).symm | exact congrArg SV.i (f0l (by omega) (by omega) (by assumption) (by assumption)).symm | exact congrArg SV.i (f0h (by omega) (by omega) (by assumption) (by assumption)).symm) rfl rfl trivial ⟨rfl, rfl⟩
                · skip
                  try simp only [cs, ne_eq] at hc6
                  refine W_skip ?_
                  refine bn ?_
                  refine tn ?_
                  refine r1 ?_
                  refine s1 2 352 1 rfl rfl rfl rfl rfl rfl trivial ?_
                  refine e1 360 rfl ?_
                  refine keep [2] rfl ?_
                  refine W_ret ?_
                  exact out1 2 (SV.i (faultB m)) (π := []) (hout := []) Try.results47 rfl (by first | (exfalso; omega) | exact congrArg SV.i (f3 (by omega)).symm | exact congrArg SV.i (f4k (by omega) (by omega) (by assumption)).symm | exact congrArg SV.i (f4v (by omega) (by omega) (by assumption) (by assumption)).symm | exact congrArg SV.i (f4s (by omega) (by omega) (by assumption) (by assumption)).symm | exact congrArg SV.i (f0l (by omega) (by omega) (by assumption) (by assumption)).symm | exact congrArg SV.i (f0h (by omega) (by omega) (by assumption) (by assumption)).symm) rfl rfl trivial ⟨rfl, rfl⟩
              · skip
                try simp only [cs, ne_eq] at hg6_37
                refine g0 2 true 37 38 4 rfl rfl rfl rfl rfl rfl ?_
                refine g0 2 true 37 39 5 rfl rfl rfl rfl rfl rfl ?_
                refine g0 2 true 37 40 6 rfl rfl rfl rfl rfl rfl ?_
                refine g0 2 true 37 41 7 rfl rfl rfl rfl rfl rfl ?_
                refine s1 42 336 8 rfl rfl rfl rfl rfl rfl trivial ?_
                refine s1 21 344 9 rfl rfl rfl rfl rfl rfl trivial ?_
                refine e1 352 rfl ?_
                refine tn ?_
                refine q1 rfl (fun hc6 => ?_) (fun hc6 => ?_)
                · skip
                  exact absurd hc6 (by decide)
                · skip
                  try simp only [cs, ne_eq] at hc6
                  refine W_skip ?_
                  refine bn ?_
                  refine tn ?_
                  refine r1 ?_
                  refine s1 2 352 1 rfl rfl rfl rfl rfl rfl trivial ?_
                  refine e1 360 rfl ?_
                  refine keep [2] rfl ?_
                  refine W_ret ?_
                  exact out1 2 (SV.i (faultB m)) (π := []) (hout := []) Try.results47 rfl (by first | (exfalso; omega) | exact congrArg SV.i (f3 (by omega)).symm | exact congrArg SV.i (f4k (by omega) (by omega) (by assumption)).symm | exact congrArg SV.i (f4v (by omega) (by omega) (by assumption) (by assumption)).symm | exact congrArg SV.i (f4s (by omega) (by omega) (by assumption) (by assumption)).symm | exact congrArg SV.i (f0l (by omega) (by omega) (by assumption) (by assumption)).symm | exact congrArg SV.i (f0h (by omega) (by omega) (by assumption) (by assumption)).symm) rfl rfl trivial ⟨rfl, rfl⟩
          · skip
            try simp only [cs, ne_eq] at hg5_28
            refine g0 1 true 28 29 3 rfl rfl rfl rfl rfl rfl ?_
            refine g0 1 true 28 30 4 rfl rfl rfl rfl rfl rfl ?_
            refine g0 1 true 28 31 5 rfl rfl rfl rfl rfl rfl ?_
            refine g0 1 true 28 32 6 rfl rfl rfl rfl rfl rfl ?_
            refine g0 1 true 28 33 7 rfl rfl rfl rfl rfl rfl ?_
            refine s1 34 264 8 rfl rfl rfl rfl rfl rfl trivial ?_
            refine s1 21 272 9 rfl rfl rfl rfl rfl rfl trivial ?_
            refine e1 280 rfl ?_
            refine keep [1, 3, 21] rfl ?_
            refine q1 rfl (fun hc5 => ?_) (fun hc5 => ?_)
            · skip
              exact absurd hc5 (by decide)
            · skip
              try simp only [cs, ne_eq] at hc5
              refine r0 ?_
              refine s1 35 280 1 rfl rfl rfl rfl rfl rfl trivial ?_
              refine s1 36 288 2 rfl rfl rfl rfl rfl rfl trivial ?_
              refine s1 37 296 3 rfl rfl rfl rfl rfl rfl trivial ?_
              refine ask 37 rfl (fun hg6_37 => ?_) (fun hg6_37 => ?_)
              · skip
                try simp only [cs, ne_eq] at hg6_37
                refine g1 2 true 37 38 4 rfl rfl rfl rfl rfl ?_
                refine s1 38 304 4 rfl rfl rfl rfl rfl rfl trivial ?_
                refine g1 2 true 37 39 5 rfl rfl rfl rfl rfl ?_
                refine s1 39 312 5 rfl rfl rfl rfl rfl rfl trivial ?_
                refine g1 2 true 37 40 6 rfl rfl rfl rfl rfl ?_
                refine s1 40 320 6 rfl rfl rfl rfl rfl rfl (by first | trivial | omega) ?_
                refine g1 2 true 37 41 7 rfl rfl rfl rfl rfl ?_
                refine s1 41 328 7 rfl rfl rfl rfl rfl rfl (by first | trivial | omega) ?_
                refine s1 42 336 8 rfl rfl rfl rfl rfl rfl trivial ?_
                refine s1 21 344 9 rfl rfl rfl rfl rfl rfl trivial ?_
                refine e1 352 rfl ?_
                refine tn ?_
                refine q1 rfl (fun hc6 => ?_) (fun hc6 => ?_)
                · skip
                  try simp only [cs, ne_eq] at hc6
                  refine r1 ?_
                  refine s1 2 352 1 rfl rfl rfl rfl rfl rfl trivial ?_
                  refine e1 360 rfl ?_
                  refine keep [2] rfl ?_
                  refine W_ret ?_
                  refine br ?_
                  refine tr ?_
                  exact out1 2 (SV.i (faultB m)) (π := []) (hout := []) Try.results47 rfl (by first | (exfalso; omega) | exact congrArg SV.i (f3 (by omega)).symm | exact congrArg SV.i (f4k (by omega) (by omega) (by assumption)).symm | exact congrArg SV.i (f4v (by omega) (by omega) (by assumption) (by assumption)).symm | exact congrArg SV.i (f4s (by omega) (by omega) (by assumption) (by assumption)).symm | exact congrArg SV.i (f0l (by omega) (by omega) (by assumption) (by assumption)).symm | exact congrArg SV.i (f0h (by omega) (by omega) (by assumption) (by assumption)).symm) rfl rfl trivial ⟨rfl, rfl⟩
                · skip
                  try simp only [cs, ne_eq] at hc6
                  refine W_skip ?_
                  refine bn ?_
                  refine tn ?_
                  refine r1 ?_
                  refine s1 2 352 1 rfl rfl rfl rfl rfl rfl trivial ?_
                  refine e1 360 rfl ?_
                  refine keep [2] rfl ?_
                  refine W_ret ?_
                  exact out1 2 (SV.i (faultB m)) (π := []) (hout := []) Try.results47 rfl (by first | (exfalso; omega) | exact congrArg SV.i (f3 (by omega)).symm | exact congrArg SV.i (f4k (by omega) (by omega) (by assumption)).symm | exact congrArg SV.i (f4v (by omega) (by omega) (by assumption) (by assumption)).symm | exact congrArg SV.i (f4s (by omega) (by omega) (by assumption) (by assumption)).symm | exact congrArg SV.i (f0l (by omega) (by omega) (by assumption) (by assumption)).symm | exact congrArg SV.i (f0h (by omega) (by omega) (by assumption) (by assumption)).symm) rfl rfl trivial ⟨rfl, rfl⟩
              · skip
                try simp only [cs, ne_eq] at hg6_37
                refine g0 2 true 37 38 4 rfl rfl rfl rfl rfl rfl ?_
                refine g0 2 true 37 39 5 rfl rfl rfl rfl rfl rfl ?_
                refine g0 2 true 37 40 6 rfl rfl rfl rfl rfl rfl ?_
                refine g0 2 true 37 41 7 rfl rfl rfl rfl rfl rfl ?_
                refine s1 42 336 8 rfl rfl rfl rfl rfl rfl trivial ?_
                refine s1 21 344 9 rfl rfl rfl rfl rfl rfl trivial ?_
                refine e1 352 rfl ?_
                refine tn ?_
                refine q1 rfl (fun hc6 => ?_) (fun hc6 => ?_)
                · skip
                  exact absurd hc6 (by decide)
                · skip
                  try simp only [cs, ne_eq] at hc6
                  refine W_skip ?_
                  refine bn ?_
                  refine tn ?_
                  refine r1 ?_
                  refine s1 2 352 1 rfl rfl rfl rfl rfl rfl trivial ?_
                  refine e1 360 rfl ?_
                  refine keep [2] rfl ?_
                  refine W_ret ?_
                  exact out1 2 (SV.i (faultB m)) (π := []) (hout := []) Try.results47 rfl (by first | (exfalso; omega) | exact congrArg SV.i (f3 (by omega)).symm | exact congrArg SV.i (f4k (by omega) (by omega) (by assumption)).symm | exact congrArg SV.i (f4v (by omega) (by omega) (by assumption) (by assumption)).symm | exact congrArg SV.i (f4s (by omega) (by omega) (by assumption) (by assumption)).symm | exact congrArg SV.i (f0l (by omega) (by omega) (by assumption) (by assumption)).symm | exact congrArg SV.i (f0h (by omega) (by omega) (by assumption) (by assumption)).symm) rfl rfl trivial ⟨rfl, rfl⟩

theorem select_any (ss : List (List TagD)) (ms : List MatD) (hin : TagsIn ss) (hms : MatsIn ms) (p : Bool) (hp : p = true ↔ TagsOk ss) : Spec Try.prog GT 22 [serV ss ss.length, matsV ms] [] (fun r ho => r = SV.tup [intsV (selP p ss ms).1, SV.i (selP p ss ms).2] ∧ ho = []) := by
  have hmn := hms.n
  refine start 59 0 Try.func22 rfl rfl rfl rfl ?_
  refine r1 ?_
  refine s1 4 0 1 rfl rfl rfl rfl rfl rfl trivial ?_
  refine s1 5 8 2 rfl rfl rfl rfl rfl rfl trivial ?_
  refine e1 16 rfl ?_
  refine keep [0, 1] rfl ?_
  refine W_seq ?_
  refine W_block ?_
  refine r1 ?_
  refine s1 13 16 1 rfl rfl rfl rfl rfl rfl trivial ?_
  refine c1 (tagsMay_any ss hin p hp) [] [] 14 24 2 rfl rfl rfl rfl rfl rfl rfl rfl Try.func20 rfl rfl rfl rfl trivial rfl rfl ?_
  refine s1 15 32 3 rfl rfl rfl rfl rfl rfl trivial ?_
  refine s1 12 40 4 rfl rfl rfl rfl rfl rfl trivial ?_
  refine e1 48 rfl ?_
  refine keep [0, 1, 12] rfl ?_
  refine q1 rfl (fun hc1 => ?_) (fun hc1 => ?_)
  · skip
    try simp only [cs, ne_eq] at hc1
    refine r1 ?_
    refine s1 4 48 1 rfl rfl rfl rfl rfl rfl trivial ?_
    refine s1 5 56 2 rfl rfl rfl rfl rfl rfl trivial ?_
    refine e1 64 rfl ?_
    refine keep [4, 5] rfl ?_
    refine nilv 4 1 (intsF []) rfl ?_
    refine W_ret ?_
    refine br ?_
    refine tr ?_
    exact out2 4 5 (intsV (selP p ss ms).1) (SV.i (selP p ss ms).2) (π := []) (hout := []) Try.results22 rfl rfl (by rw [sel_form (by simpa using hc1)]; rfl) (by rw [sel_form (by simpa using hc1)]; rfl) rfl rfl trivial ⟨rfl, rfl⟩
  · skip
    try simp only [cs, ne_eq] at hc1
    refine r1 ?_
    refine s1 17 48 1 rfl rfl rfl rfl rfl rfl trivial ?_
    refine s1 18 56 2 rfl rfl rfl rfl rfl rfl (by first | trivial | omega) ?_
    refine s1 19 64 3 rfl rfl rfl rfl rfl rfl (by first | trivial | omega) ?_
    refine s1 16 72 4 rfl rfl rfl rfl rfl rfl trivial ?_
    refine e1 80 rfl ?_
    refine keep [0, 1, 16] rfl ?_
    refine q1 rfl (fun hc3 => ?_) (fun hc3 => ?_)
    · skip
      try simp only [cs, ne_eq] at hc3
      refine r1 ?_
      refine s1 4 80 1 rfl rfl rfl rfl rfl rfl trivial ?_
      refine s1 5 88 2 rfl rfl rfl rfl rfl rfl trivial ?_
      refine e1 96 rfl ?_
      refine keep [4, 5] rfl ?_
      refine nilv 4 1 (intsF []) rfl ?_
      refine W_ret ?_
      refine br ?_
      refine tr ?_
      exact out2 4 5 (intsV (selP p ss ms).1) (SV.i (selP p ss ms).2) (π := []) (hout := []) Try.results22 rfl rfl (by rw [sel_size (by simpa using hc1) (by omega)]; rfl) (by rw [sel_size (by simpa using hc1) (by omega)]; rfl) rfl rfl trivial ⟨rfl, rfl⟩
    · skip
      try simp only [cs, ne_eq] at hc3
      refine W_skip ?_
      refine bn ?_
      refine tn ?_
      have hpt : p = true := (by simpa using hc1)
      have hok := hp.1 hpt
      have h40 := hok.1
      have h6 : ∀ i, i < ss.length → (ss.getD i []).length ≤ 6 := fun i hi => (hok.2 i hi).len
      refine r1 ?_
      refine s1 20 80 1 rfl rfl rfl rfl rfl rfl trivial ?_
      refine cQ (tindex_any ss hin h40 h6) [] 21 88 2 rfl rfl rfl rfl rfl rfl rfl Try.func46 rfl rfl rfl trivial ?_
      rintro _ _ ⟨Z, rfl, rfl⟩
      refine val 21 (.map 88) rfl rfl ?_
      refine hval 88 _ rfl (.fam Z ⟨famE (idxS ss ss.length), []⟩) rfl ?_
      refine s1 6 96 3 rfl rfl rfl rfl rfl rfl trivial ?_
      refine e1 104 rfl ?_
      refine keep [0, 1, 6] rfl ?_
      refine chval 88 _ rfl (congrArg (fun l => Blk.fam Z ⟨l, []⟩) (famE_frz (idxS ss ss.length))) ?_
      refine famFreeze 88 3 1 _ rfl ?_
      refine chval 88 (.map (mapE (idxS ss ss.length))) rfl (by rw [mapE_frz]) ?_
      refine r1 ?_
      refine s1 7 104 1 rfl rfl rfl rfl rfl rfl trivial ?_
      refine e1 112 rfl ?_
      refine keep [0, 1, 6, 7] rfl ?_
      refine W_seq ?_
      refine r1 ?_
      refine s1 22 112 1 rfl rfl rfl rfl rfl rfl trivial ?_
      refine s1 23 120 2 rfl rfl rfl rfl rfl rfl (by first | trivial | omega) ?_
      refine s1 24 128 3 rfl rfl rfl rfl rfl rfl trivial ?_
      refine e1 136 rfl ?_
      refine keep [1, 6, 7, 23, 24] rfl ?_
      refine W_block ?_
      refine ghostly 7 3 1 (intsF []) rfl ?_
      refine loop (α := Nat) 2 (fun n => [(1, matsV ms), (6, .map 1), (7, .sl 0 0 (selL ss ms 0 (n)).length), (23, SV.i ss.length), (24, SV.i (n))]) (fun n => [some (.rows 3 1 (selL ss ms 0 (n)).length (intsF (selL ss ms 0 (n)))), some (.map (mapE (idxS ss ss.length)))]) (fun n => (n) ≤ ss.length) (fun n => ss.length - (n)) (((0) : Nat)) [136, 88] (fun _ => rfl) (show (0) ≤ ss.length from (Nat.zero_le _)) rfl ⟨rfl, rfl, rfl, rfl, rfl, trivial⟩ ⟨rfl, rfl, trivial⟩ (fun n hx => ?_)
      show W _ _ _ ⟨tOf [(1, matsV ms), (6, .map 1), (7, .sl 0 0 (selL ss ms 0 n).length), (23, SV.i ss.length), (24, SV.i n)], hOf [some (.rows 3 1 (selL ss ms 0 n).length (intsF (selL ss ms 0 n))), some (.map (mapE (idxS ss ss.length)))], 2⟩
      have hx : n ≤ ss.length := hx
      have hsl := selL_len ss ms 0 n
      refine r1 ?_
      refine s1 25 2 1 rfl rfl rfl rfl rfl rfl (by first | trivial | omega) ?_
      refine e1 10 rfl ?_
      refine keep [1, 6, 7, 23, 24, 25] rfl ?_
      refine W_seq ?_
      refine q1 rfl (fun hc8 => ?_) (fun hc8 => ?_)
      · skip
        try simp only [cs, ne_eq] at hc8
        refine W_skip ?_
        refine tn ?_
        refine W_seq ?_
        refine W_block ?_
        refine r1 ?_
        refine s1 26 10 1 rfl rfl rfl rfl rfl rfl trivial ?_
        refine s1 8 18 2 rfl rfl rfl rfl rfl rfl trivial ?_
        refine e1 26 rfl ?_
        refine keep [1, 6, 7, 8, 23, 24] rfl ?_
        refine r0 ?_
        refine s1 27 26 1 rfl rfl rfl rfl rfl rfl trivial ?_
        refine s1 28 34 2 rfl rfl rfl rfl rfl rfl trivial ?_
        refine s1 29 42 3 rfl rfl rfl rfl rfl rfl trivial ?_
        refine s1 30 50 4 rfl rfl rfl rfl rfl rfl ⟨Nat.le_refl _, trivial, (by show (_ + 1) * 8 ≤ 140737488355328; omega), (by simp only [maxLen]; omega)⟩ ?_
        refine s1 7 58 5 rfl rfl rfl rfl rfl rfl trivial ?_
        refine e1 66 rfl ?_
        refine bn ?_
        refine tn ?_
        refine rowsc 50 (selL ss ms 0 (n + 1)).length (intsF (selL ss ms 0 (n + 1))) rfl (by rw [selL_zero]; simp) (fun i c hi hc => by rw [selL_zero]; exact ints_cat _ _ i c hi hc) ?_
        refine cval 7 (.sl 50 0 (selL ss ms 0 (n + 1)).length) rfl (by rw [selL_zero]; simp) ?_
        refine r0 ?_
        refine sA 31 66 1 rfl rfl rfl rfl rfl rfl rfl rfl rfl (by unfold inRange; omega) ?_
        refine s1 24 74 2 rfl rfl rfl rfl rfl rfl trivial ?_
        refine e1 82 rfl ?_
        refine tn ?_
        exact again ((n + 1 : Nat)) [50, 1] (show (n + 1) ≤ ss.length from (by omega)) (show ss.length - (n + 1) < ss.length - n from (by omega)) rfl ⟨rfl, rfl, rfl, rfl, rfl, trivial⟩ ⟨rfl, rfl, trivial⟩
      · skip
        try simp only [cs, ne_eq] at hc8
        refine W_exit ?_
        refine tx ?_
        refine tx ?_
        refine bx ?_
        refine tn ?_
        refine W_seq ?_
        obtain rfl : n = ss.length := (by omega)
        refine freeze 7 0 (selL ss ms 0 ss.length).length rfl rfl (Nat.le_refl _) ?_
        refine r1 ?_
        refine s1 32 10 1 rfl rfl rfl rfl rfl rfl trivial ?_
        refine s1 33 18 2 rfl rfl rfl rfl rfl rfl (by first | trivial | omega) ?_
        refine s1 34 26 3 rfl rfl rfl rfl rfl rfl trivial ?_
        refine e1 34 rfl ?_
        refine keep [6, 7, 32, 33, 34] rfl ?_
        refine W_block ?_
        refine loop (α := Nat) 1 (fun n => [(6, .map 0), (7, intsV (selL ss ms (n) ss.length)), (32, matsV ms), (33, SV.i ms.length), (34, SV.i (n))]) (fun n => [some (.map (mapE (idxS ss ss.length)))]) (fun n => (n) ≤ ms.length ∧ ∀ j, j < (n) → faultB (ms.getD j default) = 0) (fun n => ms.length - (n)) (((0) : Nat)) [1] (fun _ => rfl) (show (0) ≤ ms.length ∧ ∀ j, j < (0) → faultB (ms.getD j default) = 0 from ⟨Nat.zero_le _, fun j hj => by omega⟩) rfl ⟨rfl, rfl, rfl, rfl, rfl, trivial⟩ ⟨rfl, trivial⟩ (fun n hx => ?_)
        show W _ _ _ ⟨tOf [(6, .map 0), (7, intsV (selL ss ms n ss.length)), (32, matsV ms), (33, SV.i ms.length), (34, SV.i n)], hOf [some (.map (mapE (idxS ss ss.length)))], 1⟩
        have hx : n ≤ ms.length ∧ ∀ j, j < n → faultB (ms.getD j default) = 0 := hx
        obtain ⟨hn, hno⟩ := hx
        have hsl := selL_len ss ms n ss.length
        refine r1 ?_
        refine s1 35 1 1 rfl rfl rfl rfl rfl rfl (by first | trivial | omega) ?_
        refine e1 9 rfl ?_
        refine keep [6, 7, 32, 33, 34, 35] rfl ?_
        refine W_seq ?_
        refine q1 rfl (fun hc13 => ?_) (fun hc13 => ?_)
        · skip
          try simp only [cs, ne_eq] at hc13
          refine W_skip ?_
          refine tn ?_
          refine W_seq ?_
          refine W_block ?_
          refine r1 ?_
          refine s1 36 9 1 rfl rfl rfl rfl rfl rfl (by first | trivial | omega) ?_
          refine s1 37 17 2 rfl rfl rfl rfl rfl rfl (by first | trivial | omega) ?_
          refine val 37 (matV (ms.getD n default)) rfl (by first | rfl | (simp only [Nat.zero_add, Int.toNat_natCast]; rfl)) ?_
          refine s1 10 25 3 rfl rfl rfl rfl rfl rfl trivial ?_
          refine s0 33 4 rfl rfl rfl rfl rfl (by first | trivial | omega) ?_
          refine e1 41 rfl ?_
          refine keep [6, 7, 10, 32, 33, 34] rfl ?_
          refine W_seq ?_
          refine r1 ?_
          refine s1 38 41 1 rfl rfl rfl rfl rfl rfl (by first | trivial | omega) ?_
          refine c1 (fault_any (ms.getD n default) (hms.k n) (hms.v n)) [] [] 39 49 2 rfl rfl rfl rfl rfl rfl rfl rfl Try.func47 rfl rfl rfl rfl trivial rfl rfl ?_
          refine s1 11 57 3 rfl rfl rfl rfl rfl rfl trivial ?_
          refine e1 65 rfl ?_
          refine keep [6, 7, 10, 11, 32, 33, 34] rfl ?_
          refine r1 ?_
          refine s1 40 65 1 rfl rfl rfl rfl rfl rfl trivial ?_
          refine s1 41 73 2 rfl rfl rfl rfl rfl rfl (by first | trivial | omega) ?_
          refine e1 81 rfl ?_
          refine keep [6, 7, 10, 11, 32, 33, 34, 41] rfl ?_
          refine q1 rfl (fun hc16 => ?_) (fun hc16 => ?_)
          · skip
            try simp only [cs, ne_eq] at hc16
            refine r1 ?_
            refine s1 42 81 1 rfl rfl rfl rfl rfl rfl trivial ?_
            refine s1 4 89 2 rfl rfl rfl rfl rfl rfl trivial ?_
            refine s1 5 97 3 rfl rfl rfl rfl rfl rfl trivial ?_
            refine e1 105 rfl ?_
            refine keep [4, 5] rfl ?_
            refine nilv 4 1 (intsF []) rfl ?_
            refine W_ret ?_
            refine tr ?_
            refine br ?_
            refine tr ?_
            refine tr ?_
            refine br ?_
            refine tr ?_
            exact out2 4 5 (intsV (selP p ss ms).1) (SV.i (selP p ss ms).2) (π := []) (hout := []) Try.results22 rfl rfl (by rw [sel_fault hpt (by omega) (by omega) hno hc16]; rfl) (by rw [sel_fault hpt (by omega) (by omega) hno hc16]; rfl) rfl rfl trivial ⟨rfl, rfl⟩
          · skip
            try simp only [cs, ne_eq] at hc16
            refine W_skip ?_
            refine tn ?_
            have hf0 : faultB (ms.getD n default) = 0 := hc16
            refine rd0 rfl ?_
            refine d1 43 81 1 rfl rfl rfl rfl rfl rfl trivial ?_
            refine d1 44 89 2 rfl rfl rfl rfl rfl rfl trivial ?_
            refine d1 45 97 3 rfl rfl rfl rfl rfl rfl trivial ?_
            refine d1 46 105 4 rfl rfl rfl rfl rfl rfl (by first | trivial | omega) ?_
            refine dLookW (intsV (getE (idxS ss ss.length) (mtag (ms.getD n default)))) (idx2 (mtag (ms.getD n default)) (keysE (idxS ss ss.length))) _ (KM (idxS ss ss.length) (mtag (ms.getD n default))) rfl (look_weak (idxS ss ss.length) (mtag (ms.getD n default))) 47 113 5 rfl rfl rfl rfl rfl rfl Try.underlying64 rfl (fun M ρ u h => mat_key h) rfl (by kernel_rfl) rfl ?_
            refine d1 48 121 6 rfl rfl rfl rfl rfl rfl trivial ?_
            refine d1 49 129 7 rfl rfl rfl rfl rfl rfl (by first | trivial | omega) ?_
            refine d1 50 137 8 rfl rfl rfl rfl rfl rfl (by first | trivial | omega) ?_
            refine d1 51 145 9 rfl rfl rfl rfl rfl rfl trivial ?_
            refine ask 51 rfl (fun hg18_51 => ?_) (fun hg18_51 => ?_)
            · skip
              try simp only [cs, ne_eq] at hg18_51
              refine g0 8 false 51 52 10 rfl rfl rfl rfl rfl rfl ?_
              refine g0 8 false 51 53 11 rfl rfl rfl rfl rfl rfl ?_
              refine g0 8 false 51 54 12 rfl rfl rfl rfl rfl rfl ?_
              refine d1 55 177 13 rfl rfl rfl rfl rfl rfl trivial ?_
              refine val 55 (SV.b (decide ((ms.getD n default).kind = 1) || decide ((ms.getD n default).kind = 3))) rfl (by rw [decide_eq_true hg18_51]; rfl) ?_
              refine dc1 (both_any (selL ss ms n ss.length) (getE (idxS ss ss.length) (mtag (ms.getD n default))) (decide ((ms.getD n default).kind = 1) || decide ((ms.getD n default).kind = 3)) (by omega) (ascL_of (asc_S ss _ _)) (by have := bnd_get (bnd_S h6 ss.length (Nat.le_refl _)) (mtag (ms.getD n default)); omega)) [] [] 56 185 14 rfl rfl rfl rfl rfl rfl rfl rfl Try.func48 rfl rfl rfl rfl trivial rfl rfl ?_
              refine d1 7 193 15 rfl rfl rfl rfl rfl rfl trivial ?_
              refine de1 201 rfl (by kernel_rfl) ?_
              refine bn ?_
              refine tn ?_
              refine cval 7 (intsV (selL ss ms (n + 1) ss.length)) rfl (by rw [both_sel hok.2 hf0]; rfl) ?_
              refine r0 ?_
              refine sA 57 201 1 rfl rfl rfl rfl rfl rfl rfl rfl rfl (by unfold inRange; omega) ?_
              refine s1 34 209 2 rfl rfl rfl rfl rfl rfl trivial ?_
              refine e1 217 rfl ?_
              refine tn ?_
              exact again ((n + 1 : Nat)) [0] (show (n + 1) ≤ ms.length ∧ ∀ j, j < (n + 1) → faultB (ms.getD j default) = 0 from ⟨by omega, fun j hj => by by_cases e : j = n; (subst e; exact hf0); exact hno j (by omega)⟩) (show ms.length - (n + 1) < ms.length - n from (by omega)) rfl ⟨rfl, rfl, rfl, rfl, rfl, trivial⟩ ⟨rfl, trivial⟩
            · skip
              try simp only [cs, ne_eq] at hg18_51
              refine g1 8 false 51 52 10 rfl rfl rfl rfl rfl ?_
              refine d1 52 153 10 rfl rfl rfl rfl rfl rfl trivial ?_
              refine g1 8 false 51 53 11 rfl rfl rfl rfl rfl ?_
              refine d1 53 161 11 rfl rfl rfl rfl rfl rfl (by first | trivial | omega) ?_
              refine g1 8 false 51 54 12 rfl rfl rfl rfl rfl ?_
              refine d1 54 169 12 rfl rfl rfl rfl rfl rfl (by first | trivial | omega) ?_
              refine d1 55 177 13 rfl rfl rfl rfl rfl rfl trivial ?_
              refine val 55 (SV.b (decide ((ms.getD n default).kind = 1) || decide ((ms.getD n default).kind = 3))) rfl (by rw [decide_eq_false hg18_51]; first | rfl | (show SV.b _ = SV.b _; refine congrArg SV.b ?_; rw [Bool.eq_iff_iff]; simp)) ?_
              refine dc1 (both_any (selL ss ms n ss.length) (getE (idxS ss ss.length) (mtag (ms.getD n default))) (decide ((ms.getD n default).kind = 1) || decide ((ms.getD n default).kind = 3)) (by omega) (ascL_of (asc_S ss _ _)) (by have := bnd_get (bnd_S h6 ss.length (Nat.le_refl _)) (mtag (ms.getD n default)); omega)) [] [] 56 185 14 rfl rfl rfl rfl rfl rfl rfl rfl Try.func48 rfl rfl rfl rfl trivial rfl rfl ?_
              refine d1 7 193 15 rfl rfl rfl rfl rfl rfl trivial ?_
              refine de1 201 rfl (by kernel_rfl) ?_
              refine bn ?_
              refine tn ?_
              refine cval 7 (intsV (selL ss ms (n + 1) ss.length)) rfl (by rw [both_sel hok.2 hf0]; rfl) ?_
              refine r0 ?_
              refine sA 57 201 1 rfl rfl rfl rfl rfl rfl rfl rfl rfl (by unfold inRange; omega) ?_
              refine s1 34 209 2 rfl rfl rfl rfl rfl rfl trivial ?_
              refine e1 217 rfl ?_
              refine tn ?_
              exact again ((n + 1 : Nat)) [0] (show (n + 1) ≤ ms.length ∧ ∀ j, j < (n + 1) → faultB (ms.getD j default) = 0 from ⟨by omega, fun j hj => by by_cases e : j = n; (subst e; exact hf0); exact hno j (by omega)⟩) (show ms.length - (n + 1) < ms.length - n from (by omega)) rfl ⟨rfl, rfl, rfl, rfl, rfl, trivial⟩ ⟨rfl, trivial⟩
        · skip
          try simp only [cs, ne_eq] at hc13
          refine W_exit ?_
          refine tx ?_
          refine tx ?_
          refine bx ?_
          refine tn ?_
          obtain rfl : n = ms.length := (by omega)
          refine r1 ?_
          refine s1 58 9 1 rfl rfl rfl rfl rfl rfl trivial ?_
          refine s1 4 17 2 rfl rfl rfl rfl rfl rfl trivial ?_
          refine s1 5 25 3 rfl rfl rfl rfl rfl rfl trivial ?_
          refine e1 33 rfl ?_
          refine keep [4, 5] rfl ?_
          refine W_ret ?_
          exact out2 4 5 (intsV (selP p ss ms).1) (SV.i (selP p ss ms).2) (π := []) (hout := []) Try.results22 rfl rfl (by rw [sel_ok hpt (by omega) (fun j hj => hno j (by omega))]; rfl) (by rw [sel_ok hpt (by omega) (fun j hj => hno j (by omega))]; rfl) rfl rfl trivial ⟨rfl, rfl⟩

end Go.Proofs.Ytlhncpbcbpdcfaa.Nice
