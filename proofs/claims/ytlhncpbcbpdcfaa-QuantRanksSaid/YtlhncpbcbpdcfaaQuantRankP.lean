/- Ranks: plain facts. -/
import Derived.Test.YtlhncpbcbpdcfaaSortSpec
namespace Go.Proofs.Ytlhncpbcbpdcfaa.Nice
open Go
set_option linter.unusedVariables false
set_option linter.unusedSimpArgs false
set_option maxRecDepth 100000
set_option maxHeartbeats 4000000
def rankIx (n : Nat) (part tot : Int) : Nat := ((List.range n).find? fun (i : Nat) => decide (part * n ≤ ((i : Int) + 1) * tot)).getD n
theorem rank_eq {n p : Nat} {part tot : Int} (hp : p ≤ n) (h1 : ∀ k, k < p → ((k : Int) + 1) * tot < part * n) (h2 : p < n → part * n ≤ ((p : Int) + 1) * tot) : rankIx n part tot = p := by
  unfold rankIx
  by_cases h : p < n
  · have : (List.range n).find? (fun (i : Nat) => decide (part * n ≤ ((i : Int) + 1) * tot)) = some p := by
      rw [List.find?_range_eq_some]
      refine ⟨by rw [decide_eq_true_eq]; exact h2 h, by simpa using h, fun j hj => ?_⟩
      rw [Bool.not_eq_true', decide_eq_false_iff_not]; have := h1 j hj; omega
    rw [this]; rfl
  · have : (List.range n).find? (fun (i : Nat) => decide (part * n ≤ ((i : Int) + 1) * tot)) = none := by
      rw [List.find?_range_eq_none]
      intro j hj
      rw [Bool.not_eq_true', decide_eq_false_iff_not]; have := h1 j (by omega); omega
    rw [this]
    show n = p
    omega
theorem rank_is {n : Nat} {part tot : Int} (ht : 1 ≤ tot) (hpt : part ≤ tot) (hn : 0 < n) : rankIx n part tot < n ∧ part * n ≤ ((rankIx n part tot : Nat) + 1 : Int) * tot ∧ ∀ k, k < rankIx n part tot → ((k : Int) + 1) * tot < part * n := by
  unfold rankIx
  cases h : (List.range n).find? fun (i : Nat) => decide (part * n ≤ ((i : Int) + 1) * tot) with
  | some i =>
    rw [List.find?_range_eq_some] at h
    obtain ⟨h1, h2, h3⟩ := h
    refine ⟨by simpa using h2, by rw [decide_eq_true_eq] at h1; exact h1, fun k hk => ?_⟩
    have := h3 k hk
    rw [Bool.not_eq_true', decide_eq_false_iff_not] at this; omega
  | none =>
    exfalso
    rw [List.find?_range_eq_none] at h
    have := h (n - 1) (by omega)
    rw [Bool.not_eq_true', decide_eq_false_iff_not] at this
    apply this
    rw [show (((n - 1 : Nat) : Int) + 1) = n by omega, Int.mul_comm]
    exact Int.mul_le_mul_of_nonneg_left hpt (by omega)
def cntTo (l : List Int) (v : Int) : Nat → Nat
  | 0 => 0
  | m + 1 => cntTo l v m + if l.getD m 0 ≤ v then 1 else 0
theorem cnt_yes {l : List Int} {v : Int} {q : Nat} (h : l.getD q 0 ≤ v) : cntTo l v (q + 1) = cntTo l v q + 1 := by
  show cntTo l v q + (if l.getD q 0 ≤ v then 1 else 0) = _; rw [if_pos h]
theorem cnt_no {l : List Int} {v : Int} {q : Nat} (h : v < l.getD q 0) : cntTo l v (q + 1) = cntTo l v q := by
  show cntTo l v q + (if l.getD q 0 ≤ v then 1 else 0) = _; rw [if_neg (by omega)]; rfl
theorem cntTo_le (l : List Int) (v : Int) : ∀ m, cntTo l v m ≤ m
  | 0 => Nat.le_refl _
  | m + 1 => by have := cntTo_le l v m; unfold cntTo; split <;> omega
theorem cntTo_is (l : List Int) (v : Int) : ∀ m, m ≤ l.length → cntTo l v m = (l.take m).countP fun x => decide (x ≤ v)
  | 0, _ => by simp [cntTo]
  | m + 1, h => by
    unfold cntTo
    rw [cntTo_is l v m (by omega), List.take_add_one, List.getElem?_eq_getElem (by omega), List.countP_append]
    rw [show l.getD m 0 = l[m] from by simp [List.getD, show m < l.length by omega]]
    simp [List.countP_cons]
theorem cnt_all (l : List Int) (v : Int) : cntTo l v l.length = l.countP fun x => decide (x ≤ v) := by rw [cntTo_is l v _ (Nat.le_refl _), List.take_length]
def goodB (l : List Int) (part tot v : Int) : Bool := decide (part * l.length ≤ (cntTo l v l.length : Nat) * tot)
def best (l : List Int) (part tot : Int) : Nat → Int × Bool
  | 0 => (0, false)
  | n + 1 => if goodB l part tot (l.getD n 0) = true ∧ ((best l part tot n).2 = false ∨ l.getD n 0 < (best l part tot n).1) then (l.getD n 0, true) else best l part tot n
theorem best_yes {l : List Int} {part tot : Int} {n : Nat} (h : goodB l part tot (l.getD n 0) = true ∧ ((best l part tot n).2 = false ∨ l.getD n 0 < (best l part tot n).1)) : best l part tot (n + 1) = (l.getD n 0, true) := by
  show (if _ then _ else _) = _; rw [if_pos h]
theorem best_no {l : List Int} {part tot : Int} {n : Nat} (h : ¬ (goodB l part tot (l.getD n 0) = true ∧ ((best l part tot n).2 = false ∨ l.getD n 0 < (best l part tot n).1))) : best l part tot (n + 1) = best l part tot n := by
  show (if _ then _ else _) = _; rw [if_neg h]
theorem best_spec (l : List Int) (part tot : Int) : ∀ n, (∀ j, j < n → goodB l part tot (l.getD j 0) = true → (best l part tot n).2 = true ∧ (best l part tot n).1 ≤ l.getD j 0) ∧ ((best l part tot n).2 = true → ∃ j, j < n ∧ l.getD j 0 = (best l part tot n).1 ∧ goodB l part tot (l.getD j 0) = true)
  | 0 => ⟨fun j hj => by omega, fun h => by cases h⟩
  | n + 1 => by
    obtain ⟨h1, h2⟩ := best_spec l part tot n
    by_cases h : goodB l part tot (l.getD n 0) = true ∧ ((best l part tot n).2 = false ∨ l.getD n 0 < (best l part tot n).1)
    · rw [best_yes h]
      refine ⟨fun j hj hg => ⟨rfl, ?_⟩, fun _ => ⟨n, by omega, rfl, h.1⟩⟩
      show l.getD n 0 ≤ _
      by_cases e : j = n
      · subst e; exact Int.le_refl _
      · obtain ⟨k1, k2⟩ := h1 j (by omega) hg
        rcases h.2 with h3 | h3
        · rw [k1] at h3; cases h3
        · omega
    · rw [best_no h]
      refine ⟨fun j hj hg => ?_, fun hb => ?_⟩
      · by_cases e : j = n
        · subst e
          cases hb : (best l part tot j).2 with
          | false => exact absurd ⟨hg, .inl hb⟩ h
          | true =>
            refine ⟨rfl, ?_⟩
            apply Int.not_lt.1; intro hlt
            exact h ⟨hg, .inr hlt⟩
        · exact h1 j (by omega) hg
      · obtain ⟨j, hj, k1, k2⟩ := h2 hb
        exact ⟨j, by omega, k1, k2⟩
theorem srt_len (l : List Int) : (srt l).length = l.length := List.length_mergeSort _
theorem srt_asc (l : List Int) : ∀ i j, i ≤ j → j < l.length → (srt l).getD i 0 ≤ (srt l).getD j 0 := by
  intro i j hij hj
  have hp : List.Pairwise (fun a b : Int => decide (a ≤ b) = true) (srt l) := List.pairwise_mergeSort (fun a b c h1 h2 => by simp only [decide_eq_true_eq] at *; omega) (fun a b => by simp only [Bool.or_eq_true, decide_eq_true_eq]; omega) l
  have hl := srt_len l
  rcases Nat.lt_or_ge i j with h1 | h1
  · have := List.pairwise_iff_getElem.1 hp i j (by omega) (by omega) h1
    rw [decide_eq_true_eq] at this
    rw [show (srt l).getD i 0 = (srt l)[i]'(by omega) from by simp [List.getD, show i < (srt l).length by omega], show (srt l).getD j 0 = (srt l)[j]'(by omega) from by simp [List.getD, show j < (srt l).length by omega]]
    exact this
  · obtain rfl : i = j := by omega
    exact Int.le_refl _
theorem srt_perm (l : List Int) : (srt l).Perm l := List.mergeSort_perm _ _
theorem getD_mem {l : List Int} {i : Nat} (h : i < l.length) : l.getD i 0 ∈ l := by
  rw [show l.getD i 0 = l[i] from by simp [List.getD, h]]; exact List.getElem_mem h
theorem cnt_srt (l : List Int) (v : Int) : cntTo l v l.length = (srt l).countP fun x => decide (x ≤ v) := by rw [cnt_all]; exact ((srt_perm l).countP_eq _).symm
theorem cnt_ge (l : List Int) {i : Nat} (hi : i < l.length) : i + 1 ≤ cntTo l ((srt l).getD i 0) l.length := by
  rw [cnt_srt, ← List.take_append_drop (i + 1) (srt l), List.countP_append]
  rw [List.take_append_drop]
  have : ((srt l).take (i + 1)).countP (fun x => decide (x ≤ (srt l).getD i 0)) = ((srt l).take (i + 1)).length := by
    rw [List.countP_eq_length]
    intro a ha
    obtain ⟨j, hj, rfl⟩ := List.mem_iff_getElem.1 ha
    rw [List.length_take] at hj
    rw [decide_eq_true_eq, List.getElem_take]
    have := srt_asc l j i (by omega) hi
    rwa [show (srt l).getD j 0 = (srt l)[j]'(by omega) from by simp [List.getD, show j < (srt l).length by omega]] at this
  rw [this, List.length_take, srt_len]; omega
theorem cnt_lt (l : List Int) {i : Nat} (hi : i < l.length) {v : Int} (hv : v < (srt l).getD i 0) : cntTo l v l.length ≤ i := by
  rw [cnt_srt, ← List.take_append_drop i (srt l), List.countP_append]
  have : ((srt l).drop i).countP (fun x => decide (x ≤ v)) = 0 := by
    rw [List.countP_eq_zero]
    intro a ha
    obtain ⟨j, hj, rfl⟩ := List.mem_iff_getElem.1 ha
    rw [List.length_drop, srt_len] at hj
    rw [decide_eq_true_eq, List.getElem_drop]
    have := srt_asc l i (i + j) (by omega) (by omega)
    rw [show (srt l).getD (i + j) 0 = (srt l)[i + j]'(by rw [srt_len]; omega) from by simp [List.getD, show i + j < (srt l).length by rw [srt_len]; omega]] at this
    omega
  rw [this]
  have := List.countP_le_length (p := fun x => decide (x ≤ v)) (l := (srt l).take i)
  rw [List.length_take] at this; omega
theorem best_rank {l : List Int} {part tot : Int} (ht : 1 ≤ tot) (hpt : part ≤ tot) (hl : 0 < l.length) : (best l part tot l.length).1 = (srt l).getD (rankIx l.length part tot) 0 := by
  obtain ⟨r1, r2, r3⟩ := rank_is ht hpt hl
  obtain ⟨b1, b2⟩ := best_spec l part tot l.length
  generalize hp : rankIx l.length part tot = p at r1 r2 r3
  have hmem : (srt l).getD p 0 ∈ l := (srt_perm l).mem_iff.1 (getD_mem (by rw [srt_len]; exact r1))
  obtain ⟨j, hj, hje⟩ := List.mem_iff_getElem.1 hmem
  have hje : l.getD j 0 = (srt l).getD p 0 := by rw [show l.getD j 0 = l[j] from by simp [List.getD, hj]]; exact hje
  have hgood : goodB l part tot (l.getD j 0) = true := by
    unfold goodB
    rw [decide_eq_true_eq, hje]
    have h1 := cnt_ge l r1
    refine Int.le_trans r2 (Int.mul_le_mul_of_nonneg_right (by omega) (by omega))
  obtain ⟨k1, k2⟩ := b1 j hj hgood
  rw [hje] at k2
  obtain ⟨i, hi, e1, e2⟩ := b2 k1
  refine Int.le_antisymm k2 ?_
  apply Int.not_lt.1; intro hlt
  have h1 := cnt_lt l r1 hlt
  unfold goodB at e2
  rw [decide_eq_true_eq, e1] at e2
  have h2 : 1 ≤ cntTo l (best l part tot l.length).1 l.length := by
    rw [cnt_all]
    apply Nat.succ_le_of_lt
    rw [List.countP_pos_iff]
    exact ⟨l.getD i 0, getD_mem hi, by rw [decide_eq_true_eq, e1]; exact Int.le_refl _⟩
  have h3 := r3 (cntTo l (best l part tot l.length).1 l.length - 1) (by omega)
  rw [show (((cntTo l (best l part tot l.length).1 l.length - 1 : Nat) : Int) + 1) = (cntTo l (best l part tot l.length).1 l.length : Nat) by omega] at h3
  omega
def qrank (l : List Int) (part tot : Int) : Int × Int :=
  if 120 < l.length then (0, 1) else if shareB part tot = false then (0, 2) else if l.length = 0 then (0, 6) else ((srt l).getD (rankIx l.length part tot) 0, 0)
theorem qr_size {l : List Int} {part tot : Int} (h : 120 < l.length) : qrank l part tot = (0, 1) := by unfold qrank; rw [if_pos h]
theorem qr_range {l : List Int} {part tot : Int} (h : ¬ 120 < l.length) (h1 : shareB part tot = false) : qrank l part tot = (0, 2) := by unfold qrank; rw [if_neg h, if_pos h1]
theorem qr_none {l : List Int} {part tot : Int} (h : ¬ 120 < l.length) (h1 : shareB part tot = true) (h2 : l.length = 0) : qrank l part tot = (0, 6) := by unfold qrank; rw [if_neg h, if_neg (by rw [h1]; decide), if_pos h2]
theorem qr_ok {l : List Int} {part tot : Int} (h : ¬ 120 < l.length) (h1 : shareB part tot = true) (h2 : ¬ l.length = 0) : qrank l part tot = ((srt l).getD (rankIx l.length part tot) 0, 0) := by unfold qrank; rw [if_neg h, if_neg (by rw [h1]; decide), if_neg h2]
theorem pre_asc {n a b : Nat} {part tot : Int} (ht : 1 ≤ tot) (h : a ≤ b) (hb : ((b : Int) + 1) * tot < part * n) : ((a : Int) + 1) * tot < part * n :=
  Int.lt_of_le_of_lt (Int.mul_le_mul_of_nonneg_right (by omega) (by omega)) hb
theorem prod_in {a b : Int} (ha : 0 ≤ a) (hax : a ≤ 1000) (hb : 0 ≤ b) (hby : b ≤ 1048576) : inRange (a * b) := by
  have := mul_le ha hax hb hby; unfold inRange; omega

end Go.Proofs.Ytlhncpbcbpdcfaa.Nice
