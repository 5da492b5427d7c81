/- What decodes is what was encoded. -/
import Derived.Test.YtiedndnegmbkiaaDoorChunkDecR
namespace Go.Proofs.YtiedndnegmbkiaaDoor.Nice
open Go
set_option linter.unusedVariables false
set_option linter.unusedSimpArgs false
set_option maxRecDepth 100000
set_option maxHeartbeats 4000000

/-- The bits from n on, w of them. -/
def bl (l : List Int) (n w : Nat) : List Int := (List.range w).map fun i => bitB l (n + i)
theorem bl_len (l : List Int) (n w : Nat) : (bl l n w).length = w := by simp [bl]
theorem bl_bits (l : List Int) (n w : Nat) : AllBits (bl l n w) := by
  intro x hx
  obtain ⟨j, _, rfl⟩ := List.mem_map.1 hx
  exact bitB_bd l _
theorem bl_get (l : List Int) (n w i : Nat) : (bl l n w).getD i 0 = if i < w then bitB l (n + i) else 0 := by
  unfold bl
  by_cases h : i < w
  · rw [if_pos h]; simp [List.getD, h]
  · rw [if_neg h]; simp [List.getD, h]
theorem bl_cat (l : List Int) (n a b : Nat) : bl l n a ++ bl l (n + a) b = bl l n (a + b) := by
  unfold bl
  rw [List.range_add, List.map_append, List.map_map]
  congr 1
  exact List.map_congr_left fun i _ => by show bitB l (n + a + i) = bitB l (n + (a + i)); rw [Nat.add_assoc]
theorem num_bit (l : List Int) (n : Nat) : ∀ w j, j < w → numB l n w / 2 ^ (w - 1 - j) % 2 = bitB l (n + j)
  | 0, j, h => by omega
  | w + 1, j, h => by
    have hb := bitB_bd l (n + w)
    by_cases e : j = w
    · subst e
      rw [show j + 1 - 1 - j = 0 by omega, Int.pow_zero, Int.ediv_one]
      show (2 * numB l n j + bitB l (n + j)) % 2 = _
      omega
    · have ih := num_bit l n w j (by omega)
      rw [show w + 1 - 1 - j = (w - 1 - j) + 1 by omega, Int.pow_succ, Int.mul_comm, ← Int.ediv_ediv_of_nonneg (by decide)]
      show (2 * numB l n w + bitB l (n + w)) / 2 / _ % 2 = _
      rw [show (2 * numB l n w + bitB l (n + w)) / 2 = numB l n w by omega]
      exact ih
theorem bits_num (l : List Int) (n w : Nat) : bitsOf w (numB l n w) = bl l n w := by
  apply List.ext_getElem?
  intro j
  by_cases h : j < w
  · rw [bitsOf_get w j _ h, num_bit l n w j h]; simp [bl, h]
  · rw [List.getElem?_eq_none (by rw [bitsOf_length]; omega), List.getElem?_eq_none (by rw [bl_len]; omega)]
theorem zpre_bits {l : List Int} {n q m : Nat} (hn : n ≤ 8 * l.length) (h : zpre l 4 n 0 = (true, q, m)) : q ≤ 4 ∧ m = n + clW q ∧ bitsOf (clW q) (clH q) = bl l n (clW q) := by
  have hc : clW 0 = 1 ∧ clW 1 = 2 ∧ clW 2 = 3 ∧ clW 3 = 4 ∧ clW 4 = 4 := ⟨rfl, rfl, rfl, rfl, rfl⟩
  have b0 := bitB_bd l n; have b1 := bitB_bd l (n + 1); have b2 := bitB_bd l (n + 2); have b3 := bitB_bd l (n + 3)
  simp only [zpre, Nat.zero_add, Nat.reduceAdd, Nat.add_assoc] at h
  split at h
  · cases h
  split at h
  · next h0 =>
    cases h
    refine ⟨by omega, rfl, ?_⟩
    show [0] = [bitB l (n + 0)]
    rw [Nat.add_zero, h0]
  next e0 =>
  have b0 : bitB l n = 1 := by omega
  split at h
  · cases h
  split at h
  · next h0 =>
    cases h
    refine ⟨by omega, rfl, ?_⟩
    show [1, 0] = [bitB l (n + 0), bitB l (n + 1)]
    rw [Nat.add_zero, b0, h0]
  next e1 =>
  have b1 : bitB l (n + 1) = 1 := by omega
  split at h
  · cases h
  split at h
  · next h0 =>
    cases h
    refine ⟨by omega, rfl, ?_⟩
    show [1, 1, 0] = [bitB l (n + 0), bitB l (n + 1), bitB l (n + 2)]
    rw [Nat.add_zero, b0, b1, h0]
  next e2 =>
  have b2 : bitB l (n + 2) = 1 := by omega
  split at h
  · cases h
  split at h
  · next h0 =>
    cases h
    refine ⟨by omega, rfl, ?_⟩
    show [1, 1, 1, 0] = [bitB l (n + 0), bitB l (n + 1), bitB l (n + 2), bitB l (n + 3)]
    rw [Nat.add_zero, b0, b1, b2, h0]
  next e3 =>
  have b3 : bitB l (n + 3) = 1 := by omega
  cases h
  refine ⟨by omega, rfl, ?_⟩
  show [1, 1, 1, 1] = [bitB l (n + 0), bitB l (n + 1), bitB l (n + 2), bitB l (n + 3)]
  rw [Nat.add_zero, b0, b1, b2, b3]
theorem fold_unf {v : Int} (h : 0 ≤ v) : zFold (zUnf v) = v := by unfold zFold zUnf; repeat' split
                                                                  all_goals omega
theorem zgt_bits {l : List Int} {n : Nat} (hn : n ≤ 8 * l.length) (h : (zgt l n).e = 0) : n ≤ (zgt l n).at' ∧ zbits (zgt l n).x = bl l n ((zgt l n).at' - n) := by
  obtain ⟨f, q, m, hz⟩ : ∃ f q m, zpre l 4 n 0 = (f, q, m) := ⟨_, _, _, rfl⟩
  cases f with
  | false => rw [zgt_short hz] at h; exact absurd h (show ¬ (5 : Int) = 0 by decide)
  | true =>
    by_cases h2 : 8 * l.length < m + clB q
    · rw [zgt_short2 hz h2] at h; exact absurd h (show ¬ (5 : Int) = 0 by decide)
    by_cases h3 : cls (numB l m (clB q)) = q
    · rw [zgt_ok hz h2 h3]
      obtain ⟨hq, hm, hb⟩ := zpre_bits hn hz
      have hX := num59 l m (clB_59 q)
      refine ⟨by simp only []; omega, ?_⟩
      show zbits (zUnf (numB l m (clB q))) = bl l n (m + clB q - n)
      unfold zbits
      rw [fold_unf hX.1, h3, hb, bits_num, hm, bl_cat]
      congr 1; omega
    · rw [zgt_form hz h2 h3] at h; exact absurd h (show ¬ (4 : Int) = 0 by decide)
theorem numsN_pre (M : List Smp) (s : Smp) : ∀ k, k ≤ M.length → numsN (M ++ [s]) k = numsN M k
  | 0, _ => rfl
  | k + 1, h => by
    rw [numsN_succ, numsN_succ, numsN_pre M s k (by omega), lstN_pre M s k (by omega)]
    have : (M ++ [s]).getD k default = M.getD k default := by simp only [List.getD]; rw [List.getElem?_append_left (by omega)]
    rw [this]
theorem c_sample (a : Lst) (x y : Int) : cT a (sampleOf a x y) = x ∧ cV a (sampleOf a x y) = y := by
  unfold cT cV sampleOf
  by_cases h : a.n = 0
  · rw [if_pos h, if_pos h, if_pos h]; exact ⟨rfl, rfl⟩
  · rw [if_neg h, if_neg h, if_neg h]; exact ⟨by simp only []; omega, by simp only []; omega⟩
theorem decS_bits {l : List Int} (h0 : l.length ≠ 0) : ∀ k, (decS l k).e = 0 → (decS l k).M.length = k ∧ 8 ≤ (decS l k).n ∧ (decS l k).n ≤ 8 * l.length ∧ faultTo (decS l k).M k = 0 ∧ (numsN (decS l k).M k).flatMap zbits = bl l 8 ((decS l k).n - 8)
  | 0, _ => ⟨rfl, Nat.le_refl _, by show 8 ≤ _; omega, rfl, rfl⟩
  | k + 1, h => by
    have hp : (decS l k).e = 0 := by
      refine Decidable.by_contra fun e => ?_
      have : decS l (k + 1) = decS l k := by show decStep l k (decS l k) = _; unfold decStep; rw [if_pos e]
      rw [this] at h; exact e h
    obtain ⟨i1, i2, i3, i4, i5⟩ := decS_bits h0 k hp
    obtain ⟨M, n, e, hd⟩ : ∃ M n e, decS l k = ⟨M, n, e⟩ := ⟨_, _, _, rfl⟩
    rw [hd] at hp i1 i2 i3 i4 i5
    simp only [] at hp i1 i2 i3 i4 i5
    subst hp
    by_cases e1 : (zgt l n).e = 0
    · by_cases e2 : (zgt l (zgt l n).at').e = 0
      · by_cases e3 : lfault (lstN M k) (sampleOf (lstN M k) (zgt l n).x (zgt l (zgt l n).at').x) = 0
        · rw [dec_e4 hd e1 e2 e3]
          obtain ⟨z1, z2⟩ := zgt_bits i3 e1
          obtain ⟨z3, z4⟩ := zgt_bits (zgt_le l n i3) e2
          have hcs := c_sample (lstN M k) (zgt l n).x (zgt l (zgt l n).at').x
          refine ⟨by simp [i1], by simp only []; omega, zgt_le l _ (zgt_le l n i3), ?_, ?_⟩
          · subst i1
            show faultTo (M ++ [_]) (M.length + 1) = 0
            rw [faultTo_snoc M _ i4]; exact e3
          · simp only []
            rw [numsN_succ, numsN_pre M _ k (by omega), lstN_pre M _ k (by omega)]
            rw [show (M ++ [sampleOf (lstN M k) (zgt l n).x (zgt l (zgt l n).at').x]).getD k default = sampleOf (lstN M k) (zgt l n).x (zgt l (zgt l n).at').x by rw [← i1]; exact getD_last M _]
            rw [List.flatMap_append, i5, hcs.1, hcs.2]
            show bl l 8 (n - 8) ++ (zbits _ ++ (zbits _ ++ [])) = _
            rw [List.append_nil, z2, z4]
            have q1 : bl l n ((zgt l n).at' - n) = bl l (8 + (n - 8)) ((zgt l n).at' - n) := by congr 1; omega
            have q2 : bl l (zgt l n).at' ((zgt l (zgt l n).at').at' - (zgt l n).at') = bl l (8 + (n - 8 + ((zgt l n).at' - n))) ((zgt l (zgt l n).at').at' - (zgt l n).at') := by congr 1; omega
            rw [← List.append_assoc, q1, bl_cat, q2, bl_cat]
            congr 1; omega
        · have := dec_e3 hd e1 e2 e3; rw [this] at h; exact absurd h (by decide)
      · have := dec_e2 hd e1 e2; rw [this] at h; exact absurd h e2
    · have := dec_e1 hd e1; rw [this] at h; exact absurd h e1
theorem dec_enc {l : List Int} (h0 : l.length ≠ 0) {M : List Smp} {n : Nat} (hd : decS l (decN l) = ⟨M, n, 0⟩) : M.length = decN l ∧ 8 ≤ n ∧ n ≤ 8 * l.length ∧ faultTo M M.length = 0 ∧ encL M M.length = bl l 0 n := by
  have := decS_bits h0 (decN l) (by rw [hd])
  rw [hd] at this
  obtain ⟨i1, i2, i3, i4, i5⟩ := this
  simp only [] at i1 i2 i3 i4 i5
  refine ⟨i1, i2, i3, by rw [i1]; exact i4, ?_⟩
  rw [encL_eq, i1, i5]
  have hN : ((decN l : Nat) : Int) = numB l 0 8 := by unfold decN; have := (numB_bd l 0 8).1; omega
  rw [hN, bits_num, show bl l 8 (n - 8) = bl l (0 + 8) (n - 8) from rfl, bl_cat]
  congr 1; omega
theorem num_zero {l : List Int} {n : Nat} : ∀ w, numB l n w = 0 ↔ ∀ i, i < w → bitB l (n + i) = 0
  | 0 => ⟨fun _ i h => by omega, fun _ => rfl⟩
  | w + 1 => by
    have h1 := (numB_bd l n w).1
    have h2 := bitB_bd l (n + w)
    have ih := num_zero (l := l) (n := n) w
    constructor
    · intro h i hi
      have h' : 2 * numB l n w + bitB l (n + w) = 0 := h
      by_cases e : i = w
      · subst e; omega
      · exact ih.1 (by omega) i (by omega)
    · intro h
      have a := ih.2 fun i hi => h i (by omega)
      have b := h w (by omega)
      show 2 * numB l n w + bitB l (n + w) = 0
      omega
theorem byte_bits {l : List Int} (hl : Bytes l) (j : Nat) : bitB l (8 * j) * 128 + bitB l (8 * j + 1) * 64 + bitB l (8 * j + 2) * 32 + bitB l (8 * j + 3) * 16 + bitB l (8 * j + 4) * 8 + bitB l (8 * j + 5) * 4 + bitB l (8 * j + 6) * 2 + bitB l (8 * j + 7) = l.getD j 0 := by
  have := hl.b j
  have key : ∀ i, i < 8 → bitB l (8 * j + i) = l.getD j 0 / 2 ^ (7 - i) % 2 := fun i hi => by unfold bitB; rw [show (8 * j + i) / 8 = j by omega, show (8 * j + i) % 8 = i by omega]
  have k0 := key 0 (by omega)
  rw [Nat.add_zero] at k0
  rw [k0, key 1 (by omega), key 2 (by omega), key 3 (by omega), key 4 (by omega), key 5 (by omega), key 6 (by omega), key 7 (by omega)]
  generalize l.getD j 0 = x at *
  show x / 2 ^ 7 % 2 * 128 + x / 2 ^ 6 % 2 * 64 + x / 2 ^ 5 % 2 * 32 + x / 2 ^ 4 % 2 * 16 + x / 2 ^ 3 % 2 * 8 + x / 2 ^ 2 % 2 * 4 + x / 2 ^ 1 % 2 * 2 + x / 2 ^ 0 % 2 = x
  rw [show (2 : Int) ^ 7 = 128 by decide, show (2 : Int) ^ 6 = 64 by decide, show (2 : Int) ^ 5 = 32 by decide, show (2 : Int) ^ 4 = 16 by decide, show (2 : Int) ^ 3 = 8 by decide, show (2 : Int) ^ 2 = 4 by decide, show (2 : Int) ^ 1 = 2 by decide, show (2 : Int) ^ 0 = 1 by decide]
  omega
theorem pack_bit {L : List Int} (hL : AllBits L) (j r : Nat) (hr : r < 8) : packByte L j / 2 ^ (7 - r) % 2 = L.getD (8 * j + r) 0 := by
  have h0 := hL.getD (8 * j); have h1 := hL.getD (8 * j + 1); have h2 := hL.getD (8 * j + 2); have h3 := hL.getD (8 * j + 3)
  have h4 := hL.getD (8 * j + 4); have h5 := hL.getD (8 * j + 5); have h6 := hL.getD (8 * j + 6); have h7 := hL.getD (8 * j + 7)
  have e7 : (2 : Int) ^ 7 = 128 := by decide
  have e6 : (2 : Int) ^ 6 = 64 := by decide
  have e5 : (2 : Int) ^ 5 = 32 := by decide
  have e4 : (2 : Int) ^ 4 = 16 := by decide
  have e3 : (2 : Int) ^ 3 = 8 := by decide
  have e2 : (2 : Int) ^ 2 = 4 := by decide
  have e1 : (2 : Int) ^ 1 = 2 := by decide
  have e0 : (2 : Int) ^ 0 = 1 := by decide
  unfold packByte
  rcases (show r = 0 ∨ r = 1 ∨ r = 2 ∨ r = 3 ∨ r = 4 ∨ r = 5 ∨ r = 6 ∨ r = 7 by omega) with rfl | rfl | rfl | rfl | rfl | rfl | rfl | rfl
  · show _ / 2 ^ 7 % 2 = _; rw [e7]; show _ = L.getD (8 * j) 0; omega
  · show _ / 2 ^ 6 % 2 = _; rw [e6]; omega
  · show _ / 2 ^ 5 % 2 = _; rw [e5]; omega
  · show _ / 2 ^ 4 % 2 = _; rw [e4]; omega
  · show _ / 2 ^ 3 % 2 = _; rw [e3]; omega
  · show _ / 2 ^ 2 % 2 = _; rw [e2]; omega
  · show _ / 2 ^ 1 % 2 = _; rw [e1]; omega
  · show _ / 2 ^ 0 % 2 = _; rw [e0]; omega
theorem pack_iff {l : List Int} (hl : Bytes l) {n : Nat} (hn : n ≤ 8 * l.length) : pack (bl l 0 n) = l ↔ restOK l n := by
  unfold restOK
  constructor
  · intro h
    have hlen : (pack (bl l 0 n)).length = l.length := by rw [h]
    rw [pack_length, bl_len] at hlen
    refine ⟨(num_zero _).2 fun i hi => ?_, by omega⟩
    have hw : (8 * l.length - n) % 8 = 8 * l.length - n := by omega
    have hj : (n + i) / 8 < l.length := by omega
    have hg : l.getD ((n + i) / 8) 0 = packByte (bl l 0 n) ((n + i) / 8) := by
      have := pack_get (bl l 0 n) ((n + i) / 8)
      rw [h, bl_len, if_pos (by omega)] at this
      simp [List.getD, this]
    unfold bitB
    rw [hg, pack_bit (bl_bits l 0 n) _ _ (by omega), show 8 * ((n + i) / 8) + (n + i) % 8 = n + i by omega, bl_get, if_neg (by omega)]
  · rintro ⟨h1, h2⟩
    rw [num_zero] at h1
    have key : ∀ i, i < 8 * l.length → (bl l 0 n).getD i 0 = bitB l i := by
      intro i hi
      rw [bl_get]
      by_cases h : i < n
      · rw [if_pos h, Nat.zero_add]
      · rw [if_neg h]
        have := h1 (i - n) (by omega)
        rw [show n + (i - n) = i by omega] at this
        exact this.symm
    apply List.ext_getElem?
    intro j
    rw [pack_get, bl_len]
    by_cases hj : j < l.length
    · rw [if_pos (by omega)]
      have e : l[j]? = some (l.getD j 0) := by simp [List.getD, hj]
      rw [e, ← byte_bits hl j]
      unfold packByte
      rw [key _ (by omega), key _ (by omega), key _ (by omega), key _ (by omega), key _ (by omega), key _ (by omega), key _ (by omega), key _ (by omega)]
    · rw [if_neg (by omega), List.getElem?_eq_none (by omega)]
theorem smp_bd {M : List Smp} {k : Nat} (hf : faultTo M k = 0) (hMl : M.length = k) (j : Nat) : inB (M.getD j default).t ∧ inB (M.getD j default).v := by
  by_cases hj : j < k
  · exact ⟨(smp_at hf hj).1, (smp_at hf hj).2.1⟩
  · have e : M.getD j default = default := by rw [List.getD_eq_getElem?_getD, List.getElem?_eq_none (by omega)]; rfl
    rw [e]; exact ⟨⟨by decide, by decide⟩, ⟨by decide, by decide⟩⟩
theorem enc_iff {l : List Int} (hl : Bytes l) (h0 : l.length ≠ 0) {M : List Smp} {n : Nat} (hd : decS l (decN l) = ⟨M, n, 0⟩) : encB M = l ↔ restOK l n := by
  obtain ⟨_, _, h3, _, h5⟩ := dec_enc h0 hd
  unfold encB
  rw [h5]
  exact pack_iff hl h3

end Go.Proofs.YtiedndnegmbkiaaDoor.Nice
