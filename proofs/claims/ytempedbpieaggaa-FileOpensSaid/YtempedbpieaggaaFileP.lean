/- Files, as plain functions. -/
import Derived.Test.YtempedbpieaggaaU8
import Derived.Test.YtempedbpieaggaaAdlerPlain
namespace Go.Proofs.Ytempedbpieaggaa.Nice
open Go
set_option linter.unusedVariables false
set_option linter.unusedSimpArgs false
set_option maxRecDepth 100000
set_option maxHeartbeats 4000000
def u8B (l : List Int) : Blk := .rows 5 1 l.length (u8F l)
theorem bytes_drop {l : List Int} (h : Bytes l) (k : Nat) : Bytes (l.drop k) := by
  refine ⟨by rw [List.length_drop]; have := h.n; omega, fun j => ?_⟩
  have := h.b (k + j)
  simpa [List.getD, List.getElem?_drop] using this
theorem bytes_take {l : List Int} (h : Bytes l) (k : Nat) : Bytes (l.take k) := by
  refine ⟨by rw [List.length_take]; have := h.n; omega, fun j => ?_⟩
  rw [List.getD_eq_getElem?_getD, List.getElem?_take]
  split
  · rw [← List.getD_eq_getElem?_getD]; exact h.b j
  · exact ⟨by decide, by decide⟩
theorem u8F_drop (l : List Int) (k : Nat) : (fun r c => u8F l (k + r) c) = u8F (l.drop k) := by
  funext r c; unfold u8F; simp [List.getD, List.getElem?_drop]
theorem u8F_take (l : List Int) {n i : Nat} (h : i < n) (c : Nat) : u8F l i c = u8F (l.take n) i c := by
  unfold u8F; simp [List.getD, List.getElem?_take, h]
/-- A piece of bytes. -/
theorem piece_w {M : Imm} {ρ : Names} {l : List Int} {a n m : Nat} {z : Value} (hm : m = n) (hn : a + n ≤ l.length) (h : VR M ρ (.d (.vec 1 m (fun r c => u8F l (a + r) c))) z) : VR M ρ (u8V ((l.drop a).take n)) z := by
  subst hm
  rw [u8F_drop] at h
  have e : ((l.drop a).take m).length = m := by rw [List.length_take, List.length_drop]; omega
  unfold u8V; rw [e]
  exact VR.vec_congr h fun i c hi _ => u8F_take _ hi c
theorem piece0_w {M : Imm} {ρ : Names} {l : List Int} {n m : Nat} {z : Value} (hm : m = n) (hn : n ≤ l.length) (h : VR M ρ (.d (.vec 1 m (u8F l))) z) : VR M ρ (u8V (l.take n)) z := by
  subst hm
  have e : (l.take m).length = m := by rw [List.length_take]; omega
  unfold u8V; rw [e]
  exact VR.vec_congr h fun i c hi _ => u8F_take _ hi c
theorem drop_w {M : Imm} {ρ : Names} {l : List Int} {a m : Nat} {z : Value} (hm : m = l.length - a) (h : VR M ρ (.d (.vec 1 m (fun r c => u8F l (a + r) c))) z) : VR M ρ (u8V (l.drop a)) z := by
  subst hm
  rw [u8F_drop] at h
  unfold u8V; rw [List.length_drop]; exact h
/-- The number of bytes, the highest first. -/
def getB (l : List Int) : Int := l.foldl (fun n x => n * 256 + x) 0
theorem getB_take (l : List Int) (k : Nat) (h : k < l.length) : getB (l.take (k + 1)) = getB (l.take k) * 256 + l.getD k 0 := by
  rw [take_succ_getD l k h]; unfold getB; rw [List.foldl_append]; rfl
theorem getB_bd {l : List Int} (h : ∀ k, 0 ≤ l.getD k 0 ∧ l.getD k 0 ≤ 255) : ∀ k, k ≤ l.length → 0 ≤ getB (l.take k) ∧ getB (l.take k) < 256 ^ k
  | 0, _ => by rw [List.take_zero]; exact ⟨by decide, by decide⟩
  | k + 1, hk => by
    have ih := getB_bd h k (by omega)
    have := h k
    rw [getB_take l k (by omega), Int.pow_succ]
    omega
theorem shl8 {a : Int} (h0 : 0 ≤ a) (h1 : a < 281474976710656) : IntKind.i64.wrap (a * 2 ^ (min (8 : Int).toNat 64)) = a * 256 := by
  rw [show (2 : Int) ^ (min (8 : Int).toNat 64) = 256 from rfl]
  exact wrap_in ⟨by omega, by omega⟩
theorem shl16 {a : Int} (h0 : 0 ≤ a) (h1 : a < 65521) : IntKind.i64.wrap (a * 2 ^ (min (16 : Int).toNat 64)) = a * 65536 := by
  rw [show (2 : Int) ^ (min (16 : Int).toNat 64) = 65536 from rfl]
  exact wrap_in ⟨by omega, by omega⟩
theorem or8 {a x : Int} (h0 : 0 ≤ a) (h1 : a < 281474976710656) (h2 : 0 ≤ x) (h3 : x ≤ 255) : bits .or .i64 (a * 256) x = a * 256 + x := by
  obtain ⟨a, rfl⟩ := Int.eq_ofNat_of_zero_le h0
  obtain ⟨y, rfl⟩ := Int.eq_ofNat_of_zero_le h2
  rw [show (a : Int) * 256 = ((a * 256 : Nat) : Int) by omega, i64_or_nat _ _ (by omega) (by omega), nat_join 8 _ _ (by omega) (by omega)]
  omega
theorem pow256 {k : Nat} (h : k ≤ 6) : (256 : Int) ^ k ≤ 281474976710656 := by
  have h2 : 256 ^ k ≤ 256 ^ 6 := Nat.pow_le_pow_right (by decide) h
  have e : ((256 ^ k : Nat) : Int) = (256 : Int) ^ k := by simp
  have : (256 : Nat) ^ 6 = 281474976710656 := by decide
  omega
/-- The sum of bytes. -/
def adP (l : List Int) : Int × Int := adl (1, 0) l
def adO (l : List Int) : Int := (adP l).2 * 65536 + (adP l).1
theorem adP_bd (l : List Int) : 0 ≤ (adP l).1 ∧ (adP l).1 < 65521 ∧ 0 ≤ (adP l).2 ∧ (adP l).2 < 65521 := adl_bd _ _ (by decide) (by decide) (by decide) (by decide)
theorem adO_bd (l : List Int) : 0 ≤ adO l ∧ adO l < 4294967296 := by have := adP_bd l; unfold adO; omega
def adS (p : Int × Int) : SV := .agg [SV.i p.1, SV.i p.2]
theorem adl_take_bd (p : Int × Int) (l : List Int) (n : Nat) (h1 : 0 ≤ p.1 ∧ p.1 < 65521) (h2 : 0 ≤ p.2 ∧ p.2 < 65521) : 0 ≤ (adl p (l.take n)).1 ∧ (adl p (l.take n)).1 < 65521 ∧ 0 ≤ (adl p (l.take n)).2 ∧ (adl p (l.take n)).2 < 65521 := adl_bd _ _ h1.1 h1.2 h2.1 h2.2
theorem mod_tmod {x : Int} (h : 0 ≤ x) : x % 65521 = x.tmod 65521 := (Int.tmod_eq_emod_of_nonneg h).symm
/-- The first record. -/
structure FstR where
  e : Int
  body : List Int
def fstN (l : List Int) : Nat := (getB (l.take 2)).toNat
def fstB (l : List Int) : List Int := (l.drop 6).take (fstN l)
def fstS (l : List Int) : Int := getB ((l.drop 2).take 4)
def fstR (l : List Int) : FstR := if l.length < 6 then ⟨5, []⟩ else if 4000 < fstN l then ⟨1, []⟩ else if l.length < 6 + fstN l then ⟨5, []⟩ else if adO (fstB l) = fstS l then ⟨0, fstB l⟩ else ⟨10, []⟩
theorem fst_ok {l : List Int} (h : (fstR l).e = 0) : ¬ l.length < 6 ∧ ¬ 4000 < fstN l ∧ ¬ l.length < 6 + fstN l ∧ adO (fstB l) = fstS l ∧ (fstR l).body = fstB l ∧ (fstB l).length = fstN l := by
  have hl : ¬ l.length < 6 + fstN l → (fstB l).length = fstN l := fun h => by unfold fstB; rw [List.length_take, List.length_drop]; omega
  unfold fstR at *
  by_cases h1 : l.length < 6
  · rw [if_pos h1] at h; cases h
  · rw [if_neg h1] at h ⊢
    by_cases h2 : 4000 < fstN l
    · rw [if_pos h2] at h; cases h
    · rw [if_neg h2] at h ⊢
      by_cases h3 : l.length < 6 + fstN l
      · rw [if_pos h3] at h; cases h
      · rw [if_neg h3] at h ⊢
        by_cases h4 : adO (fstB l) = fstS l
        · rw [if_pos h4]; exact ⟨h1, h2, h3, h4, rfl, hl h3⟩
        · rw [if_neg h4] at h; cases h
theorem fst_short {l : List Int} (h : l.length < 6) : fstR l = ⟨5, []⟩ := by unfold fstR; rw [if_pos h]
theorem fst_size {l : List Int} (h : ¬ l.length < 6) (h2 : 4000 < fstN l) : fstR l = ⟨1, []⟩ := by unfold fstR; rw [if_neg h, if_pos h2]
theorem fst_short2 {l : List Int} (h : ¬ l.length < 6) (h2 : ¬ 4000 < fstN l) (h3 : l.length < 6 + fstN l) : fstR l = ⟨5, []⟩ := by unfold fstR; rw [if_neg h, if_neg h2, if_pos h3]
theorem fst_sum {l : List Int} (h : ¬ l.length < 6) (h2 : ¬ 4000 < fstN l) (h3 : ¬ l.length < 6 + fstN l) (h4 : ¬ adO (fstB l) = fstS l) : fstR l = ⟨10, []⟩ := by unfold fstR; rw [if_neg h, if_neg h2, if_neg h3, if_neg h4]
theorem fst_yes {l : List Int} (h : ¬ l.length < 6) (h2 : ¬ 4000 < fstN l) (h3 : ¬ l.length < 6 + fstN l) (h4 : adO (fstB l) = fstS l) : fstR l = ⟨0, fstB l⟩ := by unfold fstR; rw [if_neg h, if_neg h2, if_neg h3, if_pos h4]
theorem fstN_bd {l : List Int} (h : Bytes l) (h2 : 2 ≤ l.length) : getB (l.take 2) = (fstN l : Int) ∧ fstN l < 65536 := by
  have := getB_bd h.b 2 h2
  unfold fstN
  have e : (256 : Int) ^ 2 = 65536 := by decide
  omega
/-- A file, record by record. -/
structure OpenR where
  L : List (List Int)
  n : Int
  e : Int
def opn (l : List Int) : Nat → Nat → List (List Int) → OpenR
  | 0, n, L => ⟨L, n, 0⟩
  | f + 1, n, L => if l.length ≤ n then ⟨L, n, 0⟩ else if L.length = 200 then ⟨L, n, 8⟩ else if (fstR (l.drop n)).e ≠ 0 then ⟨L, n, (fstR (l.drop n)).e⟩ else opn l f (n + (6 + (fstR (l.drop n)).body.length)) (L ++ [(fstR (l.drop n)).body])
def opened (l : List Int) : OpenR := opn l 201 0 []
theorem opn_end {l : List Int} {f n : Nat} {L : List (List Int)} (h : l.length ≤ n) : opn l f n L = ⟨L, n, 0⟩ := by
  cases f with
  | zero => rfl
  | succ f => unfold opn; rw [if_pos h]
theorem opn_full {l : List Int} {f n : Nat} {L : List (List Int)} (hf : 0 < f) (h : ¬ l.length ≤ n) (h2 : L.length = 200) : opn l f n L = ⟨L, n, 8⟩ := by
  cases f with
  | zero => omega
  | succ f => unfold opn; rw [if_neg h, if_pos h2]
theorem opn_bad {l : List Int} {f n : Nat} {L : List (List Int)} (hf : 0 < f) (h : ¬ l.length ≤ n) (h2 : ¬ L.length = 200) {r : FstR} (hr : fstR (l.drop n) = r) (h3 : r.e ≠ 0) : opn l f n L = ⟨L, n, r.e⟩ := by
  subst hr
  cases f with
  | zero => omega
  | succ f => unfold opn; rw [if_neg h, if_neg h2, if_pos h3]
theorem opn_go {l : List Int} {f n : Nat} {L : List (List Int)} (hf : 0 < f) (h : ¬ l.length ≤ n) (h2 : ¬ L.length = 200) (h3 : (fstR (l.drop n)).e = 0) : opn l f n L = opn l (f - 1) (n + (6 + (fstR (l.drop n)).body.length)) (L ++ [(fstR (l.drop n)).body]) := by
  cases f with
  | zero => omega
  | succ f => rw [opn, if_neg h, if_neg h2, if_neg (by rw [h3]; simp)]; rfl
def lstF (L : List (List Int)) : Nat → Nat → D := fun i _ => .vec 1 (L.getD i []).length (u8F (L.getD i []))
def lstV (L : List (List Int)) : SV := .d (.vec 1 L.length (lstF L))
theorem lst_cat (L : List (List Int)) (b : List Int) (i c : Nat) (hi : i < L.length + 1) (hc : c < 1) : catR (lstF L) L.length (litR 1 [.vec 1 b.length (u8F b)]) i c = lstF (L ++ [b]) i c := by
  obtain rfl : c = 0 := by omega
  unfold catR lstF litR
  by_cases h : i < L.length
  · rw [if_pos h]; simp [List.getD, List.getElem?_append_left h]
  · obtain rfl : i = L.length := by omega
    rw [if_neg (Nat.lt_irrefl _)]; simp [List.getD]

end Go.Proofs.Ytempedbpieaggaa.Nice
