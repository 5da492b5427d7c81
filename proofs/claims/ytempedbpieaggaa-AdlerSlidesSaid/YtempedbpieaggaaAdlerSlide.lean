/- Contracts of adler.Slide and of the document's AdlerSlide, and the walk of the law AdlerSlides. -/
import Derived.Test.YtempedbpieaggaaAdlerSplit
import Derived.Outline
namespace Go.Proofs.Ytempedbpieaggaa
open Go Go.RowKit
set_option linter.unusedVariables false

/-- May a sum slide over so many bytes? -/
def mayS (n k : Int) : Prop := isSum n ∧ 1 ≤ k ∧ k ≤ 1048576
def slA (n o i : Int) : Int := (n % 65536 - o + i) % 65521
def slB (n k o i : Int) : Int := (n / 65536 - k * o - 1 + (n % 65536 - o + i)) % 65521
def slOut (n k o i : Int) : Int := 65536 * slB n k o i + slA n o i

theorem tmod_mod (x : Int) : (x.tmod 65521 + 65521) % 65521 = x % 65521 := by
  rw [Int.tmod_eq_emod]
  split <;> omega
theorem mulmod (k o : Int) : k % 65521 * o % 65521 = k * o % 65521 := by
  rw [Int.mul_emod, Int.emod_emod_of_dvd _ (Int.dvd_refl _), ← Int.mul_emod]
theorem slA_prog (n o i : Int) : (n % 65536 + 65521 - o + i) % 65521 = slA n o i := by unfold slA; omega
theorem slB_prog (n k o i : Int) : (n / 65536 + (n % 65536 + 65521 - o + i) % 65521 + 65521 - 1 + 65521 - k % 65521 * o) % 65521 = slB n k o i := by
  unfold slB; have := mulmod k o; generalize k % 65521 * o = m at *; generalize k * o = q at *; omega

theorem mod_any (x : Int) (h1 : -9223372036854700000 ≤ x) (h2 : x ≤ 9223372036854700000) (w : World) :
    Calls Try.prog 44 #[.int .i64 x] w fun e w' => e = .returned (.int .i64 (x % 65521)) ∧ w = w' := by
  have hm := Lib.hid (tmod_mod x)
  have hb : -65521 < x.tmod 65521 ∧ x.tmod 65521 < 65521 := by
    have := Int.tmod_lt_of_pos x (b := 65521) (by decide)
    have h3 := Int.lt_tmod_of_pos x (b := 65521) (by decide)
    omega
  go_enter Try.func44, Try.ntmps44
  go_wp2
  go_ret
  exact ⟨ret1_of hm.out, rfl⟩
theorem slide_yes (n k o i : Int) (w : World) (wf : (Lit.int .i64 n).wf = true) (h : mayS n k) (ho : 0 ≤ o ∧ o ≤ 255) (hi : 0 ≤ i ∧ i ≤ 255) :
    Calls Try.prog 25 #[.int .i64 n, .int .i64 k, .int .u8 o, .int .u8 i] w fun e w' => e = .returned (.tuple #[.int .i64 (slOut n k o i), .int .i64 0]) ∧ Below w.heap.size w w' := by
  obtain ⟨hs, hk0, hk1⟩ := h
  have Hs := Lib.hid hs
  have hs0 := hs.1
  have hs1 := hs.2.1
  have hs2 := hs.2.2
  clear hs
  have hp : 0 ≤ k % 65521 * o ∧ k % 65521 * o ≤ 16707600 := by
    have h1 : 0 ≤ k % 65521 := by omega
    have h2 : k % 65521 ≤ 65520 := by omega
    have h3 : k % 65521 * o ≤ 65520 * 255 := Int.mul_le_mul h2 ho.2 ho.1 (by decide)
    exact ⟨Int.mul_nonneg h1 ho.1, by omega⟩
  go_enter Try.func25, Try.ntmps25
  go_wp2_with fail
  refine (split_yes n wf Hs.out _).mono ?_
  rintro e w1 ⟨rfl, hb1⟩
  go_wp2_with fail
  refine (sum_any _ _ (by omega) (by omega) (by omega) (by omega) _).mono ?_
  rintro e w2 ⟨rfl, hb2⟩
  go_wp2_with fail
  go_ret2
  exact ⟨ret2_of (by unfold slOut; rw [← slB_prog, ← slA_prog]) rfl, (hb1.alloc hb1.size _).trans (hb2.mono (by have := hb1.size; simp; omega))⟩
theorem slide_no (n k o i : Int) (w : World) (wf : (Lit.int .i64 n).wf = true) (h : ¬ mayS n k) :
    Calls Try.prog 25 #[.int .i64 n, .int .i64 k, .int .u8 o, .int .u8 i] w fun e w' => e = .returned (.tuple #[.int .i64 0, .int .i64 2]) ∧ Below w.heap.size w w' := by
  by_cases hs : isSum n
  · have hk : k < 1 ∨ 1048576 < k := Classical.byContradiction fun hn => h ⟨hs, by omega, by omega⟩
    have Hs := Lib.hid hs
    clear hs h
    rcases hk with hk | hk
    · go_enter Try.func25, Try.ntmps25
      go_wp2_with fail
      refine (split_yes n wf Hs.out _).mono ?_
      rintro e w1 ⟨rfl, hb1⟩
      go_wp2_with fail
      go_ret2
      exact ⟨rfl, hb1.alloc hb1.size _⟩
    · go_enter Try.func25, Try.ntmps25
      go_wp2_with fail
      refine (split_yes n wf Hs.out _).mono ?_
      rintro e w1 ⟨rfl, hb1⟩
      go_wp2_with fail
      go_ret2
      exact ⟨rfl, hb1.alloc hb1.size _⟩
  · have Hs := Lib.hid hs
    clear hs h
    go_enter Try.func25, Try.ntmps25
    go_wp2_with fail
    refine (split_no n wf Hs.out _).mono ?_
    rintro e w1 ⟨rfl, hb1⟩
    go_wp2_with fail
    go_ret2
    exact ⟨rfl, hb1.alloc hb1.size _⟩
theorem rSlide_yes (n k o i : Int) (w : World) (wf : (Lit.int .i64 n).wf = true) (h : mayS n k) (ho : 0 ≤ o ∧ o ≤ 255) (hi : 0 ≤ i ∧ i ≤ 255) :
    Calls Try.prog 26 #[.int .i64 n, .int .i64 k, .int .u8 o, .int .u8 i] w fun e w' => e = .returned (.tuple #[.int .i64 (slOut n k o i), .int .i64 0]) ∧ w = w' := by
  obtain ⟨⟨hs0, hs1, hs2⟩, hk0, hk1⟩ := h
  have hp : 0 ≤ k * o ∧ k * o ≤ 267386880 := by
    have h3 : k * o ≤ 1048576 * 255 := Int.mul_le_mul hk1 ho.2 ho.1 (by decide)
    exact ⟨Int.mul_nonneg (by omega) ho.1, by omega⟩
  have hA : Hid (slA n o i = (n % 65536 - o + i) % 65521) := rfl
  have hB : Hid (slB n k o i = (n / 65536 - k * o - 1 + (n % 65536 - o + i)) % 65521) := rfl
  go_enter Try.func26, Try.ntmps26
  go_wp2_with fail
  refine (mod_any _ (by omega) (by omega) _).mono ?_
  rintro e w1 ⟨rfl, rfl⟩
  go_wp2_with fail
  refine (mod_any _ (by omega) (by omega) _).mono ?_
  rintro e w1 ⟨rfl, rfl⟩
  go_wp2_with fail
  go_ret2
  exact ⟨ret2_of (by unfold slOut; rw [hA.out, hB.out]) rfl, rfl⟩
theorem rSlide_no (n k o i : Int) (w : World) (wf : (Lit.int .i64 n).wf = true) (h : ¬ mayS n k) :
    Calls Try.prog 26 #[.int .i64 n, .int .i64 k, .int .u8 o, .int .u8 i] w fun e w' => e = .returned (.tuple #[.int .i64 0, .int .i64 2]) ∧ w = w' := by
  have hb := i64_bd wf
  unfold mayS isSum at h
  by_cases h0 : n < 0
  · clear h
    go_enter Try.func26, Try.ntmps26
    go_wp2_with fail
    go_ret2
    exact ⟨rfl, rfl⟩
  · have h0' : 0 ≤ n := by omega
    by_cases h1 : n % 65536 < 65521
    · by_cases h2 : n / 65536 < 65521
      · have hk : k < 1 ∨ 1048576 < k := by omega
        clear h
        rcases hk with hk | hk
        · go_enter Try.func26, Try.ntmps26
          go_wp2_with fail
          go_ret2
          exact ⟨rfl, rfl⟩
        · have hk' : 1 ≤ k := by omega
          go_enter Try.func26, Try.ntmps26
          go_wp2_with fail
          go_ret2
          exact ⟨rfl, rfl⟩
      · have h2' : 65521 ≤ n / 65536 := by omega
        clear h
        go_enter Try.func26, Try.ntmps26
        go_wp2_with fail
        go_ret2
        exact ⟨rfl, rfl⟩
    · have h1' : 65521 ≤ n % 65536 := by omega
      clear h
      go_enter Try.func26, Try.ntmps26
      go_wp2_with fail
      go_ret2
      exact ⟨rfl, rfl⟩
theorem adlerSlides_walk (a0 a1 a2 a3 : Int) (w : World) (w0 : (Lit.int .i64 a0).wf = true) (w1 : (Lit.int .i64 a1).wf = true) (w2 : (Lit.int .u8 a2).wf = true) (w3 : (Lit.int .u8 a3).wf = true) :
    Calls Try.prog 9 #[.int .i64 a0, .int .i64 a1, .int .u8 a2, .int .u8 a3] w fun e w' => e = .returned (.bool true) ∧ Below w.heap.size w w' := by
  by_cases h : mayS a0 a1
  · have H := Lib.hid h
    clear h
    go_enter Try.func9, Try.ntmps9
    go_wp2_with fail
    refine (slide_yes a0 a1 a2 a3 _ w0 H.out (u8_bd w2) (u8_bd w3)).mono ?_
    rintro e x1 ⟨rfl, hb1⟩
    go_wp2_with fail
    refine (rSlide_yes a0 a1 a2 a3 _ w0 H.out (u8_bd w2) (u8_bd w3)).mono ?_
    rintro e x2 ⟨rfl, rfl⟩
    go_wp2_with fail
    go_ret
    exact ⟨rfl, hb1⟩
  · have H := Lib.hid h
    clear h
    go_enter Try.func9, Try.ntmps9
    go_wp2_with fail
    refine (slide_no a0 a1 a2 a3 _ w0 H.out).mono ?_
    rintro e x1 ⟨rfl, hb1⟩
    go_wp2_with fail
    refine (rSlide_no a0 a1 a2 a3 _ w0 H.out).mono ?_
    rintro e x2 ⟨rfl, rfl⟩
    go_wp2_with fail
    go_ret
    exact ⟨rfl, hb1⟩
end Go.Proofs.Ytempedbpieaggaa
