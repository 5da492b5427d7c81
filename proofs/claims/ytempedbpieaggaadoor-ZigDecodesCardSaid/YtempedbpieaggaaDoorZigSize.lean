/- The code of a folded number as fields; contracts of zig.Size and of the document's zigFields and ZigSize; the walk of the law ZigSizes. -/
import Derived.Test.YtempedbpieaggaaDoorClasses
import Derived.Test.YtempedbpieaggaaDoorBitsRef
import Derived.Test.YtempedbpieaggaaDoorZigFold
namespace Go.Proofs.YtempedbpieaggaaDoor
open Go Go.RowKit
set_option linter.unusedVariables false

/-- The code of a folded number, as fields. -/
def zFields (x : Int) : List (Int × Int) :=
  if x = 0 then [(1, 0)] else if x < 64 then [(2, 2), (6, x)] else if x < 4096 then [(3, 6), (12, x)] else if x < 16777216 then [(4, 14), (24, x)] else [(4, 15), (59, x)]
theorem zFields_ok (x : Int) (h : 0 ≤ x) : okFields (zFields x) := by
  intro p hp
  unfold zFields at hp
  split at hp
  · simp at hp; subst hp; simp
  · split at hp
    · simp at hp; rcases hp with rfl | rfl <;> simp <;> omega
    · split at hp
      · simp at hp; rcases hp with rfl | rfl <;> simp <;> omega
      · split at hp
        · simp at hp; rcases hp with rfl | rfl <;> simp <;> omega
        · simp at hp; rcases hp with rfl | rfl <;> simp <;> omega
theorem zFields_len (x : Int) : (zFields x).length ≤ 2 := by
  unfold zFields; split
  · simp
  · split
    · simp
    · split
      · simp
      · split <;> simp
/-- The bits of a code. -/
def zBits (x : Int) : List Int := flat (zFields x)
def zSize (x : Int) : Int := if x = 0 then 1 else if x < 64 then 8 else if x < 4096 then 15 else if x < 16777216 then 28 else 63
theorem zBits_len (x : Int) : ((zBits x).length : Int) = zSize x := by
  unfold zBits zSize zFields
  split
  · simp [flat, bitsOf_length]
  · split
    · simp [flat, bitsOf_length]
    · split
      · simp [flat, bitsOf_length]
      · split <;> simp [flat, bitsOf_length]
theorem reads2_one (w : World) (t : TypeId) (a b : Int) (ha : (Lit.int .i64 a).wf = true) (hb : (Lit.int .i64 b).wf = true) :
    Reads2 (w.alloc (.cells #[.int .i64 a, .int .i64 b] t)) (w.heap.size + 1) (some ⟨w.heap.size, 0, none⟩) [(a, b)] := by
  have hk := Blk.new w t #[.int .i64 a, .int .i64 b]
  refine ⟨by simp [maxLen], by simpa using ⟨ha, hb⟩, fun _ => ⟨w.heap.size, 0, rfl, by omega, fun i hi => ?_⟩⟩
  obtain rfl : i = 0 := by simpa using hi
  exact ⟨hk.cell 0, hk.cell 1⟩
theorem reads2_two (w : World) (t : TypeId) (a b c d : Int) (ha : (Lit.int .i64 a).wf = true) (hb : (Lit.int .i64 b).wf = true) (hc : (Lit.int .i64 c).wf = true) (hd : (Lit.int .i64 d).wf = true) :
    Reads2 (w.alloc (.cells #[.int .i64 a, .int .i64 b, .int .i64 c, .int .i64 d] t)) (w.heap.size + 1) (some ⟨w.heap.size, 0, none⟩) [(a, b), (c, d)] := by
  have hk := Blk.new w t #[.int .i64 a, .int .i64 b, .int .i64 c, .int .i64 d]
  refine ⟨by simp [maxLen], ?_, fun _ => ⟨w.heap.size, 0, rfl, by omega, fun i hi => ?_⟩⟩
  · intro p hp
    simp only [List.mem_cons, List.not_mem_nil, or_false] at hp
    rcases hp with rfl | rfl
    · exact ⟨ha, hb⟩
    · exact ⟨hc, hd⟩
  · have : i = 0 ∨ i = 1 := by simp only [List.length_cons, List.length_nil] at hi; omega
    rcases this with rfl | rfl
    · exact ⟨hk.cell 0, hk.cell 1⟩
    · exact ⟨hk.cell 2, hk.cell 3⟩
set_option maxHeartbeats 1000000 in
theorem zigFields_any (x : Int) (h0 : 0 ≤ x) (h1 : x < 576460752303423488) (w : World) :
    Calls Tryd.prog 18 #[.int .i64 x] w fun e w' => ∃ a, e = .returned (.slice a (zFields x).length (zFields x).length) ∧ Reads2 w' w'.heap.size a (zFields x) ∧ Below w.heap.size w w' := by
  have hx : (Lit.int .i64 x).wf = true := wf_i64 (by omega) (by omega)
  by_cases c0 : x = 0
  · have e : zFields x = [(1, 0)] := by rw [zFields, if_pos c0]
    rw [e]
    clear e
    have t0 : (x == 0) = true := by simpa using c0
    go_enter Tryd.func18, Tryd.ntmps18
    go_wp2_with fail
    go_ret
    exact ⟨_, rfl, (reads2_one w _ 1 0 (by decide) (by decide)).more (by simp), (Below.refl _ _).alloc (Nat.le_refl _) _⟩
  · have t0 : (x == 0) = false := by simpa using c0
    by_cases c1 : x < 64
    · have e : zFields x = [(2, 2), (6, x)] := by rw [zFields, if_neg c0, if_pos c1]
      rw [e]
      clear e
      clear c0
      go_enter Tryd.func18, Tryd.ntmps18
      go_wp2_with fail
      go_ret
      exact ⟨_, rfl, (reads2_two w _ 2 2 6 x (by decide) (by decide) (by decide) hx).more (by simp), (Below.refl _ _).alloc (Nat.le_refl _) _⟩
    · by_cases c2 : x < 4096
      · have e : zFields x = [(3, 6), (12, x)] := by rw [zFields, if_neg c0, if_neg c1, if_pos c2]
        rw [e]
        clear e
        have d1 : 64 ≤ x := by omega
        clear c0 c1
        go_enter Tryd.func18, Tryd.ntmps18
        go_wp2_with fail
        go_ret
        exact ⟨_, rfl, (reads2_two w _ 3 6 12 x (by decide) (by decide) (by decide) hx).more (by simp), (Below.refl _ _).alloc (Nat.le_refl _) _⟩
      · by_cases c3 : x < 16777216
        · have e : zFields x = [(4, 14), (24, x)] := by rw [zFields, if_neg c0, if_neg c1, if_neg c2, if_pos c3]
          rw [e]
          clear e
          have d1 : 64 ≤ x := by omega
          have d2 : 4096 ≤ x := by omega
          clear c0 c1 c2
          go_enter Tryd.func18, Tryd.ntmps18
          go_wp2_with fail
          go_ret
          exact ⟨_, rfl, (reads2_two w _ 4 14 24 x (by decide) (by decide) (by decide) hx).more (by simp), (Below.refl _ _).alloc (Nat.le_refl _) _⟩
        · have e : zFields x = [(4, 15), (59, x)] := by rw [zFields, if_neg c0, if_neg c1, if_neg c2, if_neg c3]
          rw [e]
          clear e
          have d1 : 64 ≤ x := by omega
          have d2 : 4096 ≤ x := by omega
          have d3 : 16777216 ≤ x := by omega
          clear c0 c1 c2 c3
          go_enter Tryd.func18, Tryd.ntmps18
          go_wp2_with fail
          go_ret
          exact ⟨_, rfl, (reads2_two w _ 4 15 59 x (by decide) (by decide) (by decide) hx).more (by simp), (Below.refl _ _).alloc (Nat.le_refl _) _⟩

theorem size_ok (n : Int) (h0 : -288230376151711744 ≤ n) (h : n < 288230376151711744) (w : World) (hcl : ClassesAt w) :
    Calls Tryd.prog 6 #[.int .i64 n] w fun e w' => e = .returned (.tuple #[.int .i64 (zSize (zFold n)), .int .i64 0]) ∧ Below w.heap.size w w' := by
  have hb := zFold_bd n h0 h
  by_cases c0 : zFold n = 0
  · have hs : Hid (zSize (zFold n) = 1) := by show _ = _; rw [zSize, if_pos c0]
    have l0 : 0 ≤ zFold n := by omega
    have l1 : zFold n < 1 := by omega
    clear c0
    go_enter Tryd.func6, Tryd.ntmps6
    go_wp2_with fail
    refine (fold_ok n h0 h _).mono ?_
    rintro e w1 ⟨rfl, rfl⟩
    go_wp2_with fail
    refine (fit_0 _ l0 l1 _ hcl).mono ?_
    rintro e w1 ⟨rfl, hb1⟩
    go_wp2_with fail
    go_ret2
    rw [hs.out]
    exact ⟨rfl, hb1.alloc hb1.size _⟩
  · by_cases c1 : zFold n < 64
    · have hs : Hid (zSize (zFold n) = 8) := by show _ = _; rw [zSize, if_neg c0, if_pos c1]
      have l0 : 1 ≤ zFold n := by omega
      have l1 : zFold n < 64 := by omega
      clear c0 c1
      go_enter Tryd.func6, Tryd.ntmps6
      go_wp2_with fail
      refine (fold_ok n h0 h _).mono ?_
      rintro e w1 ⟨rfl, rfl⟩
      go_wp2_with fail
      refine (fit_1 _ l0 l1 _ hcl).mono ?_
      rintro e w1 ⟨rfl, hb1⟩
      go_wp2_with fail
      go_ret2
      rw [hs.out]
      exact ⟨rfl, hb1.alloc hb1.size _⟩
    · by_cases c2 : zFold n < 4096
      · have hs : Hid (zSize (zFold n) = 15) := by show _ = _; rw [zSize, if_neg c0, if_neg c1, if_pos c2]
        have l0 : 64 ≤ zFold n := by omega
        have l1 : zFold n < 4096 := by omega
        clear c0 c1 c2
        go_enter Tryd.func6, Tryd.ntmps6
        go_wp2_with fail
        refine (fold_ok n h0 h _).mono ?_
        rintro e w1 ⟨rfl, rfl⟩
        go_wp2_with fail
        refine (fit_2 _ l0 l1 _ hcl).mono ?_
        rintro e w1 ⟨rfl, hb1⟩
        go_wp2_with fail
        go_ret2
        rw [hs.out]
        exact ⟨rfl, hb1.alloc hb1.size _⟩
      · by_cases c3 : zFold n < 16777216
        · have hs : Hid (zSize (zFold n) = 28) := by show _ = _; rw [zSize, if_neg c0, if_neg c1, if_neg c2, if_pos c3]
          have l0 : 4096 ≤ zFold n := by omega
          have l1 : zFold n < 16777216 := by omega
          clear c0 c1 c2 c3
          go_enter Tryd.func6, Tryd.ntmps6
          go_wp2_with fail
          refine (fold_ok n h0 h _).mono ?_
          rintro e w1 ⟨rfl, rfl⟩
          go_wp2_with fail
          refine (fit_3 _ l0 l1 _ hcl).mono ?_
          rintro e w1 ⟨rfl, hb1⟩
          go_wp2_with fail
          go_ret2
          rw [hs.out]
          exact ⟨rfl, hb1.alloc hb1.size _⟩
        · have hs : Hid (zSize (zFold n) = 63) := by show _ = _; rw [zSize, if_neg c0, if_neg c1, if_neg c2, if_neg c3]
          have l0 : 16777216 ≤ zFold n := by omega
          have l1 : zFold n < 576460752303423488 := by omega
          clear c0 c1 c2 c3
          go_enter Tryd.func6, Tryd.ntmps6
          go_wp2_with fail
          refine (fold_ok n h0 h _).mono ?_
          rintro e w1 ⟨rfl, rfl⟩
          go_wp2_with fail
          refine (fit_4 _ l0 l1 _ hcl).mono ?_
          rintro e w1 ⟨rfl, hb1⟩
          go_wp2_with fail
          go_ret2
          rw [hs.out]
          exact ⟨rfl, hb1.alloc hb1.size _⟩
theorem size_bad (n : Int) (h : n < -288230376151711744 ∨ 288230376151711744 ≤ n) (w : World) :
    Calls Tryd.prog 6 #[.int .i64 n] w fun e w' => e = .returned (.tuple #[.int .i64 0, .int .i64 11]) ∧ Below w.heap.size w w' := by
  have H := Lib.hid h
  clear h
  go_enter Tryd.func6, Tryd.ntmps6
  go_wp2_with fail
  refine (fold_bad n H.out _).mono ?_
  rintro e w1 ⟨rfl, rfl⟩
  go_wp2_with fail
  go_ret2
  exact ⟨rfl, Below.refl _ _⟩
theorem rSize_ok (n : Int) (h0 : -288230376151711744 ≤ n) (h : n < 288230376151711744) (w : World) :
    Calls Tryd.prog 7 #[.int .i64 n] w fun e w' => e = .returned (.tuple #[.int .i64 (zSize (zFold n)), .int .i64 0]) ∧ Below w.heap.size w w' := by
  have hb := zFold_bd n h0 h
  have hlen := Lib.hid (zBits_len (zFold n))
  go_enter Tryd.func7, Tryd.ntmps7
  go_wp2_with fail
  refine (rFold_ok n h0 h _).mono ?_
  rintro e w1 ⟨rfl, rfl⟩
  go_wp2_with fail
  refine (zigFields_any _ hb.1 hb.2 _).mono ?_
  rintro e w1 ⟨a, rfl, hr, hb1⟩
  go_wp2_with fail
  refine (bitList_any a _ (zFields (zFold n)) _ (by have := zFields_len (zFold n); omega) (zFields_ok _ hb.1) hr).mono ?_
  rintro e w2 ⟨v, rfl, ho, hb2⟩
  obtain ⟨a2, c2, rfl, _⟩ := ho.slc
  go_wp2_with fail
  go_ret2
  rw [← hlen.out]
  exact ⟨rfl, hb1.trans (hb2.mono hb1.size)⟩
theorem rSize_bad (n : Int) (h : n < -288230376151711744 ∨ 288230376151711744 ≤ n) (w : World) :
    Calls Tryd.prog 7 #[.int .i64 n] w fun e w' => e = .returned (.tuple #[.int .i64 0, .int .i64 11]) ∧ Below w.heap.size w w' := by
  have H := Lib.hid h
  clear h
  go_enter Tryd.func7, Tryd.ntmps7
  go_wp2_with fail
  refine (rFold_bad n H.out _).mono ?_
  rintro e w1 ⟨rfl, rfl⟩
  go_wp2_with fail
  go_ret2
  exact ⟨rfl, Below.refl _ _⟩
theorem zigSizes_walk (a0 : Int) (w : World) (w0 : (Lit.int .i64 a0).wf = true) (hcl : ClassesAt w) :
    Calls Tryd.prog 3 #[.int .i64 a0] w fun e w' => e = .returned (.bool true) ∧ Below w.heap.size w w' := by
  by_cases h : -288230376151711744 ≤ a0 ∧ a0 < 288230376151711744
  · obtain ⟨h1, h2⟩ := h
    go_enter Tryd.func3, Tryd.ntmps3
    go_wp2_with fail
    refine (size_ok a0 h1 h2 _ hcl).mono ?_
    rintro e w1 ⟨rfl, hb1⟩
    go_wp2_with fail
    refine (rSize_ok a0 h1 h2 _).mono ?_
    rintro e w2 ⟨rfl, hb2⟩
    go_wp2_with fail
    go_ret
    exact ⟨rfl, hb1.trans (hb2.mono hb1.size)⟩
  · have h1 : a0 < -288230376151711744 ∨ 288230376151711744 ≤ a0 := by omega
    clear h
    have H := Lib.hid h1
    clear h1
    go_enter Tryd.func3, Tryd.ntmps3
    go_wp2_with fail
    refine (size_bad a0 H.out _).mono ?_
    rintro e w1 ⟨rfl, hb1⟩
    go_wp2_with fail
    refine (rSize_bad a0 H.out _).mono ?_
    rintro e w2 ⟨rfl, hb2⟩
    go_wp2_with fail
    go_ret
    exact ⟨rfl, hb1.trans (hb2.mono hb1.size)⟩
end Go.Proofs.YtempedbpieaggaaDoor
