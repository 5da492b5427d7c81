/- The contract of zig.Get. -/
import Derived.Test.YtempedbpieaggaaDoorZigEncode
import Derived.Test.YtempedbpieaggaaDoorZigUnfold
import Derived.Test.YtempedbpieaggaaDoorEye
import Derived.Deep.CutBlock
import Derived.Deep.DeepCutAuto
import Derived.Deep.RegionHeld3
import Derived.Deep.DrawnRows
namespace Go.Proofs.YtempedbpieaggaaDoor
open Go Go.RowKit
set_option linter.unusedVariables false
attribute [local go_sem ↓] Go.wp_at_zero Go.wp_at_succ

/-- How many ones there are ahead of a 0, four at most, and where that ends; none: the bytes end too early. -/
def zpre (l : List Int) : Nat → Nat → Nat → Option (Nat × Nat)
  | n, 0, k => some (k, n)
  | n, f + 1, k => if 8 * l.length ≤ n then none else if bitOf l n = 0 then some (k, n + 1) else zpre l (n + 1) f (k + 1)
/-- The bits of a class, and the least number that wants it. -/
def zWide (k : Nat) : Nat := if k = 0 then 0 else if k = 1 then 6 else if k = 2 then 12 else if k = 3 then 24 else 59
def zLow (k : Nat) : Int := if k = 0 then 0 else if k = 1 then 1 else if k = 2 then 64 else if k = 3 then 4096 else 16777216
/-- A number by its code: the number, where the code ends, and what is refused. -/
def zget (l : List Int) (n : Nat) : Int × Nat × Int :=
  match zpre l n 4 0 with
  | none => (0, 0, 5)
  | some (k, m) => if 8 * l.length < m + zWide k then (0, 0, 5) else if numAt l m (zWide k) < zLow k then (0, 0, 4) else (zUnf (numAt l m (zWide k)), m + zWide k, 0)
theorem zget_none (l : List Int) (n : Nat) (h : zpre l n 4 0 = none) : zget l n = (0, 0, 5) := by rw [zget, h]
theorem zget_short (l : List Int) (n k m : Nat) (h : zpre l n 4 0 = some (k, m)) (h1 : 8 * l.length < m + zWide k) : zget l n = (0, 0, 5) := by rw [zget, h]; simp only []; rw [if_pos h1]
theorem zget_form (l : List Int) (n k m : Nat) (h : zpre l n 4 0 = some (k, m)) (h1 : ¬ 8 * l.length < m + zWide k) (h2 : numAt l m (zWide k) < zLow k) : zget l n = (0, 0, 4) := by rw [zget, h]; simp only []; rw [if_neg h1, if_pos h2]
theorem zget_ok (l : List Int) (n k m : Nat) (h : zpre l n 4 0 = some (k, m)) (h1 : ¬ 8 * l.length < m + zWide k) (h2 : ¬ numAt l m (zWide k) < zLow k) : zget l n = (zUnf (numAt l m (zWide k)), m + zWide k, 0) := by rw [zget, h]; simp only []; rw [if_neg h1, if_neg h2]
theorem EyeAt.below {w w' : World} {g : Nat} {a : Option Addr} {cap n : Nat} {l : List Int} (h : EyeAt w g a cap l n) (hb : Below w.heap.size w w') : EyeAt w' g a cap l n :=
  ⟨h.1.below hb h.1.lt, h.2.1.below (hb.mono (Nat.le_of_lt h.1.lt)), h.2.2⟩
theorem EyeAt.drewN {w : World} {g : Nat} {a : Option Addr} {cap n : Nat} {l : List Int} (h : EyeAt w g a cap l n) (d : Nat) : EyeAt (w.drewN d) g a cap l n := h.below (below_drewN (Below.refl _ _) d)
theorem ClassesAt.kept {w w' : World} {B : Nat} {T : List TypeId} (h : ClassesAt w) (hk : Kept B T w w') (hB : 0 < B) : ClassesAt w' := by
  have hlt := h.lt
  obtain ⟨t, fr, h⟩ := h
  exact ⟨t, fr, (hk.block _ hlt (.inl hB)).trans h⟩
theorem ClassesAt.cells {w : World} (h : ClassesAt w) : w.cell? ⟨0, 0, none⟩ = some (.int .i64 0) ∧ w.cell? ⟨0, 1, none⟩ = some (.int .i64 1) ∧ w.cell? ⟨0, 2, none⟩ = some (.int .i64 0) ∧ w.cell? ⟨0, 3, none⟩ = some (.int .i64 2) ∧ w.cell? ⟨0, 4, none⟩ = some (.int .i64 2) ∧ w.cell? ⟨0, 5, none⟩ = some (.int .i64 6) ∧ w.cell? ⟨0, 6, none⟩ = some (.int .i64 6) ∧ w.cell? ⟨0, 7, none⟩ = some (.int .i64 3) ∧ w.cell? ⟨0, 8, none⟩ = some (.int .i64 12) ∧ w.cell? ⟨0, 9, none⟩ = some (.int .i64 14) ∧ w.cell? ⟨0, 10, none⟩ = some (.int .i64 4) ∧ w.cell? ⟨0, 11, none⟩ = some (.int .i64 24) ∧ w.cell? ⟨0, 12, none⟩ = some (.int .i64 15) ∧ w.cell? ⟨0, 13, none⟩ = some (.int .i64 4) ∧ w.cell? ⟨0, 14, none⟩ = some (.int .i64 59) := by
  obtain ⟨t, fr, h⟩ := h
  exact ⟨cell_of_row w _ 0 _ t fr h, cell_of_row w _ 1 _ t fr h, cell_of_row w _ 2 _ t fr h, cell_of_row w _ 3 _ t fr h, cell_of_row w _ 4 _ t fr h, cell_of_row w _ 5 _ t fr h, cell_of_row w _ 6 _ t fr h, cell_of_row w _ 7 _ t fr h, cell_of_row w _ 8 _ t fr h, cell_of_row w _ 9 _ t fr h, cell_of_row w _ 10 _ t fr h, cell_of_row w _ 11 _ t fr h, cell_of_row w _ 12 _ t fr h, cell_of_row w _ 13 _ t fr h, cell_of_row w _ 14 _ t fr h⟩
/-- What Get leaves of the world. -/
def GetPost (l : List Int) (g : Nat) (a : Option Addr) (cap n : Nat) (w : World) (e : Ending) (w' : World) : Prop :=
  e = .returned (.tuple #[.int .i64 (zget l n).1, .int .i64 (zget l n).2.2]) ∧ Kept g [58] w w' ∧ ((zget l n).2.2 = 0 → EyeAt w' g a cap l (zget l n).2.1 ∧ (zget l n).2.1 ≤ 8 * l.length ∧ -288230376151711744 ≤ (zget l n).1 ∧ (zget l n).1 < 288230376151711744)
set_option maxHeartbeats 4000000 in
theorem zigGet_any (g : Nat) (a : Option Addr) (cap : Nat) (l : List Int) (n : Nat) (w : World) (h : EyeAt w g a cap l n) (hn : n ≤ 8 * l.length) (hcl : ClassesAt w) (hg : 0 < g) :
    Calls Tryd.prog 24 #[.pointer (some ⟨g, 0, none⟩)] w (GetPost l g a cap n w) := by
  go_enter Tryd.func24, Tryd.ntmps24
  go_upto_block 0 with fail
  go_cut [4] (fun v wx => ∃ k m : Nat, k ≤ 4 ∧ v = .int .i64 k ∧ zpre l n 4 0 = some (k, m) ∧ m ≤ 8 * l.length ∧ EyeAt wx g a cap l m ∧ Kept g [58] w wx)
  case first =>
    go_wp2_with fail
    go_loopw [4] (fun v wr => ∃ k m : Nat, k ≤ 4 ∧ v = .int .i64 k ∧ zpre l n 4 0 = zpre l m (4 - k) k ∧ m ≤ 8 * l.length ∧ EyeAt wr g a cap l m ∧ Kept g [58] w wr) (fun v _ => 4 - (intOf v).toNat)
    case atStart => exact ⟨0, n, by omega, rfl, rfl, hn, h, Kept.refl _ _ _⟩
    case round =>
      obtain ⟨k, m, hk, rfl, hz, hm, heye, hkept⟩ := hrel
      have HZ := Lib.hid hz
      have HE := Lib.hid heye
      have HK := Lib.hid hkept
      clear hz heye hkept
      by_cases hlt : k < 4
      · have hstep : Hid (zpre l m (4 - k) k = if 8 * l.length ≤ m then none else if bitOf l m = 0 then some (k, m + 1) else zpre l (m + 1) (4 - (k + 1)) (k + 1)) := by
          show _ = _
          rw [show 4 - k = (4 - (k + 1)) + 1 by omega, zpre]
        by_cases hs : 8 * l.length ≤ m
        · have hres : Hid (zget l n = (0, 0, 5)) := zget_none l n (by rw [HZ.out, hstep.out, if_pos hs])
          have hs' : 8 * (l.length : Int) - m < 1 := by omega
          clear hs
          go_wp2_with fail
          refine (eyeGet_short g a cap l m 1 _ HE.out hm hs').mono ?_
          rintro e w2 ⟨rfl, d, rfl⟩
          go_wp2_with fail
          go_ret2
          unfold GetPost
          rw [hres.out]
          exact ⟨rfl, HK.out.drewN d, fun h => by cases h⟩
        · have hone : numAt l m 1 = bitOf l m := by simp [numAt]
          have HN := Lib.hid hone
          have hs' : m + 1 ≤ 8 * l.length := by omega
          clear hone
          go_wp2_with fail
          refine (eyeGet_any g a cap l m 1 _ HE.out hm hs' (by omega)).mono ?_
          rintro e w2 ⟨rfl, he2, hk2⟩
          rw [HN.out]
          have HE2 := Lib.hid he2
          have HK2 := Lib.hid hk2
          clear he2 hk2
          rcases bitOf_bd l m with hb | hb
          · have hres : Hid (zpre l n 4 0 = some (k, m + 1)) := by show _ = _; rw [HZ.out, hstep.out, if_neg hs, if_pos hb]
            rw [hb]
            clear hs hb
            go_wp2_with fail
            go_meet
            exact ⟨k, m + 1, hk, rfl, hres.out, hs', HE2.out, HK.out.trans HK2.out⟩
          · have hres : Hid (zpre l n 4 0 = zpre l (m + 1) (4 - (k + 1)) (k + 1)) := by show _ = _; rw [HZ.out, hstep.out, if_neg hs, if_neg (by omega)]
            rw [hb]
            clear hs hb
            go_wp2_with fail
            exact ⟨⟨k + 1, m + 1, by omega, by go_num, hres.out, hs', HE2.out, HK.out.trans HK2.out⟩, by simp [intOf]; omega⟩
      · have hke : k = 4 := by omega
        subst hke
        go_wp2_with fail
        go_meet
        exact ⟨4, m, by omega, rfl, by rw [HZ.out]; rfl, hm, HE.out, HK.out⟩
  case rest =>
    obtain ⟨k, m, hk, rfl, hz, hm, heye, hkept⟩ := hcut
    have HZ := Lib.hid hz
    have HE := Lib.hid heye
    have HK := Lib.hid hkept
    have hcl2 := hcl.kept hkept hg
    have HC := Lib.hid hcl2
    have hcs := hcl2.cells
    clear hz heye hkept hcl2
    have hkc : k = 0 ∨ k = 1 ∨ k = 2 ∨ k = 3 ∨ k = 4 := by omega
    obtain ⟨q0, q1, q2, q3, q4, q5, q6, q7, q8, q9, q10, q11, q12, q13, q14⟩ := hcs
    have hsz := HK.out.size
    rcases hkc with rfl | rfl | rfl | rfl | rfl
    · by_cases hs : 8 * l.length < m + 0
      · exact absurd hs (by omega)
      · have hs' : m + 0 ≤ 8 * l.length := by omega
        have hnb := numAt_bd l m 0
        go_wp2_with fail
        refine (eyeGet_any g a cap l m 0 _ HE.out hm hs' (by omega)).mono ?_
        rintro e w2 ⟨rfl, he2, hk2⟩
        have HE2 := Lib.hid he2
        have HK2 := Lib.hid hk2
        have hc2 := HC.out.kept hk2 hg
        have HC2 := Lib.hid hc2
        obtain ⟨r0, r1, r2, r3, r4, r5, r6, r7, r8, r9, r10, r11, r12, r13, r14⟩ := hc2.cells
        have hform : numAt l m 0 < 0 → zget l n = (0, 0, 4) := fun h => zget_form l n 0 m HZ.out hs h
        have hok : ¬ numAt l m 0 < 0 → zget l n = (zUnf (numAt l m 0), m + 0, 0) := fun h => zget_ok l n 0 m HZ.out hs h
        have HF := Lib.hid hform
        have HOK := Lib.hid hok
        clear hform hok he2 hk2 hc2 hs
        generalize numAt l m 0 = x at *
        have hx0 : x < 1 := by simpa using hnb.2
        go_wp2_with fail
        go_region_held3 (fun w' => w'.cell? ⟨0, 0, none⟩ = some (.int .i64 0) ∧ w'.cell? ⟨0, 1, none⟩ = some (.int .i64 1) ∧ w'.cell? ⟨0, 2, none⟩ = some (.int .i64 0)) (go_keep) ((go_at_call 15; refine (fit_0 x (by omega) (by omega) _ (HC2.out.below (below_drewN (Below.refl _ _) 1))).mono ?_; rintro e w3 ⟨rfl, hb3⟩; have e0 := HC2.out.below ((below_drewN (Below.refl _ _) 1).trans hb3); obtain ⟨s0, s1, s2, s3, s4, s5, s6, s7, s8, s9, s10, s11, s12, s13, s14⟩ := e0.cells))
        go_wp2_with fail
        refine (unfold_ok x (by omega) (by omega) _).mono ?_
        rintro e w4 ⟨rfl, rfl⟩
        go_wp2_with fail
        go_ret2
        unfold GetPost
        rw [HOK.out (by omega)]
        have hzu := zUnf_bd x (by omega) (by omega)
        exact ⟨rfl, (HK.out.trans HK2.out).trans (Kept.of_below ((below_drewN (Below.refl _ _) 1).trans hb3)), fun _ => ⟨HE2.out.below ((below_drewN (Below.refl _ _) 1).trans hb3), hs', hzu.1, hzu.2⟩⟩
    · by_cases hs : 8 * l.length < m + 6
      · have hres : Hid (zget l n = (0, 0, 5)) := zget_short l n 1 m HZ.out hs
        have hs' : 8 * (l.length : Int) - m < 6 := by omega
        clear hs
        go_wp2_with fail
        refine (eyeGet_short g a cap l m 6 _ HE.out hm hs').mono ?_
        rintro e w2 ⟨rfl, d, rfl⟩
        go_wp2_with fail
        go_ret2
        unfold GetPost
        rw [hres.out]
        exact ⟨rfl, HK.out.drewN d, fun h => by cases h⟩
      · have hs' : m + 6 ≤ 8 * l.length := by omega
        have hnb := numAt_bd l m 6
        go_wp2_with fail
        refine (eyeGet_any g a cap l m 6 _ HE.out hm hs' (by omega)).mono ?_
        rintro e w2 ⟨rfl, he2, hk2⟩
        have HE2 := Lib.hid he2
        have HK2 := Lib.hid hk2
        have hc2 := HC.out.kept hk2 hg
        have HC2 := Lib.hid hc2
        obtain ⟨r0, r1, r2, r3, r4, r5, r6, r7, r8, r9, r10, r11, r12, r13, r14⟩ := hc2.cells
        have hform : numAt l m 6 < 1 → zget l n = (0, 0, 4) := fun h => zget_form l n 1 m HZ.out hs h
        have hok : ¬ numAt l m 6 < 1 → zget l n = (zUnf (numAt l m 6), m + 6, 0) := fun h => zget_ok l n 1 m HZ.out hs h
        have HF := Lib.hid hform
        have HOK := Lib.hid hok
        clear hform hok he2 hk2 hc2 hs
        generalize numAt l m 6 = x at *
        have hx1 : x < 64 := by have := hnb.2; simpa using this
        have hx0 := hnb.1
        clear hnb
        by_cases c0 : x < 1
        · go_wp2_with fail
          go_region_held3 (fun w' => w'.cell? ⟨0, 3, none⟩ = some (.int .i64 2) ∧ w'.cell? ⟨0, 4, none⟩ = some (.int .i64 2) ∧ w'.cell? ⟨0, 5, none⟩ = some (.int .i64 6)) (go_keep) ((go_at_call 15; refine (fit_0 x (by omega) (by omega) _ (HC2.out.below (below_drewN (Below.refl _ _) 1))).mono ?_; rintro e w3 ⟨rfl, hb3⟩; have e0 := HC2.out.below ((below_drewN (Below.refl _ _) 1).trans hb3); obtain ⟨s0, s1, s2, s3, s4, s5, s6, s7, s8, s9, s10, s11, s12, s13, s14⟩ := e0.cells))
          go_wp2_with fail
          go_ret2
          unfold GetPost
          rw [HF.out (by omega)]
          exact ⟨rfl, (HK.out.trans HK2.out).trans (Kept.of_below ((below_drewN (Below.refl _ _) 1).trans hb3)), fun h => by cases h⟩
        · go_wp2_with fail
          go_region_held3 (fun w' => w'.cell? ⟨0, 3, none⟩ = some (.int .i64 2) ∧ w'.cell? ⟨0, 4, none⟩ = some (.int .i64 2) ∧ w'.cell? ⟨0, 5, none⟩ = some (.int .i64 6)) (go_keep) ((go_at_call 15; refine (fit_1 x (by omega) (by omega) _ (HC2.out.below (below_drewN (Below.refl _ _) 1))).mono ?_; rintro e w3 ⟨rfl, hb3⟩; have e0 := HC2.out.below ((below_drewN (Below.refl _ _) 1).trans hb3); obtain ⟨s0, s1, s2, s3, s4, s5, s6, s7, s8, s9, s10, s11, s12, s13, s14⟩ := e0.cells))
          go_wp2_with fail
          refine (unfold_ok x (by omega) (by omega) _).mono ?_
          rintro e w4 ⟨rfl, rfl⟩
          go_wp2_with fail
          go_ret2
          unfold GetPost
          rw [HOK.out (by omega)]
          have hzu := zUnf_bd x (by omega) (by omega)
          exact ⟨rfl, (HK.out.trans HK2.out).trans (Kept.of_below ((below_drewN (Below.refl _ _) 1).trans hb3)), fun _ => ⟨HE2.out.below ((below_drewN (Below.refl _ _) 1).trans hb3), hs', hzu.1, hzu.2⟩⟩
    · by_cases hs : 8 * l.length < m + 12
      · have hres : Hid (zget l n = (0, 0, 5)) := zget_short l n 2 m HZ.out hs
        have hs' : 8 * (l.length : Int) - m < 12 := by omega
        clear hs
        go_wp2_with fail
        refine (eyeGet_short g a cap l m 12 _ HE.out hm hs').mono ?_
        rintro e w2 ⟨rfl, d, rfl⟩
        go_wp2_with fail
        go_ret2
        unfold GetPost
        rw [hres.out]
        exact ⟨rfl, HK.out.drewN d, fun h => by cases h⟩
      · have hs' : m + 12 ≤ 8 * l.length := by omega
        have hnb := numAt_bd l m 12
        go_wp2_with fail
        refine (eyeGet_any g a cap l m 12 _ HE.out hm hs' (by omega)).mono ?_
        rintro e w2 ⟨rfl, he2, hk2⟩
        have HE2 := Lib.hid he2
        have HK2 := Lib.hid hk2
        have hc2 := HC.out.kept hk2 hg
        have HC2 := Lib.hid hc2
        obtain ⟨r0, r1, r2, r3, r4, r5, r6, r7, r8, r9, r10, r11, r12, r13, r14⟩ := hc2.cells
        have hform : numAt l m 12 < 64 → zget l n = (0, 0, 4) := fun h => zget_form l n 2 m HZ.out hs h
        have hok : ¬ numAt l m 12 < 64 → zget l n = (zUnf (numAt l m 12), m + 12, 0) := fun h => zget_ok l n 2 m HZ.out hs h
        have HF := Lib.hid hform
        have HOK := Lib.hid hok
        clear hform hok he2 hk2 hc2 hs
        generalize numAt l m 12 = x at *
        have hx1 : x < 4096 := by have := hnb.2; simpa using this
        have hx0 := hnb.1
        clear hnb
        by_cases c0 : x < 1
        · go_wp2_with fail
          go_region_held3 (fun w' => w'.cell? ⟨0, 6, none⟩ = some (.int .i64 6) ∧ w'.cell? ⟨0, 7, none⟩ = some (.int .i64 3) ∧ w'.cell? ⟨0, 8, none⟩ = some (.int .i64 12)) (go_keep) ((go_at_call 15; refine (fit_0 x (by omega) (by omega) _ (HC2.out.below (below_drewN (Below.refl _ _) 1))).mono ?_; rintro e w3 ⟨rfl, hb3⟩; have e0 := HC2.out.below ((below_drewN (Below.refl _ _) 1).trans hb3); obtain ⟨s0, s1, s2, s3, s4, s5, s6, s7, s8, s9, s10, s11, s12, s13, s14⟩ := e0.cells))
          go_wp2_with fail
          go_ret2
          unfold GetPost
          rw [HF.out (by omega)]
          exact ⟨rfl, (HK.out.trans HK2.out).trans (Kept.of_below ((below_drewN (Below.refl _ _) 1).trans hb3)), fun h => by cases h⟩
        · skip
          by_cases c1 : x < 64
          · go_wp2_with fail
            go_region_held3 (fun w' => w'.cell? ⟨0, 6, none⟩ = some (.int .i64 6) ∧ w'.cell? ⟨0, 7, none⟩ = some (.int .i64 3) ∧ w'.cell? ⟨0, 8, none⟩ = some (.int .i64 12)) (go_keep) ((go_at_call 15; refine (fit_1 x (by omega) (by omega) _ (HC2.out.below (below_drewN (Below.refl _ _) 1))).mono ?_; rintro e w3 ⟨rfl, hb3⟩; have e0 := HC2.out.below ((below_drewN (Below.refl _ _) 1).trans hb3); obtain ⟨s0, s1, s2, s3, s4, s5, s6, s7, s8, s9, s10, s11, s12, s13, s14⟩ := e0.cells))
            go_wp2_with fail
            go_ret2
            unfold GetPost
            rw [HF.out (by omega)]
            exact ⟨rfl, (HK.out.trans HK2.out).trans (Kept.of_below ((below_drewN (Below.refl _ _) 1).trans hb3)), fun h => by cases h⟩
          · go_wp2_with fail
            go_region_held3 (fun w' => w'.cell? ⟨0, 6, none⟩ = some (.int .i64 6) ∧ w'.cell? ⟨0, 7, none⟩ = some (.int .i64 3) ∧ w'.cell? ⟨0, 8, none⟩ = some (.int .i64 12)) (go_keep) ((go_at_call 15; refine (fit_2 x (by omega) (by omega) _ (HC2.out.below (below_drewN (Below.refl _ _) 1))).mono ?_; rintro e w3 ⟨rfl, hb3⟩; have e0 := HC2.out.below ((below_drewN (Below.refl _ _) 1).trans hb3); obtain ⟨s0, s1, s2, s3, s4, s5, s6, s7, s8, s9, s10, s11, s12, s13, s14⟩ := e0.cells))
            go_wp2_with fail
            refine (unfold_ok x (by omega) (by omega) _).mono ?_
            rintro e w4 ⟨rfl, rfl⟩
            go_wp2_with fail
            go_ret2
            unfold GetPost
            rw [HOK.out (by omega)]
            have hzu := zUnf_bd x (by omega) (by omega)
            exact ⟨rfl, (HK.out.trans HK2.out).trans (Kept.of_below ((below_drewN (Below.refl _ _) 1).trans hb3)), fun _ => ⟨HE2.out.below ((below_drewN (Below.refl _ _) 1).trans hb3), hs', hzu.1, hzu.2⟩⟩
    · by_cases hs : 8 * l.length < m + 24
      · have hres : Hid (zget l n = (0, 0, 5)) := zget_short l n 3 m HZ.out hs
        have hs' : 8 * (l.length : Int) - m < 24 := by omega
        clear hs
        go_wp2_with fail
        refine (eyeGet_short g a cap l m 24 _ HE.out hm hs').mono ?_
        rintro e w2 ⟨rfl, d, rfl⟩
        go_wp2_with fail
        go_ret2
        unfold GetPost
        rw [hres.out]
        exact ⟨rfl, HK.out.drewN d, fun h => by cases h⟩
      · have hs' : m + 24 ≤ 8 * l.length := by omega
        have hnb := numAt_bd l m 24
        go_wp2_with fail
        refine (eyeGet_any g a cap l m 24 _ HE.out hm hs' (by omega)).mono ?_
        rintro e w2 ⟨rfl, he2, hk2⟩
        have HE2 := Lib.hid he2
        have HK2 := Lib.hid hk2
        have hc2 := HC.out.kept hk2 hg
        have HC2 := Lib.hid hc2
        obtain ⟨r0, r1, r2, r3, r4, r5, r6, r7, r8, r9, r10, r11, r12, r13, r14⟩ := hc2.cells
        have hform : numAt l m 24 < 4096 → zget l n = (0, 0, 4) := fun h => zget_form l n 3 m HZ.out hs h
        have hok : ¬ numAt l m 24 < 4096 → zget l n = (zUnf (numAt l m 24), m + 24, 0) := fun h => zget_ok l n 3 m HZ.out hs h
        have HF := Lib.hid hform
        have HOK := Lib.hid hok
        clear hform hok he2 hk2 hc2 hs
        generalize numAt l m 24 = x at *
        have hx1 : x < 16777216 := by have := hnb.2; simpa using this
        have hx0 := hnb.1
        clear hnb
        by_cases c0 : x < 1
        · go_wp2_with fail
          go_region_held3 (fun w' => w'.cell? ⟨0, 9, none⟩ = some (.int .i64 14) ∧ w'.cell? ⟨0, 10, none⟩ = some (.int .i64 4) ∧ w'.cell? ⟨0, 11, none⟩ = some (.int .i64 24)) (go_keep) ((go_at_call 15; refine (fit_0 x (by omega) (by omega) _ (HC2.out.below (below_drewN (Below.refl _ _) 1))).mono ?_; rintro e w3 ⟨rfl, hb3⟩; have e0 := HC2.out.below ((below_drewN (Below.refl _ _) 1).trans hb3); obtain ⟨s0, s1, s2, s3, s4, s5, s6, s7, s8, s9, s10, s11, s12, s13, s14⟩ := e0.cells))
          go_wp2_with fail
          go_ret2
          unfold GetPost
          rw [HF.out (by omega)]
          exact ⟨rfl, (HK.out.trans HK2.out).trans (Kept.of_below ((below_drewN (Below.refl _ _) 1).trans hb3)), fun h => by cases h⟩
        · skip
          by_cases c1 : x < 64
          · go_wp2_with fail
            go_region_held3 (fun w' => w'.cell? ⟨0, 9, none⟩ = some (.int .i64 14) ∧ w'.cell? ⟨0, 10, none⟩ = some (.int .i64 4) ∧ w'.cell? ⟨0, 11, none⟩ = some (.int .i64 24)) (go_keep) ((go_at_call 15; refine (fit_1 x (by omega) (by omega) _ (HC2.out.below (below_drewN (Below.refl _ _) 1))).mono ?_; rintro e w3 ⟨rfl, hb3⟩; have e0 := HC2.out.below ((below_drewN (Below.refl _ _) 1).trans hb3); obtain ⟨s0, s1, s2, s3, s4, s5, s6, s7, s8, s9, s10, s11, s12, s13, s14⟩ := e0.cells))
            go_wp2_with fail
            go_ret2
            unfold GetPost
            rw [HF.out (by omega)]
            exact ⟨rfl, (HK.out.trans HK2.out).trans (Kept.of_below ((below_drewN (Below.refl _ _) 1).trans hb3)), fun h => by cases h⟩
          · skip
            by_cases c2 : x < 4096
            · go_wp2_with fail
              go_region_held3 (fun w' => w'.cell? ⟨0, 9, none⟩ = some (.int .i64 14) ∧ w'.cell? ⟨0, 10, none⟩ = some (.int .i64 4) ∧ w'.cell? ⟨0, 11, none⟩ = some (.int .i64 24)) (go_keep) ((go_at_call 15; refine (fit_2 x (by omega) (by omega) _ (HC2.out.below (below_drewN (Below.refl _ _) 1))).mono ?_; rintro e w3 ⟨rfl, hb3⟩; have e0 := HC2.out.below ((below_drewN (Below.refl _ _) 1).trans hb3); obtain ⟨s0, s1, s2, s3, s4, s5, s6, s7, s8, s9, s10, s11, s12, s13, s14⟩ := e0.cells))
              go_wp2_with fail
              go_ret2
              unfold GetPost
              rw [HF.out (by omega)]
              exact ⟨rfl, (HK.out.trans HK2.out).trans (Kept.of_below ((below_drewN (Below.refl _ _) 1).trans hb3)), fun h => by cases h⟩
            · go_wp2_with fail
              go_region_held3 (fun w' => w'.cell? ⟨0, 9, none⟩ = some (.int .i64 14) ∧ w'.cell? ⟨0, 10, none⟩ = some (.int .i64 4) ∧ w'.cell? ⟨0, 11, none⟩ = some (.int .i64 24)) (go_keep) ((go_at_call 15; refine (fit_3 x (by omega) (by omega) _ (HC2.out.below (below_drewN (Below.refl _ _) 1))).mono ?_; rintro e w3 ⟨rfl, hb3⟩; have e0 := HC2.out.below ((below_drewN (Below.refl _ _) 1).trans hb3); obtain ⟨s0, s1, s2, s3, s4, s5, s6, s7, s8, s9, s10, s11, s12, s13, s14⟩ := e0.cells))
              go_wp2_with fail
              refine (unfold_ok x (by omega) (by omega) _).mono ?_
              rintro e w4 ⟨rfl, rfl⟩
              go_wp2_with fail
              go_ret2
              unfold GetPost
              rw [HOK.out (by omega)]
              have hzu := zUnf_bd x (by omega) (by omega)
              exact ⟨rfl, (HK.out.trans HK2.out).trans (Kept.of_below ((below_drewN (Below.refl _ _) 1).trans hb3)), fun _ => ⟨HE2.out.below ((below_drewN (Below.refl _ _) 1).trans hb3), hs', hzu.1, hzu.2⟩⟩
    · by_cases hs : 8 * l.length < m + 59
      · have hres : Hid (zget l n = (0, 0, 5)) := zget_short l n 4 m HZ.out hs
        have hs' : 8 * (l.length : Int) - m < 59 := by omega
        clear hs
        go_wp2_with fail
        refine (eyeGet_short g a cap l m 59 _ HE.out hm hs').mono ?_
        rintro e w2 ⟨rfl, d, rfl⟩
        go_wp2_with fail
        go_ret2
        unfold GetPost
        rw [hres.out]
        exact ⟨rfl, HK.out.drewN d, fun h => by cases h⟩
      · have hs' : m + 59 ≤ 8 * l.length := by omega
        have hnb := numAt_bd l m 59
        go_wp2_with fail
        refine (eyeGet_any g a cap l m 59 _ HE.out hm hs' (by omega)).mono ?_
        rintro e w2 ⟨rfl, he2, hk2⟩
        have HE2 := Lib.hid he2
        have HK2 := Lib.hid hk2
        have hc2 := HC.out.kept hk2 hg
        have HC2 := Lib.hid hc2
        obtain ⟨r0, r1, r2, r3, r4, r5, r6, r7, r8, r9, r10, r11, r12, r13, r14⟩ := hc2.cells
        have hform : numAt l m 59 < 16777216 → zget l n = (0, 0, 4) := fun h => zget_form l n 4 m HZ.out hs h
        have hok : ¬ numAt l m 59 < 16777216 → zget l n = (zUnf (numAt l m 59), m + 59, 0) := fun h => zget_ok l n 4 m HZ.out hs h
        have HF := Lib.hid hform
        have HOK := Lib.hid hok
        clear hform hok he2 hk2 hc2 hs
        generalize numAt l m 59 = x at *
        have hx1 : x < 576460752303423488 := by have := hnb.2; simpa using this
        have hx0 := hnb.1
        clear hnb
        by_cases c0 : x < 1
        · go_wp2_with fail
          go_region_held3 (fun w' => w'.cell? ⟨0, 12, none⟩ = some (.int .i64 15) ∧ w'.cell? ⟨0, 13, none⟩ = some (.int .i64 4) ∧ w'.cell? ⟨0, 14, none⟩ = some (.int .i64 59)) (go_keep) ((go_at_call 15; refine (fit_0 x (by omega) (by omega) _ (HC2.out.below (below_drewN (Below.refl _ _) 1))).mono ?_; rintro e w3 ⟨rfl, hb3⟩; have e0 := HC2.out.below ((below_drewN (Below.refl _ _) 1).trans hb3); obtain ⟨s0, s1, s2, s3, s4, s5, s6, s7, s8, s9, s10, s11, s12, s13, s14⟩ := e0.cells))
          go_wp2_with fail
          go_ret2
          unfold GetPost
          rw [HF.out (by omega)]
          exact ⟨rfl, (HK.out.trans HK2.out).trans (Kept.of_below ((below_drewN (Below.refl _ _) 1).trans hb3)), fun h => by cases h⟩
        · skip
          by_cases c1 : x < 64
          · go_wp2_with fail
            go_region_held3 (fun w' => w'.cell? ⟨0, 12, none⟩ = some (.int .i64 15) ∧ w'.cell? ⟨0, 13, none⟩ = some (.int .i64 4) ∧ w'.cell? ⟨0, 14, none⟩ = some (.int .i64 59)) (go_keep) ((go_at_call 15; refine (fit_1 x (by omega) (by omega) _ (HC2.out.below (below_drewN (Below.refl _ _) 1))).mono ?_; rintro e w3 ⟨rfl, hb3⟩; have e0 := HC2.out.below ((below_drewN (Below.refl _ _) 1).trans hb3); obtain ⟨s0, s1, s2, s3, s4, s5, s6, s7, s8, s9, s10, s11, s12, s13, s14⟩ := e0.cells))
            go_wp2_with fail
            go_ret2
            unfold GetPost
            rw [HF.out (by omega)]
            exact ⟨rfl, (HK.out.trans HK2.out).trans (Kept.of_below ((below_drewN (Below.refl _ _) 1).trans hb3)), fun h => by cases h⟩
          · skip
            by_cases c2 : x < 4096
            · go_wp2_with fail
              go_region_held3 (fun w' => w'.cell? ⟨0, 12, none⟩ = some (.int .i64 15) ∧ w'.cell? ⟨0, 13, none⟩ = some (.int .i64 4) ∧ w'.cell? ⟨0, 14, none⟩ = some (.int .i64 59)) (go_keep) ((go_at_call 15; refine (fit_2 x (by omega) (by omega) _ (HC2.out.below (below_drewN (Below.refl _ _) 1))).mono ?_; rintro e w3 ⟨rfl, hb3⟩; have e0 := HC2.out.below ((below_drewN (Below.refl _ _) 1).trans hb3); obtain ⟨s0, s1, s2, s3, s4, s5, s6, s7, s8, s9, s10, s11, s12, s13, s14⟩ := e0.cells))
              go_wp2_with fail
              go_ret2
              unfold GetPost
              rw [HF.out (by omega)]
              exact ⟨rfl, (HK.out.trans HK2.out).trans (Kept.of_below ((below_drewN (Below.refl _ _) 1).trans hb3)), fun h => by cases h⟩
            · skip
              by_cases c3 : x < 16777216
              · go_wp2_with fail
                go_region_held3 (fun w' => w'.cell? ⟨0, 12, none⟩ = some (.int .i64 15) ∧ w'.cell? ⟨0, 13, none⟩ = some (.int .i64 4) ∧ w'.cell? ⟨0, 14, none⟩ = some (.int .i64 59)) (go_keep) ((go_at_call 15; refine (fit_3 x (by omega) (by omega) _ (HC2.out.below (below_drewN (Below.refl _ _) 1))).mono ?_; rintro e w3 ⟨rfl, hb3⟩; have e0 := HC2.out.below ((below_drewN (Below.refl _ _) 1).trans hb3); obtain ⟨s0, s1, s2, s3, s4, s5, s6, s7, s8, s9, s10, s11, s12, s13, s14⟩ := e0.cells))
                go_wp2_with fail
                go_ret2
                unfold GetPost
                rw [HF.out (by omega)]
                exact ⟨rfl, (HK.out.trans HK2.out).trans (Kept.of_below ((below_drewN (Below.refl _ _) 1).trans hb3)), fun h => by cases h⟩
              · go_wp2_with fail
                go_region_held3 (fun w' => w'.cell? ⟨0, 12, none⟩ = some (.int .i64 15) ∧ w'.cell? ⟨0, 13, none⟩ = some (.int .i64 4) ∧ w'.cell? ⟨0, 14, none⟩ = some (.int .i64 59)) (go_keep) ((go_at_call 15; refine (fit_4 x (by omega) (by omega) _ (HC2.out.below (below_drewN (Below.refl _ _) 1))).mono ?_; rintro e w3 ⟨rfl, hb3⟩; have e0 := HC2.out.below ((below_drewN (Below.refl _ _) 1).trans hb3); obtain ⟨s0, s1, s2, s3, s4, s5, s6, s7, s8, s9, s10, s11, s12, s13, s14⟩ := e0.cells))
                go_wp2_with fail
                refine (unfold_ok x (by omega) (by omega) _).mono ?_
                rintro e w4 ⟨rfl, rfl⟩
                go_wp2_with fail
                go_ret2
                unfold GetPost
                rw [HOK.out (by omega)]
                have hzu := zUnf_bd x (by omega) (by omega)
                exact ⟨rfl, (HK.out.trans HK2.out).trans (Kept.of_below ((below_drewN (Below.refl _ _) 1).trans hb3)), fun _ => ⟨HE2.out.below ((below_drewN (Below.refl _ _) 1).trans hb3), hs', hzu.1, hzu.2⟩⟩
end Go.Proofs.YtempedbpieaggaaDoor
