/- Contracts of zig.Decode and of the document's zigAt and ZigDecoded; the walk of the law ZigDecodes. -/
import Derived.Test.YtempedbpieaggaaDoorZigGet
import Derived.Test.YtempedbpieaggaaDoorBitAt
import Derived.Test.YtempedbpieaggaaDoorInfo
namespace Go.Proofs.YtempedbpieaggaaDoor
open Go Go.RowKit
set_option linter.unusedVariables false

theorem ret3_of {k l m : IntKind} {a b c d e f : Int} (h : a = b) (g : c = d) (i : e = f) : Ending.returned (.tuple #[.int k a, .int l c, .int m e]) = .returned (.tuple #[.int k b, .int l d, .int m f]) := by rw [h, g, i]
/-- What zigAt leaves of the world. -/
def AtPost (l : List Int) (n : Nat) (w : World) (e : Ending) (w' : World) : Prop :=
  e = .returned (.tuple #[.int .i64 (zget l n).1, .int .i64 (zget l n).2.1, .int .i64 (zget l n).2.2]) ∧ Below w.heap.size w w'
set_option maxHeartbeats 4000000 in
theorem zigAt_any (a : Option Addr) (cap : Nat) (l : List Int) (n : Nat) (w : World) (hr : Reads .u8 w w.heap.size a l) (hl : l.length ≤ 140737488351232) (hn : n ≤ 8 * l.length) :
    Calls Tryd.prog 25 #[.slice a l.length cap, .int .i64 n] w (AtPost l n w) := by
  go_enter Tryd.func25, Tryd.ntmps25
  go_upto_block 0 with fail
  go_cut [1, 7] (fun at_ v wx => ∃ k m : Nat, k ≤ 4 ∧ v = .int .i64 k ∧ at_ = .int .i64 m ∧ zpre l n 4 0 = some (k, m) ∧ m ≤ 8 * l.length ∧ Below w.heap.size w wx)
  case first =>
    go_wp2_with fail
    go_loopw [1, 7] (fun at_ v wr => ∃ k m d : Nat, k ≤ 4 ∧ v = .int .i64 k ∧ at_ = .int .i64 m ∧ zpre l n 4 0 = zpre l m (4 - k) k ∧ m ≤ 8 * l.length ∧ wr = w.drewN d) (fun _ v _ => 4 - (intOf v).toNat)
    case atStart => exact ⟨0, n, 0, by omega, rfl, rfl, rfl, hn, rfl⟩
    case round =>
      obtain ⟨k, m, d, hk, rfl, rfl, hz, hm, rfl⟩ := hrel
      have HZ := Lib.hid hz
      clear hz
      by_cases hlt : k < 4
      · have hstep : Hid (zpre l m (4 - k) k = if 8 * l.length ≤ m then none else if bitOf l m = 0 then some (k, m + 1) else zpre l (m + 1) (4 - (k + 1)) (k + 1)) := by
          show _ = _
          rw [show 4 - k = (4 - (k + 1)) + 1 by omega, zpre]
        by_cases hs : 8 * l.length ≤ m
        · have hres : Hid (zget l n = (0, 0, 5)) := zget_none l n (by rw [HZ.out, hstep.out, if_pos hs])
          have hs' : 8 * (l.length : Int) ≤ m := by omega
          clear hs
          go_wp2_with fail
          go_ret3
          unfold AtPost
          rw [hres.out]
          exact ⟨rfl, below_drewN (Below.refl _ _) _⟩
        · have hs' : (m : Int) < 8 * (l.length : Int) := by omega
          go_wp2_with fail
          refine (bitAt_any a cap w.heap.size l m _ (by omega) hl (hr.below (below_drewN (Below.refl _ _) _))).mono ?_
          rintro e w2 ⟨rfl, d2, rfl⟩
          rcases bitOf_bd l m with hb | hb
          · have hres : Hid (zpre l n 4 0 = some (k, m + 1)) := by show _ = _; rw [HZ.out, hstep.out, if_neg hs, if_pos hb]
            rw [hb]
            clear hs hb
            go_wp2_with fail
            go_meet
            exact ⟨k, m + 1, hk, rfl, by go_num, hres.out, by omega, below_drewN (Below.refl _ _) _⟩
          · have hres : Hid (zpre l n 4 0 = zpre l (m + 1) (4 - (k + 1)) (k + 1)) := by show _ = _; rw [HZ.out, hstep.out, if_neg hs, if_neg (by omega)]
            rw [hb]
            clear hs hb
            go_wp2_with fail
            exact ⟨⟨k + 1, m + 1, _, by omega, by go_num, by go_num, hres.out, by omega, rfl⟩, by simp [intOf]; omega⟩
      · have hke : k = 4 := by omega
        subst hke
        go_wp2_with fail
        go_meet
        exact ⟨4, m, by omega, rfl, rfl, by rw [HZ.out]; rfl, hm, below_drewN (Below.refl _ _) _⟩
  case rest =>
    obtain ⟨k, m, hk, rfl, rfl, hz, hm, hbx⟩ := hcut
    have HZ := Lib.hid hz
    have hszx := hbx.size
    have HBX := Lib.hid hbx
    clear hz hbx
    have hkc : k = 0 ∨ k = 1 ∨ k = 2 ∨ k = 3 ∨ k = 4 := by omega
    rcases hkc with rfl | rfl | rfl | rfl | rfl
    · by_cases hs : 8 * l.length < m + 0
      · exact absurd hs (by omega)
      · have hs' : m + 0 ≤ 8 * l.length := by omega
        go_wp2_with fail
        go_loopw [10, 11] (fun v i wx => ∃ q : Nat, q ≤ 0 ∧ i = .int .i64 q ∧ v = .int .i64 (numAt l m q) ∧ Below w.heap.size w wx) (fun _ i _ => 0 - (intOf i).toNat)
        case atStart => exact ⟨0, Nat.zero_le _, rfl, rfl, HBX.out.alloc hszx _⟩
        case round =>
          obtain ⟨q, hq, rfl, rfl, hbel⟩ := hrel
          have HB := Lib.hid hbel
          have hsz := hbel.size
          clear hbel
          have hnb := numAt_bd l m q
          have hp := pow60 q (by omega)
          by_cases hqm : q < 0
          · exact absurd hqm (by omega)
          · have hqe : q = 0 := by omega
            subst hqe
            have hxx : numAt l m 0 < 1 := by have := hnb.2; simpa using this
            have hform : numAt l m 0 < 0 → zget l n = (0, 0, 4) := fun h => zget_form l n 0 m HZ.out hs h
            have hok : ¬ numAt l m 0 < 0 → zget l n = (zUnf (numAt l m 0), m + 0, 0) := fun h => zget_ok l n 0 m HZ.out hs h
            have HF := Lib.hid hform
            have HOK := Lib.hid hok
            clear hform hok hs hp
            generalize numAt l m 0 = x at *
            go_wp2_with fail
            refine (rUnfold_ok x (by omega) (by omega) _).mono ?_
            rintro e w4 ⟨rfl, rfl⟩
            go_wp2_with fail
            go_ret3
            unfold AtPost
            rw [HOK.out (by omega)]
            exact ⟨ret3_of rfl (by simp only [Int.natCast_add]; rfl) rfl, HB.out⟩
    · by_cases hs : 8 * l.length < m + 6
      · have hres : Hid (zget l n = (0, 0, 5)) := zget_short l n 1 m HZ.out hs
        have hs' : 8 * (l.length : Int) < m + 6 := by omega
        clear hs
        go_wp2_with fail
        go_ret3
        unfold AtPost
        rw [hres.out]
        exact ⟨rfl, HBX.out.alloc hszx _⟩
      · have hs' : m + 6 ≤ 8 * l.length := by omega
        go_wp2_with fail
        go_loopw [10, 11] (fun v i wx => ∃ q : Nat, q ≤ 6 ∧ i = .int .i64 q ∧ v = .int .i64 (numAt l m q) ∧ Below w.heap.size w wx) (fun _ i _ => 6 - (intOf i).toNat)
        case atStart => exact ⟨0, Nat.zero_le _, rfl, rfl, HBX.out.alloc hszx _⟩
        case round =>
          obtain ⟨q, hq, rfl, rfl, hbel⟩ := hrel
          have HB := Lib.hid hbel
          have hsz := hbel.size
          clear hbel
          have hnb := numAt_bd l m q
          have hp := pow60 q (by omega)
          by_cases hqm : q < 6
          · have hbb := bitOf_bd l (m + q)
            have hnum : Hid (numAt l m (q + 1) = 2 * numAt l m q + bitOf l (m + q)) := rfl
            have hp1 := numAt_bd l m (q + 1)
            have hp2 := pow60 (q + 1) (by omega)
            have hnbb : 2 * numAt l m q + bitOf l (m + q) ≤ 1152921504606846976 := by rw [← hnum.out]; omega
            clear hp1 hp2
            generalize numAt l m q = S at *
            go_wp2_with fail
            rw [show ((m : Int) + (q : Int)) = ((m + q : Nat) : Int) from by omega]
            refine (bitAt_any a cap w.heap.size l (m + q) _ (by omega) hl (hr.below HB.out)).mono ?_
            rintro e w2 ⟨rfl, d2, rfl⟩
            generalize bitOf l (m + q) = X at *
            go_wp2_with fail
            first | exact ⟨⟨q + 1, by omega, by go_num, by rw [hnum.out], below_drewN HB.out _⟩, by simp [intOf]; omega⟩ | (refine ⟨?_, by simp [intOf]; omega⟩; (repeat apply Exists.intro); exact ⟨⟨q + 1, by omega, by go_num, by rw [hnum.out], below_drewN HB.out _⟩, rfl⟩)
          · have hqe : q = 6 := by omega
            subst hqe
            have hxx : numAt l m 6 < 64 := by have := hnb.2; simpa using this
            have hform : numAt l m 6 < 1 → zget l n = (0, 0, 4) := fun h => zget_form l n 1 m HZ.out hs h
            have hok : ¬ numAt l m 6 < 1 → zget l n = (zUnf (numAt l m 6), m + 6, 0) := fun h => zget_ok l n 1 m HZ.out hs h
            have HF := Lib.hid hform
            have HOK := Lib.hid hok
            clear hform hok hs hp
            generalize numAt l m 6 = x at *
            by_cases hx : x < 1
            · go_wp2_with fail
              go_ret3
              unfold AtPost
              rw [HF.out hx]
              exact ⟨rfl, HB.out.alloc hsz _⟩
            · have hxd : decide (x < 1) = false := by simpa using hx
              have hx2 : 1 ≤ x := by omega
              clear hx
              go_wp2_with fail
              refine (rUnfold_ok x (by omega) (by omega) _).mono ?_
              rintro e w4 ⟨rfl, rfl⟩
              go_wp2_with fail
              go_ret3
              unfold AtPost
              rw [HOK.out (by omega)]
              exact ⟨ret3_of rfl (by simp only [Int.natCast_add]; rfl) rfl, HB.out.alloc hsz _⟩
    · by_cases hs : 8 * l.length < m + 12
      · have hres : Hid (zget l n = (0, 0, 5)) := zget_short l n 2 m HZ.out hs
        have hs' : 8 * (l.length : Int) < m + 12 := by omega
        clear hs
        go_wp2_with fail
        go_ret3
        unfold AtPost
        rw [hres.out]
        exact ⟨rfl, HBX.out.alloc hszx _⟩
      · have hs' : m + 12 ≤ 8 * l.length := by omega
        go_wp2_with fail
        go_loopw [10, 11] (fun v i wx => ∃ q : Nat, q ≤ 12 ∧ i = .int .i64 q ∧ v = .int .i64 (numAt l m q) ∧ Below w.heap.size w wx) (fun _ i _ => 12 - (intOf i).toNat)
        case atStart => exact ⟨0, Nat.zero_le _, rfl, rfl, HBX.out.alloc hszx _⟩
        case round =>
          obtain ⟨q, hq, rfl, rfl, hbel⟩ := hrel
          have HB := Lib.hid hbel
          have hsz := hbel.size
          clear hbel
          have hnb := numAt_bd l m q
          have hp := pow60 q (by omega)
          by_cases hqm : q < 12
          · have hbb := bitOf_bd l (m + q)
            have hnum : Hid (numAt l m (q + 1) = 2 * numAt l m q + bitOf l (m + q)) := rfl
            have hp1 := numAt_bd l m (q + 1)
            have hp2 := pow60 (q + 1) (by omega)
            have hnbb : 2 * numAt l m q + bitOf l (m + q) ≤ 1152921504606846976 := by rw [← hnum.out]; omega
            clear hp1 hp2
            generalize numAt l m q = S at *
            go_wp2_with fail
            rw [show ((m : Int) + (q : Int)) = ((m + q : Nat) : Int) from by omega]
            refine (bitAt_any a cap w.heap.size l (m + q) _ (by omega) hl (hr.below HB.out)).mono ?_
            rintro e w2 ⟨rfl, d2, rfl⟩
            generalize bitOf l (m + q) = X at *
            go_wp2_with fail
            first | exact ⟨⟨q + 1, by omega, by go_num, by rw [hnum.out], below_drewN HB.out _⟩, by simp [intOf]; omega⟩ | (refine ⟨?_, by simp [intOf]; omega⟩; (repeat apply Exists.intro); exact ⟨⟨q + 1, by omega, by go_num, by rw [hnum.out], below_drewN HB.out _⟩, rfl⟩)
          · have hqe : q = 12 := by omega
            subst hqe
            have hxx : numAt l m 12 < 4096 := by have := hnb.2; simpa using this
            have hform : numAt l m 12 < 64 → zget l n = (0, 0, 4) := fun h => zget_form l n 2 m HZ.out hs h
            have hok : ¬ numAt l m 12 < 64 → zget l n = (zUnf (numAt l m 12), m + 12, 0) := fun h => zget_ok l n 2 m HZ.out hs h
            have HF := Lib.hid hform
            have HOK := Lib.hid hok
            clear hform hok hs hp
            generalize numAt l m 12 = x at *
            by_cases hx : x < 64
            · go_wp2_with fail
              go_ret3
              unfold AtPost
              rw [HF.out hx]
              exact ⟨rfl, HB.out.alloc hsz _⟩
            · have hxd : decide (x < 64) = false := by simpa using hx
              have hx2 : 64 ≤ x := by omega
              clear hx
              go_wp2_with fail
              refine (rUnfold_ok x (by omega) (by omega) _).mono ?_
              rintro e w4 ⟨rfl, rfl⟩
              go_wp2_with fail
              go_ret3
              unfold AtPost
              rw [HOK.out (by omega)]
              exact ⟨ret3_of rfl (by simp only [Int.natCast_add]; rfl) rfl, HB.out.alloc hsz _⟩
    · by_cases hs : 8 * l.length < m + 24
      · have hres : Hid (zget l n = (0, 0, 5)) := zget_short l n 3 m HZ.out hs
        have hs' : 8 * (l.length : Int) < m + 24 := by omega
        clear hs
        go_wp2_with fail
        go_ret3
        unfold AtPost
        rw [hres.out]
        exact ⟨rfl, HBX.out.alloc hszx _⟩
      · have hs' : m + 24 ≤ 8 * l.length := by omega
        go_wp2_with fail
        go_loopw [10, 11] (fun v i wx => ∃ q : Nat, q ≤ 24 ∧ i = .int .i64 q ∧ v = .int .i64 (numAt l m q) ∧ Below w.heap.size w wx) (fun _ i _ => 24 - (intOf i).toNat)
        case atStart => exact ⟨0, Nat.zero_le _, rfl, rfl, HBX.out.alloc hszx _⟩
        case round =>
          obtain ⟨q, hq, rfl, rfl, hbel⟩ := hrel
          have HB := Lib.hid hbel
          have hsz := hbel.size
          clear hbel
          have hnb := numAt_bd l m q
          have hp := pow60 q (by omega)
          by_cases hqm : q < 24
          · have hbb := bitOf_bd l (m + q)
            have hnum : Hid (numAt l m (q + 1) = 2 * numAt l m q + bitOf l (m + q)) := rfl
            have hp1 := numAt_bd l m (q + 1)
            have hp2 := pow60 (q + 1) (by omega)
            have hnbb : 2 * numAt l m q + bitOf l (m + q) ≤ 1152921504606846976 := by rw [← hnum.out]; omega
            clear hp1 hp2
            generalize numAt l m q = S at *
            go_wp2_with fail
            rw [show ((m : Int) + (q : Int)) = ((m + q : Nat) : Int) from by omega]
            refine (bitAt_any a cap w.heap.size l (m + q) _ (by omega) hl (hr.below HB.out)).mono ?_
            rintro e w2 ⟨rfl, d2, rfl⟩
            generalize bitOf l (m + q) = X at *
            go_wp2_with fail
            first | exact ⟨⟨q + 1, by omega, by go_num, by rw [hnum.out], below_drewN HB.out _⟩, by simp [intOf]; omega⟩ | (refine ⟨?_, by simp [intOf]; omega⟩; (repeat apply Exists.intro); exact ⟨⟨q + 1, by omega, by go_num, by rw [hnum.out], below_drewN HB.out _⟩, rfl⟩)
          · have hqe : q = 24 := by omega
            subst hqe
            have hxx : numAt l m 24 < 16777216 := by have := hnb.2; simpa using this
            have hform : numAt l m 24 < 4096 → zget l n = (0, 0, 4) := fun h => zget_form l n 3 m HZ.out hs h
            have hok : ¬ numAt l m 24 < 4096 → zget l n = (zUnf (numAt l m 24), m + 24, 0) := fun h => zget_ok l n 3 m HZ.out hs h
            have HF := Lib.hid hform
            have HOK := Lib.hid hok
            clear hform hok hs hp
            generalize numAt l m 24 = x at *
            by_cases hx : x < 4096
            · go_wp2_with fail
              go_ret3
              unfold AtPost
              rw [HF.out hx]
              exact ⟨rfl, HB.out.alloc hsz _⟩
            · have hxd : decide (x < 4096) = false := by simpa using hx
              have hx2 : 4096 ≤ x := by omega
              clear hx
              go_wp2_with fail
              refine (rUnfold_ok x (by omega) (by omega) _).mono ?_
              rintro e w4 ⟨rfl, rfl⟩
              go_wp2_with fail
              go_ret3
              unfold AtPost
              rw [HOK.out (by omega)]
              exact ⟨ret3_of rfl (by simp only [Int.natCast_add]; rfl) rfl, HB.out.alloc hsz _⟩
    · by_cases hs : 8 * l.length < m + 59
      · have hres : Hid (zget l n = (0, 0, 5)) := zget_short l n 4 m HZ.out hs
        have hs' : 8 * (l.length : Int) < m + 59 := by omega
        clear hs
        go_wp2_with fail
        go_ret3
        unfold AtPost
        rw [hres.out]
        exact ⟨rfl, HBX.out.alloc hszx _⟩
      · have hs' : m + 59 ≤ 8 * l.length := by omega
        go_wp2_with fail
        go_loopw [10, 11] (fun v i wx => ∃ q : Nat, q ≤ 59 ∧ i = .int .i64 q ∧ v = .int .i64 (numAt l m q) ∧ Below w.heap.size w wx) (fun _ i _ => 59 - (intOf i).toNat)
        case atStart => exact ⟨0, Nat.zero_le _, rfl, rfl, HBX.out.alloc hszx _⟩
        case round =>
          obtain ⟨q, hq, rfl, rfl, hbel⟩ := hrel
          have HB := Lib.hid hbel
          have hsz := hbel.size
          clear hbel
          have hnb := numAt_bd l m q
          have hp := pow60 q (by omega)
          by_cases hqm : q < 59
          · have hbb := bitOf_bd l (m + q)
            have hnum : Hid (numAt l m (q + 1) = 2 * numAt l m q + bitOf l (m + q)) := rfl
            have hp1 := numAt_bd l m (q + 1)
            have hp2 := pow60 (q + 1) (by omega)
            have hnbb : 2 * numAt l m q + bitOf l (m + q) ≤ 1152921504606846976 := by rw [← hnum.out]; omega
            clear hp1 hp2
            generalize numAt l m q = S at *
            go_wp2_with fail
            rw [show ((m : Int) + (q : Int)) = ((m + q : Nat) : Int) from by omega]
            refine (bitAt_any a cap w.heap.size l (m + q) _ (by omega) hl (hr.below HB.out)).mono ?_
            rintro e w2 ⟨rfl, d2, rfl⟩
            generalize bitOf l (m + q) = X at *
            go_wp2_with fail
            first | exact ⟨⟨q + 1, by omega, by go_num, by rw [hnum.out], below_drewN HB.out _⟩, by simp [intOf]; omega⟩ | (refine ⟨?_, by simp [intOf]; omega⟩; (repeat apply Exists.intro); exact ⟨⟨q + 1, by omega, by go_num, by rw [hnum.out], below_drewN HB.out _⟩, rfl⟩)
          · have hqe : q = 59 := by omega
            subst hqe
            have hxx : numAt l m 59 < 576460752303423488 := by have := hnb.2; simpa using this
            have hform : numAt l m 59 < 16777216 → zget l n = (0, 0, 4) := fun h => zget_form l n 4 m HZ.out hs h
            have hok : ¬ numAt l m 59 < 16777216 → zget l n = (zUnf (numAt l m 59), m + 59, 0) := fun h => zget_ok l n 4 m HZ.out hs h
            have HF := Lib.hid hform
            have HOK := Lib.hid hok
            clear hform hok hs hp
            generalize numAt l m 59 = x at *
            by_cases hx : x < 16777216
            · go_wp2_with fail
              go_ret3
              unfold AtPost
              rw [HF.out hx]
              exact ⟨rfl, HB.out.alloc hsz _⟩
            · have hxd : decide (x < 16777216) = false := by simpa using hx
              have hx2 : 16777216 ≤ x := by omega
              clear hx
              go_wp2_with fail
              refine (rUnfold_ok x (by omega) (by omega) _).mono ?_
              rintro e w4 ⟨rfl, rfl⟩
              go_wp2_with fail
              go_ret3
              unfold AtPost
              rw [HOK.out (by omega)]
              exact ⟨ret3_of rfl (by simp only [Int.natCast_add]; rfl) rfl, HB.out.alloc hsz _⟩
end Go.Proofs.YtempedbpieaggaaDoor
