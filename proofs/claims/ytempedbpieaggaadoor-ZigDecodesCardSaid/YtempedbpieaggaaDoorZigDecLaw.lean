/- Contracts of zig.Decode and of the document's ZigDecoded; the walk of the law ZigDecodes. -/
import Derived.Test.YtempedbpieaggaaDoorZigDecode
import Derived.Test.YtempedbpieaggaaDoorSame
namespace Go.Proofs.YtempedbpieaggaaDoor
open Go Go.RowKit
set_option linter.unusedVariables false

/-- So many numbers by their codes, from a place on; or what is refused. -/
def zdec (l : List Int) : Nat → Nat → List Int → List Int × Int
  | 0, n, out => (out, 0)
  | c + 1, n, out => if (zget l n).2.2 = 0 then zdec l c (zget l n).2.1 (out ++ [(zget l n).1]) else ([], (zget l n).2.2)
theorem zget_bd (l : List Int) (n : Nat) (hn : n ≤ 8 * l.length) : (zget l n).2.2 = 0 ∨ (zget l n).2.2 = 4 ∨ (zget l n).2.2 = 5 := by
  unfold zget
  split
  · exact .inr (.inr rfl)
  · split
    · exact .inr (.inr rfl)
    · split
      · exact .inr (.inl rfl)
      · exact .inl rfl
theorem zget_pos (l : List Int) (n : Nat) (h : (zget l n).2.2 = 0) : (zget l n).2.1 ≤ 8 * l.length ∧ -288230376151711744 ≤ (zget l n).1 ∧ (zget l n).1 < 288230376151711744 := by
  unfold zget at h ⊢
  split
  · next e => rw [e] at h; cases h
  · next k m e =>
    rw [e] at h
    simp only [] at h
    by_cases h1 : 8 * l.length < m + zWide k
    · rw [if_pos h1] at h; cases h
    · rw [if_neg h1] at h ⊢
      by_cases h2 : numAt l m (zWide k) < zLow k
      · rw [if_pos h2] at h; cases h
      · rw [if_neg h2]
        have hb := numAt_bd l m (zWide k)
        have hw : (2 : Int) ^ zWide k ≤ 576460752303423488 := by
          unfold zWide; split; decide; split; decide; split; decide; split <;> decide
        have := zUnf_bd (numAt l m (zWide k)) hb.1 (by omega)
        exact ⟨by simp only []; omega, this⟩
theorem zigDecode_range (a : Option Addr) (len cap : Nat) (c : Int) (w : World) (h : c < 0 ∨ 240 < c) :
    Calls Tryd.prog 11 #[.slice a len cap, .int .i64 c] w fun e w' => e = .returned (.tuple #[.slice none 0 0, .int .i64 2]) ∧ w = w' := by
  rcases h with h | h
  · go_enter Tryd.func11, Tryd.ntmps11
    go_wp2_with fail
    go_ret2
    exact ⟨rfl, rfl⟩
  · have h0 : decide (c < 0) = false := by simp; omega
    go_enter Tryd.func11, Tryd.ntmps11
    go_wp2_with fail
    go_ret2
    exact ⟨rfl, rfl⟩
theorem refDecoded_range (a : Option Addr) (len cap : Nat) (c : Int) (w : World) (h : c < 0 ∨ 240 < c) :
    Calls Tryd.prog 12 #[.slice a len cap, .int .i64 c] w fun e w' => e = .returned (.tuple #[.slice none 0 0, .int .i64 2]) ∧ w = w' := by
  rcases h with h | h
  · go_enter Tryd.func12, Tryd.ntmps12
    go_wp2_with fail
    go_ret2
    exact ⟨rfl, rfl⟩
  · have h0 : decide (c < 0) = false := by simp; omega
    go_enter Tryd.func12, Tryd.ntmps12
    go_wp2_with fail
    go_ret2
    exact ⟨rfl, rfl⟩
set_option maxHeartbeats 1000000 in
theorem zigDecode_any (a : Option Addr) (cap : Nat) (l : List Int) (c : Nat) (w : World) (hc : c ≤ 240) (hl : l.length ≤ 140737488351232) (hr : Reads .u8 w w.heap.size a l) (hcl : ClassesAt w) :
    Calls Tryd.prog 11 #[.slice a l.length cap, .int .i64 c] w fun e w' => ∃ v, e = .returned (.tuple #[v, .int .i64 (zdec l c 0 []).2]) ∧ OwnI .i64 3 w' w.heap.size v (zdec l c 0 []).1 ∧ Below w.heap.size w w' := by
  obtain ⟨i0, hi, hz0, hz1, hz2⟩ := info_parts infoI64
  have hclt := hcl.lt
  go_enter Tryd.func11, Tryd.ntmps11
  go_wp2_with fail
  refine (eyeOpen_any a cap w.heap.size l _ (Nat.le_refl _) hr hl).mono ?_
  rintro e w1 ⟨rfl, heye, hw1⟩
  have Hw1 := Lib.hid hw1
  have HE := Lib.hid heye
  clear hw1 heye
  go_wp2_with fail
  go_loopw [7, 19] (fun v i wr => ∃ (k n : Nat) (out : List Int), k ≤ c ∧ i = .int .i64 k ∧ zdec l c 0 [] = zdec l (c - k) n out ∧ n ≤ 8 * l.length ∧ out.length = k ∧ EyeAt wr w.heap.size a cap l n ∧ OwnI .i64 3 wr w.heap.size v out ∧ Below w.heap.size w wr ∧ w.heap.size < wr.heap.size) (fun _ i _ => c - (intOf i).toNat)
  case atStart => exact ⟨0, 0, [], Nat.zero_le _, rfl, rfl, Nat.zero_le _, rfl, HE.out, OwnI.nil _ _ _ _, by rw [Hw1.out]; exact (Below.refl _ _).alloc (Nat.le_refl _) _, by rw [Hw1.out]; simp⟩
  case round =>
    obtain ⟨k, n, out, hk, rfl, hbr, hn, hout, heye, hown, hbel, hszl⟩ := hrel
    have HR := Lib.hid hbr
    have HE := Lib.hid heye
    have HO := Lib.hid hown
    have HB := Lib.hid hbel
    have HL := Lib.hid hout
    clear hbr heye hown hbel hout
    by_cases hlt : k < c
    · have hstep : Hid (zdec l (c - k) n out = if (zget l n).2.2 = 0 then zdec l (c - (k + 1)) (zget l n).2.1 (out ++ [(zget l n).1]) else ([], (zget l n).2.2)) := by
        show _ = _; rw [show c - k = (c - (k + 1)) + 1 by omega, zdec]
      go_wp2_with fail
      refine (zigGet_any w.heap.size a cap l n _ HE.out hn (hcl.belowB HB.out hclt) hclt).mono ?_
      rintro e w2 hpost
      unfold GetPost at hpost
      obtain ⟨rfl, hk2, hp⟩ := hpost
      have hzb := zget_bd l n hn
      have hb2 : Below w.heap.size w w2 := HB.out.trans (hk2.below (by omega))
      have hs2 := hk2.size
      have ho2 := hk2.ownI HO.out (by decide)
      have HK2 := Lib.hid hk2
      have HO2 := Lib.hid ho2
      have HB2 := Lib.hid hb2
      have HP := Lib.hid hp
      clear hk2 ho2 hb2 hp
      by_cases hz : (zget l n).2.2 = 0
      · have hp := HP.out hz
        obtain ⟨he2, hn2, hv1, hv2⟩ := hp
        have HE2 := Lib.hid he2
        clear he2
        have hres : Hid (zdec l c 0 [] = zdec l (c - (k + 1)) (zget l n).2.1 (out ++ [(zget l n).1])) := by show _ = _; rw [HR.out, hstep.out, if_pos hz]
        rw [hz]
        have HZ := Lib.hid hz
        clear hz hzb
        have hol := HL.out
        have hol2 : out.length ≤ 240 := by omega
        clear hol
        have hwf : (Lit.int .i64 (zget l n).1).wf = true := wf_i64 (by omega) (by omega)
        generalize (zget l n).1 = Z at *
        generalize (zget l n).2.1 = n2 at *
        go_wp2_with ((at_builtin; refine wpList_append_ints _ rfl (.tmp 29) (.tmp 31) 26 rfl .i64 w.heap.size 3 i0 8 Tryd.underlying26 hi hz0 hz1 hz2 u7 out rfl (HO2.out.below ((Below.refl _ _).alloc (Nat.le_refl _) _)) (w2.heap.size + 1) (some ⟨w2.heap.size, 0, none⟩) 1 1 [Z] rfl rfl (reads_one .i64 3 Z hwf w2) (by simp only [List.length_cons, List.length_nil]; unfold maxLen; omega) (by simp only [List.length_cons, List.length_nil]; omega) (by simp; omega) ?_; intro v' w3 ho3 hm3))
        have hb3 : Below w.heap.size w w3 := (HB2.out.alloc (by omega) _).trans (hm3.below (by simp; omega) (fun g hg => (HO2.out.lt g hg).1))
        have hne := own_blk_ne HO2.out.1 HE2.out.1 (by decide)
        have heye3 : EyeAt w3 w.heap.size a cap l n2 := ⟨(HE2.out.1.alloc _).grown hm3.1 (Ne.symm hne), HE2.out.2.1.below ((((Below.refl _ _).alloc (by omega) _)).trans (hm3.below (by simp; omega) (fun g hg => (HO2.out.lt g hg).1))), HE2.out.2.2⟩
        have hs3 := hm3.1.size
        simp at hs3
        refine ⟨⟨k + 1, n2, out ++ [Z], by omega, by go_num, hres.out, hn2, by rw [List.length_append, HL.out]; rfl, heye3, ho3, hb3, by omega⟩, by simp [intOf]; omega⟩
      · have hres : Hid (zdec l c 0 [] = ([], (zget l n).2.2)) := by show _ = _; rw [HR.out, hstep.out, if_neg hz]
        have hzd : ((zget l n).2.2 == 0) = false := by simpa using hz
        have hzn : ((zget l n).2.2 != 0) = true := by simpa using hz
        go_wp2_with fail
        go_ret2
        rw [hres.out]
        exact ⟨_, rfl, OwnI.nil _ _ _ _, HB2.out⟩
    · have hke : k = c := by omega
      have hres : Hid (zdec l c 0 [] = (out, 0)) := by show _ = _; rw [HR.out, hke, Nat.sub_self, zdec]
      subst hke
      go_wp2_with fail
      go_ret2
      rw [hres.out]
      exact ⟨_, rfl, HO.out, HB.out⟩
set_option maxHeartbeats 1000000 in
theorem refDecoded_any (a : Option Addr) (cap : Nat) (l : List Int) (c : Nat) (w : World) (hc : c ≤ 240) (hl : l.length ≤ 140737488351232) (hr : Reads .u8 w w.heap.size a l) :
    Calls Tryd.prog 12 #[.slice a l.length cap, .int .i64 c] w fun e w' => ∃ v, e = .returned (.tuple #[v, .int .i64 (zdec l c 0 []).2]) ∧ OwnI .i64 3 w' w.heap.size v (zdec l c 0 []).1 ∧ Below w.heap.size w w' := by
  obtain ⟨i0, hi, hz0, hz1, hz2⟩ := info_parts infoI64
  go_enter Tryd.func12, Tryd.ntmps12
  go_wp2_with fail
  go_loopw [6, 7, 8] (fun at_ v i wr => ∃ (k n : Nat) (out : List Int), k ≤ c ∧ i = .int .i64 k ∧ at_ = .int .i64 n ∧ zdec l c 0 [] = zdec l (c - k) n out ∧ n ≤ 8 * l.length ∧ out.length = k ∧ OwnI .i64 3 wr w.heap.size v out ∧ Below w.heap.size w wr) (fun _ _ i _ => c - (intOf i).toNat)
  case atStart => exact ⟨0, 0, [], Nat.zero_le _, rfl, rfl, rfl, Nat.zero_le _, rfl, OwnI.nil _ _ _ _, Below.refl _ _⟩
  case round =>
    obtain ⟨k, n, out, hk, rfl, rfl, hbr, hn, hout, hown, hbel⟩ := hrel
    have HR := Lib.hid hbr
    have HO := Lib.hid hown
    have HB := Lib.hid hbel
    have HL := Lib.hid hout
    have hsz := hbel.size
    clear hbr hown hbel hout
    by_cases hlt : k < c
    · have hstep : Hid (zdec l (c - k) n out = if (zget l n).2.2 = 0 then zdec l (c - (k + 1)) (zget l n).2.1 (out ++ [(zget l n).1]) else ([], (zget l n).2.2)) := by
        show _ = _; rw [show c - k = (c - (k + 1)) + 1 by omega, zdec]
      go_wp2_with fail
      refine (zigAt_any a cap l n _ ((hr.below HB.out).more hsz) hl hn).mono ?_
      rintro e w2 hpost
      unfold AtPost at hpost
      obtain ⟨rfl, hb2⟩ := hpost
      have hzb := zget_bd l n hn
      have hs2 := hb2.size
      have HB2 := Lib.hid (HB.out.trans (hb2.mono hsz))
      have HO2 := Lib.hid (HO.out.below hb2)
      clear hb2
      by_cases hz : (zget l n).2.2 = 0
      · obtain ⟨hn2, hv1, hv2⟩ := zget_pos l n hz
        have hres : Hid (zdec l c 0 [] = zdec l (c - (k + 1)) (zget l n).2.1 (out ++ [(zget l n).1])) := by show _ = _; rw [HR.out, hstep.out, if_pos hz]
        rw [hz]
        clear hz hzb
        have hol := HL.out
        have hol2 : out.length ≤ 240 := by omega
        clear hol
        have hwf : (Lit.int .i64 (zget l n).1).wf = true := wf_i64 (by omega) (by omega)
        generalize (zget l n).1 = Z at *
        generalize (zget l n).2.1 = n2 at *
        go_wp2_with ((at_builtin; refine wpList_append_ints _ rfl (.tmp 34) (.tmp 36) 26 rfl .i64 w.heap.size 3 i0 8 Tryd.underlying26 hi hz0 hz1 hz2 u7 out rfl (HO2.out.below ((Below.refl _ _).alloc (Nat.le_refl _) _)) (w2.heap.size + 1) (some ⟨w2.heap.size, 0, none⟩) 1 1 [Z] rfl rfl (reads_one .i64 3 Z hwf w2) (by simp only [List.length_cons, List.length_nil]; unfold maxLen; omega) (by simp only [List.length_cons, List.length_nil]; omega) (by simp; omega) ?_; intro v' w3 ho3 hm3))
        have hb3 : Below w.heap.size w w3 := (HB2.out.alloc (by omega) _).trans (hm3.below (by simp; omega) (fun g hg => (HO2.out.lt g hg).1))
        refine ⟨⟨k + 1, n2, out ++ [Z], by omega, by go_num, rfl, hres.out, hn2, by rw [List.length_append, HL.out]; rfl, ho3, hb3⟩, by simp [intOf]; omega⟩
      · have hres : Hid (zdec l c 0 [] = ([], (zget l n).2.2)) := by show _ = _; rw [HR.out, hstep.out, if_neg hz]
        have hzd : ((zget l n).2.2 == 0) = false := by simpa using hz
        have hzn : ((zget l n).2.2 != 0) = true := by simpa using hz
        go_wp2_with fail
        go_ret2
        rw [hres.out]
        exact ⟨_, rfl, OwnI.nil _ _ _ _, HB2.out⟩
    · have hke : k = c := by omega
      have hres : Hid (zdec l c 0 [] = (out, 0)) := by show _ = _; rw [HR.out, hke, Nat.sub_self, zdec]
      subst hke
      go_wp2_with fail
      go_ret2
      rw [hres.out]
      exact ⟨_, rfl, HO.out, HB.out⟩
theorem zigDecodes_walk (a0 : Option Addr) (len0 cap0 : Nat) (z0 : List Int) (a1 : Int) (w : World) (w0 : IsRow .u8 w a0 len0 cap0 z0) (s0 : z0.length * 1 ≤ 140737488351232) (w1 : (Lit.int .i64 a1).wf = true) (hcl : ClassesAt w) :
    Calls Tryd.prog 5 #[.slice a0 len0 cap0, .int .i64 a1] w fun e w' => e = .returned (.bool true) ∧ Below w.heap.size w w' := by
  obtain ⟨hr, hl⟩ := w0.reads
  have hsz : (z0.take len0).length ≤ 140737488351232 := by rw [List.length_take]; omega
  generalize z0.take len0 = l at *
  subst hl
  by_cases h : a1 < 0 ∨ 240 < a1
  · have H := Lib.hid h
    clear h
    go_enter Tryd.func5, Tryd.ntmps5
    go_wp2_with fail
    refine (zigDecode_range a0 l.length cap0 a1 _ H.out).mono ?_
    rintro e x1 ⟨rfl, rfl⟩
    go_wp2_with fail
    refine (refDecoded_range a0 l.length cap0 a1 _ H.out).mono ?_
    rintro e x2 ⟨rfl, rfl⟩
    go_wp2_with fail
    refine (same_ints none none 0 0 w.heap.size [] _ ⟨by simp, by simp, by simp⟩ ⟨by simp, by simp, by simp⟩).mono ?_
    rintro e x3 ⟨rfl, hb3⟩
    go_wp2_with fail
    go_ret
    exact ⟨rfl, hb3⟩
  · obtain ⟨c, rfl⟩ := Int.eq_ofNat_of_zero_le (show 0 ≤ a1 by omega)
    have hc : c ≤ 240 := by omega
    clear h
    go_enter Tryd.func5, Tryd.ntmps5
    go_wp2_with fail
    refine (zigDecode_any a0 cap0 l c _ hc hsz hr hcl).mono ?_
    rintro e x1 ⟨v1, rfl, ho1, hb1⟩
    go_wp2_with fail
    refine (refDecoded_any a0 cap0 l c _ hc hsz ((hr.below hb1).more hb1.size)).mono ?_
    rintro e x2 ⟨v2, rfl, ho2, hb2⟩
    obtain ⟨b1, c1, rfl, hq1⟩ := (ho1.below hb2).slc
    obtain ⟨b2, c2, rfl, hq2⟩ := ho2.slc
    go_wp2_with fail
    refine (same_ints b1 b2 c1 c2 x2.heap.size (zdec l c 0 []).1 _ hq1 hq2).mono ?_
    rintro e x3 ⟨rfl, hb3⟩
    go_wp2_with fail
    go_ret
    exact ⟨rfl, (hb1.trans (hb2.mono hb1.size)).trans (hb3.mono (Nat.le_trans hb1.size hb2.size))⟩
end Go.Proofs.YtempedbpieaggaaDoor
