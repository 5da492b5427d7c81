/- The contract of Pen.Put: so many bits of a number behind those that the pen has. -/
import Derived.Test.YtempedbpieaggaaDoorProg
import Derived.Test.YtempedbpieaggaaDoorInfo
import Derived.Test.YtempedbpieaggaaDoorKept
import Derived.Test.YtempedbpieaggaaDoorAppend
import Derived.Test.YtempedbpieaggaaDoorPackPlain
import Derived.WalkKit
import Derived.WalkLawsBesides
import Derived.LoopTactic
import Derived.RegionTactic
import Derived.BigRegion
import Derived.Outline
import Derived.Deep.DeepCutAuto
import Derived.Lib.Hide
namespace Go.Proofs.YtempedbpieaggaaDoor
open Go Go.RowKit
set_option linter.unusedVariables false

/-- A pen that has written the bits L: block g; its bytes lie from block 'base' on. -/
def PenAt (w : World) (base g : Nat) (L : List Int) : Prop :=
  ∃ v, Blk w g 43 #[v, .int .i64 L.length] ∧ OwnI .u8 5 w base v (pack L)
theorem PenAt.alloc {w : World} {base g : Nat} {L : List Int} (h : PenAt w base g L) (o : Obj) : PenAt (w.alloc o) base g L := by
  obtain ⟨v, h1, h2⟩ := h
  exact ⟨v, h1.alloc o, h2.below ((Below.refl _ _).alloc (Nat.le_refl _) o)⟩
set_option maxHeartbeats 1000000 in
theorem penPut_any (g base : Nat) (L : List Int) (wd : Nat) (val : Int) (w : World) (hL : AllBits L) (hw : wd ≤ 60) (hlen : L.length ≤ 1000000) (wf : (Lit.int .i64 val).wf = true) (hB : base ≤ w.heap.size) (hg : base ≤ g) (hp : PenAt w base g L) :
    Calls Tryd.prog 27 #[.pointer (some ⟨g, 0, none⟩), .int .i64 wd, .int .i64 val] w fun e w' => e = .returned (.tuple #[]) ∧ PenAt w' base g (L ++ bitsOf wd val) ∧ Kept base [5, 43] w w' := by
  obtain ⟨i0, hi, hz0, hz1, hz2⟩ := info_parts infoU8
  have hvb := i64_bd wf
  go_enter Tryd.func27, Tryd.ntmps27
  go_wp2
  go_loopw [6] (fun i wr => ∃ q : Int, -1 ≤ q ∧ q < wd ∧ i = .int .i64 q ∧ PenAt wr base g (L ++ (bitsOf wd val).take (wd - 1 - q).toNat) ∧ Kept base [5, 43] w wr) (fun i _ => (intOf i + 1).toNat)
  case atStart => exact ⟨(wd : Int) - 1, by omega, by omega, rfl, by simpa using hp, Kept.refl _ _ _⟩
  case round =>
    obtain ⟨q, hq1, hq2, rfl, hpen, hkept⟩ := hrel
    by_cases hlt : 0 ≤ q
    · have hM : AllBits (L ++ (bitsOf wd val).take (wd - 1 - q).toNat) := hL.append ((bitsOf_bits wd val).take _)
      have hMl : (L ++ (bitsOf wd val).take (wd - 1 - q).toNat).length ≤ 1000100 := by rw [List.length_append, List.length_take, bitsOf_length]; omega
      have hT : Hid (L ++ (bitsOf wd val).take (wd - 1 - (q - 1)).toNat = (L ++ (bitsOf wd val).take (wd - 1 - q).toNat) ++ [val / 2 ^ q.toNat % 2]) := by
        show _ = _
        rw [show (wd - 1 - (q - 1) : Int).toNat = (wd - 1 - q : Int).toNat + 1 by omega, bitsOf_take wd _ val (by omega), show wd - 1 - (wd - 1 - q : Int).toNat = q.toNat by omega, List.append_assoc]
      generalize (L ++ (bitsOf wd val).take (wd - 1 - q).toNat) = M at *
      obtain ⟨v, hblk, hown⟩ := hpen
      have hc0 : wr.cell? ⟨g, 0, none⟩ = some v := hblk.cell 0
      have hc1 : wr.cell? ⟨g, 1, none⟩ = some (.int .i64 M.length) := hblk.cell 1
      have hf0 := hblk.frozen 0
      have hf1 := hblk.frozen 1
      have hand := i64_and_one (val / 2 ^ q.toNat)
      have HO := Lib.hid hown
      have HK := Lib.hid hkept
      have HM := Lib.hid hM
      clear hand hown hkept hM
      have hgb : base ≤ g := hg
      go_upto_if 18 with (fail)
      go_cut [] (fun wx => ∃ v', Blk wx g 43 #[v', .int .i64 M.length] ∧ OwnI .u8 5 wx base v' (packRoom M) ∧ Kept base [5, 43] w wx)
      case first =>
        by_cases h8 : M.length % 8 = 0
        · have hroom : Hid (packRoom M = pack M ++ [0]) := by show _ = _; rw [packRoom, if_pos h8]
          have hpl : (pack M).length ≤ 1000100 := by rw [pack_length]; omega
          have hwrb : base ≤ wr.heap.size := by have := HK.out.size; omega
          have hne : v.ownBlock ≠ some g := own_blk_ne HO.out.1 hblk (by decide)
          have hal : Hid (OwnI .u8 5 (wr.alloc (.cells #[.int .u8 0] 5)) base v (pack M)) := HO.out.below ((Below.refl _ _).alloc (Nat.le_refl _) _)
          have h8b : (((M.length : Int) % 8) == 0) = true := by simp; omega
          clear h8
          go_wp2_with ((at_builtin; refine wpList_append_form _ rfl (.tmp 23) (.tmp 24) 27 rfl .u8 base 5 i0 1 Tryd.underlying27 hi hz0 hz1 hz2 v (pack M) rfl hal.out (wr.heap.size + 1) (some ⟨wr.heap.size, 0, none⟩) 1 1 [0] rfl rfl (reads_one .u8 5 0 (by decide) wr) (by simp only [List.length_cons, List.length_nil]; unfold maxLen; omega) (by simp only [List.length_cons, List.length_nil]; omega) (by simp; omega) ((pack M).length + 1) (by simp) (by omega) ?_; intro g2 cap2 w1 ho1 hm1; have hblk1 : Blk w1 g 43 #[v, .int .i64 M.length] := (hblk.alloc _).grown hm1.1 (Ne.symm hne); have hd0 : w1.cell? ⟨g, 0, none⟩ = some v := hblk1.cell 0; have hdf := hblk1.frozen 0))
          go_meet
          exact ⟨.slice (some ⟨g2, 0, none⟩) ((pack M).length + 1) cap2, hblk1.set_ 0 _, by rw [hroom.out]; exact ho1.far hblk1 (by decide) 0 _, ((HK.out.alloc _).grown hal.out.1 (by simp) (Nat.le_refl _) hm1.1).setCell (p := ⟨g, 0, none⟩) hblk1 hgb (by simp) _⟩
        · have hroom : Hid (packRoom M = pack M) := by show _ = _; rw [packRoom, if_neg h8]
          have h8b : (((M.length : Int) % 8) == 0) = false := by simp; omega
          clear h8
          go_wp2_with fail
          go_meet
          exact ⟨v, hblk, by rw [hroom.out]; exact HO.out, HK.out⟩
      case rest =>
        obtain ⟨v', hblk', hown', hkept'⟩ := hcut
        have hrl := packRoom_length M
        obtain ⟨g2, cap2, rfl, hb2, hlt2, ⟨cur2, hblk2⟩, hcell2, hfr2, hcap2, hmx⟩ := hown'.place (by omega)
        have hne1 : g2 ≠ g := Blk.ne_ hblk2 hblk' (by decide)
        have hne2 : g ≠ g2 := Ne.symm hne1
        have hd0 := hblk'.two0
        have hd1 := hblk'.two1
        have hdf := hblk'.frozen 1
        have hpg : (packRoom M).getD (M.length / 8) 0 = packByte M (M.length / 8) := by rw [List.getD, packRoom_get M _ (by omega)]; rfl
        have hd2 := hcell2 (M.length / 8) (by omega)
        rw [hpg] at hd2
        have hdf2 := hfr2 (M.length / 8)
        have hpb := packByte_bd M HM.out (M.length / 8)
        have Hrl := Lib.hid hrl
        have hN : M.length / 8 < (packRoom M).length := by omega
        have hNi : (M.length : Int) / 8 < ((packRoom M).length : Int) := by omega
        clear hrl hpg hcell2 hfr2
        generalize hNN : (packRoom M).length = N at *
        generalize hXX : packByte M (M.length / 8) = X at *
        have HX := Lib.hid hXX
        have HN := Lib.hid hNN
        clear hXX hNN
        go_wp2
        go_region
        go_wp2
        go_roundw
        case rel =>
          have hpy := pen_byte M HM.out val q.toNat (by omega) (by omega)
          rw [HX.out] at hpy
          rw [hpy.1]
          have hst := OwnI.stored (g := g2) (cap := cap2) (by rw [HN.out]; exact hown') (M.length / 8) _ (wf_u8 hpy.2.1 hpy.2.2)
          have hpk := pack_snoc M HM.out (val / 2 ^ q.toNat % 2)
          rw [HX.out] at hpk
          refine ⟨q - 1, by omega, by omega, rfl, ⟨.slice (some ⟨g2, 0, none⟩) N cap2, ?_, ?_⟩, ?_⟩
          · rw [hT.out, show (((M ++ [val / 2 ^ q.toNat % 2]).length : Nat) : Int) = (M.length : Int) + 1 by simp]
            exact (hblk'.far (p := ⟨g2, _, none⟩) hne2 _).set_ 1 _
          · rw [hT.out, hpk]
            have := hst.far (hblk'.far (p := ⟨g2, _, none⟩) hne2 _) (by decide) 1 (.int .i64 ((M.length : Int) + 1))
            rw [HN.out] at this
            exact this
          · exact (((hkept'.setCell (p := ⟨g2, _, none⟩) hblk2 hb2 (by simp) _)).setCell (p := ⟨g, 1, none⟩) (hblk'.far (p := ⟨g2, _, none⟩) hne2 _) hgb (by simp) _).drew
        case measure => simp [intOf]; omega
    · have hq : q = -1 := by omega
      subst hq
      have HP := Lib.hid hpen
      have HK := Lib.hid hkept
      clear hpen hkept
      go_wp2
      go_end0
      exact ⟨rfl, by have := HP.out; rwa [show ((wd : Int) - 1 - -1).toNat = wd by omega, List.take_of_length_le (by rw [bitsOf_length]; omega)] at this, HK.out⟩
end Go.Proofs.YtempedbpieaggaaDoor
