/- The contract of the document's byteList. -/
import Derived.Test.YtempedbpieaggaaDoorBitsRef
namespace Go.Proofs.YtempedbpieaggaaDoor
open Go Go.RowKit
set_option linter.unusedVariables false

theorem bit_take (L : List Int) (k : Nat) (h : k < L.length) : L.take (k + 1) = L.take k ++ [L.getD k 0] := by
  rw [List.take_succ_eq_append_getElem h]; simp [List.getD, List.getElem?_eq_getElem h]
/-- A bit that is 0 turns nothing. -/
theorem pack_zero (L : List Int) (hL : AllBits L) : pack (L ++ [0]) = packRoom L := by
  rw [pack_snoc L hL 0]
  apply List.ext_getElem?
  intro j
  rw [List.getElem?_set, packRoom_length]
  by_cases he : L.length / 8 = j
  · subst he
    rw [if_pos rfl, if_pos (by omega), packRoom_get L _ (by omega)]
    simp
  · rw [if_neg he]
theorem shr128 (r : Nat) (h : r < 8) : (128 : Int) / 2 ^ r = 2 ^ (7 - r) ∧ (1 : Int) ≤ 2 ^ (7 - r) ∧ (2 : Int) ^ (7 - r) ≤ 128 := by
  have e : r = 0 ∨ r = 1 ∨ r = 2 ∨ r = 3 ∨ r = 4 ∨ r = 5 ∨ r = 6 ∨ r = 7 := by omega
  rcases e with rfl | rfl | rfl | rfl | rfl | rfl | rfl | rfl <;> decide
set_option maxHeartbeats 1000000 in
theorem byteList_any (a : Option Addr) (cap : Nat) (L : List Int) (B : Nat) (w : World) (hL : AllBits L) (hl : L.length ≤ 1000000) (hB : B ≤ w.heap.size) (hr : Reads .i64 w B a L) :
    Calls Tryd.prog 22 #[.slice a L.length cap] w fun e w' => ∃ v, e = .returned v ∧ OwnI .u8 5 w' w.heap.size v (pack L) ∧ Below w.heap.size w w' := by
  obtain ⟨i0, hi, hz0, hz1, hz2⟩ := info_parts infoU8
  go_enter Tryd.func22, Tryd.ntmps22
  go_wp2_with fail
  go_loopw [3, 8] (fun v i wr => ∃ (k : Nat), k ≤ L.length ∧ i = .int .i64 k ∧ OwnI .u8 5 wr w.heap.size v (pack (L.take k)) ∧ Below w.heap.size w wr) (fun _ i _ => L.length - (intOf i).toNat)
  case atStart => exact ⟨0, Nat.zero_le _, rfl, by rw [List.take_zero, pack_nil]; exact OwnI.nil _ _ _ _, Below.refl _ _⟩
  case round =>
    obtain ⟨k, hk, rfl, hown, hbel⟩ := hrel
    have HO := Lib.hid hown
    have HB := Lib.hid hbel
    have hsz := hbel.size
    clear hown hbel
    by_cases hlt : k < L.length
    · obtain ⟨b, off, rfl, hb, hc⟩ := (hr.below (HB.out.mono hB)).at_ (by omega)
      have hc0 := hc k hlt
      have hbit := hL.getD k
      have ht := bit_take L k hlt
      have hM : AllBits (L.take k) := hL.take k
      have hMl : (L.take k).length = k := by rw [List.length_take]; omega
      clear hc
      generalize L.getD k 0 = x at *
      have HT := Lib.hid ht
      have HM := Lib.hid hM
      have HL := Lib.hid hMl
      clear ht hM hMl
      generalize hX : L.take k = M at *
      clear hX
      have hpl : (pack M).length ≤ 1000000 := by rw [pack_length, HL.out]; omega
      go_upto_if 15 with (fail)
      go_cut [3] (fun v wx => OwnI .u8 5 wx w.heap.size v (packRoom M) ∧ Below w.heap.size w wx)
      case first =>
        by_cases h8 : k % 8 = 0
        · have hroom : Hid (packRoom M = pack M ++ [0]) := by show _ = _; rw [packRoom, if_pos (by rw [HL.out]; exact h8)]
          have h8b : (((k : Int) % 8) == 0) = true := by simp; omega
          clear h8
          go_wp2_with ((at_builtin; refine wpList_append_ints _ rfl (.tmp 16) (.tmp 17) 27 rfl .u8 w.heap.size 5 i0 1 Tryd.underlying27 hi hz0 hz1 hz2 u3 (pack M) rfl (HO.out.below ((Below.refl _ _).alloc (Nat.le_refl _) _)) (wr.heap.size + 1) (some ⟨wr.heap.size, 0, none⟩) 1 1 [0] rfl rfl (reads_one .u8 5 0 (by decide) wr) (by simp only [List.length_cons, List.length_nil]; unfold maxLen; omega) (by simp only [List.length_cons, List.length_nil]; omega) (by simp; omega) ?_; intro v' w1 ho1 hm1))
          go_meet
          exact ⟨by rw [hroom.out]; exact ho1, (HB.out.alloc hsz _).trans (hm1.below (by simp; omega) (fun g hg => (HO.out.lt g hg).1))⟩
        · have hroom : Hid (packRoom M = pack M) := by show _ = _; rw [packRoom, if_neg (by rw [HL.out]; exact h8)]
          have h8b : (((k : Int) % 8) == 0) = false := by simp; omega
          clear h8
          go_wp2_with fail
          go_meet
          exact ⟨by rw [hroom.out]; exact HO.out, HB.out⟩
      case rest =>
        obtain ⟨hown', hbel'⟩ := hcut
        have hrl := packRoom_length M
        rw [HL.out] at hrl
        rcases hbit with rfl | rfl
        · have HO' := Lib.hid hown'
          have HB' := Lib.hid hbel'
          clear hown' hbel'
          go_wp2_with fail
          exact ⟨⟨k + 1, by omega, by go_num, by rw [HT.out, pack_zero M HM.out]; exact HO'.out, HB'.out⟩, by simp [intOf]; omega⟩
        · obtain ⟨g2, cap2, rfl, hb2, hlt2, ⟨cur2, hblk2⟩, hcell2, hfr2, hcap2, hmx⟩ := hown'.place (by omega)
          have hpg : (packRoom M).getD (k / 8) 0 = packByte M (k / 8) := by rw [List.getD, packRoom_get M _ (by rw [HL.out]; omega)]; rfl
          have hd2 := hcell2 (k / 8) (by omega)
          rw [hpg] at hd2
          have hdf2 := hfr2 (k / 8)
          have hpb := packByte_bd M HM.out (k / 8)
          have hs := shr128 (k % 8) (by omega)
          have hpl2 := packByte_last M HM.out 1 (k / 8) (k % 8) (by rw [HL.out]; omega) (by omega)
          have hp256 : packByte M (k / 8) + 2 ^ (7 - k % 8) ≤ 255 := by
            have := packByte_bd (M ++ [1]) (HM.out.append (by intro x hx; simp at hx; exact .inr hx)) (k / 8)
            rw [hpl2.1] at this; omega
          have Hrl := Lib.hid hrl
          have HO' := Lib.hid hown'
          have HB' := Lib.hid hbel'
          have HS := Lib.hid hs.1
          have hs1 := hs.2.1
          have hs2 := hs.2.2
          have hN : k / 8 < (packRoom M).length := by omega
          have hNi : (k : Int) / 8 < ((packRoom M).length : Int) := by omega
          clear hrl hpg hcell2 hfr2 hs hpl2 hown' hbel'
          generalize hNN : (packRoom M).length = N at *
          generalize hXX : packByte M (k / 8) = X at *
          have HX := Lib.hid hXX
          have HN := Lib.hid hNN
          clear hXX hNN
          go_wp2_with fail
          go_region
          go_wp2_with fail
          have hval : (X + 128 / 2 ^ (k % 8)) % 256 = X + 1 * 2 ^ (7 - k % 8) := by rw [HS.out]; omega
          have hps := pack_snoc M HM.out 1
          rw [HL.out, HX.out] at hps
          have hst := OwnI.stored (g := g2) (cap := cap2) (by rw [HN.out]; exact HO'.out) (k / 8) (X + 1 * 2 ^ (7 - k % 8)) (wf_u8 (by omega) (by omega))
          rw [HN.out, ← hps] at hst
          refine ⟨⟨k + 1, by omega, by go_num, by rw [HT.out, hval]; exact hst, (HB'.out.setCell (p := ⟨g2, _, none⟩) hb2 _).drew⟩, by simp [intOf]; omega⟩
    · have hke : k = L.length := by omega
      subst hke
      rw [List.take_length] at HO
      go_wp2_with fail
      go_ret
      exact ⟨_, rfl, HO.out, HB.out⟩

end Go.Proofs.YtempedbpieaggaaDoor
