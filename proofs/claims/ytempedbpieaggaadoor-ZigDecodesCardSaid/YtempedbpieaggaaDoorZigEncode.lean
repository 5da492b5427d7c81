/- Contracts of zig.Put, zig.Encode and of the document's ZigEncoded; the walk of the law ZigEncodes. -/
import Derived.Test.YtempedbpieaggaaDoorZigSize
import Derived.Test.YtempedbpieaggaaDoorPen
import Derived.Test.YtempedbpieaggaaDoorByteList
import Derived.Test.YtempedbpieaggaaDoorSame
namespace Go.Proofs.YtempedbpieaggaaDoor
open Go Go.RowKit
set_option linter.unusedVariables false

theorem PenAt.below {w w' : World} {base g : Nat} {L : List Int} (h : PenAt w base g L) (hb : Below w.heap.size w w') : PenAt w' base g L := by
  obtain ⟨v, h1, h2⟩ := h
  exact ⟨v, h1.below hb h1.lt, h2.below hb⟩
theorem zBits_bits (x : Int) : AllBits (zBits x) := flat_bits _
theorem small_yes (n : Int) (h0 : -288230376151711744 ≤ n) (h : n < 288230376151711744) (w : World) : Calls Tryd.prog 19 #[.int .i64 n] w fun e w' => e = .returned (.bool true) ∧ w = w' := by
  go_enter Tryd.func19, Tryd.ntmps19
  go_wp2
  go_ret
  exact ⟨rfl, rfl⟩
theorem small_no (n : Int) (h : n < -288230376151711744 ∨ 288230376151711744 ≤ n) (w : World) : Calls Tryd.prog 19 #[.int .i64 n] w fun e w' => e = .returned (.bool false) ∧ w = w' := by
  rcases h with h | h
  · go_enter Tryd.func19, Tryd.ntmps19
    go_wp2
    go_ret
    exact ⟨rfl, rfl⟩
  · have hd : decide (n < 288230376151711744) = false := by simpa using h
    go_enter Tryd.func19, Tryd.ntmps19
    go_wp2
    go_ret
    exact ⟨rfl, rfl⟩
theorem penBytes_any (g base : Nat) (L : List Int) (w : World) (hp : PenAt w base g L) :
    Calls Tryd.prog 21 #[.pointer (some ⟨g, 0, none⟩)] w fun e w' => ∃ v, e = .returned v ∧ OwnI .u8 5 w base v (pack L) ∧ w = w' := by
  obtain ⟨v, hb, ho⟩ := hp
  have hc := hb.two0
  have HO := Lib.hid ho
  clear ho hb
  go_enter Tryd.func21, Tryd.ntmps21
  go_wp2
  go_ret
  exact ⟨v, rfl, HO.out, rfl⟩
set_option maxHeartbeats 1000000 in
theorem zigPut_any (g base : Nat) (L : List Int) (n : Int) (w : World) (h0 : -288230376151711744 ≤ n) (h : n < 288230376151711744) (hL : AllBits L) (hlen : L.length ≤ 900000) (hB : base ≤ w.heap.size) (hg : base ≤ g) (hp : PenAt w base g L) (hcl : ClassesAt w) :
    Calls Tryd.prog 20 #[.pointer (some ⟨g, 0, none⟩), .int .i64 n] w fun e w' => e = .returned (.tuple #[]) ∧ PenAt w' base g (L ++ zBits (zFold n)) ∧ Kept base [5, 43] w w' := by
  have hb := zFold_bd n h0 h
  by_cases c0 : zFold n = 0
  · have hs : Hid (zBits (zFold n) = bitsOf 1 0 ++ bitsOf 0 (zFold n)) := by show _ = _; rw [zBits, zFields, if_pos c0]; simp [flat]; rfl
    have l0 : 0 ≤ zFold n := by omega
    have l1 : zFold n < 1 := by omega
    clear c0
    go_enter Tryd.func20, Tryd.ntmps20
    go_wp2_with fail
    refine (fold_ok n h0 h _).mono ?_
    rintro e w1 ⟨rfl, rfl⟩
    go_wp2_with fail
    refine (fit_0 _ l0 l1 _ hcl).mono ?_
    rintro e w1 ⟨rfl, hb1⟩
    have hs1 := hb1.size
    go_wp2_with fail
    refine (penPut_any g base L 1 0 _ hL (by decide) (by omega) (by decide) (by simp; omega) hg ((hp.below hb1).alloc _)).mono ?_
    rintro e w2 ⟨rfl, hp2, hk2⟩
    have hck := hk2.blk (Blk.new w1 37 #[.int .i64 0, .int .i64 1, .int .i64 0]) (by decide)
    have hc2 : w2.cell? ⟨w1.heap.size, 2, none⟩ = some (.int .i64 0) := hck.cell 2
    have hsz2 := hk2.size
    have hkk : Kept base [5, 43] w w2 := ((Kept.of_below hb1).alloc _).trans hk2
    have HK := Lib.hid hkk
    have HP := Lib.hid hp2
    clear hkk hk2 hp2 hck
    simp at hsz2
    go_wp2_with fail
    refine (penPut_any g base (L ++ bitsOf 1 0) 0 (zFold n) _ (hL.append (bitsOf_bits _ _)) (by decide) (by rw [List.length_append, bitsOf_length]; omega) (wf_i64 (by omega) (by omega)) (by omega) hg HP.out).mono ?_
    rintro e w3 ⟨rfl, hp3, hk3⟩
    go_wp2_with fail
    go_end0
    exact ⟨rfl, by rw [hs.out, ← List.append_assoc]; exact hp3, HK.out.trans hk3⟩
  · by_cases c1 : zFold n < 64
    · have hs : Hid (zBits (zFold n) = bitsOf 2 2 ++ bitsOf 6 (zFold n)) := by show _ = _; rw [zBits, zFields, if_neg c0, if_pos c1]; simp [flat]
      have l0 : 1 ≤ zFold n := by omega
      have l1 : zFold n < 64 := by omega
      clear c0 c1
      go_enter Tryd.func20, Tryd.ntmps20
      go_wp2_with fail
      refine (fold_ok n h0 h _).mono ?_
      rintro e w1 ⟨rfl, rfl⟩
      go_wp2_with fail
      refine (fit_1 _ l0 l1 _ hcl).mono ?_
      rintro e w1 ⟨rfl, hb1⟩
      have hs1 := hb1.size
      go_wp2_with fail
      refine (penPut_any g base L 2 2 _ hL (by decide) (by omega) (by decide) (by simp; omega) hg ((hp.below hb1).alloc _)).mono ?_
      rintro e w2 ⟨rfl, hp2, hk2⟩
      have hck := hk2.blk (Blk.new w1 37 #[.int .i64 2, .int .i64 2, .int .i64 6]) (by decide)
      have hc2 : w2.cell? ⟨w1.heap.size, 2, none⟩ = some (.int .i64 6) := hck.cell 2
      have hsz2 := hk2.size
      have hkk : Kept base [5, 43] w w2 := ((Kept.of_below hb1).alloc _).trans hk2
      have HK := Lib.hid hkk
      have HP := Lib.hid hp2
      clear hkk hk2 hp2 hck
      simp at hsz2
      go_wp2_with fail
      refine (penPut_any g base (L ++ bitsOf 2 2) 6 (zFold n) _ (hL.append (bitsOf_bits _ _)) (by decide) (by rw [List.length_append, bitsOf_length]; omega) (wf_i64 (by omega) (by omega)) (by omega) hg HP.out).mono ?_
      rintro e w3 ⟨rfl, hp3, hk3⟩
      go_wp2_with fail
      go_end0
      exact ⟨rfl, by rw [hs.out, ← List.append_assoc]; exact hp3, HK.out.trans hk3⟩
    · by_cases c2 : zFold n < 4096
      · have hs : Hid (zBits (zFold n) = bitsOf 3 6 ++ bitsOf 12 (zFold n)) := by show _ = _; rw [zBits, zFields, if_neg c0, if_neg c1, if_pos c2]; simp [flat]
        have l0 : 64 ≤ zFold n := by omega
        have l1 : zFold n < 4096 := by omega
        clear c0 c1 c2
        go_enter Tryd.func20, Tryd.ntmps20
        go_wp2_with fail
        refine (fold_ok n h0 h _).mono ?_
        rintro e w1 ⟨rfl, rfl⟩
        go_wp2_with fail
        refine (fit_2 _ l0 l1 _ hcl).mono ?_
        rintro e w1 ⟨rfl, hb1⟩
        have hs1 := hb1.size
        go_wp2_with fail
        refine (penPut_any g base L 3 6 _ hL (by decide) (by omega) (by decide) (by simp; omega) hg ((hp.below hb1).alloc _)).mono ?_
        rintro e w2 ⟨rfl, hp2, hk2⟩
        have hck := hk2.blk (Blk.new w1 37 #[.int .i64 6, .int .i64 3, .int .i64 12]) (by decide)
        have hc2 : w2.cell? ⟨w1.heap.size, 2, none⟩ = some (.int .i64 12) := hck.cell 2
        have hsz2 := hk2.size
        have hkk : Kept base [5, 43] w w2 := ((Kept.of_below hb1).alloc _).trans hk2
        have HK := Lib.hid hkk
        have HP := Lib.hid hp2
        clear hkk hk2 hp2 hck
        simp at hsz2
        go_wp2_with fail
        refine (penPut_any g base (L ++ bitsOf 3 6) 12 (zFold n) _ (hL.append (bitsOf_bits _ _)) (by decide) (by rw [List.length_append, bitsOf_length]; omega) (wf_i64 (by omega) (by omega)) (by omega) hg HP.out).mono ?_
        rintro e w3 ⟨rfl, hp3, hk3⟩
        go_wp2_with fail
        go_end0
        exact ⟨rfl, by rw [hs.out, ← List.append_assoc]; exact hp3, HK.out.trans hk3⟩
      · by_cases c3 : zFold n < 16777216
        · have hs : Hid (zBits (zFold n) = bitsOf 4 14 ++ bitsOf 24 (zFold n)) := by show _ = _; rw [zBits, zFields, if_neg c0, if_neg c1, if_neg c2, if_pos c3]; simp [flat]
          have l0 : 4096 ≤ zFold n := by omega
          have l1 : zFold n < 16777216 := by omega
          clear c0 c1 c2 c3
          go_enter Tryd.func20, Tryd.ntmps20
          go_wp2_with fail
          refine (fold_ok n h0 h _).mono ?_
          rintro e w1 ⟨rfl, rfl⟩
          go_wp2_with fail
          refine (fit_3 _ l0 l1 _ hcl).mono ?_
          rintro e w1 ⟨rfl, hb1⟩
          have hs1 := hb1.size
          go_wp2_with fail
          refine (penPut_any g base L 4 14 _ hL (by decide) (by omega) (by decide) (by simp; omega) hg ((hp.below hb1).alloc _)).mono ?_
          rintro e w2 ⟨rfl, hp2, hk2⟩
          have hck := hk2.blk (Blk.new w1 37 #[.int .i64 14, .int .i64 4, .int .i64 24]) (by decide)
          have hc2 : w2.cell? ⟨w1.heap.size, 2, none⟩ = some (.int .i64 24) := hck.cell 2
          have hsz2 := hk2.size
          have hkk : Kept base [5, 43] w w2 := ((Kept.of_below hb1).alloc _).trans hk2
          have HK := Lib.hid hkk
          have HP := Lib.hid hp2
          clear hkk hk2 hp2 hck
          simp at hsz2
          go_wp2_with fail
          refine (penPut_any g base (L ++ bitsOf 4 14) 24 (zFold n) _ (hL.append (bitsOf_bits _ _)) (by decide) (by rw [List.length_append, bitsOf_length]; omega) (wf_i64 (by omega) (by omega)) (by omega) hg HP.out).mono ?_
          rintro e w3 ⟨rfl, hp3, hk3⟩
          go_wp2_with fail
          go_end0
          exact ⟨rfl, by rw [hs.out, ← List.append_assoc]; exact hp3, HK.out.trans hk3⟩
        · have hs : Hid (zBits (zFold n) = bitsOf 4 15 ++ bitsOf 59 (zFold n)) := by show _ = _; rw [zBits, zFields, if_neg c0, if_neg c1, if_neg c2, if_neg c3]; simp [flat]
          have l0 : 16777216 ≤ zFold n := by omega
          have l1 : zFold n < 576460752303423488 := by omega
          clear c0 c1 c2 c3
          go_enter Tryd.func20, Tryd.ntmps20
          go_wp2_with fail
          refine (fold_ok n h0 h _).mono ?_
          rintro e w1 ⟨rfl, rfl⟩
          go_wp2_with fail
          refine (fit_4 _ l0 l1 _ hcl).mono ?_
          rintro e w1 ⟨rfl, hb1⟩
          have hs1 := hb1.size
          go_wp2_with fail
          refine (penPut_any g base L 4 15 _ hL (by decide) (by omega) (by decide) (by simp; omega) hg ((hp.below hb1).alloc _)).mono ?_
          rintro e w2 ⟨rfl, hp2, hk2⟩
          have hck := hk2.blk (Blk.new w1 37 #[.int .i64 15, .int .i64 4, .int .i64 59]) (by decide)
          have hc2 : w2.cell? ⟨w1.heap.size, 2, none⟩ = some (.int .i64 59) := hck.cell 2
          have hsz2 := hk2.size
          have hkk : Kept base [5, 43] w w2 := ((Kept.of_below hb1).alloc _).trans hk2
          have HK := Lib.hid hkk
          have HP := Lib.hid hp2
          clear hkk hk2 hp2 hck
          simp at hsz2
          go_wp2_with fail
          refine (penPut_any g base (L ++ bitsOf 4 15) 59 (zFold n) _ (hL.append (bitsOf_bits _ _)) (by decide) (by rw [List.length_append, bitsOf_length]; omega) (wf_i64 (by omega) (by omega)) (by omega) hg HP.out).mono ?_
          rintro e w3 ⟨rfl, hp3, hk3⟩
          go_wp2_with fail
          go_end0
          exact ⟨rfl, by rw [hs.out, ← List.append_assoc]; exact hp3, HK.out.trans hk3⟩

/-- The codes of numbers, behind bits; or what is refused. -/
def zenc : List Int → List Int → List Int × Int
  | [], L => (pack L, 0)
  | n :: l, L => if n < -288230376151711744 ∨ 288230376151711744 ≤ n then ([], 11) else zenc l (L ++ zBits (zFold n))
theorem drop_getD (l : List Int) (k : Nat) (h : k < l.length) : l.drop k = l.getD k 0 :: l.drop (k + 1) := by
  have e : l.getD k 0 = l[k] := by simp [List.getD, List.getElem?_eq_getElem h]
  rw [e]; exact List.drop_eq_getElem_cons h
theorem zBits_le (n : Int) : (zBits n).length ≤ 63 := by
  have := zBits_len n
  have h2 : zSize n ≤ 63 := by unfold zSize; split; decide; split; decide; split; decide; split <;> decide
  omega
theorem zigEncode_big (a : Option Addr) (len cap : Nat) (w : World) (h : 240 < len) :
    Calls Tryd.prog 8 #[.slice a len cap] w fun e w' => e = .returned (.tuple #[.slice none 0 0, .int .i64 1]) ∧ w = w' := by
  go_enter Tryd.func8, Tryd.ntmps8
  go_wp2_with fail
  go_ret2
  exact ⟨rfl, rfl⟩
theorem refEncoded_big (a : Option Addr) (len cap : Nat) (w : World) (h : 240 < len) :
    Calls Tryd.prog 9 #[.slice a len cap] w fun e w' => e = .returned (.tuple #[.slice none 0 0, .int .i64 1]) ∧ w = w' := by
  go_enter Tryd.func9, Tryd.ntmps9
  go_wp2_with fail
  go_ret2
  exact ⟨rfl, rfl⟩
set_option maxHeartbeats 1000000 in
theorem zigEncode_any (a : Option Addr) (cap : Nat) (l : List Int) (w : World) (hl : l.length ≤ 240) (hr : Reads .i64 w w.heap.size a l) (hcl : ClassesAt w) :
    Calls Tryd.prog 8 #[.slice a l.length cap] w fun e w' => ∃ v, e = .returned (.tuple #[v, .int .i64 (zenc l []).2]) ∧ OwnI .u8 5 w' w.heap.size v (zenc l []).1 ∧ Below w.heap.size w w' := by
  have hclt := hcl.lt
  go_enter Tryd.func8, Tryd.ntmps8
  go_wp2_with fail
  go_loopw [12] (fun i wr => ∃ (k : Nat) (M : List Int), k ≤ l.length ∧ i = .int .i64 k ∧ zenc l [] = zenc (l.drop k) M ∧ AllBits M ∧ M.length ≤ 63 * k ∧ PenAt wr w.heap.size w.heap.size M ∧ Kept w.heap.size [5, 43] w wr) (fun i _ => l.length - (intOf i).toNat)
  case atStart => exact ⟨0, [], Nat.zero_le _, rfl, rfl, allBits_nil, by simp, ⟨.slice none 0 0, Blk.new _ _ _, OwnI.nil _ _ _ _⟩, (Kept.refl _ _ _).alloc _⟩
  case round =>
    obtain ⟨k, M, hk, rfl, hbw, hM, hMl, hpen, hkept⟩ := hrel
    have HB := Lib.hid hbw
    have HM := Lib.hid hM
    have HP := Lib.hid hpen
    have HK := Lib.hid hkept
    have hbel := hkept.below (Nat.le_refl _)
    have hsz := hbel.size
    have Hbel := Lib.hid hbel
    clear hbw hM hpen hkept hbel
    by_cases hlt : k < l.length
    · obtain ⟨b, off, rfl, hb, hc⟩ := (hr.below Hbel.out).at_ (by omega)
      have hd := drop_getD l k hlt
      have hbd := hr.i64 k
      have hc0 := hc k hlt
      clear hc
      generalize l.getD k 0 = n at *
      have HD := Lib.hid hd
      clear hd
      by_cases hs : n < -288230376151711744 ∨ 288230376151711744 ≤ n
      · have hres : Hid (zenc l [] = ([], 11)) := by show _ = _; rw [HB.out, HD.out, zenc, if_pos hs]
        have HS := Lib.hid hs
        clear hs
        go_wp2_with fail
        refine (small_no n HS.out _).mono ?_
        rintro e w2 ⟨rfl, rfl⟩
        go_wp2_with fail
        go_ret2
        rw [hres.out]
        exact ⟨_, rfl, OwnI.nil _ _ _ _, Hbel.out⟩
      · have hres : Hid (zenc l [] = zenc (l.drop (k + 1)) (M ++ zBits (zFold n))) := by show _ = _; rw [HB.out, HD.out, zenc, if_neg hs]
        have hs0 : -288230376151711744 ≤ n := by omega
        have hs1 : n < 288230376151711744 := by omega
        have hzl := zBits_le (zFold n)
        clear hs
        go_wp2_with fail
        refine (small_yes n hs0 hs1 _).mono ?_
        rintro e w2 ⟨rfl, rfl⟩
        go_wp2_with fail
        refine (zigPut_any w.heap.size w.heap.size M n _ hs0 hs1 HM.out (by omega) hsz (Nat.le_refl _) HP.out (hcl.belowB Hbel.out hclt)).mono ?_
        rintro e w2 ⟨rfl, hp2, hk2⟩
        go_wp2_with fail
        exact ⟨⟨k + 1, _, by omega, by go_num, hres.out, HM.out.append (zBits_bits _), by rw [List.length_append]; omega, hp2, HK.out.trans hk2⟩, by simp [intOf]; omega⟩
    · have hke : k = l.length := by omega
      have hres : Hid (zenc l [] = (pack M, 0)) := by show _ = _; rw [HB.out, hke, List.drop_length, zenc]
      subst hke
      go_wp2_with fail
      refine (penBytes_any w.heap.size w.heap.size M _ HP.out).mono ?_
      rintro e w2 ⟨v, rfl, ho, rfl⟩
      go_wp2_with fail
      go_ret2
      rw [hres.out]
      exact ⟨v, rfl, ho, Hbel.out⟩
set_option maxHeartbeats 1000000 in
theorem refEncoded_any (a : Option Addr) (cap : Nat) (l : List Int) (w : World) (hl : l.length ≤ 240) (hr : Reads .i64 w w.heap.size a l) :
    Calls Tryd.prog 9 #[.slice a l.length cap] w fun e w' => ∃ v, e = .returned (.tuple #[v, .int .i64 (zenc l []).2]) ∧ OwnI .u8 5 w' w.heap.size v (zenc l []).1 ∧ Below w.heap.size w w' := by
  obtain ⟨i0, hi, hz0, hz1, hz2⟩ := info_parts infoI64
  go_enter Tryd.func9, Tryd.ntmps9
  go_wp2_with fail
  go_loopw [4, 14] (fun v i wr => ∃ (k : Nat) (M : List Int), k ≤ l.length ∧ i = .int .i64 k ∧ zenc l [] = zenc (l.drop k) M ∧ AllBits M ∧ M.length ≤ 63 * k ∧ OwnI .i64 3 wr w.heap.size v M ∧ Below w.heap.size w wr) (fun _ i _ => l.length - (intOf i).toNat)
  case atStart => exact ⟨0, [], Nat.zero_le _, rfl, rfl, allBits_nil, by simp, OwnI.nil _ _ _ _, Below.refl _ _⟩
  case round =>
    obtain ⟨k, M, hk, rfl, hbw, hM, hMl, hown, hbel⟩ := hrel
    have HB := Lib.hid hbw
    have HM := Lib.hid hM
    have HO := Lib.hid hown
    have hsz := hbel.size
    have Hbel := Lib.hid hbel
    clear hbw hM hown hbel
    by_cases hlt : k < l.length
    · obtain ⟨b, off, rfl, hb, hc⟩ := (hr.below Hbel.out).at_ (by omega)
      have hd := drop_getD l k hlt
      have hbd := hr.i64 k
      have hc0 := hc k hlt
      clear hc
      generalize l.getD k 0 = n at *
      have HD := Lib.hid hd
      clear hd
      by_cases hs : n < -288230376151711744 ∨ 288230376151711744 ≤ n
      · have hres : Hid (zenc l [] = ([], 11)) := by show _ = _; rw [HB.out, HD.out, zenc, if_pos hs]
        have HS := Lib.hid hs
        clear hs
        go_wp2_with fail
        refine (rFold_bad n HS.out _).mono ?_
        rintro e w2 ⟨rfl, rfl⟩
        go_wp2_with fail
        go_ret2
        rw [hres.out]
        exact ⟨_, rfl, OwnI.nil _ _ _ _, Hbel.out⟩
      · have hres : Hid (zenc l [] = zenc (l.drop (k + 1)) (M ++ zBits (zFold n))) := by show _ = _; rw [HB.out, HD.out, zenc, if_neg hs]
        have hs0 : -288230376151711744 ≤ n := by omega
        have hs1 : n < 288230376151711744 := by omega
        have hzl := zBits_le (zFold n)
        have hzb := zFold_bd n hs0 hs1
        have HZ := Lib.hid (show zBits (zFold n) = flat (zFields (zFold n)) from rfl)
        clear hs
        go_wp2_with fail
        refine (rFold_ok n hs0 hs1 _).mono ?_
        rintro e w2 ⟨rfl, rfl⟩
        go_wp2_with fail
        refine (zigFields_any _ hzb.1 hzb.2 _).mono ?_
        rintro e w2 ⟨a2, rfl, hr2, hb2⟩
        go_wp2_with fail
        refine (bitList_any a2 _ (zFields (zFold n)) _ (by have := zFields_len (zFold n); omega) (zFields_ok _ hzb.1) hr2).mono ?_
        rintro e w3 ⟨v3, rfl, ho3, hb3⟩
        obtain ⟨a3, c3, rfl, hr3⟩ := ho3.slc
        have hb23 : Below wr.heap.size wr w3 := hb2.trans (hb3.mono hb2.size)
        have ho := HO.out.below hb23
        have hle : (flat (zFields (zFold n))).length ≤ 63 := by rw [← HZ.out]; exact hzl
        generalize hF : flat (zFields (zFold n)) = F at *
        have HF := Lib.hid hF
        clear hF
        have HO3 := Lib.hid ho
        clear ho
        have hs3 := hb23.size
        go_wp2_with ((at_builtin; refine wpList_append_ints _ rfl (.tmp 26) (.tmp 29) 26 rfl .i64 w.heap.size 3 i0 8 Tryd.underlying26 hi hz0 hz1 hz2 u4 M rfl HO3.out w3.heap.size a3 F.length c3 F rfl rfl hr3 (by unfold maxLen; omega) (by omega) (by omega) ?_; intro v' w4 ho4 hm4))
        exact ⟨⟨k + 1, _, by omega, by go_num, hres.out, HM.out.append (zBits_bits _), by rw [List.length_append]; omega, by rw [HZ.out]; exact ho4, (Hbel.out.trans (hb23.mono hsz)).trans (hm4.below (by omega) (fun g hg => (HO3.out.lt g hg).1))⟩, by simp [intOf]; omega⟩
    · have hke : k = l.length := by omega
      have hres : Hid (zenc l [] = (pack M, 0)) := by show _ = _; rw [HB.out, hke, List.drop_length, zenc]
      subst hke
      obtain ⟨a3, c3, rfl, hr3⟩ := HO.out.slc
      go_wp2_with fail
      refine (byteList_any a3 c3 M wr.heap.size _ HM.out (by omega) (Nat.le_refl _) hr3).mono ?_
      rintro e w2 ⟨v, rfl, ho, hb2⟩
      go_wp2_with fail
      go_ret2
      rw [hres.out]
      exact ⟨v, rfl, ho.base_mono hsz, Hbel.out.trans (hb2.mono hsz)⟩
theorem zigEncodes_walk (a0 : Option Addr) (len0 cap0 : Nat) (z0 : List Int) (w : World) (w0 : IsRow .i64 w a0 len0 cap0 z0) (hcl : ClassesAt w) :
    Calls Tryd.prog 4 #[.slice a0 len0 cap0] w fun e w' => e = .returned (.bool true) ∧ Below w.heap.size w w' := by
  obtain ⟨hr, hl⟩ := w0.reads
  generalize z0.take len0 = l at hr hl
  subst hl
  by_cases h : l.length ≤ 240
  · go_enter Tryd.func4, Tryd.ntmps4
    go_wp2_with fail
    refine (zigEncode_any a0 cap0 l _ h hr hcl).mono ?_
    rintro e w1 ⟨v1, rfl, ho1, hb1⟩
    go_wp2_with fail
    refine (refEncoded_any a0 cap0 l _ h ((hr.below hb1).more hb1.size)).mono ?_
    rintro e w2 ⟨v2, rfl, ho2, hb2⟩
    obtain ⟨b1, c1, rfl, hr1⟩ := (ho1.below hb2).slc
    obtain ⟨b2, c2, rfl, hr2⟩ := ho2.slc
    go_wp2_with fail
    refine (same_bytes b1 b2 c1 c2 w2.heap.size (zenc l []).1 _ hr1 hr2).mono ?_
    rintro e w3 ⟨rfl, hb3⟩
    go_wp2_with fail
    go_ret
    exact ⟨rfl, (hb1.trans (hb2.mono hb1.size)).trans (hb3.mono (Nat.le_trans hb1.size hb2.size))⟩
  · have h' : 240 < l.length := by omega
    clear h
    go_enter Tryd.func4, Tryd.ntmps4
    go_wp2_with fail
    refine (zigEncode_big a0 l.length cap0 _ h').mono ?_
    rintro e w1 ⟨rfl, rfl⟩
    go_wp2_with fail
    refine (refEncoded_big a0 l.length cap0 _ h').mono ?_
    rintro e w2 ⟨rfl, rfl⟩
    go_wp2_with fail
    refine (same_bytes none none 0 0 w.heap.size [] _ ⟨by simp, by simp, by simp⟩ ⟨by simp, by simp, by simp⟩).mono ?_
    rintro e w3 ⟨rfl, hb3⟩
    go_wp2_with fail
    go_ret
    exact ⟨rfl, hb3⟩
end Go.Proofs.YtempedbpieaggaaDoor
