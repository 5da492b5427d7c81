/- The contract of bits.Read. -/
import Derived.Test.YtempedbpieaggaaEye
import Derived.Test.YtempedbpieaggaaBitsWrite
namespace Go.Proofs.Ytempedbpieaggaa
open Go Go.RowKit
set_option linter.unusedVariables false

/-- The numbers of so many bits each, from a place on; or what is refused. -/
def bread (l : List Int) : List Int → Nat → List Int → List Int × Int × Int
  | [], n, out => (out, n, 0)
  | w :: ws, n, out => if w < 0 ∨ 60 < w then ([], 0, 2) else if 8 * (l.length : Int) < n + w then ([], 0, 5) else bread l ws (n + w.toNat) (out ++ [numAt l n w.toNat])
theorem infoI64 : (Try.prog.info? 3).map (fun i => (i.zero, i.size, i.bytes)) = some (some (.int .i64 0), 1, 8) := by kernel_rfl
theorem drop_getD (l : List Int) (k : Nat) (h : k < l.length) : l.drop k = l.getD k 0 :: l.drop (k + 1) := by
  have e : l.getD k 0 = l[k] := by simp [List.getD, List.getElem?_eq_getElem h]
  rw [e]; exact List.drop_eq_getElem_cons h
theorem EyeAt.below {w w' : World} {g : Nat} {a : Option Addr} {cap n : Nat} {l : List Int} (h : EyeAt w g a cap l n) (hb : Below w.heap.size w w') : EyeAt w' g a cap l n :=
  ⟨h.1.below hb h.1.lt, h.2.1.below (hb.mono (Nat.le_of_lt h.1.lt)), h.2.2⟩

theorem bitsRead_big (a a1 : Option Addr) (len cap len1 cap1 : Nat) (w : World) (h : 400 < len1) :
    Calls Try.prog 19 #[.slice a len cap, .slice a1 len1 cap1] w fun e w' => e = .returned (.tuple #[.slice none 0 0, .int .i64 0, .int .i64 1]) ∧ w = w' := by
  go_enter Try.func19, Try.ntmps19
  go_wp2_with fail
  go_ret3
  exact ⟨rfl, rfl⟩
set_option maxHeartbeats 1000000 in
theorem bitsRead_any (a a1 : Option Addr) (cap cap1 : Nat) (l ws : List Int) (w : World) (hl : l.length ≤ 140737488351232) (hl1 : ws.length ≤ 400) (hr : Reads .u8 w w.heap.size a l) (hr1 : Reads .i64 w w.heap.size a1 ws) :
    Calls Try.prog 19 #[.slice a l.length cap, .slice a1 ws.length cap1] w fun e w' => ∃ v, e = .returned (.tuple #[v, .int .i64 (bread l ws 0 []).2.1, .int .i64 (bread l ws 0 []).2.2]) ∧ OwnI .i64 3 w' w.heap.size v (bread l ws 0 []).1 ∧ Below w.heap.size w w' := by
  obtain ⟨i0, hi, hz0, hz1, hz2⟩ := info_parts infoI64
  go_enter Try.func19, Try.ntmps19
  go_wp2_with fail
  refine (eyeOpen_any a cap w.heap.size l _ (Nat.le_refl _) hr hl).mono ?_
  rintro e w1 ⟨rfl, heye, hw1⟩
  have Hw1 := Lib.hid hw1
  have HE := Lib.hid heye
  clear hw1 heye
  go_wp2_with fail
  go_loopw [8, 20] (fun v i wr => ∃ (k n : Nat) (out : List Int), k ≤ ws.length ∧ i = .int .i64 k ∧ bread l ws 0 [] = bread l (ws.drop k) n out ∧ n ≤ 8 * l.length ∧ out.length = k ∧ EyeAt wr w.heap.size a cap l n ∧ OwnI .i64 3 wr w.heap.size v out ∧ Below w.heap.size w wr ∧ w.heap.size < wr.heap.size) (fun _ i _ => ws.length - (intOf i).toNat)
  case atStart => exact ⟨0, 0, [], Nat.zero_le _, rfl, rfl, Nat.zero_le _, rfl, HE.out, OwnI.nil _ _ _ _, by rw [Hw1.out]; exact (Below.refl _ _).alloc (Nat.le_refl _) _, by rw [Hw1.out]; simp⟩
  case round =>
    obtain ⟨k, n, out, hk, rfl, hbr, hn, hout, heye, hown, hbel, hszl⟩ := hrel
    have HR := Lib.hid hbr
    have HE := Lib.hid heye
    have HO := Lib.hid hown
    have HB := Lib.hid hbel
    have HL := Lib.hid hout
    clear hbr heye hown hbel hout
    by_cases hlt : k < ws.length
    · obtain ⟨b, off, rfl, hb, hc⟩ := (hr1.below HB.out).at_ (by omega)
      have hd := drop_getD ws k hlt
      have hbd := hr1.i64 k
      have hc0 := hc k hlt
      clear hc
      generalize ws.getD k 0 = W at *
      have HD := Lib.hid hd
      clear hd
      by_cases hw : W < 0 ∨ 60 < W
      · have hres : Hid (bread l ws 0 [] = ([], 0, 2)) := by show _ = _; rw [HR.out, HD.out, bread, if_pos hw]
        have HW := Lib.hid hw
        clear hw
        go_wp2_with fail
        refine (wide_no _ HW.out _).mono ?_
        rintro e w2 ⟨rfl, rfl⟩
        go_wp2_with fail
        go_ret3
        rw [hres.out]
        exact ⟨_, rfl, OwnI.nil _ _ _ _, HB.out⟩
      · have hw0 : 0 ≤ W := by omega
        have hw1 : W ≤ 60 := by omega
        by_cases hs : 8 * (l.length : Int) < n + W
        · have hres : Hid (bread l ws 0 [] = ([], 0, 5)) := by show _ = _; rw [HR.out, HD.out, bread, if_neg hw, if_pos hs]
          clear hw
          go_wp2_with fail
          refine (wide_yes _ hw0 hw1 _).mono ?_
          rintro e w2 ⟨rfl, rfl⟩
          go_wp2_with fail
          refine (eyeGet_short w.heap.size a cap l n W _ HE.out hn (by omega)).mono ?_
          rintro e w2 ⟨rfl, d, rfl⟩
          go_wp2_with fail
          go_ret3
          rw [hres.out]
          exact ⟨_, rfl, OwnI.nil _ _ _ _, below_drewN HB.out _⟩
        · obtain ⟨m, rfl⟩ := Int.eq_ofNat_of_zero_le hw0
          have hres : Hid (bread l ws 0 [] = bread l (ws.drop (k + 1)) (n + m) (out ++ [numAt l n m])) := by show _ = _; rw [HR.out, HD.out, bread, if_neg hw, if_neg hs, Int.toNat_natCast]
          have hnb := numAt_bd l n m
          have hp := pow60 m (by omega)
          have hs' : n + m ≤ 8 * l.length := by omega
          have hm60 : m ≤ 60 := by omega
          clear hw hs
          go_wp2_with fail
          refine (wide_yes _ hw0 hw1 _).mono ?_
          rintro e w2 ⟨rfl, rfl⟩
          go_wp2_with fail
          refine (eyeGet_any w.heap.size a cap l n m _ HE.out hn hs' hm60).mono ?_
          rintro e w2 ⟨rfl, heye2, hk2⟩
          have hwf : (Lit.int .i64 (numAt l n m)).wf = true := wf_i64 (by omega) (by omega)
          generalize hNN : numAt l n m = Z at *
          have HZ := Lib.hid hNN
          have HE2 := Lib.hid heye2
          have HK2 := Lib.hid hk2
          have ho2 := hk2.ownI HO.out (by decide)
          have HO2 := Lib.hid ho2
          have hs2 := hk2.size
          have hol := HL.out
          have hol2 : out.length ≤ 400 := by omega
          clear hNN heye2 hk2 ho2 hol
          go_wp2_with ((at_builtin; refine wpList_append_ints _ rfl (.tmp 35) (.tmp 37) 32 rfl .i64 w.heap.size 3 i0 8 Try.underlying32 hi hz0 hz1 hz2 u8 out rfl (HO2.out.below ((Below.refl _ _).alloc (Nat.le_refl _) _)) (w2.heap.size + 1) (some ⟨w2.heap.size, 0, none⟩) 1 1 [Z] rfl rfl (reads_one .i64 3 Z hwf w2) (by simp only [List.length_cons, List.length_nil]; unfold maxLen; omega) (by simp only [List.length_cons, List.length_nil]; omega) (by simp; omega) ?_; intro v' w3 ho3 hm3))
          have hb2 : Below w.heap.size w w2 := HB.out.trans (HK2.out.below (by omega))
          have hb3 : Below w.heap.size w w3 := (hb2.alloc (by omega) _).trans (hm3.below (by simp; omega) (fun g hg => (HO2.out.lt g hg).1))
          have hne := own_blk_ne HO2.out.1 HE2.out.1 (by decide)
          have heye3 : EyeAt w3 w.heap.size a cap l (n + m) := ⟨(HE2.out.1.alloc _).grown hm3.1 (Ne.symm hne), HE2.out.2.1.below ((((Below.refl _ _).alloc (by omega) _)).trans (hm3.below (by simp; omega) (fun g hg => (HO2.out.lt g hg).1))), HE2.out.2.2⟩
          have hs3 := hm3.1.size
          simp at hs3
          refine ⟨⟨k + 1, n + m, out ++ [Z], by omega, by go_num, hres.out, hs', by rw [List.length_append, HL.out]; rfl, heye3, ho3, hb3, by omega⟩, by simp [intOf]; omega⟩
    · have hke : k = ws.length := by omega
      have hres : Hid (bread l ws 0 [] = (out, (n : Int), 0)) := by show _ = _; rw [HR.out, hke, List.drop_length, bread]
      subst hke
      have hc1 := HE.out.1.two1
      go_wp2_with fail
      go_quiet (fail)
      go_wp2_with fail
      go_ret3
      rw [hres.out]
      exact ⟨_, rfl, HO.out.below (below_drewN (Below.refl _ _) _), below_drewN HB.out _⟩
end Go.Proofs.Ytempedbpieaggaa
