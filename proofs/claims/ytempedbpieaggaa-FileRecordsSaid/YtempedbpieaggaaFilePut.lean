/- The contract of file.Put: so many bytes of a number behind a row of the caller's own. -/
import Derived.Test.YtempedbpieaggaaProg
import Derived.Test.YtempedbpieaggaaOwn
import Derived.Test.YtempedbpieaggaaFilePlain
import Derived.WalkKit
import Derived.WalkLawsBesides
import Derived.LoopTactic
import Derived.Outline
import Derived.Lib.Hide
namespace Go.Proofs.Ytempedbpieaggaa
open Go Go.RowKit
set_option linter.unusedVariables false

theorem infoByte : (Try.prog.info? 5).map (fun i => (i.zero, i.size, i.bytes)) = some (some (.int .u8 0), 1, 1) := by kernel_rfl
set_option maxHeartbeats 400000 in
theorem filePut_any (v : Value) (n : Int) (wide : Nat) (base : Nat) (l : List Int) (w : World) (hw : wide ≤ 8) (hl : l.length ≤ 1000000000) (wf : (Lit.int .i64 n).wf = true) (hown : OwnI .u8 5 w base v l) (hbase : base ≤ w.heap.size) :
    Calls Try.prog 45 #[v, .int .i64 wide, .int .i64 n] w fun e w' => ∃ v', e = .returned v' ∧ OwnI .u8 5 w' base v' (l ++ be n wide) ∧ Moved w w' v v' := by
  obtain ⟨i0, hi, hz0, hz1, hz2⟩ := info_parts infoByte
  have hnb := i64_bd wf
  go_enter Try.func45, Try.ntmps45
  go_wp2
  go_loopw [0, 7] (fun b i wr => ∃ q : Int, -1 ≤ q ∧ q < wide ∧ i = .int .i64 q ∧ OwnI .u8 5 wr base b (l ++ (be n wide).take (wide - 1 - q).toNat) ∧ Moved w wr v b) (fun _ i _ => (intOf i + 1).toNat)
  case atStart => exact ⟨(wide : Int) - 1, by omega, by omega, rfl, by simpa using hown, Moved.refl w v⟩
  case round =>
    obtain ⟨q, hq1, hq2, rfl, ho, hmv⟩ := hrel
    by_cases hlt : 0 ≤ q
    · have hb8 := pow8 n q hlt
      have hx := Lib.hid hb8
      clear hb8
      have hbl := be_length n wide
      have hlen : (l ++ (be n wide).take (wide - 1 - q).toNat).length ≤ 1000000100 := by
        rw [List.length_append, List.length_take]; omega
      have hwf : (Lit.int .u8 (n / 2 ^ (8 * q).toNat % 256)).wf = true := wf_u8 (by omega) (by omega)
      have hT : Hid ((be n wide).take (wide - 1 - (q - 1)).toNat = (be n wide).take (wide - 1 - q).toNat ++ [n / 2 ^ (8 * q).toNat % 256]) := by
        show _ = _
        rw [hx.out, show (wide - 1 - (q - 1) : Int).toNat = (wide - 1 - q : Int).toNat + 1 by omega, be_take n wide _ (by omega), show wide - 1 - (wide - 1 - q : Int).toNat = q.toNat by omega]
      clear hbl
      have Ho := Lib.hid ho
      have Hm := Lib.hid hmv
      clear ho hmv
      go_wp2_with ((at_builtin; refine wpList_append_own_at _ rfl (.tmp 14) (.tmp 20) 27 rfl base 5 i0 (.int .u8 0) 1 1 Try.underlying27 hi hz0 hz1 hz2 rfl (by decide) u0 _ _ rfl (Ho.out.1.alloc _) ⟨wr.heap.size, 0, none⟩ 1 1 [.int .u8 (n / 2 ^ (8 * q).toNat % 256)] rfl rfl (cell_one_new _ _ _) (ints_oneCell .u8 [n / 2 ^ (8 * q).toNat % 256]) (by unfold maxLen; omega) (by omega) (by have := Hm.out.1.size; simp; omega) ?_; intro v' w1 hown1 hgrow hnil hloc))
      go_roundw
      case rel => exact ⟨q - 1, by omega, by omega, rfl, by rw [hT.out, ← List.append_assoc]; exact OwnI.of_append (m := [_]) hown1 rfl Ho.out.2 (by simpa using hwf), Hm.out.trans (Moved.of_append hgrow hloc)⟩
      case measure => simp [intOf]; omega
    · have hq : q = -1 := by omega
      subst hq
      have Ho := Lib.hid ho
      have Hm := Lib.hid hmv
      clear ho hmv
      go_wp2_with fail
      go_ret
      exact ⟨_, rfl, by have := Ho.out; rwa [show ((wide : Int) - 1 - -1).toNat = wide by omega, List.take_of_length_le (by rw [be_length]; omega)] at this, Hm.out⟩
end Go.Proofs.Ytempedbpieaggaa
