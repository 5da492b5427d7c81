/- Contracts of file.Record and of the document's FileRecord; the walk of the law FileRecords. -/
import Derived.Test.YtempedbpieaggaaFilePut
import Derived.Test.YtempedbpieaggaaAdlerRef
import Derived.Test.YtempedbpieaggaaAppend
import Derived.Test.YtempedbpieaggaaSame
namespace Go.Proofs.Ytempedbpieaggaa
open Go Go.RowKit
set_option linter.unusedVariables false

/-- The record of bytes. -/
def recOf (l : List Int) : List Int := be l.length 2 ++ be (adSum 1 0 l) 4 ++ l
theorem recOf_length (l : List Int) : (recOf l).length = l.length + 6 := by unfold recOf; simp [be_length]; omega
theorem adSum_bd (x y : Int) (l : List Int) (h1 : 0 ≤ x) (h2 : x < 65521) (h3 : 0 ≤ y) (h4 : y < 65521) : 0 ≤ adSum x y l ∧ adSum x y l < 4294967296 := by
  have := adl_bd (x, y) l h1 h2 h3 h4
  unfold adSum; omega

theorem record_big (a : Option Addr) (len cap : Nat) (w : World) (h : 4000 < len) :
    Calls Try.prog 27 #[.slice a len cap] w fun e w' => e = .returned (.tuple #[.slice none 0 0, .int .i64 1]) ∧ w = w' := by
  go_enter Try.func27, Try.ntmps27
  go_wp2_with fail
  go_ret2
  exact ⟨rfl, rfl⟩
theorem record_any (a : Option Addr) (cap B : Nat) (l : List Int) (w : World) (hl : l.length ≤ 4000) (hB : B ≤ w.heap.size) (hr : Reads .u8 w B a l) :
    Calls Try.prog 27 #[.slice a l.length cap] w fun e w' => ∃ v, e = .returned (.tuple #[v, .int .i64 0]) ∧ OwnI .u8 5 w' w.heap.size v (recOf l) ∧ Below w.heap.size w w' := by
  obtain ⟨i0, hi, hz0, hz1, hz2⟩ := info_parts infoByte
  have hs := adSum_bd 1 0 l (by decide) (by decide) (by decide) (by decide)
  have hL2 := be_length l.length 2
  have hL4 := be_length (adSum 1 0 l) 4
  have HL2 := Lib.hid hL2
  have HL4 := Lib.hid hL4
  clear hL2 hL4
  go_enter Try.func27, Try.ntmps27
  go_wp2_with fail
  refine (filePut_any (.slice none 0 0) l.length 2 w.heap.size [] _ (by omega) (by simp) (wf_i64 (by omega) (by omega)) (OwnI.nil _ _ _ _) (Nat.le_refl _)).mono ?_
  rintro e w1 ⟨v1, rfl, ho1, hm1⟩
  have hb1 : Below w.heap.size w w1 := hm1.below (Nat.le_refl _) (by simp [Value.ownBlock])
  go_wp2_with fail
  refine (of_any a l.length cap B l _ rfl (by have := hb1.size; omega) (hr.below (hb1.mono hB))).mono ?_
  rintro e w2 ⟨rfl, hb2⟩
  go_wp2_with fail
  have ho2 := ho1.below hb2
  refine (filePut_any v1 (adSum 1 0 l) 4 w.heap.size _ _ (by omega) (by rw [List.nil_append, HL2.out]; decide) (wf_i64 (by omega) (by omega)) ho2 (Nat.le_trans hb1.size hb2.size)).mono ?_
  rintro e w3 ⟨v3, rfl, ho3, hm3⟩
  have hb12 : Below w.heap.size w w2 := hb1.trans (hb2.mono hb1.size)
  have hb3 : Below w.heap.size w w3 := hb12.trans (hm3.below hb12.size (fun g hg => (ho2.lt g hg).1))
  go_wp2_with ((at_builtin; refine wpList_append_ints _ rfl (.tmp 12) (.tmp 13) 27 rfl .u8 w.heap.size 5 i0 1 Try.underlying27 hi hz0 hz1 hz2 v3 _ rfl ho3 B a l.length cap l rfl rfl (hr.below (hb3.mono hB)) (by have h2 := HL2.out; have h4 := HL4.out; simp only [List.length_append, List.length_nil]; unfold maxLen; omega) (by have h2 := HL2.out; have h4 := HL4.out; simp only [List.length_append, List.length_nil]; omega) hb3.size ?_; intro v4 w4 ho4 hm4))
  go_ret2
  exact ⟨_, rfl, by simpa [recOf] using ho4, hb3.trans (hm4.below hb3.size (fun g hg => (ho3.lt g hg).1))⟩
theorem rRecord_big (a : Option Addr) (len cap : Nat) (w : World) (h : 4000 < len) :
    Calls Try.prog 28 #[.slice a len cap] w fun e w' => e = .returned (.tuple #[.slice none 0 0, .int .i64 1]) ∧ w = w' := by
  go_enter Try.func28, Try.ntmps28
  go_wp2_with fail
  go_ret2
  exact ⟨rfl, rfl⟩
theorem recHead (n s : Int) (h1 : 0 ≤ n) (h2 : n ≤ 4000) (h3 : 0 ≤ s) (h4 : s < 4294967296) :
    be n 2 ++ be s 4 = [n / 256, n % 256, s / 16777216, s / 65536 % 256, s / 256 % 256, s % 256] := by
  simp only [be, beByte, List.cons_append, List.nil_append, Int.pow_succ, Int.pow_zero]
  simp
  omega
theorem rRecord_any (a : Option Addr) (cap B : Nat) (l : List Int) (w : World) (hl : l.length ≤ 4000) (hB : B ≤ w.heap.size) (hr : Reads .u8 w B a l) :
    Calls Try.prog 28 #[.slice a l.length cap] w fun e w' => ∃ v, e = .returned (.tuple #[v, .int .i64 0]) ∧ OwnI .u8 5 w' w.heap.size v (recOf l) ∧ Below w.heap.size w w' := by
  obtain ⟨i0, hi, hz0, hz1, hz2⟩ := info_parts infoByte
  have hs := adSum_bd 1 0 l (by decide) (by decide) (by decide) (by decide)
  go_enter Try.func28, Try.ntmps28
  go_wp2_with fail
  refine (rMore_yes 1 (by decide) (by unfold isSum; decide) a cap B l _ hr).mono ?_
  rintro e w1 ⟨rfl, rfl⟩
  have hh := recHead l.length (adSum 1 0 l) (by omega) (by omega) hs.1 hs.2
  have Hh := Lib.hid hh
  clear hh
  have ho : OwnI .u8 5 (w.alloc (.cells #[.int .u8 ((l.length : Int) / 256), .int .u8 ((l.length : Int) % 256), .int .u8 (adSum 1 0 l / 16777216), .int .u8 (adSum 1 0 l / 65536 % 256), .int .u8 (adSum 1 0 l / 256 % 256), .int .u8 (adSum 1 0 l % 256)] 5)) w.heap.size (.slice (some ⟨w.heap.size, 0, none⟩) 6 6)
      [(l.length : Int) / 256, (l.length : Int) % 256, adSum 1 0 l / 16777216, adSum 1 0 l / 65536 % 256, adSum 1 0 l / 256 % 256, adSum 1 0 l % 256] :=
    ⟨World.ownsRow_lit w _ 6 (Nat.le_refl _) (by decide) rfl, by
      intro x hx
      simp only [List.mem_cons, List.not_mem_nil, or_false] at hx
      rcases hx with rfl | rfl | rfl | rfl | rfl | rfl <;> exact wf_u8 (by omega) (by omega)⟩
  go_wp2_with ((at_builtin; refine wpList_append_ints _ rfl (.tmp 34) (.tmp 35) 27 rfl .u8 w.heap.size 5 i0 1 Try.underlying27 hi hz0 hz1 hz2 (.slice (some ⟨w.heap.size, 0, none⟩) 6 6) _ rfl ho B a l.length cap l rfl rfl (hr.below ((Below.refl _ _).alloc hB _)) (by simp only [List.length_cons, List.length_nil]; unfold maxLen; omega) (by simp only [List.length_cons, List.length_nil]; omega) (by simp) ?_; intro v4 w4 ho4 hm4))
  go_ret2
  exact ⟨_, rfl, by rw [recOf, Hh.out]; exact ho4, ((Below.refl _ _).alloc (Nat.le_refl _) _).trans (hm4.below (by simp) (fun g hg => (ho.lt g hg).1))⟩
theorem fileRecords_walk (a0 : Option Addr) (len0 cap0 : Nat) (z0 : List Int) (w : World) (w0 : IsRow .u8 w a0 len0 cap0 z0) :
    Calls Try.prog 10 #[.slice a0 len0 cap0] w fun e w' => e = .returned (.bool true) ∧ Below w.heap.size w w' := by
  obtain ⟨hr, hl⟩ := w0.reads
  generalize z0.take len0 = l at hr hl
  subst hl
  by_cases h : l.length ≤ 4000
  · go_enter Try.func10, Try.ntmps10
    go_wp2_with fail
    refine (record_any a0 cap0 w.heap.size l _ h (Nat.le_refl _) hr).mono ?_
    rintro e w1 ⟨v1, rfl, ho1, hb1⟩
    go_wp2_with fail
    refine (rRecord_any a0 cap0 w.heap.size l _ h hb1.size (hr.below hb1)).mono ?_
    rintro e w2 ⟨v2, rfl, ho2, hb2⟩
    obtain ⟨b1, c1, rfl, hr1⟩ := (ho1.below hb2).slc
    obtain ⟨b2, c2, rfl, hr2⟩ := ho2.slc
    go_wp2_with fail
    refine (same_bytes b1 b2 c1 c2 w2.heap.size (recOf l) _ hr1 hr2).mono ?_
    rintro e w3 ⟨rfl, hb3⟩
    go_wp2_with fail
    go_ret
    exact ⟨rfl, (hb1.trans (hb2.mono hb1.size)).trans (hb3.mono (Nat.le_trans hb1.size hb2.size))⟩
  · have h' : 4000 < l.length := by omega
    clear h
    go_enter Try.func10, Try.ntmps10
    go_wp2_with fail
    refine (record_big a0 l.length cap0 _ h').mono ?_
    rintro e w1 ⟨rfl, rfl⟩
    go_wp2_with fail
    refine (rRecord_big a0 l.length cap0 _ h').mono ?_
    rintro e w2 ⟨rfl, rfl⟩
    go_wp2_with fail
    refine (same_bytes none none 0 0 w.heap.size [] _ ⟨by simp, by simp, by simp⟩ ⟨by simp, by simp, by simp⟩).mono ?_
    rintro e w3 ⟨rfl, hb3⟩
    go_wp2_with fail
    go_ret
    exact ⟨rfl, hb3⟩
end Go.Proofs.Ytempedbpieaggaa
