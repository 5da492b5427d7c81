/- Contracts of adler.Of, adler.More and of the document's AdlerMore. -/
import Derived.Test.YtempedbpieaggaaAdlerWith
import Derived.Test.YtempedbpieaggaaAdlerSplit
import Derived.Lib.Hide
namespace Go.Proofs.Ytempedbpieaggaa
open Go Go.RowKit
set_option linter.unusedVariables false

/-- What the sums of bytes come to, as one number. -/
def adSum (x y : Int) (l : List Int) : Int := 65536 * (adl (x, y) l).2 + (adl (x, y) l).1

theorem of_any (a : Option Addr) (len cap B : Nat) (l : List Int) (w : World) (hl : len = l.length) (hB : B ≤ w.heap.size) (hr : Reads .u8 w B a l) :
    Calls Try.prog 23 #[.slice a len cap] w fun e w' => e = .returned (.int .i64 (adSum 1 0 l)) ∧ Below w.heap.size w w' := by
  have hb := adl_bd (1, 0) l (by decide) (by decide) (by decide) (by decide)
  have Hl := Lib.hid hl
  clear hl
  go_enter Try.func23, Try.ntmps23
  go_wp2_with fail
  refine (with_ab 1 0 a len cap B l _ (by decide) (by decide) (by decide) (by decide) Hl.out hB hr).mono ?_
  rintro e w1 ⟨rfl, hb1⟩
  go_wp2_with fail
  refine (sum_any _ _ hb.1 hb.2.1 hb.2.2.1 hb.2.2.2 _).mono ?_
  rintro e w2 ⟨rfl, hb2⟩
  go_wp2_with fail
  go_ret
  exact ⟨rfl, hb1.trans (hb2.mono hb1.size)⟩
theorem more_yes (n : Int) (wf : (Lit.int .i64 n).wf = true) (h : isSum n) (a : Option Addr) (len cap B : Nat) (l : List Int) (w : World) (hl : len = l.length) (hB : B ≤ w.heap.size) (hr : Reads .u8 w B a l) :
    Calls Try.prog 24 #[.int .i64 n, .slice a len cap] w fun e w' => e = .returned (.tuple #[.int .i64 (adSum (n % 65536) (n / 65536) l), .int .i64 0]) ∧ Below w.heap.size w w' := by
  have hb := adl_bd (n % 65536, n / 65536) l (by unfold isSum at h; simp only []; omega) (by unfold isSum at h; simp only []; omega) (by unfold isSum at h; simp only []; omega) (by unfold isSum at h; simp only []; omega)
  have Hl := Lib.hid hl
  have H := Lib.hid h
  clear hl h
  go_enter Try.func24, Try.ntmps24
  go_wp2_with fail
  refine (split_yes n wf H.out _).mono ?_
  rintro e w1 ⟨rfl, hb1⟩
  go_wp2_with fail
  refine (with_ab (n % 65536) (n / 65536) a len cap B l _ (by have := H.out; unfold isSum at this; omega) (by have := H.out; unfold isSum at this; omega) (by have := H.out; unfold isSum at this; omega) (by have := H.out; unfold isSum at this; omega) Hl.out (by have := hb1.size; simp; omega) ((hr.below (hb1.mono hB)).below ((Below.refl _ _).alloc (by have := hb1.size; omega) _))).mono ?_
  rintro e w2 ⟨rfl, hb2⟩
  go_wp2_with fail
  refine (sum_any _ _ hb.1 hb.2.1 hb.2.2.1 hb.2.2.2 _).mono ?_
  rintro e w3 ⟨rfl, hb3⟩
  go_wp2_with fail
  go_ret2
  have hz := hb1.size
  have hz2 := hb2.size
  simp at hz2
  exact ⟨rfl, ((hb1.alloc hz _).trans (hb2.mono (by simp; omega))).trans (hb3.mono (by omega))⟩
theorem more_no (n : Int) (wf : (Lit.int .i64 n).wf = true) (h : ¬ isSum n) (a : Option Addr) (len cap : Nat) (w : World) :
    Calls Try.prog 24 #[.int .i64 n, .slice a len cap] w fun e w' => e = .returned (.tuple #[.int .i64 0, .int .i64 2]) ∧ Below w.heap.size w w' := by
  have H := Lib.hid h
  clear h
  go_enter Try.func24, Try.ntmps24
  go_wp2_with fail
  refine (split_no n wf H.out _).mono ?_
  rintro e w1 ⟨rfl, hb1⟩
  go_wp2_with fail
  go_ret2
  exact ⟨rfl, hb1.alloc hb1.size _⟩
end Go.Proofs.Ytempedbpieaggaa
