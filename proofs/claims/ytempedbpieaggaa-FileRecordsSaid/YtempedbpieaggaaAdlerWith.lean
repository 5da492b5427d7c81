/- The contract of adler's pair.with: the sums of so many bytes more. -/
import Derived.Test.YtempedbpieaggaaProg
import Derived.Test.YtempedbpieaggaaAdlerPlain
import Derived.Test.YtempedbpieaggaaRow
import Derived.WalkKit
import Derived.WalkLawsBesides
import Derived.LoopTactic
import Derived.Outline
import Derived.Lib.Hide
namespace Go.Proofs.Ytempedbpieaggaa
open Go Go.RowKit
set_option linter.unusedVariables false

set_option maxHeartbeats 400000 in
theorem with_any (p : Int × Int) (a : Option Addr) (cap B : Nat) (l : List Int) (w : World) (h1 : 0 ≤ p.1) (h2 : p.1 < 65521) (h3 : 0 ≤ p.2) (h4 : p.2 < 65521) (hB : B ≤ w.heap.size) (hr : Reads .u8 w B a l) :
    Calls Try.prog 41 #[.agg #[.int .i64 p.1, .int .i64 p.2], .slice a l.length cap] w fun e w' => e = .returned (.agg #[.int .i64 (adl p l).1, .int .i64 (adl p l).2]) ∧ Below w.heap.size w w' := by
  have hm : l.length ≤ 9223372036854775807 := by have := hr.1; unfold maxLen at this; omega
  have hbd := fun k => adl_bd p (l.take k) h1 h2 h3 h4
  have Hbd := Lib.hid hbd
  clear hbd
  go_enter Try.func41, Try.ntmps41
  go_wp2
  go_loopw [9] (fun i wr => ∃ k : Nat, k ≤ l.length ∧ i = .int .i64 k ∧ wr = (w.alloc (.cells #[.int .i64 (adl p (l.take k)).1, .int .i64 (adl p (l.take k)).2] 63)).alloc (.cells #[.int .i64 0, .int .i64 0] 63)) (fun i _ => l.length - (intOf i).toNat)
  case atStart => exact ⟨0, Nat.zero_le _, rfl, by simp [adl_nil]⟩
  case round =>
    obtain ⟨k, hk, rfl, rfl⟩ := hrel
    by_cases hlt : k < l.length
    · obtain ⟨b, off, rfl, hb, hc⟩ := hr.at_ (by omega)
      have hck := hc k hlt
      have hx := hr.u8 k
      have hbk := Hbd.out k
      have hst : Hid (adl p (l.take (k + 1)) = adStep (adl p (l.take k)) (l.getD k 0)) := adl_take p l k hlt
      have hck : ∀ o1 o2, ((w.alloc o1).alloc o2).cell? ⟨b, off + k, none⟩ = some (.int .u8 (l.getD k 0)) := fun o1 o2 => by
        rw [World.cell?_alloc_lt _ _ _ (by simp; omega), World.cell?_alloc_lt _ _ _ (by simp; omega)]; exact hc k hlt
      clear hc
      generalize hA : (adl p (l.take k)).1 = A at *
      generalize hB' : (adl p (l.take k)).2 = B' at *
      generalize hX : l.getD k 0 = X at *
      have HA := Lib.hid hA
      have HB := Lib.hid hB'
      clear hA hB' hX
      go_wp2
      go_roundw
      case rel => exact ⟨k + 1, by omega, by go_num, by rw [hst.out]; simp only [adStep, HA.out, HB.out]⟩
      case measure => simp [intOf]; omega
    · have : k = l.length := by omega
      subst this
      rw [List.take_length]
      go_wp2
      exact bodyPost_ret (v := .agg #[.int .i64 (adl p l).1, .int .i64 (adl p l).2]) (by simp [results, Try.results41, go_sem]) rfl ⟨rfl, ((Below.refl _ _).alloc (Nat.le_refl _) _).alloc (by simp) _⟩
theorem with_ab (x y : Int) (a : Option Addr) (len cap B : Nat) (l : List Int) (w : World) (h1 : 0 ≤ x) (h2 : x < 65521) (h3 : 0 ≤ y) (h4 : y < 65521) (hl : len = l.length) (hB : B ≤ w.heap.size) (hr : Reads .u8 w B a l) :
    Calls Try.prog 41 #[.agg #[.int .i64 x, .int .i64 y], .slice a len cap] w fun e w' => e = .returned (.agg #[.int .i64 (adl (x, y) l).1, .int .i64 (adl (x, y) l).2]) ∧ Below w.heap.size w w' := by
  subst hl
  exact with_any (x, y) a cap B l w h1 h2 h3 h4 hB hr
end Go.Proofs.Ytempedbpieaggaa
