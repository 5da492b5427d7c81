/- The contract of the document's AdlerMore: the sums by subtraction. -/
import Derived.Test.YtempedbpieaggaaAdlerMore
import Derived.LoopTactic
import Derived.Outline
namespace Go.Proofs.Ytempedbpieaggaa
open Go Go.RowKit
set_option linter.unusedVariables false

theorem rMore_no (n : Int) (wf : (Lit.int .i64 n).wf = true) (h : ¬ isSum n) (a : Option Addr) (len cap : Nat) (w : World) :
    Calls Try.prog 22 #[.int .i64 n, .slice a len cap] w fun e w' => e = .returned (.tuple #[.int .i64 0, .int .i64 2]) ∧ w = w' := by
  have hb := i64_bd wf
  unfold isSum at h
  by_cases h0 : n < 0
  · clear h
    have hd : decide (n < 0) = true := by simpa using h0
    go_enter Try.func22, Try.ntmps22
    go_wp2
    go_ret2
    exact ⟨rfl, rfl⟩
  · have h0' : 0 ≤ n := by omega
    by_cases h1 : n % 65536 < 65521
    · have h2 : 65521 ≤ n / 65536 := by omega
      clear h
      go_enter Try.func22, Try.ntmps22
      go_wp2
      go_ret2
      exact ⟨rfl, rfl⟩
    · have h2 : 65521 ≤ n % 65536 := by omega
      clear h
      go_enter Try.func22, Try.ntmps22
      go_wp2
      go_ret2
      exact ⟨rfl, rfl⟩
set_option maxHeartbeats 400000 in
theorem rMore_yes (n : Int) (wf : (Lit.int .i64 n).wf = true) (h : isSum n) (a : Option Addr) (cap B : Nat) (l : List Int) (w : World) (hr : Reads .u8 w B a l) :
    Calls Try.prog 22 #[.int .i64 n, .slice a l.length cap] w fun e w' => e = .returned (.tuple #[.int .i64 (adSum (n % 65536) (n / 65536) l), .int .i64 0]) ∧ w = w' := by
  have hm : l.length ≤ 9223372036854775807 := by have := hr.1; unfold maxLen at this; omega
  have hb := i64_bd wf
  obtain ⟨h0, h1, h2⟩ := h
  have hbd := fun k => adl_bd (n % 65536, n / 65536) (l.take k) (by simp only []; omega) h1 (by simp only []; omega) h2
  have Hbd := Lib.hid hbd
  clear hbd
  go_enter Try.func22, Try.ntmps22
  go_wp2
  go_loop [6, 7, 26] (fun sa sb i => ∃ k : Nat, k ≤ l.length ∧ i = .int .i64 k ∧ sa = .int .i64 (adl (n % 65536, n / 65536) (l.take k)).1 ∧ sb = .int .i64 (adl (n % 65536, n / 65536) (l.take k)).2) (fun _ _ i => l.length - (intOf i).toNat)
  case atStart => exact ⟨0, Nat.zero_le _, rfl, rfl, rfl⟩
  case round =>
    obtain ⟨k, hk, rfl, rfl, rfl⟩ := hrel
    by_cases hlt : k < l.length
    · obtain ⟨b, off, rfl, hb, hc⟩ := hr.at_ (by omega)
      have hx := hr.u8 k
      have hbk := Hbd.out k
      have hst : Hid (adl (n % 65536, n / 65536) (l.take (k + 1)) = adStep (adl (n % 65536, n / 65536) (l.take k)) (l.getD k 0)) := adl_take _ l k hlt
      have hck := hc k hlt
      clear hc
      generalize hA : (adl (n % 65536, n / 65536) (l.take k)).1 = A at *
      generalize hB' : (adl (n % 65536, n / 65536) (l.take k)).2 = B' at *
      generalize hX : l.getD k 0 = X at *
      have HA := Lib.hid hA
      have HB := Lib.hid hB'
      clear hA hB' hX
      go_wp2
      go_loop [6] (fun sa => ∃ v : Int, 0 ≤ v ∧ v ≤ 131072 ∧ v % 65521 = (A + X) % 65521 ∧ sa = .int .i64 v) (fun sa => (intOf sa).toNat)
      case atStart => exact ⟨_, by omega, by omega, rfl, rfl⟩
      case round =>
        obtain ⟨v, hv0, hv1, hv, rfl⟩ := hrel
        have Hv := Lib.hid hv
        clear hv
        by_cases hge : 65521 ≤ v
        · go_wp2
          go_round
          case rel => exact ⟨v - 65521, by omega, by omega, by have := Hv.out; omega, rfl⟩
          case measure => simp [intOf]; omega
        · have hva : Hid (v = (A + X) % 65521) := by have := Hv.out; show v = _; omega
          go_wp2
          go_loop [7] (fun sb => ∃ u : Int, 0 ≤ u ∧ u ≤ 196608 ∧ u % 65521 = (B' + v) % 65521 ∧ sb = .int .i64 u) (fun sb => (intOf sb).toNat)
          case atStart => exact ⟨_, by omega, by omega, rfl, rfl⟩
          case round =>
            obtain ⟨u, hu0, hu1, hu, rfl⟩ := hrel
            have Hu := Lib.hid hu
            clear hu
            by_cases hge2 : 65521 ≤ u
            · go_wp2
              go_round
              case rel => exact ⟨u - 65521, by omega, by omega, by have := Hu.out; omega, rfl⟩
              case measure => simp [intOf]; omega
            · have hub : Hid (u = (B' + (A + X)) % 65521) := by have := Hu.out; have := hva.out; show u = _; omega
              go_wp2
              go_round
              case rel => exact ⟨k + 1, by omega, by go_num, by rw [hst.out]; simp only [adStep, HA.out]; rw [← hva.out], by rw [hst.out]; simp only [adStep, HA.out, HB.out]; rw [← hub.out]⟩
              case measure => simp [intOf]; omega
    · have : k = l.length := by omega
      subst this
      have hbk := Hbd.out l.length
      rw [List.take_length] at hbk ⊢
      have hf : Hid (adSum (n % 65536) (n / 65536) l = 65536 * (adl (n % 65536, n / 65536) l).2 + (adl (n % 65536, n / 65536) l).1) := rfl
      go_wp2
      go_ret2
      exact ⟨ret2_of hf.out.symm rfl, rfl⟩
end Go.Proofs.Ytempedbpieaggaa
