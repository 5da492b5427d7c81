/- Bytes as an argument. -/
import Derived.Test.YtnnjobmiepnedaaDoorNiceM
import Derived.Test.YtnnjobmiepnedaaDoorZTopBase
namespace Go.Proofs.YtnnjobmiepnedaaDoor
open Go Nice
set_option linter.unusedVariables false
theorem dr_of {M : Imm} {ρ : Names} {x : D} {v : Value} (h : VR M ρ (.d x) v) : DR M x v := by cases h; assumption
def ofB (l : List UInt8) : List Int := l.map fun x => (x.toNat : Int)
theorem bytes_val {M : Imm} (l : List Sh.u8.T) {v : Value} (h : DR M ((Sh.slice .u8).cell l 0) v) : DR M (.vec 1 (ofB l).length (u8F (ofB l))) v := by
  have hlen : (ofB l).length = l.length := by simp [ofB]
  rw [hlen]
  refine DR.vec_congr h fun i c hi hc => ?_
  rw [List.getElem?_eq_getElem hi]
  have e : (ofB l).getD i 0 = (l[i].toNat : Int) := by simp [ofB, List.getD, hi]
  unfold u8F
  rw [e]; rfl
theorem bytes_sz {M : Imm} (l : List Sh.u8.T) {v : Value} (h : DR M ((Sh.slice .u8).cell l 0) v) (hs : ∀ a len cap, v = .slice a len cap → len * 1 ≤ 140737488351232) : Bytes (ofB l) := by
  have hlen : (ofB l).length = l.length := by simp [ofB]
  refine ⟨?_, fun k => ?_⟩
  · rw [hlen]
    have h' : DR M (.vec 1 l.length _) v := h
    generalize hL : l.length = n at h'
    cases h' with
    | vec0 => omega
    | vec _ _ _ b o cap => have := hs _ _ _ rfl; omega
  · by_cases hk : k < l.length
    · have e : (ofB l).getD k 0 = (l[k].toNat : Int) := by simp [ofB, List.getD, hk]
      have := l[k].toNat_lt
      rw [e]; omega
    · rw [List.getD_eq_getElem?_getD, List.getElem?_eq_none (by rw [hlen]; omega)]; exact ⟨by decide, by decide⟩
end Go.Proofs.YtnnjobmiepnedaaDoor
