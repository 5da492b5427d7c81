/- Values told more weakly, beside others. -/
import Derived.Test.YtpdojmebloekgaaDoorZCoH
import Derived.Test.YtpdojmebloekgaaDoorNiceQ
namespace Go.Proofs.YtpdojmebloekgaaDoor.Nice.Co
open Go Go.Conc
set_option linter.unusedVariables false
set_option linter.unusedSimpArgs false

theorem OpOK.weaken {C : Ctx} {o : Oper} {nm : Nat} {v : Operand → SV} {bs : List (Nat × Blk)} {u u' : SV} {wr : List (Nat × Option Blk)} (h : OpOK C o nm v bs (fun x y => x = u ∧ y = wr)) (hw : ∀ M ρ z, VR M ρ u z → VR M ρ u' z) : OpOK C o nm v bs (fun x y => x = u' ∧ y = wr) :=
  fun K A F M ρ a hh w h0 hv hG hH hbs hfr gd b ops i rest k cs hoi hwt hb hK => h K A F M ρ a hh w h0 hv hG hH hbs hfr gd b ops i rest k cs hoi hwt hb fun A' M' ρ' x y z w' a0 a1 a2 a3 e a5 a6 a7 a8 => hK A' M' ρ' u' y z w' a0 a1 a2 a3 ⟨rfl, e.2⟩ (hw _ _ _ (e.1 ▸ a5)) a6 a7 a8

section
variable {C : Ctx} {ops : List Oper} {i : Nat} {o : Oper} {l : List Oper} {t : Nat → SV} {h h' : Heap} {nx : Nat} {K : St → Prop} {vc : Prop} {bs : List (Nat × Blk)} {u : SV} {wr : List (Nat × Option Blk)} {acc : List FP}
/-- An operation whose answer is told in another way. -/
theorem s1w (u' : SV) (d nm i' : Nat) (hi : i + 1 = i') (hnm : nx + 8 * i = nm) (hg : o.guard = none) (hdst : o.dst = some d) (hd : Nat.blt d C.sz = true) (e : sopH C nm o (opv C t) h = some (vc, bs, u, wr, h')) (hvc : vc) (hw : ∀ M ρ z, VR M ρ u z → VR M ρ u' z)
    (k : wops C ops i' l ⟨upd t d u', h', nx⟩ none K) : wops C ops i (o :: l) ⟨t, h, nx⟩ none K := by
  subst hi; subst hnm
  obtain ⟨e1, e2⟩ := sopH_eq e
  obtain ⟨h1, h2, h3⟩ := sopC_ok e1 hvc
  refine st_ok (σ := ⟨t, h, nx⟩) hg (by unfold dstOK; rw [hdst]; exact hd) (h1.weaken hw) h2 h3 ?_
  unfold St.app; rw [hdst, e2]; exact k

theorem d1w (u' : SV) (d nm i' : Nat) (hi : i + 1 = i') (hnm : nx + 8 * i = nm) (hg : o.guard = none) (hdst : o.dst = some d) (hd : Nat.blt d C.sz = true) (e : sopH C nm o (opv C t) h = some (vc, bs, u, wr, h')) (hvc : vc) (hw : ∀ M ρ z, VR M ρ u z → VR M ρ u' z)
    (k : wops C ops i' l ⟨upd t d u', h', nx⟩ (some (acc ++ [(bs.map (·.1), wr.map (·.1))])) K) : wops C ops i (o :: l) ⟨t, h, nx⟩ (some acc) K := by
  subst hi; subst hnm
  obtain ⟨e1, e2⟩ := sopH_eq e
  obtain ⟨h1, h2, h3⟩ := sopC_ok e1 hvc
  refine st_ok (σ := ⟨t, h, nx⟩) hg (by unfold dstOK; rw [hdst]; exact hd) (h1.weaken hw) h2 h3 ?_
  unfold St.app; rw [hdst, e2]; exact k
end

end Go.Proofs.YtpdojmebloekgaaDoor.Nice.Co
