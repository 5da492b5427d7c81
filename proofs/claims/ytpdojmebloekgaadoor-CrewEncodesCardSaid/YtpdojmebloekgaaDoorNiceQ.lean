/- Bytes turned to a string. -/
import Derived.Test.YtpdojmebloekgaaDoorNiceP
import Derived.Laws.IdiomStrings
namespace Go.Proofs.YtpdojmebloekgaaDoor.Nice
open Go
set_option linter.unusedVariables false

theorem conv_none {P : Program} (w : World) (src dst e : TypeId) (l c : Nat) (hs : P.underlying src = some (.slice e)) (he : P.underlying e = some (.int .u8)) (hd : P.underlying dst = some .string) :
    (convert src dst (.slice none l c)).run P w = .ok (.string .empty) w := by
  rw [run_convert_bytes_string w src dst e none l c hs he hd]
  simp [Conv.bytesToString, Sem.run_pure]

/-- 'string(b)' of data. -/
theorem sStr {C : Ctx} {ops : List Oper} {i : Nat} {o : Oper} {l : List Oper} {t : Nat → SV} {h : Heap} {nx : Nat} {K : St → Prop} {src dst e : TypeId} {y : Operand} {len : Nat} {f : Nat → Nat → D} (L : List UInt8) (d nm i' : Nat) (hi : i + 1 = i') (hnm : nx + 8 * i = nm) (hg : o.guard = none) (hdst : o.dst = some d) (hd : Nat.blt d C.sz = true) (ho : o.op = .convert src dst y)
    (hs : C.P.underlying src = some (.slice e)) (he : C.P.underlying e = some (.int .u8)) (hds : C.P.underlying dst = some .string)
    (hy : (opv C t y).hd = some (.d (.vec 1 len f))) (hlen : len = L.length) (hf : ∀ (j : Nat) (hj : j < L.length), f j 0 = .val (.int .u8 (L[j].toNat : Int)))
    (k : wops C ops i' l ⟨upd t d (.d (.val (.string ⟨L.toArray⟩))), h, nx⟩ none K) : wops C ops i (o :: l) ⟨t, h, nx⟩ none K := by
  subst hi; subst hnm; subst hlen
  have hok : OpOK C o (nx + 8 * i) (opv C t) [] (fun x z => x = .d (.val (.string ⟨L.toArray⟩)) ∧ z = []) := by
    refine ok_pure fun M F ρ a hh w hv hH _ => ⟨.string ⟨L.toArray⟩, ?_, .d _ _ (.val _ rfl)⟩
    have e1 := hv y (by rw [ho]; simp [Op.operands]); rw [SV.hd_eq hy] at e1
    have : (convert src dst (a.eval y)).run C.P w = .ok (.string ⟨L.toArray⟩) w := by
      generalize a.eval y = q at e1
      cases e1 with
      | d _ _ hD =>
        generalize hLn : L.length = n at hD
        cases hD with
        | vec0 _ _ ad cap =>
          have : L = [] := List.length_eq_zero_iff.1 hLn
          subst this
          cases ad with
          | none => exact conv_none w src dst e _ _ hs he hds
          | some x => exact run_convert_bytes_back w src dst e x cap [] hs he hds (fun j hj => by simp at hj)
        | vec _ _ _ b oo cap cur T fz g hb hc hgg hr =>
          subst hLn
          refine run_convert_bytes_back w src dst e ⟨b, oo, none⟩ cap L hs he hds fun j hj => ?_
          have h1 := hgg j 0 hj (by omega)
          have h2 := hr j 0 hj (by omega)
          rw [hf j hj] at h2
          generalize hgq : g j 0 = gq at h1 h2
          cases h2
          have h3 := hH.imm b _ hb
          have ea : (⟨b, oo, none⟩ : Addr).add j = ⟨b, oo + j, none⟩ := by unfold Addr.add; split <;> simp_all
          rw [ea]
          unfold World.cell?
          simp only [h3]
          simpa using h1
    unfold execOp
    simp only [ho, Sem.run_bind, this, Result.andThen_ok, Sem.run_pure]
  refine st_ok (σ := ⟨t, h, nx⟩) hg (by unfold dstOK; rw [hdst]; exact hd) hok (fun p hp => by simp at hp) rfl ?_
  unfold St.app; rw [hdst]; exact k

theorem OpOK.weaken {C : Ctx} {o : Oper} {nm : Nat} {v : Operand → SV} {bs : List (Nat × Blk)} {u u' : SV} {wr : List (Nat × Option Blk)} (h : OpOK C o nm v bs (fun x y => x = u ∧ y = wr)) (hw : ∀ M ρ z, VR M ρ u z → VR M ρ u' z) : OpOK C o nm v bs (fun x y => x = u' ∧ y = wr) :=
  fun M F ρ a hh w hv hG hH hbs hfr K Q hK => h M F ρ a hh w hv hG hH hbs hfr K Q fun M' ρ' x y z w' a1 a2 a3 e a5 a6 a7 => hK M' ρ' u' y z w' a1 a2 a3 ⟨rfl, e.2⟩ (hw _ _ _ (e.1 ▸ a5)) a6 a7
section
variable {C : Ctx} {ops : List Oper} {i : Nat} {o : Oper} {l : List Oper} {t : Nat → SV} {h h' : Heap} {nx : Nat} {K : St → Prop} {vc : Prop} {bs : List (Nat × Blk)} {u : SV} {wr : List (Nat × Option Blk)} {acc : List FP}
/-- An operation whose answer is told in another way. -/
theorem s1w (u' : SV) (d nm i' : Nat) (hi : i + 1 = i') (hnm : nx + 8 * i = nm) (hg : o.guard = none) (hdst : o.dst = some d) (hd : Nat.blt d C.sz = true) (e : sopH C nm o (opv C t) h = some (vc, bs, u, wr, h')) (hvc : vc) (hw : ∀ M ρ z, VR M ρ u z → VR M ρ u' z)
    (k : wops C ops i' l ⟨upd t d u', h', nx⟩ none K) : wops C ops i (o :: l) ⟨t, h, nx⟩ none K := by
  subst hi; subst hnm
  obtain ⟨e1, e2⟩ := sopH_eq e
  obtain ⟨h1, h2, h3⟩ := sop_ok e1 hvc
  refine st_ok (σ := ⟨t, h, nx⟩) hg (by unfold dstOK; rw [hdst]; exact hd) (h1.weaken hw) h2 h3 ?_
  unfold St.app; rw [hdst, e2]; exact k
theorem d1w (u' : SV) (d nm i' : Nat) (hi : i + 1 = i') (hnm : nx + 8 * i = nm) (hg : o.guard = none) (hdst : o.dst = some d) (hd : Nat.blt d C.sz = true) (e : sopH C nm o (opv C t) h = some (vc, bs, u, wr, h')) (hvc : vc) (hw : ∀ M ρ z, VR M ρ u z → VR M ρ u' z)
    (k : wops C ops i' l ⟨upd t d u', h', nx⟩ (some (acc ++ [(bs.map (·.1), wr.map (·.1))])) K) : wops C ops i (o :: l) ⟨t, h, nx⟩ (some acc) K := by
  subst hi; subst hnm
  obtain ⟨e1, e2⟩ := sopH_eq e
  obtain ⟨h1, h2, h3⟩ := sop_ok e1 hvc
  refine st_ok (σ := ⟨t, h, nx⟩) hg (by unfold dstOK; rw [hdst]; exact hd) (h1.weaken hw) h2 h3 ?_
  unfold St.app; rw [hdst, e2]; exact k
end
/-- A place in one long row, told as a place in rows of k. -/
theorem VR.rowed {M : Imm} {ρ : Names} {f : Nat → Nat → D} {K k n q c : Nat} {z : Value} (hc : c = q * k) (hK : n * k ≤ K) (h : VR M ρ (.vp K 1 f 0 c) z) : VR M ρ (.vp k n (fun i j => f 0 (i * k + j)) q 0) z := by
  subst hc
  cases h with
  | vp _ _ _ _ _ b o cur T fz g hb hg hr =>
    have lt : ∀ i j, i < n → j < k → i * k + j < K := fun i j hi hj => by
      have h1 : (i + 1) * k ≤ n * k := Nat.mul_le_mul_right k hi
      rw [Nat.succ_mul] at h1; omega
    have := VR.vp (ρ := ρ) k n (fun i j => f 0 (i * k + j)) q 0 b o cur T fz (fun i j => g 0 (i * k + j)) hb (fun i j hi hj => by
      have := hg 0 (i * k + j) (by decide) (lt i j hi hj)
      rw [← this]; congr 1; omega) (fun i j hi hj => hr 0 (i * k + j) (by decide) (lt i j hi hj))
    rw [show o + 0 * K + q * k = o + q * k + 0 by omega]; exact this
end Go.Proofs.YtpdojmebloekgaaDoor.Nice
