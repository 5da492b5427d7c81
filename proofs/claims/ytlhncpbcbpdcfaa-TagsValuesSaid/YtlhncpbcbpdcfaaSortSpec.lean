/- A function told by its world alone (what lay before lies as it lay), as a contract of the calculus; slices.Sorted of slices.Values. -/
import Derived.Test.YtlhncpbcbpdcfaaQuantCount
import Derived.Test.YtlhncpbcbpdcfaaNiceW
import Derived.Test.YtlhncpbcbpdcfaaSortVals
import Derived.Test.YtlhncpbcbpdcfaaLayI
namespace Go.Proofs.Ytlhncpbcbpdcfaa.Nice
open Go Go.RowKit
set_option linter.unusedVariables false
set_option linter.unusedSimpArgs false
set_option maxRecDepth 100000
theorem HR.below {M F : Imm} {ρ : Names} {h : Heap} {w w' : World} (H : HR M F ρ h w) (hb : RowKit.Below w.heap.size w w') :
    M.le (fun b => if b < w.heap.size then M b else w'.heap[b]?) ∧ HR (fun b => if b < w.heap.size then M b else w'.heap[b]?) F ρ h w' := by
  have hM : ∀ b o, M b = some o → b < w.heap.size := fun b o e => (Array.getElem?_eq_some_iff.1 (H.imm b o e)).1
  have hF : ∀ b o, F b = some o → b < w.heap.size := fun b o e => (Array.getElem?_eq_some_iff.1 (H.frm b o e)).1
  have hle : M.le (fun b => if b < w.heap.size then M b else w'.heap[b]?) := by
    intro b o e
    show (if b < w.heap.size then M b else w'.heap[b]?) = some o
    rw [if_pos (hM b o e)]; exact e
  refine ⟨hle, fun b o e => ?_, fun b o e => ?_, fun b o e => ?_, fun n blk hn => ?_, H.sep, ?_⟩
  · replace e : (if b < w.heap.size then M b else w'.heap[b]?) = some o := e
    split at e
    · next hlt => rw [hb.block b hlt]; exact H.imm b o e
    · exact e
  · rw [hb.block b (hF b o e)]; exact H.frm b o e
  · show (if b < w.heap.size then M b else w'.heap[b]?) = none
    rw [if_pos (hF b o e)]; exact H.dis b o e
  · obtain ⟨x, hx, hr⟩ := H.live n blk hn
    refine ⟨x, hx, ?_⟩
    rcases hr with hr | ⟨h0, h1, h2, o, h3, h4⟩
    · exact .inl hr
    · have hlt := (Array.getElem?_eq_some_iff.1 h3).1
      refine .inr ⟨h0, ?_, h2, o, by rw [hb.block _ hlt]; exact h3, h4.mono hle (Names.le_refl _)⟩
      show (if x.b < w.heap.size then M x.b else w'.heap[x.b]?) = none
      rw [if_pos hlt]; exact h1
  · refine H.famKeep (fun _ _ _ h => h) (Names.le_refl _) hle hb.size (fun n S es hn b hbS h1 h2 => ?_) (fun n S es x c _ hn hx h0 hc => ?_) (fun _ _ _ m y _ a b _ => .inl ⟨a, b⟩)
    · obtain ⟨_, _, _, g1, _⟩ := H.fam n S es hn
      refine ⟨?_, h2⟩
      show (if b < w.heap.size then M b else w'.heap[b]?) = none
      rw [if_pos (g1 b hbS).2.2]; exact h1
    · rcases hc with rfl | hc
      · obtain ⟨x', hx', hr⟩ := H.live n _ hn
        rw [hx] at hx'; obtain rfl := Option.some.inj hx'
        rcases hr with ⟨_, hg⟩ | ⟨_, _, _, o, h3, _⟩
        · simp [Blk.ghost] at hg
        · exact hb.block _ (Array.getElem?_eq_some_iff.1 h3).1
      · obtain ⟨_, _, _, g1, _⟩ := H.fam n S es hn
        exact hb.block _ (g1 c hc).2.2
/-- A row of the call's own that a world-level contract hands back, as data. -/
theorem ints_own {M : Imm} {w w' : World} {v : Value} {ys : List Int} (hrow : w'.ownsRow w.heap.size 3 1 v ys.length (ys.map (Value.int .i64))) : DR (fun b => if b < w.heap.size then M b else w'.heap[b]?) (.vec 1 ys.length (intsF ys)) v := by
  rcases hrow.2 with ⟨rfl, h0⟩ | ⟨g, cap, cur, rfl, hg, hgb, h1, h2, h3, h4⟩
  · rw [h0]; exact .vec0 _ _ _ _
  · refine .vec 1 ys.length (intsF ys) g 0 cap cur 3 (0, 0) (fun i c => .int .i64 (ys.getD i 0)) ?_ h1 (fun i c hi hc => ?_) (fun i c hi hc => .val _ rfl)
    · show (if g < w.heap.size then M g else w'.heap[g]?) = _
      rw [if_neg (by omega)]; exact hgb
    · obtain rfl : c = 0 := by omega
      have e : (cur.toList.take (ys.length * 1))[i]? = (ys.map (Value.int .i64))[i]? := by rw [h4]
      rw [List.getElem?_take_of_lt (by omega), Array.getElem?_toList] at e
      rw [show 0 + i * 1 + 0 = i by omega, e, List.getElem?_map, List.getElem?_eq_getElem hi]
      simp [List.getD, hi]
theorem sorts_any : SortsI := fun blk off cap zs w h1 h2 h3 => Go.Proofs.Any.slices_Sort_int layI blk off cap zs w h1 h2 h3
def srt (l : List Int) : List Int := l.mergeSort fun x y => decide (x ≤ y)
theorem sorted_spec (l : List Int) (hl : l.length ≤ 1000) (hz : l ≠ []) : Spec Try.prog G0 36 [.fn 58 [.ptr 0 0 0]] [.cells 24 1 [intsV l]] (fun r ho => r = intsV (srt l) ∧ ho = [some (.cells 24 1 [intsV l])]) := by
  intro M F ρ vs w hG hH hsz hargs hfr
  obtain ⟨u, hu, hv⟩ := hargs 0 _ rfl
  obtain ⟨cs, rfl, hcs, hc⟩ := fn_case hv
  obtain ⟨p, hp, hpr⟩ := hc 0 _ rfl
  have hvs : vs = #[.func (.func 58) #[] cs] := by
    apply Array.ext_getElem?; intro i
    have hsz : vs.size = 1 := hsz
    match i with
    | 0 => rw [hu]; rfl
    | n + 1 => rw [Array.getElem?_eq_none (by omega), Array.getElem?_eq_none (by simp)]
  have hcs2 : cs = #[p] := by
    apply Array.ext_getElem?; intro i
    have hcs : cs.size = 1 := hcs
    match i with
    | 0 => rw [hp]; rfl
    | n + 1 => rw [Array.getElem?_eq_none (by omega), Array.getElem?_eq_none (by simp)]
  subst hvs; subst hcs2
  cases hpr with
  | ptr _ _ _ x hx =>
    obtain ⟨x', hx', hr⟩ := hH.live 0 _ rfl
    rw [hx] at hx'; obtain rfl := Option.some.inj hx'
    rcases hr with ⟨_, hg⟩ | ⟨h0, h1, h2, o, h3, h4⟩
    · simp [Blk.ghost] at hg
    cases o with
    | cells cur T fz =>
      obtain ⟨rfl, rfl, k1, k2, k3, k4⟩ := h4
      obtain ⟨sv, s1, s2⟩ := k4 0 _ rfl
      have hBs := (Array.getElem?_eq_some_iff.1 h3).1
      have hcell : w.cell? ⟨x.b, 0, none⟩ = some sv := by simp [World.cell?, h3, s1]
      have hI : Ints w.heap.size w sv l := by
        cases s2 with
        | d _ _ h =>
          generalize hln : l.length = len at h
          cases h with
          | vec0 => exact absurd (List.eq_nil_of_length_eq_zero hln) hz
          | vec _ _ _ b o cap cur2 T2 fz2 q hb hc hq hrr =>
            have hbh := hH.imm b _ hb
            refine ⟨b, o, cap, by rw [hln], (Array.getElem?_eq_some_iff.1 hbh).1, fun j hj => ?_⟩
            have e1 := hq j 0 (by omega) (by omega)
            have e2 := hrr j 0 (by omega) (by omega)
            have e3 : q j 0 = .int .i64 (l.getD j 0) := by
              generalize hq0 : q j 0 = q0 at e2
              cases e2; rfl
            rw [e3, show o + j * 1 + 0 = o + j by omega] at e1
            simp only [World.cell?, hbh]
            simp [e1, List.getD_eq_getElem?_getD]
      have hoff : (0 * x.k + 0) = 0 := by omega
      rw [hoff]
      refine (sorted_any sorts_any x.b sv l hl hz w hBs hcell hI).mono ?_
      rintro e w' ⟨v, rfl, hrow, hbl⟩
      obtain ⟨b1, b2⟩ := hH.below hbl
      refine ⟨_, ρ, _, _, v, rfl, b1, Names.le_refl _, ?_, b2, ?_, ⟨hbl.os, hbl.tape, hbl.output, hbl.size⟩, rfl, rfl⟩
      · have hlen : (srt l).length = l.length := List.length_mergeSort _
        refine .d _ _ (ints_own ?_)
        rw [hlen]; exact hrow
      · rfl
    | _ => exact h4.elim

end Go.Proofs.Ytlhncpbcbpdcfaa.Nice
