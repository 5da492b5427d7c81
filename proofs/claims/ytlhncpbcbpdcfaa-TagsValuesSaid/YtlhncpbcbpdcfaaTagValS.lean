/- The keys of a map of counts, sorted by the library: as a contract of the calculus. -/
import Derived.Test.YtlhncpbcbpdcfaaTagValP
import Derived.Test.YtlhncpbcbpdcfaaNiceX
import Derived.Test.YtlhncpbcbpdcfaaSortSpec
import Derived.Test.YtlhncpbcbpdcfaaLayK
import Derived.Test.YtlhncpbcbpdcfaaLayS
import Derived.Shelf.Slices.In.SortNone
namespace Go.Proofs.Ytlhncpbcbpdcfaa.Nice
open Go Go.Proofs Go.RowKit Go.Shelf Go.Sort Go.Maps Go.WideElems Go.WideShapes
set_option linter.unusedVariables false
set_option linter.unusedSimpArgs false
set_option maxRecDepth 100000
def sF (L : List Str) : Nat → Nat → D := fun i _ => .val (.string (toB (L.getD i [])))
def strsV (L : List Str) : SV := .d (.vec 1 L.length (sF L))
theorem strs_own {M : Imm} {w w' : World} {v : Value} {ys : List Str} (hrow : w'.ownsRow w.heap.size 9 1 v ys.length (ys.map encStr)) : DR (fun b => if b < w.heap.size then M b else w'.heap[b]?) (.vec 1 ys.length (sF ys)) v := by
  rcases hrow.2 with ⟨rfl, h0⟩ | ⟨g, cap, cur, rfl, hg, hgb, h1, h2, h3, h4⟩
  · rw [h0]; exact .vec0 _ _ _ _
  · refine .vec 1 ys.length (sF ys) g 0 cap cur 9 (0, 0) (fun i c => encStr (ys.getD i [])) ?_ h1 (fun i c hi hc => ?_) (fun i c hi hc => .val _ rfl)
    · show (if g < w.heap.size then M g else w'.heap[g]?) = _
      rw [if_neg (by omega)]; exact hgb
    · obtain rfl : c = 0 := by omega
      have e : (cur.toList.take (ys.length * 1))[i]? = (ys.map encStr)[i]? := by rw [h4]
      rw [List.getElem?_take_of_lt (by omega), Array.getElem?_toList] at e
      rw [show 0 + i * 1 + 0 = i by omega, e, List.getElem?_map, List.getElem?_eq_getElem hi]
      simp [List.getD, hi]
def RU : Value → Option (DataW Unit × List MemPlace) := fun _ => some (.nil, [])
theorem owns_cE {M : Imm} {ρ : Names} {x : Own} {w : World} {l : CL} {ents : Array MapEntry} {cl : Nat} (hn : (l.map (·.1)).Nodup) (hlen : l.length ≤ 1000) (hs : ∀ p, p ∈ l → p.1.size ≤ maxLen) (hb : w.heap[x.b]? = some (.map ents cl)) (hB : BR M ρ x (.map (cE l)) (.map ents cl)) :
    ∃ D0 : DataW Unit, w.ownsMap Try.prog 9 RU x.b ents.size D0 ∧ Maps.size D0 = l.length ∧ (strKeys D0).Perm (l.map fun p => ofB p.1) := by
  obtain ⟨⟨h1, rfl⟩, h2⟩ := hB
  have hl : ents.size = l.length := by rw [h1]; simp [cE]
  have hat : ∀ (j : Nat) (p : ByteArray × Int), l[j]? = some p → ∃ y : MapEntry, ents[j]? = some y ∧ y.key = .string p.1 ∧ y.born = j := by
    intro j p hp
    obtain ⟨y, a, b, _, d⟩ := h2 j (.string p.1, .val (.int .i64 p.2)) (by unfold cE; rw [List.getElem?_map, hp]; rfl)
    exact ⟨y, a, b, d⟩
  have hall : ∀ (j : Nat) (y : MapEntry), ents[j]? = some y → ∃ p, l[j]? = some p ∧ y.key = .string p.1 ∧ y.born = j := by
    intro j y hy
    have hj : j < l.length := by rw [← hl]; exact (Array.getElem?_eq_some_iff.1 hy).1
    obtain ⟨y', a, b, c⟩ := hat j _ (List.getElem?_eq_getElem hj)
    rw [hy] at a; cases a
    exact ⟨_, List.getElem?_eq_getElem hj, b, c⟩
  have hkey : ∀ p, p ∈ l → keyOf Try.prog 9 (.string p.1) = some (.string (ofB p.1)) := by
    intro p hp
    have := hs p hp
    simp [keyOf, Try.underlying9, mapKey, ofB, this]
  have hkeys : ents.toList.map (·.key) = l.map fun p => Value.string p.1 := by
    apply List.ext_getElem?
    intro j
    rw [List.getElem?_map, List.getElem?_map, Array.getElem?_toList]
    cases he : l[j]? with
    | none =>
      have : l.length ≤ j := List.getElem?_eq_none_iff.1 he
      rw [Array.getElem?_eq_none (by omega)]; rfl
    | some p =>
      obtain ⟨y, y1, y2, _⟩ := hat j p he
      rw [y1]; simp [y2]
  have hborn : ents.toList.map (·.born) = List.range ents.size := by
    apply List.ext_getElem?
    intro j
    rw [List.getElem?_map, Array.getElem?_toList]
    by_cases hj : j < ents.size
    · obtain ⟨p, _, _, c⟩ := hall j _ (Array.getElem?_eq_getElem hj)
      rw [Array.getElem?_eq_getElem hj, List.getElem?_range hj]; simp [c]
    · rw [Array.getElem?_eq_none (by omega), List.getElem?_eq_none (by simp; omega)]; rfl
  have hrd : ∀ y, y ∈ ents.toList → ∃ p, p ∈ l ∧ y.key = .string p.1 ∧ rd Try.prog 9 RU y = some (.string (ofB p.1), .nil) := by
    intro y hy
    obtain ⟨j, hj⟩ := List.mem_iff_getElem?.1 hy
    rw [Array.getElem?_toList] at hj
    obtain ⟨p, hp, hk, _⟩ := hall j y hj
    have hpl := List.mem_of_getElem? hp
    refine ⟨p, hpl, hk, ?_⟩
    obtain ⟨yk, yv, yb⟩ := y
    simp only at hk
    subst hk
    exact rd_mk (yv := (.nil, [])) (hkey p hpl) rfl
  have hF : Fit Try.prog 9 RU ents ents.size := by
    refine ⟨by rw [hl]; simp only [maxLen]; omega, ⟨fun y hy => ?_, ?_, ?_⟩, fun y hy => ?_⟩
    · have : y.born ∈ ents.toList.map (·.born) := List.mem_map_of_mem hy
      rw [hborn] at this
      exact List.mem_range.1 this
    · rw [hborn]; exact List.nodup_range
    · rw [hkeys]
      have h3 : (l.map fun p => Value.string p.1) = (l.map (·.1)).map Value.string := by rw [List.map_map]; rfl
      rw [h3]
      exact List.pairwise_map.2 (List.Pairwise.imp (fun {a b} h e => h (by cases e; rfl)) hn)
    · obtain ⟨p, _, _, h⟩ := hrd y hy
      exact ⟨_, h⟩
  refine ⟨.map ((ents.toList.map (rg Try.prog 9 RU)).foldr DataW.insert []), ⟨ents, ents.size, hb, hF, Nat.le_refl _, rfl⟩, ?_, ?_⟩
  · show ((ents.toList.map (rg Try.prog 9 RU)).foldr DataW.insert []).length = l.length
    rw [(sorted_perm _).length_eq, List.length_map, Array.length_toList, hl]
  · show (((ents.toList.map (rg Try.prog 9 RU)).foldr DataW.insert []).map fun p => strOf p.1).Perm _
    refine ((sorted_perm _).map _).trans ?_
    rw [List.map_map]
    have : ents.toList.map ((fun p => strOf p.1) ∘ rg Try.prog 9 RU) = l.map fun p => ofB p.1 := by
      have e1 : ents.toList.map ((fun p => strOf p.1) ∘ rg Try.prog 9 RU) = (ents.toList.map (·.key)).map fun v => match v with | .string b => ofB b | _ => [] := by
        rw [List.map_map]
        refine List.map_congr_left fun y hy => ?_
        obtain ⟨p, _, hk, hr⟩ := hrd y hy
        simp only [Function.comp, rg_of hr, hk]; rfl
      rw [e1, hkeys, List.map_map]; rfl
    rw [this]
theorem sortsS (m : Nat) : AnyZ.SortsIn Try.prog laySorted_ren Fence.wide m :=
  ⟨fun blk off cap ss W hH hblk hsz => callsIn_wide.2 (Go.Proofs.Any.slices_Sort_string layS blk off cap ss W hH hblk hsz), fun p cap W => callsIn_wide.2 (Go.Proofs.Any.slices_Sort_string_none layS p cap W)⟩
theorem sortedKeys_spec (l : CL) (hn : (l.map (·.1)).Nodup) (hlen : l.length ≤ 1000) (hs : ∀ p, p ∈ l → p.1.size ≤ maxLen) : Spec Try.prog GT 50 [.fn 62 [.ptr 0 0 0]] [.cells 71 1 [.map 1], .map (cE l)] (fun r ho => r = strsV ((l.map fun p => ofB p.1).mergeSort leB) ∧ ho = [some (.cells 71 1 [.map 1]), some (.map (cE l))]) := by
  intro M F ρ vs w hG hH hsz hargs hfr
  obtain ⟨u, hu, hv⟩ := hargs 0 _ rfl
  obtain ⟨cs, rfl, hcs, hc⟩ := fn_case hv
  obtain ⟨p, hp, hpr⟩ := hc 0 _ rfl
  have hvs : vs = #[.func (.func 62) #[] cs] := by
    apply Array.ext_getElem?; intro i
    have hsz : vs.size = 1 := hsz
    match i with
    | 0 => rw [hu]; rfl
    | n + 1 => rw [Array.getElem?_eq_none (by omega), Array.getElem?_eq_none (by simp)]
  have hcs2 : cs = #[p] := by
    apply Array.ext_getElem?; intro i
    have hcs : cs.size = 1 := hcs
    match i with
    | 0 => rw [hp]; rfl
    | n + 1 => rw [Array.getElem?_eq_none (by omega), Array.getElem?_eq_none (by simp)]
  subst hvs; subst hcs2
  cases hpr with
  | ptr _ _ _ x hx =>
    obtain ⟨x', hx', hr⟩ := hH.live 0 _ rfl
    rw [hx] at hx'; obtain rfl := Option.some.inj hx'
    rcases hr with ⟨_, hg⟩ | ⟨h0, h1, h2, o, h3, h4⟩
    · simp [Blk.ghost] at hg
    cases o with
    | cells cur T fz =>
      obtain ⟨rfl, rfl, k1, k2, k3, k4⟩ := h4
      obtain ⟨sv, s1, s2⟩ := k4 0 _ rfl
      have hBs := (Array.getElem?_eq_some_iff.1 h3).1
      obtain ⟨z, hz, rfl⟩ : ∃ z, ρ 1 = some z ∧ sv = .map (some z.b) := by
        cases s2 with | map _ z hz => exact ⟨z, hz, rfl⟩
      have hcell : w.cell? ⟨x.b, 0, none⟩ = some (.map (some z.b)) := by simp [World.cell?, h3, s1]
      obtain ⟨z', hz', hr⟩ := hH.live 1 _ rfl
      rw [hz] at hz'; obtain rfl := Option.some.inj hz'
      rcases hr with ⟨_, hg⟩ | ⟨_, _, _, o2, g3, g4⟩
      · simp [Blk.ghost] at hg
      cases o2 with
      | map ents cl =>
        obtain ⟨D0, hown, hsize, hperm⟩ := owns_cE hn hlen hs g3 g4
        have hoff : (0 * x.k + 0) = 0 := by omega
        rw [hoff]
        have hseq : SeqGives Fence.wide 2 Try.prog 62 #[.pointer (some ⟨x.b, 0, none⟩)] encStr (fun ss => ss.Perm (strKeys D0)) (Maps.size D0) w :=
          AnyZ.keys_gives (ρ := layKeys_ren) { layKeys with } Fence.wide _ trivial rfl (by omega) x.b z.b _ D0 _ hBs hcell hown
        refine ((callsIn_wide (n := 5)).1 (AnyZ.sorted_in laySorted Fence.wide 5 trivial trivial trivial trivial rfl (by omega) (sortsS _) (enters_of Try.func61 (by kernel_rfl) rfl) 62 #[.pointer (some ⟨x.b, 0, none⟩)] trivial (enters_of Try.func62 (by kernel_rfl) rfl) _ _ (by rw [hsize]; simp only [maxLen]; omega) (by rw [hsize]; omega) _ hseq)).mono ?_
        rintro e w' ⟨v, ss, rfl, hS, hrow, hnil, hbl⟩
        obtain ⟨b1, b2⟩ := hH.below hbl
        have hsort : ss.mergeSort leB = (l.map fun p => ofB p.1).mergeSort leB := mergeSort_of_perm (hS.trans hperm)
        refine ⟨_, ρ, _, _, v, rfl, b1, Names.le_refl _, ?_, b2, ?_, ⟨hbl.os, hbl.tape, hbl.output, hbl.size⟩, rfl, rfl⟩
        · refine .d _ _ ?_
          rw [← hsort]
          refine strs_own ?_
          rw [List.length_mergeSort]; exact hrow
        · rfl
      | _ => exact g4.elim
    | _ => exact h4.elim
end Go.Proofs.Ytlhncpbcbpdcfaa.Nice
