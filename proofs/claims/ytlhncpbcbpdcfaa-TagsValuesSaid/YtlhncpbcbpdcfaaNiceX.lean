/- Ranges over a map whose entries own blocks: the iterator, a step of it, the round's key and value. -/
import Derived.Test.YtlhncpbcbpdcfaaNiceW
import Derived.Maps.RangeRun
namespace Go.Proofs.Ytlhncpbcbpdcfaa.Nice
open Go
set_option linter.unusedVariables false
set_option linter.unusedSimpArgs false

/-- A slice's value of which only the length is told. -/
def lenP (L : Nat) : MP := ⟨fun _ v => ∃ a c, v = .slice a L c, fun _ _ _ _ h => h, fun _ v h => by obtain ⟨a, c, rfl⟩ := h; rfl⟩
def lenV (L : Nat) : SV := .d (.pr (lenP L))
theorem len_of_sl {M : Imm} {ρ ρ' : Names} {n len : Nat} {v : Value} (h : VR M ρ (.sl n 0 len) v) : VR M ρ' (lenV len) v := by
  cases h with
  | sl => exact pr_mk ⟨_, _, rfl⟩
  | sl0 => exact pr_mk ⟨_, _, rfl⟩

theorem iter_of {M F : Imm} {ρ : Names} {h : Heap} {w : World} (H : HR M F ρ h w) {n : Nat} {m : SV} {since : Nat} {seen : List Nat} (hn : h n = some (.iter m since seen)) {x : Own} (hx : ρ n = some x) :
    0 < x.R ∧ M x.b = none ∧ ∃ mp seen', w.heap[x.b]? = some (.mapIter mp since seen' since) ∧ VR M ρ m (.map mp) ∧ seen'.toList = seen := by
  obtain ⟨x', hx', hr⟩ := H.live n _ hn
  rw [hx] at hx'; obtain rfl := Option.some.inj hx'
  rcases hr with ⟨_, hg⟩ | ⟨h0, h1, h2, o, h3, h4⟩
  · simp [Blk.ghost] at hg
  · cases o with
    | mapIter mp s' seen' cl =>
      obtain ⟨g1, rfl, g3, rfl⟩ := h4
      exact ⟨h0, h1, mp, seen', h3, g1, g3⟩
    | _ => exact h4.elim
theorem map_val {M : Imm} {ρ : Names} {n : Nat} {mp : Option Nat} (h : VR M ρ (.map n) (.map mp)) : ∃ x, ρ n = some x ∧ mp = some x.b := by
  cases h with | map _ x hx => exact ⟨x, hx, rfl⟩

theorem range_ok {C : Ctx} {o : Oper} {nm : Nat} {v : Operand → SV} {t kt el : TypeId} {y : Operand} (ho : o.op = .range t y) (ht : C.P.underlying t = some (.map kt el)) {n L : Nat} {S : List Nat} {es : Fam} (hy : v y = .map n) (hL : es.es.length = L) :
    OpOK C o nm v [(n, .fam S es)] (fun x wr => x = .ptr nm 0 0 ∧ wr = [(nm, some (.iter (.map n) L []))]) := by
  refine ok_value fun M F ρ a h w hv hH hbs hfr => ?_
  have e1 := hv y (by rw [ho]; simp [Op.operands])
  rw [hy] at e1
  have hn := hbs _ (List.mem_singleton.2 rfl)
  obtain ⟨x, hx, hmv⟩ : ∃ x, ρ n = some x ∧ a.eval y = .map (some x.b) := by
    generalize a.eval y = q at e1
    cases e1 with | map _ x hx => exact ⟨x, hx, rfl⟩
  obtain ⟨_, _, _, ents, cl, ho1, hsz, _⟩ := hH.famObj hn hx
  obtain ⟨rfl, _⟩ := hH.famBorn hn hx ho1
  obtain ⟨ρ', k1, k2, k3, k4⟩ := new_block hH hfr 1 1 (by decide) (.iter (.map n) L []) (.mapIter (some x.b) ents.size #[] ents.size) (fun ρ' hρ' => ⟨.map n x (hρ' _ _ hx), by rw [hsz, hL], rfl, by rw [hsz, hL]⟩)
  refine ⟨ρ', .pointer (some ⟨w.heap.size, 0, none⟩), _, k1, k2, ?_, ?_, k4, Same.alloc _ _⟩
  · simp only [execOp, ho, hmv, run_range_map w t kt el x.b ents ents.size ht ho1, Sem.run_bind, Result.andThen_ok, Sem.run_pure]
  · have := VR.ptr (M := M) nm 0 0 _ k3
    simpa using this

theorem setBlock_heap (w : World) (r : Nat) (o : Obj) (b : Nat) : (ChangeMaps.setBlock w r o).heap[b]? = if r = b ∧ b < w.heap.size then some o else w.heap[b]? := by
  unfold ChangeMaps.setBlock
  rw [Array.getElem?_setIfInBounds]
  by_cases e : r = b
  · subst e
    by_cases h : r < w.heap.size
    · simp [h]
    · simp [h]
  · simp [e]
def nextRS (L : Nat) (seen : List Nat) (m n : Nat) : SV → List (Nat × Option Blk) → Prop := fun x wr =>
  (x = .tup [SV.b false] ∧ wr = [] ∧ ∀ j, j < L → j ∈ seen) ∨ ∃ j, j < L ∧ j ∉ seen ∧ x = .tup [SV.b true, .any, .any] ∧ wr = [(m, some (.iter (.map n) L (seen ++ [j])))]
theorem next_ok {C : Ctx} {o : Oper} {nm : Nat} {v : Operand → SV} {y : Operand} (ho : o.op = .next y false) {m n L : Nat} {seen : List Nat} {S : List Nat} {es : Fam} (hy : v y = .ptr m 0 0) (hL : es.es.length = L) :
    OpOK C o nm v [(m, .iter (.map n) L seen), (n, .fam S es)] (nextRS L seen m n) := by
  intro M F ρ a h w hv hG hH hbs hfr K Q hK
  have e1 := hv y (by rw [ho]; simp [Op.operands])
  rw [hy] at e1
  have hm := hbs _ (List.mem_cons_self ..)
  have hn := hbs _ (List.mem_cons_of_mem _ (List.mem_cons_self ..))
  simp only at hm hn
  obtain ⟨z, hz, hpv⟩ : ∃ z, ρ m = some z ∧ a.eval y = .pointer (some ⟨z.b, 0, none⟩) := by
    generalize a.eval y = q at e1
    cases e1 with | ptr _ _ _ z hz => exact ⟨z, hz, by simp⟩
  obtain ⟨z0, z1, mp, seen', q1, q2, q3⟩ := iter_of hH hm hz
  obtain ⟨x, hx, rfl⟩ := map_val q2
  obtain ⟨_, _, _, ents, cl, ho1, hsz, _⟩ := hH.famObj hn hx
  obtain ⟨rfl, hborn⟩ := hH.famBorn hn hx ho1
  have born : ∀ (j : Nat) (e : MapEntry), ents[j]? = some e → j < L ∧ e.born = j := by
    intro j e he
    have hj : j < ents.size := (Array.getElem?_eq_some_iff.1 he).1
    have hj' : j < es.es.length := by omega
    obtain ⟨e', h1, _, h3⟩ := hborn j _ (List.getElem?_eq_getElem hj')
    rw [he] at h1; cases h1
    exact ⟨by omega, h3⟩
  have hold : ∀ e ∈ ents.toList, e.born < L := by
    intro e he
    obtain ⟨j, hj⟩ := List.mem_iff_getElem?.1 he
    rw [Array.getElem?_toList] at hj
    obtain ⟨h1, h2⟩ := born j e hj
    omega
  have hcont : ∀ j, seen'.contains j = true ↔ j ∈ seen := by
    intro j; rw [← q3]; simp
  have run := run_next_at (P := C.P) w o.type z.b x.b L L seen' ents ents.size q1 ho1 hold (Nat.le_refl _)
  unfold Oper.wp
  rcases run with ⟨h0, hrun⟩ | ⟨e, he, w1, hw1, hrun⟩
  · have hx1 : (execOp a.eval o).run C.P w = .ok (.value (.tuple #[.bool false])) w := by
      simp only [execOp, ho, hpv, hrun, Sem.run_bind, Result.andThen_ok, Sem.run_pure]
    rw [hx1]
    refine hK M ρ _ [] _ w (Imm.le_refl _) (Names.le_refl _) (fun _ _ => rfl) (.inl ⟨rfl, rfl, fun j hj => ?_⟩) ?_ hH (Same.refl _)
    · have hj' : j < es.es.length := by omega
      obtain ⟨e', h1, _, h3⟩ := hborn j _ (List.getElem?_eq_getElem hj')
      by_cases hs : j ∈ seen
      · exact hs
      · exfalso
        have : e' ∈ (leftOf ents seen').toList := by
          unfold leftOf
          rw [Array.toList_filter, List.mem_filter]
          refine ⟨List.mem_of_getElem? (by rw [Array.getElem?_toList]; exact h1), ?_⟩
          rw [h3, Bool.not_eq_true']
          cases hc : seen'.contains j with
          | false => rfl
          | true => exact absurd ((hcont j).1 hc) hs
        have h00 : (leftOf ents seen') = #[] := Array.eq_empty_of_size_eq_zero h0
        rw [h00] at this
        simp at this
    · refine .tupOf _ _ rfl fun i s hs => ?_
      match i, hs with
      | 0, hs => cases hs; exact ⟨_, rfl, .d _ _ (.val _ rfl)⟩
      | k + 1, hs => simp at hs
  · have hx1 : (execOp a.eval o).run C.P w = .ok (.value (.tuple #[.bool true, e.key, e.val])) (ChangeMaps.setBlock w1 z.b (.mapIter (some x.b) L (seen'.push e.born) ents.size)) := by
      simp only [execOp, ho, hpv, hrun, Sem.run_bind, Result.andThen_ok, Sem.run_pure]
    rw [hx1]
    unfold leftOf at he
    rw [Array.toList_filter, List.mem_filter] at he
    obtain ⟨he1, he2⟩ := he
    obtain ⟨j, hj⟩ := List.mem_iff_getElem?.1 he1
    rw [Array.getElem?_toList] at hj
    obtain ⟨hjL, hjb⟩ := born j e hj
    have hjs : j ∉ seen := by
      intro hs
      rw [hjb, (hcont j).2 hs] at he2; cases he2
    have hheap : w1.heap = w.heap := by rcases hw1 with rfl | rfl <;> rfl
    have hzlt : z.b < w.heap.size := (Array.getElem?_eq_some_iff.1 q1).1
    refine hK M ρ _ [(m, some (.iter (.map n) L (seen ++ [j])))] _ _ (Imm.le_refl _) (Names.le_refl _) (fun _ _ => rfl) (.inr ⟨j, hjL, hjs, rfl, rfl⟩) ?_ ?_ ?_
    · refine .tupOf _ _ rfl fun i s hs => ?_
      match i, hs with
      | 0, hs => cases hs; exact ⟨_, rfl, .d _ _ (.val _ rfl)⟩
      | 1, hs => cases hs; exact ⟨_, rfl, .any _⟩
      | 2, hs => cases hs; exact ⟨_, rfl, .any _⟩
      | k + 3, hs => simp at hs
    · show HR M F ρ (upd h m (some _)) _
      refine hH.put m z (by rw [hm]; simp) hz z0 _ (.mapIter (some x.b) L (seen'.push e.born) ents.size) ?_ (fun b hb => ?_) ⟨q2, rfl, by rw [Array.toList_push, q3, hjb], by omega⟩ (by intro S es h; cases h) ?_
      · rw [setBlock_heap, if_pos ⟨rfl, by rw [hheap]; exact hzlt⟩]
      · rw [setBlock_heap, if_neg (fun hh => hb hh.1.symm), hheap]
      · unfold ChangeMaps.setBlock; simp only [Array.size_setIfInBounds, hheap]; exact Nat.le_refl _
    · rcases hw1 with rfl | rfl
      · exact ⟨rfl, rfl, rfl, (by unfold ChangeMaps.setBlock; simp only [Array.size_setIfInBounds]; exact Nat.le_refl _)⟩
      · exact ⟨rfl, rfl, rfl, (by unfold ChangeMaps.setBlock; simp only [Array.size_setIfInBounds]; exact Nat.le_refl _)⟩

theorem entry_ok {C : Ctx} {o : Oper} {nm : Nat} {v : Operand → SV} {y : Operand} (ho : o.op = .entry y) {m n L j : Nat} {seen : List Nat} {S : List Nat} {es : Fam} (hy : v y = .ptr m 0 0) (hL : es.es.length = L) {key : Value} {s : SV} {bl : List InB} (hj : es.at j key s bl)
    {kS u : SV} (hk : ∀ M ρ, VR M ρ kS key) (hu : ∀ M ρ ρ' x, VR M ρ s x → VR M ρ' u x) :
    OpOK C o nm v [(m, .iter (.map n) L (seen ++ [j])), (n, .fam S es)] (fun x wr => x = .tup [kS, u] ∧ wr = []) := by
  refine ok_value fun M F ρ a h w hv hH hbs hfr => ?_
  have e1 := hv y (by rw [ho]; simp [Op.operands])
  rw [hy] at e1
  have hm := hbs _ (List.mem_cons_self ..)
  have hn := hbs _ (List.mem_cons_of_mem _ (List.mem_cons_self ..))
  simp only at hm hn
  obtain ⟨z, hz, hpv⟩ : ∃ z, ρ m = some z ∧ a.eval y = .pointer (some ⟨z.b, 0, none⟩) := by
    generalize a.eval y = q at e1
    cases e1 with | ptr _ _ _ z hz => exact ⟨z, hz, by simp⟩
  obtain ⟨z0, z1, mp, seen', q1, q2, q3⟩ := iter_of hH hm hz
  obtain ⟨x, hx, rfl⟩ := map_val q2
  obtain ⟨_, _, _, ents, cl, ho1, hsz, _⟩ := hH.famObj hn hx
  obtain ⟨rfl, hborn⟩ := hH.famBorn hn hx ho1
  obtain ⟨e, he, hkey, hbj⟩ := hborn j _ hj.1
  -- the value, as the family tells it
  obtain ⟨x2, hx2, _, _, _, _, ρs, f1, _⟩ := hH.fam n S es hn
  rw [hx] at hx2; obtain rfl := Option.some.inj hx2
  obtain ⟨⟨ents2, cl2, e2, g1, g2, g3⟩, _⟩ := f1 j key s bl hj
  rw [ho1] at g1; cases g1
  rw [he] at g2; cases g2
  have hseen : seen' = (seen.toArray).push e.born := by
    apply Array.ext'
    rw [q3, hbj]; simp
  have hnd : (ents.toList.map (·.born)).Nodup := by
    have : ents.toList.map (·.born) = List.range ents.size := by
      apply List.ext_getElem?
      intro i
      rw [List.getElem?_map, Array.getElem?_toList]
      by_cases hi : i < ents.size
      · have hi' : i < es.es.length := by omega
        obtain ⟨y', y1, _, y3⟩ := hborn i _ (List.getElem?_eq_getElem hi')
        rw [y1, List.getElem?_range hi]; simp [y3]
      · rw [Array.getElem?_eq_none (by omega), List.getElem?_eq_none (by simp; omega)]; rfl
    rw [this]; exact List.nodup_range
  rw [hseen] at q1
  have hLs : L = ents.size := by omega
  have run := run_entry_at (P := C.P) w z.b x.b L seen.toArray ents ents.size e (by rw [q1, hLs]) ho1 (List.mem_of_getElem? (by rw [Array.getElem?_toList]; exact he)) hnd
  refine ⟨ρ, .tuple #[e.key, e.val], w, Names.le_refl _, fun _ _ => rfl, ?_, ?_, hH, Same.refl _⟩
  · simp only [execOp, ho, hpv, run, Sem.run_bind, Result.andThen_ok, Sem.run_pure]
  · refine .tupOf _ _ rfl fun i t ht => ?_
    match i, ht with
    | 0, ht => cases ht; exact ⟨_, rfl, by rw [hkey]; exact hk M ρ⟩
    | 1, ht => cases ht; exact ⟨_, rfl, hu M _ ρ _ g3⟩
    | k + 2, ht => simp at ht

theorem lenP_ok {C : Ctx} {o : Oper} {nm : Nat} {v : Operand → SV} {y : Operand} {t el : TypeId} (ho : o.op = .call { callee := .builtin .len, args := #[y], argTypes := #[t] }) (hu : C.P.underlying t = some (.slice el)) {L : Nat} (hy : v y = lenV L) :
    OpOK C o nm v [] (fun x wr => x = SV.i L ∧ wr = []) := by
  refine ok_pure fun M F ρ a h w hv hH _ => ⟨.int .i64 L, ?_, .d _ _ (.val _ rfl)⟩
  have e1 := hv y (by rw [ho]; simp [Op.operands, Call.operands])
  rw [hy] at e1
  obtain ⟨b, c, hq⟩ := pr_case e1
  have hr : (Builtin.len_ #[t] o.type #[a.eval y]).run C.P w = .ok (.int .i64 L) w := by rw [hq]; simp [Builtin.len_, run_underlying hu, goInt]
  unfold execOp
  simp only [ho, resolve, invoke, builtin, Sem.run_bind, Sem.run_pure, Result.andThen_ok, List.map_toArray, List.map_cons, List.map_nil, hr]
/-- A step of an iterator, in the text's order: all has been seen, or an entry that has not been. -/
theorem sNext {C : Ctx} {ops : List Oper} {i : Nat} {o : Oper} {l : List Oper} {t : Nat → SV} {h : Heap} {nx : Nat} {K : St → Prop} {y : Operand} {m n L : Nat} {seen : List Nat} {S : List Nat} {es : Fam} (d nm i' : Nat) (hi : i + 1 = i') (hnm : nx + 8 * i = nm) (hg : o.guard = none) (hdst : o.dst = some d) (hd : Nat.blt d C.sz = true) (ho : o.op = .next y false)
    (hy : opv C t y = .ptr m 0 0) (hm : h m = some (.iter (.map n) L seen)) (hn : h n = some (.fam S es)) (hL : es.es.length = L)
    (kd : (∀ j, j < L → j ∈ seen) → wops C ops i' l ⟨upd t d (.tup [SV.b false]), h, nx⟩ none K)
    (km : ∀ j, j < L → j ∉ seen → wops C ops i' l ⟨upd t d (.tup [SV.b true, .any, .any]), upd h m (some (.iter (.map n) L (seen ++ [j]))), nx⟩ none K) : wops C ops i (o :: l) ⟨t, h, nx⟩ none K := by
  subst hi; subst hnm
  unfold wops
  refine .inr ⟨rfl, by unfold dstOK; rw [hdst]; exact hd, by unfold gOn; rw [hg]; trivial, _, _, next_ok (m := m) (n := n) (L := L) (seen := seen) (S := S) (es := es) ho hy hL, fun p hp => ?_, fun u wr hR => ?_⟩
  · rcases List.mem_cons.1 hp with rfl | hp
    · exact hm
    · rw [List.mem_singleton.1 hp]; exact hn
  · unfold St.app
    rw [hdst]
    rcases hR with ⟨rfl, rfl, hall⟩ | ⟨j, hj, hs, rfl, rfl⟩
    · exact kd hall
    · exact km j hj hs

section
variable {C : Ctx} {ops : List Oper} {i : Nat} {o : Oper} {l : List Oper} {t : Nat → SV} {h : Heap} {nx : Nat} {K : St → Prop} {y : Operand} {m n L j : Nat} {seen : List Nat} {S : List Nat} {es : Fam}
theorem sRange (n L : Nat) {S : List Nat} {es : Fam} {ty kt el : TypeId} (d nm i' : Nat) (hi : i + 1 = i') (hnm : nx + 8 * i = nm) (hg : o.guard = none) (hdst : o.dst = some d) (hd : Nat.blt d C.sz = true) (ho : o.op = .range ty y) (ht : C.P.underlying ty = some (.map kt el))
    (hy : opv C t y = .map n) (hn : h n = some (.fam S es)) (hL : es.es.length = L)
    (k : wops C ops i' l ⟨upd t d (.ptr nm 0 0), upd h nm (some (.iter (.map n) L [])), nx⟩ none K) : wops C ops i (o :: l) ⟨t, h, nx⟩ none K := by
  subst hi; subst hnm
  refine st_ok (σ := ⟨t, h, nx⟩) hg (by unfold dstOK; rw [hdst]; exact hd) (range_ok (nm := nx + 8 * i) ho ht hy hL) (fun p hp => by rw [List.mem_singleton.1 hp]; exact hn) (by simp [keysIn]) ?_
  unfold St.app; rw [hdst]; exact k
theorem sEntry (m n L j : Nat) (seen : List Nat) {S : List Nat} {es : Fam} {key : Value} {s : SV} {bl : List InB} (kS u : SV) (hj : es.at j key s bl) (hk : ∀ M ρ, VR M ρ kS key) (hu : ∀ M ρ ρ' x, VR M ρ s x → VR M ρ' u x) (d nm i' : Nat) (hi : i + 1 = i') (hnm : nx + 8 * i = nm) (hg : o.guard = none) (hdst : o.dst = some d) (hd : Nat.blt d C.sz = true) (ho : o.op = .entry y)
    (hy : opv C t y = .ptr m 0 0) (hm : h m = some (.iter (.map n) L (seen ++ [j]))) (hn : h n = some (.fam S es)) (hL : es.es.length = L)
    (k : wops C ops i' l ⟨upd t d (.tup [kS, u]), h, nx⟩ none K) : wops C ops i (o :: l) ⟨t, h, nx⟩ none K := by
  subst hi; subst hnm
  refine st_ok (σ := ⟨t, h, nx⟩) hg (by unfold dstOK; rw [hdst]; exact hd) (entry_ok (nm := nx + 8 * i) (m := m) (n := n) (L := L) (j := j) (seen := seen) (S := S) (es := es) ho hy hL hj hk hu) (fun p hp => ?_) rfl ?_
  · rcases List.mem_cons.1 hp with rfl | hp
    · exact hm
    · rw [List.mem_singleton.1 hp]; exact hn
  · unfold St.app; rw [hdst]; exact k
theorem sLenP (L : Nat) {ty el : TypeId} (d nm i' : Nat) (hi : i + 1 = i') (hnm : nx + 8 * i = nm) (hg : o.guard = none) (hdst : o.dst = some d) (hd : Nat.blt d C.sz = true) (ho : o.op = .call { callee := .builtin .len, args := #[y], argTypes := #[ty] }) (ht : C.P.underlying ty = some (.slice el))
    (hy : opv C t y = lenV L) (k : wops C ops i' l ⟨upd t d (SV.i L), h, nx⟩ none K) : wops C ops i (o :: l) ⟨t, h, nx⟩ none K := by
  subst hi; subst hnm
  refine st_ok (σ := ⟨t, h, nx⟩) hg (by unfold dstOK; rw [hdst]; exact hd) (lenP_ok (nm := nx + 8 * i) ho ht hy) (fun p hp => by cases hp) rfl ?_
  unfold St.app; rw [hdst]; exact k
end
end Go.Proofs.Ytlhncpbcbpdcfaa.Nice
