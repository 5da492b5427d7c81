/- Two laws at the operation: append of one number, and of a slice that reads as a list, to a row of the call's own. No program is in sight. -/
import Derived.Test.YtempedbpieaggaaDoorOwn
import Derived.WalkKit
import Derived.RegionTactic
import Derived.Deep.AppendLies
namespace Go.Proofs.YtempedbpieaggaaDoor
open Go Go.RowKit
set_option linter.unusedVariables false
section
variable {P : Program} (w : World)

theorem run_append_of_nil (base : Nat) (t ty e : TypeId) (i : TypeInfo) (size : Nat) (ht : P.underlying t = some (.slice e)) (hi : P.info? e = some i)
    (v : Value) (n : Nat) (xs : List Value) (hown : w.ownsRow base e size v n xs) (c : Nat) : (Builtin.append_ #[t, t] ty #[v, .slice none 0 c]).run P w = .ok v w := by
  rcases hown.2 with ⟨rfl, rfl⟩ | ⟨g, cap, cur, rfl, _, _, hnc, _⟩
  · simp [Builtin.append_, run_underlying ht, sizeOf, typeInfo, hi, Builtin.lenOf, Builtin.firstCells]
  · simp [Builtin.append_, run_underlying ht, sizeOf, typeInfo, hi, Builtin.lenOf, Builtin.firstCells, hnc, storeCells]

theorem run_append_ints (k : IntKind) (base : Nat) (t ty e : TypeId) (i : TypeInfo) (bytes : Nat) (ht : P.underlying t = some (.slice e)) (hi : P.info? e = some i) (hz : i.zero = some (.int k 0))
    (hsize : i.size = 1) (hby : i.bytes = bytes)
    (v : Value) (l : List Int) (hown : OwnI k e w base v l) (B : Nat) (a : Option Addr) (c : Nat) (news : List Int) (hr : Reads k w B a news)
    (h63 : l.length + news.length ≤ maxLen) (hbytes : (l.length + news.length) * bytes ≤ 140737488355328) (hbase : base ≤ w.heap.size) :
    ∃ v' w', (Builtin.append_ #[t, t] ty #[v, .slice a news.length c]).run P w = .ok v' w' ∧ OwnI k e w' base v' (l ++ news) ∧ Moved w w' v v' := by
  rcases a with _ | ad
  · have hn : news = [] := Classical.byContradiction fun hne => by obtain ⟨b, off, h, _⟩ := hr.2.2 hne; cases h
    subst hn
    exact ⟨v, w, run_append_of_nil w base t ty e i 1 ht hi v _ _ hown.1 c, by simpa using hown, Moved.refl w v⟩
  · have hcells : ∀ j u, (news.map (Value.int k))[j]? = some u → w.cell? (ad.add j) = some u := by
      intro j u hu
      rw [List.getElem?_map] at hu
      rcases Nat.lt_or_ge j news.length with hj | hj
      · obtain ⟨b, off, h, hb, hc⟩ := hr.at_ (by omega)
        injection h with h
        subst h
        rw [List.getElem?_eq_getElem hj] at hu
        simp only [Option.map_some, Option.some.injEq] at hu
        have := hc j hj
        rw [← hu, show news[j] = news.getD j 0 by simp [List.getD, List.getElem?_eq_getElem hj], ← this]
        by_cases h0 : j = 0
        · subst h0; simp [Addr.add]
        · simp [Addr.add, h0]
      · rw [List.getElem?_eq_none hj] at hu; cases hu
    obtain ⟨v', w', hrun, h2, h3, _, h5⟩ := run_append_own_at (P := P) w base t ty e i (.int k 0) 1 bytes ht hi hz hsize hby rfl (by decide) v _ _ hown.1 ad news.length c (news.map (Value.int k)) (by simp) hcells (ints_oneCell k news) h63 hbytes hbase
    refine ⟨v', w', hrun, OwnI.of_append h2 rfl hown.2 hr.2.1, h3, ?_⟩
    exact h5.imp id (fun h => ⟨_, h, Nat.le_refl _⟩)

theorem wp_append_ints {o : Oper} {a : Act} {K : Act → World → Prop} {Q : Exit → Act → World → Prop} (s x : Operand) (t : TypeId)
    (ho : o.op = .call { callee := .builtin .append, args := #[s, x], argTypes := #[t, t] })
    (k : IntKind) (base : Nat) (e : TypeId) (i : TypeInfo) (bytes : Nat) (ht : P.underlying t = some (.slice e)) (hi : P.info? e = some i) (hz : i.zero = some (.int k 0))
    (hsize : i.size = 1) (hby : i.bytes = bytes) (v : Value) (l : List Int) (hs : a.eval s = v) (hown : OwnI k e w base v l) (B : Nat) (A : Option Addr) (m c : Nat) (news : List Int) (hx : a.eval x = .slice A m c) (hm : m = news.length) (hr : Reads k w B A news)
    (h63 : l.length + news.length ≤ maxLen) (hbytes : (l.length + news.length) * bytes ≤ 140737488355328) (hbase : base ≤ w.heap.size)
    (h : ∀ v' w', OwnI k e w' base v' (l ++ news) → Moved w w' v v' → K (a.put o.dst v') w') : o.wp P a w K Q := by
  subst hm
  obtain ⟨v', w', hrun, h2, h3⟩ := run_append_ints (P := P) w k base t o.type e i bytes ht hi hz hsize hby v l hown B A c news hr h63 hbytes hbase
  unfold Oper.wp execOp
  simp only [ho, resolve, invoke, builtin, Sem.run_bind, Sem.run_pure, Result.andThen_ok, List.map_toArray, List.map_cons, List.map_nil, hs, hx, hrun]
  exact h v' w' h2 h3
theorem wpList_append_ints {ops : Array Oper} {rest : List Oper} {o : Oper} {a : Act} {Q : Exit → Act → World → Prop} (hgd : o.guard = none) (s x : Operand) (t : TypeId)
    (ho : o.op = .call { callee := .builtin .append, args := #[s, x], argTypes := #[t, t] })
    (k : IntKind) (base : Nat) (e : TypeId) (i : TypeInfo) (bytes : Nat) (ht : P.underlying t = some (.slice e)) (hi : P.info? e = some i) (hz : i.zero = some (.int k 0))
    (hsize : i.size = 1) (hby : i.bytes = bytes) (v : Value) (l : List Int) (hs : a.eval s = v) (hown : OwnI k e w base v l) (B : Nat) (A : Option Addr) (m c : Nat) (news : List Int) (hx : a.eval x = .slice A m c) (hm : m = news.length) (hr : Reads k w B A news)
    (h63 : l.length + news.length ≤ maxLen) (hbytes : (l.length + news.length) * bytes ≤ 140737488355328) (hbase : base ≤ w.heap.size)
    (h : ∀ v' w', OwnI k e w' base v' (l ++ news) → Moved w w' v v' → wpList P ops Q rest (a.put o.dst v') w') : wpList P ops Q (o :: rest) a w :=
  wpList_plain hgd fun _ hK => wp_append_ints w s x t ho k base e i bytes ht hi hz hsize hby v l hs hown B A m c news hx hm hr h63 hbytes hbase fun v' w' h2 h3 => hK _ _ (h v' w' h2 h3)
theorem step_append_ints {ops : Array Oper} {o : Oper} {a : Act} {K : Act → World → Prop} {Q : Exit → Act → World → Prop} {E : Prop} (hgd : o.guard = none) (s x : Operand) (t : TypeId)
    (ho : o.op = .call { callee := .builtin .append, args := #[s, x], argTypes := #[t, t] })
    (k : IntKind) (base : Nat) (e : TypeId) (i : TypeInfo) (bytes : Nat) (ht : P.underlying t = some (.slice e)) (hi : P.info? e = some i) (hz : i.zero = some (.int k 0))
    (hsize : i.size = 1) (hby : i.bytes = bytes) (v : Value) (l : List Int) (hs : a.eval s = v) (hown : OwnI k e w base v l) (B : Nat) (A : Option Addr) (m c : Nat) (news : List Int) (hx : a.eval x = .slice A m c) (hm : m = news.length) (hr : Reads k w B A news)
    (h63 : l.length + news.length ≤ maxLen) (hbytes : (l.length + news.length) * bytes ≤ 140737488355328) (hbase : base ≤ w.heap.size)
    (h : ∀ v' w', OwnI k e w' base v' (l ++ news) → Moved w w' v v' → K (a.put o.dst v') w') :
    if Region.wanted o (yielded ops a.tmps) = true then Oper.wp P o a w K Q else E := by
  have hw : Region.wanted o (yielded ops a.tmps) = true := by simp [Region.wanted, hgd]
  rw [if_pos hw]
  exact wp_append_ints w s x t ho k base e i bytes ht hi hz hsize hby v l hs hown B A m c news hx hm hr h63 hbytes hbase h
theorem OwnI.form {k : IntKind} {e : TypeId} {w : World} {base : Nat} {v : Value} {l : List Int} (h : OwnI k e w base v l) (h0 : 0 < l.length) : ∃ g cap, v = .slice (some ⟨g, 0, none⟩) l.length cap := by
  rcases h.1.2 with ⟨_, hn⟩ | ⟨g, cap, _, hv, _⟩
  · omega
  · exact ⟨g, cap, hv⟩
theorem wpList_append_form {ops : Array Oper} {rest : List Oper} {o : Oper} {a : Act} {Q : Exit → Act → World → Prop} (hgd : o.guard = none) (s x : Operand) (t : TypeId)
    (ho : o.op = .call { callee := .builtin .append, args := #[s, x], argTypes := #[t, t] })
    (k : IntKind) (base : Nat) (e : TypeId) (i : TypeInfo) (bytes : Nat) (ht : P.underlying t = some (.slice e)) (hi : P.info? e = some i) (hz : i.zero = some (.int k 0))
    (hsize : i.size = 1) (hby : i.bytes = bytes) (v : Value) (l : List Int) (hs : a.eval s = v) (hown : OwnI k e w base v l) (B : Nat) (A : Option Addr) (m c : Nat) (news : List Int) (hx : a.eval x = .slice A m c) (hm : m = news.length) (hr : Reads k w B A news)
    (h63 : l.length + news.length ≤ maxLen) (hbytes : (l.length + news.length) * bytes ≤ 140737488355328) (hbase : base ≤ w.heap.size) (N : Nat) (hN : (l ++ news).length = N) (h0 : 0 < N)
    (h : ∀ g cap w', OwnI k e w' base (.slice (some ⟨g, 0, none⟩) N cap) (l ++ news) → Moved w w' v (.slice (some ⟨g, 0, none⟩) N cap) → wpList P ops Q rest (a.put o.dst (.slice (some ⟨g, 0, none⟩) N cap)) w') : wpList P ops Q (o :: rest) a w :=
  wpList_append_ints w hgd s x t ho k base e i bytes ht hi hz hsize hby v l hs hown B A m c news hx hm hr h63 hbytes hbase fun v' w' h2 h3 => by
    subst hN
    obtain ⟨g, cap, rfl⟩ := h2.form h0
    exact h g cap w' h2 h3
/-- One number that lies in a new block of its own reads so. -/
theorem reads_one (k : IntKind) (t : TypeId) (x : Int) (hx : (Lit.int k x).wf = true) (w : World) : Reads k (w.alloc (.cells #[.int k x] t)) (w.heap.size + 1) (some ⟨w.heap.size, 0, none⟩) [x] := by
  refine ⟨by simp [maxLen], by simpa using hx, fun _ => ⟨w.heap.size, 0, rfl, by omega, fun i hi => ?_⟩⟩
  have : i = 0 := by simpa using hi
  subst this
  simp
end
end Go.Proofs.YtempedbpieaggaaDoor
