/- Arrays in a struct: a cell at a place that is not written out; an array seen as a slice; copy onto it; a pointer held against nil. -/
import Derived.Test.YtlhncpbcbpdcfaaNiceQ
import Derived.Laws.CopyRow
namespace Go.Proofs.Ytlhncpbcbpdcfaa.Nice
open Go
set_option linter.unusedVariables false
set_option linter.unusedSimpArgs false

theorem cellsAt_one {m i c : Nat} {h : Heap} {ty k : Nat} {xs : List SV} {y : SV} (hm : h m = some (.cells ty k xs)) (hy : xs[i * k + c]? = some y) : cellsAt (.ptr m i c) h 1 = some (True, [(m, .cells ty k xs)], [y]) := by
  have hlt := (List.getElem?_eq_some_iff.1 hy).1
  have e : (xs.drop (i * k + c)).take 1 = [y] := by
    rw [List.drop_eq_getElem_cons hlt, List.take_succ_cons, List.take_zero]
    congr 1
    exact (List.getElem?_eq_some_iff.1 hy).2
  simp only [cellsAt, hm, e]
  rfl
theorem load_cell {C : Ctx} {o : Oper} {nm : Nat} {v : Operand → SV} {h : Heap} {t : TypeId} {a : Operand} {m i c ty k : Nat} {xs : List SV} {y : SV} (ho : o.op = .load t a) (ha : v a = .ptr m i c) (hm : h m = some (.cells ty k xs)) (hag : isAggB C.P t = some false) (hy : xs[i * k + c]? = some y) :
    OpOK C o nm v [(m, .cells ty k xs)] (fun x z => x = y ∧ z = []) := by
  have e : loadS C.P t (v a) h = some (True, [(m, .cells ty k xs)], y) := by
    unfold loadS; rw [hag, ha, cellsAt_one hm hy]
  have e2 : sop C nm o v h = some (True, [(m, .cells ty k xs)], y, []) := by
    unfold sop; rw [ho]; simp only [loadOp, e]
  exact (sop_ok e2 trivial).1
theorem store_cell {C : Ctx} {o : Oper} {nm : Nat} {v : Operand → SV} {h : Heap} {t : TypeId} {a q : Operand} {m i c ty k : Nat} {xs xs' : List SV} {y : SV} (ho : o.op = .store t a q) (ha : v a = .ptr m i c) (hq : v q = y) (hm : h m = some (.cells ty k xs)) (hsz : (C.P.info? t).map (·.size) = some 1) (hf : flat y = some [y]) (h1 : allOne [y] = true) (hlt : i * k + c < xs.length) (hx : xs.set (i * k + c) y = xs') :
    OpOK C o nm v [(m, .cells ty k xs)] (fun x z => x = .any ∧ z = [(m, some (.cells ty k xs'))]) := by
  have e0 : xs.take (i * k + c) ++ [y] ++ xs.drop (i * k + c + 1) = xs' := by
    rw [← hx, List.set_eq_take_append_cons_drop, if_pos hlt]; simp
  have e1 : storeAtS (.ptr m i c) [y] h = some (True, [(m, .cells ty k xs)], [(m, some (.cells ty k xs'))]) := by
    simp only [storeAtS, hm, List.length_singleton, e0]
    rw [if_pos (by rw [Nat.ble_eq]; omega)]
  obtain ⟨inf, hi, hsz⟩ : ∃ inf, C.P.info? t = some inf ∧ inf.size = 1 := by
    cases hi : C.P.info? t with
    | none => rw [hi] at hsz; cases hsz
    | some inf => rw [hi] at hsz; exact ⟨inf, rfl, by simpa using hsz⟩
  have e2 : sop C nm o v h = some (True, [(m, .cells ty k xs)], .any, [(m, some (.cells ty k xs'))]) := by
    unfold sop; rw [ho]; simp only [storeS, hi, ha, hq, hf, h1, hsz, e1]; rfl
  exact (sop_ok e2 trivial).1

section
variable {C : Ctx} {ops : List Oper} {i : Nat} {o : Oper} {l : List Oper} {t : Nat → SV} {h h' : Heap} {nx : Nat} {K : St → Prop} {acc : List FP}
theorem sLd {ty tb kb : Nat} {a : Operand} {m r c : Nat} {xs : List SV} {y : SV} (hy : xs[r * kb + c]? = some y) (d nm i' : Nat) (hi : i + 1 = i') (hnm : nx + 8 * i = nm) (hg : o.guard = none) (hdst : o.dst = some d) (hd : Nat.blt d C.sz = true) (ho : o.op = .load ty a) (ha : opv C t a = .ptr m r c) (hm : h m = some (.cells tb kb xs)) (hag : isAggB C.P ty = some false)
    (k : wops C ops i' l ⟨upd t d y, h, nx⟩ none K) : wops C ops i (o :: l) ⟨t, h, nx⟩ none K := by
  subst hi; subst hnm
  refine st_ok (σ := ⟨t, h, nx⟩) hg (by unfold dstOK; rw [hdst]; exact hd) (load_cell ho ha hm hag hy) (fun p hp => by rw [List.mem_singleton.1 hp]; exact hm) rfl ?_
  unfold St.app; rw [hdst]; exact k
theorem dLd {ty tb kb : Nat} {a : Operand} {m r c : Nat} {xs : List SV} {y : SV} (hy : xs[r * kb + c]? = some y) (d nm i' : Nat) (hi : i + 1 = i') (hnm : nx + 8 * i = nm) (hg : o.guard = none) (hdst : o.dst = some d) (hd : Nat.blt d C.sz = true) (ho : o.op = .load ty a) (ha : opv C t a = .ptr m r c) (hm : h m = some (.cells tb kb xs)) (hag : isAggB C.P ty = some false)
    (k : wops C ops i' l ⟨upd t d y, h, nx⟩ (some (acc ++ [([m], [])])) K) : wops C ops i (o :: l) ⟨t, h, nx⟩ (some acc) K := by
  subst hi; subst hnm
  refine st_ok (σ := ⟨t, h, nx⟩) hg (by unfold dstOK; rw [hdst]; exact hd) (load_cell ho ha hm hag hy) (fun p hp => by rw [List.mem_singleton.1 hp]; exact hm) rfl ?_
  unfold St.app; rw [hdst]; exact k
theorem sSt {ty tb kb : Nat} {a q : Operand} {m r c : Nat} {xs xs' : List SV} {y : SV} (hx : xs.set (r * kb + c) y = xs') (hlt : r * kb + c < xs.length) (nm i' : Nat) (hi : i + 1 = i') (hnm : nx + 8 * i = nm) (hg : o.guard = none) (hdst : o.dst = none) (ho : o.op = .store ty a q) (ha : opv C t a = .ptr m r c) (hq : opv C t q = y) (hm : h m = some (.cells tb kb xs)) (hsz : (C.P.info? ty).map (·.size) = some 1) (hf : flat y = some [y]) (h1 : allOne [y] = true)
    (k : wops C ops i' l ⟨t, upd h m (some (.cells tb kb xs')), nx⟩ none K) : wops C ops i (o :: l) ⟨t, h, nx⟩ none K := by
  subst hi; subst hnm
  refine st_ok (σ := ⟨t, h, nx⟩) hg (by unfold dstOK; rw [hdst]) (store_cell ho ha hq hm hsz hf h1 hlt hx) (fun p hp => by rw [List.mem_singleton.1 hp]; exact hm) (by simp [keysIn]) ?_
  unfold St.app; rw [hdst]; exact k
theorem dSt {ty tb kb : Nat} {a q : Operand} {m r c : Nat} {xs xs' : List SV} {y : SV} (hx : xs.set (r * kb + c) y = xs') (hlt : r * kb + c < xs.length) (nm i' : Nat) (hi : i + 1 = i') (hnm : nx + 8 * i = nm) (hg : o.guard = none) (hdst : o.dst = none) (ho : o.op = .store ty a q) (ha : opv C t a = .ptr m r c) (hq : opv C t q = y) (hm : h m = some (.cells tb kb xs)) (hsz : (C.P.info? ty).map (·.size) = some 1) (hf : flat y = some [y]) (h1 : allOne [y] = true)
    (k : wops C ops i' l ⟨t, upd h m (some (.cells tb kb xs')), nx⟩ (some (acc ++ [([m], [m])])) K) : wops C ops i (o :: l) ⟨t, h, nx⟩ (some acc) K := by
  subst hi; subst hnm
  refine st_ok (σ := ⟨t, h, nx⟩) hg (by unfold dstOK; rw [hdst]) (store_cell ho ha hq hm hsz hf h1 hlt hx) (fun p hp => by rw [List.mem_singleton.1 hp]; exact hm) (by simp [keysIn]) ?_
  unfold St.app; rw [hdst]; exact k

/-- An array of a block, seen as a slice. -/
theorem sArr {ty el len : Nat} {y : Operand} {m c : Nat} (d nm i' : Nat) (hi : i + 1 = i') (hnm : nx + 8 * i = nm) (hg : o.guard = none) (hdst : o.dst = some d) (hd : Nat.blt d C.sz = true) (ho : o.op = .slice ty y none none none) (hy : opv C t y = .ptr m 0 c) (ht : C.P.underlying ty = some (.array len el)) (hsz : (C.P.info? el).isSome = true)
    (k : wops C ops i' l ⟨upd t d (.cs m c len), h, nx⟩ none K) : wops C ops i (o :: l) ⟨t, h, nx⟩ none K := by
  subst hi; subst hnm
  have hok : OpOK C o (nx + 8 * i) (opv C t) [] (fun x z => x = .cs m c len ∧ z = []) := by
    refine ok_pure fun M F ρ a hh w hv hH _ => ?_
    have e1 := hv y (by rw [ho]; simp [Op.operands]); rw [hy] at e1
    generalize hq : a.eval y = q at e1
    cases e1 with
    | ptr _ _ _ x hx =>
      obtain ⟨inf, hinf⟩ := Option.isSome_iff_exists.1 hsz
      refine ⟨.slice (some ⟨x.b, c, none⟩) len len, ?_, .cs _ _ _ x _ hx (Nat.le_refl _)⟩
      unfold execOp
      by_cases h0 : len = 0
      · subst h0
        simp [ho, hq, Instr.sliceAt, run_underlying ht, Instr.sureAddr, Instr.sliceBounds, sizeOf, typeInfo, hinf]
      · simp [ho, hq, Instr.sliceAt, run_underlying ht, Instr.sureAddr, Instr.sliceBounds, sizeOf, typeInfo, hinf, h0, Addr.add_lit]
  refine st_ok (σ := ⟨t, h, nx⟩) hg (by unfold dstOK; rw [hdst]; exact hd) hok (fun p hp => by simp at hp) rfl ?_
  unfold St.app; rw [hdst]; exact k
end
/-- 'copy' of data onto cells of a block. -/
def copyL (f : Nat → Nat → D) (n : Nat) : List SV := (List.range n).map fun j => SV.d (f j 0)
theorem copyL_get (f : Nat → Nat → D) (n j : Nat) (h : j < n) : (copyL f n)[j]? = some (.d (f j 0)) := by simp [copyL, h]
theorem upd_self {α : Type} (h : Nat → α) (n : Nat) (b : α) (e : h n = b) : upd h n b = h := by
  funext k; rw [upd_eq]; split
  · next q => subst q; exact e.symm
  · rfl
theorem run_copy_zero {P : Program} (w : World) (dT sT ty elem : TypeId) (a : Addr) (b : Option Addr) (dLen dCap cap : Nat) (hu : P.underlying dT = some (.slice elem)) (hs : ((P.info? elem).map (·.size)).isSome = true) :
    (Builtin.copy_ #[dT, sT] ty #[.slice (some a) dLen dCap, .slice b 0 cap]).run P w = .ok (goInt 0) w := by
  cases hq : P.info? elem with
  | none => simp [hq] at hs
  | some i =>
    cases b with
    | none => simp [Builtin.copy_, run_underlying hu, Builtin.lenOf, Builtin.firstCells, sizeOf, typeInfo, hq, storeCells]
    | some b =>
      have hl := run_loadCells_list (P := P) w b [] (fun j v h => by simp at h)
      simp only [List.length_nil] at hl
      simp [Builtin.copy_, run_underlying hu, Builtin.lenOf, Builtin.firstCells, sizeOf, typeInfo, hq, storeCells, hl]
theorem copy_ok {C : Ctx} {o : Oper} {nm : Nat} {v : Operand → SV} {h : Heap} {x y : Operand} {t1 t2 el m c len n ty k : Nat} {f : Nat → Nat → D} {xs : List SV} (ho : o.op = .call { callee := .builtin .copy, args := #[x, y], argTypes := #[t1, t2] }) (hx : v x = .cs m c len) (hy : v y = .d (.vec 1 n f))
    (ht : C.P.underlying t1 = some (.slice el)) (hsz : (C.P.info? el).map (·.size) = some 1) (hm : h m = some (.cells ty k xs)) (hfit : c + len ≤ xs.length) :
    OpOK C o nm v [(m, .cells ty k xs)] (fun u z => u = SV.i ((Nat.min n len : Nat) : Int) ∧ z = [(m, some (.cells ty k (xs.take c ++ copyL f (Nat.min n len) ++ xs.drop (c + Nat.min n len))))]) := by
  refine ok_value fun M F ρ a hh w hv hH hbs hfr => ?_
  have e1 := hv x (by rw [ho]; simp [Op.operands, Call.operands]); rw [hx] at e1
  have e2 := hv y (by rw [ho]; simp [Op.operands, Call.operands]); rw [hy] at e2
  have hm' : hh m = some (.cells ty k xs) := hbs _ (List.mem_singleton.2 rfl)
  generalize hq : a.eval x = q at e1
  generalize hp : a.eval y = p at e2
  cases e1 with
  | cs _ _ _ z cap hz hc =>
    obtain ⟨cur, k1, k2, k3, k4, k5, k6⟩ := hH.cells hm' hz
    cases e2 with
    | d _ _ hD =>
      cases hD with
      | vec0 _ _ ad scap =>
        refine ⟨ρ, goInt 0, w, Names.le_refl _, fun _ _ => rfl, ?_, ?_, ?_, Same.refl _⟩
        · have := run_copy_zero (P := C.P) w t1 t2 o.type el ⟨z.b, c, none⟩ ad len cap scap ht (by rw [hsz]; rfl)
          unfold execOp
          simp [ho, resolve, invoke, builtin, hq, hp, this]
        · have e0 : Nat.min 0 len = 0 := Nat.zero_min len
          rw [e0]; exact .d _ _ (.val _ rfl)
        · show HR M F ρ (upd hh m _) w
          have e0 : Nat.min 0 len = 0 := Nat.zero_min len
          rw [e0]
          have : xs.take c ++ copyL f 0 ++ xs.drop (c + 0) = xs := by simp [copyL]
          rw [this, upd_self _ _ _ hm']; exact hH
      | vec _ _ _ b oo scap cur' T fz g hb hcc hg hr =>
        have hsrc : w.heap[b]? = some (.cells cur' T fz) := hH.imm b _ hb
        have hrow := fun j (hj : j < n) => hg j 0 hj (by omega)
        let cs : List Value := (List.range (Nat.min n len)).map fun j => g j 0
        have hcsl : cs.length = Nat.min n len := by simp [cs]
        have hmin : Nat.min n len ≤ n := Nat.min_le_left _ _
        have hmin2 : Nat.min n len ≤ len := Nat.min_le_right _ _
        have hcg : ∀ j, j < Nat.min n len → cs[j]? = some (g j 0) := fun j hj => by simp [cs, hj]
        have hone : ∀ u ∈ cs, u.oneCell' = true := by
          intro u hu
          obtain ⟨j, hj, rfl⟩ := List.mem_map.1 hu
          exact (hr j 0 (by have := List.mem_range.1 hj; omega) (by omega)).one
        have hfit2 : c + cs.length ≤ cur.size := by rw [hcsl]; omega
        have hrun := run_copy_row (P := C.P) w t1 t2 o.type el z.b c len cap ⟨b, oo, none⟩ n scap cur ty cs ht hsz k1 hcsl
          (fun j u hj => by
            have hlt : j < Nat.min n len := by rw [← hcsl]; exact (List.getElem?_eq_some_iff.1 hj).1
            rw [hcg j hlt] at hj; cases hj
            have h1 := hrow j (by omega)
            rw [Addr.add_lit, cell_of_row w b _ cur' T fz hsrc, ← h1]; congr 1; omega) hfit2 hone
        refine ⟨ρ, goInt cs.length, w.setRow z.b (cur.toList.take c ++ cs ++ cur.toList.drop (c + cs.length)).toArray, Names.le_refl _, fun _ _ => rfl, ?_, ?_, ?_, ⟨rfl, rfl, rfl, by simp⟩⟩
        · unfold execOp
          simp [ho, resolve, invoke, builtin, hq, hp, hrun]
        · rw [hcsl]; exact .d _ _ (.val _ rfl)
        · show HR M F ρ (upd hh m _) _
          refine hH.put m z (by rw [hm']; simp) hz k2 _ _ (setRow_heap w z.b cur _ ty (0, 0) k1) (fun b' hb' => setRow_other w z.b b' _ hb') ?_
          have hcl : (copyL f (Nat.min n len)).length = Nat.min n len := by simp [copyL]
          have hg1 := fun j => seg_get xs (copyL f (Nat.min n len)) c j (by rw [hcl]; omega)
          have hg2 := fun j => seg_get cur.toList cs c j (by rw [Array.length_toList]; exact hfit2)
          refine ⟨rfl, rfl, k3, ?_, ?_, fun j s hs => ?_⟩
          · simp only [List.size_toArray, List.length_append, List.length_take, List.length_drop, Array.length_toList]
            rw [← k4]; omega
          · simp only [List.size_toArray, List.length_append, List.length_take, List.length_drop, Array.length_toList, hcl, hcsl]
            omega
          · rw [hcl] at hg1
            rw [hg1] at hs
            rw [List.getElem?_toArray, hg2, hcsl]
            split
            · next hj => rw [if_pos hj] at hs; rw [Array.getElem?_toList]; exact k6 j s hs
            · next hj =>
              rw [if_neg hj] at hs
              split
              · next hj2 =>
                rw [if_pos hj2] at hs
                rw [copyL_get _ _ _ (by omega)] at hs
                cases hs
                exact ⟨_, hcg _ (by omega), .d _ _ (hr _ 0 (by omega) (by omega))⟩
              · next hj2 => rw [if_neg hj2] at hs; rw [Array.getElem?_toList]; exact k6 j s hs
section
variable {C : Ctx} {ops : List Oper} {i : Nat} {o : Oper} {l : List Oper} {t : Nat → SV} {h h' : Heap} {nx : Nat} {K : St → Prop} {acc : List FP}
theorem sCopy {x y : Operand} {t1 t2 el m c len n ty kb : Nat} {f : Nat → Nat → D} {xs xs' : List SV} (hxs : xs.take c ++ copyL f (Nat.min n len) ++ xs.drop (c + Nat.min n len) = xs') (d nm i' : Nat) (hi : i + 1 = i') (hnm : nx + 8 * i = nm) (hg : o.guard = none) (hdst : o.dst = some d) (hd : Nat.blt d C.sz = true) (ho : o.op = .call { callee := .builtin .copy, args := #[x, y], argTypes := #[t1, t2] })
    (hx : opv C t x = .cs m c len) (hy : opv C t y = .d (.vec 1 n f)) (ht : C.P.underlying t1 = some (.slice el)) (hsz : (C.P.info? el).map (·.size) = some 1) (hm : h m = some (.cells ty kb xs)) (hfit : Nat.ble (c + len) xs.length = true)
    (k : wops C ops i' l ⟨upd t d (SV.i ((Nat.min n len : Nat) : Int)), upd h m (some (.cells ty kb xs')), nx⟩ none K) : wops C ops i (o :: l) ⟨t, h, nx⟩ none K := by
  subst hi; subst hnm; subst hxs
  refine st_ok (σ := ⟨t, h, nx⟩) hg (by unfold dstOK; rw [hdst]; exact hd) (copy_ok ho hx hy ht hsz hm (Nat.le_of_ble_eq_true hfit)) (fun p hp => by rw [List.mem_singleton.1 hp]; exact hm) (by simp [keysIn]) ?_
  unfold St.app; rw [hdst]; exact k
end
/-- A slice held against nil, whatever comes of it where it is empty. -/
theorem sNilQ {C : Ctx} {ops : List Oper} {i : Nat} {o : Oper} {l : List Oper} {t : Nat → SV} {h : Heap} {nx : Nat} {K : St → Prop} {ty ty' el k0 len : Nat} {f : Nat → Nat → D} {y : Operand} (d nm i' : Nat) (hi : i + 1 = i') (hnm : nx + 8 * i = nm) (hg : o.guard = none) (hdst : o.dst = some d) (hd : Nat.blt d C.sz = true) (ho : o.op = .binOp .eql ty y (.const (.slice none 0 0)) ty')
    (hy : (opv C t y).hd = some (.d (.vec k0 len f))) (ht : C.P.underlying ty = some (.slice el))
    (kk : ∀ b : Bool, (b = true → len = 0) → wops C ops i' l ⟨upd t d (SV.b b), h, nx⟩ none K) : wops C ops i (o :: l) ⟨t, h, nx⟩ none K := by
  subst hi; subst hnm
  unfold wops
  refine .inr ⟨rfl, by unfold dstOK; rw [hdst]; exact hd, by simp [gOn, hg], [], (fun u wr => ∃ b : Bool, (b = true → len = 0) ∧ u = SV.b b ∧ wr = []), ?_, (fun p hp => by cases hp), ?_⟩
  · intro M F ρ a hh w hv hG hH hbs hfr Kk Q hK
    have e1 := hv y (by rw [ho]; exact mem_ops2 (.inl rfl)); rw [SV.hd_eq hy] at e1
    have hc : a.eval (.const (.slice none 0 0)) = .slice none 0 0 := rfl
    have key : ∃ ad l c, a.eval y = .slice ad l c ∧ (ad = none → len = 0) := by
      generalize a.eval y = q at e1
      cases e1 with
      | d _ _ hD => cases hD with
        | vec0 _ _ ad cap => exact ⟨ad, 0, cap, rfl, fun _ => rfl⟩
        | vec _ _ _ b oo cap cur T fz g hb hcc hgg hr => exact ⟨_, _, _, rfl, fun e => by cases e⟩
    obtain ⟨ad, l0, c0, hs, hz⟩ := key
    have hx : (execOp a.eval o).run C.P w = .ok (.value (.bool ad.isNone)) w := by
      have he := run_equal_slice_nil (P := C.P) w ty el ad l0 c0 ht
      have hgd : (eqGuard .eql ty y (.const (.slice none 0 0)) (.slice ad l0 c0) (.slice none 0 0)).run C.P w = .ok () w := rfl
      have hb : (binOp .eql ty (.slice ad l0 c0) (.slice none 0 0)).run C.P w = .ok (.bool ad.isNone) w := by
        simp only [binOp]; simp [he]
      unfold execOp
      simp only [ho, hs, hc, Sem.run_bind, hgd, hb, Result.andThen_ok, Sem.run_pure]
    unfold Oper.wp
    rw [hx]
    exact hK M ρ (SV.b ad.isNone) [] _ w (Imm.le_refl _) (Names.le_refl _) (fun _ _ => rfl) ⟨ad.isNone, fun e => hz (by cases ad <;> simp_all), rfl, rfl⟩ (.d _ _ (.val _ rfl)) hH (Same.refl _)
  · rintro u wr ⟨b, hb, rfl, rfl⟩
    have := kk b hb
    unfold St.app; rw [hdst]; exact this
end Go.Proofs.Ytlhncpbcbpdcfaa.Nice
