/- Keys of two strings; looking up in a map of data by any key. -/
import Derived.Test.YtlhncpbcbpdcfaaNiceV
namespace Go.Proofs.Ytlhncpbcbpdcfaa.Nice
open Go
set_option linter.unusedVariables false
set_option linter.unusedSimpArgs false

def k2 (k : ByteArray × ByteArray) : Value := .agg #[.string k.1, .string k.2]
structure Two (P : Program) (kt : TypeId) (f1 f2 : Field) : Prop where
  fs : P.underlying kt = some (.struct #[f1, f2])
  n1 : ¬ f1.name = "_"
  n2 : ¬ f2.name = "_"
  o1 : f1.offset = 0
  o2 : f2.offset = 1
  t1 : P.underlying f1.type = some .string
  t2 : P.underlying f2.type = some .string
  hp : P.stoodInHeld kt = false
theorem str_eq {x y : ByteArray} : x = y ↔ x.toList = y.toList := by
  constructor
  · rintro rfl; rfl
  · intro e; rw [ByteArray.toList_eq, ByteArray.toList_eq] at e; exact WideShapes.bytes_inj e
def idx2 (k : ByteArray × ByteArray) : List (ByteArray × ByteArray) → Option Nat
  | [] => none
  | e :: r => if k = e then some 0 else (idx2 k r).map (· + 1)
theorem isAgg_string {P : Program} {t : TypeId} (h : P.underlying t = some .string) : isAggB P t = some false := by unfold isAggB; rw [h]
theorem Two.part1 {P : Program} {kt : TypeId} {f1 f2 : Field} (T : Two P kt f1 f2) (k : ByteArray × ByteArray) (w : World) : (part f1.type #[.string k.1, .string k.2] f1.offset).run P w = .ok (.string k.1) w := by
  simp [part, run_isAgg (isAgg_string T.t1), T.o1]
theorem Two.part2 {P : Program} {kt : TypeId} {f1 f2 : Field} (T : Two P kt f1 f2) (k : ByteArray × ByteArray) (w : World) : (part f2.type #[.string k.1, .string k.2] f2.offset).run P w = .ok (.string k.2) w := by
  simp [part, run_isAgg (isAgg_string T.t2), T.o2]
theorem Two.check {P : Program} {kt : TypeId} {f1 f2 : Field} (T : Two P kt f1 f2) (e : Bool) (k : ByteArray × ByteArray) (w : World) : (Instr.checkKey e 10000 kt (k2 k)).run P w = .ok () w := by
  have c1 := run_checkKey (P := P) (w := w) T.t1 rfl e 9998 (.string k.1)
  have c2 := run_checkKey (P := P) (w := w) T.t2 rfl e 9998 (.string k.2)
  show (Instr.checkKey e (9999 + 1) kt (k2 k)).run P w = _
  rw [Instr.checkKey]
  simp only [k2, Sem.run_bind, run_underlying T.fs, Result.andThen_ok]
  rw [← Array.forIn_toList]
  simp only [List.forIn_cons, List.forIn_nil, Sem.run_bind, T.n1, T.n2, ne_eq, not_false_eq_true, if_true, Result.andThen_ok, T.part1 k w, T.part2 k w, c1, c2, Sem.run_pure]
theorem k2_rl (M : Imm) (ρ : Names) (k : ByteArray × ByteArray) : RL M ρ [.d (.val (.string k.1)), .d (.val (.string k.2))] #[.string k.1, .string k.2] := by
  refine ⟨rfl, fun i s hs => ?_⟩
  match i, hs with
  | 0, hs => simp at hs; subst hs; exact ⟨_, rfl, .d _ _ (.val _ rfl)⟩
  | 1, hs => simp at hs; subst hs; exact ⟨_, rfl, .d _ _ (.val _ rfl)⟩
theorem Two.equal {P : Program} {kt : TypeId} {f1 f2 : Field} (T : Two P kt f1 f2) (a b : ByteArray × ByteArray) (w : World) : (Op.equal kt (k2 a) (k2 b)).run P w = .ok (decide (a = b)) w := by
  have hf : P.underlying kt = some (.struct (P.fieldsOf kt)) := by simp [Program.fieldsOf, T.fs]
  have hff : P.fieldsOf kt = #[f1, f2] := by simp [Program.fieldsOf, T.fs]
  show (Op.equalIn 10000 kt (k2 a) (k2 b)).run P w = _
  unfold k2
  rw [run_equalIn_agg (P := P) w 9999 kt _ _ hf T.hp, hff]
  refine eqSV_ok (M := fun _ => none) (ρ := fun _ => none) (k2_rl _ _ a) (k2_rl _ _ b) 9998 w _ _ ?_
  simp only [eqSV, T.n1, T.n2, T.t1, T.t2, T.o1, T.o2, ne_eq, not_false_eq_true, if_true, List.getElem?_cons_zero, List.getElem?_cons_succ, Option.map_some, Option.some.injEq]
  obtain ⟨a1, a2⟩ := a
  obtain ⟨b1, b2⟩ := b
  simp only [Prod.mk.injEq, str_eq (x := a1), str_eq (x := a2)]
  rw [Bool.decide_and]
  refine congr (congrArg and ?_) ?_ <;> (rw [Bool.eq_iff_iff]; simp)
theorem Two.find {P : Program} {kt : TypeId} {f1 f2 : Field} (T : Two P kt f1 f2) (k : ByteArray × ByteArray) : ∀ (ks : List (ByteArray × ByteArray)) (ents : List MapEntry) (i : Nat) (w : World), ents.map (·.key) = ks.map k2 → (Instr.findAsking kt (k2 k) ents i).run P w = .ok ((idx2 k ks).bind fun j => (ents[j]?).map fun e => (i + j, e.val)) w
  | [], [], i, w, _ => by simp [Instr.findAsking, idx2]
  | [], _ :: _, _, _, h => by simp at h
  | _ :: _, [], _, _, h => by simp at h
  | e :: ks, y :: ents, i, w, h => by
    simp only [List.map_cons, List.cons.injEq] at h
    obtain ⟨h1, h2⟩ := h
    simp only [Instr.findAsking, Sem.run_bind, h1, T.equal k e w, Result.andThen_ok, Sem.run_ite, idx2]
    by_cases hk : k = e
    · subst hk
      simp
    · have := Two.find T k ks ents (i + 1) w h2
      simp only [hk, decide_false, Bool.false_eq_true, if_false, this]
      cases idx2 k ks with
      | none => rfl
      | some j => simp only [Option.map_some, Option.bind_some, List.getElem?_cons_succ, show i + 1 + j = i + (j + 1) by omega]
theorem idx2_some {k : ByteArray × ByteArray} : ∀ {ks : List (ByteArray × ByteArray)} {j : Nat}, idx2 k ks = some j → ks[j]? = some k
  | [], j, h => by cases h
  | e :: ks, j, h => by
    unfold idx2 at h
    by_cases hk : k = e
    · rw [if_pos hk] at h; cases h; subst hk; rfl
    · rw [if_neg hk] at h
      obtain ⟨j', h1, rfl⟩ := Option.map_eq_some_iff.1 h
      simpa using idx2_some h1
theorem idx2_none {k : ByteArray × ByteArray} : ∀ {ks : List (ByteArray × ByteArray)}, idx2 k ks = none → k ∉ ks
  | [], _ => by simp
  | e :: ks, h => by
    unfold idx2 at h
    by_cases hk : k = e
    · rw [if_pos hk] at h; cases h
    · rw [if_neg hk] at h
      rw [List.mem_cons]
      rintro (h1 | h1)
      · exact hk h1
      · exact idx2_none (Option.map_eq_none_iff.1 h) h1
theorem kfind2 {P : Program} {kt : TypeId} {f1 f2 : Field} (T : Two P kt f1 f2) (k : ByteArray × ByteArray) (ks : List (ByteArray × ByteArray)) : KFind P kt (k2 k) (ks.map k2) (idx2 k ks) := by
  refine ⟨fun e w => T.check e k w, fun ents w he => ?_, fun j hj => ?_⟩
  · rw [run_findKey_eq w (by rw [T.fs]) (k2 k) ents, T.find k ks ents 0 w he]
    cases idx2 k ks with
    | none => rfl
    | some j => simp only [Option.bind_some, Nat.zero_add]
  · have h := idx2_some hj
    have hl := (List.getElem?_eq_some_iff.1 h).1
    refine ⟨by rw [List.length_map]; exact hl, ?_⟩
    rw [List.getD_eq_getElem?_getD, List.getElem?_map, h]
    have e : ∀ x : ByteArray, (x == x) = true := fun x => by rw [beq_toListBytes]; simp
    simp [k2, Instr.sameBits, e]

/-- An entry of a family asked for to write it: it stands open, and its place is its stamp. -/
theorem entF_ok {C : Ctx} {o : Oper} {nm : Nat} {v : Operand → SV} {t kt el : TypeId} {y z : Operand} (ho : o.op = .mapEntry t y z) (ht : C.P.underlying t = some (.map kt el))
    {n : Nat} {S : List Nat} {es : Fam} (hy : v y = .map n) {key : Value} (hz : ∀ M ρ u, VR M ρ (v z) u → u = key) {u : SV} {r : Option Nat} (hr : KFind C.P kt key (es.es.map (·.1)) r)
    (hu : (r = none ∧ es.op = [] ∧ ∃ zl, (C.P.info? el).bind (·.zero) = some zl ∧ zl.oneCell' = true ∧ u = toSV zl) ∨ ∃ j, r = some j ∧ es.op = [(j, u)]) :
    OpOK C o nm v [(n, .fam S es)] (fun x w => x = .tup [u, SV.i ((r.getD es.es.length : Nat) : Int)] ∧ w = [(n, some (.fam S (fset key u r es.es)))]) := by
  have m2 : ∀ x, x = y ∨ x = z → x ∈ o.op.operands := by intro x hx; rw [ho]; rcases hx with rfl | rfl <;> simp [Op.operands]
  refine ok_value fun M F ρ a h w hv hH hbs hfr => ?_
  have e1 := hv y (m2 y (.inl rfl)); rw [hy] at e1
  have e2 := hz _ _ _ (hv z (m2 z (.inr rfl)))
  have hn := hbs _ (List.mem_singleton.2 rfl)
  have hn : h n = some (.fam S es) := hn
  generalize hqy : a.eval y = qy at e1
  cases e1 with
  | map _ x hx =>
    obtain ⟨h0, hM, hF, ents, cl, k1, k2, k3, _, k5⟩ := hH.famObj hn hx
    obtain ⟨hcl, k4⟩ := hH.famBorn hn hx k1
    have hb : x.b < w.heap.size := (Array.getElem?_eq_some_iff.1 k1).1
    have hg := run_getObj_map (P := C.P) k1
    have hc := hr.chk false w
    have hf := hr.fnd ents.toList w k3
    rcases hu with ⟨rfl, hop, zl, hzl, h1, rfl⟩ | ⟨j0, rfl, hop⟩
    · obtain ⟨i, hi, hzv⟩ := Option.bind_eq_some_iff.1 hzl
      have hf : (Instr.findKey kt key ents.toList).run C.P w = .ok none w := hf
      refine ⟨ρ, .tuple #[zl, goInt cl], { w with heap := w.heap.setIfInBounds x.b (.map (ents.push { key := key, val := zl, born := cl }) (cl + 1)) }, Names.le_refl _, fun _ _ => rfl, by simp [execOp, ho, hqy, e2, Instr.mapEntry, run_underlying ht, hg, hc, hf, zeroValue, typeInfo, hi, hzv, run_setObj_map k1], ?_, ?_, ⟨rfl, rfl, rfl, by simp⟩⟩
      · refine VR.tup2 (toSV_ok h1) ?_
        rw [hcl, k2]
        exact .d _ _ (.val _ rfl)
      · refine HR.putFam (w' := { w with heap := w.heap.setIfInBounds x.b (.map (ents.push { key := key, val := zl, born := cl }) (cl + 1)) }) (ents2 := ents.push { key := key, val := zl, born := cl }) (cl2 := cl + 1) hH hn hx k1 (by simp [hb]) (fun b hb' => by simp [Array.getElem?_setIfInBounds_ne (Ne.symm hb')]) (by simp) ⟨⟨by simp [fset, k2], by simp [hcl]⟩, fun j e he => ?_, fun p hp => ?_⟩ (fun j k s bl hj => ?_)
        · simp only [fset] at he
          by_cases hj : j < es.es.length
          · rw [List.getElem?_append_left hj] at he
            obtain ⟨y, a1, a2⟩ := k4 j e he
            exact ⟨y, by rw [Array.getElem?_push, if_neg (by omega)]; exact a1, a2⟩
          · rw [List.getElem?_append_right (by omega)] at he
            have hje : j = es.es.length := by
              have := (List.getElem?_eq_some_iff.1 he).1
              simp at this; omega
            subst hje
            simp at he; subst he
            exact ⟨⟨key, zl, cl⟩, by rw [Array.getElem?_push, if_pos k2.symm], rfl, by rw [hcl, k2]⟩
        · simp only [fset, List.mem_singleton] at hp
          subst hp
          exact ⟨⟨key, zl, cl⟩, by rw [Array.getElem?_push, if_pos k2.symm], toSV_ok h1⟩
        · obtain ⟨hj, hjo⟩ := hj
          simp only [fset] at hj hjo
          have hne : es.es.length ≠ j := hjo _ (List.mem_singleton.2 rfl)
          have hjl : j < es.es.length := by
            have := (List.getElem?_eq_some_iff.1 hj).1
            simp at this; omega
          rw [List.getElem?_append_left hjl] at hj
          exact ⟨k, ⟨hj, fun p hp => by rw [hop] at hp; cases hp⟩, fun y hy => ⟨y, by rw [Array.getElem?_push, if_neg (by omega)]; exact hy, rfl⟩⟩
    · obtain ⟨hj0, hsb⟩ := hr.inn j0 rfl
      rw [List.length_map] at hj0
      obtain ⟨y0, y1, y2, y3⟩ := k4 j0 _ (List.getElem?_eq_getElem hj0)
      obtain ⟨y0', y1', yv⟩ := k5 (j0, u) (by rw [hop]; exact List.mem_singleton.2 rfl)
      rw [y1] at y1'; cases y1'
      have hf : (Instr.findKey kt key ents.toList).run C.P w = .ok (some (j0, y0.val)) w := by rw [hf]; simp [y1]
      have hkey : ((ents[j0]?).map (·.key)).getD key = y0.key := by rw [y1]; rfl
      have hborn : ((ents[j0]?).map fun x => (x.born : Int)).getD 0 = (j0 : Int) := by rw [y1]; simp [y3]
      have hks : (es.es.map (·.1)).getD j0 key = y0.key := by
        rw [List.getD_eq_getElem?_getD, List.getElem?_map, List.getElem?_eq_getElem hj0, y2]; rfl
      have hstay : (Instr.keyThatStays y0.key key).run C.P w = .ok key w := by
        rw [hks] at hsb
        simp [Instr.keyThatStays, hsb]
      refine ⟨ρ, .tuple #[y0.val, goInt j0], { w with heap := w.heap.setIfInBounds x.b (.map (ents.modify j0 fun e => { e with key := key }) cl) }, Names.le_refl _, fun _ _ => rfl, ?_, ?_, ?_, ⟨rfl, rfl, rfl, by simp⟩⟩
      · simp only [execOp, ho, hqy, e2, Instr.mapEntry, Sem.run_bind, run_underlying ht, hg, hc, hf, Result.andThen_ok, Sem.run_pure, hkey, hborn, hstay, run_setObj_map k1]
      · exact VR.tup2 yv (.d _ _ (.val _ rfl))
      · refine HR.putFam (w' := { w with heap := w.heap.setIfInBounds x.b (.map (ents.modify j0 fun e => { e with key := key }) cl) }) (ents2 := ents.modify j0 fun e => { e with key := key }) (cl2 := cl) hH hn hx k1 (by simp [hb]) (fun b hb' => by simp [Array.getElem?_setIfInBounds_ne (Ne.symm hb')]) (by simp) ⟨⟨by simp [fset, k2], by simp [hcl]⟩, fun i e he => ?_, fun p hp => ?_⟩ (fun i k s bl hi => ?_)
        · simp only [fset] at he
          rw [List.getElem?_set] at he
          split at he
          · next hi =>
            subst hi
            cases he
            exact ⟨{ y0 with key := key }, by rw [Array.getElem?_modify, if_pos rfl, y1]; rfl, rfl, y3⟩
          · next hi =>
            obtain ⟨y', b1, b2⟩ := k4 i e he
            exact ⟨y', by rw [Array.getElem?_modify, if_neg hi]; exact b1, b2⟩
        · simp only [fset, List.mem_singleton] at hp
          subst hp
          exact ⟨{ y0 with key := key }, by rw [Array.getElem?_modify, if_pos rfl, y1]; rfl, yv⟩
        · obtain ⟨hi, hio⟩ := hi
          simp only [fset] at hi hio
          have hne : j0 ≠ i := hio _ (List.mem_singleton.2 rfl)
          rw [List.getElem?_set_ne hne] at hi
          exact ⟨k, ⟨hi, fun p hp => by rw [hop, List.mem_singleton] at hp; rw [hp]; exact hne⟩, fun y hy => ⟨y, by rw [Array.getElem?_modify, if_neg hne]; exact hy, rfl⟩⟩

/-- An open entry written by its stamp. -/
theorem estF_ok {C : Ctx} {o : Oper} {nm : Nat} {v : Operand → SV} {t : TypeId} {y z q : Operand} (ho : o.op = .entryStore t y z q)
    {n : Nat} {S : List Nat} {es : List (Value × SV × List InB)} {j : Nat} {u0 : SV} (hjl : j < es.length) (hy : v y = .map n) (hz : v z = SV.i (j : Nat)) {u : SV} (hq : v q = u) :
    OpOK C o nm v [(n, .fam S ⟨es, [(j, u0)]⟩)] (fun x w => x = .any ∧ w = [(n, some (.fam S ⟨es, [(j, u)]⟩))]) := by
  have m3 : ∀ x, x = y ∨ x = z ∨ x = q → x ∈ o.op.operands := by intro x hx; rw [ho]; rcases hx with rfl | rfl | rfl <;> simp [Op.operands]
  refine ok_skip fun M F ρ a h w hv hH hbs hfr => ?_
  have e1 := hv y (m3 y (.inl rfl)); rw [hy] at e1
  have e2 := (hv z (m3 z (.inr (.inl rfl)))); rw [hz] at e2
  have e3 := hv q (m3 q (.inr (.inr rfl))); rw [hq] at e3
  have e2 : a.eval z = .int .i64 (j : Nat) := e2.val
  have hn := hbs _ (List.mem_singleton.2 rfl)
  have hn : h n = some (.fam S ⟨es, [(j, u0)]⟩) := hn
  generalize hqy : a.eval y = qy at e1
  cases e1 with
  | map _ x hx =>
    obtain ⟨h0, hM, hF, ents, cl, k1, k2, k3, _, k5⟩ := hH.famObj hn hx
    obtain ⟨hcl, k4⟩ := hH.famBorn hn hx k1
    have hb : x.b < w.heap.size := (Array.getElem?_eq_some_iff.1 k1).1
    have hg := run_getObj_map (P := C.P) k1
    replace k2 : ents.size = es.length := k2
    replace k4 : ∀ (j : Nat) (e : Value × SV × List InB), es[j]? = some e → ∃ y : MapEntry, ents[j]? = some y ∧ y.key = e.1 ∧ y.born = j := k4
    obtain ⟨y0, y1, y2, y3⟩ := k4 j _ (List.getElem?_eq_getElem hjl)
    have hfi : ents.findIdx? (fun e => (e.born : Int) == ((j : Nat) : Int)) = some j := by
      rw [Array.findIdx?_eq_some_iff_getElem]
      refine ⟨by omega, ?_, fun i hi => ?_⟩
      · have : ents[j]? = some (ents[j]'(by omega)) := Array.getElem?_eq_getElem (by omega)
        rw [y1] at this
        have := Option.some.inj this
        rw [← this, y3]; simp
      · obtain ⟨yi, z1, z2, z3⟩ := k4 i _ (List.getElem?_eq_getElem (by omega))
        have : ents[i]? = some (ents[i]'(by omega)) := Array.getElem?_eq_getElem (by omega)
        rw [z1] at this
        have := Option.some.inj this
        rw [← this, z3]; simp; omega
    refine ⟨ρ, { w with heap := w.heap.setIfInBounds x.b (.map (ents.modify j fun e => { e with val := a.eval q }) cl) }, Names.le_refl _, fun _ _ => rfl, ?_, ?_, ⟨rfl, rfl, rfl, by simp⟩⟩
    · simp only [execOp, ho, hqy, e2, Instr.entryStore, asInt, asIntOf, Sem.run_bind, hg, hfi, Result.andThen_ok, Sem.run_pure, run_setObj_map k1]
    · refine HR.putFam (w' := { w with heap := w.heap.setIfInBounds x.b (.map (ents.modify j fun e => { e with val := a.eval q }) cl) }) (ents2 := ents.modify j fun e => { e with val := a.eval q }) (cl2 := cl) hH hn hx k1 (by simp [hb]) (fun b hb' => by simp [Array.getElem?_setIfInBounds_ne (Ne.symm hb')]) (by simp) ⟨⟨by simp [k2], by simp [hcl]⟩, fun i e he => ?_, fun p hp => ?_⟩ (fun i k s bl hi => ?_)
      · obtain ⟨y', b1, b2, b3⟩ := k4 i e he
        by_cases hi : j = i
        · subst hi
          exact ⟨{ y' with val := a.eval q }, by rw [Array.getElem?_modify, if_pos rfl, b1]; rfl, b2, b3⟩
        · exact ⟨y', by rw [Array.getElem?_modify, if_neg hi]; exact b1, b2, b3⟩
      · rw [List.mem_singleton.1 hp]
        exact ⟨{ y0 with val := a.eval q }, by rw [Array.getElem?_modify, if_pos rfl, y1]; rfl, e3⟩
      · obtain ⟨hi, hio⟩ := hi
        have hne : j ≠ i := hio _ (List.mem_singleton.2 rfl)
        exact ⟨k, ⟨hi, fun p hp => by rw [List.mem_singleton.1 hp]; exact hne⟩, fun y hy => ⟨y, by rw [Array.getElem?_modify, if_neg hne]; exact hy, rfl⟩⟩

theorem lookM_ok {C : Ctx} {o : Oper} {nm : Nat} {v : Operand → SV} {t kt el : TypeId} {y z : Operand} {ok : Bool} (ho : o.op = .lookup t y z ok) (ht : C.P.underlying t = some (.map kt el))
    {n : Nat} {es : List (Value × D)} (hy : v y = .map n) {key : Value} (hz : ∀ M ρ u, VR M ρ (v z) u → u = key) {r : Option Nat} (hr : KFind C.P kt key (es.map (·.1)) r) {zl : Value} (hzl : (C.P.info? el).bind (·.zero) = some zl) (h1 : zl.oneCell' = true) {rd : Option D} (hrd : rd = r.bind fun j => (es[j]?).map (·.2)) :
    OpOK C o nm v [(n, .map es)] (fun x w => x = foundS ok (orZero rd zl) rd.isSome ∧ w = []) := by
  refine ok_pure fun M F ρ a h w hv hH hbs => ?_
  have e1 := hv y (by rw [ho]; exact mem_ops2 (.inl rfl)); rw [hy] at e1
  have e2 := hz _ _ _ (hv z (by rw [ho]; exact mem_ops2 (.inr rfl)))
  obtain ⟨i, hi, hzv⟩ := Option.bind_eq_some_iff.1 hzl
  generalize hq : a.eval y = q at e1
  cases e1 with
  | map _ x hx =>
    obtain ⟨_, ents, k1, k2, k3⟩ := hH.map (hbs _ (List.mem_singleton.2 rfl)) hx
    have hks : ents.toList.map (·.key) = es.map (·.1) := by
      apply List.ext_getElem?
      intro j
      rw [List.getElem?_map, List.getElem?_map, Array.getElem?_toList]
      cases he : es[j]? with
      | none =>
        have : es.length ≤ j := List.getElem?_eq_none_iff.1 he
        rw [Array.getElem?_eq_none (by omega)]; rfl
      | some e =>
        obtain ⟨y, y1, y2, _⟩ := k3 j e he
        rw [y1]; simp [y2]
    have hg := run_getObj_map (P := C.P) k1
    have hc := hr.chk ents.isEmpty w
    have hf := hr.fnd ents.toList w hks
    cases r with
    | none =>
      obtain rfl : rd = none := hrd
      have hf : (Instr.findKey kt key ents.toList).run C.P w = .ok none w := hf
      refine ⟨if ok then .tuple #[zl, .bool false] else zl, ?_, ?_⟩
      · have : (Instr.lookup t (.map (some x.b)) key ok).run C.P w = .ok (if ok then .tuple #[zl, .bool false] else zl) w := by
          cases ok <;> simp [Instr.lookup, run_underlying ht, hg, hc, hf, zeroValue, typeInfo, hi, hzv]
        simp only [execOp, ho, hq, e2, Sem.run_bind, this, Result.andThen_ok, Sem.run_pure]
      · have hdr : VR M ρ (orZero none zl) zl := toSV_ok h1
        cases ok with
        | false => exact hdr
        | true => exact VR.tup2 hdr (.d _ _ (.val _ rfl))
    | some j =>
      obtain ⟨hj, _⟩ := hr.inn j rfl
      rw [List.length_map] at hj
      obtain ⟨y', y1, _, y2⟩ := k3 j _ (List.getElem?_eq_getElem hj)
      have hrd : rd = some es[j].2 := by rw [hrd]; simp [List.getElem?_eq_getElem hj]
      subst hrd
      refine ⟨if ok then .tuple #[y'.val, .bool true] else y'.val, ?_, ?_⟩
      · have : (Instr.lookup t (.map (some x.b)) key ok).run C.P w = .ok (if ok then .tuple #[y'.val, .bool true] else y'.val) w := by
          have hf2 : (Instr.findKey kt key ents.toList).run C.P w = .ok (some (j, y'.val)) w := by
            rw [hf]; simp [y1]
          cases ok <;> simp [Instr.lookup, run_underlying ht, hg, hc, hf2]
        simp only [execOp, ho, hq, e2, Sem.run_bind, this, Result.andThen_ok, Sem.run_pure]
      · have hdr : VR M ρ (orZero (some es[j].2) zl) y'.val := .d _ _ y2
        cases ok with
        | false => exact hdr
        | true => exact VR.tup2 hdr (.d _ _ (.val _ rfl))
section
variable {C : Ctx} {ops : List Oper} {i : Nat} {o : Oper} {l : List Oper} {t : Nat → SV} {h h' : Heap} {nx : Nat} {K : St → Prop} {acc : List FP} {ty kt el : TypeId} {y z q : Operand} {ok : Bool} {n : Nat} {es : List (Value × D)} {key : Value} {u u' : SV} {zl : Value}
theorem sLookM (r : Option Nat) (rd : Option D) (hr : KFind C.P kt key (es.map (·.1)) r) (hrd : rd = r.bind fun j => (es[j]?).map (·.2)) (d nm i' : Nat) (hi : i + 1 = i') (hnm : nx + 8 * i = nm) (hg : o.guard = none) (hdst : o.dst = some d) (hd : Nat.blt d C.sz = true) (ho : o.op = .lookup ty y z ok)
    (ht : C.P.underlying ty = some (.map kt el)) (hy : opv C t y = .map n) (hz : ∀ M ρ u, VR M ρ (opv C t z) u → u = key) (hn : h n = some (.map es)) (hzl : (C.P.info? el).bind (·.zero) = some zl) (h1 : zl.oneCell' = true) (hh : (foundS ok (orZero rd zl) rd.isSome).hd = some u')
    (k : wops C ops i' l ⟨upd t d u', h, nx⟩ none K) : wops C ops i (o :: l) ⟨t, h, nx⟩ none K := by
  subst hi; subst hnm
  refine st_ok (σ := ⟨t, h, nx⟩) hg (by unfold dstOK; rw [hdst]; exact hd) (lookM_ok ho ht hy hz hr hzl h1 hrd) (fun p hp => by rw [List.mem_singleton.1 hp]; exact hn) rfl ?_
  unfold St.app; rw [hdst, SV.hd_eq hh]; exact k
theorem dLookM (r : Option Nat) (rd : Option D) (hr : KFind C.P kt key (es.map (·.1)) r) (hrd : rd = r.bind fun j => (es[j]?).map (·.2)) (d nm i' : Nat) (hi : i + 1 = i') (hnm : nx + 8 * i = nm) (hg : o.guard = none) (hdst : o.dst = some d) (hd : Nat.blt d C.sz = true) (ho : o.op = .lookup ty y z ok)
    (ht : C.P.underlying ty = some (.map kt el)) (hy : opv C t y = .map n) (hz : ∀ M ρ u, VR M ρ (opv C t z) u → u = key) (hn : h n = some (.map es)) (hzl : (C.P.info? el).bind (·.zero) = some zl) (h1 : zl.oneCell' = true) (hh : (foundS ok (orZero rd zl) rd.isSome).hd = some u')
    (k : wops C ops i' l ⟨upd t d u', h, nx⟩ (some (acc ++ [([n], [])])) K) : wops C ops i (o :: l) ⟨t, h, nx⟩ (some acc) K := by
  subst hi; subst hnm
  refine st_ok (σ := ⟨t, h, nx⟩) hg (by unfold dstOK; rw [hdst]; exact hd) (lookM_ok ho ht hy hz hr hzl h1 hrd) (fun p hp => by rw [List.mem_singleton.1 hp]; exact hn) rfl ?_
  unfold St.app; rw [hdst, SV.hd_eq hh]; exact k
theorem sEntF {S : List Nat} {es : Fam} (r : Option Nat) (u : SV) (hr : KFind C.P kt key (es.es.map (·.1)) r) (hu : (r = none ∧ es.op = [] ∧ ∃ zl, (C.P.info? el).bind (·.zero) = some zl ∧ zl.oneCell' = true ∧ u = toSV zl) ∨ ∃ j, r = some j ∧ es.op = [(j, u)]) (d nm i' : Nat) (hi : i + 1 = i') (hnm : nx + 8 * i = nm) (hg : o.guard = none) (hdst : o.dst = some d) (hd : Nat.blt d C.sz = true) (ho : o.op = .mapEntry ty y z)
    (ht : C.P.underlying ty = some (.map kt el)) (hy : opv C t y = .map n) (hz : ∀ M ρ u, VR M ρ (opv C t z) u → u = key) (hn : h n = some (.fam S es))
    (k : wops C ops i' l ⟨upd t d (.tup [u, SV.i ((r.getD es.es.length : Nat) : Int)]), upd h n (some (.fam S (fset key u r es.es))), nx⟩ none K) : wops C ops i (o :: l) ⟨t, h, nx⟩ none K := by
  subst hi; subst hnm
  refine st_ok (σ := ⟨t, h, nx⟩) hg (by unfold dstOK; rw [hdst]; exact hd) (entF_ok ho ht hy hz hr hu) (fun p hp => by rw [List.mem_singleton.1 hp]; exact hn) (by simp [keysIn]) ?_
  unfold St.app; rw [hdst]; exact k
theorem sEstF {S : List Nat} {es : List (Value × SV × List InB)} (j : Nat) (u0 u : SV) (hjl : j < es.length) (nm i' : Nat) (hi : i + 1 = i') (hnm : nx + 8 * i = nm) (hg : o.guard = none) (hdst : o.dst = none) (ho : o.op = .entryStore ty y z q)
    (hy : opv C t y = .map n) (hz : opv C t z = SV.i (j : Nat)) (hq : (opv C t q).hd = some u) (hn : h n = some (.fam S ⟨es, [(j, u0)]⟩))
    (k : wops C ops i' l ⟨t, upd h n (some (.fam S ⟨es, [(j, u)]⟩)), nx⟩ none K) : wops C ops i (o :: l) ⟨t, h, nx⟩ none K := by
  subst hi; subst hnm
  refine st_ok (σ := ⟨t, h, nx⟩) hg (by unfold dstOK; rw [hdst]) (estF_ok ho hjl hy hz (SV.hd_eq hq)) (fun p hp => by rw [List.mem_singleton.1 hp]; exact hn) (by simp [keysIn]) ?_
  unfold St.app; rw [hdst]; exact k
end
end Go.Proofs.Ytlhncpbcbpdcfaa.Nice
