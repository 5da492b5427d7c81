/- Families: maps whose entries' values own blocks. Looking up, writing, taking an entry's blocks out and shutting them away. -/
import Derived.Test.YtlhncpbcbpdcfaaNiceS
namespace Go.Proofs.Ytlhncpbcbpdcfaa.Nice
open Go
set_option linter.unusedVariables false
set_option linter.unusedSimpArgs false

/-- What the search for a key finds, among such keys. -/
structure KFind (P : Program) (kt : TypeId) (key : Value) (ks : List Value) (r : Option Nat) : Prop where
  chk : ∀ e w, (Instr.checkKey e 10000 kt key).run P w = .ok () w
  fnd : ∀ (ents : List MapEntry) w, ents.map (·.key) = ks → (Instr.findKey kt key ents).run P w = .ok (r.bind fun j => (ents[j]?).map fun e => (j, e.val)) w
  inn : ∀ j, r = some j → j < ks.length ∧ Instr.sameBits 10000 (ks.getD j key) key = true

def kfind (kind : TypeDesc) (key : Value) : List Value → Option (Option Nat)
  | [] => some none
  | k :: r => match Instr.sameNow kind key k with
    | some true => some (some 0)
    | some false => (kfind kind key r).map (·.map (· + 1))
    | none => none
theorem kfind_now {kind : TypeDesc} {key : Value} : ∀ (ents : List MapEntry) (i : Nat) (r : Option Nat), kfind kind key (ents.map (·.key)) = some r → Instr.findNow kind key ents i = some (r.bind fun j => (ents[j]?).map fun e => (i + j, e.val))
  | [], i, r, h => by simp [kfind] at h; subst h; rfl
  | y :: ents, i, r, h => by
    simp only [List.map_cons, kfind] at h
    simp only [Instr.findNow]
    cases hs : Instr.sameNow kind key y.key with
    | none => rw [hs] at h; cases h
    | some b => cases b with
      | true => rw [hs] at h; simp at h; subst h; simp
      | false =>
        rw [hs] at h
        simp only [Option.map_eq_some_iff] at h
        obtain ⟨r', h', rfl⟩ := h
        rw [kfind_now ents (i + 1) r' h']
        cases r' with
        | none => rfl
        | some j => simp only [Option.map_some, Option.bind_some, List.getElem?_cons_succ, show i + 1 + j = i + (j + 1) by omega]
theorem kfind_in {kind : TypeDesc} {key : Value} : ∀ (ks : List Value) (j : Nat), kfind kind key ks = some (some j) → j < ks.length ∧ Instr.sameBits 10000 (ks.getD j key) key = true
  | [], j, h => by simp [kfind] at h
  | k :: ks, j, h => by
    simp only [kfind] at h
    cases hs : Instr.sameNow kind key k with
    | none => rw [hs] at h; cases h
    | some b => cases b with
      | true =>
        rw [hs] at h; simp at h; subst h
        exact ⟨by simp, by simpa using sameNow_key hs⟩
      | false =>
        rw [hs] at h
        simp only [Option.map_eq_some_iff] at h
        obtain ⟨r', h', h2⟩ := h
        cases r' with
        | none => simp at h2
        | some j' =>
          simp at h2; subst h2
          obtain ⟨a, b⟩ := kfind_in ks j' h'
          exact ⟨by simpa using a, by simpa using b⟩
theorem kfind_ok {P : Program} {kt : TypeId} {kind : TypeDesc} {key : Value} {ks : List Value} {r : Option Nat} (hk : P.underlying kt = some kind) (hp : plainKey kind = true) (h : kfind kind key ks = some r) : KFind P kt key ks r := by
  refine ⟨fun e w => run_checkKey hk hp e 9999 key, fun ents w he => ?_, fun j hj => ?_⟩
  · subst he
    simp [Instr.findKey, run_underlying hk, kfind_now ents 0 r h]
  · subst hj; exact kfind_in ks j h

theorem HR.famObj {M F : Imm} {ρ : Names} {h : Heap} {w : World} (H : HR M F ρ h w) {n : Nat} {S : List Nat} {es : Fam} (hn : h n = some (.fam S es)) {x : Own} (hx : ρ n = some x) :
    0 < x.R ∧ M x.b = none ∧ F x.b = none ∧ ∃ ents cl, w.heap[x.b]? = some (.map ents cl) ∧ ents.size = es.es.length ∧ ents.toList.map (·.key) = es.es.map (·.1) ∧ (∀ (j : Nat) (e : Value × SV × List InB), es.es[j]? = some e → ∃ y : MapEntry, ents[j]? = some y ∧ y.key = e.1) ∧ ∀ p, p ∈ es.op → ∃ y : MapEntry, ents[p.1]? = some y ∧ VR M ρ p.2 y.val := by
  obtain ⟨x', hx', hr⟩ := H.live n _ hn
  rw [hx] at hx'; obtain rfl := Option.some.inj hx'
  rcases hr with ⟨_, hg⟩ | ⟨h0, h1, h2, o, h3, h4⟩
  · simp [Blk.ghost] at hg
  · cases o with
    | map ents cl =>
      obtain ⟨⟨g1, _⟩, g2', g3⟩ := h4
      have g2 : ∀ (j : Nat) (e : Value × SV × List InB), es.es[j]? = some e → ∃ y : MapEntry, ents[j]? = some y ∧ y.key = e.1 := fun j e he => let ⟨y, y1, y2, _⟩ := g2' j e he; ⟨y, y1, y2⟩
      refine ⟨h0, h1, h2, ents, cl, h3, g1, ?_, g2, g3⟩
      apply List.ext_getElem?
      intro j
      rw [List.getElem?_map, List.getElem?_map, Array.getElem?_toList]
      cases he : es.es[j]? with
      | none =>
        have : es.es.length ≤ j := List.getElem?_eq_none_iff.1 he
        rw [Array.getElem?_eq_none (by omega)]; rfl
      | some e =>
        obtain ⟨y, y1, y2⟩ := g2 j e he
        rw [y1]; simp [y2]
    | _ => exact h4.elim

theorem HR.famBorn {M F : Imm} {ρ : Names} {h : Heap} {w : World} (H : HR M F ρ h w) {n : Nat} {S : List Nat} {es : Fam} (hn : h n = some (.fam S es)) {x : Own} (hx : ρ n = some x) {ents : Array MapEntry} {cl : Nat} (ho : w.heap[x.b]? = some (.map ents cl)) :
    cl = ents.size ∧ ∀ (j : Nat) (e : Value × SV × List InB), es.es[j]? = some e → ∃ y : MapEntry, ents[j]? = some y ∧ y.key = e.1 ∧ y.born = j := by
  obtain ⟨x', hx', hr⟩ := H.live n _ hn
  rw [hx] at hx'; obtain rfl := Option.some.inj hx'
  rcases hr with ⟨_, hg⟩ | ⟨h0, h1, h2, o, h3, h4⟩
  · simp [Blk.ghost] at hg
  · rw [ho] at h3; cases h3
    obtain ⟨⟨_, g1⟩, g2, _⟩ := h4
    exact ⟨g1, g2⟩

theorem lookF_ok {C : Ctx} {o : Oper} {nm : Nat} {v : Operand → SV} {t kt el : TypeId} {y z : Operand} {ok : Bool} (ho : o.op = .lookup t y z ok) (ht : C.P.underlying t = some (.map kt el))
    {n : Nat} {S : List Nat} {es : Fam} (hy : v y = .map n) {key : Value} (hz : ∀ M ρ u, VR M ρ (v z) u → u = key) {r : Option Nat} (hr : KFind C.P kt key (es.es.map (·.1)) r) {u : SV}
    (hu : (r = none ∧ ∃ zl, (C.P.info? el).bind (·.zero) = some zl ∧ zl.oneCell' = true ∧ u = toSV zl) ∨ ∃ j, r = some j ∧ (j, u) ∈ es.op) :
    OpOK C o nm v [(n, .fam S es)] (fun x w => x = foundS ok u r.isSome ∧ w = []) := by
  refine ok_pure fun M F ρ a h w hv hH hbs => ?_
  have e1 := hv y (by rw [ho]; exact mem_ops2 (.inl rfl)); rw [hy] at e1
  have e2 := hz _ _ _ (hv z (by rw [ho]; exact mem_ops2 (.inr rfl)))
  generalize hq : a.eval y = q at e1
  cases e1 with
  | map _ x hx =>
    obtain ⟨_, _, _, ents, cl, k1, k2, k3, _, k4⟩ := hH.famObj (hbs _ (List.mem_singleton.2 rfl)) hx
    have hg := run_getObj_map (P := C.P) k1
    have hf := hr.fnd ents.toList w k3
    have hc := hr.chk ents.isEmpty w
    rcases hu with ⟨rfl, zl, hzl, h1, rfl⟩ | ⟨j, rfl, hj⟩
    · obtain ⟨i, hi, hzv⟩ := Option.bind_eq_some_iff.1 hzl
      refine ⟨if ok then .tuple #[zl, .bool false] else zl, ?_, ?_⟩
      · have : (Instr.lookup t (.map (some x.b)) key ok).run C.P w = .ok (if ok then .tuple #[zl, .bool false] else zl) w := by
          cases ok <;> simp [Instr.lookup, run_underlying ht, hg, hc, hf, zeroValue, typeInfo, hi, hzv]
        simp only [execOp, ho, hq, e2, Sem.run_bind, this, Result.andThen_ok, Sem.run_pure]
      · have hdr : VR M ρ (toSV zl) zl := toSV_ok h1
        cases ok with
        | false => exact hdr
        | true => exact VR.tup2 hdr (.d _ _ (.val _ rfl))
    · obtain ⟨y', y1, y2⟩ := k4 _ hj
      refine ⟨if ok then .tuple #[y'.val, .bool true] else y'.val, ?_, ?_⟩
      · have : (Instr.lookup t (.map (some x.b)) key ok).run C.P w = .ok (if ok then .tuple #[y'.val, .bool true] else y'.val) w := by
          have hf2 : (Instr.findKey kt key ents.toList).run C.P w = .ok (some (j, y'.val)) w := by
            rw [hf]; simp [y1]
          cases ok <;> simp [Instr.lookup, run_underlying ht, hg, hc, hf2]
        simp only [execOp, ho, hq, e2, Sem.run_bind, this, Result.andThen_ok, Sem.run_pure]
      · have hdr : VR M ρ u y'.val := y2
        cases ok with
        | false => exact hdr
        | true => exact VR.tup2 hdr (.d _ _ (.val _ rfl))

/-- The map's object is another one; what is shut away lies as it lay. -/
theorem HR.putFam {M F : Imm} {ρ : Names} {h : Heap} {w w' : World} (H : HR M F ρ h w) {n : Nat} {x : Own} {S : List Nat} {es es2 : Fam} (hn : h n = some (.fam S es)) (hx : ρ n = some x) {ents ents2 : Array MapEntry} {cl cl2 : Nat}
    (ho : w.heap[x.b]? = some (.map ents cl)) (hb : w'.heap[x.b]? = some (.map ents2 cl2)) (hw : ∀ b, b ≠ x.b → w'.heap[b]? = w.heap[b]?) (hsz : w.heap.size ≤ w'.heap.size) (hB : BR M ρ x (.fam S es2) (.map ents2 cl2))
    (hsh : ∀ (j : Nat) (k : Value) (s : SV) (bl : List InB), es2.at j k s bl → ∃ k', es.at j k' s bl ∧ ∀ y, ents[j]? = some y → ∃ y2, ents2[j]? = some y2 ∧ y2.val = y.val) : HR M F ρ (upd h n (some (.fam S es2))) w' := by
  obtain ⟨h0, hM, hF, _⟩ := H.famObj hn hx
  have ne : ∀ m, upd h n (some (.fam S es2)) m ≠ none → h m ≠ none := by
    intro m hm e
    rw [upd_eq] at hm; split at hm
    · next e2 => subst e2; rw [hn] at e; cases e
    · exact hm e
  refine ⟨fun b o hb' => ?_, fun b o hb' => ?_, H.dis, fun m b hm => ?_, fun p q y z hp hq => H.sep p q y z (ne p hp) (ne q hq), fun m S' es' hm => ?_⟩
  · rw [hw b (by rintro rfl; rw [hM] at hb'; cases hb')]; exact H.imm b o hb'
  · rw [hw b (by rintro rfl; rw [hF] at hb'; cases hb')]; exact H.frm b o hb'
  · rw [upd_eq] at hm
    split at hm
    · next e => subst e; cases hm; exact ⟨x, hx, .inr ⟨h0, hM, hF, _, hb, hB⟩⟩
    · next e =>
      obtain ⟨y, hy, hr⟩ := H.live m b hm
      refine ⟨y, hy, ?_⟩
      rcases hr with hr | ⟨g0, g1, g2, o, g3, g4⟩
      · exact .inl hr
      · refine .inr ⟨g0, g1, g2, o, ?_, g4⟩
        rw [hw y.b ?_]; exact g3
        intro hby
        exact e (H.sep m n y x (by rw [hm]; simp) (by rw [hn]; simp) hy hx g0 h0 hby)
  · obtain ⟨x', hx', k0, k1, k2, k3, k4⟩ := H.fam n S es hn
    rw [hx] at hx'; obtain rfl := Option.some.inj hx'
    rw [upd_eq] at hm
    split at hm
    · next e =>
      subst e; cases hm
      refine ⟨x, hx, h0, fun b hb' => ⟨(k1 b hb').1, (k1 b hb').2.1, by have := (k1 b hb').2.2; omega⟩, fun p y hp hy => k2 p y (ne p hp) hy, fun p S2 e2 hp hq => ?_, ?_⟩
      · rw [upd_other _ _ _ _ hp] at hq
        exact k3 p S2 e2 hp hq
      · obtain ⟨ρs, r1, r2⟩ := k4
        refine ⟨ρs, fun j k s bl hj => ?_, ?_⟩
        · obtain ⟨k', e1, e2⟩ := hsh j k s bl hj
          obtain ⟨⟨en, c, y, f1, f2, f3⟩, f4⟩ := r1 j k' s bl e1
          rw [ho] at f1; cases f1
          obtain ⟨y2, f5, f6⟩ := e2 y f2
          refine ⟨⟨ents2, cl2, y2, hb, f5, by rw [f6]; exact f3⟩, fun i c hc => ?_⟩
          obtain ⟨z, z1, z2⟩ := f4 i c hc
          refine ⟨z, z1, ?_⟩
          rcases z2 with z2 | ⟨z2, z3, o, z4, z5⟩
          · exact .inl z2
          · refine .inr ⟨z2, z3, o, ?_, z5⟩
            rw [hw z.b ?_]; exact z4
            intro e; exact k2 m x (by rw [hn]; simp) hx h0 (e ▸ z3)
        · intro j j' k k' s s' bl bl' i i' c c' z z' hj hj'
          obtain ⟨a1, b1, _⟩ := hsh j k s bl hj
          obtain ⟨a2, b2, _⟩ := hsh j' k' s' bl' hj'
          exact r2 j j' a1 a2 s s' bl bl' i i' c c' z z' b1 b2
    · next e =>
      obtain ⟨y, hy, g0, g1, g2, g3, g4⟩ := H.fam m S' es' hm
      refine ⟨y, hy, g0, fun b hb' => ⟨(g1 b hb').1, (g1 b hb').2.1, by have := (g1 b hb').2.2; omega⟩, fun p z hp hz => g2 p z (ne p hp) hz, fun p S2 e2 hp hq => ?_, g4.last (Imm.le_refl _) (fun c hc => hw c ?_)⟩
      · rw [upd_eq] at hq
        split at hq
        · next e3 => subst e3; cases hq; exact g3 p S es hp hn
        · exact g3 p S2 e2 hp hq
      · rintro rfl
        rcases hc with hc | hc
        · exact e (H.sep m n y x (by rw [hm]; simp) (by rw [hn]; simp) hy hx g0 h0 hc.symm)
        · exact g2 n x (by rw [hn]; simp) hx h0 hc

/-- The map behind a write: the entry written stands open. -/
def fset (key : Value) (u : SV) (r : Option Nat) (es : List (Value × SV × List InB)) : Fam := match r with
  | none => ⟨es ++ [(key, .any, [])], [(es.length, u)]⟩
  | some j => ⟨es.set j (key, .any, []), [(j, u)]⟩

theorem updF_ok {C : Ctx} {o : Oper} {nm : Nat} {v : Operand → SV} {t kt el : TypeId} {y z q : Operand} (ho : o.op = .mapUpdate t y z q) (ht : C.P.underlying t = some (.map kt el))
    {n : Nat} {S : List Nat} {es : Fam} (hy : v y = .map n) {key : Value} (hz : ∀ M ρ u, VR M ρ (v z) u → u = key) {u : SV} (hq : v q = u) {r : Option Nat} (hr : KFind C.P kt key (es.es.map (·.1)) r) (hop : ∀ p, p ∈ es.op → r = some p.1) :
    OpOK C o nm v [(n, .fam S es)] (fun x w => x = .any ∧ w = [(n, some (.fam S (fset key u r es.es)))]) := by
  have m3 : ∀ x, x = y ∨ x = z ∨ x = q → x ∈ o.op.operands := by intro x hx; rw [ho]; rcases hx with rfl | rfl | rfl <;> simp [Op.operands]
  refine ok_skip fun M F ρ a h w hv hH hbs hfr => ?_
  have e1 := hv y (m3 y (.inl rfl)); rw [hy] at e1
  have e2 := hz _ _ _ (hv z (m3 z (.inr (.inl rfl))))
  have e3 := hv q (m3 q (.inr (.inr rfl))); rw [hq] at e3
  have hn := hbs _ (List.mem_singleton.2 rfl)
  have hn : h n = some (.fam S es) := hn
  generalize hqy : a.eval y = qy at e1
  cases e1 with
  | map _ x hx =>
    obtain ⟨h0, hM, hF, ents, cl, k1, k2, k3, _, k5⟩ := hH.famObj hn hx
    obtain ⟨hcl, k4⟩ := hH.famBorn hn hx k1
    have hb : x.b < w.heap.size := (Array.getElem?_eq_some_iff.1 k1).1
    have hg := run_getObj_map (P := C.P) k1
    have hc := hr.chk false w
    have hf := hr.fnd ents.toList w k3
    cases r with
    | none =>
      have hf : (Instr.findKey kt key ents.toList).run C.P w = .ok none w := hf
      refine ⟨ρ, { w with heap := w.heap.setIfInBounds x.b (.map (ents.push { key := key, val := a.eval q, born := cl }) (cl + 1)) }, Names.le_refl _, fun _ _ => rfl, by simp [execOp, ho, hqy, e2, Instr.mapUpdate, run_underlying ht, hg, hc, hf, run_setObj_map k1], ?_, ⟨rfl, rfl, rfl, by simp⟩⟩
      refine HR.putFam (w' := { w with heap := w.heap.setIfInBounds x.b (.map (ents.push { key := key, val := a.eval q, born := cl }) (cl + 1)) }) (ents2 := ents.push { key := key, val := a.eval q, born := cl }) (cl2 := cl + 1) hH hn hx k1 (by simp [hb]) (fun b hb' => by simp [Array.getElem?_setIfInBounds_ne (Ne.symm hb')]) (by simp) ⟨⟨by simp [fset, k2], by simp [hcl]⟩, fun j e he => ?_, fun p hp => ?_⟩ (fun j k s bl hj => ?_)
      · simp only [fset] at he
        by_cases hj : j < es.es.length
        · rw [List.getElem?_append_left hj] at he
          obtain ⟨y, a1, a2⟩ := k4 j e he
          exact ⟨y, by rw [Array.getElem?_push, if_neg (by omega)]; exact a1, a2⟩
        · rw [List.getElem?_append_right (by omega)] at he
          have hje : j = es.es.length := by
            have := (List.getElem?_eq_some_iff.1 he).1
            simp at this; omega
          subst hje
          simp at he; subst he
          exact ⟨⟨key, a.eval q, cl⟩, by rw [Array.getElem?_push, if_pos k2.symm], rfl, by rw [hcl, k2]⟩
      · simp only [fset, List.mem_singleton] at hp
        subst hp
        exact ⟨⟨key, a.eval q, cl⟩, by rw [Array.getElem?_push, if_pos k2.symm], e3⟩
      · obtain ⟨hj, hjo⟩ := hj
        simp only [fset] at hj hjo
        have hne : es.es.length ≠ j := hjo _ (List.mem_singleton.2 rfl)
        have hjl : j < es.es.length := by
          have := (List.getElem?_eq_some_iff.1 hj).1
          simp at this; omega
        rw [List.getElem?_append_left hjl] at hj
        exact ⟨k, ⟨hj, fun p hp => by have := hop p hp; cases this⟩, fun y hy => ⟨y, by rw [Array.getElem?_push, if_neg (by omega)]; exact hy, rfl⟩⟩
    | some j0 =>
      obtain ⟨hj0, hsb⟩ := hr.inn j0 rfl
      rw [List.length_map] at hj0
      obtain ⟨y0, y1, y2, y3⟩ := k4 j0 _ (List.getElem?_eq_getElem hj0)
      have hf : (Instr.findKey kt key ents.toList).run C.P w = .ok (some (j0, y0.val)) w := by rw [hf]; simp [y1]
      have hkey : ((ents[j0]?).map (·.key)).getD key = y0.key := by rw [y1]; rfl
      have hks : (es.es.map (·.1)).getD j0 key = y0.key := by
        rw [List.getD_eq_getElem?_getD, List.getElem?_map, List.getElem?_eq_getElem hj0, y2]; rfl
      have hstay : (Instr.keyThatStays y0.key key).run C.P w = .ok key w := by
        rw [hks] at hsb
        simp [Instr.keyThatStays, hsb]
      refine ⟨ρ, { w with heap := w.heap.setIfInBounds x.b (.map (ents.modify j0 fun e => { e with key := key, val := a.eval q }) cl) }, Names.le_refl _, fun _ _ => rfl, ?_, ?_, ⟨rfl, rfl, rfl, by simp⟩⟩
      · simp only [execOp, ho, hqy, e2, Instr.mapUpdate, Sem.run_bind, run_underlying ht, hg, hc, hf, Result.andThen_ok, Sem.run_pure, hkey, hstay, run_setObj_map k1]
      · refine HR.putFam (w' := { w with heap := w.heap.setIfInBounds x.b (.map (ents.modify j0 fun e => { e with key := key, val := a.eval q }) cl) }) (ents2 := ents.modify j0 fun e => { e with key := key, val := a.eval q }) (cl2 := cl) hH hn hx k1 (by simp [hb]) (fun b hb' => by simp [Array.getElem?_setIfInBounds_ne (Ne.symm hb')]) (by simp) ⟨⟨by simp [fset, k2], by simp [hcl]⟩, fun i e he => ?_, fun p hp => ?_⟩ (fun i k s bl hi => ?_)
        · simp only [fset] at he
          rw [List.getElem?_set] at he
          split at he
          · next hi =>
            subst hi
            cases he
            exact ⟨{ y0 with key := key, val := a.eval q }, by rw [Array.getElem?_modify, if_pos rfl, y1]; rfl, rfl, y3⟩
          · next hi =>
            obtain ⟨y', b1, b2⟩ := k4 i e he
            exact ⟨y', by rw [Array.getElem?_modify, if_neg hi]; exact b1, b2⟩
        · simp only [fset, List.mem_singleton] at hp
          subst hp
          exact ⟨{ y0 with key := key, val := a.eval q }, by rw [Array.getElem?_modify, if_pos rfl, y1]; rfl, e3⟩
        · obtain ⟨hi, hio⟩ := hi
          simp only [fset] at hi hio
          have hne : j0 ≠ i := hio _ (List.mem_singleton.2 rfl)
          rw [List.getElem?_set_ne hne] at hi
          exact ⟨k, ⟨hi, fun p hp => by have := hop p hp; cases this; exact hne⟩, fun y hy => ⟨y, by rw [Array.getElem?_modify, if_neg hne]; exact hy, rfl⟩⟩

section
variable {C : Ctx} {ops : List Oper} {i : Nat} {o : Oper} {l : List Oper} {t : Nat → SV} {h h' : Heap} {nx : Nat} {K : St → Prop} {acc : List FP} {ty kt el : TypeId} {y z q : Operand} {ok : Bool} {n : Nat} {S : List Nat} {es : Fam} {key : Value} {u u' : SV}
theorem sLookF (r : Option Nat) (u : SV) (hr : KFind C.P kt key (es.es.map (·.1)) r) (hu : (r = none ∧ ∃ zl, (C.P.info? el).bind (·.zero) = some zl ∧ zl.oneCell' = true ∧ u = toSV zl) ∨ ∃ j, r = some j ∧ (j, u) ∈ es.op) (d nm i' : Nat) (hi : i + 1 = i') (hnm : nx + 8 * i = nm) (hg : o.guard = none) (hdst : o.dst = some d) (hd : Nat.blt d C.sz = true) (ho : o.op = .lookup ty y z ok)
    (ht : C.P.underlying ty = some (.map kt el)) (hy : opv C t y = .map n) (hz : ∀ M ρ u, VR M ρ (opv C t z) u → u = key) (hn : h n = some (.fam S es)) (hh : (foundS ok u r.isSome).hd = some u')
    (k : wops C ops i' l ⟨upd t d u', h, nx⟩ none K) : wops C ops i (o :: l) ⟨t, h, nx⟩ none K := by
  subst hi; subst hnm
  refine st_ok (σ := ⟨t, h, nx⟩) hg (by unfold dstOK; rw [hdst]; exact hd) (lookF_ok ho ht hy hz hr hu) (fun p hp => by rw [List.mem_singleton.1 hp]; exact hn) rfl ?_
  unfold St.app; rw [hdst, SV.hd_eq hh]; exact k
theorem dLookF (r : Option Nat) (u : SV) (hr : KFind C.P kt key (es.es.map (·.1)) r) (hu : (r = none ∧ ∃ zl, (C.P.info? el).bind (·.zero) = some zl ∧ zl.oneCell' = true ∧ u = toSV zl) ∨ ∃ j, r = some j ∧ (j, u) ∈ es.op) (d nm i' : Nat) (hi : i + 1 = i') (hnm : nx + 8 * i = nm) (hg : o.guard = none) (hdst : o.dst = some d) (hd : Nat.blt d C.sz = true) (ho : o.op = .lookup ty y z ok)
    (ht : C.P.underlying ty = some (.map kt el)) (hy : opv C t y = .map n) (hz : ∀ M ρ u, VR M ρ (opv C t z) u → u = key) (hn : h n = some (.fam S es)) (hh : (foundS ok u r.isSome).hd = some u')
    (k : wops C ops i' l ⟨upd t d u', h, nx⟩ (some (acc ++ [([n], [])])) K) : wops C ops i (o :: l) ⟨t, h, nx⟩ (some acc) K := by
  subst hi; subst hnm
  refine st_ok (σ := ⟨t, h, nx⟩) hg (by unfold dstOK; rw [hdst]; exact hd) (lookF_ok ho ht hy hz hr hu) (fun p hp => by rw [List.mem_singleton.1 hp]; exact hn) rfl ?_
  unfold St.app; rw [hdst, SV.hd_eq hh]; exact k
theorem sMapF (r : Option Nat) (u : SV) (hr : KFind C.P kt key (es.es.map (·.1)) r) (hop : ∀ p, p ∈ es.op → r = some p.1) (nm i' : Nat) (hi : i + 1 = i') (hnm : nx + 8 * i = nm) (hg : o.guard = none) (hdst : o.dst = none) (ho : o.op = .mapUpdate ty y z q)
    (ht : C.P.underlying ty = some (.map kt el)) (hy : opv C t y = .map n) (hz : ∀ M ρ u, VR M ρ (opv C t z) u → u = key) (hn : h n = some (.fam S es)) (hq : (opv C t q).hd = some u)
    (k : wops C ops i' l ⟨t, upd h n (some (.fam S (fset key u r es.es))), nx⟩ none K) : wops C ops i (o :: l) ⟨t, h, nx⟩ none K := by
  subst hi; subst hnm
  refine st_ok (σ := ⟨t, h, nx⟩) hg (by unfold dstOK; rw [hdst]) (updF_ok ho ht hy hz (SV.hd_eq hq) hr hop) (fun p hp => by rw [List.mem_singleton.1 hp]; exact hn) (by simp [keysIn]) ?_
  unfold St.app; rw [hdst]; exact k
theorem dMapF (r : Option Nat) (u : SV) (hr : KFind C.P kt key (es.es.map (·.1)) r) (hop : ∀ p, p ∈ es.op → r = some p.1) (nm i' : Nat) (hi : i + 1 = i') (hnm : nx + 8 * i = nm) (hg : o.guard = none) (hdst : o.dst = none) (ho : o.op = .mapUpdate ty y z q)
    (ht : C.P.underlying ty = some (.map kt el)) (hy : opv C t y = .map n) (hz : ∀ M ρ u, VR M ρ (opv C t z) u → u = key) (hn : h n = some (.fam S es)) (hq : (opv C t q).hd = some u)
    (k : wops C ops i' l ⟨t, upd h n (some (.fam S (fset key u r es.es))), nx⟩ (some (acc ++ [([n], [n])])) K) : wops C ops i (o :: l) ⟨t, h, nx⟩ (some acc) K := by
  subst hi; subst hnm
  refine st_ok (σ := ⟨t, h, nx⟩) hg (by unfold dstOK; rw [hdst]) (updF_ok ho ht hy hz (SV.hd_eq hq) hr hop) (fun p hp => by rw [List.mem_singleton.1 hp]; exact hn) (by simp [keysIn]) ?_
  unfold St.app; rw [hdst]; exact k
end
end Go.Proofs.Ytlhncpbcbpdcfaa.Nice
