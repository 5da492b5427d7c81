/- Operations, fourth part: fields, places, slices of slices, make, function values, len, division, maps, calls; and the step that takes them all. -/
import Derived.Test.YtpdojmebloekgaaDoorNiceG
namespace Go.Proofs.YtpdojmebloekgaaDoor.Nice
open Go
set_option linter.unusedVariables false

theorem fn_case {M : Imm} {ρ : Names} {f : FuncId} {caps : List SV} {v : Value} (h : VR M ρ (.fn f caps) v) : ∃ vs : Array Value, v = .func (.func f) #[] vs ∧ vs.size = caps.length ∧ ∀ (i : Nat) (x : SV), caps[i]? = some x → ∃ u, vs[i]? = some u ∧ VR M ρ x u := by
  cases h with
  | fn _ _ vs g hs hg hr => exact ⟨vs, rfl, hs, fun i x hx => ⟨g i, hg i (List.getElem?_eq_some_iff.1 hx).1, hr i x hx⟩⟩
theorem agg_case {M : Imm} {ρ : Names} {xs : List SV} {v : Value} (h : VR M ρ (.agg xs) v) : ∃ vs : Array Value, v = .agg vs ∧ RL M ρ xs vs := by
  cases h with
  | agg _ vs g hs hg hr => exact ⟨vs, rfl, hs, fun i x hx => ⟨g i, hg i (List.getElem?_eq_some_iff.1 hx).1, hr i x hx⟩⟩
theorem tup_case {M : Imm} {ρ : Names} {xs : List SV} {v : Value} (h : VR M ρ (.tup xs) v) : ∃ vs : Array Value, v = .tuple vs ∧ RL M ρ xs vs := by
  cases h with
  | tup _ vs g hs hg hr => exact ⟨vs, rfl, hs, fun i x hx => ⟨g i, hg i (List.getElem?_eq_some_iff.1 hx).1, hr i x hx⟩⟩

def nilCheckS (x : SV) : Option Out :=
  match x with
  | .ptr .. | .vp .. | .fn .. => some (True, [], x, [])
  | _ => none
theorem nilCheck_ok {C : Ctx} {o : Oper} {nm : Nat} {v : Operand → SV} {h : Heap} {x : Out} {y : Operand} (ho : o.op = .nilCheck y) (e : nilCheckS (v y) = some x) : Sound C o nm v h x := by
  unfold nilCheckS at e
  split at e
  · next hy =>
    cases e
    intro _
    refine ⟨ok_pure fun M F ρ a h w hv hH _ => ⟨a.eval y, ?_, hv y (by rw [ho]; exact mem_ops1)⟩, fun p hp => by simp at hp, rfl⟩
    have := hv y (by rw [ho]; exact mem_ops1); rw [hy] at this
    generalize hq : a.eval y = q at this
    cases this; simp [execOp, ho, hq]
  · next hy =>
    cases e
    intro _
    refine ⟨ok_pure fun M F ρ a h w hv hH _ => ⟨a.eval y, ?_, hv y (by rw [ho]; exact mem_ops1)⟩, fun p hp => by simp at hp, rfl⟩
    have := hv y (by rw [ho]; exact mem_ops1); rw [hy] at this
    generalize hq : a.eval y = q at this
    cases this; simp [execOp, ho, hq]
  · next hy =>
    cases e
    intro _
    refine ⟨ok_pure fun M F ρ a h w hv hH _ => ⟨a.eval y, ?_, hv y (by rw [ho]; exact mem_ops1)⟩, fun p hp => by simp at hp, rfl⟩
    have := hv y (by rw [ho]; exact mem_ops1); rw [hy] at this
    generalize hq : a.eval y = q at this
    cases this; simp [execOp, ho, hq]
  · cases e

def fieldAddrS (P : Program) (t : TypeId) (x : SV) (f : Nat) : Option Out :=
  match P.underlying t with
  | some (.struct fs) =>
    match fs.toList[f]? with
    | some fd =>
      match P.info? fd.type with
      | some i => if Nat.blt 0 i.size then
          match x with
          | .ptr n r c => some (True, [], .ptr n r (c + fd.offset), [])
          | .vp k l g r c => some (True, [], .vp k l g r (c + fd.offset), [])
          | _ => none
        else none
      | none => none
    | none => none
  | _ => none
theorem fieldAddr_ok {C : Ctx} {o : Oper} {nm : Nat} {v : Operand → SV} {h : Heap} {x : Out} {t : TypeId} {y : Operand} {f : Nat} (ho : o.op = .fieldAddr t y f) (e : fieldAddrS C.P t (v y) f = some x) : Sound C o nm v h x := by
  unfold fieldAddrS at e
  split at e
  · next fs hfs =>
    split at e
    · next fd hfd =>
      split at e
      · next i hi =>
        split at e
        · next hpos =>
          have hpos : i.size ≠ 0 := by have : 0 < i.size := by simpa using hpos
                                       omega
          have hfd' : fs[f]? = some fd := by simpa using hfd
          have run : ∀ (b off : Nat) (w : World), (Instr.fieldAt t (.pointer (some ⟨b, off, none⟩)) f).run C.P w = .ok (.pointer (some ⟨b, off + fd.offset, none⟩)) w := by
            intro b off w
            simp [Instr.fieldAt, run_underlying hfs, hfd', Instr.sureAddr, fieldPlace, sizeOf, typeInfo, hi, hpos, Addr.add_lit]
          split at e
          · next n r c hy =>
            cases e
            intro _
            refine ⟨ok_pure fun M F ρ a h w hv hH _ => ?_, fun p hp => by simp at hp, rfl⟩
            have := hv y (by rw [ho]; exact mem_ops1); rw [hy] at this
            generalize hq : a.eval y = q at this
            cases this with
            | ptr _ _ _ z hz =>
              refine ⟨_, by simp [execOp, ho, hq, run]; rfl, ?_⟩
              have := VR.ptr (M := M) n r (c + fd.offset) z hz
              rw [Nat.add_assoc]; exact this
          · next k l g r c hy =>
            cases e
            intro _
            refine ⟨ok_pure fun M F ρ a h w hv hH _ => ?_, fun p hp => by simp at hp, rfl⟩
            have := hv y (by rw [ho]; exact mem_ops1); rw [hy] at this
            generalize hq : a.eval y = q at this
            cases this with
            | vp _ _ _ _ _ b off cur T fz g' hb hg hr =>
              refine ⟨_, by simp [execOp, ho, hq, run]; rfl, ?_⟩
              have := VR.vp (M := M) (ρ := ρ) k l g r (c + fd.offset) b off cur T fz g' hb hg hr
              rw [Nat.add_assoc (off + r * k)]; exact this
          · cases e
        · cases e
      · cases e
    · cases e
  · cases e

/-- A part of a struct's value. -/
def fieldS (P : Program) (t : TypeId) (x : SV) (f : Nat) : Option Out :=
  match P.underlying t with
  | some (.struct fs) =>
    match fs.toList[f]? with
    | some fd =>
      match P.info? fd.type, isAggB P fd.type with
      | some i, some true => match x with
        | .agg xs => if Nat.ble (fd.offset + i.size) xs.length then some (True, [], .agg ((xs.drop fd.offset).take i.size), []) else none
        | _ => none
      | some i, some false => match x with
        | .agg xs => match xs[fd.offset]? with
          | some y => some (True, [], y, [])
          | none => none
        | _ => none
      | _, _ => none
    | none => none
  | _ => none
theorem field_ok {C : Ctx} {o : Oper} {nm : Nat} {v : Operand → SV} {h : Heap} {x : Out} {t : TypeId} {y : Operand} {f : Nat} (ho : o.op = .field t y f) (e : fieldS C.P t (v y) f = some x) : Sound C o nm v h x := by
  unfold fieldS at e
  split at e
  · next fs hfs =>
    split at e
    · next fd hfd =>
      have hfd' : fs[f]? = some fd := by simpa using hfd
      split at e
      · next i hi hag =>
        split at e
        · next xs hy =>
          split at e
          · next hle =>
            cases e
            intro _
            refine ⟨ok_pure fun M F ρ a h w hv hH _ => ?_, fun p hp => by simp at hp, rfl⟩
            have := hv y (by rw [ho]; exact mem_ops1); rw [hy] at this
            obtain ⟨vs, hq, hRL⟩ := agg_case this
            have hle := Nat.le_of_ble_eq_true hle
            refine ⟨.agg (vs.extract fd.offset (fd.offset + i.size)), by simp [execOp, ho, hq, Instr.field, run_underlying hfs, hfd', asAgg, part, run_isAgg hag, sizeOf, typeInfo, hi], .aggOf _ _ ?_ fun j s hs => ?_⟩
            · rw [Array.size_extract, List.length_take, List.length_drop, hRL.1]; omega
            · rw [List.getElem?_take] at hs
              split at hs
              · next hj =>
                rw [List.getElem?_drop] at hs
                obtain ⟨u, u1, u2⟩ := hRL.2 _ s hs
                refine ⟨u, ?_, u2⟩
                rw [Array.getElem?_extract, if_pos (by have := hRL.1; omega)]; exact u1
              · cases hs
          · cases e
        · cases e
      · next i hi hag =>
        split at e
        · next xs hy =>
          split at e
          · next y' hy' =>
            cases e
            intro _
            refine ⟨ok_pure fun M F ρ a h w hv hH _ => ?_, fun p hp => by simp at hp, rfl⟩
            have := hv y (by rw [ho]; exact mem_ops1); rw [hy] at this
            obtain ⟨vs, hq, hRL⟩ := agg_case this
            obtain ⟨u, u1, u2⟩ := hRL.2 _ _ hy'
            exact ⟨u, by simp [execOp, ho, hq, Instr.field, run_underlying hfs, hfd', asAgg, part, run_isAgg hag, u1], u2⟩
          · cases e
        · cases e
      · cases e
    · cases e
  · cases e

def indexAddrS (P : Program) (t : TypeId) (x ix : SV) (h : Heap) : Option Out :=
  match ix with
  | .d (.val (.int kk n)) =>
    match P.underlying t with
    | some (.slice e) =>
      match P.info? e with
      | some i =>
        match x with
        | .d (.vec k len f) => if Nat.beq k i.size then some (0 ≤ n ∧ n < len, [], .vp k len f n.toNat 0, []) else none
        | .sl m o len =>
          match h m with
          | some (.cells ty k xs) => if Nat.beq k i.size then some (0 ≤ n ∧ n < len, [(m, .cells ty k xs)], .ptr m (o + n.toNat) 0, []) else none
          | some (.rows ty k L f) => if Nat.beq k i.size then some ((0 ≤ n ∧ n < len) ∧ 0 < L, [(m, .rows ty k L f)], .ptr m (o + n.toNat) 0, []) else none
          | _ => none
        | _ => none
      | none => none
    | some (.array len e) =>
      match P.info? e with
      | some i =>
        match x with
        | .ptr m r c => some (0 ≤ n ∧ n < len, [], .ptr m r (c + n.toNat * i.size), [])
        | .vp k l f r c => if Nat.beq k i.size && Nat.beq c 0 then some (0 ≤ n ∧ n < len, [], .vp k l f (r + n.toNat) 0, []) else some (0 ≤ n ∧ n < len, [], .vp k l f r (c + n.toNat * i.size), [])
        | _ => none
      | none => none
    | _ => none
  | _ => none

theorem indexAddr_ok {C : Ctx} {o : Oper} {nm : Nat} {v : Operand → SV} {h : Heap} {x : Out} {t : TypeId} {y ix : Operand} (ho : o.op = .indexAddr t y ix) (e : indexAddrS C.P t (v y) (v ix) h = some x) : Sound C o nm v h x := by
  have my : y ∈ o.op.operands := by rw [ho]; exact mem_ops2 (.inl rfl)
  have mi : ix ∈ o.op.operands := by rw [ho]; exact mem_ops2 (.inr rfl)
  unfold indexAddrS at e
  split at e
  · next kk n hix =>
    have hval : ∀ {M : Imm} {ρ : Names} {a : Act}, (∀ x, x ∈ o.op.operands → VR M ρ (v x) (a.eval x)) → a.eval ix = .int kk n := by
      intro M ρ a hv
      have := hv ix mi; rw [hix] at this; exact this.val
    split at e
    · next el hel =>
      split at e
      · next i hi =>
        have run : ∀ (ad : Addr) (len cap : Nat) (w : World), 0 ≤ n → n < len → (Instr.indexAt t (.slice (some ad) len cap) (.int kk n)).run C.P w = .ok (.pointer (some (ad.add (n.toNat * i.size)))) w := by
          intro ad len cap w h0 h1
          simp [Instr.indexAt, asIntOf, run_underlying hel, h0, h1, sizeOf, typeInfo, hi]
        split at e
        · next k len f hy =>
          split at e
          · next hk =>
            cases e
            rintro ⟨h0, h1⟩
            have hk := Nat.eq_of_beq_eq_true hk; subst hk
            refine ⟨ok_pure fun M F ρ a h w hv hH _ => ?_, fun p hp => by simp at hp, rfl⟩
            have := hv y my; rw [hy] at this
            generalize hq : a.eval y = q at this
            cases this with
            | d _ _ hd =>
              cases hd with
              | vec0 => exfalso; omega
              | vec _ _ _ b off cap cur T fz g hb hc hg hr =>
                refine ⟨_, by simp only [execOp, ho, hq, hval hv, Sem.run_bind, run ⟨b, off, none⟩ len cap w h0 h1, Result.andThen_ok, Sem.run_pure]; rfl, ?_⟩
                have := VR.vp (M := M) (ρ := ρ) i.size len f n.toNat 0 b off cur T fz g hb hg hr
                rw [Addr.add_lit]; simpa using this
          · cases e
        · next m off len hy =>
          have core : ∀ (blk : Blk) (extra : Prop), h m = some blk → (∀ (M F : Imm) (ρ : Names) (h' : Heap) (w : World) (x : Own), extra → HR M F ρ h' w → h' m = some blk → ρ m = some x → 0 < x.R → x.k = i.size) →
              (0 ≤ n ∧ n < len) → extra → Sound C o nm v h (True, [(m, blk)], .ptr m (off + n.toNat) 0, []) := by
            rintro blk extra hm hwid ⟨h0, h1⟩ hex _
            refine ⟨ok_pure fun M F ρ a h' w hv hH hbs => ?_, fun p hp => by simp at hp; subst hp; exact hm, rfl⟩
            have hav := hv y my; rw [hy] at hav
            generalize hq : a.eval y = q at hav
            cases hav with
            | sl _ _ _ x hx hl hR hR0 =>
              have hxk := hwid M F ρ h' w x hex hH (hbs _ (List.mem_singleton.2 rfl)) hx hR0
              refine ⟨_, by simp only [execOp, ho, hq, hval hv, Sem.run_bind, run ⟨x.b, off * x.k, none⟩ len (x.R - off) w h0 h1, Result.andThen_ok, Sem.run_pure]; rfl, ?_⟩
              have := VR.ptr (M := M) m (off + n.toNat) 0 x hx
              rw [Addr.add_lit, ← hxk, ← Nat.add_mul]; simpa using this
            | sl0 _ _ x hx hR aa => exfalso; omega
          split at e
          · next ty k xs hm =>
            split at e
            · next hk =>
              cases e
              have hk := Nat.eq_of_beq_eq_true hk
              intro hvc
              exact core _ True hm (fun M F ρ h' w x _ hH hm' hx _ => by obtain ⟨cur, _, _, h3, _⟩ := hH.cells hm' hx; rw [h3, hk]) hvc trivial trivial
            · cases e
          · next ty k L f hm =>
            split at e
            · next hk =>
              cases e
              have hk := Nat.eq_of_beq_eq_true hk
              rintro ⟨hvc, hL⟩
              exact core _ (0 < L) hm (fun M F ρ h' w x hL hH hm' hx _ => by obtain ⟨cur, _, _, h3, _⟩ := hH.rows hm' hL hx; rw [h3, hk]) hvc hL trivial
            · cases e
          · cases e
        · cases e
      · cases e
    · next alen el hel =>
      split at e
      · next i hi =>
        have run : ∀ (ad : Addr) (w : World), 0 ≤ n → n < alen → (Instr.indexAt t (.pointer (some ad)) (.int kk n)).run C.P w = .ok (.pointer (some (ad.add (n.toNat * i.size)))) w := by
          intro ad w h0 h1
          simp [Instr.indexAt, asIntOf, run_underlying hel, h0, h1, sizeOf, typeInfo, hi, Instr.sureAddr]
        split at e
        · next m r c hy =>
          cases e
          rintro ⟨h0, h1⟩
          refine ⟨ok_pure fun M F ρ a h w hv hH _ => ?_, fun p hp => by simp at hp, rfl⟩
          have := hv y my; rw [hy] at this
          generalize hq : a.eval y = q at this
          cases this with
          | ptr _ _ _ z hz =>
            refine ⟨_, by simp only [execOp, ho, hq, hval hv, Sem.run_bind, run _ w h0 h1, Result.andThen_ok, Sem.run_pure]; rfl, ?_⟩
            have := VR.ptr (M := M) m r (c + n.toNat * i.size) z hz
            rw [Addr.add_lit, Nat.add_assoc]; exact this
        · next k l f r c hy =>
          split at e
          · next hk =>
            cases e
            rintro ⟨h0, h1⟩
            simp only [Bool.and_eq_true] at hk
            have hk1 := Nat.eq_of_beq_eq_true hk.1; subst hk1
            have hk2 := Nat.eq_of_beq_eq_true hk.2; subst hk2
            refine ⟨ok_pure fun M F ρ a h w hv hH _ => ?_, fun p hp => by simp at hp, rfl⟩
            have := hv y my; rw [hy] at this
            generalize hq : a.eval y = q at this
            cases this with
            | vp _ _ _ _ _ b off cur T fz g hb hg hr =>
              refine ⟨_, by simp only [execOp, ho, hq, hval hv, Sem.run_bind, run _ w h0 h1, Result.andThen_ok, Sem.run_pure]; rfl, ?_⟩
              have := VR.vp (M := M) (ρ := ρ) i.size l f (r + n.toNat) 0 b off cur T fz g hb hg hr
              rw [Addr.add_lit]
              rw [Nat.add_mul] at this
              simpa [Nat.add_assoc] using this
          · cases e
            rintro ⟨h0, h1⟩
            refine ⟨ok_pure fun M F ρ a h w hv hH _ => ?_, fun p hp => by simp at hp, rfl⟩
            have := hv y my; rw [hy] at this
            generalize hq : a.eval y = q at this
            cases this with
            | vp _ _ _ _ _ b off cur T fz g hb hg hr =>
              refine ⟨_, by simp only [execOp, ho, hq, hval hv, Sem.run_bind, run _ w h0 h1, Result.andThen_ok, Sem.run_pure]; rfl, ?_⟩
              have := VR.vp (M := M) (ρ := ρ) k l f r (c + n.toNat * i.size) b off cur T fz g hb hg hr
              rw [Addr.add_lit, Nat.add_assoc (off + r * k)]; exact this
        · cases e
      · cases e
    · cases e
  · cases e

/-- A byte of a string. -/
def indexS (P : Program) (t : TypeId) (x ix : SV) : Option Out :=
  match x, ix with
  | .d (.val (.string s)), .d (.val (.int kk n)) =>
    match P.underlying t with
    | some .string => some (0 ≤ n ∧ n < s.size, [], .d (.val (.int .u8 ((s.data.getD n.toNat 0).toNat : Int))), [])
    | _ => none
  | _, _ => none
theorem index_ok {C : Ctx} {o : Oper} {nm : Nat} {v : Operand → SV} {h : Heap} {x : Out} {t : TypeId} {y ix : Operand} (ho : o.op = .index t y ix) (e : indexS C.P t (v y) (v ix) = some x) : Sound C o nm v h x := by
  unfold indexS at e
  split at e
  · next s kk n hy hix =>
    split at e
    · next hst =>
      cases e
      rintro ⟨h0, h1⟩
      refine ⟨ok_pure fun M F ρ a h w hv hH _ => ⟨_, ?_, .d _ _ (.val _ rfl)⟩, fun p hp => by simp at hp, rfl⟩
      have e1 := hv y (by rw [ho]; exact mem_ops2 (.inl rfl)); rw [hy] at e1
      have e2 := hv ix (by rw [ho]; exact mem_ops2 (.inr rfl)); rw [hix] at e2
      have hlt : n.toNat < s.size := by omega
      have hget : s[n.toNat]? = some (s.data.getD n.toNat 0) := by
        have h2 : n.toNat < s.data.size := hlt
        rw [getElem?_pos s n.toNat hlt]
        simp only [Array.getD]
        rw [dif_pos h2]; rfl
      simp [execOp, ho, e1.val, e2.val, Instr.index, asIntOf, run_underlying hst, h0, hget]
    · cases e
  · cases e

def makeFuncS (fn : Go.Fn) (first : List Operand) (caps : List SV) : Option Out :=
  match fn, first with
  | .func f, [] => some (True, [], .fn f caps, [])
  | _, _ => none
def mapV (v : Operand → SV) : List Operand → List SV
  | [] => []
  | x :: r => v x :: mapV v r
theorem mapV_get {v : Operand → SV} : ∀ (l : List Operand) (i : Nat), (mapV v l)[i]? = (l[i]?).map v
  | [], i => by simp [mapV]
  | x :: r, 0 => by simp [mapV]
  | x :: r, i + 1 => by simp [mapV, mapV_get r i]
theorem mapV_length {v : Operand → SV} : ∀ (l : List Operand), (mapV v l).length = l.length
  | [] => rfl
  | x :: r => by simp [mapV, mapV_length r]
theorem mapV_rel {M : Imm} {ρ : Names} {a : Act} {v : Operand → SV} {xs : Array Operand} (hv : ∀ x, x ∈ xs → VR M ρ (v x) (a.eval x)) : RL M ρ (mapV v xs.toList) (xs.map a.eval) := by
  refine ⟨by simp [mapV_length], fun i x hx => ?_⟩
  rw [mapV_get, Array.getElem?_toList] at hx
  cases hi : xs[i]? with
  | none => rw [hi] at hx; cases hx
  | some y =>
    rw [hi] at hx; cases hx
    exact ⟨a.eval y, by simp [hi], hv y (Array.mem_of_getElem? hi)⟩
theorem makeFunc_ok {C : Ctx} {o : Oper} {nm : Nat} {v : Operand → SV} {h : Heap} {x : Out} {fn : Go.Fn} {first caps : Array Operand} (ho : o.op = .makeFunc fn first caps) (e : makeFuncS fn first.toList (mapV v caps.toList) = some x) : Sound C o nm v h x := by
  unfold makeFuncS at e
  split at e
  · next f hfirst =>
    cases e
    intro _
    have hfe : first = #[] := by cases first; simp_all
    subst hfe
    refine ⟨ok_pure fun M F ρ a h w hv hH _ => ?_, fun p hp => by simp at hp, rfl⟩
    have hr := mapV_rel (M := M) (ρ := ρ) (a := a) (v := v) (xs := caps) (fun x hx => hv x (by rw [ho]; simp [Op.operands, hx]))
    refine ⟨.func (.func f) #[] (caps.map a.eval), by simp [execOp, ho, Instr.makeFunc], ?_⟩
    refine .fn f _ _ (fun i => (caps.map a.eval).getD i undef) hr.1 (fun i hi => ?_) fun i x hx => ?_
    · have : i < (caps.map a.eval).size := by rw [hr.1]; exact hi
      simp only [Array.getD, this, dite_true]
      exact Array.getElem?_eq_getElem this
    · obtain ⟨u, u1, u2⟩ := hr.2 i x hx
      rw [Array.getD_eq_getD_getElem?, u1]; exact u2
  · cases e

def makeMapS (nm : Nat) (r : Option Operand) : Option Out :=
  match r with
  | none => some (True, [], .map nm, [(nm, some (.map []))])
  | some _ => none
theorem makeMap_ok {C : Ctx} {o : Oper} {nm : Nat} {v : Operand → SV} {h : Heap} {x : Out} {t : TypeId} {r : Option Operand} (ho : o.op = .makeMap t r) (e : makeMapS nm r = some x) : Sound C o nm v h x := by
  unfold makeMapS at e
  split at e
  · cases e
    intro _
    refine ⟨ok_value fun M F ρ a h w hv hH _ hfr => ?_, fun p hp => by simp at hp, by simp [keysIn]⟩
    obtain ⟨ρ', k1, k2, k3, k4⟩ := new_block hH hfr 1 1 (by omega) (.map []) (.map #[] 0) (by
      intro ρ' _
      exact ⟨⟨rfl, rfl⟩, fun j e hj => by simp at hj⟩)
    refine ⟨ρ', .map (some w.heap.size), _, k1, k2, ?_, .map nm _ k3, k4, Same.alloc _ _⟩
    simp [execOp, ho, Instr.makeMap]
  · cases e

def zeroRow (zs : List SV) : Nat → Nat → D := fun _ c => match zs[c]? with | some (.d x) => x | _ => .any
def makeSliceS (P : Program) (nm : Nat) (t : TypeId) (l c : SV) : Option Out :=
  match l, c with
  | .d (.val (.int _ n)), .d (.val (.int _ m)) =>
    match P.underlying t with
    | some (.slice e) =>
      match P.info? e, zerosOf P e with
      | some i, some z => if Nat.blt 0 z.length then some (0 ≤ n ∧ m = n ∧ n * i.bytes ≤ limB ∧ n ≤ 1000000000000, [], .sl nm 0 n.toNat, [(nm, some (.rows e z.length n.toNat (zeroRow (toSVs z))))]) else none
      | _, _ => none
    | _ => none
  | _, _ => none
theorem makeSlice_ok {C : Ctx} {o : Oper} {nm : Nat} {v : Operand → SV} {h : Heap} {x : Out} {t : TypeId} {l c : Operand} (ho : o.op = .makeSlice t l c) (e : makeSliceS C.P nm t (v l) (v c) = some x) : Sound C o nm v h x := by
  unfold makeSliceS at e
  split at e
  · next k1 n k2 m hl hc =>
    split at e
    · next el hel =>
      split at e
      · next i z hi hz =>
        split at e
        · next hpos =>
          cases e
          rintro ⟨h0, rfl, hb, h63⟩
          have hpos : 0 < z.length := by simpa using hpos
          obtain ⟨i', zv, hi', hzv, hzl, hlen, hone⟩ := zerosOf_ok hz
          rw [hi] at hi'; obtain rfl := Option.some.inj hi'
          refine ⟨ok_value fun M F ρ a h w hv hH _ hfr => ?_, fun p hp => by simp at hp, by simp [keysIn]⟩
          have e1 := hv l (by rw [ho]; exact mem_ops2 (.inl rfl)); rw [hl] at e1
          have e2 := hv c (by rw [ho]; exact mem_ops2 (.inr rfl)); rw [hc] at e2
          have hr := run_make (P := C.P) w t el i zv hel hi hzv k1 k2 m m h0 (Int.le_refl _) (by unfold limB at hb; rw [Int.mul_comm]; omega) (by omega)
          have hex : (execOp a.eval o).run C.P w = .ok (.value (.slice (some ⟨w.heap.size, 0, none⟩) m.toNat m.toNat)) (w.alloc (.cells (madeCells zv.cells (m.toNat * i.size)) el)) := by
            simp [execOp, ho, e1.val, e2.val, hr]
          rcases Nat.eq_zero_or_pos m.toNat with hz0 | hz0
          · obtain ⟨ρ', g1, g2, g3, g4⟩ := hH.ghost hfr el z.length (zeroRow (toSVs z))
            refine ⟨ρ', _, _, g1, g2, hex, ?_, ?_, Same.alloc _ _⟩
            · rw [hz0]; exact .sl0 nm 0 _ g3 rfl _
            · rw [hz0]
              exact g4.beside _
          · obtain ⟨ρ', g1, g2, g3, g4⟩ := new_block hH hfr z.length m.toNat hz0 (.rows el z.length m.toNat (zeroRow (toSVs z))) (.cells (madeCells zv.cells (m.toNat * i.size)) el) (by
              intro ρ' _
              refine ⟨rfl, rfl, rfl, by rw [size_madeCells, hlen], Nat.le_refl _, fun r q hr hq => ?_⟩
              have hzs : zv.cells.size = z.length := by rw [← hzl, Array.length_toList]
              have hlt : r * z.length + q < m.toNat * i.size := by
                rw [← hlen]
                have : (r + 1) * z.length ≤ m.toNat * z.length := Nat.mul_le_mul_right _ hr
                rw [Nat.succ_mul] at this; omega
              refine ⟨z[q]'hq, ?_, ?_⟩
              · have : zv.cells[(r * z.length + q) % zv.cells.size]! = z[q]'hq := by
                  rw [hzs, Nat.mul_add_mod_self_right, Nat.mod_eq_of_lt hq]
                  rw [getElem!_pos zv.cells q (by rw [hzs]; exact hq)]
                  have : zv.cells.toList[q]'(by rw [Array.length_toList, hzs]; exact hq) = z[q]'hq := by simp only [hzl]
                  simpa using this
                simp [madeCells, hlt, this]
              · have hq' : z[q]? = some (z[q]'hq) := List.getElem?_eq_getElem hq
                have hsv : (toSVs z)[q]? = some (toSV (z[q]'hq)) := by rw [toSVs_get, hq']; rfl
                have hvr := toSV_ok (M := M) (ρ := ρ) (hone _ (List.getElem_mem hq))
                unfold zeroRow
                rw [hsv]
                generalize z[q]'hq = u at hvr ⊢
                have hd : ∃ x, toSV u = .d x := by
                  unfold toSV; split
                  · exact ⟨_, rfl⟩
                  · exact ⟨_, rfl⟩
                obtain ⟨x, hx⟩ := hd
                rw [hx] at hvr ⊢
                cases hvr with | d _ _ h => exact h)
            refine ⟨ρ', _, _, g1, g2, hex, ?_, g4, Same.alloc _ _⟩
            have := VR.sl (M := M) nm 0 m.toNat _ g3 (by simp) (by show m.toNat ≤ maxLen; simp only [maxLen]; omega) hz0
            simpa using this
        · cases e
      · cases e
    · cases e
  · cases e

def extractS (x : SV) (i : Nat) : Option Out :=
  match x with
  | .tup xs => match xs[i]? with
    | some y => some (True, [], y, [])
    | none => none
  | _ => none
theorem extract_ok {C : Ctx} {o : Oper} {nm : Nat} {v : Operand → SV} {h : Heap} {x : Out} {y : Operand} {i : Nat} (ho : o.op = .extract y i) (e : extractS (v y) i = some x) : Sound C o nm v h x := by
  unfold extractS at e
  split at e
  · next xs hy =>
    split at e
    · next z hz =>
      cases e
      intro _
      refine ⟨ok_pure fun M F ρ a h w hv hH _ => ?_, fun p hp => by simp at hp, rfl⟩
      have := hv y (by rw [ho]; exact mem_ops1); rw [hy] at this
      obtain ⟨vs, hq, hRL⟩ := tup_case this
      obtain ⟨u, u1, u2⟩ := hRL.2 _ _ hz
      exact ⟨u, by simp [execOp, ho, hq, Instr.extract, u1], u2⟩
    · cases e
  · cases e

/- len -/
def lenS (P : Program) (t : TypeId) (x : SV) (h : Heap) : Option Out :=
  match P.underlying t, x with
  | some (.slice _), .d .nils => some (True, [], SV.i 0, [])
  | some (.slice _), .d (.vec _ len _) => some (True, [], SV.i len, [])
  | some (.slice _), .sl _ _ len => some (True, [], SV.i len, [])
  | some .string, .d (.val (.string s)) => some (True, [], SV.i s.size, [])
  | some (.map _ _), .map n => match h n with
    | some (.map es) => some (True, [(n, .map es)], SV.i es.length, [])
    | _ => none
  | _, _ => none

theorem HR.mapB {M F : Imm} {ρ : Names} {h : Heap} {w : World} (H : HR M F ρ h w) {n : Nat} {es : List (Value × D)} (hn : h n = some (.map es)) {x : Own} (hx : ρ n = some x) :
    0 < x.R ∧ ∃ ents, w.heap[x.b]? = some (.map ents ents.size) ∧ ents.size = es.length ∧ ∀ (j : Nat) (e : Value × D), es[j]? = some e → ∃ y : MapEntry, ents[j]? = some y ∧ y.key = e.1 ∧ DR M e.2 y.val ∧ y.born = j := by
  obtain ⟨x', hx', hr⟩ := H.live n _ hn
  rw [hx] at hx'; obtain rfl := Option.some.inj hx'
  rcases hr with ⟨_, hg⟩ | ⟨h0, _, _, o, h3, h4⟩
  · simp [Blk.ghost] at hg
  · cases o with
    | map ents cl =>
      obtain ⟨⟨h5, rfl⟩, h6⟩ := h4
      exact ⟨h0, ents, h3, h5, h6⟩
    | _ => exact h4.elim
theorem HR.map {M F : Imm} {ρ : Names} {h : Heap} {w : World} (H : HR M F ρ h w) {n : Nat} {es : List (Value × D)} (hn : h n = some (.map es)) {x : Own} (hx : ρ n = some x) :
    0 < x.R ∧ ∃ ents, w.heap[x.b]? = some (.map ents ents.size) ∧ ents.size = es.length ∧ ∀ (j : Nat) (e : Value × D), es[j]? = some e → ∃ y : MapEntry, ents[j]? = some y ∧ y.key = e.1 ∧ DR M e.2 y.val := by
  obtain ⟨h0, ents, h1, h2, h3⟩ := H.mapB hn hx
  exact ⟨h0, ents, h1, h2, fun j e he => let ⟨y, a, b, c, _⟩ := h3 j e he; ⟨y, a, b, c⟩⟩
theorem run_getObj_map {P : Program} {w : World} {b : Nat} {ents : Array MapEntry} {cl : Nat} (h : w.heap[b]? = some (.map ents cl)) : (getObj b).run P w = .ok (.map ents cl) w := by
  simp only [getObj, Sem.run, h]

theorem len_ok {C : Ctx} {o : Oper} {nm : Nat} {v : Operand → SV} {h : Heap} {x : Out} {t : TypeId} {y : Operand} (ho : o.op = .call { callee := .builtin .len, args := #[y], argTypes := #[t] }) (e : lenS C.P t (v y) h = some x) : Sound C o nm v h x := by
  have my : y ∈ o.op.operands := by rw [ho]; simp [Op.operands, Call.operands]
  have hexec : ∀ (a : Act) (w w' : World) (u : Value), (Builtin.len_ #[t] o.type #[a.eval y]).run C.P w = .ok u w' → (execOp a.eval o).run C.P w = .ok (.value u) w' := by
    intro a w w' u hr
    unfold execOp
    simp only [ho, resolve, invoke, builtin, Sem.run_bind, Sem.run_pure, Result.andThen_ok, List.map_toArray, List.map_cons, List.map_nil, hr]
  unfold lenS at e
  split at e
  · next el hu hy =>
    cases e
    intro _
    refine ⟨ok_pure fun M F ρ a h w hv hH _ => ⟨.int .i64 0, hexec a w w _ ?_, .d _ _ (.val _ rfl)⟩, fun p hp => by simp at hp, rfl⟩
    have := hv y my; rw [hy] at this
    generalize hq : a.eval y = q at this
    cases this with | d _ _ hd => cases hd; simp [Builtin.len_, run_underlying hu, goInt]
  · next el k len f hu hy =>
    cases e
    intro _
    refine ⟨ok_pure fun M F ρ a h w hv hH _ => ⟨.int .i64 len, hexec a w w _ ?_, .d _ _ (.val _ rfl)⟩, fun p hp => by simp at hp, rfl⟩
    have := hv y my; rw [hy] at this
    generalize hq : a.eval y = q at this
    cases this with | d _ _ hd => cases hd <;> simp [Builtin.len_, run_underlying hu, goInt]
  · next el n off len hu hy =>
    cases e
    intro _
    refine ⟨ok_pure fun M F ρ a h w hv hH _ => ⟨.int .i64 len, hexec a w w _ ?_, .d _ _ (.val _ rfl)⟩, fun p hp => by simp at hp, rfl⟩
    have := hv y my; rw [hy] at this
    generalize hq : a.eval y = q at this
    cases this <;> simp [Builtin.len_, run_underlying hu, goInt]
  · next s hu hy =>
    cases e
    intro _
    refine ⟨ok_pure fun M F ρ a h w hv hH _ => ⟨.int .i64 s.size, hexec a w w _ ?_, .d _ _ (.val _ rfl)⟩, fun p hp => by simp at hp, rfl⟩
    have := hv y my; rw [hy] at this
    rw [this.val]; simp [Builtin.len_, run_underlying hu, goInt]
  · next kt el n hu hy =>
    split at e
    · next es hn =>
      cases e
      intro _
      refine ⟨ok_pure fun M F ρ a h w hv hH hbs => ⟨.int .i64 es.length, hexec a w w _ ?_, .d _ _ (.val _ rfl)⟩, fun p hp => by simp at hp; subst hp; exact hn, rfl⟩
      have := hv y my; rw [hy] at this
      generalize hq : a.eval y = q at this
      cases this with
      | map _ z hz =>
        obtain ⟨_, ents, k1, k2, _⟩ := hH.map (hbs _ (List.mem_singleton.2 rfl)) hz
        simp [Builtin.len_, run_underlying hu, run_getObj_map k1, goInt, k2]
    · cases e
  · cases e

/- division and shifts by a number that is not written out -/
def divS (op : BinOp) (x y : SV) : Option Out :=
  match x, y with
  | .d (.val (.int k a)), .d (.val (.int k' b)) =>
    if k = k' then
      match op with
      | .quo => some (b ≠ 0, [], .d (.val (.int k (k.wrap (a.tdiv b)))), [])
      | .rem => some (b ≠ 0, [], .d (.val (.int k (a.tmod b))), [])
      | _ => none
    else none
  | _, _ => none
theorem div_ok {C : Ctx} {o : Oper} {nm : Nat} {v : Operand → SV} {h : Heap} {x : Out} {op : BinOp} {t t' : TypeId} {y z : Operand} (ho : o.op = .binOp op t y z t') (e : divS op (v y) (v z) = some x) : Sound C o nm v h x := by
  unfold divS at e
  split at e
  · next k a k' b hy hz =>
    split at e
    · next hk =>
      subst hk
      split at e
      · cases e
        intro hb
        refine ⟨ok_pure fun M F ρ a' h w hv hH _ => ⟨_, ?_, .d _ _ (.val _ rfl)⟩, fun p hp => by simp at hp, rfl⟩
        have e1 := hv y (by rw [ho]; exact mem_ops2 (.inl rfl)); rw [hy] at e1
        have e2 := hv z (by rw [ho]; exact mem_ops2 (.inr rfl)); rw [hz] at e2
        have hb : b ≠ 0 := hb
        simp [execOp, ho, e1.val, e2.val, eqGuard, binOp, Op.intDiv, hb]
      · cases e
        intro hb
        refine ⟨ok_pure fun M F ρ a' h w hv hH _ => ⟨_, ?_, .d _ _ (.val _ rfl)⟩, fun p hp => by simp at hp, rfl⟩
        have e1 := hv y (by rw [ho]; exact mem_ops2 (.inl rfl)); rw [hy] at e1
        have e2 := hv z (by rw [ho]; exact mem_ops2 (.inr rfl)); rw [hz] at e2
        have hb : b ≠ 0 := hb
        simp [execOp, ho, e1.val, e2.val, eqGuard, binOp, Op.intDiv, hb]
      · cases e
    · cases e
  · cases e
def shiftS (op : BinOp) (x y : SV) : Option Out :=
  match x, y with
  | .d (.val (.int k a)), .d (.val (.int _ b)) =>
    match op with
    | .shl => some (0 ≤ b, [], .d (.val (.int k (k.wrap (a * 2 ^ (min b.toNat k.bits))))), [])
    | .shr => some (0 ≤ b, [], .d (.val (.int k (a.fdiv (2 ^ (min b.toNat k.bits))))), [])
    | _ => none
  | _, _ => none
theorem shift_ok {C : Ctx} {o : Oper} {nm : Nat} {v : Operand → SV} {h : Heap} {x : Out} {op : BinOp} {t t' : TypeId} {y z : Operand} (ho : o.op = .binOp op t y z t') (e : shiftS op (v y) (v z) = some x) : Sound C o nm v h x := by
  unfold shiftS at e
  split at e
  · next k a k' b hy hz =>
    split at e
    · cases e
      intro hb
      refine ⟨ok_pure fun M F ρ a' h w hv hH _ => ⟨_, ?_, .d _ _ (.val _ rfl)⟩, fun p hp => by simp at hp, rfl⟩
      have e1 := hv y (by rw [ho]; exact mem_ops2 (.inl rfl)); rw [hy] at e1
      have e2 := hv z (by rw [ho]; exact mem_ops2 (.inr rfl)); rw [hz] at e2
      have hb : ¬ b < 0 := by have : 0 ≤ b := hb
                              omega
      simp [execOp, ho, e1.val, e2.val, eqGuard, binOp, Op.shift, hb]
    · cases e
      intro hb
      refine ⟨ok_pure fun M F ρ a' h w hv hH _ => ⟨_, ?_, .d _ _ (.val _ rfl)⟩, fun p hp => by simp at hp, rfl⟩
      have e1 := hv y (by rw [ho]; exact mem_ops2 (.inl rfl)); rw [hy] at e1
      have e2 := hv z (by rw [ho]; exact mem_ops2 (.inr rfl)); rw [hz] at e2
      have hb : ¬ b < 0 := by have : 0 ≤ b := hb
                              omega
      simp [execOp, ho, e1.val, e2.val, eqGuard, binOp, Op.shift, hb]
    · cases e
  · cases e
end Go.Proofs.YtpdojmebloekgaaDoor.Nice
