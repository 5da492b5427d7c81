/- Operations, last part: slices of slices, strings put together, equality of structs, maps, calls; the step that takes an operation; the law's end. -/
import Derived.Test.YtpdojmebloekgaaDoorNiceH
import Derived.Laws.StructEq
import Derived.Laws.Concat
namespace Go.Proofs.YtpdojmebloekgaaDoor.Nice
open Go
set_option linter.unusedVariables false

def bndOf (dflt : Int) : Option SV → Option Int
  | none => some dflt
  | some (.d (.val (.int _ n))) => some n
  | _ => none

def isZeroSV : Option SV → Bool
  | some (.d (.val (.int _ 0))) => true
  | _ => false

def sliceS (P : Program) (t : TypeId) (x : SV) (lo hi mx : Option SV) (h : Heap) : Option Out :=
  match mx with
  | some _ =>
    if isZeroSV mx && (isZeroSV hi && lo.isNone) then
      match P.underlying t with
      | some (.slice e) =>
        if (P.info? e).isSome then
          match x with
          | .d (.vec _ _ _) => some (True, [], .d .nils, [])
          | .sl _ _ _ => some (True, [], .d .nils, [])
          | .d .nils => some (True, [], .d .nils, [])
          | _ => none
        else none
      | _ => none
    else none
  | none =>
    match P.underlying t with
    | some (.slice e) =>
      match P.info? e with
      | some i =>
        match x with
        | .d (.vec k len f) =>
          match bndOf 0 lo, bndOf len hi with
          | some l, some u => if Nat.beq k i.size then some (0 ≤ l ∧ l ≤ u ∧ u ≤ len, [], .d (.vec k (u.toNat - l.toNat) (match lo with | none => f | some _ => fun r c => f (l.toNat + r) c)), []) else none
          | _, _ => none
        | .sl n o len =>
          match bndOf 0 lo, bndOf len hi with
          | some l, some u =>
            match h n with
            | some (.cells ty k xs) => if Nat.beq k i.size then some (0 ≤ l ∧ l ≤ u ∧ u ≤ len, [(n, .cells ty k xs)], .sl n (o + l.toNat) (u.toNat - l.toNat), []) else none
            | some (.rows ty k L f) => if Nat.beq k i.size then some (0 ≤ l ∧ l ≤ u ∧ u ≤ len ∧ len ≤ L, [(n, .rows ty k L f)], .sl n (o + l.toNat) (u.toNat - l.toNat), []) else none
            | _ => none
          | _, _ => none
        | _ => none
      | none => none
    | some .string =>
      match x with
      | .d (.val (.string s)) =>
        match bndOf 0 lo, bndOf s.size hi with
        | some l, some u => some (0 ≤ l ∧ l ≤ u ∧ u ≤ s.size, [], .d (.val (.string (s.extract l.toNat u.toNat))), [])
        | _, _ => none
      | _ => none
    | _ => none

theorem bnd_case {M : Imm} {ρ : Names} {v : Operand → SV} {a : Act} {d l : Int} {x : Option Operand} (hv : ∀ y, x = some y → VR M ρ (v y) (a.eval y)) (h : bndOf d (x.map v) = some l) :
    (x.map a.eval = none ∧ l = d ∧ x = none) ∨ ∃ k, x.map a.eval = some (.int k l) := by
  cases x with
  | none => left; simp [bndOf] at h; exact ⟨rfl, h.symm, rfl⟩
  | some y =>
    right
    have := hv y rfl
    simp only [Option.map_some] at h ⊢
    generalize v y = s at h this
    cases s with
    | d z => cases z with
      | val u => cases u with
        | int k n => simp [bndOf] at h; subst h; exact ⟨k, by rw [this.val]⟩
        | _ => simp [bndOf] at h
      | _ => simp [bndOf] at h
    | _ => simp [bndOf] at h

theorem run_bounds {P : Program} {w : World} (isS : Bool) (len cap : Nat) (lo hi : Option Value) (l u : Int) (hl : (lo = none ∧ l = 0) ∨ ∃ k, lo = some (.int k l)) (hu : (hi = none ∧ u = len) ∨ ∃ k, hi = some (.int k u))
    (h0 : 0 ≤ l) (h1 : l ≤ u) (h2 : u ≤ len) (h3 : len ≤ cap) : (Instr.sliceBounds isS len cap lo hi none).run P w = .ok (l.toNat, u.toNat, cap) w := by
  have eu : (u.toNat : Int) = u := Int.toNat_of_nonneg (by omega)
  have h0' : 0 ≤ u := by omega
  have h2' : u ≤ cap := by omega
  rcases hl with ⟨rfl, rfl⟩ | ⟨kl, rfl⟩ <;> rcases hu with ⟨rfl, rfl⟩ | ⟨ku, rfl⟩
  · simp [Instr.sliceBounds]
  · simp [Instr.sliceBounds, run_sliceBound, h0', h2']
  · simp [Instr.sliceBounds, run_sliceBound, h0, h1]
  · simp [Instr.sliceBounds, run_sliceBound, h0, h0', h2', eu, h1]

theorem run_slice_any' {P : Program} {w : World} {t e : TypeId} {i : TypeInfo} (hel : P.underlying t = some (.slice e)) (hi : P.info? e = some i) (a : Option Addr) (len cap : Nat) (lo hi' : Option Value) (l u : Int)
    (hl : (lo = none ∧ l = 0) ∨ ∃ k, lo = some (.int k l)) (hu : (hi' = none ∧ u = len) ∨ ∃ k, hi' = some (.int k u)) (h0 : 0 ≤ l) (h1 : l ≤ u) (h2 : u ≤ len) (h3 : len ≤ cap) :
    (Instr.sliceAt t (.slice a len cap) lo hi' none).run P w = .ok (sliced a l.toNat u.toNat cap i.size) w := by
  simp [Instr.sliceAt, Instr.slice, run_underlying hel, run_bounds true len cap lo hi' l u hl hu h0 h1 h2 h3, sizeOf, typeInfo, hi, sliced]

theorem slice_ok {C : Ctx} {o : Oper} {nm : Nat} {v : Operand → SV} {h : Heap} {x : Out} {t : TypeId} {y : Operand} {lo hi mx : Option Operand} (ho : o.op = .slice t y lo hi mx) (e : sliceS C.P t (v y) (lo.map v) (hi.map v) (mx.map v) h = some x) : Sound C o nm v h x := by
  have my : y ∈ o.op.operands := by rw [ho]; simp [Op.operands]
  have ml : ∀ z, lo = some z → z ∈ o.op.operands := by intro z hz; rw [ho, hz]; simp [Op.operands]
  have mh : ∀ z, hi = some z → z ∈ o.op.operands := by intro z hz; rw [ho, hz]; simp [Op.operands]
  have mm : ∀ z, mx = some z → z ∈ o.op.operands := by intro z hz; rw [ho, hz]; simp [Op.operands]
  have hexec : ∀ (a : Act) (w : World) (u : Value), (Instr.sliceAt t (a.eval y) (lo.map a.eval) (hi.map a.eval) (mx.map a.eval)).run C.P w = .ok u w → (execOp a.eval o).run C.P w = .ok (.value u) w := by
    intro a w u hr
    simp only [execOp, ho, Sem.run_bind, hr, Result.andThen_ok, Sem.run_pure]
  unfold sliceS at e
  split at e
  · next mv hmv =>
    split at e
    · next hz =>
      simp only [Bool.and_eq_true] at hz
      have zero : ∀ {M : Imm} {ρ : Names} {a : Act} {q : Option Operand}, (∀ z, q = some z → VR M ρ (v z) (a.eval z)) → isZeroSV (q.map v) = true → ∃ k, q.map a.eval = some (.int k 0) := by
        intro M ρ a q hv hq
        cases q with
        | none => simp [isZeroSV] at hq
        | some z =>
          have := hv z rfl
          simp only [Option.map_some] at hq ⊢
          generalize v z = s at hq this
          unfold isZeroSV at hq
          split at hq
          · next k he => simp at he; subst he; exact ⟨k, by rw [this.val]⟩
          · cases hq
      have core : ∀ (el : TypeId), C.P.underlying t = some (.slice el) → (C.P.info? el).isSome = true → (∀ (M : Imm) (ρ : Names) (u : Value), VR M ρ (v y) u → ∃ a len cap, u = .slice a len cap) → Sound C o nm v h (True, [], .d .nils, []) := by
        intro el hel hinf hsl _
        obtain ⟨i, hi'⟩ := Option.isSome_iff_exists.1 hinf
        refine ⟨ok_pure fun M F ρ a h w hv hH _ => ?_, fun p hp => by simp at hp, rfl⟩
        obtain ⟨aa, len, cap, hq⟩ := hsl M ρ _ (hv y my)
        obtain ⟨k1, e1⟩ := zero (q := mx) (fun z hz => hv z (mm z hz)) hz.1
        obtain ⟨k2, e2⟩ := zero (q := hi) (fun z hz => hv z (mh z hz)) hz.2.1
        have e3 : lo.map a.eval = none := by
          cases lo with
          | none => rfl
          | some z => simp at hz
        refine ⟨.slice aa 0 0, hexec a w _ ?_, .d _ _ (.nils _)⟩
        rw [hq, e1, e2, e3]
        simp [Instr.sliceAt, Instr.slice, run_underlying hel, Instr.sliceBounds, run_sliceBound, sizeOf, typeInfo, hi']
      split at e
      · next el hel =>
        split at e
        · next hinf =>
          split at e
          · next k len f hy =>
            cases e
            refine core el hel hinf fun M ρ u hu => ?_
            rw [hy] at hu
            cases hu with | d _ _ hd => cases hd <;> exact ⟨_, _, _, rfl⟩
          · next n off len hy =>
            cases e
            refine core el hel hinf fun M ρ u hu => ?_
            rw [hy] at hu
            cases hu <;> exact ⟨_, _, _, rfl⟩
          · next hy =>
            cases e
            refine core el hel hinf fun M ρ u hu => ?_
            rw [hy] at hu
            cases hu with | d _ _ hd => cases hd; exact ⟨_, _, _, rfl⟩
          · cases e
        · cases e
      · cases e
    · cases e
  · next hmx =>
    have hmx' : mx = none := by cases mx <;> simp_all
    subst hmx'
    split at e
    · next el hel =>
      split at e
      · next i hi' =>
        split at e
        · next k len f hy =>
          split at e
          · next l u hl hu =>
            split at e
            · next hk =>
              cases e
              rintro ⟨h0, h1, h2⟩
              have hk := Nat.eq_of_beq_eq_true hk; subst hk
              refine ⟨ok_pure fun M F ρ a h w hv hH _ => ?_, fun p hp => by simp at hp, rfl⟩
              have hav := hv y my; rw [hy] at hav
              have bl := bnd_case (a := a) (x := lo) (fun z hz => hv z (ml z hz)) hl
              have bu := bnd_case (a := a) (x := hi) (fun z hz => hv z (mh z hz)) hu
              have bl' : (lo.map a.eval = none ∧ l = 0) ∨ ∃ k, lo.map a.eval = some (.int k l) := by rcases bl with ⟨a1, a2, _⟩ | b; exact .inl ⟨a1, a2⟩; exact .inr b
              have bu' : (hi.map a.eval = none ∧ u = len) ∨ ∃ k, hi.map a.eval = some (.int k u) := by rcases bu with ⟨a1, a2, _⟩ | b; exact .inl ⟨a1, a2⟩; exact .inr b
              have hf : ∀ r c, (match lo.map v with | none => f | some _ => fun r c => f (l.toNat + r) c) r c = f (l.toNat + r) c := by
                intro r c
                rcases bl with ⟨_, a2, a3⟩ | ⟨k', hb⟩
                · subst a3; subst a2; simp
                · cases lo with
                  | none => simp at hb
                  | some z => rfl
              generalize hq : a.eval y = q at hav
              cases hav with
              | d _ _ hd =>
                have hlen : ∃ aa cap, q = .slice aa len cap ∧ len ≤ cap := by
                  cases hd with
                  | vec0 _ _ aa cap => exact ⟨aa, cap, rfl, Nat.zero_le _⟩
                  | vec _ _ _ b off cap cur T fz g hb hc hg hr => exact ⟨_, cap, rfl, hc⟩
                obtain ⟨aa, cap, hqq, hcap⟩ := hlen
                have hrun := run_slice_any' (w := w) hel hi' aa len cap (lo.map a.eval) (hi.map a.eval) l u bl' bu' h0 h1 h2 hcap
                refine ⟨_, hexec a w _ (by rw [hq, hqq]; exact hrun), .d _ _ ?_⟩
                unfold sliced
                rcases Nat.eq_zero_or_pos (u.toNat - l.toNat) with hz | hz
                · rw [hz]; exact .vec0 _ _ _ _
                · have hne : ¬ cap = l.toNat := by omega
                  rw [if_neg hne]
                  subst hqq
                  cases hd with
                  | vec0 _ _ => omega
                  | vec _ _ _ b off _ cur T fz g hb hc hg hr =>
                    simp only [Option.map_some, Addr.add_lit]
                    refine .vec i.size _ _ b _ _ cur T fz (fun r c => g (l.toNat + r) c) hb (by omega) (fun r c hr' hc' => ?_) (fun r c hr' hc' => ?_)
                    · rw [← hg (l.toNat + r) c (by omega) hc', Nat.add_mul]; congr 1; omega
                    · rw [hf]; exact hr (l.toNat + r) c (by omega) hc'
            · cases e
          · cases e
        · next n off len hy =>
          split at e
          · next l u hl hu =>
            have core : ∀ (blk : Blk) (extra : Prop), h n = some blk → (∀ (M F : Imm) (ρ : Names) (h' : Heap) (w : World) (x : Own), extra → HR M F ρ h' w → h' n = some blk → ρ n = some x → 0 < x.R → 0 < len → x.k = i.size) → (0 ≤ l ∧ l ≤ u ∧ u ≤ len) → extra →
                Sound C o nm v h (True, [(n, blk)], .sl n (off + l.toNat) (u.toNat - l.toNat), []) := by
              rintro blk extra hm hwid ⟨h0, h1, h2⟩ hex _
              refine ⟨ok_pure fun M F ρ a h' w hv hH hbs => ?_, fun p hp => by simp at hp; subst hp; exact hm, rfl⟩
              have hav := hv y my; rw [hy] at hav
              have bl := bnd_case (a := a) (x := lo) (fun z hz => hv z (ml z hz)) hl
              have bu := bnd_case (a := a) (x := hi) (fun z hz => hv z (mh z hz)) hu
              have bl' : (lo.map a.eval = none ∧ l = 0) ∨ ∃ k, lo.map a.eval = some (.int k l) := by rcases bl with ⟨a1, a2, _⟩ | b; exact .inl ⟨a1, a2⟩; exact .inr b
              have bu' : (hi.map a.eval = none ∧ u = len) ∨ ∃ k, hi.map a.eval = some (.int k u) := by rcases bu with ⟨a1, a2, _⟩ | b; exact .inl ⟨a1, a2⟩; exact .inr b
              generalize hq : a.eval y = q at hav
              cases hav with
              | sl _ _ _ x hx hlR hR hR0 =>
                have hrun := run_slice_any' (w := w) hel hi' (some ⟨x.b, off * x.k, none⟩) len (x.R - off) (lo.map a.eval) (hi.map a.eval) l u bl' bu' h0 h1 h2 (by omega)
                refine ⟨_, hexec a w _ (by rw [hq]; exact hrun), ?_⟩
                unfold sliced
                by_cases hc : x.R - off = l.toNat
                · rw [if_pos hc, show u.toNat - l.toNat = 0 by omega, show x.R - off - l.toNat = 0 by omega]
                  exact .sl0 n _ x hx (by omega) _
                · rw [if_neg hc]
                  simp only [Option.map_some, Addr.add_lit]
                  have := VR.sl (M := M) n (off + l.toNat) (u.toNat - l.toNat) x hx (by omega) hR hR0
                  by_cases hlen : 0 < len
                  · have hxk := hwid M F ρ h' w x hex hH (hbs _ (List.mem_singleton.2 rfl)) hx hR0 hlen
                    rw [← hxk, ← Nat.add_mul, Nat.sub_sub]; exact this
                  · have hl0 : l.toNat = 0 := by omega
                    rw [hl0] at this ⊢
                    simpa using this
              | sl0 _ _ x hx hR aa =>
                have hl0 : l = 0 := by omega
                have hu0 : u = 0 := by omega
                subst hl0; subst hu0
                have hrun := run_slice_any' (w := w) hel hi' aa 0 0 (lo.map a.eval) (hi.map a.eval) 0 0 bl' bu' h0 h1 h2 (Nat.le_refl _)
                refine ⟨_, hexec a w _ (by rw [hq]; exact hrun), ?_⟩
                simp only [sliced, Int.toNat_zero, Nat.sub_self, if_true, Nat.add_zero]
                exact .sl0 n off x hx hR aa
            split at e
            · next ty k xs hm =>
              split at e
              · next hk =>
                cases e
                have hk := Nat.eq_of_beq_eq_true hk
                intro hvc
                exact core _ True hm (fun M F ρ h' w x _ hH hm' hx _ _ => by obtain ⟨cur, _, _, h3, _⟩ := hH.cells hm' hx; rw [h3, hk]) hvc trivial trivial
              · cases e
            · next ty k L f hm =>
              split at e
              · next hk =>
                cases e
                have hk := Nat.eq_of_beq_eq_true hk
                rintro ⟨hv1, hv2, hv3, hL⟩
                exact core _ (len ≤ L) hm (fun M F ρ h' w x hL hH hm' hx _ hl => by obtain ⟨cur, _, _, h3, _⟩ := hH.rows hm' (by omega) hx; rw [h3, hk]) ⟨hv1, hv2, hv3⟩ hL trivial
              · cases e
            · cases e
          · cases e
        · cases e
      · cases e
    · next hst =>
      split at e
      · next s hy =>
        split at e
        · next l u hl hu =>
          cases e
          rintro ⟨h0, h1, h2⟩
          refine ⟨ok_pure fun M F ρ a h w hv hH _ => ?_, fun p hp => by simp at hp, rfl⟩
          have hav := hv y my; rw [hy] at hav
          have bl := bnd_case (a := a) (x := lo) (fun z hz => hv z (ml z hz)) hl
          have bu := bnd_case (a := a) (x := hi) (fun z hz => hv z (mh z hz)) hu
          have bl' : (lo.map a.eval = none ∧ l = 0) ∨ ∃ k, lo.map a.eval = some (.int k l) := by rcases bl with ⟨a1, a2, _⟩ | b; exact .inl ⟨a1, a2⟩; exact .inr b
          have bu' : (hi.map a.eval = none ∧ u = s.size) ∨ ∃ k, hi.map a.eval = some (.int k u) := by rcases bu with ⟨a1, a2, _⟩ | b; exact .inl ⟨a1, a2⟩; exact .inr b
          refine ⟨_, hexec a w (.string (s.extract l.toNat u.toNat)) ?_, .d _ _ (.val _ rfl)⟩
          rw [hav.val]
          simp [Instr.sliceAt, Instr.slice, run_underlying hst, run_bounds false s.size s.size (lo.map a.eval) (hi.map a.eval) l u bl' bu' h0 h1 h2 (Nat.le_refl _)]
        · cases e
      · cases e
    · cases e

def strAddS (op : BinOp) (x y : SV) : Option Out :=
  match op, x, y with
  | .add, .d (.val (.string a)), .d (.val (.string b)) => some (a.size + b.size ≤ 9223372036854775807, [], .d (.val (.string (a ++ b))), [])
  | _, _, _ => none
theorem strAdd_ok {C : Ctx} {o : Oper} {nm : Nat} {v : Operand → SV} {h : Heap} {x : Out} {op : BinOp} {t t' : TypeId} {y z : Operand} (ho : o.op = .binOp op t y z t') (e : strAddS op (v y) (v z) = some x) : Sound C o nm v h x := by
  unfold strAddS at e
  split at e
  · next a b hy hz =>
    cases e
    intro hb
    refine ⟨ok_pure fun M F ρ a' h w hv hH _ => ⟨_, ?_, .d _ _ (.val _ rfl)⟩, fun p hp => by simp at hp, rfl⟩
    have e1 := hv y (by rw [ho]; exact mem_ops2 (.inl rfl)); rw [hy] at e1
    have e2 := hv z (by rw [ho]; exact mem_ops2 (.inr rfl)); rw [hz] at e2
    have := run_string_add_sum (P := C.P) w a b hb
    simp [execOp, ho, e1.val, e2.val, eqGuard, binOp, this]
  · cases e

/- equality of structs of plain fields -/
def eqSV (P : Program) (xs ys : List SV) : List Field → Option Bool
  | [] => some true
  | f :: fs =>
    if f.name ≠ "_" then
      match P.underlying f.type, xs[f.offset]?, ys[f.offset]? with
      | some (.int _), some (.d (.val (.int k a))), some (.d (.val (.int k' b))) => if k = k' then (eqSV P xs ys fs).map ((a == b) && ·) else none
      | some .string, some (.d (.val (.string a))), some (.d (.val (.string b))) => (eqSV P xs ys fs).map ((a.toList == b.toList) && ·)
      | some .bool, some (.d (.val (.bool a))), some (.d (.val (.bool b))) => (eqSV P xs ys fs).map ((a == b) && ·)
      | _, _, _ => none
    else eqSV P xs ys fs

theorem eqSV_ok {P : Program} {M : Imm} {ρ : Names} {xs ys : List SV} {us vs : Array Value} (hx : RL M ρ xs us) (hy : RL M ρ ys vs) (d : Nat) (w : World) : ∀ (fs : List Field) (b : Bool), eqSV P xs ys fs = some b →
    (Op.eqFields (d + 1) us vs fs).run P w = .ok b w := by
  intro fs
  induction fs with
  | nil => intro b h; simp [eqSV] at h; subst h; rfl
  | cons f fs ih =>
    intro b h
    simp only [eqSV] at h
    simp only [Op.eqFields]
    split at h
    · next hn =>
      rw [if_pos hn]
      have part1 : ∀ (d : TypeDesc) (zs : List SV) (ws : Array Value) (u : Value), RL M ρ zs ws → P.underlying f.type = some d → (∀ fs, d ≠ .struct fs) → (∀ n e, d ≠ .array n e) → zs[f.offset]? = some (.d (.val u)) → (part f.type ws f.offset).run P w = .ok u w := by
        intro d zs ws u hr hd hns hna hz
        have hag : isAggB P f.type = some false := by
          unfold isAggB; rw [hd]
          cases d <;> first | rfl | (exact absurd rfl (hns _)) | (exact absurd rfl (hna _ _))
        obtain ⟨q, q1, q2⟩ := hr.2 _ _ hz
        rw [q2.val] at q1
        simp [part, run_isAgg hag, q1]
      split at h
      · next k0 k a k' b' hu h1 h2 =>
        split at h
        · next hk =>
          subst hk
          obtain ⟨r, hr, rfl⟩ := Option.map_eq_some_iff.1 h
          have e := run_equalIn_int (P := P) w d f.type k k0 a b' hu
          simp only [Sem.run_bind, part1 _ xs us _ hx hu (by simp) (by simp) h1, part1 _ ys vs _ hy hu (by simp) (by simp) h2, Result.andThen_ok, e, Sem.run_ite, ih r hr, Sem.run_pure]
          cases (a == b') <;> simp
        · cases h
      · next a b' hu h1 h2 =>
        obtain ⟨r, hr, rfl⟩ := Option.map_eq_some_iff.1 h
        have e := run_equalIn_string (P := P) w d f.type a b' hu
        simp only [Sem.run_bind, part1 _ xs us _ hx hu (by simp) (by simp) h1, part1 _ ys vs _ hy hu (by simp) (by simp) h2, Result.andThen_ok, e, Sem.run_ite, ih r hr, Sem.run_pure]
        cases (a.toList == b'.toList) <;> simp
      · next a b' hu h1 h2 =>
        obtain ⟨r, hr, rfl⟩ := Option.map_eq_some_iff.1 h
        have e := run_equalIn_bool' (P := P) w d f.type a b' hu
        simp only [Sem.run_bind, part1 _ xs us _ hx hu (by simp) (by simp) h1, part1 _ ys vs _ hy hu (by simp) (by simp) h2, Result.andThen_ok, e, Sem.run_ite, ih r hr, Sem.run_pure]
        cases (a == b') <;> simp
      · cases h
    · next hn => rw [if_neg hn]; exact ih b h

/-- Two structs compared: a step of its own, with closed facts on the type. -/
theorem structEq_ok {C : Ctx} {o : Oper} {nm : Nat} {v : Operand → SV} {op : BinOp} {t t' : TypeId} {y z : Operand} (ho : o.op = .binOp op t y z t') {xs ys : List SV} (hy : v y = .agg xs) (hz : v z = .agg ys) {fs : Array Field}
    (hfs : C.P.underlying t = some (.struct fs)) (hp : C.P.stoodInHeld t = false) (hm : C.P.eqGuardType C.P.depth t = false) {b : Bool} (hb : eqSV C.P xs ys fs.toList = some b) {r : Bool} (hop : (op = .eql ∧ r = b) ∨ (op = .neq ∧ r = !b)) :
    OpOK C o nm v [] (fun x w => x = SV.b r ∧ w = []) := by
  refine ok_pure fun M F ρ a h w hv hH _ => ⟨.bool r, ?_, .d _ _ (.val _ rfl)⟩
  have e1 := hv y (by rw [ho]; exact mem_ops2 (.inl rfl)); rw [hy] at e1
  have e2 := hv z (by rw [ho]; exact mem_ops2 (.inr rfl)); rw [hz] at e2
  obtain ⟨us, q1, r1⟩ := agg_case e1
  obtain ⟨vs, q2, r2⟩ := agg_case e2
  have hf : C.P.underlying t = some (.struct (C.P.fieldsOf t)) := by simp [Program.fieldsOf, hfs]
  have hff : C.P.fieldsOf t = fs := by simp [Program.fieldsOf, hfs]
  have he : (Op.equalIn 10000 t (.agg us) (.agg vs)).run C.P w = .ok b w := by
    rw [run_equalIn_agg (P := C.P) w 9999 t us vs hf hp, hff]
    exact eqSV_ok r1 r2 9998 w fs.toList b hb
  rcases hop with ⟨rfl, rfl⟩ | ⟨rfl, rfl⟩
  · simp [execOp, ho, q1, q2, run_eqGuard_agg (P := C.P) w .eql t y z us vs hm, run_eql_struct (P := C.P) w t us vs, he]
  · simp [execOp, ho, q1, q2, run_eqGuard_agg (P := C.P) w .neq t y z us vs hm, run_neq_struct (P := C.P) w t us vs, he]

/- maps of plain keys and data -/
def mfind (kind : TypeDesc) (k : Value) : List (Value × D) → Option (Option D)
  | [] => some none
  | e :: es => match Instr.sameNow kind k e.1 with
    | some true => some (some e.2)
    | some false => mfind kind k es
    | none => none
theorem findNow_ok {M : Imm} {kind : TypeDesc} {k : Value} : ∀ (es : List (Value × D)) (ents : List MapEntry) (i : Nat), ents.length = es.length → (∀ (j : Nat) (e : Value × D), es[j]? = some e → ∃ y : MapEntry, ents[j]? = some y ∧ y.key = e.1 ∧ DR M e.2 y.val) →
    (∀ d, mfind kind k es = some (some d) → ∃ (j : Nat) (e : Value × D) (u : Value), es[j]? = some e ∧ e.2 = d ∧ Instr.sameNow kind k e.1 = some true ∧ Instr.findNow kind k ents i = some (some (i + j, u)) ∧ DR M d u) ∧
    (mfind kind k es = some none → Instr.findNow kind k ents i = some none)
  | [], [], i, _, _ => ⟨fun d h => by simp [mfind] at h, fun _ => rfl⟩
  | [], _ :: _, _, h, _ => by simp at h
  | _ :: _, [], _, h, _ => by simp at h
  | e :: es, y :: ents, i, hl, hr => by
    obtain ⟨y', h1, h2, h3⟩ := hr 0 e rfl
    simp at h1; subst h1
    obtain ⟨g1, g2⟩ := findNow_ok (M := M) (kind := kind) (k := k) es ents (i + 1) (by simpa using hl) (fun j e he => hr (j + 1) e (by simpa using he))
    simp only [mfind, Instr.findNow, h2]
    cases hs : Instr.sameNow kind k e.1 with
    | none => exact ⟨fun d h => by simp at h, fun h => by simp at h⟩
    | some b =>
      cases b with
      | true => exact ⟨fun d h => by simp at h; subst h; exact ⟨0, e, _, rfl, rfl, hs, by simp, h3⟩, fun h => by simp at h⟩
      | false =>
        refine ⟨fun d h => ?_, fun h => g2 h⟩
        obtain ⟨j, e', u, k1, k2, k3, k4, k5⟩ := g1 d h
        exact ⟨j + 1, e', u, by simpa using k1, k2, k3, by rw [k4, show i + 1 + j = i + (j + 1) by omega], k5⟩

def plainKey : TypeDesc → Bool
  | .int _ | .string | .bool => true
  | _ => false
theorem run_checkKey {P : Program} {w : World} {kt : TypeId} {kind : TypeDesc} (hk : P.underlying kt = some kind) (hp : plainKey kind = true) (e : Bool) (n : Nat) (v : Value) : (Instr.checkKey e (n + 1) kt v).run P w = .ok () w := by
  simp only [Instr.checkKey, Sem.run_bind, run_underlying hk, Result.andThen_ok]
  cases kind <;> simp [plainKey] at hp <;> rfl

theorem lookup_run {P : Program} {M F : Imm} {ρ : Names} {h : Heap} {w : World} (hH : HR M F ρ h w) {t kt el : TypeId} {kind : TypeDesc} (ht : P.underlying t = some (.map kt el)) (hk : P.underlying kt = some kind) (hp : plainKey kind = true)
    {n : Nat} {es : List (Value × D)} (hn : h n = some (.map es)) {x : Own} (hx : ρ n = some x) {key : Value} {r : Option D} (hr : mfind kind key es = some r) {i : TypeInfo} {z : Value} (hi : P.info? el = some i) (hz : i.zero = some z) (ok : Bool) :
    ∃ u, (∀ d, r = some d → DR M d u) ∧ (r = none → u = z) ∧ (Instr.lookup t (.map (some x.b)) key ok).run P w = .ok (if ok then .tuple #[u, .bool r.isSome] else u) w := by
  obtain ⟨_, ents, k1, k2, k3⟩ := hH.map hn hx
  obtain ⟨g1, g2⟩ := findNow_ok (kind := kind) (k := key) es ents.toList 0 (by simpa using k2) (fun j e he => by
    obtain ⟨y, a, b, c⟩ := k3 j e he
    exact ⟨y, by rw [Array.getElem?_toList]; exact a, b, c⟩)
  have hg := run_getObj_map (P := P) k1
  have hc := run_checkKey (P := P) (w := w) hk hp ents.isEmpty 9999 key
  cases r with
  | none =>
    have hf := g2 hr
    refine ⟨z, (fun d h => by cases h), (fun _ => rfl), ?_⟩
    cases ok <;> simp [Instr.lookup, run_underlying ht, hg, hc, Instr.findKey, run_underlying hk, hf, zeroValue, typeInfo, hi, hz]
  | some d =>
    obtain ⟨j, e, u, _, _, _, hf, hd⟩ := g1 d hr
    refine ⟨u, (fun d' h => by cases h; exact hd), (fun h => by cases h), ?_⟩
    cases ok <;> simp [Instr.lookup, run_underlying ht, hg, hc, Instr.findKey, run_underlying hk, hf]


theorem VR.tup2 {M : Imm} {ρ : Names} {a b : SV} {x y : Value} (ha : VR M ρ a x) (hb : VR M ρ b y) : VR M ρ (.tup [a, b]) (.tuple #[x, y]) :=
  .tupOf _ _ rfl fun i s hs => by
    match i, hs with
    | 0, hs => simp at hs; subst hs; exact ⟨_, rfl, ha⟩
    | 1, hs => simp at hs; subst hs; exact ⟨_, rfl, hb⟩

def orZero (r : Option D) (zl : Value) : SV := match r with | some x => .d x | none => toSV zl
def foundS (ok : Bool) (d : SV) (b : Bool) : SV := match ok with | true => .tup [d, SV.b b] | false => d

/-- What a look-up in a map of the call's own gives. -/
theorem lookup_ok {C : Ctx} {o : Oper} {nm : Nat} {v : Operand → SV} {t kt el : TypeId} {y z : Operand} {ok : Bool} (ho : o.op = .lookup t y z ok) {kind : TypeDesc} (ht : C.P.underlying t = some (.map kt el)) (hk : C.P.underlying kt = some kind) (hp : plainKey kind = true)
    {n : Nat} {es : List (Value × D)} (hy : v y = .map n) {key : Value} (hz : v z = .d (.val key)) {r : Option D} (hr : mfind kind key es = some r) {zl : Value} (hzl : (C.P.info? el).bind (·.zero) = some zl) (h1 : zl.oneCell' = true) :
    OpOK C o nm v [(n, .map es)] (fun x w => x = foundS ok (orZero r zl) r.isSome ∧ w = []) := by
  refine ok_pure fun M F ρ a h w hv hH hbs => ?_
  have e1 := hv y (by rw [ho]; exact mem_ops2 (.inl rfl)); rw [hy] at e1
  have e2 := hv z (by rw [ho]; exact mem_ops2 (.inr rfl)); rw [hz] at e2
  obtain ⟨i, hi, hzv⟩ := Option.bind_eq_some_iff.1 hzl
  generalize hq : a.eval y = q at e1
  cases e1 with
  | map _ x hx =>
    obtain ⟨u', g1, g2, g3⟩ := lookup_run hH ht hk hp (hbs _ (List.mem_singleton.2 rfl)) hx hr hi hzv ok
    have hdr : VR M ρ (orZero r zl) u' := by
      cases r with
      | some x => exact .d _ _ (g1 x rfl)
      | none => rw [g2 rfl]; exact toSV_ok h1
    refine ⟨if ok then .tuple #[u', .bool r.isSome] else u', by simp only [execOp, ho, hq, e2.val, Sem.run_bind, g3, Result.andThen_ok, Sem.run_pure], ?_⟩
    cases ok with
    | false => exact hdr
    | true => exact VR.tup2 hdr (.d _ _ (.val _ rfl))

/- writing to a map -/
def mset (kind : TypeDesc) (k : Value) (d : D) : List (Value × D) → List (Value × D)
  | [] => [(k, d)]
  | e :: es => match Instr.sameNow kind k e.1 with
    | some true => (k, d) :: es
    | _ => e :: mset kind k d es
theorem mset_none {kind : TypeDesc} {k : Value} {d : D} : ∀ {es : List (Value × D)}, mfind kind k es = some none → mset kind k d es = es ++ [(k, d)]
  | [], _ => rfl
  | e :: es, h => by
    simp only [mfind] at h
    simp only [mset]
    cases hs : Instr.sameNow kind k e.1 with
    | none => rw [hs] at h; cases h
    | some b => cases b with
      | true => rw [hs] at h; simp at h
      | false => rw [hs] at h; simp only [List.cons_append]; rw [mset_none h]
theorem mset_some {kind : TypeDesc} {k : Value} {d : D} : ∀ {es : List (Value × D)} (j : Nat) (e : Value × D), mfind kind k es ≠ none → es[j]? = some e → Instr.sameNow kind k e.1 = some true → (∀ i e', i < j → es[i]? = some e' → Instr.sameNow kind k e'.1 = some false) →
    mset kind k d es = es.set j (k, d)
  | [], j, e, _, h, _, _ => by simp at h
  | e0 :: es, 0, e, _, h, hs, _ => by
    simp at h; subst h
    simp [mset, hs]
  | e0 :: es, j + 1, e, hm, h, hs, hb => by
    have h0 := hb 0 e0 (by omega) rfl
    simp only [mset, h0, List.set_cons_succ]
    rw [mset_some j e (by simpa [mfind, h0] using hm) (by simpa using h) hs (fun i e' hi he => hb (i + 1) e' (by omega) (by simpa using he))]

theorem sameNow_key {kind : TypeDesc} {a b : Value} (h : Instr.sameNow kind a b = some true) : Instr.sameBits 10000 b a = true := by
  unfold Instr.sameNow at h
  split at h
  · next k x k' y =>
    split at h
    · next hk => subst hk; simp at h; subst h; simp [Instr.sameBits]
    · cases h
  · next x y =>
    simp only [Option.some.injEq] at h
    rw [beq_toListBytes] at h
    have h2 : (y == x) = true := by rw [beq_toListBytes]; simp only [beq_iff_eq] at h ⊢; exact h.symm
    simpa [Instr.sameBits] using h2
  · next x y => simp at h; subst h; simp [Instr.sameBits]
  · cases h

theorem findNow_at {kind : TypeDesc} {k : Value} : ∀ (ents : List MapEntry) (i m : Nat) (u : Value), Instr.findNow kind k ents i = some (some (m, u)) → ∃ j y, m = i + j ∧ ents[j]? = some y ∧ Instr.sameNow kind k y.key = some true ∧ ∀ q (y' : MapEntry), q < j → ents[q]? = some y' → Instr.sameNow kind k y'.key = some false
  | [], i, m, u, h => by simp [Instr.findNow] at h
  | y :: ents, i, m, u, h => by
    simp only [Instr.findNow] at h
    cases hs : Instr.sameNow kind k y.key with
    | none => rw [hs] at h; cases h
    | some b => cases b with
      | true =>
        rw [hs] at h; simp at h
        exact ⟨0, y, by omega, rfl, hs, fun q y' hq => by omega⟩
      | false =>
        rw [hs] at h
        obtain ⟨j, y', h1, h2, h3, h4⟩ := findNow_at ents (i + 1) m u h
        refine ⟨j + 1, y', by omega, by simpa using h2, h3, fun q y'' hq hy => ?_⟩
        cases q with
        | zero => simp at hy; subst hy; exact hs
        | succ q => exact h4 q y'' (by omega) (by simpa using hy)

theorem run_setObj_map {P : Program} {w : World} {b : Nat} {ents : Array MapEntry} {cl : Nat} (h : w.heap[b]? = some (.map ents cl)) (o : Obj) : (setObj b o).run P w = .ok () { w with heap := w.heap.setIfInBounds b o } := by
  simp only [setObj, Sem.run, h]

theorem mapUpdate_ok {C : Ctx} {o : Oper} {nm : Nat} {v : Operand → SV} {t kt el : TypeId} {y z q : Operand} (ho : o.op = .mapUpdate t y z q) {kind : TypeDesc} (ht : C.P.underlying t = some (.map kt el)) (hk : C.P.underlying kt = some kind) (hp : plainKey kind = true)
    {n : Nat} {es : List (Value × D)} (hy : v y = .map n) {key : Value} (hz : v z = .d (.val key)) {d : D} (hq : v q = .d d) {r : Option D} (hr : mfind kind key es = some r) :
    OpOK C o nm v [(n, .map es)] (fun x w => x = .any ∧ w = [(n, some (.map (mset kind key d es)))]) := by
  have m3 : ∀ x, x = y ∨ x = z ∨ x = q → x ∈ o.op.operands := by intro x hx; rw [ho]; rcases hx with rfl | rfl | rfl <;> simp [Op.operands]
  refine ok_skip fun M F ρ a h w hv hH hbs hfr => ?_
  have e1 := hv y (m3 y (.inl rfl)); rw [hy] at e1
  have e2 := hv z (m3 z (.inr (.inl rfl))); rw [hz] at e2
  have e3 := hv q (m3 q (.inr (.inr rfl))); rw [hq] at e3
  have hn := hbs _ (List.mem_singleton.2 rfl)
  have hn : h n = some (.map es) := hn
  have hd : DR M d (a.eval q) := by cases e3 with | d _ _ h => exact h
  generalize hqy : a.eval y = qy at e1
  cases e1 with
  | map _ x hx =>
    obtain ⟨h0, ents, k1, k2, k3⟩ := hH.mapB hn hx
    have hb : x.b < w.heap.size := (Array.getElem?_eq_some_iff.1 k1).1
    have ents' : ∀ (j : Nat) (e : Value × D), es[j]? = some e → ∃ y : MapEntry, ents.toList[j]? = some y ∧ y.key = e.1 ∧ DR M e.2 y.val := fun j e he => by
      obtain ⟨y, a, b, c, _⟩ := k3 j e he
      exact ⟨y, by rw [Array.getElem?_toList]; exact a, b, c⟩
    obtain ⟨g1, g2⟩ := findNow_ok (kind := kind) (k := key) es ents.toList 0 (by simpa using k2) ents'
    have hg := run_getObj_map (P := C.P) k1
    have hc := run_checkKey (P := C.P) (w := w) hk hp false 9999 key
    have fin : ∀ (ents2 : Array MapEntry) (cl2 : Nat) (es2 : List (Value × D)), ents2.size = es2.length → cl2 = ents2.size → (∀ (j : Nat) (e : Value × D), es2[j]? = some e → ∃ y : MapEntry, ents2[j]? = some y ∧ y.key = e.1 ∧ DR M e.2 y.val ∧ y.born = j) →
        HR M F ρ (upd h n (some (.map es2))) { w with heap := w.heap.setIfInBounds x.b (.map ents2 cl2) } := by
      intro ents2 cl2 es2 s1 s0 s2
      refine hH.put n x (by rw [hn]; simp) hx h0 (.map es2) (.map ents2 cl2) (by simp [hb]) (fun b hb' => by simp [Array.getElem?_setIfInBounds_ne (Ne.symm hb')]) ⟨⟨s1, s0⟩, s2⟩
    cases r with
    | none =>
      have hf := g2 hr
      refine ⟨ρ, { w with heap := w.heap.setIfInBounds x.b (.map (ents.push { key := key, val := a.eval q, born := ents.size }) (ents.size + 1)) }, Names.le_refl _, fun _ _ => rfl, by simp [execOp, ho, hqy, e2.val, Instr.mapUpdate, run_underlying ht, hg, hc, Instr.findKey, run_underlying hk, hf, run_setObj_map k1], ?_, ⟨rfl, rfl, rfl, by simp⟩⟩
      rw [mset_none hr]
      refine fin _ _ _ (by simp [k2]) (by simp) fun j e he => ?_
      by_cases hj : j < es.length
      · rw [List.getElem?_append_left hj] at he
        obtain ⟨y, a1, a2⟩ := k3 j e he
        exact ⟨y, by rw [Array.getElem?_push, if_neg (by omega)]; exact a1, a2⟩
      · rw [List.getElem?_append_right (by omega)] at he
        have hje : j = es.length := by
          have := (List.getElem?_eq_some_iff.1 he).1
          simp at this; omega
        subst hje
        simp at he; subst he
        exact ⟨⟨key, a.eval q, ents.size⟩, by rw [Array.getElem?_push, if_pos k2.symm], rfl, hd, k2⟩
    | some d0 =>
      obtain ⟨j0, e0, u, c1, c2, c3, hf, _⟩ := g1 d0 hr
      obtain ⟨j, y0, f1, f2, f3, f4⟩ := findNow_at _ _ _ _ hf
      have hjj : j0 = j := by omega
      subst hjj
      simp only [Nat.zero_add] at hf
      have hkey : ((ents[j0]?).map (·.key)).getD key = y0.key := by
        rw [Array.getElem?_toList] at f2
        rw [f2]; rfl
      have hstay : (Instr.keyThatStays y0.key key).run C.P w = .ok key w := by
        simp [Instr.keyThatStays, sameNow_key f3]
      refine ⟨ρ, { w with heap := w.heap.setIfInBounds x.b (.map (ents.modify j0 fun e => { e with key := key, val := a.eval q }) ents.size) }, Names.le_refl _, fun _ _ => rfl, ?_, ?_, ⟨rfl, rfl, rfl, by simp⟩⟩
      · simp only [execOp, ho, hqy, e2.val, Instr.mapUpdate, Sem.run_bind, run_underlying ht, hg, hc, Instr.findKey, run_underlying hk, hf, Result.andThen_ok, Sem.run_pure, hkey, hstay, run_setObj_map k1]
      · have hms : mset kind key d es = es.set j0 (key, d) := by
          refine mset_some j0 e0 (by rw [hr]; simp) c1 c3 fun i e' hi he => ?_
          obtain ⟨y', b1, b2, _⟩ := ents' i e' he
          rw [← b2]; exact f4 i y' hi b1
        rw [hms]
        refine fin _ _ _ (by simp [k2]) (by simp) fun i e he => ?_
        rw [List.getElem?_set] at he
        split at he
        · next hi =>
          subst hi
          split at he
          · cases he
            rw [Array.getElem?_toList] at f2
            obtain ⟨yb, b1, _, _, b4⟩ := k3 j0 e0 c1
            rw [f2] at b1; cases b1
            exact ⟨{ y0 with key := key, val := a.eval q }, by rw [Array.getElem?_modify, if_pos rfl, f2]; rfl, rfl, hd, b4⟩
          · cases he
        · next hi =>
          obtain ⟨y', b1, b2⟩ := k3 i e he
          exact ⟨y', by rw [Array.getElem?_modify, if_neg hi]; exact b1, b2⟩
end Go.Proofs.YtpdojmebloekgaaDoor.Nice
