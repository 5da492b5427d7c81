/- Part 3 of the proof of CrewTotals: NiceI, NiceJ, NiceK, NiceL, NiceM, NiceN, NiceO, NiceP, CoA. -/
import Derived.Test.YtpdojmebloekgaaDoorZT2
import Derived.Laws.StructEq
import Derived.Laws.Concat
import Derived.Laws.Cover3
import Derived.Laws.IdiomStrings
import Derived.IntWalk
import GoSem.ClaimChange
import Derived.Deep.Slices
import Derived.ChangeSame
import Derived.Conc.Own5
import Derived.Conc.Listed
import Derived.Conc.CompanyDraw
namespace Go.Proofs.YtpdojmebloekgaaDoor.Nice
open Go
set_option linter.unusedVariables false
def bndOf (dflt : Int) : Option SV → Option Int
 | none => some dflt
 | some (.d (.val (.int _ n))) => some n
 | _ => none
def isZeroSV : Option SV → Bool
 | some (.d (.val (.int _ 0))) => true
 | _ => false
def sliceS (P : Program) (t : TypeId) (x : SV) (lo hi mx : Option SV) (h : Heap) : Option Out :=
 match mx with
 | some _ =>
   if isZeroSV mx && (isZeroSV hi && lo.isNone) then
     match P.underlying t with
     | some (.slice e) =>
       if (P.info? e).isSome then
         match x with
         | .d (.vec _ _ _) => some (True, [], .d .nils, [])
         | .sl _ _ _ => some (True, [], .d .nils, [])
         | .d .nils => some (True, [], .d .nils, [])
         | _ => none
       else none
     | _ => none
   else none
 | none =>
   match P.underlying t with
   | some (.slice e) =>
     match P.info? e with
     | some i =>
       match x with
       | .d (.vec k len f) =>
         match bndOf 0 lo, bndOf len hi with
         | some l, some u => if Nat.beq k i.size then some (0 ≤ l ∧ l ≤ u ∧ u ≤ len, [], .d (.vec k (u.toNat - l.toNat) (match lo with | none => f | some _ => fun r c => f (l.toNat + r) c)), []) else none
         | _, _ => none
       | .sl n o len =>
         match bndOf 0 lo, bndOf len hi with
         | some l, some u =>
           match h n with
           | some (.cells ty k xs) => if Nat.beq k i.size then some (0 ≤ l ∧ l ≤ u ∧ u ≤ len, [(n, .cells ty k xs)], .sl n (o + l.toNat) (u.toNat - l.toNat), []) else none
           | some (.rows ty k L f) => if Nat.beq k i.size then some (0 ≤ l ∧ l ≤ u ∧ u ≤ len ∧ len ≤ L, [(n, .rows ty k L f)], .sl n (o + l.toNat) (u.toNat - l.toNat), []) else none
           | _ => none
         | _, _ => none
       | _ => none
     | none => none
   | some .string =>
     match x with
     | .d (.val (.string s)) =>
       match bndOf 0 lo, bndOf s.size hi with
       | some l, some u => some (0 ≤ l ∧ l ≤ u ∧ u ≤ s.size, [], .d (.val (.string (s.extract l.toNat u.toNat))), [])
       | _, _ => none
     | _ => none
   | _ => none
theorem bnd_case {M : Imm} {ρ : Names} {v : Operand → SV} {a : Act} {d l : Int} {x : Option Operand} (hv : ∀ y, x = some y → VR M ρ (v y) (a.eval y)) (h : bndOf d (x.map v) = some l) :
   (x.map a.eval = none ∧ l = d ∧ x = none) ∨ ∃ k, x.map a.eval = some (.int k l) := by
 cases x with
 | none => left; simp [bndOf] at h; exact ⟨rfl, h.symm, rfl⟩
 | some y =>
   right
   have := hv y rfl
   simp only [Option.map_some] at h ⊢
   generalize v y = s at h this
   cases s with
   | d z => cases z with
     | val u => cases u with
       | int k n => simp [bndOf] at h; subst h; exact ⟨k, by rw [this.val]⟩
       | _ => simp [bndOf] at h
     | _ => simp [bndOf] at h
   | _ => simp [bndOf] at h
theorem run_bounds {P : Program} {w : World} (isS : Bool) (len cap : Nat) (lo hi : Option Value) (l u : Int) (hl : (lo = none ∧ l = 0) ∨ ∃ k, lo = some (.int k l)) (hu : (hi = none ∧ u = len) ∨ ∃ k, hi = some (.int k u))
   (h0 : 0 ≤ l) (h1 : l ≤ u) (h2 : u ≤ len) (h3 : len ≤ cap) : (Instr.sliceBounds isS len cap lo hi none).run P w = .ok (l.toNat, u.toNat, cap) w := by
 have eu : (u.toNat : Int) = u := Int.toNat_of_nonneg (by omega)
 have h0' : 0 ≤ u := by omega
 have h2' : u ≤ cap := by omega
 rcases hl with ⟨rfl, rfl⟩ | ⟨kl, rfl⟩ <;> rcases hu with ⟨rfl, rfl⟩ | ⟨ku, rfl⟩
 · simp [Instr.sliceBounds]
 · simp [Instr.sliceBounds, run_sliceBound, h0', h2']
 · simp [Instr.sliceBounds, run_sliceBound, h0, h1]
 · simp [Instr.sliceBounds, run_sliceBound, h0, h0', h2', eu, h1]
theorem run_slice_any' {P : Program} {w : World} {t e : TypeId} {i : TypeInfo} (hel : P.underlying t = some (.slice e)) (hi : P.info? e = some i) (a : Option Addr) (len cap : Nat) (lo hi' : Option Value) (l u : Int)
   (hl : (lo = none ∧ l = 0) ∨ ∃ k, lo = some (.int k l)) (hu : (hi' = none ∧ u = len) ∨ ∃ k, hi' = some (.int k u)) (h0 : 0 ≤ l) (h1 : l ≤ u) (h2 : u ≤ len) (h3 : len ≤ cap) :
   (Instr.sliceAt t (.slice a len cap) lo hi' none).run P w = .ok (sliced a l.toNat u.toNat cap i.size) w := by
 simp [Instr.sliceAt, Instr.slice, run_underlying hel, run_bounds true len cap lo hi' l u hl hu h0 h1 h2 h3, sizeOf, typeInfo, hi, sliced]
theorem slice_ok {C : Ctx} {o : Oper} {nm : Nat} {v : Operand → SV} {h : Heap} {x : Out} {t : TypeId} {y : Operand} {lo hi mx : Option Operand} (ho : o.op = .slice t y lo hi mx) (e : sliceS C.P t (v y) (lo.map v) (hi.map v) (mx.map v) h = some x) : Sound C o nm v h x := by
 have my : y ∈ o.op.operands := by rw [ho]; simp [Op.operands]
 have ml : ∀ z, lo = some z → z ∈ o.op.operands := by intro z hz; rw [ho, hz]; simp [Op.operands]
 have mh : ∀ z, hi = some z → z ∈ o.op.operands := by intro z hz; rw [ho, hz]; simp [Op.operands]
 have mm : ∀ z, mx = some z → z ∈ o.op.operands := by intro z hz; rw [ho, hz]; simp [Op.operands]
 have hexec : ∀ (a : Act) (w : World) (u : Value), (Instr.sliceAt t (a.eval y) (lo.map a.eval) (hi.map a.eval) (mx.map a.eval)).run C.P w = .ok u w → (execOp a.eval o).run C.P w = .ok (.value u) w := by
   intro a w u hr
   simp only [execOp, ho, Sem.run_bind, hr, Result.andThen_ok, Sem.run_pure]
 unfold sliceS at e
 split at e
 · next mv hmv =>
   split at e
   · next hz =>
     simp only [Bool.and_eq_true] at hz
     have zero : ∀ {M : Imm} {ρ : Names} {a : Act} {q : Option Operand}, (∀ z, q = some z → VR M ρ (v z) (a.eval z)) → isZeroSV (q.map v) = true → ∃ k, q.map a.eval = some (.int k 0) := by
       intro M ρ a q hv hq
       cases q with
       | none => simp [isZeroSV] at hq
       | some z =>
         have := hv z rfl
         simp only [Option.map_some] at hq ⊢
         generalize v z = s at hq this
         unfold isZeroSV at hq
         split at hq
         · next k he => simp at he; subst he; exact ⟨k, by rw [this.val]⟩
         · cases hq
     have core : ∀ (el : TypeId), C.P.underlying t = some (.slice el) → (C.P.info? el).isSome = true → (∀ (M : Imm) (ρ : Names) (u : Value), VR M ρ (v y) u → ∃ a len cap, u = .slice a len cap) → Sound C o nm v h (True, [], .d .nils, []) := by
       intro el hel hinf hsl _
       obtain ⟨i, hi'⟩ := Option.isSome_iff_exists.1 hinf
       refine ⟨ok_pure fun M F ρ a h w hv hH _ => ?_, fun p hp => by simp at hp, rfl⟩
       obtain ⟨aa, len, cap, hq⟩ := hsl M ρ _ (hv y my)
       obtain ⟨k1, e1⟩ := zero (q := mx) (fun z hz => hv z (mm z hz)) hz.1
       obtain ⟨k2, e2⟩ := zero (q := hi) (fun z hz => hv z (mh z hz)) hz.2.1
       have e3 : lo.map a.eval = none := by
         cases lo with
         | none => rfl
         | some z => simp at hz
       refine ⟨.slice aa 0 0, hexec a w _ ?_, .d _ _ (.nils _)⟩
       rw [hq, e1, e2, e3]
       simp [Instr.sliceAt, Instr.slice, run_underlying hel, Instr.sliceBounds, run_sliceBound, sizeOf, typeInfo, hi']
     split at e
     · next el hel =>
       split at e
       · next hinf =>
         split at e
         · next k len f hy =>
           cases e
           refine core el hel hinf fun M ρ u hu => ?_
           rw [hy] at hu
           cases hu with | d _ _ hd => cases hd <;> exact ⟨_, _, _, rfl⟩
         · next n off len hy =>
           cases e
           refine core el hel hinf fun M ρ u hu => ?_
           rw [hy] at hu
           cases hu <;> exact ⟨_, _, _, rfl⟩
         · next hy =>
           cases e
           refine core el hel hinf fun M ρ u hu => ?_
           rw [hy] at hu
           cases hu with | d _ _ hd => cases hd; exact ⟨_, _, _, rfl⟩
         · cases e
       · cases e
     · cases e
   · cases e
 · next hmx =>
   have hmx' : mx = none := by cases mx <;> simp_all
   subst hmx'
   split at e
   · next el hel =>
     split at e
     · next i hi' =>
       split at e
       · next k len f hy =>
         split at e
         · next l u hl hu =>
           split at e
           · next hk =>
             cases e
             rintro ⟨h0, h1, h2⟩
             have hk := Nat.eq_of_beq_eq_true hk; subst hk
             refine ⟨ok_pure fun M F ρ a h w hv hH _ => ?_, fun p hp => by simp at hp, rfl⟩
             have hav := hv y my; rw [hy] at hav
             have bl := bnd_case (a := a) (x := lo) (fun z hz => hv z (ml z hz)) hl
             have bu := bnd_case (a := a) (x := hi) (fun z hz => hv z (mh z hz)) hu
             have bl' : (lo.map a.eval = none ∧ l = 0) ∨ ∃ k, lo.map a.eval = some (.int k l) := by rcases bl with ⟨a1, a2, _⟩ | b; exact .inl ⟨a1, a2⟩; exact .inr b
             have bu' : (hi.map a.eval = none ∧ u = len) ∨ ∃ k, hi.map a.eval = some (.int k u) := by rcases bu with ⟨a1, a2, _⟩ | b; exact .inl ⟨a1, a2⟩; exact .inr b
             have hf : ∀ r c, (match lo.map v with | none => f | some _ => fun r c => f (l.toNat + r) c) r c = f (l.toNat + r) c := by
               intro r c
               rcases bl with ⟨_, a2, a3⟩ | ⟨k', hb⟩
               · subst a3; subst a2; simp
               · cases lo with
                 | none => simp at hb
                 | some z => rfl
             generalize hq : a.eval y = q at hav
             cases hav with
             | d _ _ hd =>
               have hlen : ∃ aa cap, q = .slice aa len cap ∧ len ≤ cap := by
                 cases hd with
                 | vec0 _ _ aa cap => exact ⟨aa, cap, rfl, Nat.zero_le _⟩
                 | vec _ _ _ b off cap cur T fz g hb hc hg hr => exact ⟨_, cap, rfl, hc⟩
               obtain ⟨aa, cap, hqq, hcap⟩ := hlen
               have hrun := run_slice_any' (w := w) hel hi' aa len cap (lo.map a.eval) (hi.map a.eval) l u bl' bu' h0 h1 h2 hcap
               refine ⟨_, hexec a w _ (by rw [hq, hqq]; exact hrun), .d _ _ ?_⟩
               unfold sliced
               rcases Nat.eq_zero_or_pos (u.toNat - l.toNat) with hz | hz
               · rw [hz]; exact .vec0 _ _ _ _
               · have hne : ¬ cap = l.toNat := by omega
                 rw [if_neg hne]
                 subst hqq
                 cases hd with
                 | vec0 _ _ => omega
                 | vec _ _ _ b off _ cur T fz g hb hc hg hr =>
                   simp only [Option.map_some, Addr.add_lit]
                   refine .vec i.size _ _ b _ _ cur T fz (fun r c => g (l.toNat + r) c) hb (by omega) (fun r c hr' hc' => ?_) (fun r c hr' hc' => ?_)
                   · rw [← hg (l.toNat + r) c (by omega) hc', Nat.add_mul]; congr 1; omega
                   · rw [hf]; exact hr (l.toNat + r) c (by omega) hc'
           · cases e
         · cases e
       · next n off len hy =>
         split at e
         · next l u hl hu =>
           have core : ∀ (blk : Blk) (extra : Prop), h n = some blk → (∀ (M F : Imm) (ρ : Names) (h' : Heap) (w : World) (x : Own), extra → HR M F ρ h' w → h' n = some blk → ρ n = some x → 0 < x.R → 0 < len → x.k = i.size) → (0 ≤ l ∧ l ≤ u ∧ u ≤ len) → extra →
               Sound C o nm v h (True, [(n, blk)], .sl n (off + l.toNat) (u.toNat - l.toNat), []) := by
             rintro blk extra hm hwid ⟨h0, h1, h2⟩ hex _
             refine ⟨ok_pure fun M F ρ a h' w hv hH hbs => ?_, fun p hp => by simp at hp; subst hp; exact hm, rfl⟩
             have hav := hv y my; rw [hy] at hav
             have bl := bnd_case (a := a) (x := lo) (fun z hz => hv z (ml z hz)) hl
             have bu := bnd_case (a := a) (x := hi) (fun z hz => hv z (mh z hz)) hu
             have bl' : (lo.map a.eval = none ∧ l = 0) ∨ ∃ k, lo.map a.eval = some (.int k l) := by rcases bl with ⟨a1, a2, _⟩ | b; exact .inl ⟨a1, a2⟩; exact .inr b
             have bu' : (hi.map a.eval = none ∧ u = len) ∨ ∃ k, hi.map a.eval = some (.int k u) := by rcases bu with ⟨a1, a2, _⟩ | b; exact .inl ⟨a1, a2⟩; exact .inr b
             generalize hq : a.eval y = q at hav
             cases hav with
             | sl _ _ _ x hx hlR hR hR0 =>
               have hrun := run_slice_any' (w := w) hel hi' (some ⟨x.b, off * x.k, none⟩) len (x.R - off) (lo.map a.eval) (hi.map a.eval) l u bl' bu' h0 h1 h2 (by omega)
               refine ⟨_, hexec a w _ (by rw [hq]; exact hrun), ?_⟩
               unfold sliced
               by_cases hc : x.R - off = l.toNat
               · rw [if_pos hc, show u.toNat - l.toNat = 0 by omega, show x.R - off - l.toNat = 0 by omega]
                 exact .sl0 n _ x hx (by omega) _
               · rw [if_neg hc]
                 simp only [Option.map_some, Addr.add_lit]
                 have := VR.sl (M := M) n (off + l.toNat) (u.toNat - l.toNat) x hx (by omega) hR hR0
                 by_cases hlen : 0 < len
                 · have hxk := hwid M F ρ h' w x hex hH (hbs _ (List.mem_singleton.2 rfl)) hx hR0 hlen
                   rw [← hxk, ← Nat.add_mul, Nat.sub_sub]; exact this
                 · have hl0 : l.toNat = 0 := by omega
                   rw [hl0] at this ⊢
                   simpa using this
             | sl0 _ _ x hx hR aa =>
               have hl0 : l = 0 := by omega
               have hu0 : u = 0 := by omega
               subst hl0; subst hu0
               have hrun := run_slice_any' (w := w) hel hi' aa 0 0 (lo.map a.eval) (hi.map a.eval) 0 0 bl' bu' h0 h1 h2 (Nat.le_refl _)
               refine ⟨_, hexec a w _ (by rw [hq]; exact hrun), ?_⟩
               simp only [sliced, Int.toNat_zero, Nat.sub_self, if_true, Nat.add_zero]
               exact .sl0 n off x hx hR aa
           split at e
           · next ty k xs hm =>
             split at e
             · next hk =>
               cases e
               have hk := Nat.eq_of_beq_eq_true hk
               intro hvc
               exact core _ True hm (fun M F ρ h' w x _ hH hm' hx _ _ => by obtain ⟨cur, _, _, h3, _⟩ := hH.cells hm' hx; rw [h3, hk]) hvc trivial trivial
             · cases e
           · next ty k L f hm =>
             split at e
             · next hk =>
               cases e
               have hk := Nat.eq_of_beq_eq_true hk
               rintro ⟨hv1, hv2, hv3, hL⟩
               exact core _ (len ≤ L) hm (fun M F ρ h' w x hL hH hm' hx _ hl => by obtain ⟨cur, _, _, h3, _⟩ := hH.rows hm' (by omega) hx; rw [h3, hk]) ⟨hv1, hv2, hv3⟩ hL trivial
             · cases e
           · cases e
         · cases e
       · cases e
     · cases e
   · next hst =>
     split at e
     · next s hy =>
       split at e
       · next l u hl hu =>
         cases e
         rintro ⟨h0, h1, h2⟩
         refine ⟨ok_pure fun M F ρ a h w hv hH _ => ?_, fun p hp => by simp at hp, rfl⟩
         have hav := hv y my; rw [hy] at hav
         have bl := bnd_case (a := a) (x := lo) (fun z hz => hv z (ml z hz)) hl
         have bu := bnd_case (a := a) (x := hi) (fun z hz => hv z (mh z hz)) hu
         have bl' : (lo.map a.eval = none ∧ l = 0) ∨ ∃ k, lo.map a.eval = some (.int k l) := by rcases bl with ⟨a1, a2, _⟩ | b; exact .inl ⟨a1, a2⟩; exact .inr b
         have bu' : (hi.map a.eval = none ∧ u = s.size) ∨ ∃ k, hi.map a.eval = some (.int k u) := by rcases bu with ⟨a1, a2, _⟩ | b; exact .inl ⟨a1, a2⟩; exact .inr b
         refine ⟨_, hexec a w (.string (s.extract l.toNat u.toNat)) ?_, .d _ _ (.val _ rfl)⟩
         rw [hav.val]
         simp [Instr.sliceAt, Instr.slice, run_underlying hst, run_bounds false s.size s.size (lo.map a.eval) (hi.map a.eval) l u bl' bu' h0 h1 h2 (Nat.le_refl _)]
       · cases e
     · cases e
   · cases e
/- equality of structs of plain fields -/
def eqSV (P : Program) (xs ys : List SV) : List Field → Option Bool
 | [] => some true
 | f :: fs =>
   if f.name ≠ "_" then
     match P.underlying f.type, xs[f.offset]?, ys[f.offset]? with
     | some (.int _), some (.d (.val (.int k a))), some (.d (.val (.int k' b))) => if k = k' then (eqSV P xs ys fs).map ((a == b) && ·) else none
     | some .string, some (.d (.val (.string a))), some (.d (.val (.string b))) => (eqSV P xs ys fs).map ((a.toList == b.toList) && ·)
     | some .bool, some (.d (.val (.bool a))), some (.d (.val (.bool b))) => (eqSV P xs ys fs).map ((a == b) && ·)
     | _, _, _ => none
   else eqSV P xs ys fs
theorem eqSV_ok {P : Program} {M : Imm} {ρ : Names} {xs ys : List SV} {us vs : Array Value} (hx : RL M ρ xs us) (hy : RL M ρ ys vs) (d : Nat) (w : World) : ∀ (fs : List Field) (b : Bool), eqSV P xs ys fs = some b →
   (Op.eqFields (d + 1) us vs fs).run P w = .ok b w := by
 intro fs
 induction fs with
 | nil => intro b h; simp [eqSV] at h; subst h; rfl
 | cons f fs ih =>
   intro b h
   simp only [eqSV] at h
   simp only [Op.eqFields]
   split at h
   · next hn =>
     rw [if_pos hn]
     have part1 : ∀ (d : TypeDesc) (zs : List SV) (ws : Array Value) (u : Value), RL M ρ zs ws → P.underlying f.type = some d → (∀ fs, d ≠ .struct fs) → (∀ n e, d ≠ .array n e) → zs[f.offset]? = some (.d (.val u)) → (part f.type ws f.offset).run P w = .ok u w := by
       intro d zs ws u hr hd hns hna hz
       have hag : isAggB P f.type = some false := by
         unfold isAggB; rw [hd]
         cases d <;> first | rfl | (exact absurd rfl (hns _)) | (exact absurd rfl (hna _ _))
       obtain ⟨q, q1, q2⟩ := hr.2 _ _ hz
       rw [q2.val] at q1
       simp [part, run_isAgg hag, q1]
     split at h
     · next k0 k a k' b' hu h1 h2 =>
       split at h
       · next hk =>
         subst hk
         obtain ⟨r, hr, rfl⟩ := Option.map_eq_some_iff.1 h
         have e := run_equalIn_int (P := P) w d f.type k k0 a b' hu
         simp only [Sem.run_bind, part1 _ xs us _ hx hu (by simp) (by simp) h1, part1 _ ys vs _ hy hu (by simp) (by simp) h2, Result.andThen_ok, e, Sem.run_ite, ih r hr, Sem.run_pure]
         cases (a == b') <;> simp
       · cases h
     · next a b' hu h1 h2 =>
       obtain ⟨r, hr, rfl⟩ := Option.map_eq_some_iff.1 h
       have e := run_equalIn_string (P := P) w d f.type a b' hu
       simp only [Sem.run_bind, part1 _ xs us _ hx hu (by simp) (by simp) h1, part1 _ ys vs _ hy hu (by simp) (by simp) h2, Result.andThen_ok, e, Sem.run_ite, ih r hr, Sem.run_pure]
       cases (a.toList == b'.toList) <;> simp
     · next a b' hu h1 h2 =>
       obtain ⟨r, hr, rfl⟩ := Option.map_eq_some_iff.1 h
       have e := run_equalIn_bool' (P := P) w d f.type a b' hu
       simp only [Sem.run_bind, part1 _ xs us _ hx hu (by simp) (by simp) h1, part1 _ ys vs _ hy hu (by simp) (by simp) h2, Result.andThen_ok, e, Sem.run_ite, ih r hr, Sem.run_pure]
       cases (a == b') <;> simp
     · cases h
   · next hn => rw [if_neg hn]; exact ih b h
theorem structEq_ok {C : Ctx} {o : Oper} {nm : Nat} {v : Operand → SV} {op : BinOp} {t t' : TypeId} {y z : Operand} (ho : o.op = .binOp op t y z t') {xs ys : List SV} (hy : v y = .agg xs) (hz : v z = .agg ys) {fs : Array Field}
   (hfs : C.P.underlying t = some (.struct fs)) (hp : C.P.stoodInHeld t = false) (hm : C.P.eqGuardType C.P.depth t = false) {b : Bool} (hb : eqSV C.P xs ys fs.toList = some b) {r : Bool} (hop : (op = .eql ∧ r = b) ∨ (op = .neq ∧ r = !b)) :
   OpOK C o nm v [] (fun x w => x = SV.b r ∧ w = []) := by
 refine ok_pure fun M F ρ a h w hv hH _ => ⟨.bool r, ?_, .d _ _ (.val _ rfl)⟩
 have e1 := hv y (by rw [ho]; exact mem_ops2 (.inl rfl)); rw [hy] at e1
 have e2 := hv z (by rw [ho]; exact mem_ops2 (.inr rfl)); rw [hz] at e2
 obtain ⟨us, q1, r1⟩ := agg_case e1
 obtain ⟨vs, q2, r2⟩ := agg_case e2
 have hf : C.P.underlying t = some (.struct (C.P.fieldsOf t)) := by simp [Program.fieldsOf, hfs]
 have hff : C.P.fieldsOf t = fs := by simp [Program.fieldsOf, hfs]
 have he : (Op.equalIn 10000 t (.agg us) (.agg vs)).run C.P w = .ok b w := by
   rw [run_equalIn_agg (P := C.P) w 9999 t us vs hf hp, hff]
   exact eqSV_ok r1 r2 9998 w fs.toList b hb
 rcases hop with ⟨rfl, rfl⟩ | ⟨rfl, rfl⟩
 · simp [execOp, ho, q1, q2, run_eqGuard_agg (P := C.P) w .eql t y z us vs hm, run_eql_struct (P := C.P) w t us vs, he]
 · simp [execOp, ho, q1, q2, run_eqGuard_agg (P := C.P) w .neq t y z us vs hm, run_neq_struct (P := C.P) w t us vs, he]
end Go.Proofs.YtpdojmebloekgaaDoor.Nice
namespace Go.Proofs.YtpdojmebloekgaaDoor.Nice
open Go
set_option linter.unusedVariables false
def minS (y z : SV) : Option Out :=
 match y, z with
 | .d (.val (.int k a)), .d (.val (.int _ b)) => some (True, [], .d (.val (.int k (if b < a then b else a))), [])
 | _, _ => none
def maxS (y z : SV) : Option Out :=
 match y, z with
 | .d (.val (.int k a)), .d (.val (.int _ b)) => some (True, [], .d (.val (.int k (if a < b then b else a))), [])
 | _, _ => none
theorem min_ok {C : Ctx} {o : Oper} {nm : Nat} {v : Operand → SV} {h : Heap} {x : Out} {ts : Array TypeId} {y z : Operand} (ho : o.op = .call { callee := .builtin .min, args := #[y, z], argTypes := ts }) (e : minS (v y) (v z) = some x) : Sound C o nm v h x := by
 have my : y ∈ o.op.operands := by rw [ho]; simp [Op.operands, Call.operands]
 have mz : z ∈ o.op.operands := by rw [ho]; simp [Op.operands, Call.operands]
 unfold minS at e
 split at e
 · next k a k' b hy hz =>
   cases e
   intro _
   refine ⟨ok_pure fun M F ρ a' h w hv hH _ => ⟨_, ?_, .d _ _ (.val _ rfl)⟩, fun p hp => by simp at hp, rfl⟩
   have e1 := hv y my; rw [hy] at e1
   have e2 := hv z mz; rw [hz] at e2
   unfold execOp
   simp only [ho, resolve, invoke, builtin, Sem.run_bind, Sem.run_pure, Result.andThen_ok, List.map_toArray, List.map_cons, List.map_nil, e1.val, e2.val, Builtin.min_, List.foldlM_cons, List.foldlM_nil, Builtin.min2]
 · cases e
theorem max_ok {C : Ctx} {o : Oper} {nm : Nat} {v : Operand → SV} {h : Heap} {x : Out} {ts : Array TypeId} {y z : Operand} (ho : o.op = .call { callee := .builtin .max, args := #[y, z], argTypes := ts }) (e : maxS (v y) (v z) = some x) : Sound C o nm v h x := by
 have my : y ∈ o.op.operands := by rw [ho]; simp [Op.operands, Call.operands]
 have mz : z ∈ o.op.operands := by rw [ho]; simp [Op.operands, Call.operands]
 unfold maxS at e
 split at e
 · next k a k' b hy hz =>
   cases e
   intro _
   refine ⟨ok_pure fun M F ρ a' h w hv hH _ => ⟨_, ?_, .d _ _ (.val _ rfl)⟩, fun p hp => by simp at hp, rfl⟩
   have e1 := hv y my; rw [hy] at e1
   have e2 := hv z mz; rw [hz] at e2
   unfold execOp
   simp only [ho, resolve, invoke, builtin, Sem.run_bind, Sem.run_pure, Result.andThen_ok, List.map_toArray, List.map_cons, List.map_nil, e1.val, e2.val, Builtin.max_, List.foldlM_cons, List.foldlM_nil, Builtin.max2]
 · cases e
def nilEqS (P : Program) (r : Bool) (t : TypeId) (x : SV) : Option Out :=
 match P.underlying t with
 | some (.slice _) =>
   match x with
   | .d (.vec _ len _) => some (0 < len, [], .d (.val (.bool r)), [])
   | .sl _ _ len => some (0 < len, [], .d (.val (.bool r)), [])
   | _ => none
 | _ => none
theorem slice_some {M : Imm} {ρ : Names} {x : SV} {u : Value} (h : VR M ρ x u) {len : Nat} (h0 : 0 < len) (hx : (∃ k f, x = .d (.vec k len f)) ∨ ∃ n o, x = .sl n o len) : ∃ a l c, u = .slice (some a) l c := by
 rcases hx with ⟨k, f, rfl⟩ | ⟨n, o, rfl⟩
 · cases h with
   | d _ _ h => cases h with
     | vec0 => omega
     | vec => exact ⟨_, _, _, rfl⟩
 · cases h with
   | sl => exact ⟨_, _, _, rfl⟩
   | sl0 => omega
theorem nilEq_ok {C : Ctx} {o : Oper} {nm : Nat} {v : Operand → SV} {h : Heap} {x : Out} {op : BinOp} {t t' : TypeId} {y : Operand} {r : Bool} (ho : o.op = .binOp op t y (.const (.slice none 0 0)) t') (hop : op = .eql ∧ r = false ∨ op = .neq ∧ r = true) (e : nilEqS C.P r t (v y) = some x) : Sound C o nm v h x := by
 have my : y ∈ o.op.operands := by rw [ho]; exact mem_ops2 (.inl rfl)
 have key : ∀ (el : TypeId) (len : Nat), C.P.underlying t = some (.slice el) → ((∃ k f, v y = .d (.vec k len f)) ∨ ∃ n o, v y = .sl n o len) → Sound C o nm v h (0 < len, [], .d (.val (.bool r)), []) := by
   intro el len hu hx h0
   refine ⟨ok_pure fun M F ρ a' h w hv hH _ => ⟨_, ?_, .d _ _ (.val _ rfl)⟩, fun p hp => by simp at hp, rfl⟩
   obtain ⟨a, l, cc, hs⟩ := slice_some (hv y my) h0 hx
   have hc : a'.eval (.const (.slice none 0 0)) = .slice none 0 0 := rfl
   have hg : (eqGuard op t y (.const (.slice none 0 0)) (.slice (some a) l cc) (.slice none 0 0)).run C.P w = .ok () w := by
     rcases hop with ⟨rfl, rfl⟩ | ⟨rfl, rfl⟩ <;> rfl
   have he := run_equal_slice_nil (P := C.P) w t el (some a) l cc hu
   have hb : (binOp op t (.slice (some a) l cc) (.slice none 0 0)).run C.P w = .ok (.bool r) w := by
     rcases hop with ⟨rfl, rfl⟩ | ⟨rfl, rfl⟩
     · simp only [binOp]
       simp [he]
     · simp only [binOp]
       simp [he]
   unfold execOp
   simp only [ho, hs, hc, Sem.run_bind, hg, hb, Result.andThen_ok, Sem.run_pure]
 unfold nilEqS at e
 split at e
 · next el hu =>
   split at e
   · next k len f hy => cases e; exact key el len hu (.inl ⟨k, f, hy⟩)
   · next n o len hy => cases e; exact key el len hu (.inr ⟨n, o, hy⟩)
   · cases e
 · cases e
def emptyLitS (P : Program) (t : TypeId) : Option Out :=
 match P.underlying t with
 | some (.slice e) => match P.info? e with
   | some _ => some (True, [], .d .nils, [])
   | none => none
 | _ => none
theorem emptyLit_ok {C : Ctx} {o : Oper} {nm : Nat} {v : Operand → SV} {h : Heap} {x : Out} {t : TypeId} (ho : o.op = .buildSlice t 0 #[]) (e : emptyLitS C.P t = some x) : Sound C o nm v h x := by
 unfold emptyLitS at e
 split at e
 · next el hel =>
   split at e
   · next i hi =>
     cases e
     intro _
     refine ⟨ok_value fun M F ρ a h w hv hH _ hfr => ?_, fun p hp => by simp at hp, rfl⟩
     refine ⟨ρ, .slice (some ⟨w.heap.size, 0, none⟩) 0 0, w.alloc (.cells #[] el), Names.le_refl _, fun _ _ => rfl, ?_, .d _ _ (.nils _), hH.beside _, Same.alloc _ _⟩
     have hp : (Array.map (fun x : Nat × Operand => (x.fst, a.eval x.snd)) #[]).toList = [] := by simp
     have hr : ∀ f : Nat → Value, (Array.range 0).map f = #[] := by intro f; simp
     simp only [execOp, ho, Instr.buildSlice, Sem.run_bind, run_underlying hel, Result.andThen_ok, sizeOf, typeInfo, run_program, hi, Sem.run_pure, Nat.zero_mul, if_neg (show ¬ (0 > 2 ^ 24) by decide), if_true, hp, hr, Instr.fill]
     rfl
   · cases e
 · cases e
def ints64 : List SV → Option (List Int)
 | [] => some []
 | .d (.val (.int .i64 n)) :: r => match ints64 r with
   | some l => some (n :: l)
   | none => none
 | _ => none
theorem ints64_get : ∀ {xs : List SV} {l : List Int}, ints64 xs = some l → xs.length = l.length ∧ ∀ i, i < l.length → xs[i]? = some (.d (.val (.int .i64 (l.getD i 0))))
 | [], l, h => by cases h; exact ⟨rfl, fun i hi => by simp at hi⟩
 | .d (.val (.int .i64 n)) :: r, l, h => by
   simp only [ints64] at h
   split at h
   · next l' hl =>
     cases h
     obtain ⟨h1, h2⟩ := ints64_get hl
     refine ⟨by simp [h1], fun i hi => ?_⟩
     cases i with
     | zero => rfl
     | succ i => simpa using h2 i (by simpa using hi)
   · cases h
def arrIdxS (P : Program) (t : TypeId) (x ix : SV) : Option Out :=
 match P.underlying t with
 | some (.array len e) =>
   match P.info? e, isAggB P e with
   | some i, some false =>
     match x, ix with
     | .agg xs, .d (.val (.int _ n)) =>
       match ints64 xs with
       | some l => if Nat.beq i.size 1 && Nat.beq len l.length then some (0 ≤ n ∧ n < l.length, [], .d (.val (.int .i64 (l.getD n.toNat 0))), []) else none
       | none => none
     | _, _ => none
   | _, _ => none
 | _ => none
theorem arrIdx_ok {C : Ctx} {o : Oper} {nm : Nat} {v : Operand → SV} {h : Heap} {x : Out} {t : TypeId} {y ix : Operand} (ho : o.op = .index t y ix) (e : arrIdxS C.P t (v y) (v ix) = some x) : Sound C o nm v h x := by
 unfold arrIdxS at e
 split at e
 · next len el hel =>
   split at e
   · next i hi hag =>
     split at e
     · next xs kk n hy hix =>
       split at e
       · next l hl =>
         split at e
         · next hc =>
           cases e
           rintro ⟨h0, h1⟩
           simp only [Bool.and_eq_true] at hc
           have c1 := Nat.eq_of_beq_eq_true hc.1
           have c2 := Nat.eq_of_beq_eq_true hc.2
           refine ⟨ok_pure fun M F ρ a h w hv hH _ => ⟨_, ?_, .d _ _ (.val _ rfl)⟩, fun p hp => by simp at hp, rfl⟩
           have e1 := hv y (by rw [ho]; exact mem_ops2 (.inl rfl)); rw [hy] at e1
           have e2 := hv ix (by rw [ho]; exact mem_ops2 (.inr rfl)); rw [hix] at e2
           obtain ⟨vs, hq, hRL⟩ := agg_case e1
           obtain ⟨g1, g2⟩ := ints64_get hl
           obtain ⟨u, u1, u2⟩ := hRL.2 _ _ (g2 n.toNat (by omega))
           rw [u2.val] at u1
           have hlt : 0 ≤ n ∧ n < (len : Int) := ⟨h0, by rw [c2]; exact h1⟩
           simp [execOp, ho, hq, e2.val, Instr.index, asIntOf, run_underlying hel, hlt, part, run_isAgg hag, sizeOf, typeInfo, hi, c1, u1]
         · cases e
       · cases e
     · cases e
   · cases e
 · cases e
def arrBuildS (P : Program) (t : TypeId) (parts : List (Nat × SV)) : Option Out :=
 match P.underlying t with
 | some (.array len e) =>
   match zerosOf P t, P.info? e with
   | some z, some i =>
     if parts.all fun p => Nat.blt p.1 len then
       match fillS (unitPlaces i.size 0 len) (toSVs z) parts with
       | some xs => some (True, [], .agg xs, [])
       | none => none
     else none
   | _, _ => none
 | _ => none
theorem arrBuild_ok {C : Ctx} {o : Oper} {nm : Nat} {v : Operand → SV} {h : Heap} {x : Out} {t : TypeId} {parts : Array (Nat × Operand)} (ho : o.op = .build t parts) (e : arrBuildS C.P t (svParts v parts.toList) = some x) : Sound C o nm v h x := by
 unfold arrBuildS at e
 split at e
 · next len el hel =>
   split at e
   · next z i0 hz hi0 =>
     split at e
     · next c4 =>
       split at e
       · next xs hxs =>
         cases e
         intro _
         refine ⟨ok_pure fun M F ρ a h w hv hH _ => ?_, fun p hp => by simp at hp, rfl⟩
         obtain ⟨i, zv, hi, hzv, hzl, hlen, hone⟩ := zerosOf_ok hz
         obtain ⟨p1, p2⟩ := parts_rel (M := M) (ρ := ρ) (a := a) (v := v) (parts := parts) (fun i x hx => hv x (by rw [ho]; exact mem_build hx t))
         obtain ⟨us, g1, g2⟩ := fill_ok (M := M) (ρ := ρ) (unitPlaces i0.size 0 len) (fun i => (unitPlaces i0.size 0 len)[i]?) (fun i => rfl) (svParts v parts.toList) _ (toSVs z) xs zv.cells p1 p2 (toSVs_RL hzl hone) hxs
         refine ⟨.agg us, ?_, g2.agg⟩
         have hplace : Instr.fill (fun i => some (i * i0.size, i0.size)) zv.cells (parts.map fun (i, x) => (i, a.eval x)).toList = some us := by
           rw [← g1]
           refine fill_bound (places := []) (n := len) (fun i hi => ?_) _ _ ?_
           · rw [unitPlaces_get, if_pos hi, Nat.zero_add]
           · intro p hp
             obtain ⟨j, hj⟩ := List.mem_iff_getElem?.1 hp
             rw [Array.getElem?_toList] at hj
             simp only [Array.getElem?_map, Option.map_eq_some_iff] at hj
             obtain ⟨⟨i, y⟩, hy, rfl⟩ := hj
             have hmem : (i, v y) ∈ svParts v parts.toList := by
               have : ∀ (l : List (Nat × Operand)), (i, y) ∈ l → (i, v y) ∈ svParts v l := by
                 intro l
                 induction l with
                 | nil => intro h; cases h
                 | cons q l ih =>
                   intro h
                   rcases List.mem_cons.1 h with rfl | h
                   · exact List.mem_cons_self ..
                   · exact List.mem_cons_of_mem _ (ih h)
               exact this _ (by rw [Array.mem_toList_iff]; exact Array.mem_of_getElem? hy)
             have := (List.all_eq_true.1 c4) _ hmem
             simpa using this
         simp only [execOp, ho, Instr.build, zeroValue, typeInfo, sizeOf, Sem.run_bind, run_program, Result.andThen_ok, hi, hi0, Sem.run_pure, hzv, run_underlying hel, hplace]
       · cases e
     · cases e
   · cases e
 · cases e
def strBytesF (s : ByteArray) : Nat → Nat → D := fun i _ => .val (.int .u8 ((s.data.getD i 0).toNat : Int))
def strBytesS (P : Program) (src dst : TypeId) (x : SV) : Option Out :=
 match P.underlying src, P.underlying dst with
 | some .string, some (.slice e) =>
   match P.underlying e with
   | some (.int .u8) =>
     match x with
     | .d (.val (.string s)) => some (True, [], .d (.vec 1 s.size (strBytesF s)), [])
     | _ => none
   | _ => none
 | _, _ => none
theorem strBytes_ok {C : Ctx} {o : Oper} {nm : Nat} {v : Operand → SV} {h : Heap} {x : Out} {src dst : TypeId} {y : Operand} (ho : o.op = .convert src dst y) (e : strBytesS C.P src dst (v y) = some x) : Sound C o nm v h x := by
 unfold strBytesS at e
 split at e
 · next el hs hd =>
   split at e
   · next he =>
     split at e
     · next s hy =>
       cases e
       intro _
       refine ⟨?_, fun p hp => by simp at hp, rfl⟩
       intro M F ρ a h w hv hG hH hbs hfr K Q hK
       have e1 := hv y (by rw [ho]; simp [Op.operands]); rw [hy] at e1
       have hrun := run_bytes_of_string (P := C.P) w src dst el s hs hd he
       have hx : (execOp a.eval o).run C.P w = .ok (.value (.slice (some ⟨w.heap.size, 0, none⟩) s.size (grownCap w s.size 0 el))) (w.drew.alloc (.cells (bytesRow s (grownCap w s.size 0 el)) el ((bytesRow s (grownCap w s.size 0 el)).size, (bytesRow s (grownCap w s.size 0 el)).size + 1))) := by
         unfold execOp
         simp only [ho, e1.val, Sem.run_bind, hrun, Result.andThen_ok, Sem.run_pure]
       generalize hobj : Obj.cells (bytesRow s (grownCap w s.size 0 el)) el ((bytesRow s (grownCap w s.size 0 el)).size, (bytesRow s (grownCap w s.size 0 el)).size + 1) = obj at hx
       let M' : Imm := fun b => if b = w.heap.size then some obj else M b
       have hb := hH.beyond
       have hle : M.le M' := by
         intro b o hbo
         have : b ≠ w.heap.size := by rintro rfl; rw [(hb _ (Nat.le_refl _)).1] at hbo; cases hbo
         simp [M', this, hbo]
       have hnew : (w.drew.alloc obj).heap[w.heap.size]? = some obj := heap_alloc_new w.drew obj
       have hD : HR M F ρ h (w.drew.alloc obj) := (hH.drawn (w.drawn + 1)).beside obj
       have hH' : HR M' F ρ h (w.drew.alloc obj) := by
         refine ⟨fun b o hbo => ?_, hD.frm, fun b o hbo => ?_, fun m blk hm => ?_, hD.sep, ?_⟩
         rotate_right
         · refine hD.famKeep (fun _ _ _ h => h) (Names.le_refl _) hle (Nat.le_refl _) (fun m S es hm b hb a1 a2 => ⟨?_, a2⟩) (fun _ _ _ _ _ _ _ _ _ _ => rfl) (fun _ _ _ m y _ a b _ => .inl ⟨a, b⟩)
           obtain ⟨_, _, _, g1, _⟩ := hH.fam m S es hm
           have hlt := (g1 b hb).2.2
           simp [M', show b ≠ w.heap.size by omega, a1]
         · by_cases e : b = w.heap.size
           · subst e; simp [M'] at hbo; subst hbo; exact hnew
           · simp [M', e] at hbo; exact hD.imm b o hbo
         · have : b ≠ w.heap.size := by rintro rfl; rw [(hb _ (Nat.le_refl _)).2] at hbo; cases hbo
           simp [M', this]; exact hD.dis b o hbo
         · obtain ⟨z, hz, hr⟩ := hH.live m blk hm
           obtain ⟨z', hz', hr'⟩ := hD.live m blk hm
           rw [hz] at hz'; obtain rfl := Option.some.inj hz'
           refine ⟨z, hz, ?_⟩
           rcases hr' with hr' | ⟨q0, q1, q2, ob, q3, q4⟩
           · exact .inl hr'
           · rcases hr with ⟨h0, _⟩ | ⟨_, _, _, ob', q5, _⟩
             · omega
             · have hlt := (Array.getElem?_eq_some_iff.1 q5).1
               exact .inr ⟨q0, by simp [M', show z.b ≠ w.heap.size by omega, q1], q2, ob, q3, q4.mono hle (Names.le_refl _)⟩
       unfold Oper.wp
       rw [hx]
       refine hK M' ρ _ [] _ _ hle (Names.le_refl _) (fun _ _ => rfl) ⟨rfl, rfl⟩ (.d _ _ ?_) hH' ⟨rfl, rfl, rfl, by simp⟩
       subst hobj
       refine .vec 1 s.size _ w.heap.size 0 _ (bytesRow s (grownCap w s.size 0 el)) el ((bytesRow s (grownCap w s.size 0 el)).size, (bytesRow s (grownCap w s.size 0 el)).size + 1) (fun i _ => .int .u8 ((s.data.getD i 0).toNat : Int)) (by simp [M']) ?_ (fun i c hi hc => ?_) (fun i c hi hc => .val _ rfl)
       · unfold grownCap; exact Nat.le_add_right _ _
       · obtain rfl : c = 0 := by omega
         have hi' : i < s.data.size := hi
         show (bytesRow s _)[0 + i * 1 + 0]? = _
         rw [Nat.zero_add, Nat.mul_one, Nat.add_zero]
         unfold bytesRow
         rw [Array.getElem?_append_left (by simpa using hi'), Array.getElem?_map, Array.getElem?_eq_getElem hi']
         simp [Array.getD]
         rw [dif_pos hi]
     · cases e
   · cases e
 · cases e
def sop (C : Ctx) (nm : Nat) (o : Oper) (v : Operand → SV) (h : Heap) : Option Out :=
 match o.op with
 | .move y => some (moveS (v y))
 | .assign y => some (moveS (v y))
 | .pick c a b => pickS (v c) (v a) (v b)
 | .alloc t => allocS C.P nm t
 | .box t y => boxS nm t (v y)
 | .build t ps => match buildS C.P t (svParts v ps.toList) with
   | some x => some x
   | none => arrBuildS C.P t (svParts v ps.toList)
 | .buildSlice t 0 ⟨[]⟩ => emptyLitS C.P t
 | .buildSlice t len ps => sliceLitS C.P nm t len (svParts v ps.toList)
 | .load t a => loadOp C.P t (v a) h
 | .store t a y => storeS C.P t (v a) (v y) h
 | .nilCheck y => nilCheckS (v y)
 | .fieldAddr t y f => fieldAddrS C.P t (v y) f
 | .field t y f => fieldS C.P t (v y) f
 | .indexAddr t y ix => indexAddrS C.P t (v y) (v ix) h
 | .index t y ix => match indexS C.P t (v y) (v ix) with
   | some x => some x
   | none => arrIdxS C.P t (v y) (v ix)
 | .slice t y lo hi mx => sliceS C.P t (v y) (lo.map v) (hi.map v) (mx.map v) h
 | .makeFunc fn first caps => makeFuncS fn first.toList (mapV v caps.toList)
 | .makeMap t r => makeMapS nm r
 | .makeSlice t l c => makeSliceS C.P nm t (v l) (v c)
 | .extract y i => extractS (v y) i
 | .call ⟨.builtin .len, ⟨[y]⟩, ⟨[t]⟩⟩ => lenS C.P t (v y) h
 | .call ⟨.builtin .append, ⟨[a, b]⟩, ⟨[t, t']⟩⟩ => if Nat.beq t t' then appendS C.P nm t (v a) (v b) h else none
 | .call ⟨.builtin .min, ⟨[y, z]⟩, ts⟩ => minS (v y) (v z)
 | .call ⟨.builtin .max, ⟨[y, z]⟩, ts⟩ => maxS (v y) (v z)
 | .binOp .eql t y (.const (.slice none 0 0)) t' => nilEqS C.P false t (v y)
 | .binOp .neq t y (.const (.slice none 0 0)) t' => nilEqS C.P true t (v y)
 | .convert src dst y => match strBytesS C.P src dst (v y) with
   | some x => some x
   | none => pureS C.P o v
 | .binOp .quo t y z t' => divS .quo (v y) (v z)
 | .binOp .rem t y z t' => divS .rem (v y) (v z)
 | .binOp .shl t y z t' => shiftS .shl (v y) (v z)
 | .binOp .shr t y z t' => shiftS .shr (v y) (v z)
 | _ => pureS C.P o v
theorem sop_ok {C : Ctx} {nm : Nat} {o : Oper} {v : Operand → SV} {h : Heap} {x : Out} (e : sop C nm o v h = some x) : Sound C o nm v h x := by
 unfold sop at e
 split at e
 · next y ho => cases e; exact move_ok (.inl ho)
 · next y ho => cases e; exact move_ok (.inr ho)
 · next ho => exact pick_ok ho e
 · next ho => exact alloc_ok ho e
 · next ho => exact box_ok ho e
 · next ho =>
   split at e
   · next x hx => exact build_ok ho (by rw [hx, e])
   · exact arrBuild_ok ho e
 · next ho => exact emptyLit_ok ho e
 · next ho => exact sliceLit_ok ho e
 · next ho => exact loadOp_ok ho e
 · next ho => exact storeS_ok ho e
 · next ho => exact nilCheck_ok ho e
 · next ho => exact fieldAddr_ok ho e
 · next ho => exact field_ok ho e
 · next ho => exact indexAddr_ok ho e
 · next ho =>
   split at e
   · next x hx => exact index_ok ho (by rw [hx, e])
   · exact arrIdx_ok ho e
 · next ho => exact slice_ok ho e
 · next ho => exact makeFunc_ok ho e
 · next ho => exact makeMap_ok ho e
 · next ho => exact makeSlice_ok ho e
 · next ho => exact extract_ok ho e
 · next ho => exact len_ok ho e
 · next ho =>
   split at e
   · next ht => have ht := Nat.eq_of_beq_eq_true ht; subst ht; exact append_ok ho e
   · cases e
 · next ho => exact min_ok ho e
 · next ho => exact max_ok ho e
 · next ho => exact nilEq_ok ho (.inl ⟨rfl, rfl⟩) e
 · next ho => exact nilEq_ok ho (.inr ⟨rfl, rfl⟩) e
 · next ho =>
   split at e
   · next x hx => exact strBytes_ok ho (by rw [hx, e])
   · exact pureS_ok e
 · next ho => exact div_ok ho e
 · next ho => exact div_ok ho e
 · next ho => exact shift_ok ho e
 · next ho => exact shift_ok ho e
 · exact pureS_ok e
theorem st {C : Ctx} {ops : List Oper} {i : Nat} {o : Oper} {l : List Oper} {σ : St} {acc : Option (List FP)} {K : St → Prop} {vc : Prop} {bs : List (Nat × Blk)} {u : SV} {wr : List (Nat × Option Blk)}
   (hg : o.guard = none) (hd : dstOK C o = true) (e : sop C (σ.nx + 8 * i) o (opv C σ.t) σ.h = some (vc, bs, u, wr)) (hvc : vc)
   (k : wops C ops (i + 1) l (σ.app o.dst u wr) (acc.map (· ++ [(bs.map (·.1), wr.map (·.1))])) K) : wops C ops i (o :: l) σ acc K := by
 obtain ⟨h1, h2, h3⟩ := sop_ok e hvc
 unfold wops
 exact .inl ⟨_, _, ⟨hd, .inl ⟨by simp [gOn, hg], bs, u, wr, h1, h2, h3, rfl, rfl⟩⟩, k⟩
theorem st_ok {C : Ctx} {ops : List Oper} {i : Nat} {o : Oper} {l : List Oper} {σ : St} {acc : Option (List FP)} {K : St → Prop} {bs : List (Nat × Blk)} {u : SV} {wr : List (Nat × Option Blk)}
   (hg : o.guard = none) (hd : dstOK C o = true) (hok : OpOK C o (σ.nx + 8 * i) (opv C σ.t) bs (fun x y => x = u ∧ y = wr)) (hbs : ∀ p, p ∈ bs → σ.h p.1 = some p.2) (hk : keysIn bs (σ.nx + 8 * i) wr = true)
   (k : wops C ops (i + 1) l (σ.app o.dst u wr) (acc.map (· ++ [(bs.map (·.1), wr.map (·.1))])) K) : wops C ops i (o :: l) σ acc K := by
 unfold wops
 exact .inl ⟨_, _, ⟨hd, .inl ⟨by simp [gOn, hg], bs, u, wr, hok, hbs, hk, rfl, rfl⟩⟩, k⟩
theorem st_guard {C : Ctx} {ops : List Oper} {i : Nat} {o : Oper} {l : List Oper} {σ : St} {acc : Option (List FP)} {K : St → Prop} {j : Nat} {want : Bool} {s : Tmp} {b : Bool}
   (hg : o.guard = some (j, want)) (hs : gslot ops j = some s) (hb : σ.t s = SV.b b)
   (on : b = want → wops C ops i ({ o with guard := none } :: l) ⟨upd σ.t s (SV.b want), σ.h, σ.nx⟩ acc K)
   (off : b = !want → wops C ops (i + 1) l (St.app ⟨upd σ.t s (SV.b !want), σ.h, σ.nx⟩ o.dst (.tup []) []) (acc.map (· ++ [([], [])])) K) (hd : dstOK C o = true) : wops C ops i (o :: l) σ acc K := by
 have same : upd σ.t s (SV.b b) = σ.t := by
   funext k; rw [upd_eq]; split
   · next e => subst e; exact hb.symm
   · rfl
 by_cases h : b = want
 · have := on h
   rw [← h, same] at this
   unfold wops at this ⊢
   have ops' : ∀ {nm : Nat} {v : Operand → SV} {bs RS}, OpOK C { o with guard := none } nm v bs RS → OpOK C o nm v bs RS := fun hok => hok
   rcases this with ⟨fp, σ', ⟨hd', hD⟩, hr⟩ | ⟨h0, hd', hgo, bs, RS, hok, hbs, hn⟩
   · refine .inl ⟨fp, σ', ⟨hd, ?_⟩, hr⟩
     rcases hD with ⟨_, bs, u, wr, hok, rest⟩ | ⟨hgf, _⟩
     · exact .inl ⟨by unfold gOn; rw [hg]; exact ⟨s, hs, by rw [hb, h]⟩, bs, u, wr, ops' hok, rest⟩
     · simp [gOff] at hgf
   · exact .inr ⟨h0, hd, by unfold gOn; rw [hg]; exact ⟨s, hs, by rw [hb, h]⟩, bs, RS, ops' hok, hbs, hn⟩
 · have h' : b = !want := by cases b <;> cases want <;> simp_all
   have := off h'
   rw [← h', same] at this
   unfold wops
   refine .inl ⟨([], []), _, ⟨hd, .inr ⟨?_, rfl, rfl⟩⟩, this⟩
   unfold gOff; rw [hg]; exact ⟨s, hs, .inl (by rw [hb, h'])⟩
/- calls -/
def fnOK (fn : Func) : Bool := !(fn.name == "runtime.NumGoroutine") && fn.body.isSome
theorem call_ok {C : Ctx} {o : Oper} {nm : Nat} {v : Operand → SV} {x : Operand} {cargs : Array Operand} {tys : Array TypeId} (ho : o.op = .call { callee := .value x, args := cargs, argTypes := tys }) {f : FuncId} {caps : List SV} (hx : v x = .fn f caps)
   {fn : Func} (hf : C.P.funcs[f]? = some fn) (hfn : fnOK fn = true) {args : List SV} {hin : List Blk} {post : SV → List (Option Blk) → Prop} (hF : Spec C.P C.G f args hin post) (π : List Nat) (hargs : mapV v cargs.toList ++ caps = renL π args)
   (side : (Nat.beq π.length hin.length && (nodupB π && (hUnder hin.length (hin.map some) && underL hin.length args))) = true) :
   OpOK C o nm v (bsOf π π hin) (fun u wr => ∃ r hout π2, post r hout ∧ π2 = π ++ newNames nm (hout.length - hin.length) ∧ u = ren π2 r ∧ wr = wrOf π2 π2 hout) := by
 simp only [Bool.and_eq_true] at side
 obtain ⟨s1, s2, s3, s4⟩ := side
 have s1 := Nat.eq_of_beq_eq_true s1
 intro M F ρ a h w hv hG hH hbs hfr K Q hK
 have hvx := hv x (by rw [ho]; simp [Op.operands, Call.operands])
 rw [hx] at hvx
 obtain ⟨vs, hq, hvs, hvr⟩ := fn_case hvx
 have hrel := mapV_rel (M := M) (ρ := ρ) (a := a) (v := v) (xs := cargs) (fun y hy => hv y (by rw [ho]; simp [Op.operands, Call.operands, hy]))
 have hrun : (execOp a.eval o).run C.P w = .ok (.enter f (cargs.map a.eval ++ vs)) w := by
   simp only [fnOK, Bool.and_eq_true, Bool.not_eq_true'] at hfn
   obtain ⟨n1, n2⟩ := hfn
   have n1 : fn.name ≠ "runtime.NumGoroutine" := by simpa using n1
   have n3 : fn.body ≠ none := by intro e; rw [e] at n2; cases n2
   simp [execOp, ho, resolve, hq, Deferred.ofValue, invoke, callFunc, hf, n1, n3]
 unfold Oper.wp
 rw [hrun, Oper.upon_enter]
 have hlenargs : args.length = cargs.size + vs.size := by
   have := congrArg List.length hargs
   rw [List.length_append, mapV_length, renL_length, Array.length_toList] at this
   omega
 refine (call_world hF hG hH s1 s2 hbs s3 s4 (vs := cargs.map a.eval ++ vs) (by simp [hlenargs]) ?_ hfr).mono ?_
 · intro i y hy
   have hyr : (mapV v cargs.toList ++ caps)[i]? = some (ren π y) := by rw [hargs, renL_get, hy]; rfl
   by_cases hi : i < cargs.size
   · rw [List.getElem?_append_left (by rw [mapV_length, Array.length_toList]; exact hi)] at hyr
     obtain ⟨u, u1, u2⟩ := hrel.2 i _ hyr
     exact ⟨u, by rw [Array.getElem?_append_left (by simpa using hi)]; exact u1, u2⟩
   · rw [List.getElem?_append_right (by rw [mapV_length, Array.length_toList]; omega), mapV_length, Array.length_toList] at hyr
     obtain ⟨u, u1, u2⟩ := hvr _ _ hyr
     exact ⟨u, by rw [Array.getElem?_append_right (by simp; omega)]; simpa using u1, u2⟩
 · rintro e w' ⟨M', ρ', r, hout, u, π2, rfl, hπ2, h1, h2, h3, h4, h5, h6, h7⟩
   exact hK M' ρ' _ _ u w' h1 h2 h3 ⟨r, hout, π2, h7, hπ2, rfl, rfl⟩ h4 h5 h6
def bsHeap (h : Heap) : List (Nat × Blk) → Prop
 | [] => True
 | (n, b) :: r => h n = some b ∧ bsHeap h r
theorem bsHeap_mem {h : Heap} : ∀ {l : List (Nat × Blk)}, bsHeap h l → ∀ p, p ∈ l → h p.1 = some p.2
 | [], _, p, hp => by cases hp
 | (n, b) :: r, hh, p, hp => by
   rcases List.mem_cons.1 hp with rfl | hp
   · exact hh.1
   · exact bsHeap_mem hh.2 p hp
theorem keysIn_call {π : List Nat} {hin : List Blk} {nm : Nat} (hlen : π.length = hin.length) : ∀ (hout : List (Option Blk)), hout.length ≤ hin.length + 8 → hin.length ≤ hout.length →
   keysIn (bsOf π π hin) nm (wrOf (π ++ newNames nm (hout.length - hin.length)) (π ++ newNames nm (hout.length - hin.length)) hout) = true := by
 intro hout h8 hle
 unfold keysIn
 rw [List.all_eq_true]
 intro p hp
 obtain ⟨i, b, h1, h2, h3⟩ := wrOf_keys _ _ p hp
 by_cases hi : i < π.length
 · rw [List.getElem?_append_left hi] at h1
   obtain ⟨j, j1, j2⟩ := bsOf_get (π := π) π hin hlen i _ (List.getElem?_eq_getElem (by omega))
   rw [h1] at j1; obtain rfl := Option.some.inj j1
   have : ((bsOf π π hin).any fun q => Nat.beq q.1 p.1) = true := by rw [List.any_eq_true]; exact ⟨_, j2, by simp⟩
   rw [this]; rfl
 · rw [List.getElem?_append_right (by omega)] at h1
   have hlt : i - π.length < hout.length - hin.length := by
     have := (List.getElem?_eq_some_iff.1 h1).1
     rw [newNames_length] at this; exact this
   rw [newNames_get _ _ _ hlt] at h1
   have := Option.some.inj h1
   rw [← this]
   simp; omega
theorem st_call {C : Ctx} {ops : List Oper} {i : Nat} {o : Oper} {l : List Oper} {σ : St} {acc : Option (List FP)} {K : St → Prop} {x : Operand} {cargs : Array Operand} {tys : Array TypeId} {f : FuncId} {caps : List SV} {fn : Func} {args : List SV} {hin : List Blk} {r : SV} {hout : List (Option Blk)}
   (π : List Nat) (hF : Spec C.P C.G f args hin (fun r' ho => r' = r ∧ ho = hout)) (hg : o.guard = none) (hd : dstOK C o = true) (ho : o.op = .call { callee := .value x, args := cargs, argTypes := tys }) (hx : opv C σ.t x = .fn f caps) (hf : C.P.funcs[f]? = some fn) (hfn : fnOK fn = true)
   (hargs : mapV (opv C σ.t) cargs.toList ++ caps = renL π args)
   (side : (Nat.beq π.length hin.length && (nodupB π && (hUnder hin.length (hin.map some) && underL hin.length args))) = true)
   (side2 : (Nat.ble hin.length hout.length && Nat.ble hout.length (hin.length + 8)) = true)
   (hbs : bsHeap σ.h (bsOf π π hin))
   (k : wops C ops (i + 1) l (σ.app o.dst (ren (π ++ newNames (σ.nx + 8 * i) (hout.length - hin.length)) r) (wrOf (π ++ newNames (σ.nx + 8 * i) (hout.length - hin.length)) (π ++ newNames (σ.nx + 8 * i) (hout.length - hin.length)) hout))
     (acc.map (· ++ [((bsOf π π hin).map (·.1), (wrOf (π ++ newNames (σ.nx + 8 * i) (hout.length - hin.length)) (π ++ newNames (σ.nx + 8 * i) (hout.length - hin.length)) hout).map (·.1))])) K) : wops C ops i (o :: l) σ acc K := by
 have hok := call_ok (nm := σ.nx + 8 * i) ho hx hf hfn hF π hargs side
 simp only [Bool.and_eq_true] at side side2
 refine st_ok hg hd (fun M F ρ a h w h1 h2 h3 h4 h5 K Q hK => hok M F ρ a h w h1 h2 h3 h4 h5 K Q fun M' ρ' u wr u' w' g1 g2 g3 g4 => hK M' ρ' u wr u' w' g1 g2 g3 ?_) (bsHeap_mem hbs) (keysIn_call (Nat.eq_of_beq_eq_true side.1) hout (Nat.le_of_ble_eq_true side2.2) (Nat.le_of_ble_eq_true side2.1)) k
 obtain ⟨r', ho', π2, ⟨rfl, rfl⟩, rfl, rfl, rfl⟩ := g4
 exact ⟨rfl, rfl⟩
theorem W_freeze {C : Ctx} {c : Code} {Q : Exit → St → Prop} {σ : St} (s n len : Nat) {ty k L : Nat} {f : Nat → Nat → D} (hs : σ.t s = .sl n 0 len) (hn : σ.h n = some (.rows ty k L f)) (hl : len ≤ L)
   (h : W C c Q ⟨upd σ.t s (.d (.vec k len f)), upd σ.h n none, σ.nx⟩) : W C c Q σ := by
 intro M F pin ρ a w hsr
 have hv := hsr.tm s
 rw [hs] at hv
 have hH := hsr.hr
 have key : ∃ M', M.le M' ∧ HR M' F ρ (upd σ.h n none) w ∧ VR M' ρ (.d (.vec k len f)) (a.tmps.getD s undef) := by
   generalize hq : a.tmps.getD s undef = q at hv
   cases hv with
   | sl0 _ _ x hx hR aa => exact ⟨M, Imm.le_refl _, hH.drop n, .d _ _ (.vec0 _ _ _ _)⟩
   | sl _ _ _ x hx hlR hR h0 =>
     obtain ⟨x', hx', hr⟩ := hH.live n _ hn
     rw [hx] at hx'; obtain rfl := Option.some.inj hx'
     rcases hr with ⟨h00, _⟩ | ⟨_, hM, hF, o, h3, h4⟩
     · omega
     cases o with
     | cells cur T fz =>
       obtain ⟨rfl, rfl, g1, g2, g3, g4⟩ := h4
       let M' : Imm := fun b => if b = x.b then some (.cells cur T (0, 0)) else M b
       have hle : M.le M' := by
         intro b o hb
         have : b ≠ x.b := by rintro rfl; rw [hM] at hb; cases hb
         simp [M', this, hb]
       refine ⟨M', hle, hH.stills hle (fun m b hm => ?_) ?_ ?_ (fun m b y hm hy q0 => ?_) (fun m S es hm b hb => ?_), .d _ _ ?_⟩
       · rw [upd_eq] at hm; split at hm
         · cases hm
         · exact hm
       · intro b o hb
         by_cases e : b = x.b
         · subst e; simp [M'] at hb; subst hb; exact h3
         · simp [M', e] at hb; exact hH.imm b o hb
       · intro b o hb
         have : b ≠ x.b := by rintro rfl; rw [hF] at hb; cases hb
         simp [M', this]; exact hH.dis b o hb
       · rw [upd_eq] at hm; split at hm
         · cases hm
         · next e =>
           obtain ⟨y', hy', hr⟩ := hH.live m b hm
           rw [hy] at hy'; obtain rfl := Option.some.inj hy'
           have : y.b ≠ x.b := fun hb => e (hH.sep m n y x (by rw [hm]; simp) (by rw [hn]; simp) hy hx q0 h0 hb)
           rcases hr with ⟨h00, _⟩ | ⟨_, q1, _⟩
           · omega
           · simp [M', this, q1]
       · rw [upd_eq] at hm; split at hm
         · cases hm
         · obtain ⟨_, _, _, g1, g2, _⟩ := hH.fam m S es hm
           have : b ≠ x.b := fun e => g2 n x (by rw [hn]; simp) hx h0 (e ▸ hb)
           simp [M', this, (g1 b hb).1]
       · subst g1
         have hget : ∀ i c, i < len → c < x.k → ∃ v, cur[i * x.k + c]? = some v ∧ DR M (f i c) v := fun i c hi hc => g4 i c (by omega) hc
         refine .vec x.k len f x.b (0 * x.k) _ cur T (0, 0) (fun i c => (cur[i * x.k + c]?).getD undef) (by simp [M']) (by omega) (fun i c hi hc => ?_) (fun i c hi hc => ?_)
         · obtain ⟨v, v1, _⟩ := hget i c hi hc
           rw [Nat.zero_mul, Nat.zero_add, v1]; rfl
         · obtain ⟨v, v1, v2⟩ := hget i c hi hc
           simp only [v1, Option.getD_some]; exact v2.mono hle
     | _ => exact h4.elim
 obtain ⟨M', hle, hH', hv'⟩ := key
 refine Code.wp_mono ?_ (h M' F pin ρ a w ⟨⟨fun j => ?_, hsr.sz, hsr.df, hH', hsr.pn, hsr.pm, fun g ρ => (hsr.gl g ρ).mono hle (Names.le_refl _)⟩, hsr.fr⟩)
 · rintro e a' w' ⟨M2, ρ2, σ2, h1, h2, h3, h4⟩
   exact ⟨M2, ρ2, σ2, Imm.le_trans hle h1, h2, h3, h4⟩
 · show VR M' ρ (upd σ.t s _ j) _
   rw [upd_eq]
   split
   · next e => subst e; exact hv'
   · exact (hsr.tm j).mono hle (Names.le_refl _)
end Go.Proofs.YtpdojmebloekgaaDoor.Nice
namespace Go.Proofs.YtpdojmebloekgaaDoor.Nice
open Go
set_option linter.unusedVariables false
theorem cs : (∀ (p : Prop) [Decidable p], (decide p = true) = p) ∧ (∀ (p : Prop) [Decidable p], (decide p = false) = ¬p) ∧ (∀ b : Bool, ((!b) = true) = (b = false)) ∧ (∀ b : Bool, ((!b) = false) = (b = true)) ∧
   (∀ (α : Type) [BEq α] [LawfulBEq α] (a b : α), ((a == b) = true) = (a = b)) ∧ (∀ (α : Type) [BEq α] [LawfulBEq α] (a b : α), ((a != b) = true) = ¬(a = b)) ∧ (∀ (α : Type) [BEq α] [LawfulBEq α] (a b : α), ((a == b) = false) = ¬(a = b)) ∧ (∀ (α : Type) [BEq α] [LawfulBEq α] (a b : α), ((a != b) = false) = (a = b)) ∧
   (∀ a b : Bool, ((a && b) = true) = (a = true ∧ b = true)) ∧ (∀ a b : Bool, ((a || b) = true) = (a = true ∨ b = true)) ∧ (∀ a b : Bool, ((a && b) = false) = (a = false ∨ b = false)) ∧ (∀ a b : Bool, ((a || b) = false) = (a = false ∧ b = false)) ∧
   (∀ a b : Int, (a ≥ b) = (b ≤ a)) ∧ (∀ a b : Int, (a > b) = (b < a)) ∧ (∀ a b : Nat, (a ≥ b) = (b ≤ a)) ∧ (∀ a b : Nat, (a > b) = (b < a)) ∧ (∀ a b : Int, (¬a < b) = (b ≤ a)) ∧ (∀ a b : Int, (¬a ≤ b) = (b < a)) ∧ (∀ (p : Prop) [Decidable p], (¬¬p) = p) :=
 ⟨fun p _ => propext decide_eq_true_iff, fun p _ => propext decide_eq_false_iff_not, fun b => by cases b <;> simp, fun b => by cases b <;> simp, fun α _ _ a b => propext beq_iff_eq, fun α _ _ a b => propext bne_iff_ne, fun α _ _ a b => propext beq_eq_false_iff_ne, fun α _ _ a b => propext bne_eq_false_iff_eq,
   fun a b => by cases a <;> cases b <;> simp, fun a b => by cases a <;> cases b <;> simp, fun a b => by cases a <;> cases b <;> simp, fun a b => by cases a <;> cases b <;> simp, fun a b => rfl, fun a b => rfl, fun a b => rfl, fun a b => rfl, fun a b => propext Int.not_lt, fun a b => propext Int.not_le, fun p _ => propext Decidable.not_not⟩
def SV.hd : SV → Option SV
 | .d (.val (.int k n)) => some (.d (.val (.int k n)))
 | .d (.val (.bool b)) => some (.d (.val (.bool b)))
 | .d (.val (.string s)) => some (.d (.val (.string s)))
 | .d (.val v) => some (.d (.val v))
 | .d .any => some (.d .any)
 | .d .nils => some (.d .nils)
 | .d (.vec k l f) => some (.d (.vec k l f))
 | .d (.pr p) => some (.d (.pr p))
 | .any => some .any
 | .vp k l f i c => some (.vp k l f i c)
 | .ptr n i c => some (.ptr n i c)
 | .sl n o l => some (.sl n o l)
 | .cs n c l => some (.cs n c l)
 | .op n b => some (.op n b)
 | .map n => some (.map n)
 | .fn f qs => some (.fn f qs)
 | .agg xs => some (.agg xs)
 | .tup xs => some (.tup xs)
 | .iface t x => some (.iface t x)
theorem SV.hd_eq {x y : SV} (h : x.hd = some y) : x = y := by
 unfold SV.hd at h
 split at h <;> cases h <;> rfl
def wrHO (h : Heap) : List (Nat × Option Blk) → Option Heap
 | [] => some h
 | (n, b) :: r => wrHO (upd h n b) r
theorem wrHO_eq : ∀ {wr : List (Nat × Option Blk)} {h h' : Heap}, wrHO h wr = some h' → wrH h wr = h'
 | [], h, h', e => by simp only [wrHO, Option.some.injEq] at e; exact e
 | (n, b) :: r, h, h', e => by rw [wrH]; exact wrHO_eq e
def sopH (C : Ctx) (nm : Nat) (o : Oper) (v : Operand → SV) (h : Heap) : Option (Prop × List (Nat × Blk) × SV × List (Nat × Option Blk) × Heap) :=
 match sop C nm o v h with
 | some (vc, bs, u, wr) => match u.hd, wrHO h wr with
   | some u', some h' => some (vc, bs, u', wr, h')
   | _, _ => none
 | none => none
theorem sopH_eq {C : Ctx} {nm : Nat} {o : Oper} {v : Operand → SV} {h h' : Heap} {vc : Prop} {bs : List (Nat × Blk)} {u : SV} {wr : List (Nat × Option Blk)} (e : sopH C nm o v h = some (vc, bs, u, wr, h')) : sop C nm o v h = some (vc, bs, u, wr) ∧ wrH h wr = h' := by
 unfold sopH at e
 split at e
 · next vc' bs' u' wr' hs =>
   split at e
   · next u2 h2 hu hw =>
     cases e
     rw [SV.hd_eq hu] at hs
     exact ⟨hs, wrHO_eq hw⟩
   · cases e
 · cases e
section
variable {C : Ctx} {ops : List Oper} {i : Nat} {o : Oper} {l : List Oper} {t : Nat → SV} {h h' : Heap} {nx : Nat} {K : St → Prop} {vc : Prop} {bs : List (Nat × Blk)} {u : SV} {wr : List (Nat × Option Blk)}
theorem s1 (d nm i' : Nat) (hi : i + 1 = i') (hnm : nx + 8 * i = nm) (hg : o.guard = none) (hdst : o.dst = some d) (hd : Nat.blt d C.sz = true) (e : sopH C nm o (opv C t) h = some (vc, bs, u, wr, h')) (hvc : vc)
   (k : wops C ops i' l ⟨upd t d u, h', nx⟩ none K) : wops C ops i (o :: l) ⟨t, h, nx⟩ none K := by
 subst hi; subst hnm
 obtain ⟨e1, e2⟩ := sopH_eq e
 refine st (σ := ⟨t, h, nx⟩) hg (by unfold dstOK; rw [hdst]; exact hd) e1 hvc ?_
 unfold St.app; rw [hdst, e2]; exact k
theorem s0 (nm i' : Nat) (hi : i + 1 = i') (hnm : nx + 8 * i = nm) (hg : o.guard = none) (hdst : o.dst = none) (e : sopH C nm o (opv C t) h = some (vc, bs, u, wr, h')) (hvc : vc)
   (k : wops C ops i' l ⟨t, h', nx⟩ none K) : wops C ops i (o :: l) ⟨t, h, nx⟩ none K := by
 subst hi; subst hnm
 obtain ⟨e1, e2⟩ := sopH_eq e
 refine st (σ := ⟨t, h, nx⟩) hg (by unfold dstOK; rw [hdst]) e1 hvc ?_
 unfold St.app; rw [hdst, e2]; exact k
theorem s1as (u' : SV) (d nm i' : Nat) (hi : i + 1 = i') (hnm : nx + 8 * i = nm) (hg : o.guard = none) (hdst : o.dst = some d) (hd : Nat.blt d C.sz = true) (e : sopH C nm o (opv C t) h = some (vc, bs, u, wr, h')) (hvc : vc) (hu : u = u')
   (k : wops C ops i' l ⟨upd t d u', h', nx⟩ none K) : wops C ops i (o :: l) ⟨t, h, nx⟩ none K := by
 subst hu; exact s1 d nm i' hi hnm hg hdst hd e hvc k
variable {acc : List FP}
theorem d1 (d nm i' : Nat) (hi : i + 1 = i') (hnm : nx + 8 * i = nm) (hg : o.guard = none) (hdst : o.dst = some d) (hd : Nat.blt d C.sz = true) (e : sopH C nm o (opv C t) h = some (vc, bs, u, wr, h')) (hvc : vc)
   (k : wops C ops i' l ⟨upd t d u, h', nx⟩ (some (acc ++ [(bs.map (·.1), wr.map (·.1))])) K) : wops C ops i (o :: l) ⟨t, h, nx⟩ (some acc) K := by
 subst hi; subst hnm
 obtain ⟨e1, e2⟩ := sopH_eq e
 refine st (σ := ⟨t, h, nx⟩) hg (by unfold dstOK; rw [hdst]; exact hd) e1 hvc ?_
 unfold St.app; rw [hdst, e2]; exact k
theorem d0 (nm i' : Nat) (hi : i + 1 = i') (hnm : nx + 8 * i = nm) (hg : o.guard = none) (hdst : o.dst = none) (e : sopH C nm o (opv C t) h = some (vc, bs, u, wr, h')) (hvc : vc)
   (k : wops C ops i' l ⟨t, h', nx⟩ (some (acc ++ [(bs.map (·.1), wr.map (·.1))])) K) : wops C ops i (o :: l) ⟨t, h, nx⟩ (some acc) K := by
 subst hi; subst hnm
 obtain ⟨e1, e2⟩ := sopH_eq e
 refine st (σ := ⟨t, h, nx⟩) hg (by unfold dstOK; rw [hdst]) e1 hvc ?_
 unfold St.app; rw [hdst, e2]; exact k
/- behind a guard whose slot is known -/
theorem g1 {A : Option (List FP)} (j : Nat) (want : Bool) (s d : Nat) (i' : Nat) (hi : i + 1 = i') (hg : o.guard = some (j, want)) (hs : gslot ops j = some s) (hb : t s = SV.b want) (hd : dstOK C o = true)
   (on : wops C ops i ({ o with guard := none } :: l) ⟨upd t s (SV.b want), h, nx⟩ A K) : wops C ops i (o :: l) ⟨t, h, nx⟩ A K := by
 refine st_guard (σ := ⟨t, h, nx⟩) hg hs hb (fun _ => on) (fun e => ?_) hd
 cases want <;> simp at e
theorem g0 {A : Option (List FP)} (j : Nat) (want : Bool) (s d : Nat) (i' : Nat) (hi : i + 1 = i') (hg : o.guard = some (j, want)) (hs : gslot ops j = some s) (hb : t s = SV.b (!want)) (hdst : o.dst = some d) (hd : Nat.blt d C.sz = true)
   (off : wops C ops i' l ⟨upd t d (.tup []), h, nx⟩ (A.map (· ++ [([], [])])) K) : wops C ops i (o :: l) ⟨t, h, nx⟩ A K := by
 subst hi
 have same : upd t s (SV.b (!want)) = t := by
   funext k; rw [upd_eq]; split
   · next e => subst e; exact hb.symm
   · rfl
 refine st_guard (σ := ⟨t, h, nx⟩) hg hs hb (fun e => ?_) (fun _ => ?_) (by unfold dstOK; rw [hdst]; exact hd)
 · cases want <;> simp at e
 · unfold St.app; rw [same, hdst]; exact off
theorem gz {A : Option (List FP)} (j : Nat) (want : Bool) (s d : Nat) (i' : Nat) (hi : i + 1 = i') (hg : o.guard = some (j, want)) (hs : gslot ops j = some s) (hb : t s = .tup []) (hdst : o.dst = some d) (hd : Nat.blt d C.sz = true)
   (off : wops C ops i' l ⟨upd t d (.tup []), h, nx⟩ (A.map (· ++ [([], [])])) K) : wops C ops i (o :: l) ⟨t, h, nx⟩ A K := by
 subst hi
 unfold wops
 refine .inl ⟨([], []), _, ⟨by unfold dstOK; rw [hdst]; exact hd, .inr ⟨?_, rfl, rfl⟩⟩, ?_⟩
 · unfold gOff; rw [hg]; exact ⟨s, hs, .inr hb⟩
 · unfold St.app; rw [hdst]; exact off
theorem ask {A : Option (List FP)} (s : Nat) {b : Bool} (hb : (t s).hd = some (SV.b b)) (on : b = true → wops C ops i l ⟨upd t s (SV.b true), h, nx⟩ A K) (off : b = false → wops C ops i l ⟨upd t s (SV.b false), h, nx⟩ A K) : wops C ops i l ⟨t, h, nx⟩ A K := by
 have hb := SV.hd_eq hb
 have same : upd t s (SV.b b) = t := by
   funext k; rw [upd_eq]; split
   · next e => subst e; exact hb.symm
   · rfl
 cases b with
 | true => rw [← same]; exact on rfl
 | false => rw [← same]; exact off rfl
/- calls -/
theorem c1 {f : FuncId} {args : List SV} {hin : List Blk} {r : SV} {hout : List (Option Blk)} (hF : Spec C.P C.G f args hin (fun r' ho => r' = r ∧ ho = hout)) {x : Operand} {cargs : Array Operand} {tys : Array TypeId} {caps : List SV} {fn : Func} {r' : SV}
   (π π2 : List Nat) (d nm i' : Nat) (hi : i + 1 = i') (hnm : nx + 8 * i = nm) (hp : π ++ newNames nm (hout.length - hin.length) = π2) (hg : o.guard = none) (hdst : o.dst = some d) (hd : Nat.blt d C.sz = true) (ho : o.op = .call { callee := .value x, args := cargs, argTypes := tys }) (hx : opv C t x = .fn f caps) (hf : C.P.funcs[f]? = some fn) (hfn : fnOK fn = true)
   (hargs : mapV (opv C t) cargs.toList ++ caps = renL π args) (side : (Nat.beq π.length hin.length && (nodupB π && (hUnder hin.length (hin.map some) && underL hin.length args))) = true)
   (side2 : (Nat.ble hin.length hout.length && Nat.ble hout.length (hin.length + 8)) = true) (hbs : bsHeap h (bsOf π π hin)) (hr : (ren π2 r).hd = some r') (hw : wrHO h (wrOf π2 π2 hout) = some h')
   (k : wops C ops i' l ⟨upd t d r', h', nx⟩ none K) : wops C ops i (o :: l) ⟨t, h, nx⟩ none K := by
 subst hi; subst hnm; subst hp
 refine st_call (σ := ⟨t, h, nx⟩) π hF hg (by unfold dstOK; rw [hdst]; exact hd) ho hx hf hfn hargs side side2 hbs ?_
 unfold St.app; rw [hdst, SV.hd_eq hr, wrHO_eq hw]; exact k
theorem c0 {f : FuncId} {args : List SV} {hin : List Blk} {r : SV} {hout : List (Option Blk)} (hF : Spec C.P C.G f args hin (fun r' ho => r' = r ∧ ho = hout)) {x : Operand} {cargs : Array Operand} {tys : Array TypeId} {caps : List SV} {fn : Func}
   (π π2 : List Nat) (nm i' : Nat) (hi : i + 1 = i') (hnm : nx + 8 * i = nm) (hp : π ++ newNames nm (hout.length - hin.length) = π2) (hg : o.guard = none) (hdst : o.dst = none) (ho : o.op = .call { callee := .value x, args := cargs, argTypes := tys }) (hx : opv C t x = .fn f caps) (hf : C.P.funcs[f]? = some fn) (hfn : fnOK fn = true)
   (hargs : mapV (opv C t) cargs.toList ++ caps = renL π args) (side : (Nat.beq π.length hin.length && (nodupB π && (hUnder hin.length (hin.map some) && underL hin.length args))) = true)
   (side2 : (Nat.ble hin.length hout.length && Nat.ble hout.length (hin.length + 8)) = true) (hbs : bsHeap h (bsOf π π hin)) (hw : wrHO h (wrOf π2 π2 hout) = some h')
   (k : wops C ops i' l ⟨t, h', nx⟩ none K) : wops C ops i (o :: l) ⟨t, h, nx⟩ none K := by
 subst hi; subst hnm; subst hp
 refine st_call (σ := ⟨t, h, nx⟩) π hF hg (by unfold dstOK; rw [hdst]) ho hx hf hfn hargs side side2 hbs ?_
 unfold St.app; rw [hdst, wrHO_eq hw]; exact k
theorem dc1 {f : FuncId} {args : List SV} {hin : List Blk} {r : SV} {hout : List (Option Blk)} (hF : Spec C.P C.G f args hin (fun r' ho => r' = r ∧ ho = hout)) {x : Operand} {cargs : Array Operand} {tys : Array TypeId} {caps : List SV} {fn : Func} {r' : SV}
   (π π2 : List Nat) (d nm i' : Nat) (hi : i + 1 = i') (hnm : nx + 8 * i = nm) (hp : π ++ newNames nm (hout.length - hin.length) = π2) (hg : o.guard = none) (hdst : o.dst = some d) (hd : Nat.blt d C.sz = true) (ho : o.op = .call { callee := .value x, args := cargs, argTypes := tys }) (hx : opv C t x = .fn f caps) (hf : C.P.funcs[f]? = some fn) (hfn : fnOK fn = true)
   (hargs : mapV (opv C t) cargs.toList ++ caps = renL π args) (side : (Nat.beq π.length hin.length && (nodupB π && (hUnder hin.length (hin.map some) && underL hin.length args))) = true)
   (side2 : (Nat.ble hin.length hout.length && Nat.ble hout.length (hin.length + 8)) = true) (hbs : bsHeap h (bsOf π π hin)) (hr : (ren π2 r).hd = some r') (hw : wrHO h (wrOf π2 π2 hout) = some h')
   (k : wops C ops i' l ⟨upd t d r', h', nx⟩ (some (acc ++ [((bsOf π π hin).map (·.1), (wrOf π2 π2 hout).map (·.1))])) K) : wops C ops i (o :: l) ⟨t, h, nx⟩ (some acc) K := by
 subst hi; subst hnm; subst hp
 refine st_call (σ := ⟨t, h, nx⟩) π hF hg (by unfold dstOK; rw [hdst]; exact hd) ho hx hf hfn hargs side side2 hbs ?_
 unfold St.app; rw [hdst, SV.hd_eq hr, wrHO_eq hw]; exact k
/- comparisons of structs -/
theorem sEq {op : BinOp} {ty ty' : TypeId} {y z : Operand} {xs ys : List SV} {fs : Array Field} {b r : Bool} (d nm i' : Nat) (hi : i + 1 = i') (hnm : nx + 8 * i = nm) (hg : o.guard = none) (hdst : o.dst = some d) (hd : Nat.blt d C.sz = true) (ho : o.op = .binOp op ty y z ty')
   (hy : opv C t y = .agg xs) (hz : opv C t z = .agg ys) (hfs : C.P.underlying ty = some (.struct fs)) (hp : C.P.stoodInHeld ty = false) (hm : C.P.eqGuardType C.P.depth ty = false) (hb : eqSV C.P xs ys fs.toList = some b) (hop : (op = .eql ∧ r = b) ∨ (op = .neq ∧ r = !b))
   (k : wops C ops i' l ⟨upd t d (SV.b r), h, nx⟩ none K) : wops C ops i (o :: l) ⟨t, h, nx⟩ none K := by
 subst hi; subst hnm
 refine st_ok (σ := ⟨t, h, nx⟩) hg (by unfold dstOK; rw [hdst]; exact hd) (structEq_ok ho hy hz hfs hp hm hb hop) (fun p hp => by cases hp) rfl ?_
 unfold St.app; rw [hdst]; exact k
theorem dEq {op : BinOp} {ty ty' : TypeId} {y z : Operand} {xs ys : List SV} {fs : Array Field} {b r : Bool} (d nm i' : Nat) (hi : i + 1 = i') (hnm : nx + 8 * i = nm) (hg : o.guard = none) (hdst : o.dst = some d) (hd : Nat.blt d C.sz = true) (ho : o.op = .binOp op ty y z ty')
   (hy : opv C t y = .agg xs) (hz : opv C t z = .agg ys) (hfs : C.P.underlying ty = some (.struct fs)) (hp : C.P.stoodInHeld ty = false) (hm : C.P.eqGuardType C.P.depth ty = false) (hb : eqSV C.P xs ys fs.toList = some b) (hop : (op = .eql ∧ r = b) ∨ (op = .neq ∧ r = !b))
   (k : wops C ops i' l ⟨upd t d (SV.b r), h, nx⟩ (some (acc ++ [([], [])])) K) : wops C ops i (o :: l) ⟨t, h, nx⟩ (some acc) K := by
 subst hi; subst hnm
 refine st_ok (σ := ⟨t, h, nx⟩) hg (by unfold dstOK; rw [hdst]; exact hd) (structEq_ok ho hy hz hfs hp hm hb hop) (fun p hp => by cases hp) rfl ?_
 unfold St.app; rw [hdst]; exact k
/- ends of regions -/
theorem e1 (nx' : Nat) (hn : nx + 8 * ops.length = nx') (k : K ⟨t, h, nx'⟩) : wops C ops i [] ⟨t, h, nx⟩ none K := by subst hn; exact ⟨trivial, k⟩
theorem de1 (nx' : Nat) (hn : nx + 8 * ops.length = nx') (hc : fpOK ops acc = true) (k : K ⟨t, h, nx'⟩) : wops C ops i [] ⟨t, h, nx⟩ (some acc) K := by subst hn; exact ⟨hc, k⟩
end
section
variable {C : Ctx} {Q : Exit → St → Prop} {σ : St}
theorem r1 {id : Nat} {ops : Array Oper} {y : Code} (k : wops C ops.toList 0 ops.toList σ none (fun σ' => W C y Q σ')) : W C (.seq (.region id ops false) y) Q σ := W_seq (W_region k)
theorem r0 {id : Nat} {ops : Array Oper} (k : wops C ops.toList 0 ops.toList σ none (fun σ' => Q .normal σ')) : W C (.region id ops false) Q σ := W_region k
theorem rd1 {id : Nat} {ops : Array Oper} {y : Code} (hm : C.P.follows .mixedOrders = true) (k : wops C ops.toList 0 ops.toList σ (some []) (fun σ' => W C y Q σ')) : W C (.seq (.region id ops true) y) Q σ := W_seq (W_region_draw hm k)
theorem rd0 {id : Nat} {ops : Array Oper} (hm : C.P.follows .mixedOrders = true) (k : wops C ops.toList 0 ops.toList σ (some []) (fun σ' => Q .normal σ')) : W C (.region id ops true) Q σ := W_region_draw hm k
theorem tn {K : St → Prop} (k : K σ) : thenQ K Q .normal σ := k
theorem tx {K : St → Prop} {id : Nat} (k : Q (.exit id) σ) : thenQ K Q (.exit id) σ := k
theorem tr {K : St → Prop} (k : Q .ret σ) : thenQ K Q .ret σ := k
theorem bn {id : Nat} (k : Q .normal σ) : inBlockQ id Q .normal σ := k
theorem bx {id : Nat} (k : Q .normal σ) : inBlockQ id Q (.exit id) σ := by simp only [inBlockQ, if_true]; exact k
theorem bo {id id' : Nat} (hne : Nat.beq id' id = false) (k : Q (.exit id') σ) : inBlockQ id Q (.exit id') σ := by
 simp only [inBlockQ]; rw [if_neg (fun e => by subst e; simp at hne)]; exact k
theorem br {id : Nat} (k : Q .ret σ) : inBlockQ id Q .ret σ := k
theorem q1 {t : Nat → SV} {h : Heap} {nx : Nat} {c : Operand} {x y : Code} {b : Bool} (hc : (opv C t c).hd = some (SV.b b)) (ht : b = true → W C x Q ⟨t, h, nx⟩) (hf : b = false → W C y Q ⟨t, h, nx⟩) : W C (.cond c x y) Q ⟨t, h, nx⟩ :=
 W_cond (σ := ⟨t, h, nx⟩) (SV.hd_eq hc) ht hf
def keepO (t : Nat → SV) : List Nat → Option (List (Nat × SV))
 | [] => some []
 | k :: r => match (t k).hd, keepO t r with
   | some u, some l => some ((k, u) :: l)
   | _, _ => none
theorem keepO_sub {t : Nat → SV} : ∀ {ks : List Nat} {l : List (Nat × SV)}, keepO t ks = some l → ∀ n, tOf l n = .any ∨ tOf l n = t n
 | [], l, e, n => by simp [keepO] at e; subst e; exact .inl rfl
 | k :: r, l, e, n => by
   simp only [keepO] at e
   split at e
   · next u l' hu hl =>
     cases e
     simp only [tOf]
     cases hb : Nat.beq n k with
     | true => have := Nat.eq_of_beq_eq_true hb; subst this; exact .inr (SV.hd_eq hu).symm
     | false => exact keepO_sub hl n
   · cases e
theorem keep {t : Nat → SV} {h : Heap} {nx : Nat} {c : Code} (ks : List Nat) {l : List (Nat × SV)} (e : keepO t ks = some l) (k : W C c Q ⟨tOf l, h, nx⟩) : W C c Q ⟨t, h, nx⟩ := by
 intro M F pin ρ a w hs
 refine k M F pin ρ a w ⟨⟨fun n => ?_, hs.sz, hs.df, hs.hr, hs.pn, hs.pm, hs.gl⟩, hs.fr⟩
 rcases keepO_sub e n with h | h
 · show VR M ρ (tOf l n) _; rw [h]; exact .any _
 · show VR M ρ (tOf l n) _; rw [h]; exact hs.tm n
end
theorem start {P : Program} {G : Nat → SV} {f : FuncId} {fn : Func} {c : Code} {args : List SV} {hin : List Blk} {post : SV → List (Option Blk) → Prop} (sz m : Nat) (hf : P.funcs[f]? = some fn) (hb : fn.body = some c) (hsz : fn.ntmps = sz) (hm : hin.length = m)
   (hn : Nat.ble args.length sz = true) (h : W ⟨P, sz, m, G⟩ c (outQ ⟨P, sz, m, G⟩ fn post) ⟨tOf (argT 0 args), hOf (hin.map some), m⟩) : Spec P G f args hin post := by
 subst hsz; subst hm
 refine fn_intro hf hb hn ?_
 unfold stOf
 rw [List.length_map]
 exact h
end Go.Proofs.YtpdojmebloekgaaDoor.Nice
namespace Go.Proofs.YtpdojmebloekgaaDoor.Nice
open Go
set_option linter.unusedVariables false
def inRange (n : Int) : Prop := -9223372036854775808 ≤ n ∧ n ≤ 9223372036854775807
theorem wrap_in {n : Int} (h : inRange n) : IntKind.i64.wrap n = n := by rw [IntKind.wrap_i64]; unfold inRange at h; omega
def arith : BinOp → Int → Int → Option Int
 | .add, a, b => some (a + b)
 | .sub, a, b => some (a - b)
 | .mul, a, b => some (a * b)
 | _, _, _ => none
theorem arith_ok {C : Ctx} {o : Oper} {nm : Nat} {v : Operand → SV} {op : BinOp} {ty ty' : TypeId} {y z : Operand} {a b r : Int} (ho : o.op = .binOp op ty y z ty') (hy : (v y).hd = some (SV.i a)) (hz : (v z).hd = some (SV.i b)) (hr : arith op a b = some r) (hin : inRange r) :
   OpOK C o nm v [] (fun x w => x = SV.i r ∧ w = []) := by
 have hy := SV.hd_eq hy
 have hz := SV.hd_eq hz
 refine ok_pure fun M F ρ a' h w hv hH _ => ⟨.int .i64 r, ?_, .d _ _ (.val _ rfl)⟩
 have e1 := hv y (by rw [ho]; exact mem_ops2 (.inl rfl)); rw [hy] at e1
 have e2 := hv z (by rw [ho]; exact mem_ops2 (.inr rfl)); rw [hz] at e2
 have hw := wrap_in hin
 cases op <;> simp only [arith, Option.some.injEq] at hr <;> first | (cases hr; done) | (subst hr; simp [execOp, ho, e1.val, e2.val, eqGuard, binOp, Op.intArith, hw])
def divPos : BinOp → Int → Int → Option Int
 | .quo, a, b => some (a / b)
 | .rem, a, b => some (a % b)
 | _, _, _ => none
theorem divPos_ok {C : Ctx} {o : Oper} {nm : Nat} {v : Operand → SV} {op : BinOp} {ty ty' : TypeId} {y z : Operand} {a b r : Int} (ho : o.op = .binOp op ty y z ty') (hy : (v y).hd = some (SV.i a)) (hz : (v z).hd = some (SV.i b)) (hr : divPos op a b = some r) (hin : 0 ≤ a ∧ a ≤ 9223372036854775807 ∧ 0 < b) :
   OpOK C o nm v [] (fun x w => x = SV.i r ∧ w = []) := by
 have hy := SV.hd_eq hy
 have hz := SV.hd_eq hz
 obtain ⟨h1, h2, h3⟩ := hin
 refine ok_pure fun M F ρ a' h w hv hH _ => ⟨.int .i64 r, ?_, .d _ _ (.val _ rfl)⟩
 have e1 := hv y (by rw [ho]; exact mem_ops2 (.inl rfl)); rw [hy] at e1
 have e2 := hv z (by rw [ho]; exact mem_ops2 (.inr rfl)); rw [hz] at e2
 have hb : b ≠ 0 := by omega
 have q1 : a.tdiv b = a / b := Int.tdiv_eq_ediv_of_nonneg h1
 have q2 : a.tmod b = a % b := Int.tmod_eq_emod_of_nonneg h1
 have q3 : IntKind.i64.wrap (a / b) = a / b := by
   refine wrap_in ⟨?_, ?_⟩
   · have := Int.ediv_nonneg h1 (Int.le_of_lt h3); omega
   · have := Int.ediv_le_self b h1; omega
 cases op <;> simp only [divPos, Option.some.injEq] at hr <;> first | (cases hr; done) | (subst hr; simp [execOp, ho, e1.val, e2.val, eqGuard, binOp, Op.intDiv, hb, q1, q2, q3])
section
variable {C : Ctx} {ops : List Oper} {i : Nat} {o : Oper} {l : List Oper} {t : Nat → SV} {h h' : Heap} {nx : Nat} {K : St → Prop} {acc : List FP}
theorem sA {op : BinOp} {ty ty' : TypeId} {y z : Operand} {a b r : Int} (d nm i' : Nat) (hi : i + 1 = i') (hnm : nx + 8 * i = nm) (hg : o.guard = none) (hdst : o.dst = some d) (hd : Nat.blt d C.sz = true) (ho : o.op = .binOp op ty y z ty')
   (hy : (opv C t y).hd = some (SV.i a)) (hz : (opv C t z).hd = some (SV.i b)) (hr : arith op a b = some r) (hin : inRange r) (k : wops C ops i' l ⟨upd t d (SV.i r), h, nx⟩ none K) : wops C ops i (o :: l) ⟨t, h, nx⟩ none K := by
 subst hi; subst hnm
 refine st_ok (σ := ⟨t, h, nx⟩) hg (by unfold dstOK; rw [hdst]; exact hd) (arith_ok ho hy hz hr hin) (fun p hp => by cases hp) rfl ?_
 unfold St.app; rw [hdst]; exact k
theorem dA {op : BinOp} {ty ty' : TypeId} {y z : Operand} {a b r : Int} (d nm i' : Nat) (hi : i + 1 = i') (hnm : nx + 8 * i = nm) (hg : o.guard = none) (hdst : o.dst = some d) (hd : Nat.blt d C.sz = true) (ho : o.op = .binOp op ty y z ty')
   (hy : (opv C t y).hd = some (SV.i a)) (hz : (opv C t z).hd = some (SV.i b)) (hr : arith op a b = some r) (hin : inRange r) (k : wops C ops i' l ⟨upd t d (SV.i r), h, nx⟩ (some (acc ++ [([], [])])) K) : wops C ops i (o :: l) ⟨t, h, nx⟩ (some acc) K := by
 subst hi; subst hnm
 refine st_ok (σ := ⟨t, h, nx⟩) hg (by unfold dstOK; rw [hdst]; exact hd) (arith_ok ho hy hz hr hin) (fun p hp => by cases hp) rfl ?_
 unfold St.app; rw [hdst]; exact k
theorem sD {op : BinOp} {ty ty' : TypeId} {y z : Operand} {a b r : Int} (d nm i' : Nat) (hi : i + 1 = i') (hnm : nx + 8 * i = nm) (hg : o.guard = none) (hdst : o.dst = some d) (hd : Nat.blt d C.sz = true) (ho : o.op = .binOp op ty y z ty')
   (hy : (opv C t y).hd = some (SV.i a)) (hz : (opv C t z).hd = some (SV.i b)) (hr : divPos op a b = some r) (hin : 0 ≤ a ∧ a ≤ 9223372036854775807 ∧ 0 < b) (k : wops C ops i' l ⟨upd t d (SV.i r), h, nx⟩ none K) : wops C ops i (o :: l) ⟨t, h, nx⟩ none K := by
 subst hi; subst hnm
 refine st_ok (σ := ⟨t, h, nx⟩) hg (by unfold dstOK; rw [hdst]; exact hd) (divPos_ok ho hy hz hr hin) (fun p hp => by cases hp) rfl ?_
 unfold St.app; rw [hdst]; exact k
theorem dD {op : BinOp} {ty ty' : TypeId} {y z : Operand} {a b r : Int} (d nm i' : Nat) (hi : i + 1 = i') (hnm : nx + 8 * i = nm) (hg : o.guard = none) (hdst : o.dst = some d) (hd : Nat.blt d C.sz = true) (ho : o.op = .binOp op ty y z ty')
   (hy : (opv C t y).hd = some (SV.i a)) (hz : (opv C t z).hd = some (SV.i b)) (hr : divPos op a b = some r) (hin : 0 ≤ a ∧ a ≤ 9223372036854775807 ∧ 0 < b) (k : wops C ops i' l ⟨upd t d (SV.i r), h, nx⟩ (some (acc ++ [([], [])])) K) : wops C ops i (o :: l) ⟨t, h, nx⟩ (some acc) K := by
 subst hi; subst hnm
 refine st_ok (σ := ⟨t, h, nx⟩) hg (by unfold dstOK; rw [hdst]; exact hd) (divPos_ok ho hy hz hr hin) (fun p hp => by cases hp) rfl ?_
 unfold St.app; rw [hdst]; exact k
theorem val {A : Option (List FP)} (s : Nat) (u : SV) {u0 : SV} (hs : (t s).hd = some u0) (hu : u0 = u) (k : wops C ops i l ⟨upd t s u, h, nx⟩ A K) : wops C ops i l ⟨t, h, nx⟩ A K := by
 have same : upd t s u = t := by
   funext n; rw [upd_eq]; split
   · next e => subst e; rw [SV.hd_eq hs, hu]
   · rfl
 rw [← same]; exact k
theorem hval {A : Option (List FP)} (n : Nat) (b : Blk) (hs : h n = some b) (b' : Blk) (hb : b = b') (k : wops C ops i l ⟨t, upd h n (some b'), nx⟩ A K) : wops C ops i l ⟨t, h, nx⟩ A K := by
 have same : upd h n (some b') = h := by
   funext m; rw [upd_eq]; split
   · next e => subst e; rw [hs, hb]
   · rfl
 rw [← same]; exact k
end
section
variable {C : Ctx} {Q : Exit → St → Prop} {σ : St}
theorem loop {c : Code} {t : Nat → SV} {h : Heap} {nx : Nat} {α : Type} (m : Nat) (tl : α → List (Nat × SV)) (hl : α → List (Option Blk)) (I : α → Prop) (μ : α → Nat) (x0 : α) (π : List Nat) (hm : ∀ x, (hl x).length = m)
   (h0 : I x0) (hok : (Nat.beq π.length (hl x0).length && (nodupB π && (pinOk C.m π && (tUnder (hl x0).length (tl x0) && hUnder (hl x0).length (hl x0))))) = true) (ht : tSub π t (tl x0)) (hh : hSub π π h (hl x0))
   (round : ∀ x, I x → W C c (thenQ (fun σ' => ∃ x' π, I x' ∧ μ x' < μ x ∧ Sub C π σ' (tl x') (hl x')) Q) ⟨tOf (tl x), hOf (hl x), m⟩) : W C (.loop c) Q ⟨t, h, nx⟩ := by
 refine W_loop tl hl I μ x0 π h0 ⟨hok, ht, hh⟩ fun x hx => ?_
 have := round x hx
 rw [← hm x] at this
 exact this
theorem again {t : Nat → SV} {h : Heap} {nx : Nat} {α : Type} {tl : α → List (Nat × SV)} {hl : α → List (Option Blk)} {I : α → Prop} {μ : α → Nat} {x : α} (x' : α) (π : List Nat) (h0 : I x') (hμ : μ x' < μ x)
   (hok : (Nat.beq π.length (hl x').length && (nodupB π && (pinOk C.m π && (tUnder (hl x').length (tl x') && hUnder (hl x').length (hl x'))))) = true) (ht : tSub π t (tl x')) (hh : hSub π π h (hl x')) :
   ∃ x' π, I x' ∧ μ x' < μ x ∧ Sub C π ⟨t, h, nx⟩ (tl x') (hl x') := ⟨x', π, h0, hμ, hok, ht, hh⟩
theorem meet {t : Nat → SV} {h : Heap} {nx : Nat} {α : Type} {tl : α → List (Nat × SV)} {hl : α → List (Option Blk)} {I : α → Prop} (z : α) (π : List Nat) (h0 : I z)
   (hok : (Nat.beq π.length (hl z).length && (nodupB π && (pinOk C.m π && (tUnder (hl z).length (tl z) && hUnder (hl z).length (hl z))))) = true) (ht : tSub π t (tl z)) (hh : hSub π π h (hl z)) :
   ∃ z π, I z ∧ Sub C π ⟨t, h, nx⟩ (tl z) (hl z) := ⟨z, π, h0, hok, ht, hh⟩
theorem tell {c : Code} {t : Nat → SV} {h : Heap} {nx : Nat} (m : Nat) (tl : List (Nat × SV)) (hl : List (Option Blk)) (π : List Nat) (hm : hl.length = m)
   (hok : (Nat.beq π.length hl.length && (nodupB π && (pinOk C.m π && (tUnder hl.length tl && hUnder hl.length hl)))) = true) (ht : tSub π t tl) (hh : hSub π π h hl) (k : W C c Q ⟨tOf tl, hOf hl, m⟩) : W C c Q ⟨t, h, nx⟩ := by
 refine W_sub π tl hl ⟨hok, ht, hh⟩ ?_
 rw [← hm] at k
 exact k
theorem ghostly {c : Code} {t : Nat → SV} {h : Heap} {nx : Nat} (s ty k : Nat) (f : Nat → Nat → D) (hs : (t s).hd = some (.d .nils)) (kk : W C c Q ⟨upd t s (.sl nx 0 0), upd h nx (some (.rows ty k 0 f)), nx + 8⟩) : W C c Q ⟨t, h, nx⟩ := by
 intro M F pin ρ a w hsr
 have hv := hsr.tm s
 rw [show (⟨t, h, nx⟩ : St).t s = .d .nils from SV.hd_eq hs] at hv
 have hfr : ∀ n, nx ≤ n → n < nx + 8 → ρ n = none := fun n h1 _ => hsr.fr n h1
 obtain ⟨ρ', k1, k2, k3, k4⟩ := hsr.hr.ghost hfr ty k f
 refine kk M F pin ρ' a w ⟨⟨fun n => ?_, hsr.sz, hsr.df, k4, Names.le_trans hsr.pn k1, hsr.pm, hsr.gl⟩, fun n hn => ?_⟩
 · show VR M ρ' (upd t s _ n) _
   rw [upd_eq]
   split
   · next e =>
     subst e
     generalize hq : a.tmps.getD n undef = q at hv
     cases hv with | d _ _ hd => cases hd with | nils aa => exact .sl0 nx 0 _ k3 rfl aa
   · exact (hsr.tm n).mono (Imm.le_refl _) k1
 · have hn' : nx + 8 ≤ n := hn
   rw [k2 n (.inr hn')]; exact hsr.fr n (by show nx ≤ n; omega)
theorem freeze {c : Code} {t : Nat → SV} {h : Heap} {nx : Nat} (s n len : Nat) {ty k L : Nat} {f : Nat → Nat → D} (hs : (t s).hd = some (.sl n 0 len)) (hn : h n = some (.rows ty k L f)) (hl : len ≤ L)
   (kk : W C c Q ⟨upd t s (.d (.vec k len f)), upd h n none, nx⟩) : W C c Q ⟨t, h, nx⟩ :=
 W_freeze (σ := ⟨t, h, nx⟩) s n len (SV.hd_eq hs) hn hl kk
theorem cval {c : Code} {t : Nat → SV} {h : Heap} {nx : Nat} (s : Nat) (u : SV) {u0 : SV} (hs : (t s).hd = some u0) (hu : u0 = u) (k : W C c Q ⟨upd t s u, h, nx⟩) : W C c Q ⟨t, h, nx⟩ := by
 have same : upd t s u = t := by
   funext n; rw [upd_eq]; split
   · next e => subst e; rw [SV.hd_eq hs, hu]
   · rfl
 rw [← same]; exact k
theorem chval {c : Code} {t : Nat → SV} {h : Heap} {nx : Nat} (n : Nat) (b' : Blk) {b : Blk} (hs : h n = some b) (hb : b = b') (k : W C c Q ⟨t, upd h n (some b'), nx⟩) : W C c Q ⟨t, h, nx⟩ := by
 have same : upd h n (some b') = h := by
   funext m; rw [upd_eq]; split
   · next e => subst e; rw [hs, hb]
   · rfl
 rw [← same]; exact k
end
/- answers -/
section
variable {C : Ctx} {fn : Func} {post : SV → List (Option Blk) → Prop} {t : Nat → SV} {h : Heap} {nx : Nat}
theorem out0 {π : List Nat} {hout : List (Option Blk)} (hres : fn.results = #[]) (hok : okOut C.m (.tup []) hout = true) (hS : (Nat.beq π.length hout.length && (nodupB π && (pinOk C.m π && (tUnder hout.length [] && hUnder hout.length hout)))) = true)
   (hh : hSub π π h hout) (hp : post (.tup []) hout) : outQ C fn post .ret ⟨t, h, nx⟩ :=
 ⟨π, _, .tup [], hout, ret0 hres, rfl, hok, ⟨hS, trivial, hh⟩, hp⟩
theorem out1 (s : Nat) {π : List Nat} (r : SV) {hout : List (Option Blk)} {u : SV} (hres : fn.results = #[.tmp s]) (hu : (t s).hd = some u) (hr : u = ren π r) (hok : okOut C.m r hout = true) (hS : (Nat.beq π.length hout.length && (nodupB π && (pinOk C.m π && (tUnder hout.length [] && hUnder hout.length hout)))) = true)
   (hh : hSub π π h hout) (hp : post r hout) : outQ C fn post .ret ⟨t, h, nx⟩ :=
 ⟨π, t s, r, hout, ret1 hres, by rw [SV.hd_eq hu, hr], hok, ⟨hS, trivial, hh⟩, hp⟩
theorem out2 (s1 s2 : Nat) {π : List Nat} (r1 r2 : SV) {hout : List (Option Blk)} {u1 u2 : SV} (hres : fn.results = #[.tmp s1, .tmp s2]) (hu1 : (t s1).hd = some u1) (hu2 : (t s2).hd = some u2) (hr1 : u1 = ren π r1) (hr2 : u2 = ren π r2) (hok : okOut C.m (.tup [r1, r2]) hout = true)
   (hS : (Nat.beq π.length hout.length && (nodupB π && (pinOk C.m π && (tUnder hout.length [] && hUnder hout.length hout)))) = true) (hh : hSub π π h hout) (hp : post (.tup [r1, r2]) hout) : outQ C fn post .ret ⟨t, h, nx⟩ :=
 ⟨π, .tup [t s1, t s2], .tup [r1, r2], hout, ret2 hres, by rw [SV.hd_eq hu1, SV.hd_eq hu2, hr1, hr2]; rfl, hok, ⟨hS, trivial, hh⟩, hp⟩
theorem out3 (s1 s2 s3 : Nat) {π : List Nat} (r1 r2 r3 : SV) {hout : List (Option Blk)} {u1 u2 u3 : SV} (hres : fn.results = #[.tmp s1, .tmp s2, .tmp s3]) (hu1 : (t s1).hd = some u1) (hu2 : (t s2).hd = some u2) (hu3 : (t s3).hd = some u3) (hr1 : u1 = ren π r1) (hr2 : u2 = ren π r2) (hr3 : u3 = ren π r3) (hok : okOut C.m (.tup [r1, r2, r3]) hout = true)
   (hS : (Nat.beq π.length hout.length && (nodupB π && (pinOk C.m π && (tUnder hout.length [] && hUnder hout.length hout)))) = true) (hh : hSub π π h hout) (hp : post (.tup [r1, r2, r3]) hout) : outQ C fn post .ret ⟨t, h, nx⟩ :=
 ⟨π, .tup [t s1, t s2, t s3], .tup [r1, r2, r3], hout, ret3 hres, by rw [SV.hd_eq hu1, SV.hd_eq hu2, SV.hd_eq hu3, hr1, hr2, hr3]; rfl, hok, ⟨hS, trivial, hh⟩, hp⟩
end
end Go.Proofs.YtpdojmebloekgaaDoor.Nice
namespace Go.Proofs.YtpdojmebloekgaaDoor.Nice
open Go
set_option linter.unusedVariables false
inductive Sh where
 | int | u8 | bool | str
 | slice (e : Sh)
 | unit
 | pair (a b : Sh)
abbrev Sh.T : Sh → Type
 | .int => Int
 | .u8 => UInt8
 | .bool => Bool
 | .str => ByteArray
 | .slice e => List e.T
 | .unit => Unit
 | .pair a b => a.T × b.T
def Sh.k : Sh → Nat
 | .unit => 0
 | .pair a b => a.k + b.k
 | _ => 1
def Sh.cell : (s : Sh) → s.T → Nat → D
 | .int, n, _ => .val (.int .i64 n)
 | .u8, n, _ => .val (.int .u8 n.toNat)
 | .bool, b, _ => .val (.bool b)
 | .str, s, _ => .val (.string s)
 | .slice e, l, _ => .vec e.k l.length (fun i c => match l[i]? with | some x => e.cell x c | none => .any)
 | .unit, _, _ => .any
 | .pair a b, x, c => if c < a.k then a.cell x.1 c else b.cell x.2 (c - a.k)
def Sh.ok : (s : Sh) → s.T → Prop
 | .int, n => inRange n
 | .str, s => s.size ≤ 9223372036854775807
 | .slice e, l => l.length ≤ 9223372036854775807 ∧ ∀ x, x ∈ l → e.ok x
 | .pair a b, x => a.ok x.1 ∧ b.ok x.2
 | _, _ => True
mutual
def Sh.fits (P : Program) : Sh → TypeId → Prop
 | .int, t => P.underlying t = some (.int .i64)
 | .u8, t => P.underlying t = some (.int .u8)
 | .bool, t => P.underlying t = some .bool
 | .str, t => P.underlying t = some .string
 | .slice e, t => ∃ el, P.underlying t = some (.slice el) ∧ P.cellsOf el = e.k ∧ 0 < e.k ∧ e.fits P el
 | .unit, t => ∃ fs, P.underlying t = some (.struct fs) ∧ fs.toList = [] ∧ P.cellsOf t = 0
 | .pair a b, t => ∃ fs, P.underlying t = some (.struct fs) ∧ P.cellsOf t = a.k + b.k ∧ Sh.fitsF P (.pair a b) fs.toList 0
def Sh.fitsF (P : Program) : Sh → List Field → Nat → Prop
 | .unit, [], _ => True
 | .pair a b, f :: fs, o => f.offset = o ∧ P.cellsOf f.type = a.k ∧ a.fits P f.type ∧ b.fitsF P fs (o + a.k)
 | _, _, _ => False
end
theorem mapM_some {α β : Type} {f : α → Option β} : ∀ {l : List α} {r : List β}, l.mapM f = some r → r.length = l.length ∧ ∀ (i : Nat) (x : α), l[i]? = some x → ∃ y, r[i]? = some y ∧ f x = some y
 | [], r, h => by simp at h; subst h; exact ⟨rfl, fun i x hx => by simp at hx⟩
 | a :: l, r, h => by
   simp only [List.mapM_cons, Option.pure_def, Option.bind_eq_bind, Option.bind_eq_some_iff] at h
   obtain ⟨y, hy, r', hr, h⟩ := h
   simp at h; subst h
   obtain ⟨h1, h2⟩ := mapM_some hr
   refine ⟨by simp [h1], fun i x hx => ?_⟩
   cases i with
   | zero => simp at hx; subst hx; exact ⟨y, rfl, hy⟩
   | succ i => simp at hx; obtain ⟨z, k1, k2⟩ := h2 i x hx; exact ⟨z, by simpa using k1, k2⟩
theorem cells_some {w : World} {base : Nat} {a : Addr} {n : Nat} {cs : List Value} (h : w.cells? base a n = some cs) : cs.length = n ∧ ∀ c, c < n → ∃ v, cs[c]? = some v ∧ w.cell? (a.add c) = some v := by
 unfold World.cells? at h
 split at h
 · obtain ⟨h1, h2⟩ := mapM_some h
   refine ⟨by simpa using h1, fun c hc => ?_⟩
   exact h2 c c (by simp [hc])
 · cases h
def allM (w : World) : Imm := fun b => w.heap[b]?
theorem cell_in {w : World} {a : Addr} {v : Value} (h : w.cell? a = some v) : a.spot = none ∧ ∃ cur T fz, w.heap[a.block]? = some (.cells cur T fz) ∧ cur[a.off]? = some v := by
 unfold World.cell? at h
 split at h
 · next cur T fz hb =>
   split at h
   · cases h
   · next hs => exact ⟨by cases e : a.spot <;> simp_all, cur, T, fz, hb, h⟩
 · cases h
theorem lt_of_wf {n : Int} (h : (Lit.int .i64 n).wf = true) : inRange n := by
 unfold inRange
 simp [Lit.wf, IntKind.min, IntKind.max, IntKind.signed, IntKind.bits] at h
 omega
theorem one_cell {M : Imm} {v : Value} {x : D} (hx : DR M x v) : ∀ c, c < 1 → ∃ u, ([v] : List Value)[c]? = some u ∧ DR M x u := by
 intro c hc
 obtain rfl : c = 0 := by omega
 exact ⟨v, rfl, hx⟩
theorem list_of {α : Type} (p : Nat → α → Prop) : ∀ n, (∀ i, i < n → ∃ x, p i x) → ∃ l : List α, l.length = n ∧ ∀ (i : Nat) (x : α), l[i]? = some x → p i x
 | 0, _ => ⟨[], rfl, fun i x hi => by simp at hi⟩
 | n + 1, h => by
   obtain ⟨l, l1, l2⟩ := list_of p n (fun i hi => h i (by omega))
   obtain ⟨x, hx⟩ := h n (by omega)
   refine ⟨l ++ [x], by simp [l1], fun i y hi => ?_⟩
   by_cases hlt : i < l.length
   · rw [List.getElem?_append_left hlt] at hi; exact l2 i y hi
   · rw [List.getElem?_append_right (by omega)] at hi
     have : i = n := by
       have := (List.getElem?_eq_some_iff.1 hi).1
       simp at this; omega
     subst this
     rw [l1] at hi; simp at hi; subst hi; exact hx
theorem trod_open {H : Type} {enc : TypeId × Value → H} {P : Program} {w : World} {base : Nat} {spare : Nat → Bool} {held : Bool} : ∀ (fuel : Nat),
   (∀ (s : Sh) (t : TypeId) (cs : List Value) (d : DataW H) (ps : List MemPlace), s.fits P t → DataW.trod enc P w base spare held fuel t cs = some (d, ps) →
     ∃ a : s.T, s.ok a ∧ cs.length = s.k ∧ ∀ c, c < s.k → ∃ v, cs[c]? = some v ∧ DR (allM w) (s.cell a c) v)
 | 0, s, t, cs, d, ps, _, h => by simp [DataW.trod] at h
 | fuel + 1, s, t, cs, d, ps, hf, h => by
   have ih := trod_open (H := H) (enc := enc) (P := P) (w := w) (base := base) (spare := spare) (held := held) fuel
   have fields : ∀ (s : Sh) (fs : List Field) (o : Nat) (xs : List (DataW H × List MemPlace)), s.fitsF P fs o → o + s.k ≤ cs.length → (fs.mapM fun f => DataW.trod enc P w base spare held fuel f.type ((cs.drop f.offset).take (P.cellsOf f.type))) = some xs →
       ∃ a : s.T, s.ok a ∧ ∀ c, c < s.k → ∃ v, cs[o + c]? = some v ∧ DR (allM w) (s.cell a c) v := by
     intro s
     induction s with
     | unit => intro fs o xs _ _ _; exact ⟨(), trivial, fun c hc => by simp [Sh.k] at hc⟩
     | pair a b _ ihb =>
       intro fs o xs hfs hle hm
       cases fs with
       | nil => simp [Sh.fitsF] at hfs
       | cons f fs =>
         simp only [Sh.fitsF] at hfs
         obtain ⟨h1, h2, h3, h4⟩ := hfs
         simp only [List.mapM_cons, Option.pure_def, Option.bind_eq_bind, Option.bind_eq_some_iff] at hm
         obtain ⟨y, hy, r', hr, _⟩ := hm
         obtain ⟨x, x1, x2, x3⟩ := ih a f.type _ y.1 y.2 h3 hy
         simp only [Sh.k] at hle
         obtain ⟨z, z1, z2⟩ := ihb fs (o + a.k) r' h4 (by omega) hr
         refine ⟨(x, z), ⟨x1, z1⟩, fun c hc => ?_⟩
         simp only [Sh.k] at hc
         simp only [Sh.cell]
         by_cases hca : c < a.k
         · rw [if_pos hca]
           obtain ⟨v, v1, v2⟩ := x3 c hca
           rw [List.getElem?_take, if_pos (by omega), List.getElem?_drop, h1] at v1
           exact ⟨v, v1, v2⟩
         · rw [if_neg hca]
           obtain ⟨v, v1, v2⟩ := z2 (c - a.k) (by omega)
           exact ⟨v, by rw [← v1]; congr 1; omega, v2⟩
     | _ => intro fs o xs hfs; cases fs <;> simp [Sh.fitsF] at hfs
   unfold DataW.trod at h
   cases s with
   | int =>
     simp only [Sh.fits] at hf
     simp only [hf] at h
     split at h <;> (try simp only [reduceCtorEq, Option.some.injEq, TypeDesc.int.injEq] at *)
     next k k' n hk =>
       subst hk
       split at h
       · next hc =>
         obtain ⟨rfl, h2⟩ := hc
         exact ⟨n, lt_of_wf h2, rfl, one_cell (.val _ rfl)⟩
       · cases h
   | u8 =>
     simp only [Sh.fits] at hf
     simp only [hf] at h
     split at h <;> (try simp only [reduceCtorEq, Option.some.injEq, TypeDesc.int.injEq] at *)
     next k k' n hk =>
       subst hk
       split at h
       · next hc =>
         obtain ⟨rfl, h2⟩ := hc
         have hb : 0 ≤ n ∧ n ≤ 255 := by
           simp [Lit.wf, IntKind.min, IntKind.max, IntKind.signed, IntKind.bits] at h2; omega
         have he : (((UInt8.ofNat n.toNat).toNat : Nat) : Int) = n := by
           rw [UInt8.toNat_ofNat']; omega
         refine ⟨UInt8.ofNat n.toNat, trivial, rfl, one_cell (v := .int .u8 n) ?_⟩
         rw [he]; exact .val _ rfl
       · cases h
   | bool =>
     simp only [Sh.fits] at hf
     simp only [hf] at h
     split at h <;> (try simp only [reduceCtorEq, Option.some.injEq] at *)
     next b _ => exact ⟨b, trivial, rfl, one_cell (.val _ rfl)⟩
   | str =>
     simp only [Sh.fits] at hf
     simp only [hf] at h
     split at h <;> (try simp only [reduceCtorEq, Option.some.injEq] at *)
     next b _ =>
       split at h
       · next hc => exact ⟨b, (by simp only [maxLen] at hc; exact hc), rfl, one_cell (.val _ rfl)⟩
       · cases h
   | slice e =>
     simp only [Sh.fits] at hf
     obtain ⟨el, hel, hck, hek0, hfe⟩ := hf
     simp only [hel] at h
     split at h <;> simp only [reduceCtorEq, Option.some.injEq, TypeDesc.slice.injEq] at *
     · next hk =>
       exact ⟨[], ⟨by simp, fun x hx => by simp at hx⟩, rfl, one_cell (.vec0 _ _ _ _)⟩
     · next e' a len cap hk =>
       subst hk
       split at h
       · next hcond =>
         simp only [Option.bind_eq_some_iff, Option.map_eq_some_iff] at h
         obtain ⟨elems, hel2, rest, _, _⟩ := h
         obtain ⟨m1, m2⟩ := mapM_some hel2
         have m1 : elems.length = len := by simpa using m1
         have hx : ∀ i, i < len → ∃ x : e.T, e.ok x ∧ ∀ c, c < e.k → ∃ v, w.cell? (a.add (i * P.cellsOf el) |>.add c) = some v ∧ DR (allM w) (e.cell x c) v := by
           intro i hi
           obtain ⟨y, _, hy⟩ := m2 i i (by simp [hi])
           obtain ⟨cs', hcs', hy⟩ := Option.bind_eq_some_iff.1 hy
           obtain ⟨c1, c2⟩ := cells_some hcs'
           obtain ⟨x, x1, x2, x3⟩ := ih e el cs' y.1 y.2 hfe hy
           refine ⟨x, x1, fun c hc => ?_⟩
           obtain ⟨v, v1, v2⟩ := x3 c hc
           obtain ⟨v', v1', v2'⟩ := c2 c (by omega)
           rw [v1] at v1'; cases v1'
           exact ⟨v, v2', v2⟩
         obtain ⟨l, l1, l2⟩ := list_of (fun i (x : e.T) => e.ok x ∧ ∀ c, c < e.k → ∃ v, w.cell? (a.add (i * P.cellsOf el) |>.add c) = some v ∧ DR (allM w) (e.cell x c) v) len hx
         refine ⟨l, ⟨by have := hcond.2.1; have := hcond.2.2; simp only [maxLen] at this; omega, fun x hx => ?_⟩, rfl, one_cell ?_⟩
         · obtain ⟨i, hi⟩ := List.mem_iff_getElem?.1 hx
           exact (l2 i x hi).1
         · try simp only [Sh.cell]
           rcases Nat.eq_zero_or_pos len with h0 | h0
           · rw [l1, h0]; exact .vec0 _ _ _ _
           · by_cases hek : e.k = 0
             · omega
             · have hi0 : l[0]? = some (l[0]'(by omega)) := List.getElem?_eq_getElem _
               obtain ⟨v0, hv0, _⟩ := (l2 0 _ hi0).2 0 (by omega)
               obtain ⟨b, o, sp⟩ := a
               simp only [Nat.zero_mul, Addr.add, if_true] at hv0
               obtain ⟨hsp, cur, T, fz, hb, _⟩ := cell_in hv0
               simp only at hsp hb
               subst hsp
               rw [l1]
               have hcell : ∀ i c, i < len → c < e.k → ∃ x v, l[i]? = some x ∧ cur[o + i * e.k + c]? = some v ∧ DR (allM w) (e.cell x c) v := by
                 intro i c hi hc
                 have hli : l[i]? = some (l[i]'(by omega)) := List.getElem?_eq_getElem _
                 obtain ⟨v, v1, v2⟩ := (l2 i _ hli).2 c hc
                 rw [Addr.add_lit, Addr.add_lit, hck] at v1
                 have : w.cell? ⟨b, o + i * e.k + c, none⟩ = cur[o + i * e.k + c]? := cell_of_row w b _ cur T fz hb
                 rw [this] at v1
                 exact ⟨_, v, hli, v1, v2⟩
               refine .vec e.k len _ b o cap cur T fz (fun i c => (cur[o + i * e.k + c]?).getD undef) hb hcond.2.1 (fun i c hi hc => ?_) (fun i c hi hc => ?_)
               · obtain ⟨x, v, h1, h2, h3⟩ := hcell i c hi hc
                 rw [h2]; rfl
               · obtain ⟨x, v, h1, h2, h3⟩ := hcell i c hi hc
                 simp only [h1, h2, Option.getD_some]; exact h3
       · cases h
   | unit =>
     simp only [Sh.fits] at hf
     obtain ⟨fs, hfs, _, hk⟩ := hf
     simp only [hfs] at h
     split at h
     · next hl => exact ⟨(), trivial, by rw [hl, hk]; rfl, fun c hc => by simp [Sh.k] at hc⟩
     · cases h
   | pair a b =>
     simp only [Sh.fits] at hf
     obtain ⟨fs, hfs, hk, hff⟩ := hf
     simp only [hfs] at h
     split at h
     · next hl =>
       obtain ⟨xs, hxs, _⟩ := Option.map_eq_some_iff.1 h
       obtain ⟨x, x1, x2⟩ := fields (.pair a b) fs.toList 0 xs hff (by simp only [Sh.k]; omega) hxs
       exact ⟨x, x1, by simp only [Sh.k]; omega, fun c hc => by have := x2 c hc; rwa [Nat.zero_add] at this⟩
     · cases h
theorem arg_slice {H : Type} {enc : TypeId × Value → H} {P : Program} {w : World} {base b0 : Nat} {r : Reach} {spare : Nat → Bool} {held : Bool} (e : Sh) {t : TypeId} {v : Value} {d : DataW H} {ps : List MemPlace} (hf : (Sh.slice e).fits P t)
   (hv : Value.okWide P w r b0 t v) (h : DataW.Trod enc P w base spare held t v d ps) :
   ∃ l : List e.T, (l.length ≤ 9223372036854775807 ∧ ∀ x, x ∈ l → e.ok x) ∧ ∀ ρ, VR (allM w) ρ (.d (.vec e.k l.length (fun i c => match l[i]? with | some x => e.cell x c | none => .any))) v := by
 obtain ⟨fuel, h⟩ := h
 obtain ⟨l, hok, _, hc⟩ := trod_open fuel (.slice e) t _ d ps hf h
 have hf' := hf
 simp only [Sh.fits] at hf'
 obtain ⟨el, hel, _⟩ := hf'
 obtain ⟨a, len, cap, rfl⟩ := WideShapes.okWide_slice hel hv
 obtain ⟨u, hu, hr⟩ := hc 0 (by simp [Sh.k])
 simp [Value.cells] at hu
 subst hu
 exact ⟨l, hok, fun ρ => .d _ _ hr⟩
theorem DR.vec_congr {M : Imm} {k len : Nat} {f g : Nat → Nat → D} {v : Value} (h : DR M (.vec k len f) v) (e : ∀ i c, i < len → c < k → f i c = g i c) : DR M (.vec k len g) v := by
 cases h with
 | vec0 => exact .vec0 _ _ _ _
 | vec _ _ _ b o cap cur T fz q hb hc hg hr => exact .vec _ _ _ b o cap cur T fz q hb hc hg fun i c hi hcc => by rw [← e i c hi hcc]; exact hr i c hi hcc
theorem VR.vec_congr {M : Imm} {ρ : Names} {k len : Nat} {f g : Nat → Nat → D} {v : Value} (h : VR M ρ (.d (.vec k len f)) v) (e : ∀ i c, i < len → c < k → f i c = g i c) : VR M ρ (.d (.vec k len g)) v := by
 cases h with | d _ _ h => exact .d _ _ (h.vec_congr e)
theorem fit_u8 {P : Program} {t : TypeId} (h : P.underlying t = some (.int .u8)) : Sh.u8.fits P t := by simp only [Sh.fits]; exact h
theorem fit_slice {P : Program} {t el : TypeId} {e : Sh} (h : P.underlying t = some (.slice el)) (h1 : P.cellsOf el = e.k) (h2 : 0 < e.k) (h3 : e.fits P el) : (Sh.slice e).fits P t := by
 simp only [Sh.fits]; exact ⟨el, h, h1, h2, h3⟩
end Go.Proofs.YtpdojmebloekgaaDoor.Nice
namespace Go.Proofs.YtpdojmebloekgaaDoor.Nice
open Go
set_option linter.unusedVariables false
set_option linter.unusedSimpArgs false
def resS (P : Program) (t : Nat → SV) (h : Heap) : List ResultVar → Option (Prop × List SV)
 | [] => some (True, [])
 | .tmp s :: r => match resS P t h r with
   | some (vc, ys) => some (vc, t s :: ys)
   | none => none
 | .cell a ty :: r => match loadS P ty (t a) h, resS P t h r with
   | some (vc, _, u), some (vc', ys) => some (vc ∧ vc', u :: ys)
   | _, _ => none
def oneOf : List SV → SV
 | [x] => x
 | ys => .tup ys
def readR (tmps : Array Value) : ResultVar → Sem Value
 | .tmp t => pure (tmps.getD t undef)
 | .cell a t => do loadVar t (← asAddr (tmps.getD a undef))
theorem results_eq (fn : Func) (tmps : Array Value) : results fn tmps = (do let vs ← fn.results.mapM (readR tmps); pure (if h : vs.size = 1 then vs[0] else .tuple vs)) := by
 unfold results
 refine congrArg (fun f : ResultVar → Sem Value => (do let vs ← fn.results.mapM f; pure (if h : vs.size = 1 then vs[0] else .tuple vs) : Sem Value)) (funext fun x => ?_)
 cases x <;> rfl
theorem resS_ok {C : Ctx} {t : Nat → SV} {h : Heap} {nx : Nat} : ∀ {l : List ResultVar} {vc : Prop} {ys : List SV}, resS C.P t h l = some (vc, ys) → vc → ∀ M F pin ρ a w, SR C M F pin ρ ⟨t, h, nx⟩ a w →
   ∃ vs : List Value, (l.mapM (readR a.tmps)).run C.P w = Result.ok vs w ∧ vs.length = ys.length ∧ ∀ (i : Nat) (x : SV), ys[i]? = some x → ∃ u, vs[i]? = some u ∧ VR M ρ x u
 | [], vc, ys, e, hvc, M, F, pin, ρ, a, w, hs => by
   cases e
   exact ⟨[], by simp, rfl, fun i x hx => by simp at hx⟩
 | .tmp s :: r, vc, ys, e, hvc, M, F, pin, ρ, a, w, hs => by
   unfold resS at e
   split at e
   · next vc' ys' hr =>
     cases e
     obtain ⟨vs, h1, h2, h3⟩ := resS_ok hr hvc M F pin ρ a w hs
     refine ⟨a.tmps.getD s undef :: vs, by simp [List.mapM_cons, readR, h1], by simp [h2], fun i x hx => ?_⟩
     cases i with
     | zero => simp at hx; subst hx; exact ⟨_, rfl, hs.tm s⟩
     | succ i => exact h3 i x (by simpa using hx)
   · cases e
 | .cell s ty :: r, vc, ys, e, hvc, M, F, pin, ρ, a, w, hs => by
   unfold resS at e
   split at e
   · next vc' bs u vc'' ys' hl hr =>
     cases e
     obtain ⟨vs, h1, h2, h3⟩ := resS_ok hr hvc.2 M F pin ρ a w hs
     obtain ⟨k1, k2⟩ := loadS_ok hl hvc.1
     obtain ⟨v, _, ⟨ad, had, hload⟩, hv⟩ := k2 M F ρ h w (a.tmps.getD s undef) (hs.tm s) hs.hr k1
     refine ⟨v :: vs, by simp [List.mapM_cons, readR, h1, had, asAddr, hload], by simp [h2], fun i x hx => ?_⟩
     cases i with
     | zero => simp at hx; subst hx; exact ⟨_, rfl, hv⟩
     | succ i => exact h3 i x (by simpa using hx)
   · cases e
theorem retN {C : Ctx} {fn : Func} {t : Nat → SV} {h : Heap} {nx : Nat} {rs : Array ResultVar} {vc : Prop} {ys : List SV} (hres : fn.results = rs) (e : resS C.P t h rs.toList = some (vc, ys)) (hvc : vc) : RetIs C fn ⟨t, h, nx⟩ (oneOf ys) := by
 intro M F pin ρ a w hs
 obtain ⟨vs, h1, h2, h3⟩ := resS_ok e hvc M F pin ρ a w hs
 have hm : (rs.mapM (readR a.tmps)).run C.P w = Result.ok vs.toArray w := by
   rw [Array.mapM_eq_mapM_toList]
   simp [h1]
 match ys, h2, h3 with
 | [x], h2, h3 =>
   obtain ⟨u, hu, hr⟩ := h3 0 x rfl
   have : vs = [u] := by
     match vs, h2, hu with
     | [v], _, hu => simp at hu; subst hu; rfl
   subst this
   refine ⟨u, ?_, hr⟩
   rw [results_eq, hres]
   simp [hm]
 | [], h2, h3 =>
   have : vs = [] := by simpa using h2
   subst this
   refine ⟨.tuple #[], ?_, .tupOf [] #[] rfl fun i x hx => by simp at hx⟩
   rw [results_eq, hres]
   simp [hm]
 | x :: y :: zs, h2, h3 =>
   refine ⟨.tuple vs.toArray, ?_, .tupOf (x :: y :: zs) vs.toArray (by simpa using h2) fun i z hz => ?_⟩
   · rw [results_eq, hres]
     have : ¬ vs.length = 1 := by rw [h2]; simp
     simp [hm, this]
   · obtain ⟨u, hu, hr⟩ := h3 i z hz
     exact ⟨u, by simpa using hu, hr⟩
section
variable {C : Ctx} {fn : Func} {post : SV → List (Option Blk) → Prop} {t : Nat → SV} {h : Heap} {nx : Nat}
theorem outN {rs : Array ResultVar} {π : List Nat} (r : SV) {hout : List (Option Blk)} {vc : Prop} {ys : List SV} (hres : fn.results = rs) (e : resS C.P t h rs.toList = some (vc, ys)) (hvc : vc) (hr : oneOf ys = ren π r) (hok : okOut C.m r hout = true) (hS : (Nat.beq π.length hout.length && (nodupB π && (pinOk C.m π && (tUnder hout.length [] && hUnder hout.length hout)))) = true)
   (hh : hSub π π h hout) (hp : post r hout) : outQ C fn post .ret ⟨t, h, nx⟩ :=
 ⟨π, oneOf ys, r, hout, retN hres e hvc, hr, hok, ⟨hS, trivial, hh⟩, hp⟩
end
theorem HR.swap {M F : Imm} {ρ : Names} {h : Heap} {w : World} (H : HR M F ρ h w) (n : Nat) {b b' : Blk} (hn : h n = some b) (hB : ∀ x obj, BR M ρ x b obj → BR M ρ x b' obj) (hg : b.ghost = true → b'.ghost = true) (hfm : ∀ S es, b' ≠ .fam S es := by intro S es h; cases h) : HR M F ρ (upd h n (some b')) w := by
  refine ⟨H.imm, H.frm, H.dis, fun m blk hm => ?_, fun m m' x y hm hm' => ?_, ?_⟩
  rotate_right
  · refine H.famKeep (fun m S es hm => ?_) (Names.le_refl _) (Imm.le_refl _) (Nat.le_refl _) (fun _ _ _ _ _ _ a b => ⟨a, b⟩) (fun _ _ _ _ _ _ _ _ _ _ => rfl) (fun m S es p y hm hp hy h0 => .inl ⟨fun e => ?_, hy⟩)
    · rw [upd_eq] at hm
      split at hm
      · exact absurd (Option.some.inj hm) (hfm S es)
      · exact hm
    · rw [upd_eq] at hp; split at hp
      · next e2 => subst e2; rw [hn] at e; cases e
      · exact hp e
  · rw [upd_eq] at hm
    split at hm
    · next e =>
      subst e
      cases hm
      obtain ⟨x, hx, hr⟩ := H.live m b hn
      rcases hr with ⟨h0, hr⟩ | ⟨h0, h1, h2, obj, h3, h4⟩
      · exact ⟨x, hx, .inl ⟨h0, hg hr⟩⟩
      · exact ⟨x, hx, .inr ⟨h0, h1, h2, obj, h3, hB x obj h4⟩⟩
    · exact H.live m blk hm
  · refine H.sep m m' x y ?_ ?_
    · rw [upd_eq] at hm; split at hm
      · next e => subst e; rw [hn]; intro h; cases h
      · exact hm
    · rw [upd_eq] at hm'; split at hm'
      · next e => subst e; rw [hn]; intro h; cases h
      · exact hm'
theorem torows {C : Ctx} {c : Code} {Q : Exit → St → Prop} {t : Nat → SV} {h : Heap} {nx : Nat} (n L : Nat) (f : Nat → Nat → D) {ty k : Nat} {xs : List SV} (hn : h n = some (.cells ty k xs)) (hk : 0 < k) (hl : L * k ≤ xs.length) (hf : ∀ i c, i < L → c < k → xs[i * k + c]? = some (.d (f i c)))
   (kk : W C c Q ⟨t, upd h n (some (.rows ty k L f)), nx⟩) : W C c Q ⟨t, h, nx⟩ := by
 intro M F pin ρ a w hsr
 refine kk M F pin ρ a w ⟨⟨hsr.tm, hsr.sz, hsr.df, ?_, hsr.pn, hsr.pm, hsr.gl⟩, hsr.fr⟩
 refine hsr.hr.swap n hn (fun x obj hb => ?_) (fun h => by cases h)
 cases obj with
 | cells cur T fz =>
   obtain ⟨h1, h2, h3, h4, h5, h6⟩ := hb
   refine ⟨h1, h2, h3, h4, ?_, fun i c hi hc => ?_⟩
   · have : L * k ≤ x.R * k := by omega
     exact Nat.le_of_mul_le_mul_right this hk
   · obtain ⟨v, k1, k2⟩ := h6 _ _ (hf i c hi hc)
     exact ⟨v, k1, by cases k2 with | d _ _ h => exact h⟩
 | _ => exact hb.elim
theorem rowsc {C : Ctx} {c : Code} {Q : Exit → St → Prop} {t : Nat → SV} {h : Heap} {nx : Nat} (n L' : Nat) (g : Nat → Nat → D) {ty k L : Nat} {f : Nat → Nat → D} (hn : h n = some (.rows ty k L f)) (hl : L = L') (hf : ∀ i c, i < L → c < k → f i c = g i c)
   (kk : W C c Q ⟨t, upd h n (some (.rows ty k L' g)), nx⟩) : W C c Q ⟨t, h, nx⟩ := by
 subst hl
 intro M F pin ρ a w hsr
 refine kk M F pin ρ a w ⟨⟨hsr.tm, hsr.sz, hsr.df, ?_, hsr.pn, hsr.pm, hsr.gl⟩, hsr.fr⟩
 refine hsr.hr.swap n hn (fun x obj hb => ?_) (fun h => by cases L with | zero => rfl | succ L => cases h)
 cases obj with
 | cells cur T fz =>
   obtain ⟨h1, h2, h3, h4, h5, h6⟩ := hb
   exact ⟨h1, h2, h3, h4, h5, fun i c hi hc => by rw [← hf i c hi hc]; exact h6 i c hi hc⟩
 | _ => exact hb.elim
end Go.Proofs.YtpdojmebloekgaaDoor.Nice
namespace Go.Proofs.YtpdojmebloekgaaDoor.Nice
open Go
set_option linter.unusedVariables false
set_option linter.unusedSimpArgs false
theorem HR.still {M F : Imm} {ρ : Names} {h : Heap} {w : World} (hH : HR M F ρ h w) {n ty k L len : Nat} {f : Nat → Nat → D} (hn : h n = some (.rows ty k L f)) (hl : len ≤ L) {v : Value} (hv : VR M ρ (.sl n 0 len) v) :
   ∃ M', M.le M' ∧ HR M' F ρ (upd h n none) w ∧ VR M' ρ (.d (.vec k len f)) v := by
 cases hv with
 | sl0 _ _ x hx hR aa => exact ⟨M, Imm.le_refl _, hH.drop n, .d _ _ (.vec0 _ _ _ _)⟩
 | sl _ _ _ x hx hlR hR h0 =>
   obtain ⟨x', hx', hr⟩ := hH.live n _ hn
   rw [hx] at hx'; obtain rfl := Option.some.inj hx'
   rcases hr with ⟨h00, _⟩ | ⟨_, hM, hF, o, h3, h4⟩
   · omega
   cases o with
   | cells cur T fz =>
     obtain ⟨rfl, rfl, g1, g2, g3, g4⟩ := h4
     let M' : Imm := fun b => if b = x.b then some (.cells cur T (0, 0)) else M b
     have hle : M.le M' := by
       intro b o hb
       have : b ≠ x.b := by rintro rfl; rw [hM] at hb; cases hb
       simp [M', this, hb]
     refine ⟨M', hle, hH.stills hle (fun m b hm => ?_) ?_ ?_ (fun m b y hm hy q0 => ?_) (fun m S es hm b hb => ?_), .d _ _ ?_⟩
     · rw [upd_eq] at hm; split at hm
       · cases hm
       · exact hm
     · intro b o hb
       by_cases e : b = x.b
       · subst e; simp [M'] at hb; subst hb; exact h3
       · simp [M', e] at hb; exact hH.imm b o hb
     · intro b o hb
       have : b ≠ x.b := by rintro rfl; rw [hF] at hb; cases hb
       simp [M', this]; exact hH.dis b o hb
     · rw [upd_eq] at hm; split at hm
       · cases hm
       · next e =>
         obtain ⟨y', hy', hr⟩ := hH.live m b hm
         rw [hy] at hy'; obtain rfl := Option.some.inj hy'
         have : y.b ≠ x.b := fun hb => e (hH.sep m n y x (by rw [hm]; simp) (by rw [hn]; simp) hy hx q0 h0 hb)
         rcases hr with ⟨h00, _⟩ | ⟨_, q1, _⟩
         · omega
         · simp [M', this, q1]
     · rw [upd_eq] at hm; split at hm
       · cases hm
       · obtain ⟨_, _, _, g1, g2, _⟩ := hH.fam m S es hm
         have : b ≠ x.b := fun e => g2 n x (by rw [hn]; simp) hx h0 (e ▸ hb)
         simp [M', this, (g1 b hb).1]
     · subst g1
       have hget : ∀ i c, i < len → c < x.k → ∃ v, cur[i * x.k + c]? = some v ∧ DR M (f i c) v := fun i c hi hc => g4 i c (by omega) hc
       refine .vec x.k len f x.b (0 * x.k) _ cur T (0, 0) (fun i c => (cur[i * x.k + c]?).getD undef) (by simp [M']) (by omega) (fun i c hi hc => ?_) (fun i c hi hc => ?_)
       · obtain ⟨v, v1, _⟩ := hget i c hi hc
         rw [Nat.zero_mul, Nat.zero_add, v1]; rfl
       · obtain ⟨v, v1, v2⟩ := hget i c hi hc
         simp only [v1, Option.getD_some]; exact v2.mono hle
   | _ => exact h4.elim
theorem HR.torows {M F : Imm} {ρ : Names} {h : Heap} {w : World} (hH : HR M F ρ h w) {n ty k : Nat} {xs : List SV} (hn : h n = some (.cells ty k xs)) (hk : 0 < k) (L : Nat) (f : Nat → Nat → D) (hl : L * k ≤ xs.length) (hf : ∀ i c, i < L → c < k → xs[i * k + c]? = some (.d (f i c))) :
   HR M F ρ (upd h n (some (.rows ty k L f))) w := by
 refine hH.swap n hn (fun x obj hb => ?_) (fun h => by cases h)
 cases obj with
 | cells cur T fz =>
   obtain ⟨h1, h2, h3, h4, h5, h6⟩ := hb
   refine ⟨h1, h2, h3, h4, ?_, fun i c hi hc => ?_⟩
   · have : L * k ≤ x.R * k := by omega
     exact Nat.le_of_mul_le_mul_right this hk
   · obtain ⟨v, k1, k2⟩ := h6 _ _ (hf i c hi hc)
     exact ⟨v, k1, by cases k2 with | d _ _ h => exact h⟩
 | _ => exact hb.elim
theorem ok_freeze {C : Ctx} {o : Oper} {nm : Nat} {v : Operand → SV} {bs : List (Nat × Blk)} {e k len : Nat} {xs : List SV} (hok : OpOK C o nm v bs (fun x w => x = .sl nm 0 len ∧ w = [(nm, some (.cells e k xs))])) (f : Nat → Nat → D) (hk : 0 < k) (hl : len * k ≤ xs.length)
   (hf : ∀ i c, i < len → c < k → xs[i * k + c]? = some (.d (f i c))) : OpOK C o nm v bs (fun x w => x = .d (.vec k len f) ∧ w = []) := by
 intro M F ρ a h w hv hG hH hbs hfr K Q hK
 refine hok M F ρ a h w hv hG hH hbs hfr K Q ?_
 rintro M' ρ' u wr u' w' hM hρ hn ⟨rfl, rfl⟩ hv' hH' hS
 have hnone : h nm = none := by
   cases e : h nm with
   | none => rfl
   | some b =>
     obtain ⟨x, hx, _⟩ := hH.live nm b e
     rw [hfr nm (Nat.le_refl _) (by omega)] at hx; cases hx
 have h1 := HR.torows hH' (n := nm) (ty := e) (k := k) (xs := xs) (by show upd h nm _ nm = _; exact upd_same _ _ _) hk len f hl hf
 obtain ⟨M2, g1, g2, g3⟩ := HR.still h1 (n := nm) (len := len) (upd_same _ _ _) (Nat.le_refl _) hv'
 refine hK M2 ρ' _ [] u' w' (Imm.le_trans hM g1) hρ hn ⟨rfl, rfl⟩ g3 ?_ hS
 have : upd (upd (wrH h [(nm, some (Blk.cells e k xs))]) nm (some (Blk.rows e k len f))) nm none = wrH h [] := by
   funext m
   simp only [wrH, upd_eq]
   split
   · next e => subst e; exact hnone.symm
   · rfl
 rw [← this]; exact g2
section
variable {C : Ctx} {ops : List Oper} {i : Nat} {o : Oper} {l : List Oper} {t : Nat → SV} {h h' : Heap} {nx : Nat} {K : St → Prop} {acc : List FP}
theorem sLit {ty e len : Nat} {parts : Array (Nat × Operand)} {xs : List SV} (k : Nat) (f : Nat → Nat → D) (d nm i' : Nat) (hi : i + 1 = i') (hnm : nx + 8 * i = nm) (hg : o.guard = none) (hdst : o.dst = some d) (hd : Nat.blt d C.sz = true) (ho : o.op = .buildSlice ty len parts)
   (he : sliceLitS C.P nm ty len (svParts (opv C t) parts.toList) = some (True, [], .sl nm 0 len, [(nm, some (.cells e k xs))])) (hk : Nat.blt 0 k = true) (hl : Nat.ble (len * k) xs.length = true) (hf : ∀ i c, i < len → c < k → xs[i * k + c]? = some (.d (f i c)))
   (kk : wops C ops i' l ⟨upd t d (.d (.vec k len f)), h, nx⟩ none K) : wops C ops i (o :: l) ⟨t, h, nx⟩ none K := by
 subst hi; subst hnm
 obtain ⟨h1, h2, h3⟩ := sliceLit_ok (C := C) (nm := nx + 8 * i) (v := opv C t) (h := h) ho he trivial
 refine st_ok (σ := ⟨t, h, nx⟩) (bs := []) (wr := []) hg (by unfold dstOK; rw [hdst]; exact hd) (ok_freeze h1 f (by simpa using hk) (Nat.le_of_ble_eq_true hl) hf) (fun p hp => by cases hp) rfl ?_
 unfold St.app; rw [hdst]; exact kk
end
theorem cghostly {C : Ctx} {c : Code} {Q : Exit → St → Prop} {t : Nat → SV} {h : Heap} {nx : Nat} (n j ty k : Nat) (f : Nat → Nat → D) {ty' k' : Nat} {xs : List SV} (hn : h n = some (.cells ty' k' xs)) (hj : xs[j]? = some (.d .nils)) (hne : Nat.beq n nx = false)
   (kk : W C c Q ⟨t, upd (upd h nx (some (.rows ty k 0 f))) n (some (.cells ty' k' (xs.set j (.sl nx 0 0)))), nx + 8⟩) : W C c Q ⟨t, h, nx⟩ := by
 intro M F pin ρ a w hsr
 have hfr : ∀ m, nx ≤ m → m < nx + 8 → ρ m = none := fun m h1 _ => hsr.fr m h1
 obtain ⟨ρ', k1, k2, k3, k4⟩ := hsr.hr.ghost hfr ty k f
 have hnn : n ≠ nx := fun e => by subst e; simp at hne
 have hn' : upd h nx (some (.rows ty k 0 f)) n = some (.cells ty' k' xs) := by rw [upd_other _ _ _ _ hnn]; exact hn
 have k5 := k4.swap n hn' (b' := .cells ty' k' (xs.set j (.sl nx 0 0))) (fun x obj hb => ?_) (fun h => by cases h)
 · refine kk M F pin ρ' a w ⟨⟨fun m => (hsr.tm m).mono (Imm.le_refl _) k1, hsr.sz, hsr.df, k5, Names.le_trans hsr.pn k1, hsr.pm, hsr.gl⟩, fun m hm => ?_⟩
   have hm' : nx + 8 ≤ m := hm
   rw [k2 m (.inr hm')]; exact hsr.fr m (by show nx ≤ m; omega)
 · cases obj with
   | cells cur T fz =>
     obtain ⟨h1, h2, h3, h4, h5, h6⟩ := hb
     refine ⟨h1, h2, h3, h4, by rw [List.length_set]; exact h5, fun q s hs => ?_⟩
     rw [List.getElem?_set] at hs
     split at hs
     · next e =>
       subst e
       split at hs
       · cases hs
         obtain ⟨v, v1, v2⟩ := h6 j _ hj
         refine ⟨v, v1, ?_⟩
         cases v2 with | d _ _ hd => cases hd with | nils aa => exact .sl0 nx 0 _ k3 rfl aa
       · cases hs
     · exact h6 q s hs
   | _ => exact hb.elim
def Unr (C : Ctx) (c : Code) (Q : Exit → St → Prop) : Nat → St → Prop
 | 0, _ => False
 | n + 1, σ => W C c (thenQ (Unr C c Q n) Q) σ
theorem W_unroll {C : Ctx} {c : Code} {Q : Exit → St → Prop} {σ : St} (n : Nat) (h : Unr C c Q n σ) : W C (.loop c) Q σ := by
 refine W_loop0 (fun n σ => Unr C c Q n σ) n h ?_
 intro n σ hn
 cases n with
 | zero => exact hn.elim
 | succ n =>
   refine W_mono hn ?_
   intro e σ' hq
   cases e with
   | normal => exact ⟨n, by omega, hq⟩
   | _ => exact hq
theorem unr {C : Ctx} {c : Code} {Q : Exit → St → Prop} {n : Nat} {σ : St} (h : W C c (thenQ (Unr C c Q n) Q) σ) : Unr C c Q (n + 1) σ := h
theorem Spec.args {P : Program} {G : Nat → SV} {f : FuncId} {args args' : List SV} {hin : List Blk} {post : SV → List (Option Blk) → Prop} (h : Spec P G f args hin post) (hl : args.length = args'.length)
   (hle : ∀ M ρ (i : Nat) (x' : SV), args'[i]? = some x' → ∃ x, args[i]? = some x ∧ ∀ u, VR M ρ x' u → VR M ρ x u) : Spec P G f args' hin post := by
 intro M F ρ vs w h1 h2 h3 h4 h5
 refine h M F ρ vs w h1 h2 (by rw [h3, hl]) (fun i x hx => ?_) h5
 have hi : i < args'.length := by rw [← hl]; exact (List.getElem?_eq_some_iff.1 hx).1
 obtain ⟨x', hx'⟩ : ∃ x', args'[i]? = some x' := ⟨_, List.getElem?_eq_getElem hi⟩
 obtain ⟨y, hy, hv⟩ := hle M ρ i x' hx'
 rw [hx] at hy; cases hy
 obtain ⟨u, hu, hr⟩ := h4 i x' hx'
 exact ⟨u, hu, hv u hr⟩
end Go.Proofs.YtpdojmebloekgaaDoor.Nice
namespace Go.Proofs.YtpdojmebloekgaaDoor.Nice
open Go
set_option linter.unusedVariables false
set_option linter.unusedSimpArgs false
def mvN (n n' m : Nat) : Nat := bif Nat.beq m n then n' else m
mutual
def mv (n n' : Nat) : SV → SV
 | .ptr m i c => .ptr (mvN n n' m) i c
 | .sl m o l => .sl (mvN n n' m) o l
 | .cs m c l => .cs (mvN n n' m) c l
 | .op m b => .op (mvN n n' m) b
 | .map m => .map (mvN n n' m)
 | .fn f cs => .fn f (mvL n n' cs)
 | .agg xs => .agg (mvL n n' xs)
 | .tup xs => .tup (mvL n n' xs)
 | .iface t x => .iface t (mv n n' x)
 | .any => .any
 | .d x => .d x
 | .vp k l f i c => .vp k l f i c
def mvL (n n' : Nat) : List SV → List SV
 | [] => []
 | x :: r => mv n n' x :: mvL n n' r
end
def mvO (n n' : Nat) : List (Nat × SV) → List (Nat × SV)
 | [] => []
 | (j, x) :: r => (j, mv n n' x) :: mvO n n' r
theorem mvO_mem {n n' : Nat} : ∀ {op : List (Nat × SV)} {p : Nat × SV}, p ∈ mvO n n' op → ∃ q, q ∈ op ∧ p = (q.1, mv n n' q.2)
 | [], p, h => by cases h
 | (j, x) :: r, p, h => by
   rcases List.mem_cons.1 h with rfl | h
   · exact ⟨_, List.mem_cons_self .., rfl⟩
   · obtain ⟨q, hq, e⟩ := mvO_mem h; exact ⟨q, List.mem_cons_of_mem _ hq, e⟩
theorem mvO_of {n n' : Nat} : ∀ {op : List (Nat × SV)} {q : Nat × SV}, q ∈ op → (q.1, mv n n' q.2) ∈ mvO n n' op
 | [], q, h => by cases h
 | (j, x) :: r, q, h => by
   rcases List.mem_cons.1 h with rfl | h
   · exact List.mem_cons_self ..
   · exact List.mem_cons_of_mem _ (mvO_of h)
def mvB (n n' : Nat) : Blk → Blk
 | .cells ty k xs => .cells ty k (mvL n n' xs)
 | .fam S es => .fam S ⟨es.es, mvO n n' es.op, es.ly⟩
 | .iter m since seen => .iter (mv n n' m) since seen
 | b => b
theorem mvL_length (n n' : Nat) : ∀ xs, (mvL n n' xs).length = xs.length
 | [] => rfl
 | x :: r => by simp [mvL, mvL_length n n' r]
theorem mvL_get (n n' : Nat) : ∀ (xs : List SV) (i : Nat), (mvL n n' xs)[i]? = (xs[i]?).map (mv n n')
 | [], i => by simp [mvL]
 | x :: r, 0 => by simp [mvL]
 | x :: r, i + 1 => by simp [mvL, mvL_get n n' r i]
theorem VR.mv {M : Imm} {ρ ρ' : Names} {n n' : Nat} (hρ : ∀ m z, ρ m = some z → ρ' (mvN n n' m) = some z) {x : SV} {v : Value} (h : VR M ρ x v) : VR M ρ' (Nice.mv n n' x) v := by
 have lst : ∀ (xs : List SV) (P : Nat → SV → Prop), (∀ i x, xs[i]? = some x → P i (Nice.mv n n' x)) → ∀ i y, (mvL n n' xs)[i]? = some y → P i y := by
   intro xs P hP i y hy
   rw [mvL_get] at hy
   cases e : xs[i]? with
   | none => rw [e] at hy; cases hy
   | some z => rw [e] at hy; cases hy; exact hP i z e
 induction h with
 | any v => exact .any v
 | d z v h => exact .d z v h
 | vp k len f i c b o cur T fz g hb hg hr => exact .vp k len f i c b o cur T fz g hb hg hr
 | ptr m i c z h => exact .ptr _ i c z (hρ m z h)
 | sl m o len z h hl hR h0 => exact .sl _ o len z (hρ m z h) hl hR h0
 | sl0 m o z h hR a => exact .sl0 _ _ z (hρ m z h) hR a
 | cs m c len z cap h hc => exact .cs _ c len z cap (hρ m z h) hc
 | opY m z h => exact .opY _ z (hρ m z h)
 | opN m => exact .opN _
 | map m z h => exact .map _ z (hρ m z h)
 | fn f caps vs g hs hg hr ih => exact .fn f _ vs g (by rw [mvL_length]; exact hs) (by rw [mvL_length]; exact hg) (lst caps (fun i y => VR M ρ' y (g i)) ih)
 | agg xs vs g hs hg hr ih => exact .agg _ vs g (by rw [mvL_length]; exact hs) (by rw [mvL_length]; exact hg) (lst xs (fun i y => VR M ρ' y (g i)) ih)
 | tup xs vs g hs hg hr ih => exact .tup _ vs g (by rw [mvL_length]; exact hs) (by rw [mvL_length]; exact hg) (lst xs (fun i y => VR M ρ' y (g i)) ih)
 | iface t z v h ih => exact .iface t _ v ih
theorem BR.mv {M : Imm} {ρ ρ' : Names} {n n' : Nat} (hρ : ∀ m z, ρ m = some z → ρ' (mvN n n' m) = some z) {z : Own} {b : Blk} {o : Obj} (h : BR M ρ z b o) : BR M ρ' z (mvB n n' b) o := by
 cases b with
 | cells ty k xs => cases o with
   | cells cur T fz =>
     obtain ⟨h1, h2, h3, h4, h5, h6⟩ := h
     refine ⟨h1, h2, h3, h4, by rw [mvL_length]; exact h5, fun j s hs => ?_⟩
     rw [mvL_get] at hs
     cases e : xs[j]? with
     | none => rw [e] at hs; cases hs
     | some y =>
       rw [e] at hs; cases hs
       obtain ⟨v, hv, hr⟩ := h6 j y e
       exact ⟨v, hv, hr.mv hρ⟩
   | _ => exact h.elim
 | rows ty k len f => cases o <;> exact h
 | map es => cases o <;> exact h
 | fam S es => cases o with
   | map ents cl =>
     obtain ⟨h0, h1, h2, h3⟩ := h
     refine ⟨h0, h1, h2, fun p hp => ?_⟩
     obtain ⟨q, hq, rfl⟩ := mvO_mem hp
     obtain ⟨y, hy, hr⟩ := h3 q hq
     exact ⟨y, hy, hr.mv hρ⟩
   | cells cur T fz =>
     refine ⟨h.1, fun p hp => ?_⟩
     obtain ⟨q, hq, rfl⟩ := mvO_mem hp
     obtain ⟨y, hy, hr⟩ := h.2 q hq
     exact ⟨y, hy, hr.mv hρ⟩
   | _ => exact h.elim
 | iter m since seen => cases o with
   | mapIter mp s' seen' cl => exact ⟨h.1.mv hρ, h.2⟩
   | _ => exact h.elim
theorem FR.mv {M : Imm} {w : World} {b : Nat} {S : List Nat} {es : Fam} {n n' : Nat} (h : FR M w b S es) : FR M w b S ⟨es.es, mvO n n' es.op, es.ly⟩ := h.shuts rfl fun j k s bl hj => ⟨k, hj.1, fun p hp => hj.2 (p.1, Nice.mv n n' p.2) (mvO_of hp)⟩
theorem mvB_fam {n n' : Nat} {b : Blk} {S : List Nat} {es : Fam} (h : mvB n n' b = .fam S es) : ∃ es', b = .fam S es' ∧ es = ⟨es'.es, mvO n n' es'.op, es'.ly⟩ := by
 cases b with
 | fam S' es' => simp only [mvB, Blk.fam.injEq] at h; obtain ⟨rfl, rfl⟩ := h; exact ⟨es', rfl, rfl⟩
 | _ => simp [mvB] at h
theorem ghost_mvB (n n' : Nat) (b : Blk) : (mvB n n' b).ghost = b.ghost := by cases b <;> rfl
theorem rename {C : Ctx} {c : Code} {Q : Exit → St → Prop} {t : Nat → SV} {h : Heap} {nx : Nat} (n : Nat) {b : Blk} (hn : h n = some b) (hne : Nat.beq n nx = false)
   (kk : W C c Q ⟨fun k => mv n nx (t k), upd (upd (fun m => (h m).map (mvB n nx)) n none) nx (some (mvB n nx b)), nx + 8⟩) : W C c Q ⟨t, h, nx⟩ := by
 intro M F pin ρ a w hsr
 have hnn : n ≠ nx := fun e => by subst e; simp at hne
 have hnx : ρ nx = none := hsr.fr nx (Nat.le_refl nx)
 let ρ' : Names := fun m => if m = nx then ρ n else ρ m
 have hle : ρ.le ρ' := by
   intro m x hx
   have : m ≠ nx := by rintro rfl; rw [hnx] at hx; cases hx
   simp [ρ', this, hx]
 have hρ : ∀ m z, ρ m = some z → ρ' (mvN n nx m) = some z := by
   intro m z hz
   unfold mvN
   cases e : Nat.beq m n with
   | true => have := Nat.eq_of_beq_eq_true e; subst this; simp [ρ', hz]
   | false => exact hle m z hz
 have hH := hsr.hr
 refine kk M F pin ρ' a w ⟨⟨fun k => (hsr.tm k).mv hρ, hsr.sz, hsr.df, ⟨hH.imm, hH.frm, hH.dis, ?_, ?_, ?_⟩, Names.le_trans hsr.pn hle, hsr.pm, fun g ρ => hsr.gl g ρ⟩, ?_⟩
 rotate_left 2
 · have key : ∀ p, upd (upd (fun m => (h m).map (mvB n nx)) n none) nx (some (mvB n nx b)) p ≠ none → h (if p = nx then n else p) ≠ none ∧ upd (upd (fun m => (h m).map (mvB n nx)) n none) nx (some (mvB n nx b)) p = (h (if p = nx then n else p)).map (mvB n nx) ∧ ρ' p = ρ (if p = nx then n else p) ∧ (p ≠ nx → p ≠ n) := by
     intro p hp
     rw [upd_eq] at hp ⊢
     by_cases e : p = nx
     · subst e
       simp only [if_true]
       exact ⟨by rw [hn]; simp, by rw [hn]; rfl, by simp [ρ'], fun h => absurd rfl h⟩
     · rw [if_neg e, upd_eq] at hp
       rw [if_neg e, if_neg e, upd_eq]
       by_cases e2 : p = n
       · rw [if_pos e2] at hp; exact absurd rfl hp
       · rw [if_neg e2] at hp ⊢
         exact ⟨fun e3 => by rw [e3] at hp; exact hp rfl, rfl, by simp [ρ', e], fun _ => e2⟩
   intro p S es hp
   have hp : upd (upd (fun m => (h m).map (mvB n nx)) n none) nx (some (mvB n nx b)) p = some (.fam S es) := hp
   obtain ⟨k1, k2, k3, k4⟩ := key p (by rw [hp]; simp)
   rw [hp] at k2
   obtain ⟨b0, hb0⟩ := Option.ne_none_iff_exists'.1 k1
   rw [hb0] at k2
   obtain ⟨es', rfl, rfl⟩ := mvB_fam (Option.some.inj k2).symm
   obtain ⟨x, hx, g0, g1, g2, g3, g4⟩ := hH.fam _ S es' hb0
   refine ⟨x, by rw [k3]; exact hx, g0, g1, fun q y hq hy h0y => ?_, fun q S2 es2 hqp hq => ?_, g4.mv⟩
   · obtain ⟨j1, j2, j3, j4⟩ := key q hq
     exact g2 _ y j1 (by rw [← j3]; exact hy) h0y
   · have hq : upd (upd (fun m => (h m).map (mvB n nx)) n none) nx (some (mvB n nx b)) q = some (.fam S2 es2) := hq
     obtain ⟨j1, j2, j3, j4⟩ := key q (by rw [hq]; simp)
     rw [hq] at j2
     obtain ⟨b2, hb2⟩ := Option.ne_none_iff_exists'.1 j1
     rw [hb2] at j2
     obtain ⟨es3, rfl, rfl⟩ := mvB_fam (Option.some.inj j2).symm
     refine g3 _ S2 es3 (fun e => hqp ?_) hb2
     by_cases ep : p = nx <;> by_cases eq : q = nx
     · rw [ep, eq]
     · rw [if_pos ep, if_neg eq] at e; exact absurd e (j4 eq)
     · rw [if_neg ep, if_pos eq] at e; exact absurd e.symm (k4 ep)
     · rw [if_neg ep, if_neg eq] at e; exact e
 rotate_right 2
 · intro m blk hm
   have hm : upd (upd (fun m => (h m).map (mvB n nx)) n none) nx (some (mvB n nx b)) m = some blk := hm
   rw [upd_eq] at hm
   split at hm
   · next e =>
     subst e; cases hm
     obtain ⟨x, hx, hr⟩ := hH.live n b hn
     refine ⟨x, by simp [ρ', hx], ?_⟩
     rcases hr with ⟨h0, hg⟩ | ⟨h0, h1, h2, o, h3, h4⟩
     · exact .inl ⟨h0, by rw [ghost_mvB]; exact hg⟩
     · exact .inr ⟨h0, h1, h2, o, h3, h4.mv hρ⟩
   · next e =>
     rw [upd_eq] at hm
     split at hm
     · cases hm
     · next e2 =>
       cases e3 : h m with
       | none => simp [e3] at hm
       | some b0 =>
         simp only [e3, Option.map_some, Option.some.injEq] at hm
         subst hm
         obtain ⟨x, hx, hr⟩ := hH.live m b0 e3
         refine ⟨x, hle m x hx, ?_⟩
         rcases hr with ⟨h0, hg⟩ | ⟨h0, h1, h2, o, h3, h4⟩
         · exact .inl ⟨h0, by rw [ghost_mvB]; exact hg⟩
         · exact .inr ⟨h0, h1, h2, o, h3, h4.mv hρ⟩
 · have key : ∀ p x, upd (upd (fun m => (h m).map (mvB n nx)) n none) nx (some (mvB n nx b)) p ≠ none → ρ' p = some x → h (if p = nx then n else p) ≠ none ∧ ρ (if p = nx then n else p) = some x ∧ (p ≠ nx → p ≠ n) := by
     intro p x hp hx
     rw [upd_eq] at hp
     by_cases e : p = nx
     · subst e
       simp only [if_true]
       exact ⟨by rw [hn]; simp, by simpa [ρ'] using hx, fun h => absurd rfl h⟩
     · rw [if_neg e, upd_eq] at hp
       rw [if_neg e]
       by_cases e2 : p = n
       · rw [if_pos e2] at hp; exact absurd rfl hp
       · rw [if_neg e2] at hp
         refine ⟨fun e3 => by rw [e3] at hp; exact hp rfl, by simpa [ρ', e] using hx, fun _ => e2⟩
   intro p q x y hp hq hx hy h0x h0y hb
   obtain ⟨p1, p2, p3⟩ := key p x hp hx
   obtain ⟨q1, q2, q3⟩ := key q y hq hy
   have := hH.sep _ _ x y p1 q1 p2 q2 h0x h0y hb
   by_cases ep : p = nx <;> by_cases eq : q = nx
   · rw [ep, eq]
   · rw [if_pos ep, if_neg eq] at this; exact absurd this.symm (q3 eq)
   · rw [if_neg ep, if_pos eq] at this; exact absurd this (p3 ep)
   · rw [if_neg ep, if_neg eq] at this; exact this
 · intro m hm
   have hm' : nx + 8 ≤ m := hm
   have : m ≠ nx := by omega
   simp only [ρ', if_neg this]
   exact hsr.fr m (by show nx ≤ m; omega)
def arrAggS (P : Program) (t : TypeId) (x ix : SV) : Option Out :=
 match P.underlying t with
 | some (.array len e) =>
   match P.info? e, isAggB P e with
   | some i, some true =>
     match x, ix with
     | .agg xs, .d (.val (.int _ n)) => if Nat.ble (n.toNat * i.size + i.size) xs.length then some (0 ≤ n ∧ n < len, [], .agg ((xs.drop (n.toNat * i.size)).take i.size), []) else none
     | _, _ => none
   | _, _ => none
 | _ => none
theorem arrAgg_ok {C : Ctx} {o : Oper} {nm : Nat} {v : Operand → SV} {h : Heap} {x : Out} {t : TypeId} {y ix : Operand} (ho : o.op = .index t y ix) (e : arrAggS C.P t (v y) (v ix) = some x) : Sound C o nm v h x := by
 unfold arrAggS at e
 split at e
 · next len el hel =>
   split at e
   · next i hi hag =>
     split at e
     · next xs kk n hy hix =>
       split at e
       · next hb =>
         cases e
         rintro ⟨h0, h1⟩
         have hb := Nat.le_of_ble_eq_true hb
         refine ⟨ok_pure fun M F ρ a h w hv hH _ => ?_, fun p hp => by simp at hp, rfl⟩
         have e1 := hv y (by rw [ho]; exact mem_ops2 (.inl rfl)); rw [hy] at e1
         have e2 := hv ix (by rw [ho]; exact mem_ops2 (.inr rfl)); rw [hix] at e2
         obtain ⟨vs, hq, hRL⟩ := agg_case e1
         have hlt : 0 ≤ n ∧ n < (len : Int) := ⟨h0, h1⟩
         refine ⟨.agg (vs.extract (n.toNat * i.size) (n.toNat * i.size + i.size)), ?_, .aggOf _ _ ?_ fun j s hs => ?_⟩
         · simp [execOp, ho, hq, e2.val, Instr.index, asIntOf, run_underlying hel, hlt, part, run_isAgg hag, sizeOf, typeInfo, hi]
         · simp [hRL.1]; omega
         · rw [List.getElem?_take] at hs
           split at hs
           · next hj =>
             rw [List.getElem?_drop] at hs
             obtain ⟨u, u1, u2⟩ := hRL.2 _ _ hs
             refine ⟨u, ?_, u2⟩
             rw [Array.getElem?_extract]
             rw [if_pos (by have := hRL.1; omega)]
             exact u1
           · cases hs
       · cases e
     · cases e
   · cases e
 · cases e
theorem sIdxA {C : Ctx} {ops : List Oper} {i : Nat} {o : Oper} {l : List Oper} {t : Nat → SV} {h : Heap} {nx : Nat} {K : St → Prop} {ty : TypeId} {y ix : Operand} {vc : Prop} {xs : List SV} (d nm i' : Nat) (hi : i + 1 = i') (hnm : nx + 8 * i = nm) (hg : o.guard = none) (hdst : o.dst = some d) (hd : Nat.blt d C.sz = true) (ho : o.op = .index ty y ix)
   (e : arrAggS C.P ty (opv C t y) (opv C t ix) = some (vc, [], .agg xs, [])) (hvc : vc) (k : wops C ops i' l ⟨upd t d (.agg xs), h, nx⟩ none K) : wops C ops i (o :: l) ⟨t, h, nx⟩ none K := by
 subst hi; subst hnm
 obtain ⟨h1, h2, h3⟩ := arrAgg_ok (C := C) (nm := nx + 8 * i) (h := h) (v := opv C t) ho e hvc
 refine st_ok (σ := ⟨t, h, nx⟩) hg (by unfold dstOK; rw [hdst]; exact hd) h1 h2 h3 ?_
 unfold St.app; rw [hdst]; exact k
end Go.Proofs.YtpdojmebloekgaaDoor.Nice
namespace Go.Proofs.YtpdojmebloekgaaDoor.Nice.Co
open Go Go.Conc
set_option linter.unusedVariables false
abbrev Blks := Nat → Prop
structure Rely (A Rd : Blks) (w w₁ : World) : Prop where
 same : Same w w₁
 keep : ∀ b, A b ∨ Rd b → w₁.heap[b]? = w.heap[b]?
theorem Rely.refl {A Rd : Blks} (w : World) : Rely A Rd w w := ⟨.refl w, fun _ _ => rfl⟩
theorem Rely.trans {A Rd : Blks} {a b c : World} (h : Rely A Rd a b) (k : Rely A Rd b c) : Rely A Rd a c := ⟨h.same.trans k.same, fun x hx => (k.keep x hx).trans (h.keep x hx)⟩
def EvOk (A Rd : Blks) (e : Event) : Prop :=
 (∃ ad s, e = ⟨.cell ad, false, s⟩ ∧ (A ad.block ∨ Rd ad.block)) ∨ (∃ ad s, e = ⟨.cell ad, true, s⟩ ∧ A ad.block) ∨ e = noRoomEvent
structure Guar (A Rd : Blks) (w w' : World) (es : Array Event) : Prop where
 same : Same w w'
 keep : ∀ b, b < w.heap.size → ¬ A b → w'.heap[b]? = w.heap[b]?
 evs : ∀ e, e ∈ es → EvOk A Rd e
theorem Guar.idle {A Rd : Blks} (w : World) : Guar A Rd w w #[] := ⟨.refl w, fun _ _ _ => rfl, fun e he => by simp at he⟩
def more (A : Blks) (w w' : World) : Blks := fun b => A b ∨ (w.heap.size ≤ b ∧ b < w'.heap.size)
theorem more_self (A : Blks) (w : World) : more A w w = A := by
 funext b; apply propext; unfold more
 exact ⟨fun h => h.elim id fun h => absurd h.2 (Nat.not_lt.2 h.1), .inl⟩
structure Tr (P : Program) where
 main : Bool
 Rd : Blks
 T : Blks → Goroutine → World → Prop
 step : ∀ (A : Blks) (g : Goroutine) (w : World), g.status = .running →
   (∀ w₁, Rely A Rd w w₁ → ∃ g' w' es, stepG P main g w₁ = .go g' w' es ∧ Guar A Rd w₁ w' es ∧ T (more A w₁ w') g' w') → T A g w
 rely : ∀ (A : Blks) (g : Goroutine) (w w₁ : World), T A g w → Rely A Rd w w₁ → T A g w₁
theorem Tr.idle {P : Program} (K : Tr P) {A : Blks} {g g' : Goroutine} {w : World} (hs : g.status = .running) (h : ∀ w₁, stepG P K.main g w₁ = .go g' w₁ #[]) (k : K.T A g' w) : K.T A g w :=
 K.step A g w hs fun w₁ h₁ => ⟨g', w₁, #[], h w₁, Guar.idle w₁, by rw [more_self]; exact K.rely A g' w w₁ k h₁⟩
noncomputable def ext (A Rd : Blks) (F : Imm) (w : World) : Imm := fun b =>
 open Classical in if A b ∨ Rd b then F b else w.heap[b]?
structure Fit (A Rd : Blks) (F M : Imm) (w : World) : Prop where
 fa : ∀ b, F b ≠ none → A b
 rm : ∀ b, Rd b → M b ≠ none
 lt : ∀ b, A b → b < w.heap.size
theorem ext_in {A Rd : Blks} {F : Imm} {w : World} {b : Nat} (h : A b ∨ Rd b) : ext A Rd F w b = F b := by unfold ext; rw [if_pos h]
theorem ext_out {A Rd : Blks} {F : Imm} {w : World} {b : Nat} (h : ¬ (A b ∨ Rd b)) : ext A Rd F w b = w.heap[b]? := by unfold ext; rw [if_neg h]
theorem acc_of {A Rd : Blks} {F : Imm} {w : World} {b : Nat} {o : Obj} (h : ext A Rd F w b = none) (hb : w.heap[b]? = some o) : A b ∨ Rd b := by
 by_cases e : A b ∨ Rd b
 · exact e
 · rw [ext_out e, hb] at h; cases h
section
variable {A Rd : Blks} {M F : Imm} {ρ : Names} {h : Heap} {w w₁ : World}
theorem acc_M (H : HR M (ext A Rd F w) ρ h w) {b : Nat} (hb : M b ≠ none) : A b ∨ Rd b := by
 obtain ⟨o, ho⟩ := Option.ne_none_iff_exists'.1 hb
 refine Classical.byContradiction fun e => hb (H.dis b o ?_)
 rw [ext_out e]; exact H.imm b o ho
theorem own_A (f : Fit A Rd F M w) {b : Nat} {o : Obj} (hM : M b = none) (hF : ext A Rd F w b = none) (hb : w.heap[b]? = some o) : A b :=
 (acc_of hF hb).elim id fun hr => absurd hM (f.rm b hr)
theorem own_live (H : HR M (ext A Rd F w) ρ h w) (f : Fit A Rd F M w) {n : Nat} {blk : Blk} {x : Own} (hn : h n = some blk) (hx : ρ n = some x) (h0 : 0 < x.R) : A x.b := by
 obtain ⟨x', hx', hr⟩ := H.live n blk hn
 rw [hx] at hx'; obtain rfl := Option.some.inj hx'
 rcases hr with ⟨h00, _⟩ | ⟨_, h1, h2, o, h3, _⟩
 · omega
 · exact own_A f h1 h2 h3
theorem hr_rely (H : HR M (ext A Rd F w) ρ h w) (f : Fit A Rd F M w) (r : Rely A Rd w w₁) : HR M (ext A Rd F w₁) ρ h w₁ := by
 have exto : ∀ b, A b ∨ Rd b → ext A Rd F w₁ b = ext A Rd F w b := fun b hb => by rw [ext_in hb, ext_in hb]
 refine ⟨fun b o hb => ?_, fun b o hb => ?_, fun b o hb => ?_, fun n blk hn => ?_, H.sep, ?_⟩
 · rw [r.keep b (acc_M H (by rw [hb]; simp))]; exact H.imm b o hb
 · by_cases e : A b ∨ Rd b
   · rw [exto b e] at hb; rw [r.keep b e]; exact H.frm b o hb
   · rw [ext_out e] at hb; exact hb
 · by_cases e : A b ∨ Rd b
   · rw [exto b e] at hb; exact H.dis b o hb
   · exact Classical.byContradiction fun hm => e (acc_M H hm)
 · obtain ⟨x, hx, hr⟩ := H.live n blk hn
   refine ⟨x, hx, ?_⟩
   rcases hr with hr | ⟨h0, h1, h2, o, h3, h4⟩
   · exact .inl hr
   · have ha := acc_of h2 h3
     exact .inr ⟨h0, h1, by rw [exto _ ha]; exact h2, o, by rw [r.keep _ ha]; exact h3, h4⟩
 · refine H.famKeep (fun _ _ _ h => h) (Names.le_refl _) (Imm.le_refl _) r.same.size (fun n S es hn b hb g1 g2 => ⟨g1, ?_⟩) (fun n S es x c _ hn hx h0 hc => ?_) (fun _ _ _ m y _ a b _ => .inl ⟨a, b⟩)
   · obtain ⟨_, _, _, k1, _⟩ := H.fam n S es hn
     obtain ⟨_, _, k3⟩ := k1 b hb
     rw [exto b (acc_of g2 (Array.getElem?_eq_getElem k3))]; exact g2
   · rcases hc with rfl | hc
     · obtain ⟨x', hx', hr⟩ := H.live n _ hn
       rw [hx] at hx'; obtain rfl := Option.some.inj hx'
       rcases hr with ⟨h00, _⟩ | ⟨_, _, h2, o, h3, _⟩
       · omega
       · exact r.keep _ (acc_of h2 h3)
     · obtain ⟨_, _, _, k1, _⟩ := H.fam n S es hn
       obtain ⟨_, k2, k3⟩ := k1 c hc
       exact r.keep _ (acc_of k2 (Array.getElem?_eq_getElem k3))
theorem fit_rely (f : Fit A Rd F M w) (r : Rely A Rd w w₁) : Fit A Rd F M w₁ := ⟨f.fa, f.rm, fun b hb => Nat.lt_of_lt_of_le (f.lt b hb) r.same.size⟩
variable {M' : Imm} {ρ' : Names} {h' : Heap} {w' : World}
theorem hr_more (H : HR M (ext A Rd F w) ρ h w) (f : Fit A Rd F M w) (hM : M.le M') (H' : HR M' (ext A Rd F w) ρ' h' w') (s : Same w w') : HR M' (ext (more A w w') Rd F w') ρ' h' w' ∧ Fit (more A w w') Rd F M' w' ∧ (∀ b, b < w.heap.size → ¬ A b → w'.heap[b]? = w.heap[b]?) := by
 have keep : ∀ b, b < w.heap.size → ¬ A b → w'.heap[b]? = w.heap[b]? := by
   intro b hb ha
   have ho : w.heap[b]? = some (w.heap[b]'hb) := Array.getElem?_eq_getElem hb
   rw [ho]
   by_cases hr : Rd b
   · obtain ⟨o, ho'⟩ := Option.ne_none_iff_exists'.1 (f.rm b hr)
     have := H.imm b o ho'
     rw [ho] at this; obtain rfl := Option.some.inj this
     exact H'.imm b _ (hM b _ ho')
   · exact H'.frm b _ (by rw [ext_out (fun e => e.elim ha hr)]; exact ho)
 have ft : Fit (more A w w') Rd F M' w' := ⟨fun b hb => .inl (f.fa b hb), fun b hb => by
     obtain ⟨o, ho⟩ := Option.ne_none_iff_exists'.1 (f.rm b hb)
     rw [hM b o ho]; simp, fun b hb => hb.elim (fun hb => Nat.lt_of_lt_of_le (f.lt b hb) s.size) (·.2)⟩
 -- the new frame says what the old one said, and of blocks that others hold now
 have key : ∀ b, ext (more A w w') Rd F w' b = ext A Rd F w b ∨ (w'.heap[b]? = none ∧ ext (more A w w') Rd F w' b = none) := by
   intro b
   by_cases e : A b ∨ Rd b
   · left
     rw [ext_in e, ext_in]
     exact e.elim (fun h => .inl (.inl h)) .inr
   · rw [ext_out e]
     by_cases hb : b < w.heap.size
     · left
       have : ¬ (more A w w' b ∨ Rd b) := by
         rintro ((h1 | h1) | h1)
         · exact e (.inl h1)
         · omega
         · exact e (.inr h1)
       rw [ext_out this]
       exact keep b hb fun h => e (.inl h)
     · by_cases hb' : b < w'.heap.size
       · left
         rw [ext_in (.inl (.inr ⟨by omega, hb'⟩))]
         rw [Array.getElem?_eq_none (by omega)]
         cases hF : F b with
         | none => rfl
         | some o => exact absurd (f.fa b (by rw [hF]; simp)) fun h => e (.inl h)
       · right
         have hn : w'.heap[b]? = none := Array.getElem?_eq_none (by omega)
         refine ⟨hn, ?_⟩
         by_cases e2 : more A w w' b ∨ Rd b
         · rw [ext_in e2]
           cases hF : F b with
           | none => rfl
           | some o => exact absurd (f.fa b (by rw [hF]; simp)) fun h => e (.inl h)
         · rw [ext_out e2]; exact hn
 refine ⟨⟨H'.imm, fun b o hb => ?_, fun b o hb => ?_, fun n blk hn => ?_, H'.sep, ?_⟩, ft, keep⟩
 · rcases key b with e | ⟨_, e⟩
   · rw [e] at hb; exact H'.frm b o hb
   · rw [e] at hb; cases hb
 · rcases key b with e | ⟨_, e⟩
   · rw [e] at hb; exact H'.dis b o hb
   · rw [e] at hb; cases hb
 · obtain ⟨x, hx, hr⟩ := H'.live n blk hn
   refine ⟨x, hx, ?_⟩
   rcases hr with hr | ⟨h0, h1, h2, o, h3, h4⟩
   · exact .inl hr
   · refine .inr ⟨h0, h1, ?_, o, h3, h4⟩
     rcases key x.b with e | ⟨_, e⟩
     · rw [e]; exact h2
     · exact e
 · refine H'.famKeep (fun _ _ _ h => h) (Names.le_refl _) (Imm.le_refl _) (Nat.le_refl _) (fun n S es hn b hb g1 g2 => ⟨g1, ?_⟩) (fun _ _ _ _ _ _ _ _ _ _ => rfl) (fun _ _ _ m y _ a b _ => .inl ⟨a, b⟩)
   rcases key b with e | ⟨_, e⟩
   · rw [e]; exact g2
   · exact e
end
end Go.Proofs.YtpdojmebloekgaaDoor.Nice.Co
