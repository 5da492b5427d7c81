/- Part 4 of the proof of StorePlays: NiceQ, NiceR, NiceS, NiceT, NiceU, NiceV, NiceW, NiceX, Short, NiceY, NiceZ. -/
import Derived.Test.YtalhangpahffeaaDoorZ3
import Derived.Laws.IdiomStrings
import Derived.Laws.CopyRow
import Derived.Laws.Pointers
import Derived.Maps.RangeRun
import Derived.Lib.AppendStr
namespace Go.Proofs.YtalhangpahffeaaDoor.Nice
open Go
set_option linter.unusedVariables false
theorem conv_none {P : Program} (w : World) (src dst e : TypeId) (l c : Nat) (hs : P.underlying src = some (.slice e)) (he : P.underlying e = some (.int .u8)) (hd : P.underlying dst = some .string) :
   (convert src dst (.slice none l c)).run P w = .ok (.string .empty) w := by
 rw [run_convert_bytes_string w src dst e none l c hs he hd]
 simp [Conv.bytesToString, Sem.run_pure]
theorem OpOK.weaken {C : Ctx} {o : Oper} {nm : Nat} {v : Operand → SV} {bs : List (Nat × Blk)} {u u' : SV} {wr : List (Nat × Option Blk)} (h : OpOK C o nm v bs (fun x y => x = u ∧ y = wr)) (hw : ∀ M ρ z, VR M ρ u z → VR M ρ u' z) : OpOK C o nm v bs (fun x y => x = u' ∧ y = wr) :=
 fun M F ρ a hh w hv hG hH hbs hfr K Q hK => h M F ρ a hh w hv hG hH hbs hfr K Q fun M' ρ' x y z w' a1 a2 a3 e a5 a6 a7 => hK M' ρ' u' y z w' a1 a2 a3 ⟨rfl, e.2⟩ (hw _ _ _ (e.1 ▸ a5)) a6 a7
section
variable {C : Ctx} {ops : List Oper} {i : Nat} {o : Oper} {l : List Oper} {t : Nat → SV} {h h' : Heap} {nx : Nat} {K : St → Prop} {vc : Prop} {bs : List (Nat × Blk)} {u : SV} {wr : List (Nat × Option Blk)} {acc : List FP}
theorem s1w (u' : SV) (d nm i' : Nat) (hi : i + 1 = i') (hnm : nx + 8 * i = nm) (hg : o.guard = none) (hdst : o.dst = some d) (hd : Nat.blt d C.sz = true) (e : sopH C nm o (opv C t) h = some (vc, bs, u, wr, h')) (hvc : vc) (hw : ∀ M ρ z, VR M ρ u z → VR M ρ u' z)
   (k : wops C ops i' l ⟨upd t d u', h', nx⟩ none K) : wops C ops i (o :: l) ⟨t, h, nx⟩ none K := by
 subst hi; subst hnm
 obtain ⟨e1, e2⟩ := sopH_eq e
 obtain ⟨h1, h2, h3⟩ := sop_ok e1 hvc
 refine st_ok (σ := ⟨t, h, nx⟩) hg (by unfold dstOK; rw [hdst]; exact hd) (h1.weaken hw) h2 h3 ?_
 unfold St.app; rw [hdst, e2]; exact k
theorem d1w (u' : SV) (d nm i' : Nat) (hi : i + 1 = i') (hnm : nx + 8 * i = nm) (hg : o.guard = none) (hdst : o.dst = some d) (hd : Nat.blt d C.sz = true) (e : sopH C nm o (opv C t) h = some (vc, bs, u, wr, h')) (hvc : vc) (hw : ∀ M ρ z, VR M ρ u z → VR M ρ u' z)
   (k : wops C ops i' l ⟨upd t d u', h', nx⟩ (some (acc ++ [(bs.map (·.1), wr.map (·.1))])) K) : wops C ops i (o :: l) ⟨t, h, nx⟩ (some acc) K := by
 subst hi; subst hnm
 obtain ⟨e1, e2⟩ := sopH_eq e
 obtain ⟨h1, h2, h3⟩ := sop_ok e1 hvc
 refine st_ok (σ := ⟨t, h, nx⟩) hg (by unfold dstOK; rw [hdst]; exact hd) (h1.weaken hw) h2 h3 ?_
 unfold St.app; rw [hdst, e2]; exact k
end
theorem VR.rowed {M : Imm} {ρ : Names} {f : Nat → Nat → D} {K k n q c : Nat} {z : Value} (hc : c = q * k) (hK : n * k ≤ K) (h : VR M ρ (.vp K 1 f 0 c) z) : VR M ρ (.vp k n (fun i j => f 0 (i * k + j)) q 0) z := by
 subst hc
 cases h with
 | vp _ _ _ _ _ b o cur T fz g hb hg hr =>
   have lt : ∀ i j, i < n → j < k → i * k + j < K := fun i j hi hj => by
     have h1 : (i + 1) * k ≤ n * k := Nat.mul_le_mul_right k hi
     rw [Nat.succ_mul] at h1; omega
   have := VR.vp (ρ := ρ) k n (fun i j => f 0 (i * k + j)) q 0 b o cur T fz (fun i j => g 0 (i * k + j)) hb (fun i j hi hj => by
     have := hg 0 (i * k + j) (by decide) (lt i j hi hj)
     rw [← this]; congr 1; omega) (fun i j hi hj => hr 0 (i * k + j) (by decide) (lt i j hi hj))
   rw [show o + 0 * K + q * k = o + q * k + 0 by omega]; exact this
end Go.Proofs.YtalhangpahffeaaDoor.Nice
namespace Go.Proofs.YtalhangpahffeaaDoor.Nice
open Go
set_option linter.unusedVariables false
set_option linter.unusedSimpArgs false
section
variable {C : Ctx} {ops : List Oper} {i : Nat} {o : Oper} {l : List Oper} {t : Nat → SV} {h h' : Heap} {nx : Nat} {K : St → Prop} {acc : List FP}
end
section
variable {C : Ctx} {ops : List Oper} {i : Nat} {o : Oper} {l : List Oper} {t : Nat → SV} {h h' : Heap} {nx : Nat} {K : St → Prop} {acc : List FP}
end
theorem sNilQ {C : Ctx} {ops : List Oper} {i : Nat} {o : Oper} {l : List Oper} {t : Nat → SV} {h : Heap} {nx : Nat} {K : St → Prop} {ty ty' el k0 len : Nat} {f : Nat → Nat → D} {y : Operand} (d nm i' : Nat) (hi : i + 1 = i') (hnm : nx + 8 * i = nm) (hg : o.guard = none) (hdst : o.dst = some d) (hd : Nat.blt d C.sz = true) (ho : o.op = .binOp .eql ty y (.const (.slice none 0 0)) ty')
   (hy : (opv C t y).hd = some (.d (.vec k0 len f))) (ht : C.P.underlying ty = some (.slice el))
   (kk : ∀ b : Bool, (b = true → len = 0) → wops C ops i' l ⟨upd t d (SV.b b), h, nx⟩ none K) : wops C ops i (o :: l) ⟨t, h, nx⟩ none K := by
 subst hi; subst hnm
 unfold wops
 refine .inr ⟨rfl, by unfold dstOK; rw [hdst]; exact hd, by simp [gOn, hg], [], (fun u wr => ∃ b : Bool, (b = true → len = 0) ∧ u = SV.b b ∧ wr = []), ?_, (fun p hp => by cases hp), ?_⟩
 · intro M F ρ a hh w hv hG hH hbs hfr Kk Q hK
   have e1 := hv y (by rw [ho]; exact mem_ops2 (.inl rfl)); rw [SV.hd_eq hy] at e1
   have hc : a.eval (.const (.slice none 0 0)) = .slice none 0 0 := rfl
   have key : ∃ ad l c, a.eval y = .slice ad l c ∧ (ad = none → len = 0) := by
     generalize a.eval y = q at e1
     cases e1 with
     | d _ _ hD => cases hD with
       | vec0 _ _ ad cap => exact ⟨ad, 0, cap, rfl, fun _ => rfl⟩
       | vec _ _ _ b oo cap cur T fz g hb hcc hgg hr => exact ⟨_, _, _, rfl, fun e => by cases e⟩
   obtain ⟨ad, l0, c0, hs, hz⟩ := key
   have hx : (execOp a.eval o).run C.P w = .ok (.value (.bool ad.isNone)) w := by
     have he := run_equal_slice_nil (P := C.P) w ty el ad l0 c0 ht
     have hgd : (eqGuard .eql ty y (.const (.slice none 0 0)) (.slice ad l0 c0) (.slice none 0 0)).run C.P w = .ok () w := rfl
     have hb : (binOp .eql ty (.slice ad l0 c0) (.slice none 0 0)).run C.P w = .ok (.bool ad.isNone) w := by
       simp only [binOp]; simp [he]
     unfold execOp
     simp only [ho, hs, hc, Sem.run_bind, hgd, hb, Result.andThen_ok, Sem.run_pure]
   unfold Oper.wp
   rw [hx]
   exact hK M ρ (SV.b ad.isNone) [] _ w (Imm.le_refl _) (Names.le_refl _) (fun _ _ => rfl) ⟨ad.isNone, fun e => hz (by cases ad <;> simp_all), rfl, rfl⟩ (.d _ _ (.val _ rfl)) hH (Same.refl _)
 · rintro u wr ⟨b, hb, rfl, rfl⟩
   have := kk b hb
   unfold St.app; rw [hdst]; exact this
end Go.Proofs.YtalhangpahffeaaDoor.Nice
namespace Go.Proofs.YtalhangpahffeaaDoor.Nice
open Go
set_option linter.unusedVariables false
set_option linter.unusedSimpArgs false
def isNilS : SV → Option Bool
 | .op _ b => some (!b)
 | .ptr _ _ _ => some false
 | .d (.val (.pointer none)) => some true
 | _ => none
theorem isNil_val {M : Imm} {ρ : Names} {x : SV} {b : Bool} (h : isNilS x = some b) {v : Value} (hv : VR M ρ x v) : ∃ p : Option Addr, v = .pointer p ∧ p.isNone = b := by
 unfold isNilS at h
 split at h
 · cases h; cases hv with
   | opY => exact ⟨_, rfl, rfl⟩
   | opN => exact ⟨_, rfl, rfl⟩
 · cases h; cases hv with | ptr => exact ⟨_, rfl, rfl⟩
 · cases h; cases hv with | d _ _ h => cases h; exact ⟨none, rfl, rfl⟩
 · cases h
theorem nilP_ok {C : Ctx} {o : Oper} {nm : Nat} {v : Operand → SV} {ty ty' : TypeId} {y : Operand} {b : Bool} (ho : o.op = .binOp .eql ty y (.const (.pointer none)) ty') (ht : C.P.underlying ty = some (.pointer (C.P.pointee ty))) (hy : isNilS (v y) = some b) : OpOK C o nm v [] (fun x z => x = SV.b b ∧ z = []) := by
 refine ok_pure fun M F ρ a h w hv hH _ => ⟨.bool b, ?_, .d _ _ (.val _ rfl)⟩
 obtain ⟨p, hp, rfl⟩ := isNil_val hy (hv y (by rw [ho]; exact mem_ops2 (.inl rfl)))
 have hc : a.eval (.const (.pointer none)) = .pointer none := rfl
 have he := run_equal_pointer_nil (P := C.P) w ty p ht
 have hg : (eqGuard .eql ty y (.const (.pointer none)) (.pointer p) (.pointer none)).run C.P w = .ok () w := by rfl
 have hb : (binOp .eql ty (.pointer p) (.pointer none)).run C.P w = .ok (.bool p.isNone) w := by
   simp only [binOp]; simp [he]
 unfold execOp
 simp only [ho, hp, hc, Sem.run_bind, hg, hb, Result.andThen_ok, Sem.run_pure]
section
variable {C : Ctx} {ops : List Oper} {i : Nat} {o : Oper} {l : List Oper} {t : Nat → SV} {h h' : Heap} {nx : Nat} {K : St → Prop} {acc : List FP}
theorem sNilP {ty ty' : TypeId} {y : Operand} {b : Bool} (d nm i' : Nat) (hi : i + 1 = i') (hnm : nx + 8 * i = nm) (hg : o.guard = none) (hdst : o.dst = some d) (hd : Nat.blt d C.sz = true) (ho : o.op = .binOp .eql ty y (.const (.pointer none)) ty') (ht : C.P.underlying ty = some (.pointer (C.P.pointee ty))) (hy : isNilS (opv C t y) = some b)
   (k : wops C ops i' l ⟨upd t d (SV.b b), h, nx⟩ none K) : wops C ops i (o :: l) ⟨t, h, nx⟩ none K := by
 subst hi; subst hnm
 refine st_ok (σ := ⟨t, h, nx⟩) hg (by unfold dstOK; rw [hdst]; exact hd) (nilP_ok ho ht hy) (fun p hp => by cases hp) rfl ?_
 unfold St.app; rw [hdst]; exact k
end
theorem freeze_all {M F : Imm} {ρ : Names} {h : Heap} {w : World} (hH : HR M F ρ h w) {n ty k L len : Nat} {f : Nat → Nat → D} (hn : h n = some (.rows ty k L f)) (hl : len ≤ L) :
   ∃ M', M.le M' ∧ HR M' F ρ (upd h n none) w ∧ ∀ v, VR M ρ (.sl n 0 len) v → VR M' ρ (.d (.vec k len f)) v := by
 obtain ⟨x, hx, hr⟩ := hH.live n _ hn
 rcases hr with ⟨h00, _⟩ | ⟨h0, hM, hF, o, h3, h4⟩
 · refine ⟨M, Imm.le_refl _, hH.drop n, fun v hv => ?_⟩
   cases hv with
   | sl0 _ _ x' hx' hR aa => exact .d _ _ (.vec0 _ _ _ _)
   | sl _ _ _ x' hx' hlR hR h0 => rw [hx] at hx'; obtain rfl := Option.some.inj hx'; omega
 · cases o with
   | cells cur T fz =>
     obtain ⟨rfl, rfl, g1, g2, g3, g4⟩ := h4
     let M' : Imm := fun b => if b = x.b then some (.cells cur T (0, 0)) else M b
     have hle : M.le M' := by
       intro b o hb
       have : b ≠ x.b := by rintro rfl; rw [hM] at hb; cases hb
       simp [M', this, hb]
     refine ⟨M', hle, hH.stills hle (fun m b hm => ?_) ?_ ?_ (fun m b y hm hy q0 => ?_) (fun m S es hm b hb => ?_), fun v hv => ?_⟩
     · rw [upd_eq] at hm; split at hm
       · cases hm
       · exact hm
     · intro b o hb
       by_cases e : b = x.b
       · subst e; simp [M'] at hb; subst hb; exact h3
       · simp [M', e] at hb; exact hH.imm b o hb
     · intro b o hb
       have : b ≠ x.b := by rintro rfl; rw [hF] at hb; cases hb
       simp [M', this]; exact hH.dis b o hb
     · rw [upd_eq] at hm; split at hm
       · cases hm
       · next e =>
         obtain ⟨y', hy', hr⟩ := hH.live m b hm
         rw [hy] at hy'; obtain rfl := Option.some.inj hy'
         have : y.b ≠ x.b := fun hb => e (hH.sep m n y x (by rw [hm]; simp) (by rw [hn]; simp) hy hx q0 h0 hb)
         rcases hr with ⟨h00, _⟩ | ⟨_, q1, _⟩
         · omega
         · simp [M', this, q1]
     · rw [upd_eq] at hm; split at hm
       · cases hm
       · obtain ⟨_, _, _, g1, g2, _⟩ := hH.fam m S es hm
         have : b ≠ x.b := fun e => g2 n x (by rw [hn]; simp) hx h0 (e ▸ hb)
         simp [M', this, (g1 b hb).1]
     · cases hv with
       | sl0 _ _ x' hx' hR aa => exact .d _ _ (.vec0 _ _ _ _)
       | sl _ _ _ x' hx' hlR hR hR0 =>
         rw [hx] at hx'; obtain rfl := Option.some.inj hx'
         subst g1
         have hget : ∀ i c, i < len → c < x.k → ∃ v, cur[i * x.k + c]? = some v ∧ DR M (f i c) v := fun i c hi hc => g4 i c (by omega) hc
         refine .d _ _ (.vec x.k len f x.b (0 * x.k) _ cur T (0, 0) (fun i c => (cur[i * x.k + c]?).getD undef) (by simp [M']) (by omega) (fun i c hi hc => ?_) (fun i c hi hc => ?_))
         · obtain ⟨v, v1, _⟩ := hget i c hi hc
           rw [Nat.zero_mul, Nat.zero_add, v1]; rfl
         · obtain ⟨v, v1, v2⟩ := hget i c hi hc
           simp only [v1, Option.getD_some]; exact v2.mono hle
   | _ => exact h4.elim
theorem cfreeze {C : Ctx} {c : Code} {Q : Exit → St → Prop} {t : Nat → SV} {h : Heap} {nx : Nat} (m j n len : Nat) {ty k L ty' k' : Nat} {f : Nat → Nat → D} {xs : List SV} (hm : h m = some (.cells ty' k' xs)) (hj : xs[j]? = some (.sl n 0 len)) (hn : h n = some (.rows ty k L f)) (hl : len ≤ L) (hne : Nat.beq m n = false)
   (kk : W C c Q ⟨t, upd (upd h n none) m (some (.cells ty' k' (xs.set j (.d (.vec k len f))))), nx⟩) : W C c Q ⟨t, h, nx⟩ := by
 intro M F pin ρ a w hsr
 have hmn : m ≠ n := fun e => by subst e; simp at hne
 obtain ⟨M', hle, hH, hv⟩ := freeze_all hsr.hr hn hl
 have hm' : upd h n none m = some (.cells ty' k' xs) := by rw [upd_other _ _ _ _ hmn]; exact hm
 -- the cell's own value is one that the block's name told before
 have hcell : ∀ x, ρ m = some x → ∃ cur, w.heap[x.b]? = some (.cells cur ty' (0, 0)) ∧ 0 < x.R ∧ x.k = k' ∧ cur.size = x.R * k' ∧ xs.length ≤ cur.size ∧ ∀ (i : Nat) (s : SV), xs[i]? = some s → ∃ v, cur[i]? = some v ∧ VR M ρ s v := fun x hx => hsr.hr.cells hm hx
 have hH2 : HR M' F ρ (upd (upd h n none) m (some (.cells ty' k' (xs.set j (.d (.vec k len f)))))) w := by
   obtain ⟨x, hx, hr⟩ := hH.live m _ hm'
   obtain ⟨cur, c1, c2, c3, c4, c5, c6⟩ := hcell x hx
   refine hH.put m x (by rw [hm']; simp) hx c2 _ (.cells cur ty' (0, 0)) c1 (fun b hb => rfl) ⟨rfl, rfl, c3, c4, by rw [List.length_set]; exact c5, fun i q hq => ?_⟩
   rw [List.getElem?_set] at hq
   split at hq
   · next e =>
     split at hq
     · cases hq; subst e
       obtain ⟨v, hv1, hv2⟩ := c6 j _ hj
       exact ⟨v, hv1, hv v hv2⟩
     · cases hq
   · obtain ⟨v, hv1, hv2⟩ := c6 i q hq
     exact ⟨v, hv1, hv2.mono hle (Names.le_refl _)⟩
 refine Code.wp_mono ?_ (kk M' F pin ρ a w ⟨⟨fun i => (hsr.tm i).mono hle (Names.le_refl _), hsr.sz, hsr.df, hH2, hsr.pn, hsr.pm, fun g ρ => (hsr.gl g ρ).mono hle (Names.le_refl _)⟩, hsr.fr⟩)
 rintro e a' w' ⟨M2, ρ2, σ2, h1, h2, h3, h4⟩
 exact ⟨M2, ρ2, σ2, Imm.le_trans hle h1, h2, h3, h4⟩
end Go.Proofs.YtalhangpahffeaaDoor.Nice
namespace Go.Proofs.YtalhangpahffeaaDoor.Nice
open Go
set_option linter.unusedVariables false
set_option linter.unusedSimpArgs false
structure KFind (P : Program) (kt : TypeId) (key : Value) (ks : List Value) (r : Option Nat) : Prop where
 chk : ∀ e w, (Instr.checkKey e 10000 kt key).run P w = .ok () w
 fnd : ∀ (ents : List MapEntry) w, ents.map (·.key) = ks → (Instr.findKey kt key ents).run P w = .ok (r.bind fun j => (ents[j]?).map fun e => (j, e.val)) w
 inn : ∀ j, r = some j → j < ks.length ∧ Instr.sameBits 10000 (ks.getD j key) key = true
def kfind (kind : TypeDesc) (key : Value) : List Value → Option (Option Nat)
 | [] => some none
 | k :: r => match Instr.sameNow kind key k with
   | some true => some (some 0)
   | some false => (kfind kind key r).map (·.map (· + 1))
   | none => none
theorem kfind_now {kind : TypeDesc} {key : Value} : ∀ (ents : List MapEntry) (i : Nat) (r : Option Nat), kfind kind key (ents.map (·.key)) = some r → Instr.findNow kind key ents i = some (r.bind fun j => (ents[j]?).map fun e => (i + j, e.val))
 | [], i, r, h => by simp [kfind] at h; subst h; rfl
 | y :: ents, i, r, h => by
   simp only [List.map_cons, kfind] at h
   simp only [Instr.findNow]
   cases hs : Instr.sameNow kind key y.key with
   | none => rw [hs] at h; cases h
   | some b => cases b with
     | true => rw [hs] at h; simp at h; subst h; simp
     | false =>
       rw [hs] at h
       simp only [Option.map_eq_some_iff] at h
       obtain ⟨r', h', rfl⟩ := h
       rw [kfind_now ents (i + 1) r' h']
       cases r' with
       | none => rfl
       | some j => simp only [Option.map_some, Option.bind_some, List.getElem?_cons_succ, show i + 1 + j = i + (j + 1) by omega]
theorem kfind_in {kind : TypeDesc} {key : Value} : ∀ (ks : List Value) (j : Nat), kfind kind key ks = some (some j) → j < ks.length ∧ Instr.sameBits 10000 (ks.getD j key) key = true
 | [], j, h => by simp [kfind] at h
 | k :: ks, j, h => by
   simp only [kfind] at h
   cases hs : Instr.sameNow kind key k with
   | none => rw [hs] at h; cases h
   | some b => cases b with
     | true =>
       rw [hs] at h; simp at h; subst h
       exact ⟨by simp, by simpa using sameNow_key hs⟩
     | false =>
       rw [hs] at h
       simp only [Option.map_eq_some_iff] at h
       obtain ⟨r', h', h2⟩ := h
       cases r' with
       | none => simp at h2
       | some j' =>
         simp at h2; subst h2
         obtain ⟨a, b⟩ := kfind_in ks j' h'
         exact ⟨by simpa using a, by simpa using b⟩
theorem kfind_ok {P : Program} {kt : TypeId} {kind : TypeDesc} {key : Value} {ks : List Value} {r : Option Nat} (hk : P.underlying kt = some kind) (hp : plainKey kind = true) (h : kfind kind key ks = some r) : KFind P kt key ks r := by
 refine ⟨fun e w => run_checkKey hk hp e 9999 key, fun ents w he => ?_, fun j hj => ?_⟩
 · subst he
   simp [Instr.findKey, run_underlying hk, kfind_now ents 0 r h]
 · subst hj; exact kfind_in ks j h
theorem HR.famObj {M F : Imm} {ρ : Names} {h : Heap} {w : World} (H : HR M F ρ h w) {n : Nat} {S : List Nat} {es : Fam} (hn : h n = some (.fam S es)) (hl : es.ly = none) {x : Own} (hx : ρ n = some x) :
   0 < x.R ∧ M x.b = none ∧ F x.b = none ∧ ∃ ents cl, w.heap[x.b]? = some (.map ents cl) ∧ ents.size = es.es.length ∧ ents.toList.map (·.key) = es.es.map (·.1) ∧ (∀ (j : Nat) (e : Value × SV × List InB), es.es[j]? = some e → ∃ y : MapEntry, ents[j]? = some y ∧ y.key = e.1) ∧ ∀ p, p ∈ es.op → ∃ y : MapEntry, ents[p.1]? = some y ∧ VR M ρ p.2 y.val := by
 obtain ⟨x', hx', hr⟩ := H.live n _ hn
 rw [hx] at hx'; obtain rfl := Option.some.inj hx'
 rcases hr with ⟨_, hg⟩ | ⟨h0, h1, h2, o, h3, h4⟩
 · simp [Blk.ghost] at hg
 · cases o with
   | map ents cl =>
     obtain ⟨_, ⟨g1, _⟩, g2', g3⟩ := h4
     have g2 : ∀ (j : Nat) (e : Value × SV × List InB), es.es[j]? = some e → ∃ y : MapEntry, ents[j]? = some y ∧ y.key = e.1 := fun j e he => let ⟨y, y1, y2, _⟩ := g2' j e he; ⟨y, y1, y2⟩
     refine ⟨h0, h1, h2, ents, cl, h3, g1, ?_, g2, g3⟩
     apply List.ext_getElem?
     intro j
     rw [List.getElem?_map, List.getElem?_map, Array.getElem?_toList]
     cases he : es.es[j]? with
     | none =>
       have : es.es.length ≤ j := List.getElem?_eq_none_iff.1 he
       rw [Array.getElem?_eq_none (by omega)]; rfl
     | some e =>
       obtain ⟨y, y1, y2⟩ := g2 j e he
       rw [y1]; simp [y2]
   | cells cur T fz => rw [h4.1.1] at hl; cases hl
   | _ => exact h4.elim
theorem HR.famBR {M F : Imm} {ρ : Names} {h : Heap} {w : World} (H : HR M F ρ h w) {n : Nat} {S : List Nat} {es : Fam} (hn : h n = some (.fam S es)) {x : Own} (hx : ρ n = some x) :
   M x.b = none ∧ F x.b = none ∧ ∃ o, w.heap[x.b]? = some o ∧ BR M ρ x (.fam S es) o := by
 obtain ⟨x', hx', hr⟩ := H.live n _ hn
 rw [hx] at hx'; obtain rfl := Option.some.inj hx'
 rcases hr with ⟨_, hg⟩ | ⟨h0, h1, h2, o, h3, h4⟩
 · simp [Blk.ghost] at hg
 · exact ⟨h1, h2, o, h3, h4⟩
theorem HR.famBorn {M F : Imm} {ρ : Names} {h : Heap} {w : World} (H : HR M F ρ h w) {n : Nat} {S : List Nat} {es : Fam} (hn : h n = some (.fam S es)) {x : Own} (hx : ρ n = some x) {ents : Array MapEntry} {cl : Nat} (ho : w.heap[x.b]? = some (.map ents cl)) :
   cl = ents.size ∧ ∀ (j : Nat) (e : Value × SV × List InB), es.es[j]? = some e → ∃ y : MapEntry, ents[j]? = some y ∧ y.key = e.1 ∧ y.born = j := by
 obtain ⟨x', hx', hr⟩ := H.live n _ hn
 rw [hx] at hx'; obtain rfl := Option.some.inj hx'
 rcases hr with ⟨_, hg⟩ | ⟨h0, h1, h2, o, h3, h4⟩
 · simp [Blk.ghost] at hg
 · rw [ho] at h3; cases h3
   obtain ⟨_, ⟨_, g1⟩, g2, _⟩ := h4
   exact ⟨g1, g2⟩
theorem lookF_ok {C : Ctx} {o : Oper} {nm : Nat} {v : Operand → SV} {t kt el : TypeId} {y z : Operand} {ok : Bool} (ho : o.op = .lookup t y z ok) (ht : C.P.underlying t = some (.map kt el))
   {n : Nat} {S : List Nat} {es : Fam} (hl : es.ly = none) (hy : v y = .map n) {key : Value} (hz : ∀ M ρ u, VR M ρ (v z) u → u = key) {r : Option Nat} (hr : KFind C.P kt key (es.es.map (·.1)) r) {u : SV}
   (hu : (r = none ∧ ∃ zl, (C.P.info? el).bind (·.zero) = some zl ∧ zl.oneCell' = true ∧ u = toSV zl) ∨ ∃ j, r = some j ∧ (j, u) ∈ es.op) :
   OpOK C o nm v [(n, .fam S es)] (fun x w => x = foundS ok u r.isSome ∧ w = []) := by
 refine ok_pure fun M F ρ a h w hv hH hbs => ?_
 have e1 := hv y (by rw [ho]; exact mem_ops2 (.inl rfl)); rw [hy] at e1
 have e2 := hz _ _ _ (hv z (by rw [ho]; exact mem_ops2 (.inr rfl)))
 generalize hq : a.eval y = q at e1
 cases e1 with
 | map _ x hx =>
   obtain ⟨_, _, _, ents, cl, k1, k2, k3, _, k4⟩ := hH.famObj (hbs _ (List.mem_singleton.2 rfl)) hl hx
   have hg := run_getObj_map (P := C.P) k1
   have hf := hr.fnd ents.toList w k3
   have hc := hr.chk ents.isEmpty w
   rcases hu with ⟨rfl, zl, hzl, h1, rfl⟩ | ⟨j, rfl, hj⟩
   · obtain ⟨i, hi, hzv⟩ := Option.bind_eq_some_iff.1 hzl
     refine ⟨if ok then .tuple #[zl, .bool false] else zl, ?_, ?_⟩
     · have : (Instr.lookup t (.map (some x.b)) key ok).run C.P w = .ok (if ok then .tuple #[zl, .bool false] else zl) w := by
         cases ok <;> simp [Instr.lookup, run_underlying ht, hg, hc, hf, zeroValue, typeInfo, hi, hzv]
       simp only [execOp, ho, hq, e2, Sem.run_bind, this, Result.andThen_ok, Sem.run_pure]
     · have hdr : VR M ρ (toSV zl) zl := toSV_ok h1
       cases ok with
       | false => exact hdr
       | true => exact VR.tup2 hdr (.d _ _ (.val _ rfl))
   · obtain ⟨y', y1, y2⟩ := k4 _ hj
     refine ⟨if ok then .tuple #[y'.val, .bool true] else y'.val, ?_, ?_⟩
     · have : (Instr.lookup t (.map (some x.b)) key ok).run C.P w = .ok (if ok then .tuple #[y'.val, .bool true] else y'.val) w := by
         have hf2 : (Instr.findKey kt key ents.toList).run C.P w = .ok (some (j, y'.val)) w := by
           rw [hf]; simp [y1]
         cases ok <;> simp [Instr.lookup, run_underlying ht, hg, hc, hf2]
       simp only [execOp, ho, hq, e2, Sem.run_bind, this, Result.andThen_ok, Sem.run_pure]
     · have hdr : VR M ρ u y'.val := y2
       cases ok with
       | false => exact hdr
       | true => exact VR.tup2 hdr (.d _ _ (.val _ rfl))
theorem HR.putFam {M F : Imm} {ρ : Names} {h : Heap} {w w' : World} (H : HR M F ρ h w) {n : Nat} {x : Own} {S : List Nat} {es es2 : Fam} (hn : h n = some (.fam S es)) (hl : es.ly = none) (hl2 : es2.ly = none) (hx : ρ n = some x) {ents ents2 : Array MapEntry} {cl cl2 : Nat}
   (ho : w.heap[x.b]? = some (.map ents cl)) (hb : w'.heap[x.b]? = some (.map ents2 cl2)) (hw : ∀ b, b ≠ x.b → w'.heap[b]? = w.heap[b]?) (hsz : w.heap.size ≤ w'.heap.size) (hB : BR M ρ x (.fam S es2) (.map ents2 cl2))
   (hsh : ∀ (j : Nat) (k : Value) (s : SV) (bl : List InB), es2.at j k s bl → ∃ k', es.at j k' s bl ∧ ∀ y, ents[j]? = some y → ∃ y2, ents2[j]? = some y2 ∧ y2.val = y.val) : HR M F ρ (upd h n (some (.fam S es2))) w' := by
 obtain ⟨h0, hM, hF, _⟩ := H.famObj hn hl hx
 have ne : ∀ m, upd h n (some (.fam S es2)) m ≠ none → h m ≠ none := by
   intro m hm e
   rw [upd_eq] at hm; split at hm
   · next e2 => subst e2; rw [hn] at e; cases e
   · exact hm e
 refine ⟨fun b o hb' => ?_, fun b o hb' => ?_, H.dis, fun m b hm => ?_, fun p q y z hp hq => H.sep p q y z (ne p hp) (ne q hq), fun m S' es' hm => ?_⟩
 · rw [hw b (by rintro rfl; rw [hM] at hb'; cases hb')]; exact H.imm b o hb'
 · rw [hw b (by rintro rfl; rw [hF] at hb'; cases hb')]; exact H.frm b o hb'
 · rw [upd_eq] at hm
   split at hm
   · next e => subst e; cases hm; exact ⟨x, hx, .inr ⟨h0, hM, hF, _, hb, hB⟩⟩
   · next e =>
     obtain ⟨y, hy, hr⟩ := H.live m b hm
     refine ⟨y, hy, ?_⟩
     rcases hr with hr | ⟨g0, g1, g2, o, g3, g4⟩
     · exact .inl hr
     · refine .inr ⟨g0, g1, g2, o, ?_, g4⟩
       rw [hw y.b ?_]; exact g3
       intro hby
       exact e (H.sep m n y x (by rw [hm]; simp) (by rw [hn]; simp) hy hx g0 h0 hby)
 · obtain ⟨x', hx', k0, k1, k2, k3, k4⟩ := H.fam n S es hn
   rw [hx] at hx'; obtain rfl := Option.some.inj hx'
   rw [upd_eq] at hm
   split at hm
   · next e =>
     subst e; cases hm
     refine ⟨x, hx, h0, fun b hb' => ⟨(k1 b hb').1, (k1 b hb').2.1, by have := (k1 b hb').2.2; omega⟩, fun p y hp hy => k2 p y (ne p hp) hy, fun p S2 e2 hp hq => ?_, ?_⟩
     · rw [upd_other _ _ _ _ hp] at hq
       exact k3 p S2 e2 hp hq
     · obtain ⟨ρs, r1, r2⟩ := k4
       refine ⟨ρs, fun j k s bl hj => ?_, ?_⟩
       · obtain ⟨k', e1, e2⟩ := hsh j k s bl hj
         obtain ⟨⟨en, c, f1, f2, f3⟩, f4⟩ := r1 j k' s bl e1
         rw [ho] at f1; cases f1
         rw [hl] at f2
         obtain ⟨y, f2', rfl⟩ := entry_map.1 f2
         obtain ⟨y2, f5, f6⟩ := e2 y f2'
         refine ⟨⟨_, y2.val, hb, by rw [hl2]; exact entry_map.2 ⟨y2, f5, rfl⟩, by rw [f6]; exact f3⟩, fun i c hc => ?_⟩
         obtain ⟨z, z1, z2⟩ := f4 i c hc
         refine ⟨z, z1, ?_⟩
         rcases z2 with z2 | ⟨z2, z3, o, z4, z5⟩
         · exact .inl z2
         · refine .inr ⟨z2, z3, o, ?_, z5⟩
           rw [hw z.b ?_]; exact z4
           intro e; exact k2 m x (by rw [hn]; simp) hx h0 (e ▸ z3)
       · intro j j' k k' s s' bl bl' i i' c c' z z' hj hj'
         obtain ⟨a1, b1, _⟩ := hsh j k s bl hj
         obtain ⟨a2, b2, _⟩ := hsh j' k' s' bl' hj'
         exact r2 j j' a1 a2 s s' bl bl' i i' c c' z z' b1 b2
   · next e =>
     obtain ⟨y, hy, g0, g1, g2, g3, g4⟩ := H.fam m S' es' hm
     refine ⟨y, hy, g0, fun b hb' => ⟨(g1 b hb').1, (g1 b hb').2.1, by have := (g1 b hb').2.2; omega⟩, fun p z hp hz => g2 p z (ne p hp) hz, fun p S2 e2 hp hq => ?_, g4.last (Imm.le_refl _) (fun c hc => hw c ?_)⟩
     · rw [upd_eq] at hq
       split at hq
       · next e3 => subst e3; cases hq; exact g3 p S es hp hn
       · exact g3 p S2 e2 hp hq
     · rintro rfl
       rcases hc with hc | hc
       · exact e (H.sep m n y x (by rw [hm]; simp) (by rw [hn]; simp) hy hx g0 h0 hc.symm)
       · exact g2 n x (by rw [hn]; simp) hx h0 hc
def fset (key : Value) (u : SV) (r : Option Nat) (es : List (Value × SV × List InB)) : Fam := match r with
 | none => ⟨es ++ [(key, .any, [])], [(es.length, u)], none⟩
 | some j => ⟨es.set j (key, .any, []), [(j, u)], none⟩
theorem updF_ok {C : Ctx} {o : Oper} {nm : Nat} {v : Operand → SV} {t kt el : TypeId} {y z q : Operand} (ho : o.op = .mapUpdate t y z q) (ht : C.P.underlying t = some (.map kt el))
   {n : Nat} {S : List Nat} {es : Fam} (hl : es.ly = none) (hy : v y = .map n) {key : Value} (hz : ∀ M ρ u, VR M ρ (v z) u → u = key) {u : SV} (hq : v q = u) {r : Option Nat} (hr : KFind C.P kt key (es.es.map (·.1)) r) (hop : ∀ p, p ∈ es.op → r = some p.1) :
   OpOK C o nm v [(n, .fam S es)] (fun x w => x = .any ∧ w = [(n, some (.fam S (fset key u r es.es)))]) := by
 have m3 : ∀ x, x = y ∨ x = z ∨ x = q → x ∈ o.op.operands := by intro x hx; rw [ho]; rcases hx with rfl | rfl | rfl <;> simp [Op.operands]
 refine ok_skip fun M F ρ a h w hv hH hbs hfr => ?_
 have e1 := hv y (m3 y (.inl rfl)); rw [hy] at e1
 have e2 := hz _ _ _ (hv z (m3 z (.inr (.inl rfl))))
 have e3 := hv q (m3 q (.inr (.inr rfl))); rw [hq] at e3
 have hn := hbs _ (List.mem_singleton.2 rfl)
 have hn : h n = some (.fam S es) := hn
 generalize hqy : a.eval y = qy at e1
 cases e1 with
 | map _ x hx =>
   obtain ⟨h0, hM, hF, ents, cl, k1, k2, k3, _, k5⟩ := hH.famObj hn hl hx
   obtain ⟨hcl, k4⟩ := hH.famBorn hn hx k1
   have hb : x.b < w.heap.size := (Array.getElem?_eq_some_iff.1 k1).1
   have hg := run_getObj_map (P := C.P) k1
   have hc := hr.chk false w
   have hf := hr.fnd ents.toList w k3
   cases r with
   | none =>
     have hf : (Instr.findKey kt key ents.toList).run C.P w = .ok none w := hf
     refine ⟨ρ, { w with heap := w.heap.setIfInBounds x.b (.map (ents.push { key := key, val := a.eval q, born := cl }) (cl + 1)) }, Names.le_refl _, fun _ _ => rfl, by simp [execOp, ho, hqy, e2, Instr.mapUpdate, run_underlying ht, hg, hc, hf, run_setObj_map k1], ?_, ⟨rfl, rfl, rfl, by simp⟩⟩
     refine HR.putFam (w' := { w with heap := w.heap.setIfInBounds x.b (.map (ents.push { key := key, val := a.eval q, born := cl }) (cl + 1)) }) (ents2 := ents.push { key := key, val := a.eval q, born := cl }) (cl2 := cl + 1) hH hn hl rfl hx k1 (by simp [hb]) (fun b hb' => by simp [Array.getElem?_setIfInBounds_ne (Ne.symm hb')]) (by simp) ⟨rfl, ⟨by simp [fset, k2], by simp [hcl]⟩, fun j e he => ?_, fun p hp => ?_⟩ (fun j k s bl hj => ?_)
     · simp only [fset] at he
       by_cases hj : j < es.es.length
       · rw [List.getElem?_append_left hj] at he
         obtain ⟨y, a1, a2⟩ := k4 j e he
         exact ⟨y, by rw [Array.getElem?_push, if_neg (by omega)]; exact a1, a2⟩
       · rw [List.getElem?_append_right (by omega)] at he
         have hje : j = es.es.length := by
           have := (List.getElem?_eq_some_iff.1 he).1
           simp at this; omega
         subst hje
         simp at he; subst he
         exact ⟨⟨key, a.eval q, cl⟩, by rw [Array.getElem?_push, if_pos k2.symm], rfl, by rw [hcl, k2]⟩
     · simp only [fset, List.mem_singleton] at hp
       subst hp
       exact ⟨⟨key, a.eval q, cl⟩, by rw [Array.getElem?_push, if_pos k2.symm], e3⟩
     · obtain ⟨hj, hjo⟩ := hj
       simp only [fset] at hj hjo
       have hne : es.es.length ≠ j := hjo _ (List.mem_singleton.2 rfl)
       have hjl : j < es.es.length := by
         have := (List.getElem?_eq_some_iff.1 hj).1
         simp at this; omega
       rw [List.getElem?_append_left hjl] at hj
       exact ⟨k, ⟨hj, fun p hp => by have := hop p hp; cases this⟩, fun y hy => ⟨y, by rw [Array.getElem?_push, if_neg (by omega)]; exact hy, rfl⟩⟩
   | some j0 =>
     obtain ⟨hj0, hsb⟩ := hr.inn j0 rfl
     rw [List.length_map] at hj0
     obtain ⟨y0, y1, y2, y3⟩ := k4 j0 _ (List.getElem?_eq_getElem hj0)
     have hf : (Instr.findKey kt key ents.toList).run C.P w = .ok (some (j0, y0.val)) w := by rw [hf]; simp [y1]
     have hkey : ((ents[j0]?).map (·.key)).getD key = y0.key := by rw [y1]; rfl
     have hks : (es.es.map (·.1)).getD j0 key = y0.key := by
       rw [List.getD_eq_getElem?_getD, List.getElem?_map, List.getElem?_eq_getElem hj0, y2]; rfl
     have hstay : (Instr.keyThatStays y0.key key).run C.P w = .ok key w := by
       rw [hks] at hsb
       simp [Instr.keyThatStays, hsb]
     refine ⟨ρ, { w with heap := w.heap.setIfInBounds x.b (.map (ents.modify j0 fun e => { e with key := key, val := a.eval q }) cl) }, Names.le_refl _, fun _ _ => rfl, ?_, ?_, ⟨rfl, rfl, rfl, by simp⟩⟩
     · simp only [execOp, ho, hqy, e2, Instr.mapUpdate, Sem.run_bind, run_underlying ht, hg, hc, hf, Result.andThen_ok, Sem.run_pure, hkey, hstay, run_setObj_map k1]
     · refine HR.putFam (w' := { w with heap := w.heap.setIfInBounds x.b (.map (ents.modify j0 fun e => { e with key := key, val := a.eval q }) cl) }) (ents2 := ents.modify j0 fun e => { e with key := key, val := a.eval q }) (cl2 := cl) hH hn hl rfl hx k1 (by simp [hb]) (fun b hb' => by simp [Array.getElem?_setIfInBounds_ne (Ne.symm hb')]) (by simp) ⟨rfl, ⟨by simp [fset, k2], by simp [hcl]⟩, fun i e he => ?_, fun p hp => ?_⟩ (fun i k s bl hi => ?_)
       · simp only [fset] at he
         rw [List.getElem?_set] at he
         split at he
         · next hi =>
           subst hi
           cases he
           exact ⟨{ y0 with key := key, val := a.eval q }, by rw [Array.getElem?_modify, if_pos rfl, y1]; rfl, rfl, y3⟩
         · next hi =>
           obtain ⟨y', b1, b2⟩ := k4 i e he
           exact ⟨y', by rw [Array.getElem?_modify, if_neg hi]; exact b1, b2⟩
       · simp only [fset, List.mem_singleton] at hp
         subst hp
         exact ⟨{ y0 with key := key, val := a.eval q }, by rw [Array.getElem?_modify, if_pos rfl, y1]; rfl, e3⟩
       · obtain ⟨hi, hio⟩ := hi
         simp only [fset] at hi hio
         have hne : j0 ≠ i := hio _ (List.mem_singleton.2 rfl)
         rw [List.getElem?_set_ne hne] at hi
         exact ⟨k, ⟨hi, fun p hp => by have := hop p hp; cases this; exact hne⟩, fun y hy => ⟨y, by rw [Array.getElem?_modify, if_neg hne]; exact hy, rfl⟩⟩
section
variable {C : Ctx} {ops : List Oper} {i : Nat} {o : Oper} {l : List Oper} {t : Nat → SV} {h h' : Heap} {nx : Nat} {K : St → Prop} {acc : List FP} {ty kt el : TypeId} {y z q : Operand} {ok : Bool} {n : Nat} {S : List Nat} {es : Fam} {key : Value} {u u' : SV}
theorem sLookF (r : Option Nat) (u : SV) (hr : KFind C.P kt key (es.es.map (·.1)) r) (hu : (r = none ∧ ∃ zl, (C.P.info? el).bind (·.zero) = some zl ∧ zl.oneCell' = true ∧ u = toSV zl) ∨ ∃ j, r = some j ∧ (j, u) ∈ es.op) (d nm i' : Nat) (hi : i + 1 = i') (hnm : nx + 8 * i = nm) (hg : o.guard = none) (hdst : o.dst = some d) (hd : Nat.blt d C.sz = true) (ho : o.op = .lookup ty y z ok)
   (ht : C.P.underlying ty = some (.map kt el)) (hy : opv C t y = .map n) (hz : ∀ M ρ u, VR M ρ (opv C t z) u → u = key) (hn : h n = some (.fam S es)) (hh : (foundS ok u r.isSome).hd = some u')
   (k : wops C ops i' l ⟨upd t d u', h, nx⟩ none K) (hl : es.ly = none := by rfl) : wops C ops i (o :: l) ⟨t, h, nx⟩ none K := by
 subst hi; subst hnm
 refine st_ok (σ := ⟨t, h, nx⟩) hg (by unfold dstOK; rw [hdst]; exact hd) (lookF_ok ho ht hl hy hz hr hu) (fun p hp => by rw [List.mem_singleton.1 hp]; exact hn) rfl ?_
 unfold St.app; rw [hdst, SV.hd_eq hh]; exact k
theorem dLookF (r : Option Nat) (u : SV) (hr : KFind C.P kt key (es.es.map (·.1)) r) (hu : (r = none ∧ ∃ zl, (C.P.info? el).bind (·.zero) = some zl ∧ zl.oneCell' = true ∧ u = toSV zl) ∨ ∃ j, r = some j ∧ (j, u) ∈ es.op) (d nm i' : Nat) (hi : i + 1 = i') (hnm : nx + 8 * i = nm) (hg : o.guard = none) (hdst : o.dst = some d) (hd : Nat.blt d C.sz = true) (ho : o.op = .lookup ty y z ok)
   (ht : C.P.underlying ty = some (.map kt el)) (hy : opv C t y = .map n) (hz : ∀ M ρ u, VR M ρ (opv C t z) u → u = key) (hn : h n = some (.fam S es)) (hh : (foundS ok u r.isSome).hd = some u')
   (k : wops C ops i' l ⟨upd t d u', h, nx⟩ (some (acc ++ [([n], [])])) K) (hl : es.ly = none := by rfl) : wops C ops i (o :: l) ⟨t, h, nx⟩ (some acc) K := by
 subst hi; subst hnm
 refine st_ok (σ := ⟨t, h, nx⟩) hg (by unfold dstOK; rw [hdst]; exact hd) (lookF_ok ho ht hl hy hz hr hu) (fun p hp => by rw [List.mem_singleton.1 hp]; exact hn) rfl ?_
 unfold St.app; rw [hdst, SV.hd_eq hh]; exact k
theorem sMapF (r : Option Nat) (u : SV) (hr : KFind C.P kt key (es.es.map (·.1)) r) (hop : ∀ p, p ∈ es.op → r = some p.1) (nm i' : Nat) (hi : i + 1 = i') (hnm : nx + 8 * i = nm) (hg : o.guard = none) (hdst : o.dst = none) (ho : o.op = .mapUpdate ty y z q)
   (ht : C.P.underlying ty = some (.map kt el)) (hy : opv C t y = .map n) (hz : ∀ M ρ u, VR M ρ (opv C t z) u → u = key) (hn : h n = some (.fam S es)) (hq : (opv C t q).hd = some u)
   (k : wops C ops i' l ⟨t, upd h n (some (.fam S (fset key u r es.es))), nx⟩ none K) (hl : es.ly = none := by rfl) : wops C ops i (o :: l) ⟨t, h, nx⟩ none K := by
 subst hi; subst hnm
 refine st_ok (σ := ⟨t, h, nx⟩) hg (by unfold dstOK; rw [hdst]) (updF_ok ho ht hl hy hz (SV.hd_eq hq) hr hop) (fun p hp => by rw [List.mem_singleton.1 hp]; exact hn) (by simp [keysIn]) ?_
 unfold St.app; rw [hdst]; exact k
theorem dMapF (r : Option Nat) (u : SV) (hr : KFind C.P kt key (es.es.map (·.1)) r) (hop : ∀ p, p ∈ es.op → r = some p.1) (nm i' : Nat) (hi : i + 1 = i') (hnm : nx + 8 * i = nm) (hg : o.guard = none) (hdst : o.dst = none) (ho : o.op = .mapUpdate ty y z q)
   (ht : C.P.underlying ty = some (.map kt el)) (hy : opv C t y = .map n) (hz : ∀ M ρ u, VR M ρ (opv C t z) u → u = key) (hn : h n = some (.fam S es)) (hq : (opv C t q).hd = some u)
   (k : wops C ops i' l ⟨t, upd h n (some (.fam S (fset key u r es.es))), nx⟩ (some (acc ++ [([n], [n])])) K) (hl : es.ly = none := by rfl) : wops C ops i (o :: l) ⟨t, h, nx⟩ (some acc) K := by
 subst hi; subst hnm
 refine st_ok (σ := ⟨t, h, nx⟩) hg (by unfold dstOK; rw [hdst]) (updF_ok ho ht hl hy hz (SV.hd_eq hq) hr hop) (fun p hp => by rw [List.mem_singleton.1 hp]; exact hn) (by simp [keysIn]) ?_
 unfold St.app; rw [hdst]; exact k
end
end Go.Proofs.YtalhangpahffeaaDoor.Nice
namespace Go.Proofs.YtalhangpahffeaaDoor.Nice
open Go
set_option linter.unusedVariables false
set_option linter.unusedSimpArgs false
theorem tofam {C : Ctx} {c : Code} {Q : Exit → St → Prop} {t : Nat → SV} {h : Heap} {nx : Nat} (n : Nat) (hn : h n = some (.map [])) (kk : W C c Q ⟨t, upd h n (some (.fam [] ⟨[], [], none⟩)), nx⟩) : W C c Q ⟨t, h, nx⟩ := by
 intro M F pin ρ a w hsr
 have hH : HR M F ρ h w := hsr.hr
 have ne : ∀ m, upd h n (some (.fam [] ⟨[], [], none⟩)) m ≠ none → h m ≠ none := by
   intro m hm e
   rw [upd_eq] at hm; split at hm
   · next e2 => subst e2; rw [hn] at e; cases e
   · exact hm e
 refine kk M F pin ρ a w ⟨⟨hsr.tm, hsr.sz, hsr.df, ⟨hH.imm, hH.frm, hH.dis, fun m b hm => ?_, fun p q y z hp hq => hH.sep p q y z (ne p hp) (ne q hq), fun m S es hm => ?_⟩, hsr.pn, hsr.pm, hsr.gl⟩, hsr.fr⟩
 · replace hm : upd h n (some (.fam [] ⟨[], [], none⟩)) m = some b := hm
   rw [upd_eq] at hm
   split at hm
   · next e =>
     subst e; cases hm
     obtain ⟨x, hx, hr⟩ := hH.live m _ hn
     refine ⟨x, hx, ?_⟩
     rcases hr with ⟨_, hg⟩ | ⟨h0, h1, h2, o, h3, h4⟩
     · simp [Blk.ghost] at hg
     · refine .inr ⟨h0, h1, h2, o, h3, ?_⟩
       cases o with
       | map ents cl => exact ⟨rfl, h4.1, fun j e he => by simp at he, fun p hp => by cases hp⟩
       | _ => exact h4.elim
   · exact hH.live m b hm
 · replace hm : upd h n (some (.fam [] ⟨[], [], none⟩)) m = some (.fam S es) := hm
   rw [upd_eq] at hm
   split at hm
   · next e =>
     subst e; cases hm
     obtain ⟨x, hx, hr⟩ := hH.live m _ hn
     rcases hr with ⟨_, hg⟩ | ⟨h0, _⟩
     · simp [Blk.ghost] at hg
     · exact ⟨x, hx, h0, fun b hb => (by cases hb), fun _ _ _ _ _ hb => (by cases hb), fun _ _ _ _ _ b hb => (by cases hb), fun _ => fun _ => none, fun j k s bl hj => by have := hj.1; simp at this, fun j j' k k' s s' bl bl' i i' c c' z z' hj => by have := hj.1; simp at this⟩
   · next e =>
     obtain ⟨x, hx, g0, g1, g2, g3, g4⟩ := hH.fam m S es hm
     refine ⟨x, hx, g0, g1, fun p y hp => g2 p y (ne p hp), fun p S2 es2 hp hq b hb => ?_, g4⟩
     replace hq : upd h n (some (.fam [] ⟨[], [], none⟩)) p = some (.fam S2 es2) := hq
     rw [upd_eq] at hq
     split at hq
     · cases hq; simp
     · exact g3 p S2 es2 hp hq b hb
theorem bl_get {bl : List InB} {π : List Nat} {i : Nat} {c : InB} (h : bl[i]? = some c) : (bl.map fun c => some c.blk)[i]? = some (some c.blk) := by
 rw [List.getElem?_map, h]; rfl
def inUnder (p : Nat) (bl : List InB) : Bool := bl.all fun c => c.blk.under p
theorem famOpen {C : Ctx} {c : Code} {Q : Exit → St → Prop} {t : Nat → SV} {h : Heap} {nx : Nat} (n j : Nat) {S : List Nat} {es : List (Value × SV × List InB)} {ly : Option (TypeId × Nat)} {k : Value} {s : SV} {bl : List InB} (hn : h n = some (.fam S ⟨es, [], ly⟩)) (hj : es[j]? = some (k, s, bl)) (hne : Nat.blt n nx = true)
   (side : (Nat.ble bl.length 8 && (s.under bl.length && inUnder bl.length bl)) = true)
   (kk : ∀ S', W C c Q ⟨t, wrH (upd h n (some (.fam S' ⟨es, [(j, ren (newNames nx bl.length) s)], ly⟩))) (wrOf (newNames nx bl.length) (newNames nx bl.length) (bl.map fun c => some c.blk)), nx + 8⟩) : W C c Q ⟨t, h, nx⟩ := by
 intro M F pin ρ a w hsr
 have hH : HR M F ρ h w := hsr.hr
 simp only [Bool.and_eq_true] at side
 obtain ⟨s1, s2, s3⟩ := side
 have s1 := Nat.le_of_ble_eq_true s1
 have hnlt : n < nx := by simpa using hne
 generalize hp : bl.length = p at s1 s2 s3 kk
 obtain ⟨x, hx, g0, g1, g2, g3, ρs, r1, r2⟩ := hH.fam n S _ hn
 obtain ⟨hMx, hFx, ob, o1, oB⟩ := hH.famBR hn hx
 have haj : (⟨es, [], ly⟩ : Fam).at j k s bl := ⟨hj, fun p hp => by cases hp⟩
 obtain ⟨⟨ob', y, f1, f2, f3⟩, f4⟩ := r1 j k s bl haj
 rw [o1] at f1; cases f1
 -- the opened blocks
 let isO : Nat → Prop := fun b => ∃ i c z, bl[i]? = some c ∧ ρs j i = some z ∧ 0 < z.R ∧ z.b = b
 have dec : ∀ b, Decidable (isO b) := fun b => Classical.propDecidable _
 let S' := S.filter fun b => !(@decide (isO b) (dec b))
 have hS' : ∀ b, b ∈ S' ↔ b ∈ S ∧ ¬ isO b := by
   intro b
   simp only [S', List.mem_filter, Bool.not_eq_true', decide_eq_false_iff_not]
 let ρ' : Names := fun m => if nx ≤ m ∧ m < nx + p then ρs j (m - nx) else ρ m
 have hρ' : ∀ m, ρ' m = if nx ≤ m ∧ m < nx + p then ρs j (m - nx) else ρ m := fun m => rfl
 have hle : ρ.le ρ' := by
   intro m z hz
   rw [hρ', if_neg]
   · exact hz
   · rintro ⟨h1, _⟩
     rw [hsr.fr m h1] at hz; cases hz
 have hπ : ∀ i, i < p → ρ' ((newNames nx p).getD i 0) = ρs j i := by
   intro i hi
   rw [List.getD_eq_getElem?_getD, newNames_get p nx i hi]
   show ρ' (nx + i) = _
   rw [hρ', if_pos ⟨by omega, by omega⟩]; congr 1; omega
 have hpl : (newNames nx p).length = (bl.map fun c => some c.blk).length := by rw [newNames_length, List.length_map, hp]
 have hnd : ∀ i i' m : Nat, (newNames nx p)[i]? = some m → (newNames nx p)[i']? = some m → i = i' := by
   intro i i' m h1 h2
   have a1 : i < p := by have := (List.getElem?_eq_some_iff.1 h1).1; rw [newNames_length] at this; exact this
   have a2 : i' < p := by have := (List.getElem?_eq_some_iff.1 h2).1; rw [newNames_length] at this; exact this
   rw [newNames_get p nx i a1] at h1; rw [newNames_get p nx i' a2] at h2
   have := Option.some.inj h1; have := Option.some.inj h2; omega
 let es' : Fam := ⟨es, [(j, ren (newNames nx p) s)], ly⟩
 obtain ⟨hwr1, hwr2⟩ := wrH_wrOf (π := newNames nx p) (newNames nx p) (bl.map fun c => some c.blk) (upd h n (some (.fam S' es'))) hpl hnd
 have mem : ∀ m, m ∈ newNames nx p ↔ nx ≤ m ∧ m < nx + p := by
   intro m
   constructor
   · intro hm
     obtain ⟨i, hi⟩ := List.mem_iff_getElem?.1 hm
     have a1 : i < p := by have := (List.getElem?_eq_some_iff.1 hi).1; rw [newNames_length] at this; exact this
     rw [newNames_get p nx i a1] at hi
     have := Option.some.inj hi; omega
   · rintro ⟨h1, h2⟩
     refine List.mem_iff_getElem?.2 ⟨m - nx, ?_⟩
     rw [newNames_get p nx _ (by omega)]; congr 1; omega
 -- what stands at a name
 have new : ∀ m, nx ≤ m ∧ m < nx + p → ∃ i c z, m = nx + i ∧ i < p ∧ bl[i]? = some c ∧ ρs j i = some z ∧ ρ' m = some z ∧ wrH (upd h n (some (.fam S' es'))) (wrOf (newNames nx p) (newNames nx p) (bl.map fun c => some c.blk)) m = some (renB (newNames nx p) c.blk) ∧
     ((z.R = 0 ∧ c.blk.ghost = true) ∨ (0 < z.R ∧ z.b ∈ S ∧ ∃ o, w.heap[z.b]? = some o ∧ BR M (ρs j) z c.blk o)) := by
   rintro m ⟨h1, h2⟩
   have hi : m - nx < bl.length := by omega
   obtain ⟨z, z1, z2⟩ := f4 (m - nx) _ (List.getElem?_eq_getElem hi)
   refine ⟨m - nx, _, z, by omega, by omega, List.getElem?_eq_getElem hi, z1, by rw [hρ', if_pos ⟨h1, h2⟩]; exact z1, ?_, z2⟩
   have := hwr1 (m - nx) m _ (by rw [newNames_get p nx _ (by omega)]; congr 1; omega) (bl_get (π := []) (List.getElem?_eq_getElem hi))
   rw [this]; rfl
 have old : ∀ m, ¬ (nx ≤ m ∧ m < nx + p) → wrH (upd h n (some (.fam S' es'))) (wrOf (newNames nx p) (newNames nx p) (bl.map fun c => some c.blk)) m = (if m = n then some (.fam S' es') else h m) ∧ ρ' m = ρ m := by
   intro m hm
   rw [hwr2 m (fun e => hm ((mem m).1 e)), upd_eq]
   exact ⟨rfl, by rw [hρ', if_neg hm]⟩
 have nold : ∀ m, ¬ (nx ≤ m ∧ m < nx + p) → wrH (upd h n (some (.fam S' es'))) (wrOf (newNames nx p) (newNames nx p) (bl.map fun c => some c.blk)) m ≠ none → h m ≠ none := by
   intro m hm hne e
   rw [(old m hm).1] at hne
   split at hne
   · next e2 => subst e2; rw [hn] at e; cases e
   · exact hne e
 refine kk S' M F pin ρ' a w ⟨⟨fun q => (hsr.tm q).mono (Imm.le_refl _) hle, hsr.sz, hsr.df, ⟨hH.imm, hH.frm, hH.dis, fun m b hm => ?_, fun q q' z z' hq hq' hz hz' h0z h0z' hb => ?_, fun m S2 es2 hm => ?_⟩, Names.le_trans hsr.pn hle, hsr.pm, hsr.gl⟩, fun m hm => ?_⟩
 · -- live
   replace hm : wrH (upd h n (some (.fam S' es'))) (wrOf (newNames nx p) (newNames nx p) (bl.map fun c => some c.blk)) m = some b := hm
   by_cases e : nx ≤ m ∧ m < nx + p
   · obtain ⟨i, c, z, rfl, hi, hc, z1, z2, z3, z4⟩ := new m e
     rw [z3] at hm; cases hm
     have huc : c.blk.under p = true := (List.all_eq_true.1 s3) c (List.mem_of_getElem? hc)
     refine ⟨z, z2, ?_⟩
     rcases z4 with ⟨z5, z6⟩ | ⟨z5, z6, o, z7, z8⟩
     · exact .inl ⟨z5, by rw [ghost_renB]; exact z6⟩
     · exact .inr ⟨z5, (g1 _ z6).1, (g1 _ z6).2.1, o, z7, z8.fwd hπ huc⟩
   · rw [(old m e).1] at hm
     split at hm
     · next e2 =>
       subst e2; cases hm
       refine ⟨x, hle m x hx, .inr ⟨g0, hMx, hFx, _, o1, oB.famOp fun q hq => ?_⟩⟩
       rw [List.mem_singleton.1 hq]
       exact ⟨y, f2, f3.fwd hπ s2⟩
     · next e2 =>
       obtain ⟨z, hz, hr⟩ := hH.live m b hm
       refine ⟨z, hle m z hz, ?_⟩
       rcases hr with hr | ⟨h0, h1, h2, o, h3, h4⟩
       · exact .inl hr
       · exact .inr ⟨h0, h1, h2, o, h3, h4.mono (Imm.le_refl _) hle⟩
 · -- apart
   by_cases e : nx ≤ q ∧ q < nx + p <;> by_cases e' : nx ≤ q' ∧ q' < nx + p
   · obtain ⟨i, c, z1, rfl, hi, hc, k1, k2, _, _⟩ := new q e
     obtain ⟨i', c', z2, rfl, hi', hc', k1', k2', _, _⟩ := new q' e'
     rw [hz] at k2; obtain rfl := Option.some.inj k2
     rw [hz'] at k2'; obtain rfl := Option.some.inj k2'
     have := (r2 j j k k s s bl bl i i' c c' _ _ haj haj hc hc' k1 k1' h0z h0z' hb).2
     omega
   · obtain ⟨i, c, z1, rfl, hi, hc, k1, k2, _, z4⟩ := new q e
     rw [hz] at k2; obtain rfl := Option.some.inj k2
     rcases z4 with ⟨z5, _⟩ | ⟨_, z6, _⟩
     · omega
     · rw [(old q' e').2] at hz'
       exact absurd (hb ▸ z6) (g2 q' z' (nold q' e' hq') hz' h0z')
   · obtain ⟨i, c, z1, rfl, hi, hc, k1, k2, _, z4⟩ := new q' e'
     rw [hz'] at k2; obtain rfl := Option.some.inj k2
     rcases z4 with ⟨z5, _⟩ | ⟨_, z6, _⟩
     · omega
     · rw [(old q e).2] at hz
       exact absurd (hb.symm ▸ z6) (g2 q z (nold q e hq) hz h0z)
   · rw [(old q e).2] at hz; rw [(old q' e').2] at hz'
     exact hH.sep q q' z z' (nold q e hq) (nold q' e' hq') hz hz' h0z h0z' hb
 · -- families
   replace hm : wrH (upd h n (some (.fam S' es'))) (wrOf (newNames nx p) (newNames nx p) (bl.map fun c => some c.blk)) m = some (.fam S2 es2) := hm
   have notfam : ∀ m S es, nx ≤ m ∧ m < nx + p → wrH (upd h n (some (.fam S' es'))) (wrOf (newNames nx p) (newNames nx p) (bl.map fun c => some c.blk)) m ≠ some (.fam S es) := by
     intro m S es e he
     obtain ⟨i, c, z, rfl, hi, hc, z1, z2, z3, z4⟩ := new m e
     rw [z3] at he
     cases c <;> simp [InB.blk, renB] at he
   by_cases e : nx ≤ m ∧ m < nx + p
   · exact absurd hm (notfam m _ _ e)
   rw [(old m e).1] at hm
   have seen : ∀ q z, wrH (upd h n (some (.fam S' es'))) (wrOf (newNames nx p) (newNames nx p) (bl.map fun c => some c.blk)) q ≠ none → ρ' q = some z → 0 < z.R → (h q ≠ none ∧ ρ q = some z) ∨ (z.b ∈ S ∧ isO z.b) := by
     intro q z hq hz h0z
     by_cases e : nx ≤ q ∧ q < nx + p
     · obtain ⟨i, c, z1, rfl, hi, hc, k1, k2, _, z4⟩ := new q e
       rw [hz] at k2; obtain rfl := Option.some.inj k2
       rcases z4 with ⟨z5, _⟩ | ⟨_, z6, _⟩
       · omega
       · exact .inr ⟨z6, i, c, z, hc, k1, h0z, rfl⟩
     · rw [(old q e).2] at hz
       exact .inl ⟨nold q e hq, hz⟩
   split at hm
   · next e2 =>
     subst e2; cases hm
     refine ⟨x, hle m x hx, g0, fun b hb => g1 b ((hS' b).1 hb).1, fun q z hq hz h0z hb => ?_, fun q S3 es3 hqm hq b hb => ?_, ρs, fun j2 k2 s2' bl2 hj2 => ?_, ?_⟩
     · rcases seen q z hq hz h0z with ⟨k1, k2⟩ | ⟨_, k2⟩
       · exact g2 q z k1 k2 h0z ((hS' _).1 hb).1
       · exact ((hS' _).1 hb).2 k2
     · by_cases e3 : nx ≤ q ∧ q < nx + p
       · exact absurd hq (notfam q _ _ e3)
       · replace hq := (old q e3).1.symm.trans hq
         rw [if_neg hqm] at hq
         exact g3 q S3 es3 hqm hq b ((hS' b).1 hb).1
     · have hjj : j2 ≠ j := fun e => hj2.2 _ (List.mem_singleton.2 rfl) e.symm
       replace hj2 : (⟨es, [], ly⟩ : Fam).at j2 k2 s2' bl2 := ⟨hj2.1, fun p hp => by cases hp⟩
       obtain ⟨q1, q2⟩ := r1 j2 k2 s2' bl2 hj2
       refine ⟨q1, fun i c hc => ?_⟩
       obtain ⟨z, z1, z2⟩ := q2 i c hc
       refine ⟨z, z1, ?_⟩
       rcases z2 with z2 | ⟨z2, z3, z4⟩
       · exact .inl z2
       · refine .inr ⟨z2, (hS' _).2 ⟨z3, ?_⟩, z4⟩
         rintro ⟨i', c', z', hc', hz', h0', hb'⟩
         exact hjj (r2 j j2 k k2 s s2' bl bl2 i' i c' c z' z haj hj2 hc' hc hz' z1 h0' z2 hb').1.symm
     · intro j2 j3 k2 k3 s2' s3' bl2 bl3 i i' c c' z z' hj2 hj3
       exact r2 j2 j3 k2 k3 s2' s3' bl2 bl3 i i' c c' z z' ⟨hj2.1, fun p hp => by cases hp⟩ ⟨hj3.1, fun p hp => by cases hp⟩
   · next e2 =>
     obtain ⟨x2, hx2, q0, q1, q2, q3, q4⟩ := hH.fam m S2 es2 hm
     refine ⟨x2, hle m x2 hx2, q0, q1, fun q z hq hz h0z => ?_, fun q S3 es3 hqm hq b hb => ?_, q4⟩
     · rcases seen q z hq hz h0z with ⟨k1, k2⟩ | ⟨k1, _⟩
       · exact q2 q z k1 k2 h0z
       · exact fun hb => g3 m S2 es2 e2 hm _ k1 hb
     · by_cases e3 : nx ≤ q ∧ q < nx + p
       · exact absurd hq (notfam q _ _ e3)
       · replace hq := (old q e3).1.symm.trans hq
         split at hq
         · next e4 =>
           subst e4; cases hq
           exact fun hb2 => g3 m S2 es2 e2 hm b ((hS' b).1 hb2).1 hb
         · exact q3 q S3 es3 hqm hq b hb
 · have hm : nx + 8 ≤ m := hm
   rw [hρ', if_neg (by omega)]
   exact hsr.fr m (by show nx ≤ m; omega)
theorem famShut {C : Ctx} {c : Code} {Q : Exit → St → Prop} {t : Nat → SV} {h : Heap} {nx : Nat} (n j : Nat) (π : List Nat) (s : SV) (bl : List InB) {S : List Nat} {es : List (Value × SV × List InB)} {ly : Option (TypeId × Nat)} {k : Value} {e0 : SV × List InB} {u : SV} (hn : h n = some (.fam S ⟨es, [(j, u)], ly⟩)) (hj : es[j]? = some (k, e0)) (hu : u = ren π s)
   (hbs : bsHeap h (bsOf π π (bl.map InB.blk))) (side : (Nat.beq π.length bl.length && (nodupB (n :: π) && (s.under bl.length && inUnder bl.length bl))) = true)
   (kk : ∀ S', W C c Q ⟨t, wrH (upd h n (some (.fam S' ⟨es.set j (k, s, bl), [], ly⟩))) (π.map fun m => (m, none)), nx⟩) : W C c Q ⟨t, h, nx⟩ := by
 intro M F pin ρ a w hsr
 have hH : HR M F ρ h w := hsr.hr
 simp only [Bool.and_eq_true] at side
 obtain ⟨s1, s0, s2, s3⟩ := side
 have s1 := Nat.eq_of_beq_eq_true s1
 obtain ⟨x, hx, g0, g1, g2, g3, ρs, r1, r2⟩ := hH.fam n S _ hn
 obtain ⟨hMx, hFx, ob, o1, oB⟩ := hH.famBR hn hx
 have hjl : j < es.length := (List.getElem?_eq_some_iff.1 hj).1
 have hnπ : n ∉ π := by
   intro hm
   obtain ⟨i, hi⟩ := List.mem_iff_getElem?.1 hm
   have := nodupB_inj s0 0 (i + 1) n rfl (by simpa using hi)
   omega
 have hndπ : ∀ i i' m : Nat, π[i]? = some m → π[i']? = some m → i = i' := by
   intro i i' m h1 h2
   have := nodupB_inj s0 (i + 1) (i' + 1) m (by simpa using h1) (by simpa using h2)
   omega
 have hlv : ∀ (i : Nat) (c : InB), bl[i]? = some c → ∃ m, π[i]? = some m ∧ h m = some (renB π c.blk) := by
   intro i c hc
   obtain ⟨m, hm, hb⟩ := bsOf_get (π := π) π (bl.map InB.blk) (by rw [s1, List.length_map]) i c.blk (by rw [List.getElem?_map, hc]; rfl)
   exact ⟨m, hm, bsHeap_mem hbs _ hb⟩
 have hπs : ∀ (i m : Nat), π[i]? = some m → ∃ c, bl[i]? = some c ∧ h m = some (renB π c.blk) ∧ ∃ z, ρ m = some z ∧ ((z.R = 0 ∧ c.blk.ghost = true) ∨ (0 < z.R ∧ M z.b = none ∧ F z.b = none ∧ ∃ o, w.heap[z.b]? = some o ∧ BR M ρ z (renB π c.blk) o)) := by
   intro i m hm
   have hi : i < bl.length := by rw [← s1]; exact (List.getElem?_eq_some_iff.1 hm).1
   obtain ⟨m', hm', hb⟩ := hlv i _ (List.getElem?_eq_getElem hi)
   rw [hm] at hm'; obtain rfl := Option.some.inj hm'
   obtain ⟨z, hz, hr⟩ := hH.live m _ hb
   refine ⟨_, List.getElem?_eq_getElem hi, hb, z, hz, ?_⟩
   rw [ghost_renB] at hr
   exact hr
 have hfamno : ∀ (i m : Nat) S es, π[i]? = some m → h m ≠ some (.fam S es) := by
   intro i m S es hm he
   obtain ⟨c, _, hb, _⟩ := hπs i m hm
   rw [hb] at he
   cases c <;> simp [InB.blk, renB] at he
 let S' := S ++ π.filterMap fun m => (ρ m).bind fun z => if 0 < z.R then some z.b else none
 have hS' : ∀ b, b ∈ S' ↔ b ∈ S ∨ ∃ m z, m ∈ π ∧ ρ m = some z ∧ 0 < z.R ∧ z.b = b := by
   intro b
   simp only [S', List.mem_append, List.mem_filterMap]
   constructor
   · rintro (h1 | ⟨m, hm, h2⟩)
     · exact .inl h1
     · right
       cases hz : ρ m with
       | none => rw [hz] at h2; cases h2
       | some z =>
         rw [hz] at h2
         simp only [Option.bind_some] at h2
         split at h2
         · next h0 => exact ⟨m, z, hm, hz, h0, Option.some.inj h2⟩
         · cases h2
   · rintro (h1 | ⟨m, z, hm, hz, h0, hb⟩)
     · exact .inl h1
     · exact .inr ⟨m, hm, by rw [hz]; simp [h0, hb]⟩
 have hwr : ∀ (l : List Nat) (h0 : Heap) (m : Nat), wrH h0 (l.map fun m => (m, none)) m = if m ∈ l then none else h0 m := by
   intro l
   induction l with
   | nil => intro h0 m; simp [wrH]
   | cons q r ih =>
     intro h0 m
     simp only [List.map_cons, wrH]
     rw [ih, upd_eq]
     by_cases e : m ∈ r
     · simp [e]
     · by_cases e2 : m = q
       · simp [e2]
       · simp [e, e2]
 let es' : Fam := ⟨es.set j (k, s, bl), [], ly⟩
 have at' : ∀ m, wrH (upd h n (some (.fam S' es'))) (π.map fun m => (m, none)) m = if m ∈ π then none else if m = n then some (.fam S' es') else h m := by
   intro m; rw [hwr, upd_eq]
 have ne : ∀ m, wrH (upd h n (some (.fam S' es'))) (π.map fun m => (m, none)) m ≠ none → m ∉ π ∧ h m ≠ none := by
   intro m hm
   rw [at'] at hm
   by_cases e : m ∈ π
   · rw [if_pos e] at hm; exact absurd rfl hm
   · refine ⟨e, fun e2 => ?_⟩
     rw [if_neg e] at hm
     split at hm
     · next e3 => subst e3; rw [hn] at e2; cases e2
     · exact hm e2
 have ofS' : ∀ b, b ∈ S' → M b = none ∧ F b = none ∧ b < w.heap.size := by
   intro b hb
   rcases (hS' b).1 hb with hb | ⟨m, z, hm, hz, h0, rfl⟩
   · exact g1 b hb
   · obtain ⟨i, hi⟩ := List.mem_iff_getElem?.1 hm
     obtain ⟨c, _, _, z', hz', hr⟩ := hπs i m hi
     rw [hz] at hz'; obtain rfl := Option.some.inj hz'
     rcases hr with ⟨h00, _⟩ | ⟨_, h1, h2, o, h3, _⟩
     · omega
     · exact ⟨h1, h2, (Array.getElem?_eq_some_iff.1 h3).1⟩
 obtain ⟨ρs2, hρj, hρo⟩ : ∃ ρs2 : Nat → Names, ρs2 j = back π ρ ∧ ∀ q, q ≠ j → ρs2 q = ρs q := ⟨fun q => if q = j then back π ρ else ρs q, if_pos rfl, fun q hq => if_neg hq⟩
 refine kk S' M F pin ρ a w ⟨⟨hsr.tm, hsr.sz, hsr.df, ⟨hH.imm, hH.frm, hH.dis, fun m b hm => ?_, fun q q' z z' hq hq' => hH.sep q q' z z' (ne q hq).2 (ne q' hq').2, fun m S2 es2 hm => ?_⟩, hsr.pn, hsr.pm, hsr.gl⟩, hsr.fr⟩
 · replace hm := (at' m).symm.trans hm
   by_cases e : m ∈ π
   · rw [if_pos e] at hm; cases hm
   · rw [if_neg e] at hm
     split at hm
     · next e2 =>
       subst e2; cases hm
       exact ⟨x, hx, .inr ⟨g0, hMx, hFx, _, o1, oB.famSet hj⟩⟩
     · exact hH.live m b hm
 · replace hm := (at' m).symm.trans hm
   by_cases e : m ∈ π
   · rw [if_pos e] at hm; cases hm
   · rw [if_neg e] at hm
     split at hm
     · next e2 =>
       subst e2; cases hm
       refine ⟨x, hx, g0, ofS', fun q z hq hz h0z hb => ?_, fun q S3 es3 hqm hq b hb => ?_, ρs2, fun j2 k2 s2' bl2 hj2 => ?_, ?_⟩
       · obtain ⟨q1, q2⟩ := ne q hq
         rcases (hS' _).1 hb with hb | ⟨m', z', hm', hz', h0', hb⟩
         · exact g2 q z q2 hz h0z hb
         · obtain ⟨i, hi⟩ := List.mem_iff_getElem?.1 hm'
           obtain ⟨c, _, hb2, _⟩ := hπs i m' hi
           have := hH.sep q m' z z' q2 (by rw [hb2]; simp) hz hz' h0z h0' hb.symm
           subst this; exact q1 hm'
       · replace hq := (at' q).symm.trans hq
         by_cases e3 : q ∈ π
         · rw [if_pos e3] at hq; cases hq
         rw [if_neg e3, if_neg hqm] at hq
         rcases (hS' _).1 hb with hb | ⟨m', z', hm', hz', h0', rfl⟩
         · exact g3 q S3 es3 hqm hq b hb
         · obtain ⟨i, hi⟩ := List.mem_iff_getElem?.1 hm'
           obtain ⟨c, _, hb2, _⟩ := hπs i m' hi
           obtain ⟨_, _, _, _, t2, _⟩ := hH.fam q S3 es3 hq
           exact t2 m' z' (by rw [hb2]; simp) hz' h0'
       · by_cases hjj : j2 = j
         · subst hjj
           replace hj2 := hj2.1
           rw [List.getElem?_set_self hjl] at hj2
           cases hj2
           obtain ⟨y', y1, y3⟩ := oB.open (p := (j2, u)) (List.mem_singleton.2 rfl)
           refine ⟨⟨_, y', o1, y1, ?_⟩, fun i c hc => ?_⟩
           · rw [hρj]
             exact y3.back s hu (by rw [s1]; exact s2)
           · obtain ⟨m', hm', _⟩ := hlv i c hc
             obtain ⟨c', hc', hb', z, hz, hr⟩ := hπs i m' hm'
             rw [hc] at hc'; obtain rfl := Option.some.inj hc'
             refine ⟨z, by rw [hρj]; simp [back, hm', hz], ?_⟩
             rcases hr with hr | ⟨h0, h1, h2, o, h3, h4⟩
             · exact .inl hr
             · refine .inr ⟨h0, (hS' _).2 (.inr ⟨m', z, List.mem_of_getElem? hm', hz, h0, rfl⟩), o, h3, ?_⟩
               rw [hρj]
               exact h4.back (by rw [s1]; exact (List.all_eq_true.1 s3) c (List.mem_of_getElem? hc))
         · replace hj2 := hj2.1
           rw [List.getElem?_set_ne (Ne.symm hjj)] at hj2
           obtain ⟨q1, q2⟩ := r1 j2 k2 s2' bl2 ⟨hj2, fun p hp => by cases List.mem_singleton.1 hp; exact Ne.symm hjj⟩
           refine ⟨?_, fun i c hc => ?_⟩
           · rw [hρo j2 hjj]; exact q1
           · obtain ⟨z, z1, z2⟩ := q2 i c hc
             refine ⟨z, by rw [hρo j2 hjj]; exact z1, ?_⟩
             rcases z2 with z2 | ⟨z2, z3, o, z4, z5⟩
             · exact .inl z2
             · exact .inr ⟨z2, (hS' _).2 (.inl z3), o, z4, by rw [hρo j2 hjj]; exact z5⟩
       · intro j2 j3 k2 k3 s2' s3' bl2 bl3 i i' c c' z z' hj2 hj3 hc hc' hz hz' h0 h0' hb
         have inS : ∀ (q : Nat) (k' : Value) (s' : SV) (bl' : List InB) (i : Nat) (c : InB) (z : Own), q ≠ j → es'.at q k' s' bl' → bl'[i]? = some c → ρs2 q i = some z → 0 < z.R → z.b ∈ S ∧ (⟨es, [(j, u)], ly⟩ : Fam).at q k' s' bl' ∧ ρs q i = some z := by
           intro q k' s' bl' i c z hq he hc hz h0
           replace he := he.1
           rw [List.getElem?_set_ne (Ne.symm hq)] at he
           replace he : (⟨es, [(j, u)], ly⟩ : Fam).at q k' s' bl' := ⟨he, fun p hp => by cases List.mem_singleton.1 hp; exact Ne.symm hq⟩
           rw [hρo q hq] at hz
           obtain ⟨_, q2⟩ := r1 q k' s' bl' he
           obtain ⟨z', z1, z2⟩ := q2 i c hc
           rw [hz] at z1; obtain rfl := Option.some.inj z1
           rcases z2 with ⟨z2, _⟩ | ⟨_, z3, _⟩
           · omega
           · exact ⟨z3, he, hz⟩
         have inπ : ∀ (i : Nat) (z : Own), back π ρ i = some z → ∃ m, π[i]? = some m ∧ ρ m = some z := by
           intro i z hz
           unfold back at hz
           cases e : π[i]? with
           | none => rw [e] at hz; cases hz
           | some m => rw [e] at hz; exact ⟨m, rfl, hz⟩
         by_cases e2 : j2 = j <;> by_cases e3 : j3 = j
         · rw [e2, hρj] at hz; rw [e3, hρj] at hz'
           obtain ⟨m1, a1, b1⟩ := inπ i z hz
           obtain ⟨m2, a2, b2⟩ := inπ i' z' hz'
           obtain ⟨_, _, c1, _⟩ := hπs i m1 a1
           obtain ⟨_, _, c2, _⟩ := hπs i' m2 a2
           have := hH.sep m1 m2 z z' (by rw [c1]; simp) (by rw [c2]; simp) b1 b2 h0 h0' hb
           subst this
           exact ⟨e2.trans e3.symm, hndπ i i' m1 a1 a2⟩
         · rw [e2, hρj] at hz
           obtain ⟨m1, a1, b1⟩ := inπ i z hz
           obtain ⟨_, _, c1, _⟩ := hπs i m1 a1
           obtain ⟨k1, _, _⟩ := inS j3 k3 s3' bl3 i' c' z' e3 hj3 hc' hz' h0'
           exact absurd (hb ▸ k1) (g2 m1 z (by rw [c1]; simp) b1 h0)
         · rw [e3, hρj] at hz'
           obtain ⟨m1, a1, b1⟩ := inπ i' z' hz'
           obtain ⟨_, _, c1, _⟩ := hπs i' m1 a1
           obtain ⟨k1, _, _⟩ := inS j2 k2 s2' bl2 i c z e2 hj2 hc hz h0
           exact absurd (hb.symm ▸ k1) (g2 m1 z' (by rw [c1]; simp) b1 h0')
         · obtain ⟨_, k1, l1⟩ := inS j2 k2 s2' bl2 i c z e2 hj2 hc hz h0
           obtain ⟨_, k2', l2⟩ := inS j3 k3 s3' bl3 i' c' z' e3 hj3 hc' hz' h0'
           exact r2 j2 j3 k2 k3 s2' s3' bl2 bl3 i i' c c' z z' k1 k2' hc hc' l1 l2 h0 h0' hb
     · next e2 =>
       obtain ⟨x2, hx2, q0, q1, q2, q3, q4⟩ := hH.fam m S2 es2 hm
       refine ⟨x2, hx2, q0, q1, fun q z hq hz h0z => q2 q z (ne q hq).2 hz h0z, fun q S3 es3 hqm hq b hb => ?_, q4⟩
       replace hq := (at' q).symm.trans hq
       by_cases e3 : q ∈ π
       · rw [if_pos e3] at hq; cases hq
       rw [if_neg e3] at hq
       split at hq
       · next e4 =>
         subst e4; cases hq
         intro hb2
         rcases (hS' _).1 hb2 with hb2 | ⟨m', z', hm', hz', h0', rfl⟩
         · exact g3 m S2 es2 e2 hm b hb2 hb
         · obtain ⟨i, hi⟩ := List.mem_iff_getElem?.1 hm'
           obtain ⟨c, _, hb3, _⟩ := hπs i m' hi
           exact q2 m' z' (by rw [hb3]; simp) hz' h0' hb
       · exact q3 q S3 es3 hqm hq b hb
end Go.Proofs.YtalhangpahffeaaDoor.Nice
namespace Go.Proofs.YtalhangpahffeaaDoor.Nice
open Go
set_option linter.unusedVariables false
set_option linter.unusedSimpArgs false
theorem pr_case {M : Imm} {ρ : Names} {p : MP} {v : Value} (h : VR M ρ (.d (.pr p)) v) : p.p M v := by
 cases h with | d _ _ h => cases h with | pr _ _ h => exact h
theorem pr_mk {M : Imm} {ρ : Names} {p : MP} {v : Value} (h : p.p M v) : VR M ρ (.d (.pr p)) v := .d _ _ (.pr _ _ h)
section
variable {C : Ctx} {ops : List Oper} {i : Nat} {o : Oper} {l : List Oper} {t : Nat → SV} {h h' : Heap} {nx : Nat} {K : St → Prop} {acc : List FP} {T T' : TypeId} {y : Operand} {td : TypeDesc} {name : String}
end
/- A step by a contract whose answer is one, in the text's order and in any order. -/
section
variable {C : Ctx} {ops : List Oper} {i : Nat} {o : Oper} {l : List Oper} {t : Nat → SV} {h h' : Heap} {nx : Nat} {K : St → Prop} {acc : List FP} {bs : List (Nat × Blk)} {wr : List (Nat × Option Blk)} {u u' : SV}
end
theorem cQ {C : Ctx} {ops : List Oper} {i : Nat} {o : Oper} {l : List Oper} {t : Nat → SV} {h : Heap} {nx : Nat} {K : St → Prop} {f : FuncId} {args : List SV} {hin : List Blk} {post : SV → List (Option Blk) → Prop} (hF : Spec C.P C.G f args hin post) {x : Operand} {cargs : Array Operand} {tys : Array TypeId} {caps : List SV} {fn : Func}
   (π : List Nat) (d nm i' : Nat) (hi : i + 1 = i') (hnm : nx + 8 * i = nm) (hg : o.guard = none) (hdst : o.dst = some d) (hd : Nat.blt d C.sz = true) (ho : o.op = .call { callee := .value x, args := cargs, argTypes := tys }) (hx : opv C t x = .fn f caps) (hf : C.P.funcs[f]? = some fn) (hfn : fnOK fn = true)
   (hargs : mapV (opv C t) cargs.toList ++ caps = renL π args) (side : (Nat.beq π.length hin.length && (nodupB π && (hUnder hin.length (hin.map some) && underL hin.length args))) = true) (hbs : bsHeap h (bsOf π π hin))
   (k : ∀ r hout, post r hout → wops C ops i' l ⟨upd t d (ren (π ++ newNames nm (hout.length - hin.length)) r), wrH h (wrOf (π ++ newNames nm (hout.length - hin.length)) (π ++ newNames nm (hout.length - hin.length)) hout), nx⟩ none K) : wops C ops i (o :: l) ⟨t, h, nx⟩ none K := by
 subst hi; subst hnm
 refine st_callQ (σ := ⟨t, h, nx⟩) π hF hg (by unfold dstOK; rw [hdst]; exact hd) ho hx hf hfn hargs side hbs fun r hout hp => ?_
 have := k r hout hp
 unfold St.app; rw [hdst]; exact this
end Go.Proofs.YtalhangpahffeaaDoor.Nice
namespace Go.Proofs.YtalhangpahffeaaDoor.Nice
open Go
set_option linter.unusedVariables false
set_option linter.unusedSimpArgs false
def k2 (k : ByteArray × ByteArray) : Value := .agg #[.string k.1, .string k.2]
structure Two (P : Program) (kt : TypeId) (f1 f2 : Field) : Prop where
 fs : P.underlying kt = some (.struct #[f1, f2])
 n1 : ¬ f1.name = "_"
 n2 : ¬ f2.name = "_"
 o1 : f1.offset = 0
 o2 : f2.offset = 1
 t1 : P.underlying f1.type = some .string
 t2 : P.underlying f2.type = some .string
 hp : P.stoodInHeld kt = false
theorem str_eq {x y : ByteArray} : x = y ↔ x.toList = y.toList := by
 constructor
 · rintro rfl; rfl
 · intro e; rw [ByteArray.toList_eq, ByteArray.toList_eq] at e; exact WideShapes.bytes_inj e
theorem isAgg_string {P : Program} {t : TypeId} (h : P.underlying t = some .string) : isAggB P t = some false := by unfold isAggB; rw [h]
theorem Two.part1 {P : Program} {kt : TypeId} {f1 f2 : Field} (T : Two P kt f1 f2) (k : ByteArray × ByteArray) (w : World) : (part f1.type #[.string k.1, .string k.2] f1.offset).run P w = .ok (.string k.1) w := by
 simp [part, run_isAgg (isAgg_string T.t1), T.o1]
section
variable {C : Ctx} {ops : List Oper} {i : Nat} {o : Oper} {l : List Oper} {t : Nat → SV} {h h' : Heap} {nx : Nat} {K : St → Prop} {acc : List FP} {ty kt el : TypeId} {y z q : Operand} {ok : Bool} {n : Nat} {es : List (Value × D)} {key : Value} {u u' : SV} {zl : Value}
end
end Go.Proofs.YtalhangpahffeaaDoor.Nice
namespace Go.Proofs.YtalhangpahffeaaDoor.Nice
open Go
set_option linter.unusedVariables false
set_option linter.unusedSimpArgs false
section
variable {C : Ctx} {ops : List Oper} {i : Nat} {o : Oper} {l : List Oper} {t : Nat → SV} {h : Heap} {nx : Nat} {K : St → Prop} {y : Operand} {m n L j : Nat} {seen : List Nat} {S : List Nat} {es : Fam}
end
end Go.Proofs.YtalhangpahffeaaDoor.Nice
namespace Go.Proofs.YtalhangpahffeaaDoor.Nice
open Go
set_option linter.unusedVariables false
section
variable {C : Ctx} {ops : List Oper} {i : Nat} {o : Oper} {l : List Oper} {t : Nat → SV} {h h' : Heap} {nx : Nat} {K : St → Prop} {vc : Prop} {bs : List (Nat × Blk)} {u : SV} {wr : List (Nat × Option Blk)}
/-- The numbers of an operation, looked at together. -/
def numS (C : Ctx) (i nx : Nat) (o : Oper) (d nm i' : Nat) : Bool :=
  Nat.beq (i + 1) i' && (Nat.beq (nx + 8 * i) nm && (o.guard.isNone && ((match o.dst with | some d' => Nat.beq d' d | none => false) && Nat.blt d C.sz)))
def stepS (C : Ctx) (i nx : Nat) (o : Oper) (t : Nat → SV) (h : Heap) (d nm i' : Nat) : Option (Prop × List (Nat × Blk) × SV × List (Nat × Option Blk) × Heap) :=
  match numS C i nx o d nm i' with
  | true => sopH C nm o (opv C t) h
  | false => none
theorem stepS_eq {d nm i' : Nat} (e : stepS C i nx o t h d nm i' = some (vc, bs, u, wr, h')) : i + 1 = i' ∧ nx + 8 * i = nm ∧ o.guard = none ∧ o.dst = some d ∧ Nat.blt d C.sz = true ∧ sopH C nm o (opv C t) h = some (vc, bs, u, wr, h') := by
  unfold stepS at e
  split at e
  · next hn =>
    unfold numS at hn
    simp only [Bool.and_eq_true, Option.isNone_iff_eq_none] at hn
    obtain ⟨h1, h2, h3, h4, h5⟩ := hn
    refine ⟨Nat.eq_of_beq_eq_true h1, Nat.eq_of_beq_eq_true h2, h3, ?_, h5, e⟩
    split at h4
    · next hd => rw [hd, Nat.eq_of_beq_eq_true h4]
    · cases h4
  · cases e
theorem sT (d nm i' : Nat) (e : stepS C i nx o t h d nm i' = some (True, bs, u, wr, h')) (k : wops C ops i' l ⟨upd t d u, h', nx⟩ none K) : wops C ops i (o :: l) ⟨t, h, nx⟩ none K := by
  obtain ⟨h1, h2, h3, h4, h5, h6⟩ := stepS_eq e
  exact s1 d nm i' h1 h2 h3 h4 h5 h6 trivial k
theorem sO (d nm i' : Nat) (e : stepS C i nx o t h d nm i' = some (vc, bs, u, wr, h')) (k : wops C ops i' l ⟨upd t d u, h', nx⟩ none K) (hvc : vc := by first | trivial | omega) : wops C ops i (o :: l) ⟨t, h, nx⟩ none K := by
  obtain ⟨h1, h2, h3, h4, h5, h6⟩ := stepS_eq e
  exact s1 d nm i' h1 h2 h3 h4 h5 h6 hvc k
theorem s0O (nm i' : Nat) (hi : i + 1 = i') (hnm : nx + 8 * i = nm) (hg : o.guard = none) (hdst : o.dst = none) (e : sopH C nm o (opv C t) h = some (vc, bs, u, wr, h')) (k : wops C ops i' l ⟨t, h', nx⟩ none K) (hvc : vc := by first | trivial | omega) : wops C ops i (o :: l) ⟨t, h, nx⟩ none K := s0 nm i' hi hnm hg hdst e hvc k
variable {acc : List FP}
theorem dT (d nm i' : Nat) (e : stepS C i nx o t h d nm i' = some (True, bs, u, wr, h')) (k : wops C ops i' l ⟨upd t d u, h', nx⟩ (some (acc ++ [(bs.map (·.1), wr.map (·.1))])) K) : wops C ops i (o :: l) ⟨t, h, nx⟩ (some acc) K := by
  obtain ⟨h1, h2, h3, h4, h5, h6⟩ := stepS_eq e
  exact d1 d nm i' h1 h2 h3 h4 h5 h6 trivial k
theorem dO (d nm i' : Nat) (e : stepS C i nx o t h d nm i' = some (vc, bs, u, wr, h')) (k : wops C ops i' l ⟨upd t d u, h', nx⟩ (some (acc ++ [(bs.map (·.1), wr.map (·.1))])) K) (hvc : vc := by first | trivial | omega) : wops C ops i (o :: l) ⟨t, h, nx⟩ (some acc) K := by
  obtain ⟨h1, h2, h3, h4, h5, h6⟩ := stepS_eq e
  exact d1 d nm i' h1 h2 h3 h4 h5 h6 hvc k
/-- A sum, difference or product of two numbers, looked at at once. -/
def ariS (C : Ctx) (i nx : Nat) (o : Oper) (t : Nat → SV) (d nm i' : Nat) : Option Int :=
  match numS C i nx o d nm i' with
  | true => match o.op with
    | .binOp op _ y z _ => match (opv C t y).hd, (opv C t z).hd with
      | some (.d (.val (.int .i64 a))), some (.d (.val (.int .i64 b))) => arith op a b
      | _, _ => none
    | _ => none
  | false => none
theorem numS_eq {d nm i' : Nat} (hn : numS C i nx o d nm i' = true) : i + 1 = i' ∧ nx + 8 * i = nm ∧ o.guard = none ∧ o.dst = some d ∧ Nat.blt d C.sz = true := by
  unfold numS at hn
  simp only [Bool.and_eq_true, Option.isNone_iff_eq_none] at hn
  obtain ⟨h1, h2, h3, h4, h5⟩ := hn
  refine ⟨Nat.eq_of_beq_eq_true h1, Nat.eq_of_beq_eq_true h2, h3, ?_, h5⟩
  split at h4
  · next hd => rw [hd, Nat.eq_of_beq_eq_true h4]
  · cases h4
theorem ariS_eq {d nm i' : Nat} {r : Int} (e : ariS C i nx o t d nm i' = some r) : numS C i nx o d nm i' = true ∧ ∃ op ty y z ty' a b, o.op = .binOp op ty y z ty' ∧ (opv C t y).hd = some (SV.i a) ∧ (opv C t z).hd = some (SV.i b) ∧ arith op a b = some r := by
  unfold ariS at e
  split at e
  · next hn =>
    split at e
    · next op ty y z ty' ho =>
      split at e
      · next a b hy hz => exact ⟨hn, op, ty, y, z, ty', a, b, ho, hy, hz, e⟩
      · cases e
    · cases e
  · cases e
theorem sAO (d nm i' : Nat) {r : Int} (e : ariS C i nx o t d nm i' = some r) (k : wops C ops i' l ⟨upd t d (SV.i r), h, nx⟩ none K) (hin : inRange r := by unfold inRange; omega) : wops C ops i (o :: l) ⟨t, h, nx⟩ none K := by
  obtain ⟨hn, op, ty, y, z, ty', a, b, h6, h7, h8, h9⟩ := ariS_eq e
  obtain ⟨h1, h2, h3, h4, h5⟩ := numS_eq hn
  exact sA d nm i' h1 h2 h3 h4 h5 h6 h7 h8 h9 hin k
theorem dAO (d nm i' : Nat) {r : Int} (e : ariS C i nx o t d nm i' = some r) (k : wops C ops i' l ⟨upd t d (SV.i r), h, nx⟩ (some (acc ++ [([], [])])) K) (hin : inRange r := by unfold inRange; omega) : wops C ops i (o :: l) ⟨t, h, nx⟩ (some acc) K := by
  obtain ⟨hn, op, ty, y, z, ty', a, b, h6, h7, h8, h9⟩ := ariS_eq e
  obtain ⟨h1, h2, h3, h4, h5⟩ := numS_eq hn
  exact dA d nm i' h1 h2 h3 h4 h5 h6 h7 h8 h9 hin k
/-- The numbers of a guarded operation, looked at together. -/
def numG (C : Ctx) (ops : List Oper) (i : Nat) (o : Oper) (j : Nat) (want : Bool) (s i' : Nat) : Bool :=
  Nat.beq (i + 1) i' && ((match o.guard with | some (j', w) => Nat.beq j' j && cond want w (!w) | none => false) && ((match gslot ops j with | some s' => Nat.beq s' s | none => false) && dstOK C o))
theorem numG_eq {j s i' : Nat} {want : Bool} (hn : numG C ops i o j want s i' = true) : i + 1 = i' ∧ o.guard = some (j, want) ∧ gslot ops j = some s ∧ dstOK C o = true := by
  unfold numG at hn
  simp only [Bool.and_eq_true] at hn
  obtain ⟨h1, h2, h3, h4⟩ := hn
  refine ⟨Nat.eq_of_beq_eq_true h1, ?_, ?_, h4⟩
  · split at h2
    · next j' w hg =>
      simp only [Bool.and_eq_true] at h2
      rw [hg, Nat.eq_of_beq_eq_true h2.1]
      have h5 := h2.2
      cases want <;> cases w <;> first | rfl | (simp at h5; done)
    · cases h2
  · split at h3
    · next s' hs => rw [hs, Nat.eq_of_beq_eq_true h3]
    · cases h3
theorem gT {A : Option (List FP)} (j : Nat) (want : Bool) (s i' : Nat) (e : numG C ops i o j want s i' = true) (hb : t s = SV.b want)
    (on : wops C ops i ({ o with guard := none } :: l) ⟨upd t s (SV.b want), h, nx⟩ A K) : wops C ops i (o :: l) ⟨t, h, nx⟩ A K := by
  obtain ⟨h1, h2, h3, h4⟩ := numG_eq e
  exact g1 j want s 0 i' h1 h2 h3 hb h4 on
theorem gF {A : Option (List FP)} (j : Nat) (want : Bool) (s d i' : Nat) (e : (numG C ops i o j want s i' && (match o.dst with | some d' => Nat.beq d' d | none => false)) = true) (hb : t s = SV.b (!want))
    (off : wops C ops i' l ⟨upd t d (.tup []), h, nx⟩ (A.map (· ++ [([], [])])) K) : wops C ops i (o :: l) ⟨t, h, nx⟩ A K := by
  simp only [Bool.and_eq_true] at e
  obtain ⟨h1, h2, h3, h4⟩ := numG_eq e.1
  have hd : o.dst = some d := by
    have h5 := e.2
    split at h5
    · next hd => rw [hd, Nat.eq_of_beq_eq_true h5]
    · cases h5
  exact g0 j want s d i' h1 h2 h3 hb hd (by unfold dstOK at h4; rw [hd] at h4; exact h4) off
theorem sV (d nm i' : Nat) (e : stepS C i nx o t h d nm i' = some (vc, bs, u, wr, h')) (hvc : vc) (k : wops C ops i' l ⟨upd t d u, h', nx⟩ none K) : wops C ops i (o :: l) ⟨t, h, nx⟩ none K := sO d nm i' e k hvc
theorem dV (d nm i' : Nat) (e : stepS C i nx o t h d nm i' = some (vc, bs, u, wr, h')) (hvc : vc) (k : wops C ops i' l ⟨upd t d u, h', nx⟩ (some (acc ++ [(bs.map (·.1), wr.map (·.1))])) K) : wops C ops i (o :: l) ⟨t, h, nx⟩ (some acc) K := dO d nm i' e k hvc
end
end Go.Proofs.YtalhangpahffeaaDoor.Nice
namespace Go.Proofs.YtalhangpahffeaaDoor.Nice
open Go
set_option linter.unusedVariables false
set_option linter.unusedSimpArgs false
theorem HR.keepBelow {M F : Imm} {ρ : Names} {h : Heap} {w w' : World} (H : HR M F ρ h w) (hb : RowKit.Below w.heap.size w w') : HR M F ρ h w' := by
 have hM : ∀ b o, M b = some o → b < w.heap.size := fun b o e => (Array.getElem?_eq_some_iff.1 (H.imm b o e)).1
 have hF : ∀ b o, F b = some o → b < w.heap.size := fun b o e => (Array.getElem?_eq_some_iff.1 (H.frm b o e)).1
 refine ⟨fun b o e => by rw [hb.block b (hM b o e)]; exact H.imm b o e, fun b o e => by rw [hb.block b (hF b o e)]; exact H.frm b o e, H.dis, fun n blk hn => ?_, H.sep, ?_⟩
 · obtain ⟨x, hx, hr⟩ := H.live n blk hn
   refine ⟨x, hx, ?_⟩
   rcases hr with hr | ⟨h0, h1, h2, o, h3, h4⟩
   · exact .inl hr
   · exact .inr ⟨h0, h1, h2, o, by rw [hb.block _ (Array.getElem?_eq_some_iff.1 h3).1]; exact h3, h4⟩
 · refine H.famKeep (fun _ _ _ h => h) (Names.le_refl _) (Imm.le_refl _) hb.size (fun _ _ _ _ _ _ a b => ⟨a, b⟩) (fun n S es x c _ hn hx h0 hc => ?_) (fun _ _ _ m y _ a b _ => .inl ⟨a, b⟩)
   rcases hc with rfl | hc
   · obtain ⟨x', hx', hr⟩ := H.live n _ hn
     rw [hx] at hx'; obtain rfl := Option.some.inj hx'
     rcases hr with ⟨_, hg⟩ | ⟨_, _, _, o, h3, _⟩
     · simp [Blk.ghost] at hg
     · exact hb.block _ (Array.getElem?_eq_some_iff.1 h3).1
   · obtain ⟨_, _, _, g1, _⟩ := H.fam n S es hn
     exact hb.block _ (g1 c hc).2.2
theorem HR.liveLt {M F : Imm} {ρ : Names} {h : Heap} {w : World} (H : HR M F ρ h w) {n : Nat} (hn : h n ≠ none) {y : Own} (hy : ρ n = some y) (h0 : 0 < y.R) : y.b < w.heap.size := by
 cases hb : h n with
 | none => exact absurd hb hn
 | some blk =>
   obtain ⟨x, hx, hr⟩ := H.live n blk hb
   rw [hy] at hx; obtain rfl := Option.some.inj hx
   rcases hr with ⟨h00, _⟩ | ⟨_, _, _, o, h3, _⟩
   · omega
   · exact (Array.getElem?_eq_some_iff.1 h3).1
theorem HR.adopt {M F : Imm} {ρ : Names} {h : Heap} {w w' : World} (H : HR M F ρ h w) (hb : RowKit.Below w.heap.size w w') {nm : Nat} (hfr : ∀ n, nm ≤ n → n < nm + 8 → ρ n = none) (x : Own) (h0 : 0 < x.R) (hx : w.heap.size ≤ x.b) {blk : Blk} {o : Obj} (ho : w'.heap[x.b]? = some o)
   (hB : ∀ ρ' : Names, BR M ρ' x blk o) (hfm : ∀ S es, blk ≠ .fam S es) :
   ∃ ρ' : Names, ρ.le ρ' ∧ (∀ n, n < nm ∨ nm + 8 ≤ n → ρ' n = ρ n) ∧ ρ' nm = some x ∧ HR M F ρ' (upd h nm (some blk)) w' := by
 have hn := hfr nm (Nat.le_refl _) (by omega)
 have H' := H.keepBelow hb
 have hM : M x.b = none := by
   cases e : M x.b with
   | none => rfl
   | some o => exact absurd (Array.getElem?_eq_some_iff.1 (H.imm _ _ e)).1 (by omega)
 have hF : F x.b = none := by
   cases e : F x.b with
   | none => rfl
   | some o => exact absurd (Array.getElem?_eq_some_iff.1 (H.frm _ _ e)).1 (by omega)
 have hle : ρ.le (fun m => if m = nm then some x else ρ m) := by
   intro m y hy
   have : m ≠ nm := by rintro rfl; rw [hn] at hy; cases hy
   simp [this, hy]
 have old : ∀ m y, m ≠ nm → upd h nm (some blk) m ≠ none → (fun m => if m = nm then some x else ρ m) m = some y → h m ≠ none ∧ ρ m = some y := by
   intro m y e a b
   rw [upd_other _ _ _ _ e] at a
   simp only [e, if_false] at b
   exact ⟨a, b⟩
 refine ⟨_, hle, fun n h => by have : n ≠ nm := by omega
                               simp [this], by simp, H'.imm, H'.frm, H'.dis, ?_, ?_, ?_⟩
 · intro m b hm
   rw [upd_eq] at hm
   split at hm
   · next e => subst e; cases hm; exact ⟨x, by simp, .inr ⟨h0, hM, hF, o, ho, hB _⟩⟩
   · next e =>
     obtain ⟨y, hy, hr⟩ := H'.live m b hm
     refine ⟨y, by simp [e, hy], ?_⟩
     rcases hr with hr | ⟨a0, a1, a2, o', a3, a4⟩
     · exact .inl hr
     · exact .inr ⟨a0, a1, a2, o', a3, a4.mono (Imm.le_refl _) hle⟩
 · intro n m y z a b c d e f g
   by_cases e1 : n = nm
   · by_cases e2 : m = nm
     · rw [e1, e2]
     · exfalso
       obtain ⟨k1, k2⟩ := old m z e2 b d
       have := H.liveLt k1 k2 f
       subst e1; simp at c; subst c
       omega
   · by_cases e2 : m = nm
     · exfalso
       obtain ⟨k1, k2⟩ := old n y e1 a c
       have := H.liveLt k1 k2 e
       subst e2; simp at d; subst d
       omega
     · obtain ⟨k1, k2⟩ := old n y e1 a c
       obtain ⟨k3, k4⟩ := old m z e2 b d
       exact H.sep n m y z k1 k3 k2 k4 e f g
 · refine H'.famKeep (fun m S es hm => ?_) hle (Imm.le_refl _) (Nat.le_refl _) (fun _ _ _ _ _ _ a b => ⟨a, b⟩) (fun _ _ _ _ _ _ _ _ _ _ => rfl) (fun m S es p y hm hp hy h00 => ?_)
   · rw [upd_eq] at hm
     split at hm
     · cases hm; exact absurd rfl (hfm _ _)
     · exact hm
   · by_cases e : p = nm
     · subst e; simp at hy; subst hy
       refine .inr fun hS => ?_
       obtain ⟨_, _, _, g1, _⟩ := H.fam m S es hm
       have := (g1 _ hS).2.2
       omega
     · exact .inl (old p y e hp hy)
theorem spec_below {P : Program} {G : Nat → SV} {f : FuncId} {args : List SV} {post : SV → List (Option Blk) → Prop} (hF : Spec P G f args [] post) {w : World} {vs : Array Value} (hsz : vs.size = args.length)
   (hG : ∀ g ρ, VR (allM w) ρ (G g) (.pointer (some ⟨g, 0, none⟩))) (hargs : ∀ (i : Nat) (x : SV), args[i]? = some x → ∃ u, vs[i]? = some u ∧ VR (allM w) (fun _ => none) x u) :
   Calls P f vs w fun e w' => ∃ M' ρ' r ho u, e = .returned u ∧ (allM w).le M' ∧ VR M' ρ' r u ∧ HR M' (fun _ => none) ρ' (hOf ho) w' ∧ okOut 0 r ho = true ∧ post r ho ∧ Same w w' ∧ RowKit.Below w.heap.size w w' := by
 refine (hF (allM w) (fun _ => none) (fun _ => none) vs w hG ⟨fun b o h => h, (fun b o h => by cases h), (fun b o h => by cases h), ?_, ?_, fun n S es hn => by simp [hOf] at hn⟩ hsz hargs (fun _ _ => rfl)).mono ?_
 · intro n b hn; simp [hOf] at hn
 · intro n m x y hn; simp [hOf] at hn
 · rintro e w' ⟨M', ρ', r, ho, u, rfl, h1, h2, h3, h4, h5, h6, h7⟩
   refine ⟨M', ρ', r, ho, u, rfl, h1, h3, h4, h5, h7, h6, h6.os, h6.tape, h6.output, h6.size, fun k hk => ?_⟩
   have hb : w.heap[k]? = some (w.heap[k]'hk) := Array.getElem?_eq_getElem hk
   rw [h4.imm k _ (h1 k _ hb), hb]
theorem lend_ok {C : Ctx} {o : Oper} {nm : Nat} {v : Operand → SV} {x : Operand} {cargs : Array Operand} {tys : Array TypeId} (ho : o.op = .call { callee := .value x, args := cargs, argTypes := tys }) {f : FuncId} (hx : v x = .fn f [])
   {fn : Func} (hf : C.P.funcs[f]? = some fn) (hfn : fnOK fn = true) {args : List SV} {ty k N : Nat} {g : Nat → Nat → D} (hF : Spec C.P C.G f args [] (fun r hs => r = .sl 0 0 N ∧ hs = [some (.rows ty k N g)])) (hflat : ∀ i c, c < k → ∃ u, g i c = .val u) {bs : List (Nat × Blk)}
   (hlen : args.length = cargs.size)
   (hview : ∀ M F ρ (a : Act) h w, (∀ x, x ∈ o.op.operands → VR M ρ (v x) (a.eval x)) → HR M F ρ h w → (∀ p, p ∈ bs → h p.1 = some p.2) → ∀ (i : Nat) (y : SV), args[i]? = some y → ∃ c, cargs[i]? = some c ∧ VR (allM w) (fun _ => none) y (a.eval c)) :
   OpOK C o nm v bs (fun u wr => u = .sl nm 0 N ∧ wr = [(nm, some (.rows ty k N g))]) := by
 intro M F ρ a h w hv hG hH hbs hfr K Q hK
 have hvx := hv x (by rw [ho]; simp [Op.operands, Call.operands])
 rw [hx] at hvx
 obtain ⟨vs, hq, hvs, _⟩ := fn_case hvx
 have hvs0 : vs = #[] := Array.eq_empty_of_size_eq_zero hvs
 subst hvs0
 have hrun : (execOp a.eval o).run C.P w = .ok (.enter f (cargs.map a.eval)) w := by
   simp only [fnOK, Bool.and_eq_true, Bool.not_eq_true'] at hfn
   obtain ⟨n1, n2⟩ := hfn
   have n1 : fn.name ≠ "runtime.NumGoroutine" := by simpa using n1
   have n3 : fn.body ≠ none := by intro e; rw [e] at n2; cases n2
   simp [execOp, ho, resolve, hq, Deferred.ofValue, invoke, callFunc, hf, n1, n3]
 unfold Oper.wp
 rw [hrun, Oper.upon_enter]
 have hMall : M.le (allM w) := fun b o e => hH.imm b o e
 refine (spec_below hF (vs := cargs.map a.eval) (by simp [hlen]) (fun g ρ' => (hG g ρ').mono hMall (Names.le_refl _)) (fun i y hy => ?_)).mono ?_
 · obtain ⟨c, c1, c2⟩ := hview M F ρ a h w hv hH hbs i y hy
   exact ⟨a.eval c, by rw [Array.getElem?_map, c1]; rfl, c2⟩
 · rintro e w' ⟨M', ρ', r, hs, u, rfl, h1, h3, h4, h5, ⟨rfl, rfl⟩, hsame, hbel⟩
   have flatD : ∀ {A B : Imm} {i c : Nat} {z : Value}, c < k → DR A (g i c) z → DR B (g i c) z := by
     intro A B i c z hc hz
     obtain ⟨y, hy⟩ := hflat i c hc
     rw [hy] at hz ⊢
     cases hz
     exact .val _ (by assumption)
   cases h3 with
   | sl0 _ _ q hq0 hR aa =>
     obtain ⟨ρ2, k1, k2, k3, k4⟩ := (hH.keepBelow hbel).ghost hfr ty k g
     exact hK M ρ2 _ _ _ w' (Imm.le_refl _) k1 k2 ⟨rfl, rfl⟩ (.sl0 nm 0 _ k3 rfl aa) k4 hsame
   | sl _ _ _ q hq0 hlR hR h0 =>
     obtain ⟨q', hq', hr⟩ := h4.live 0 _ rfl
     rw [hq0] at hq'; obtain rfl := Option.some.inj hq'
     rcases hr with ⟨h00, _⟩ | ⟨_, hMq, _, ob, o3, o4⟩
     · omega
     have hge : w.heap.size ≤ q.b := by
       apply Nat.le_of_not_lt; intro hlt
       have := h1 q.b _ (Array.getElem?_eq_getElem hlt)
       rw [hMq] at this; cases this
     cases ob with
     | cells cur T fz =>
       obtain ⟨rfl, rfl, g1, g2, g3, g4⟩ := o4
       obtain ⟨ρ2, k1, k2, k3, k4⟩ := hH.adopt hbel hfr q h0 hge (blk := .rows T k N g) o3 (fun ρ' => ⟨rfl, rfl, g1, g2, g3, fun i c hi hc => let ⟨z, z1, z2⟩ := g4 i c hi hc; ⟨z, z1, flatD hc z2⟩⟩) (fun S es h => by cases h)
       exact hK M ρ2 _ _ _ w' (Imm.le_refl _) k1 k2 ⟨rfl, rfl⟩ (.sl nm 0 _ q k3 hlR hR h0) k4 hsame
     | _ => exact o4.elim
def stP (T : TypeId) (ds : List D) : MP := ⟨fun M v => ∃ b o cur fz, v = .pointer (some ⟨b, o, none⟩) ∧ M b = some (.cells cur T fz) ∧ ∀ (j : Nat) (d : D), ds[j]? = some d → ∃ u, cur[o + j]? = some u ∧ DR M d u,
 fun M M' v h ⟨b, o, cur, fz, e, hb, hc⟩ => ⟨b, o, cur, fz, e, h _ _ hb, fun j d hd => let ⟨u, a, r⟩ := hc j d hd; ⟨u, a, r.mono h⟩⟩, fun M v ⟨b, o, cur, fz, e, _⟩ => by rw [e]; rfl⟩
def fldP (T : TypeId) (c : Nat) (d : D) : MP := ⟨fun M v => ∃ b o cur fz u, v = .pointer (some ⟨b, o + c, none⟩) ∧ M b = some (.cells cur T fz) ∧ cur[o + c]? = some u ∧ DR M d u,
 fun M M' v h ⟨b, o, cur, fz, u, e, hb, hc, hd⟩ => ⟨b, o, cur, fz, u, e, h _ _ hb, hc, hd.mono h⟩, fun M v ⟨b, o, cur, fz, u, e, _⟩ => by rw [e]; rfl⟩
def stV (T : TypeId) (ds : List D) : SV := .d (.pr (stP T ds))
theorem stNil_ok {C : Ctx} {o : Oper} {nm : Nat} {v : Operand → SV} {y : Operand} (ho : o.op = .nilCheck y) {T : TypeId} {ds : List D} (hy : v y = stV T ds) : OpOK C o nm v [] (fun x wr => x = stV T ds ∧ wr = []) := by
 refine ok_pure fun M F ρ a h w hv hH _ => ?_
 have e1 := hv y (by rw [ho]; exact mem_ops1)
 rw [hy] at e1
 obtain ⟨b, off, cur, fz, hq, hb, hc⟩ := pr_case e1
 exact ⟨.pointer (some ⟨b, off, none⟩), by simp [execOp, ho, hq, Instr.sureAddr], pr_mk ⟨b, off, cur, fz, rfl, hb, hc⟩⟩
theorem stField_ok {C : Ctx} {o : Oper} {nm : Nat} {v : Operand → SV} {y : Operand} {t : TypeId} {f : Nat} (ho : o.op = .fieldAddr t y f) {T : TypeId} {ds : List D} {d : D} (hy : v y = stV T ds) {fs : Array Field} {fd : Field} {i : TypeInfo} (hfs : C.P.underlying t = some (.struct fs)) (hfd : fs[f]? = some fd) (hi : C.P.info? fd.type = some i) (hpos : i.size ≠ 0) (hd : ds[fd.offset]? = some d) :
   OpOK C o nm v [] (fun x wr => x = .d (.pr (fldP T fd.offset d)) ∧ wr = []) := by
 refine ok_pure fun M F ρ a h w hv hH _ => ?_
 have e1 := hv y (by rw [ho]; exact mem_ops1)
 rw [hy] at e1
 obtain ⟨b, off, cur, fz, hq, hb, hc⟩ := pr_case e1
 obtain ⟨u, hu, hr⟩ := hc _ _ hd
 refine ⟨.pointer (some ⟨b, off + fd.offset, none⟩), ?_, pr_mk ⟨b, off, cur, fz, u, rfl, hb, hu, hr⟩⟩
 have run : (Instr.fieldAt t (.pointer (some ⟨b, off, none⟩)) f).run C.P w = .ok (.pointer (some ⟨b, off + fd.offset, none⟩)) w := by
   simp [Instr.fieldAt, run_underlying hfs, hfd, Instr.sureAddr, fieldPlace, sizeOf, typeInfo, hi, hpos, Addr.add_lit]
 simp [execOp, ho, hq, run]
theorem stLoad_ok {C : Ctx} {o : Oper} {nm : Nat} {v : Operand → SV} {y : Operand} {t : TypeId} (ho : o.op = .load t y) {T : TypeId} {c : Nat} {d : D} (hy : v y = .d (.pr (fldP T c d))) (hagg : isAggB C.P t = some false) :
   OpOK C o nm v [] (fun x wr => x = .d d ∧ wr = []) := by
 refine ok_pure fun M F ρ a h w hv hH _ => ?_
 have e1 := hv y (by rw [ho]; simp [Op.operands])
 rw [hy] at e1
 obtain ⟨b, off, cur, fz, u, hq, hb, hu, hr⟩ := pr_case e1
 have hcell : w.cell? ⟨b, off + c, none⟩ = some u := by simp [World.cell?, hH.imm b _ hb, hu]
 have hrun : (loadVar t ⟨b, off + c, none⟩).run C.P w = .ok u w := by simp [loadVar, run_isAgg hagg, hcell]
 exact ⟨u, by simp [execOp, ho, hq, Instr.loadAt, Instr.sureAddr, hrun], .d _ _ hr⟩
section
variable {C : Ctx} {ops : List Oper} {i : Nat} {o : Oper} {l : List Oper} {t : Nat → SV} {h : Heap} {nx : Nat} {K : St → Prop} {acc : Option (List FP)} {y : Operand}
theorem sStNil {T : TypeId} {ds : List D} (d nm i' : Nat) (hi : i + 1 = i') (hnm : nx + 8 * i = nm) (hg : o.guard = none) (hdst : o.dst = some d) (hd : Nat.blt d C.sz = true) (ho : o.op = .nilCheck y) (hy : opv C t y = stV T ds)
   (k : wops C ops i' l ⟨upd t d (stV T ds), h, nx⟩ (acc.map (· ++ [([], [])])) K) : wops C ops i (o :: l) ⟨t, h, nx⟩ acc K := by
 subst hi; subst hnm
 refine st_ok (σ := ⟨t, h, nx⟩) hg (by unfold dstOK; rw [hdst]; exact hd) (stNil_ok (nm := nx + 8 * i) ho hy) (fun p hp => by cases hp) rfl ?_
 unfold St.app; rw [hdst]; exact k
theorem sStField {T : TypeId} {ds : List D} {e : D} {ty : TypeId} {f : Nat} {fs : Array Field} {fd : Field} {inf : TypeInfo} (d nm i' : Nat) (hi : i + 1 = i') (hnm : nx + 8 * i = nm) (hg : o.guard = none) (hdst : o.dst = some d) (hd : Nat.blt d C.sz = true) (ho : o.op = .fieldAddr ty y f) (hy : opv C t y = stV T ds)
   (hfs : C.P.underlying ty = some (.struct fs)) (hfd : fs[f]? = some fd) (hi : C.P.info? fd.type = some inf) (hpos : inf.size ≠ 0) (he : ds[fd.offset]? = some e)
   (k : wops C ops i' l ⟨upd t d (.d (.pr (fldP T fd.offset e))), h, nx⟩ (acc.map (· ++ [([], [])])) K) : wops C ops i (o :: l) ⟨t, h, nx⟩ acc K := by
 subst_vars
 refine st_ok (σ := ⟨t, h, nx⟩) hg (by unfold dstOK; rw [hdst]; exact hd) (stField_ok (nm := nx + 8 * i) ho hy hfs hfd hi hpos he) (fun p hp => by cases hp) rfl ?_
 unfold St.app; rw [hdst]; exact k
theorem sStLoad {T : TypeId} {c : Nat} {e : D} {ty : TypeId} (d nm i' : Nat) (hi : i + 1 = i') (hnm : nx + 8 * i = nm) (hg : o.guard = none) (hdst : o.dst = some d) (hd : Nat.blt d C.sz = true) (ho : o.op = .load ty y) (hy : opv C t y = .d (.pr (fldP T c e))) (hagg : isAggB C.P ty = some false)
   (k : wops C ops i' l ⟨upd t d (.d e), h, nx⟩ (acc.map (· ++ [([], [])])) K) : wops C ops i (o :: l) ⟨t, h, nx⟩ acc K := by
 subst hi; subst hnm
 refine st_ok (σ := ⟨t, h, nx⟩) hg (by unfold dstOK; rw [hdst]; exact hd) (stLoad_ok (nm := nx + 8 * i) ho hy hagg) (fun p hp => by cases hp) rfl ?_
 unfold St.app; rw [hdst]; exact k
end
end Go.Proofs.YtalhangpahffeaaDoor.Nice
namespace Go.Proofs.YtalhangpahffeaaDoor.Nice
open Go
set_option linter.unusedVariables false
set_option linter.unusedSimpArgs false
open Go.Lib in
theorem append_str {P : Program} {M F : Imm} {ρ : Names} {h : Heap} {w : World} (hH : HR M F ρ h w) {nm : Nat} (hfr : ∀ n, nm ≤ n → n < nm + 8 → ρ n = none) {t u ty e : TypeId} {i : TypeInfo} {zv : Value}
   (ht : P.underlying t = some (.slice e)) (hu : P.underlying u = some .string) (hi : P.info? e = some i) (hzv : i.zero = some zv) (hzs : zv.cells.size = i.size) (h1 : i.size = 1) {n len : Nat} {x : Own} (hn : h n ≠ none) (hx : ρ n = some x) (h0 : 0 < x.R) (hR : x.R ≤ maxLen) (hxk : x.k = i.size)
   {cur : Array Value} (hcur : w.heap[x.b]? = some (.cells cur e (0, 0))) (hsz : cur.size = x.R * x.k) (hlen : len ≤ x.R) {dblk sblk blk : Blk} {dl : List Value} (hdl : cur.toList.take (len * i.size) = dl) (hd : CR M ρ i.size dblk len dl) (s : ByteArray)
   (hs : CR M ρ i.size sblk s.size (strCells s)) (hcat : catBlk e i.size dblk len sblk s.size = some blk) (hb : (len + s.size) * i.bytes ≤ limB) (h63 : len + s.size ≤ maxLen) :
   ∃ ρ' v' w', ρ.le ρ' ∧ (∀ n, n < nm ∨ nm + 8 ≤ n → ρ' n = ρ n) ∧ (Builtin.append_ #[t, u] ty #[.slice (some ⟨x.b, 0, none⟩) len x.R, .string s]).run P w = .ok v' w' ∧ VR M ρ' (.sl nm 0 (len + s.size)) v' ∧
     HR M F ρ' (upd (upd h n none) nm (some blk)) w' ∧ Same w w' := by
 obtain ⟨hCR, hty⟩ := catBlk_ok (by omega) hd hs hcat
 have hdlen := hd.length
 by_cases hroom : len + s.size ≤ x.R
 · have hfit : len + s.size ≤ cur.size := by rw [hsz, hxk, h1]; omega
   have hr := run_append_room_string (P := P) w t u ty e i ht hu hi h1 x.b len x.R cur hcur s hroom hfit
   have hB : BR M ρ x blk (.cells (cur.toList.take len ++ strCells s ++ cur.toList.drop (len + s.size)).toArray e) := by
     rw [← hty]
     refine CR.BR (x := x) (l := dl ++ strCells s) (by rw [hxk]; exact hCR) ?_ ?_ hroom
     · rw [hxk, h1, Nat.mul_one, List.toList_toArray, show cur.toList.take len = dl by rw [← hdl, h1, Nat.mul_one]]
       rw [show len + s.size = (dl ++ strCells s).length by rw [List.length_append, hdlen, strCells_length, h1, Nat.mul_one]]
       exact List.take_left
     · rw [List.size_toArray, List.length_append, List.length_append, List.length_take, List.length_drop, Array.length_toList, strCells_length, hxk, h1] at *
       omega
   obtain ⟨ρ', k1, k2, k3, k4⟩ := hH.move hfr x hn hx h0 blk _ (setRow_heap w x.b cur _ e _ hcur) (fun b hb => setRow_other w x.b b _ hb) hB hCR.nofam (by simp)
   refine ⟨ρ', _, _, k1, k2, hr, ?_, k4, ⟨rfl, rfl, rfl, by simp⟩⟩
   have := VR.sl (M := M) nm 0 (len + s.size) x k3 (by omega) hR h0
   simpa using this
 · have h63' : ((len + s.size : Nat) : Int) ≤ 9223372036854775807 := by simp only [maxLen] at h63; omega
   have hge := grownCap_ge w (len + s.size) x.R e
   have hr := run_append_grow_string (P := P) w t u ty e i zv ht hu hi hzv ⟨x.b, 0, none⟩ len x.R dl hdlen (fun j u hj => by
       rw [Addr.add_lit, Nat.zero_add, cell_of_row w x.b _ cur e (0, 0) hcur]
       rw [← hdl, List.getElem?_take] at hj
       split at hj
       · rw [← Array.getElem?_toList]; exact hj
       · cases hj) s (by omega) h63' (growslice_fits (by omega) (by unfold limB at hb; exact hb))
   obtain ⟨ρ', k1, k2, k3, k4, k5⟩ := grown_block (hH.drop n) hfr (e := e) hzs (by omega) hge (grownCap_le_maxLen w (len + s.size) x.R e h63) hCR hty (dl.toArray ++ (strCells s).toArray) (by simp)
   exact ⟨ρ', _, _, k1, k2, hr, k3, k4, k5⟩
theorem strCR {M : Imm} {ρ : Names} (e : TypeId) (s : ByteArray) : CR M ρ 1 (.rows e 1 s.size (strBytesF s)) s.size (Go.Lib.strCells s) := by
 refine ⟨rfl, rfl, by rw [Go.Lib.strCells_length, Nat.mul_one], fun i c hi hc => ?_⟩
 obtain rfl : c = 0 := by omega
 have hi' : i < s.data.toList.length := by rw [Array.length_toList]; exact hi
 refine ⟨.int .u8 ((s.data.getD i 0).toNat : Int), ?_, .val _ rfl⟩
 unfold Go.Lib.strCells
 rw [List.getElem?_map, Nat.mul_one, Nat.add_zero, Array.getElem?_toList, Array.getElem?_eq_getElem (by simpa using hi')]
 simp only [Array.getD, Option.map_some]
 rw [dif_pos (show i < s.data.size from hi)]
 rfl
def appDst : Blk → TypeId → Nat → Option Blk
 | .rows ty k L f, e, len => if Nat.beq ty e && (Nat.beq k 1 && Nat.ble len L) then some (.rows e 1 len f) else none
 | .cells ty k xs, e, len => if Nat.beq ty e && (Nat.beq k 1 && Nat.beq (xs.take len).length len) then some (.cells e 1 (xs.take len)) else none
 | _, _, _ => none
theorem appStr_ok {C : Ctx} {o : Oper} {nm : Nat} {v : Operand → SV} {a b : Operand} {t u e : TypeId} (ho : o.op = .call { callee := .builtin .append, args := #[a, b], argTypes := #[t, u] }) (ht : C.P.underlying t = some (.slice e)) (hu : C.P.underlying u = some .string) {i : TypeInfo} {zv : Value} (hi : C.P.info? e = some i) (hzv : i.zero = some zv) (hzs : zv.cells.size = i.size) (h1 : i.size = 1)
   {n len : Nat} {s : ByteArray} {B dblk blk : Blk} (ha : v a = .sl n 0 len) (hb : v b = .d (.val (.string s))) (hdst : appDst B e len = some dblk) (hcat : catBlk e 1 dblk len (.rows e 1 s.size (strBytesF s)) s.size = some blk) (hl0 : 0 < len) (hbytes : (len + s.size) * i.bytes ≤ limB) (h63 : len + s.size ≤ maxLen) :
   OpOK C o nm v [(n, B)] (fun x w => x = .sl nm 0 (len + s.size) ∧ w = [(n, none), (nm, some blk)]) := by
 refine ok_value fun M F ρ a' h w hv hH hbs hfr => ?_
 have hav := hv a (by rw [ho]; simp [Op.operands, Call.operands])
 have hbv := hv b (by rw [ho]; simp [Op.operands, Call.operands])
 rw [ha] at hav; rw [hb] at hbv
 have hn := hbs (n, B) (List.mem_cons_self ..)
 have hn : h n = some B := hn
 generalize hq : a'.eval a = q at hav
 cases hav with
 | sl0 => omega
 | sl _ _ _ x hx hl hR h0 =>
   have hreal : ∃ cur, w.heap[x.b]? = some (.cells cur e (0, 0)) ∧ x.k = 1 ∧ cur.size = x.R * x.k ∧ CR M ρ 1 dblk len (cur.toList.take (len * 1)) := by
     cases B with
     | rows ty k L f =>
       simp only [appDst] at hdst
       split at hdst
       · next hc =>
         cases hdst
         simp only [Bool.and_eq_true] at hc
         have e1 := Nat.eq_of_beq_eq_true hc.1; subst e1
         have e2 := Nat.eq_of_beq_eq_true hc.2.1; subst e2
         have e3 := Nat.le_of_ble_eq_true hc.2.2
         obtain ⟨cur, k1, k2, k3, k4, k5, k6⟩ := hH.rows hn (by omega) hx
         refine ⟨cur, k1, k3, by rw [k4, k3], rfl, rfl, ?_, fun j c hj hc => ?_⟩
         · rw [List.length_take, Array.length_toList, k4]; omega
         · obtain ⟨z, z1, z2⟩ := k6 j c (by omega) hc
           exact ⟨z, by rw [List.getElem?_take_of_lt (by omega), Array.getElem?_toList]; exact z1, z2⟩
       · cases hdst
     | cells ty k xs =>
       simp only [appDst] at hdst
       split at hdst
       · next hc =>
         cases hdst
         simp only [Bool.and_eq_true] at hc
         have e1 := Nat.eq_of_beq_eq_true hc.1; subst e1
         have e2 := Nat.eq_of_beq_eq_true hc.2.1; subst e2
         have e3 := Nat.eq_of_beq_eq_true hc.2.2
         obtain ⟨cur, k1, k2, k3, k4, k5, k6⟩ := hH.cells hn hx
         refine ⟨cur, k1, k3, by rw [k4, k3], rfl, by rw [Nat.mul_one]; exact e3, ?_, fun j y hy => ?_⟩
         · rw [List.length_take] at e3
           rw [List.length_take, Array.length_toList]; omega
         · rw [List.getElem?_take] at hy ⊢
           split at hy
           · next hj => rw [if_pos (by omega), Array.getElem?_toList]; exact k6 j y hy
           · cases hy
       · cases hdst
     | _ => simp [appDst] at hdst
   obtain ⟨cur, c1, c2, c3, c4⟩ := hreal
   obtain ⟨ρ', v', w', k1, k2, k3, k4, k5, k6⟩ := append_str hH hfr (ty := o.type) ht hu hi hzv hzs h1 (by rw [hn]; simp) hx h0 hR (by rw [c2, h1]) c1 c3 (by omega) rfl (by rw [h1]; exact c4) s (by rw [h1]; exact strCR e s) (by rw [h1]; exact hcat) hbytes h63
   refine ⟨ρ', v', w', k1, k2, ?_, k4, k5, k6⟩
   unfold execOp
   simp only [ho, resolve, invoke, builtin, Sem.run_bind, Sem.run_pure, Result.andThen_ok, List.map_toArray, List.map_cons, List.map_nil, hq, hbv.val]
   have k3' : (Builtin.append_ #[t, u] o.type #[.slice (some ⟨x.b, 0 * x.k, none⟩) len (x.R - 0), .string s]).run C.P w = .ok v' w' := by simpa using k3
   simp only [k3', Result.andThen_ok, Sem.run_pure]
section
variable {C : Ctx} {ops : List Oper} {i : Nat} {o : Oper} {l : List Oper} {tm : Nat → SV} {h : Heap} {nx : Nat} {K : St → Prop} {acc : Option (List FP)}
theorem sApS {a b : Operand} {t u e : TypeId} {inf : TypeInfo} {zv : Value} {n len : Nat} {s : ByteArray} {B dblk blk : Blk} (d nm i' : Nat) (hi : i + 1 = i') (hnm : nx + 8 * i = nm) (hg : o.guard = none) (hdst : o.dst = some d) (hd : Nat.blt d C.sz = true) (ho : o.op = .call { callee := .builtin .append, args := #[a, b], argTypes := #[t, u] })
   (ht : C.P.underlying t = some (.slice e)) (hu : C.P.underlying u = some .string) (hinf : C.P.info? e = some inf) (hzv : inf.zero = some zv) (hzs : zv.cells.size = inf.size) (h1 : inf.size = 1) (ha : opv C tm a = .sl n 0 len) (hb : opv C tm b = .d (.val (.string s))) (hn : h n = some B) (hB : appDst B e len = some dblk)
   (hcat : catBlk e 1 dblk len (.rows e 1 s.size (strBytesF s)) s.size = some blk) (hl0 : 0 < len) (hbytes : (len + s.size) * inf.bytes ≤ limB) (h63 : len + s.size ≤ maxLen)
   (k : wops C ops i' l ⟨upd tm d (.sl nm 0 (len + s.size)), upd (upd h n none) nm (some blk), nx⟩ (acc.map (· ++ [([n], [n, nm])])) K) : wops C ops i (o :: l) ⟨tm, h, nx⟩ acc K := by
 subst hi; subst hnm
 refine st_ok (σ := ⟨tm, h, nx⟩) hg (by unfold dstOK; rw [hdst]; exact hd) (appStr_ok (nm := nx + 8 * i) ho ht hu hinf hzv hzs h1 ha hb hB hcat hl0 hbytes h63) (fun p hp => by rw [List.mem_singleton.1 hp]; exact hn) (by simp [keysIn]) ?_
 unfold St.app; rw [hdst]; exact k
end
theorem run_append_zeros {P : Program} {w : World} {t u ty e : TypeId} {q : IntKind} {i : TypeInfo} {z : Value} (ht : P.underlying t = some (.slice e)) (hu : P.underlying u = some (.int q)) (hi : P.info? e = some i) (hz : i.zero = some z) (hk : 0 < i.size) (n : Nat) (h0 : 0 < n) (h63 : (n : Int) ≤ 9223372036854775807) (hb : n * i.bytes ≤ 140737488355328) (a : Option Addr) :
   (Builtin.append_ #[t, u] ty #[.slice a 0 0, .int .i64 n]).run P w =
     .ok (.slice (some ⟨w.heap.size, 0, none⟩) n (grownCap w n 0 e)) (w.drew.alloc (.cells (Builtin.zeroCells z.cells n ++ Builtin.zeroCells z.cells (grownCap w n 0 e - n)) e)) := by
 have hw : IntKind.i64.wrap (n : Int) = n := wrap_in (by unfold inRange; omega)
 have hn : n ≠ 0 := by omega
 have hne : ¬ (n * i.size = 0) := by rw [Nat.mul_eq_zero]; omega
 have h1 : ¬ ((n : Int) < 0) := by omega
 have h2 : ¬ (281474976710656 < (n : Int) * (i.bytes : Int)) := by
   have : ((n * i.bytes : Nat) : Int) = (n : Int) * i.bytes := by simp
   omega
 have h3 : ¬ (9223372036854775807 < (n : Int)) := by omega
 have h48' : ¬ (281474976710656 < Builtin.nextslicecap n 0 * i.bytes) := by rw [nextslicecap_zero h0]; omega
 cases a <;> simp [Builtin.append_, run_underlying ht, run_underlying hu, sizeOf, typeInfo, zeroValue, hi, hz, Builtin.lenOf, asInt, asIntOf, hw, h1, h2, h3, hn, hne, h48', Question.forced, Builtin.firstCells, loadCells, loadCellsFrom, newRow, grownCap]
theorem appZero_ok {C : Ctx} {o : Oper} {nm : Nat} {v : Operand → SV} {a b : Operand} {t u e : TypeId} {q : IntKind} (ho : o.op = .call { callee := .builtin .append, args := #[a, b], argTypes := #[t, u] }) (ht : C.P.underlying t = some (.slice e)) (hu : C.P.underlying u = some (.int q)) {i : TypeInfo} {zv : Value} (hi : C.P.info? e = some i) (hzv : i.zero = some zv) (hzs : zv.cells.size = i.size) (hk : 0 < i.size)
   {n : Nat} {F0 : Nat → Nat → D} (ha : v a = .d .nils) (hb : v b = SV.i n) (h0 : 0 < n) (hF : ∀ M j c, c < i.size → ∃ z, zv.cells[c]? = some z ∧ DR M (F0 j c) z) (hbytes : n * i.bytes ≤ limB) (h63 : n ≤ maxLen) :
   OpOK C o nm v [] (fun x w => x = .sl nm 0 n ∧ w = [(nm, some (.rows e i.size n F0))]) := by
 refine ok_value fun M F ρ a' h w hv hH hbs hfr => ?_
 have hav := hv a (by rw [ho]; simp [Op.operands, Call.operands])
 have hbv := hv b (by rw [ho]; simp [Op.operands, Call.operands])
 rw [ha] at hav; rw [hb] at hbv
 obtain ⟨aa, hq⟩ : ∃ aa, a'.eval a = .slice aa 0 0 := by
   cases hav with | d _ _ hd => generalize a'.eval a = q at hd; cases hd with | nils aa => exact ⟨aa, rfl⟩
 have hrun := run_append_zeros (P := C.P) (w := w) (ty := o.type) ht hu hi hzv hk n h0 (by simp only [maxLen] at h63; omega) (by unfold limB at hbytes; exact hbytes) aa
 have hsize : (Builtin.zeroCells zv.cells n).size = n * i.size := by rw [size_zeroCells, hzs]
 have hCR : CR M ρ i.size (.rows e i.size n F0) n (Builtin.zeroCells zv.cells n).toList := by
   refine ⟨rfl, rfl, by rw [Array.length_toList, hsize], fun j c hj hc => ?_⟩
   obtain ⟨z, z1, z2⟩ := hF M j c hc
   refine ⟨z, ?_, z2⟩
   have hlt : j * i.size + c < n * i.size := by
     have : (j + 1) * i.size ≤ n * i.size := Nat.mul_le_mul_right _ hj
     rw [Nat.succ_mul] at this; omega
   have hmod : (j * i.size + c) % i.size = c := by rw [Nat.mul_comm, Nat.mul_add_mod, Nat.mod_eq_of_lt hc]
   unfold Builtin.zeroCells
   rw [Array.getElem?_toList, Array.getElem?_map, hzs, Array.getElem?_range, if_pos hlt]
   simp only [Option.map_some]
   rw [hmod]
   refine congrArg some ?_
   have hc' : c < zv.cells.size := (Array.getElem?_eq_some_iff.1 z1).1
   rw [getElem!_pos zv.cells c hc']
   exact (Array.getElem?_eq_some_iff.1 z1).2
 obtain ⟨ρ', k1, k2, k3, k4, k5⟩ := grown_block hH hfr (e := e) hzs h0 (grownCap_ge w n 0 e) (grownCap_le_maxLen w n 0 e h63) hCR rfl (Builtin.zeroCells zv.cells n) rfl
 refine ⟨ρ', _, _, k1, k2, ?_, k3, k4, k5⟩
 unfold execOp
 simp only [ho, resolve, invoke, builtin, Sem.run_bind, Sem.run_pure, Result.andThen_ok, List.map_toArray, List.map_cons, List.map_nil, hq, hbv.val, hrun]
theorem capNil_ok {C : Ctx} {o : Oper} {nm : Nat} {v : Operand → SV} {y : Operand} {t el : TypeId} (ho : o.op = .call { callee := .builtin .cap, args := #[y], argTypes := #[t] }) (hu : C.P.underlying t = some (.slice el)) (hy : v y = .d .nils) :
   OpOK C o nm v [] (fun x wr => x = SV.i 0 ∧ wr = []) := by
 refine ok_pure fun M F ρ a h w hv hH _ => ⟨.int .i64 0, ?_, .d _ _ (.val _ rfl)⟩
 have e1 := hv y (by rw [ho]; simp [Op.operands, Call.operands])
 rw [hy] at e1
 obtain ⟨aa, hq⟩ : ∃ aa, a.eval y = .slice aa 0 0 := by
   cases e1 with | d _ _ hd => generalize a.eval y = q at hd; cases hd with | nils aa => exact ⟨aa, rfl⟩
 have hr : (Builtin.cap_ #[t] o.type #[a.eval y]).run C.P w = .ok (.int .i64 0) w := by rw [hq]; simp [Builtin.cap_, run_underlying hu, goInt]
 unfold execOp
 simp only [ho, resolve, invoke, builtin, Sem.run_bind, Sem.run_pure, Result.andThen_ok, List.map_toArray, List.map_cons, List.map_nil, hr]
section
variable {C : Ctx} {ops : List Oper} {i : Nat} {o : Oper} {l : List Oper} {tm : Nat → SV} {h : Heap} {nx : Nat} {K : St → Prop} {acc : Option (List FP)}
theorem sCapNil {y : Operand} {t el : TypeId} (d nm i' : Nat) (hi : i + 1 = i') (hnm : nx + 8 * i = nm) (hg : o.guard = none) (hdst : o.dst = some d) (hd : Nat.blt d C.sz = true) (ho : o.op = .call { callee := .builtin .cap, args := #[y], argTypes := #[t] }) (ht : C.P.underlying t = some (.slice el)) (hy : opv C tm y = .d .nils)
   (k : wops C ops i' l ⟨upd tm d (SV.i 0), h, nx⟩ (acc.map (· ++ [([], [])])) K) : wops C ops i (o :: l) ⟨tm, h, nx⟩ acc K := by
 subst hi; subst hnm
 refine st_ok (σ := ⟨tm, h, nx⟩) hg (by unfold dstOK; rw [hdst]; exact hd) (capNil_ok (nm := nx + 8 * i) ho ht hy) (fun p hp => by cases hp) rfl ?_
 unfold St.app; rw [hdst]; exact k
theorem sApZ {a b : Operand} {t u e : TypeId} {q : IntKind} {inf : TypeInfo} {zv : Value} {n : Nat} (F0 : Nat → Nat → D) (d nm i' : Nat) (hi : i + 1 = i') (hnm : nx + 8 * i = nm) (hg : o.guard = none) (hdst : o.dst = some d) (hd : Nat.blt d C.sz = true) (ho : o.op = .call { callee := .builtin .append, args := #[a, b], argTypes := #[t, u] })
   (ht : C.P.underlying t = some (.slice e)) (hu : C.P.underlying u = some (.int q)) (hinf : C.P.info? e = some inf) (hzv : inf.zero = some zv) (hzs : zv.cells.size = inf.size) (hk : 0 < inf.size) (ha : opv C tm a = .d .nils) (hb : opv C tm b = SV.i n) (h0 : 0 < n) (hF : ∀ M j c, c < inf.size → ∃ z, zv.cells[c]? = some z ∧ DR M (F0 j c) z) (hbytes : n * inf.bytes ≤ limB) (h63 : n ≤ maxLen)
   (k : wops C ops i' l ⟨upd tm d (.sl nm 0 n), upd h nm (some (.rows e inf.size n F0)), nx⟩ (acc.map (· ++ [([], [nm])])) K) : wops C ops i (o :: l) ⟨tm, h, nx⟩ acc K := by
 subst hi; subst hnm
 refine st_ok (σ := ⟨tm, h, nx⟩) hg (by unfold dstOK; rw [hdst]; exact hd) (appZero_ok (nm := nx + 8 * i) ho ht hu hinf hzv hzs hk ha hb h0 hF hbytes h63) (fun p hp => by cases hp) (by simp [keysIn]) ?_
 unfold St.app; rw [hdst]; exact k
end
theorem rowsLess {C : Ctx} {c : Code} {Q : Exit → St → Prop} {t : Nat → SV} {h : Heap} {nx : Nat} (n L' : Nat) (g : Nat → Nat → D) {ty k L : Nat} {f : Nat → Nat → D} (hn : h n = some (.rows ty k L f)) (hl : L' ≤ L) (hf : ∀ i c, i < L' → c < k → f i c = g i c)
   (kk : W C c Q ⟨t, upd h n (some (.rows ty k L' g)), nx⟩) : W C c Q ⟨t, h, nx⟩ := by
 intro M F pin ρ a w hsr
 refine kk M F pin ρ a w ⟨⟨hsr.tm, hsr.sz, hsr.df, ?_, hsr.pn, hsr.pm, hsr.gl⟩, hsr.fr⟩
 refine hsr.hr.swap n hn (fun x obj hb => ?_) (fun h => by cases L with | zero => (obtain rfl : L' = 0 := by omega); rfl | succ L => cases h)
 cases obj with
 | cells cur T fz =>
   obtain ⟨h1, h2, h3, h4, h5, h6⟩ := hb
   exact ⟨h1, h2, h3, h4, by omega, fun i c hi hc => by rw [← hf i c hi hc]; exact h6 i c (by omega) hc⟩
 | _ => exact hb.elim
theorem sl_all {M F : Imm} {ρ : Names} {h : Heap} {w : World} (H : HR M F ρ h w) {m ty k L len : Nat} {f : Nat → Nat → D} (hm : h m = some (.rows ty k L f)) (hl : len ≤ L) {u : Value} (hu : VR M ρ (.sl m 0 len) u) : DR (allM w) (.vec k len f) u := by
 cases hu with
 | sl0 _ _ x hx hR aa => exact .vec0 _ _ _ _
 | sl _ _ _ x hx hlR hR h0 =>
   obtain ⟨x', hx', hr⟩ := H.live m _ hm
   rw [hx] at hx'; obtain rfl := Option.some.inj hx'
   rcases hr with ⟨h00, _⟩ | ⟨_, _, _, o, h3, h4⟩
   · omega
   cases o with
   | cells cur T fz =>
     obtain ⟨rfl, rfl, g1, g2, g3, g4⟩ := h4
     subst g1
     refine .vec x.k len f x.b (0 * x.k) _ cur T (0, 0) (fun i c => (cur[i * x.k + c]?).getD undef) h3 (by omega) (fun i c hi hc => ?_) (fun i c hi hc => ?_)
     · obtain ⟨v, v1, _⟩ := g4 i c (by omega) hc
       rw [Nat.zero_mul, Nat.zero_add, v1]; rfl
     · obtain ⟨v, v1, v2⟩ := g4 i c (by omega) hc
       simp only [v1, Option.getD_some]
       exact v2.mono (fun b o e => H.imm b o e)
   | _ => exact h4.elim
section
variable {C : Ctx} {ops : List Oper} {i : Nat} {o : Oper} {l : List Oper} {tm : Nat → SV} {h : Heap} {nx : Nat} {K : St → Prop} {acc : Option (List FP)}
theorem sLend {f : FuncId} {args : List SV} {ty k N : Nat} {g : Nat → Nat → D} (hF : Spec C.P C.G f args [] (fun r hs => r = .sl 0 0 N ∧ hs = [some (.rows ty k N g)])) (hflat : ∀ i c, c < k → ∃ u, g i c = .val u) (bs : List (Nat × Blk)) {x : Operand} {cargs : Array Operand} {tys : Array TypeId} {fn : Func} (d nm i' : Nat) (hi : i + 1 = i') (hnm : nx + 8 * i = nm) (hg : o.guard = none) (hdst : o.dst = some d) (hd : Nat.blt d C.sz = true)
   (ho : o.op = .call { callee := .value x, args := cargs, argTypes := tys }) (hx : opv C tm x = .fn f []) (hf : C.P.funcs[f]? = some fn) (hfn : fnOK fn = true) (hlen : args.length = cargs.size) (hbs : bsHeap h bs)
   (hview : ∀ M F ρ (a : Act) h w, (∀ x, x ∈ o.op.operands → VR M ρ (opv C tm x) (a.eval x)) → HR M F ρ h w → (∀ p, p ∈ bs → h p.1 = some p.2) → ∀ (i : Nat) (y : SV), args[i]? = some y → ∃ c, cargs[i]? = some c ∧ VR (allM w) (fun _ => none) y (a.eval c))
   (kk : wops C ops i' l ⟨upd tm d (.sl nm 0 N), upd h nm (some (.rows ty k N g)), nx⟩ (acc.map (· ++ [(bs.map (·.1), [nm])])) K) : wops C ops i (o :: l) ⟨tm, h, nx⟩ acc K := by
 subst hi; subst hnm
 refine st_ok (σ := ⟨tm, h, nx⟩) hg (by unfold dstOK; rw [hdst]; exact hd) (lend_ok (nm := nx + 8 * i) ho hx hf hfn hF hflat hlen hview) (bsHeap_mem hbs) (by simp [keysIn]) ?_
 unfold St.app; rw [hdst]; exact kk
end
theorem st_all {M F : Imm} {ρ ρ' : Names} {h : Heap} {w : World} (H : HR M F ρ h w) {n T k : Nat} {xs : List SV} {ds : List D} (hn : h n = some (.cells T k xs)) {v : Value} (hv : VR M ρ (.ptr n 0 0) v) (hd : ∀ (j : Nat) (d : D), ds[j]? = some d → ∃ s, xs[j]? = some s ∧ ∀ u, VR M ρ s u → DR (allM w) d u) : VR (allM w) ρ' (stV T ds) v := by
 cases hv with
 | ptr _ _ _ x hx =>
   obtain ⟨x', hx', hr⟩ := H.live n _ hn
   rw [hx] at hx'; obtain rfl := Option.some.inj hx'
   rcases hr with ⟨_, hg⟩ | ⟨h0, _, _, o, h3, h4⟩
   · simp [Blk.ghost] at hg
   cases o with
   | cells cur T' fz =>
     obtain ⟨rfl, rfl, g1, g2, g3, g4⟩ := h4
     refine pr_mk ⟨x.b, 0, cur, (0, 0), by simp, h3, fun j d hj => ?_⟩
     obtain ⟨s, s1, s2⟩ := hd j d hj
     obtain ⟨u, u1, u2⟩ := g4 j s s1
     exact ⟨u, by rw [Nat.zero_add]; exact u1, s2 u u2⟩
   | _ => exact h4.elim
end Go.Proofs.YtalhangpahffeaaDoor.Nice
