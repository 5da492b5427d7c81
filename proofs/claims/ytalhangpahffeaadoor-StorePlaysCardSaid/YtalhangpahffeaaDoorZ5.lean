/- Part 5 of the proof of StorePlays: FamRow, RowOps, LastOp, Bits, PackPlain, ZigPlain. -/
import Derived.Test.YtalhangpahffeaaDoorZ4
import Derived.WalkKit
import Derived.Laws.BitsAllLaws
import Derived.Laws.BitsLemmas
namespace Go.Proofs.YtalhangpahffeaaDoor.Nice
open Go
set_option linter.unusedVariables false
set_option linter.unusedSimpArgs false
def shutF (S : List Nat) (w : World) (F : Imm) : Imm := fun b => if b ∈ S then w.heap[b]? else F b
theorem shutF_eq (S : List Nat) (w : World) (F : Imm) (b : Nat) : shutF S w F b = if b ∈ S then w.heap[b]? else F b := rfl
theorem fam_out {M F : Imm} {ρ : Names} {h : Heap} {w : World} (H : HR M F ρ h w) {n : Nat} {S : List Nat} {es : Fam} (hn : h n = some (.fam S es)) {x : Own} (hx : ρ n = some x) {o : Obj} (ho : w.heap[x.b]? = some o)
   {blk : Blk} (hB : BR M ρ x blk o) (hnf : ∀ S es, blk ≠ .fam S es) : HR M (shutF S w F) ρ (upd h n (some blk)) w := by
 obtain ⟨x', hx', h0, g1, g2, g3, g4⟩ := H.fam n S es hn
 rw [hx] at hx'; obtain rfl := Option.some.inj hx'
 obtain ⟨hM, hF, _⟩ := H.famBR hn hx
 have ne : ∀ m, upd h n (some blk) m ≠ none → h m ≠ none := by
   intro m hm e
   rw [upd_eq] at hm; split at hm
   · next e2 => subst e2; rw [hn] at e; cases e
   · exact hm e
 have out : ∀ m z, h m ≠ none → ρ m = some z → 0 < z.R → shutF S w F z.b = F z.b := by
   intro m z hm hz hz0
   rw [shutF_eq, if_neg (g2 m z hm hz hz0)]
 refine ⟨H.imm, fun b o hb => ?_, fun b o hb => ?_, fun m b hm => ?_, fun p q y z hp hq => H.sep p q y z (ne p hp) (ne q hq), fun m S' es' hm => ?_⟩
 · rw [shutF_eq] at hb
   split at hb
   · exact hb
   · exact H.frm b o hb
 · rw [shutF_eq] at hb
   split at hb
   · next e => exact (g1 b e).1
   · exact H.dis b o hb
 · rw [upd_eq] at hm
   split at hm
   · next e => subst e; cases hm; exact ⟨x, hx, .inr ⟨h0, hM, by rw [out m x (by rw [hn]; simp) hx h0]; exact hF, _, ho, hB⟩⟩
   · next e =>
     obtain ⟨z, hz, hr⟩ := H.live m b hm
     refine ⟨z, hz, ?_⟩
     rcases hr with hr | ⟨k0, k1, k2, o', k3, k4⟩
     · exact .inl hr
     · exact .inr ⟨k0, k1, by rw [out m z (by rw [hm]; simp) hz k0]; exact k2, o', k3, k4⟩
 · rw [upd_eq] at hm
   split at hm
   · exact absurd (Option.some.inj hm) (hnf S' es')
   · next e =>
     obtain ⟨z, hz, k0, k1, k2, k3, k4⟩ := H.fam m S' es' hm
     refine ⟨z, hz, k0, fun b hb => ⟨(k1 b hb).1, ?_, (k1 b hb).2.2⟩, fun p y hp => k2 p y (ne p hp), fun p S2 e2 hp hq => ?_, k4⟩
     · rw [shutF_eq, if_neg (k3 n S es (Ne.symm e) hn b hb)]; exact (k1 b hb).2.1
     · rw [upd_eq] at hq
       split at hq
       · exact absurd (Option.some.inj hq) (hnf S2 e2)
       · exact k3 p S2 e2 hp hq
theorem fam_in {M F : Imm} {ρ ρ' : Names} {h h' : Heap} {w w' : World} (H : HR M F ρ h w) {n nm : Nat} {S : List Nat} {es es2 : Fam} (hn : h n = some (.fam S es)) {x y : Own} (hx : ρ n = some x)
   (H2 : HR M (shutF S w F) ρ' h' w') {blk : Blk} (hnm : h' nm = some blk) (hy : ρ' nm = some y) (h0 : 0 < y.R) {o o2 : Obj} (ho : w.heap[x.b]? = some o) (ho2 : w'.heap[y.b]? = some o2) (hB : BR M ρ' y (.fam S es2) o2) (hsz : w.heap.size ≤ w'.heap.size)
   (hsh : ∀ (j : Nat) (k : Value) (s : SV) (bl : List InB), es2.at j k s bl → (∃ k', es.at j k' s bl ∧ ∀ v, entry es.ly o j = some v → entry es2.ly o2 j = some v) ∨ (bl = [] ∧ ∃ v, entry es2.ly o2 j = some v ∧ VR M (fun _ => none) s v)) :
   HR M F ρ' (upd h' nm (some (.fam S es2))) w' := by
 obtain ⟨x', hx', _, g1, g2, g3, ρs, r1, r2⟩ := H.fam n S es hn
 rw [hx] at hx'; obtain rfl := Option.some.inj hx'
 have ne : ∀ m, upd h' nm (some (.fam S es2)) m ≠ none → h' m ≠ none := by
   intro m hm e
   rw [upd_eq] at hm; split at hm
   · next e2 => subst e2; rw [hnm] at e; cases e
   · exact hm e
 have obj : ∀ b, b ∈ S → ∃ ob, w.heap[b]? = some ob := fun b hb => ⟨_, Array.getElem?_eq_getElem (g1 b hb).2.2⟩
 have out : ∀ b, shutF S w F b = none → b ∉ S ∧ F b = none := by
   intro b hb
   rw [shutF_eq] at hb
   split at hb
   · next e => obtain ⟨ob, e2⟩ := obj b e; rw [e2] at hb; cases hb
   · next e => exact ⟨e, hb⟩
 have notS : ∀ m z, h' m ≠ none → ρ' m = some z → 0 < z.R → z.b ∉ S ∧ M z.b = none ∧ F z.b = none := by
   intro m z hm hz hz0
   obtain ⟨b, hb⟩ := Option.ne_none_iff_exists'.1 hm
   obtain ⟨z', hz', hr⟩ := H2.live m b hb
   rw [hz] at hz'; obtain rfl := Option.some.inj hz'
   rcases hr with ⟨h00, _⟩ | ⟨_, k1, k2, _⟩
   · omega
   · exact ⟨(out _ k2).1, k1, (out _ k2).2⟩
 have inF : ∀ b o, F b = some o → shutF S w F b = some o := by
   intro b o hb
   rw [shutF_eq, if_neg]
   · exact hb
   · intro e; rw [(g1 b e).2.1] at hb; cases hb
 have kept : ∀ b, b ∈ S → w'.heap[b]? = w.heap[b]? := by
   intro b hb
   obtain ⟨ob, e2⟩ := obj b hb
   rw [H2.frm b ob (by rw [shutF_eq, if_pos hb]; exact e2), e2]
 refine ⟨H2.imm, fun b o hb => H2.frm b o (inF b o hb), fun b o hb => H2.dis b o (inF b o hb), fun m b hm => ?_, fun p q y z hp hq => H2.sep p q y z (ne p hp) (ne q hq), fun m S' es' hm => ?_⟩
 · rw [upd_eq] at hm
   split at hm
   · next e =>
     subst e; cases hm
     obtain ⟨_, k1, k2⟩ := notS m y (by rw [hnm]; simp) hy h0
     exact ⟨y, hy, .inr ⟨h0, k1, k2, _, ho2, hB⟩⟩
   · next e =>
     obtain ⟨z, hz, hr⟩ := H2.live m b hm
     refine ⟨z, hz, ?_⟩
     rcases hr with hr | ⟨k0, k1, k2, o', k3, k4⟩
     · exact .inl hr
     · exact .inr ⟨k0, k1, (out _ k2).2, o', k3, k4⟩
 · rw [upd_eq] at hm
   split at hm
   · next e =>
     subst e; cases hm
     refine ⟨y, hy, h0, fun b hb => ⟨(g1 b hb).1, (g1 b hb).2.1, by have := (g1 b hb).2.2; omega⟩, fun p z hp hz hz0 => (notS p z (ne p hp) hz hz0).1, fun p S2 e2 hp hq b hb hb2 => ?_, ?_⟩
     · rw [upd_other _ _ _ _ hp] at hq
       obtain ⟨z, hz, k0, k1, _⟩ := H2.fam p S2 e2 hq
       exact (out _ (k1 b hb2).2.1).1 hb
     · let ρs2 : Nat → Names := fun j => open Classical in if ∃ k s bl, es2.at j k s bl ∧ bl = [] ∧ ∃ v, entry es2.ly o2 j = some v ∧ VR M (fun _ => none) s v then fun m => if ∃ k s bl, es2.at j k s bl ∧ bl = [] ∧ ∃ v, entry es2.ly o2 j = some v ∧ VR M (fun _ => none) s v then ρs j m else none else ρs j
       refine ⟨ρs, fun j k s bl hj => ?_, ?_⟩
       · rcases hsh j k s bl hj with ⟨k', e1, e2⟩ | ⟨rfl, v, e1, e2⟩
         · obtain ⟨⟨ob, v, f1, f2, f3⟩, f4⟩ := r1 j k' s bl e1
           rw [ho] at f1; cases f1
           refine ⟨⟨o2, v, ho2, e2 v f2, f3⟩, fun i c hc => ?_⟩
           obtain ⟨z, z1, z2⟩ := f4 i c hc
           refine ⟨z, z1, ?_⟩
           rcases z2 with z2 | ⟨z2, z3, o', z4, z5⟩
           · exact .inl z2
           · exact .inr ⟨z2, z3, o', by rw [kept _ z3]; exact z4, z5⟩
         · exact ⟨⟨o2, v, ho2, e1, e2.mono (Imm.le_refl _) (fun _ _ h => by cases h)⟩, fun i c hc => by simp at hc⟩
       · intro j j' k k' s s' bl bl' i i' c c' z z' hj hj' hc hc'
         rcases hsh j k s bl hj with ⟨k1, e1, _⟩ | ⟨rfl, _⟩
         · rcases hsh j' k' s' bl' hj' with ⟨k2, e2, _⟩ | ⟨rfl, _⟩
           · exact r2 j j' k1 k2 s s' bl bl' i i' c c' z z' e1 e2 hc hc'
           · simp at hc'
         · simp at hc
   · next e =>
     obtain ⟨z, hz, k0, k1, k2, k3, k4⟩ := H2.fam m S' es' hm
     refine ⟨z, hz, k0, fun b hb => ⟨(k1 b hb).1, (out _ (k1 b hb).2.1).2, (k1 b hb).2.2⟩, fun p y hp => k2 p y (ne p hp), fun p S2 e2 hp hq b hb => ?_, k4⟩
     rw [upd_eq] at hq
     split at hq
     · cases hq; exact (out _ (k1 b hb).2.1).1
     · exact k3 p S2 e2 hp hq b hb
theorem entry_rows {ty k : Nat} {cur : Array Value} {T : TypeId} {fz : Nat × Nat} {j : Nat} {v : Value} (h : entry (some (ty, k)) (.cells cur T fz) j = some v) : (j + 1) * k ≤ cur.size ∧ v = .agg (cur.extract (j * k) (j * k + k)) := by
 simp only [entry] at h
 split at h
 · next e => cases h; exact ⟨e, rfl⟩
 · cases h
theorem entry_cell {ty k : Nat} {cur : Array Value} {T : TypeId} {fz : Nat × Nat} {j : Nat} {v : Value} (h : entry (some (ty, k)) (.cells cur T fz) j = some v) {M : Imm} {ρ : Names} {cells : List SV} (hv : VR M ρ (.agg cells) v) :
   cells.length = k ∧ ∀ (c : Nat) (s : SV), cells[c]? = some s → ∃ u, cur[j * k + c]? = some u ∧ VR M ρ s u := by
 obtain ⟨h1, rfl⟩ := entry_rows h
 obtain ⟨vs, e, hs, hr⟩ := agg_case hv
 cases e
 have hk : k ≤ cur.size - j * k := by rw [Nat.succ_mul] at h1; omega
 have hsz : (cur.extract (j * k) (j * k + k)).size = k := by
   rw [Array.size_extract, Nat.min_eq_left (by rw [Nat.succ_mul] at h1; omega)]; omega
 refine ⟨by rw [← hs, hsz], fun c s hc => ?_⟩
 obtain ⟨u, u1, u2⟩ := hr c s hc
 have hck : c < k := by
   have := (Array.getElem?_eq_some_iff.1 u1).1; omega
 refine ⟨u, ?_, u2⟩
 rw [Array.getElem?_extract, if_pos (by rw [Nat.succ_mul] at h1; omega)] at u1
 exact u1
theorem HR.famRows {M F : Imm} {ρ : Names} {h : Heap} {w : World} (H : HR M F ρ h w) {n : Nat} {S : List Nat} {es : Fam} (hn : h n = some (.fam S es)) {ty k : Nat} (hl : es.ly = some (ty, k)) {x : Own} (hx : ρ n = some x) :
   0 < x.R ∧ ∃ cur, w.heap[x.b]? = some (.cells cur ty (0, 0)) ∧ x.k = k ∧ cur.size = x.R * k ∧ es.es.length ≤ x.R ∧ BR M ρ x (.fam S es) (.cells cur ty (0, 0)) := by
 obtain ⟨x', hx', h0, _⟩ := H.fam n S es hn
 rw [hx] at hx'; obtain rfl := Option.some.inj hx'
 obtain ⟨_, _, o, ho, hB⟩ := H.famBR hn hx
 cases o with
 | cells cur T fz =>
   obtain ⟨⟨k1, k2, k3, k4⟩, k5⟩ := id hB
   rw [hl] at k1; cases k1; subst k2
   exact ⟨h0, cur, ho, rfl, k3, k4, hB⟩
 | map ents cl => have e0 := hB.1; rw [hl] at e0; cases e0
 | _ => exact hB.elim
theorem HR.famCell {M F : Imm} {ρ : Names} {h : Heap} {w : World} (H : HR M F ρ h w) {n : Nat} {S : List Nat} {es : Fam} (hn : h n = some (.fam S es)) {ty k : Nat} (hl : es.ly = some (ty, k)) {x : Own} (hx : ρ n = some x)
   {j c : Nat} {cells : List SV} {u : SV} (hu : cells[c]? = some u) (hj : (j, .agg cells) ∈ es.op ∨ ∃ key bl d, es.at j key (.agg cells) bl ∧ u = .d d) : ∃ v, w.cell? ⟨x.b, j * x.k + c, none⟩ = some v ∧ VR M ρ u v := by
 obtain ⟨h0, cur, ho, rfl, hs, hle, hB⟩ := H.famRows hn hl hx
 rcases hj with hj | ⟨key, bl, d, hj, rfl⟩
 · obtain ⟨v, e1, e2⟩ := hB.open hj
   rw [hl] at e1
   obtain ⟨_, e3⟩ := entry_cell e1 e2
   obtain ⟨u', u1, u2⟩ := e3 c u hu
   exact ⟨u', by simp [World.cell?, ho, u1], u2⟩
 · obtain ⟨x', hx', _, _, _, _, ρs, r1, _⟩ := H.fam n S es hn
   rw [hx] at hx'; obtain rfl := Option.some.inj hx'
   obtain ⟨⟨ob, v, f1, e1, e2⟩, _⟩ := r1 j key _ bl hj
   rw [ho] at f1; cases f1
   rw [hl] at e1
   obtain ⟨_, e3⟩ := entry_cell e1 e2
   obtain ⟨u', u1, u2⟩ := e3 c _ hu
   refine ⟨u', by simp [World.cell?, ho, u1], ?_⟩
   cases u2 with | d _ _ hd => exact .d _ _ hd
theorem one_cells {v : Value} (h : v.oneCell' = true) : v.cells = #[v] := by
 cases v <;> first | rfl | cases h
theorem loadF_ok {C : Ctx} {o : Oper} {nm : Nat} {v : Operand → SV} {t : TypeId} {a : Operand} (ho : o.op = .load t a) {n j c : Nat} (ha : v a = .ptr n j c) (hagg : isAggB C.P t = some false) {S : List Nat} {es : Fam} {ty k : Nat} (hl : es.ly = some (ty, k)) {cells : List SV} {u : SV}
   (hu : cells[c]? = some u) (hj : (j, .agg cells) ∈ es.op ∨ ∃ key bl d, es.at j key (.agg cells) bl ∧ u = .d d) : OpOK C o nm v [(n, .fam S es)] (fun x wr => x = u ∧ wr = []) := by
 refine ok_pure fun M F ρ a' h w hv hH hbs => ?_
 have e1 := hv a (by rw [ho]; simp [Op.operands]); rw [ha] at e1
 generalize hq : a'.eval a = q at e1
 cases e1 with
 | ptr _ _ _ x hx =>
   obtain ⟨z, z1, z2⟩ := hH.famCell (hbs _ (List.mem_singleton.2 rfl)) hl hx hu hj
   have hrun : (loadVar t ⟨x.b, j * x.k + c, none⟩).run C.P w = .ok z w := by simp [loadVar, run_isAgg hagg, z1]
   exact ⟨z, by simp [execOp, ho, hq, Instr.loadAt, Instr.sureAddr, hrun], z2⟩
theorem storeF_ok {C : Ctx} {o : Oper} {nm : Nat} {v : Operand → SV} {t : TypeId} {a y : Operand} (ho : o.op = .store t a y) {n j c : Nat} (ha : v a = .ptr n j c) {inf : TypeInfo} (hi : C.P.info? t = some inf) (h1 : inf.size = 1) {u u2 : SV} (hy : v y = u) (hone : u.one = true) (hw : ∀ M ρ z, VR M ρ u z → VR M ρ u2 z)
   {S : List Nat} {es : List (Value × SV × List InB)} {ty k : Nat} {cells : List SV} (hc : c < cells.length) : OpOK C o nm v [(n, .fam S ⟨es, [(j, .agg cells)], some (ty, k)⟩)] (fun x wr => x = .any ∧ wr = [(n, some (.fam S ⟨es, [(j, .agg (cells.set c u2))], some (ty, k)⟩))]) := by
 refine ok_skip fun M F ρ a' h w hv hH hbs hfr => ?_
 have e1 := hv a (by rw [ho]; exact mem_ops2 (.inl rfl)); rw [ha] at e1
 have e2 := hv y (by rw [ho]; exact mem_ops2 (.inr rfl)); rw [hy] at e2
 have hn := hbs _ (List.mem_singleton.2 rfl)
 have hn : h n = some (.fam S ⟨es, [(j, .agg cells)], some (ty, k)⟩) := hn
 generalize hq : a'.eval a = q at e1
 generalize hz : a'.eval y = z at e2
 have hz1 : z.oneCell' = true := e2.one hone
 cases e1 with
 | ptr _ _ _ x hx =>
   obtain ⟨h0, cur, ho1, rfl, hs, hle, hB⟩ := hH.famRows hn rfl hx
   obtain ⟨ev, ee1, ee2⟩ := hB.open (p := (j, .agg cells)) (List.mem_singleton.2 rfl)
   replace ee1 : entry (some (ty, x.k)) (.cells cur ty (0, 0)) j = some ev := ee1
   obtain ⟨hlen, hcell⟩ := entry_cell ee1 ee2
   obtain ⟨hsize, _⟩ := entry_rows ee1
   have hpos : j * x.k + c < cur.size := by rw [Nat.succ_mul] at hsize; omega
   have hst := run_storeCells_at C.P x.b (j * x.k + c) ty [z] 0 cur w ho1 (by simp; omega) (by simpa using hz1)
   rw [Nat.add_zero] at hst
   have hzc : z.cells = #[z] := one_cells hz1
   let cur2 : Array Value := (cur.toList.take (j * x.k + c) ++ [z] ++ cur.toList.drop (j * x.k + c + [z].length)).toArray
   have hget : ∀ p, cur2[p]? = if p = j * x.k + c then some z else cur[p]? := by
     intro p
     show (cur.toList.take (j * x.k + c) ++ [z] ++ cur.toList.drop (j * x.k + c + [z].length)).toArray[p]? = _
     rw [List.getElem?_toArray, seg_get _ _ _ _ (by simp; omega)]
     by_cases e : p < j * x.k + c
     · rw [if_pos e, if_neg (by omega), Array.getElem?_toList]
     · by_cases e2 : p = j * x.k + c
       · subst e2; simp
       · rw [if_neg e, if_neg (by simp; omega), if_neg e2, Array.getElem?_toList]
   have hsz2 : cur2.size = cur.size := by
     show (cur.toList.take (j * x.k + c) ++ [z] ++ cur.toList.drop (j * x.k + c + [z].length)).toArray.size = _
     simp; omega
   refine ⟨ρ, w.setRow x.b cur2, Names.le_refl _, fun _ _ => rfl, ?_, ?_, ⟨rfl, rfl, rfl, by simp⟩⟩
   · have hst' : (storeCells ⟨x.b, j * x.k + c, none⟩ [z]).run C.P w = .ok () (w.setRow x.b cur2) := hst
     simp [execOp, ho, Instr.storeAt, hq, hz, Instr.sureAddr, storeVar, sizeOf, typeInfo, hi, h1, hzc, hst']
   · have ho2 : (w.setRow x.b cur2).heap[x.b]? = some (.cells cur2 ty (0, 0)) := setRow_heap w x.b cur cur2 ty (0, 0) ho1
     have hB0 : ∀ cc : Array Value, cc.size = cur.size → BR M ρ x (.cells ty x.k []) (.cells cc ty (0, 0)) := fun cc hcc => ⟨rfl, rfl, rfl, by rw [hcc]; exact hs, Nat.zero_le _, fun j s hj => by simp at hj⟩
     have H1 := fam_out hH hn hx ho1 (hB0 cur rfl) (fun S es h => by cases h)
     have H2 := H1.put n x (by simp) hx h0 (.cells ty x.k []) (.cells cur2 ty (0, 0)) ho2 (fun b hb => setRow_other w x.b b cur2 hb) (hB0 cur2 hsz2)
     have hent : ∀ j', j' ≠ j → entry (some (ty, x.k)) (.cells cur2 ty (0, 0)) j' = entry (some (ty, x.k)) (.cells cur ty (0, 0)) j' := by
       intro j' hj'
       simp only [entry, hsz2]
       split
       · next hb =>
         congr 2
         apply Array.ext_getElem?
         intro p
         rw [Array.getElem?_extract, Array.getElem?_extract, hsz2]
         split
         · next hp =>
           rw [hget, if_neg]
           intro e
           have hpk : p < x.k := by omega
           have hck : c < x.k := by omega
           rcases Nat.lt_or_gt_of_ne hj' with hlt | hgt
           · have := Nat.mul_le_mul_right x.k hlt
             rw [Nat.succ_mul] at this; omega
           · have := Nat.mul_le_mul_right x.k hgt
             rw [Nat.succ_mul] at this; omega
         · rfl
       · rfl
     have := fam_in (es2 := ⟨es, [(j, .agg (cells.set c u2))], some (ty, x.k)⟩) hH hn hx H2 (upd_same _ _ _) hx h0 ho1 ho2 ⟨⟨rfl, rfl, by rw [hsz2]; exact hs, hle⟩, fun p hp => ?_⟩ (by simp) (fun j' k' s bl hj' => ?_)
     · have e3 : ∀ b1 b2 b3, upd (upd (upd h n b1) n b2) n b3 = upd h n b3 := by
         intro b1 b2 b3; funext m; simp only [upd_eq]; split <;> rfl
       rw [e3] at this
       exact this
     · rw [List.mem_singleton.1 hp]
       refine ⟨.agg (cur2.extract (j * x.k) (j * x.k + x.k)), by simp only [entry, hsz2]; rw [if_pos hsize], .aggOf _ _ ?_ fun i s hi => ?_⟩
       · rw [List.length_set, hlen, Array.size_extract, hsz2, Nat.min_eq_left (by rw [Nat.succ_mul] at hsize; omega)]; omega
       · have hik : i < x.k := by
           have := (List.getElem?_eq_some_iff.1 hi).1
           rw [List.length_set] at this; omega
         rw [Array.getElem?_extract, hsz2, if_pos (by rw [Nat.succ_mul] at hsize; omega), hget]
         rw [List.getElem?_set] at hi
         split at hi
         · next hci =>
           subst hci
           cases hi
           exact ⟨z, by simp, hw _ _ _ e2⟩
         · next hci =>
           rw [if_neg (by omega)]
           exact hcell i s hi
     · have hne : j' ≠ j := fun e => hj'.2 _ (List.mem_singleton.2 rfl) e.symm
       refine .inl ⟨k', ⟨hj'.1, fun p hp => ?_⟩, fun v hv => ?_⟩
       · rw [List.mem_singleton.1 hp]; exact Ne.symm hne
       · show entry (some (ty, x.k)) (.cells cur2 ty (0, 0)) j' = some v
         rw [hent j' hne]; exact hv
theorem idxF_ok {C : Ctx} {o : Oper} {nm : Nat} {v : Operand → SV} {t el : TypeId} {y ix : Operand} (ho : o.op = .indexAddr t y ix) (ht : C.P.underlying t = some (.slice el)) {inf : TypeInfo} (hi : C.P.info? el = some inf) {n len : Nat} {q : Int} (hy : v y = .sl n 0 len) (hix : v ix = SV.i q) {S : List Nat} {es : Fam} {ty : Nat} (hl : es.ly = some (ty, inf.size)) (h0 : 0 ≤ q) (h1 : q < len) :
   OpOK C o nm v [(n, .fam S es)] (fun x wr => x = .ptr n q.toNat 0 ∧ wr = []) := by
 refine ok_pure fun M F ρ a h w hv hH hbs => ?_
 have e1 := hv y (by rw [ho]; exact mem_ops2 (.inl rfl)); rw [hy] at e1
 have e2 := hv ix (by rw [ho]; exact mem_ops2 (.inr rfl)); rw [hix] at e2
 have e2 : a.eval ix = .int .i64 q := e2.val
 have run : ∀ (ad : Addr) (len cap : Nat) (w : World), 0 ≤ q → q < len → (Instr.indexAt t (.slice (some ad) len cap) (.int .i64 q)).run C.P w = .ok (.pointer (some (ad.add (q.toNat * inf.size)))) w := by
   intro ad len cap w h0 h1
   simp [Instr.indexAt, asIntOf, run_underlying ht, h0, h1, sizeOf, typeInfo, hi]
 generalize hq : a.eval y = z at e1
 cases e1 with
 | sl _ _ _ x hx hlR hR hR0 =>
   obtain ⟨_, cur, _, hxk, _⟩ := hH.famRows (hbs _ (List.mem_singleton.2 rfl)) hl hx
   refine ⟨_, by simp only [execOp, ho, hq, e2, Sem.run_bind, run ⟨x.b, 0 * x.k, none⟩ len (x.R - 0) w h0 h1, Result.andThen_ok, Sem.run_pure]; rfl, ?_⟩
   have := VR.ptr (M := M) n q.toNat 0 x hx
   rw [Addr.add_lit, ← hxk, Nat.zero_mul, Nat.zero_add]; simpa using this
 | sl0 _ _ x hx hR aa => exfalso; omega
theorem allOne_d {xs : List SV} {ds : List D} (h : dOf xs = some ds) : allOne xs = true := by
 induction xs generalizing ds with
 | nil => rfl
 | cons x r ih =>
   cases x with
   | d y =>
     simp only [dOf] at h
     cases e : dOf r with
     | none => rw [e] at h; cases h
     | some l => simp only [allOne, SV.one, Bool.true_and]; exact ih e
   | _ => simp [dOf] at h
theorem appF_ok {C : Ctx} {o : Oper} {nm : Nat} {v : Operand → SV} {a b : Operand} {t el : TypeId} (ho : o.op = .call { callee := .builtin .append, args := #[a, b], argTypes := #[t, t] }) (ht : C.P.underlying t = some (.slice el)) {inf : TypeInfo} {zv : Value} (hi : C.P.info? el = some inf) (hzv : inf.zero = some zv) (hzs : zv.cells.size = inf.size) (hk : 0 < inf.size)
   {n m len : Nat} {S : List Nat} {es : List (Value × SV × List InB)} (hle : es.length = len) (ha : v a = .sl n 0 len) (h0 : 0 < len) (hb : v b = .sl m 0 1) (hmn : m ≠ n) {T0 : Nat} {xs : List SV} {ds : List D} (hds : dOf xs = some ds) (hxl : xs.length = inf.size)
   (hes : ∀ (j : Nat) (e : Value × SV × List InB), es[j]? = some e → ∃ cells, e.2.1 = .agg cells ∧ ∀ (c : Nat) (s : SV), cells[c]? = some s → s.one = true) (key : Value) (hbytes : (len + 1) * inf.bytes ≤ limB) (h63 : len + 1 ≤ maxLen) :
   OpOK C o nm v [(n, .fam S ⟨es, [], some (el, inf.size)⟩), (m, .cells T0 inf.size xs)] (fun u wr => u = .sl nm 0 (len + 1) ∧ wr = [(n, none), (nm, some (.fam S ⟨es ++ [(key, .agg xs, [])], [], some (el, inf.size)⟩))]) := by
 have ma : a ∈ o.op.operands := by rw [ho]; simp [Op.operands, Call.operands]
 have mb : b ∈ o.op.operands := by rw [ho]; simp [Op.operands, Call.operands]
 refine ok_value fun M F ρ a' h w hv hH hbs hfr => ?_
 have e1 := hv a ma; rw [ha] at e1
 have e2 := hv b mb; rw [hb] at e2
 have hn := hbs _ (List.mem_cons_self ..)
 have hn : h n = some (.fam S ⟨es, [], some (el, inf.size)⟩) := hn
 have hm := hbs _ (List.mem_cons_of_mem _ (List.mem_singleton.2 rfl))
 have hm : h m = some (.cells T0 inf.size xs) := hm
 generalize hq : a'.eval a = q at e1
 cases e1 with
 | sl0 => omega
 | sl _ _ _ x hx hlR hR hR0 =>
   obtain ⟨_, cur, ho1, hxk, hs, hle2, hB⟩ := hH.famRows hn rfl hx
   obtain ⟨x', hx', _, _, _, _, ρs, r1, _⟩ := hH.fam n S _ hn
   rw [hx] at hx'; obtain rfl := Option.some.inj hx'
   have hle2 : len ≤ x.R := by omega
   have at_ : ∀ j, j < len → ∃ k s bl, (⟨es, [], some (el, inf.size)⟩ : Fam).at j k s bl := by
     intro j hj
     exact ⟨_, _, _, List.getElem?_eq_getElem (show j < es.length by omega), fun p hp => by cases hp⟩
   have cellv : ∀ i c, i < len → c < inf.size → ∃ u, cur[i * inf.size + c]? = some u ∧ u.oneCell' = true := by
     intro i c hi' hc'
     obtain ⟨k, s, bl, hat⟩ := at_ i hi'
     obtain ⟨⟨ob, ev, f1, f2, f3⟩, _⟩ := r1 i k s bl hat
     rw [ho1] at f1; cases f1
     obtain ⟨cells, hce, hone⟩ := hes i _ hat.1
     have hce : s = .agg cells := hce
     subst hce
     obtain ⟨g1, g2⟩ := entry_cell f2 f3
     obtain ⟨u, u1, u2⟩ := g2 c _ (List.getElem?_eq_getElem (by omega))
     exact ⟨u, u1, u2.one (hone c _ (List.getElem?_eq_getElem (by omega)))⟩
   let V : Nat → Nat → Value := fun i c => (cur[i * inf.size + c]?).getD undef
   have hV : ∀ i c, i < len → c < inf.size → cur[i * inf.size + c]? = some (V i c) ∧ (V i c).oneCell' = true := by
     intro i c hi' hc'
     obtain ⟨u, u1, u2⟩ := cellv i c hi' hc'
     simp only [V, u1, Option.getD_some]; exact ⟨trivial, u2⟩
   have hBR : BR M ρ x (.rows el inf.size len fun i c => .val (V i c)) (.cells cur el (0, 0)) :=
     ⟨rfl, rfl, hxk, hs, hle2, fun i c hi' hc' => ⟨V i c, (hV i c hi' hc').1, .val _ (hV i c hi' hc').2⟩⟩
   have H1 := fam_out hH hn hx ho1 hBR (fun S es h => by cases h)
   have hall := allOne_d hds
   have hsrc : srcS (.sl m 0 1) (upd h n (some (.rows el inf.size len fun i c => .val (V i c)))) inf.size = some (True, [(m, .cells T0 inf.size xs)], .cells 0 inf.size xs, 1) := by
     have ht : ((xs.drop (0 * inf.size)).take (1 * inf.size)) = xs := by rw [Nat.zero_mul, List.drop_zero, Nat.one_mul, List.take_of_length_le (by omega)]
     simp only [srcS, upd_other _ _ _ _ hmn, hm, ht]
     rw [if_pos]
     simp [hall, hxl]
   obtain ⟨_, s2⟩ := srcS_ok hsrc trivial
   obtain ⟨xa, xc, l, hbv, hCR, hfrom⟩ := s2 M _ ρ _ w _ e2 H1 (fun p hp => by rw [List.mem_singleton.1 hp]; show upd h n _ m = _; rw [upd_other _ _ _ _ hmn]; exact hm)
   have hsrc' : (1 : Nat) = 0 ∨ ∃ ad, xa = some ad ∧ ∀ (j : Nat) (u : Value), l[j]? = some u → w.cell? (ad.add j) = some u ∧ u.oneCell' = true := by
     rcases hfrom with h | h | h
     · omega
     · omega
     · exact .inr h
   have hdl : CR M ρ inf.size (.rows el inf.size len fun i c => .val (V i c)) len (cur.toList.take (len * inf.size)) := by
     refine ⟨rfl, rfl, ?_, fun i c hi' hc' => ?_⟩
     · have := Nat.mul_le_mul_right inf.size hle2
       rw [List.length_take, Array.length_toList, hs]; omega
     · have := Nat.mul_le_mul_right inf.size (show i + 1 ≤ len from hi')
       rw [Nat.succ_mul] at this
       exact ⟨V i c, by rw [List.getElem?_take, if_pos (by omega), Array.getElem?_toList]; exact (hV i c hi' hc').1, .val _ (hV i c hi' hc').2⟩
   have hcat : catBlk el inf.size (.rows el inf.size len fun i c => .val (V i c)) len (.cells 0 inf.size xs) 1 = some (.rows el inf.size (len + 1) (catR (fun i c => .val (V i c)) len (litR inf.size ds))) := by
     simp only [catBlk, hds]
   obtain ⟨ρ', v', w', k1, k2, k3, k4, k5, k6⟩ := append_some (ty := o.type) H1 hfr ht hi hzv hzs hk (n := n) (len := len) (m := 1) (x := x) (by simp) hx hR0 hR hxk ho1 (by rw [hs, hxk]) hle2 rfl hdl hCR hcat xa xc hsrc' hbytes h63
   obtain ⟨y, hy, hr⟩ := k5.live nm _ (upd_same _ _ _)
   rcases hr with ⟨_, hg⟩ | ⟨hy0, _, _, ob, ho2, hB2⟩
   · cases hg
   cases ob with
   | cells cur2 T2 fz2 =>
     obtain ⟨rfl, rfl, g1, g2, g3, g4⟩ := hB2
     have hrow : ∀ j, j < len + 1 → (j + 1) * inf.size ≤ cur2.size := by
       intro j hj
       rw [g2]; exact Nat.mul_le_mul_right _ (by omega)
     have hent : ∀ j, j < len + 1 → entry (some (T2, inf.size)) (.cells cur2 T2 (0, 0)) j = some (.agg (cur2.extract (j * inf.size) (j * inf.size + inf.size))) := by
       intro j hj
       simp only [entry]; rw [if_pos (hrow j hj)]
     have := fam_in (es2 := ⟨es ++ [(key, .agg xs, [])], [], some (T2, inf.size)⟩) hH hn hx k5 (upd_same _ _ _) hy hy0 ho1 ho2 ⟨⟨by rw [g1], rfl, by rw [g1]; exact g2, by simp; omega⟩, fun p hp => by cases hp⟩ k6.size (fun j k s bl hj => ?_)
     · refine ⟨ρ', v', w', k1, k2, ?_, k4, ?_, k6⟩
       · unfold execOp
         have e : (Builtin.append_ #[t, t] o.type #[.slice (some ⟨x.b, 0 * x.k, none⟩) len (x.R - 0), a'.eval b]).run C.P w = .ok v' w' := by
           rw [hbv, Nat.zero_mul, Nat.sub_zero]; exact k3
         simp only [ho, resolve, invoke, builtin, Sem.run_bind, Sem.run_pure, Result.andThen_ok, List.map_toArray, List.map_cons, List.map_nil, hq, e]
       · have e3 : ∀ b1 b2 b3, upd (upd (upd (upd h n b1) n none) nm b2) nm b3 = upd (upd h n none) nm b3 := by
           intro b1 b2 b3; funext p; simp only [upd_eq]
           by_cases e1 : p = nm
           · simp only [if_pos e1]
           · by_cases e2 : p = n
             · simp only [if_neg e1, if_pos e2]
             · simp only [if_neg e1, if_neg e2]
         rw [e3] at this
         exact this
     · obtain ⟨hj, _⟩ := hj
       replace hj : (es ++ [(key, .agg xs, [])])[j]? = some (k, s, bl) := hj
       by_cases hjl : j < len
       · rw [List.getElem?_append_left (by omega)] at hj
         refine .inl ⟨k, ⟨hj, fun p hp => by cases hp⟩, fun ev hev => ?_⟩
         show entry (some (T2, inf.size)) (.cells cur2 T2 (0, 0)) j = some ev
         obtain ⟨hsz1, rfl⟩ := entry_rows (ty := T2) (k := inf.size) hev
         rw [hent j (by omega)]
         congr 2
         apply Array.ext_getElem?
         intro p
         have hh := hrow j (by omega)
         rw [Nat.succ_mul] at hh hsz1
         rw [Array.getElem?_extract, Array.getElem?_extract]
         by_cases hp : p < inf.size
         · rw [if_pos (by omega), if_pos (by omega)]
           obtain ⟨u, u1, u2⟩ := g4 j p (by omega) hp
           rw [u1]
           simp only [catR, if_pos hjl] at u2
           cases u2
           exact (hV j p hjl hp).1.symm
         · rw [if_neg (by omega), if_neg (by omega)]
       · rw [List.getElem?_append_right (by omega)] at hj
         have hje : j = len := by
           have := (List.getElem?_eq_some_iff.1 hj).1
           simp at this; omega
         subst hje
         rw [hle, Nat.sub_self] at hj
         simp only [List.getElem?_cons_zero, Option.some.injEq, Prod.mk.injEq] at hj
         obtain ⟨rfl, rfl, rfl⟩ := hj
         refine .inr ⟨rfl, _, hent j (by omega), .aggOf _ _ ?_ fun c s hc => ?_⟩
         · have hh := hrow j (by omega)
           rw [Nat.succ_mul] at hh
           rw [Array.size_extract, hxl, Nat.min_eq_left (by omega)]; omega
         · obtain ⟨d1, d2⟩ := dOf_get hds
           have hck : c < inf.size := by rw [← hxl]; exact (List.getElem?_eq_some_iff.1 hc).1
           have hh := hrow j (by omega)
           rw [Nat.succ_mul] at hh
           obtain ⟨u, u1, u2⟩ := g4 j c (by omega) hck
           refine ⟨u, by rw [Array.getElem?_extract, if_pos (by omega)]; exact u1, ?_⟩
           simp only [catR, Nat.lt_irrefl, if_false, Nat.sub_self, litR, Nat.zero_mul, Nat.zero_add] at u2
           have hd : ds[c]? = some (ds[c]'(by omega)) := List.getElem?_eq_getElem _
           have := d2 c _ hd
           rw [hc] at this; cases this
           rw [List.getD_eq_getElem?_getD, hd] at u2
           exact .d _ _ u2
   | _ => exact hB2.elim
theorem fam_all {M F : Imm} {ρ ρ' : Names} {h : Heap} {w : World} (H : HR M F ρ h w) {n ty k : Nat} {S : List Nat} {es : Fam} (hn : h n = some (.fam S es)) (hl : es.ly = some (ty, k)) {j : Nat} {cells : List SV} (hj : (j, .agg cells) ∈ es.op) {ds : List D} {v : Value} (hv : VR M ρ (.ptr n j 0) v)
   (hd : ∀ (c : Nat) (d : D), ds[c]? = some d → ∃ s, cells[c]? = some s ∧ ∀ u, VR M ρ s u → DR (allM w) d u) : VR (allM w) ρ' (stV ty ds) v := by
 cases hv with
 | ptr _ _ _ x hx =>
   obtain ⟨h0, cur, ho, rfl, hs, hle, hB⟩ := H.famRows hn hl hx
   obtain ⟨ev, e1, e2⟩ := hB.open hj
   rw [hl] at e1
   obtain ⟨_, e3⟩ := entry_cell e1 e2
   refine pr_mk ⟨x.b, j * x.k, cur, (0, 0), by simp, ho, fun c d hc => ?_⟩
   obtain ⟨s, s1, s2⟩ := hd c d hc
   obtain ⟨u, u1, u2⟩ := e3 c s s1
   exact ⟨u, u1, s2 u u2⟩
section
variable {C : Ctx} {ops : List Oper} {i : Nat} {o : Oper} {l : List Oper} {t : Nat → SV} {h : Heap} {nx : Nat} {K : St → Prop} {acc : Option (List FP)}
theorem sLoadF {n j c : Nat} {a : Operand} {T : TypeId} {S : List Nat} {es : Fam} {ty k : Nat} (cells : List SV) (u : SV) (d nm i' : Nat) (hi : i + 1 = i') (hnm : nx + 8 * i = nm) (hg : o.guard = none) (hdst : o.dst = some d) (hd : Nat.blt d C.sz = true) (ho : o.op = .load T a) (ha : opv C t a = .ptr n j c) (hagg : isAggB C.P T = some false)
   (hn : h n = some (.fam S es)) (hl : es.ly = some (ty, k)) (hj : (j, .agg cells) ∈ es.op ∨ ∃ key bl d, es.at j key (.agg cells) bl ∧ u = .d d) (hu : cells[c]? = some u)
   (kk : wops C ops i' l ⟨upd t d u, h, nx⟩ (acc.map (· ++ [([n], [])])) K) : wops C ops i (o :: l) ⟨t, h, nx⟩ acc K := by
 subst hi; subst hnm
 refine st_ok (σ := ⟨t, h, nx⟩) hg (by unfold dstOK; rw [hdst]; exact hd) (loadF_ok (nm := nx + 8 * i) ho ha hagg hl hu hj) (fun p hp => by rw [List.mem_singleton.1 hp]; exact hn) rfl ?_
 unfold St.app; rw [hdst]; exact kk
theorem sStoreF {n j c : Nat} {a y : Operand} {T : TypeId} {S : List Nat} {es : List (Value × SV × List InB)} {ty k : Nat} {cells : List SV} {u : SV} {inf : TypeInfo} (nm i' : Nat) (hi : i + 1 = i') (hnm : nx + 8 * i = nm) (hg : o.guard = none) (hdst : o.dst = none) (ho : o.op = .store T a y) (ha : opv C t a = .ptr n j c) (hinf : C.P.info? T = some inf) (h1 : inf.size = 1)
   (hy : (opv C t y).hd = some u) (hone : u.one = true) (hn : h n = some (.fam S ⟨es, [(j, .agg cells)], some (ty, k)⟩)) (hc : c < cells.length)
   (kk : wops C ops i' l ⟨t, upd h n (some (.fam S ⟨es, [(j, .agg (cells.set c u))], some (ty, k)⟩)), nx⟩ (acc.map (· ++ [([n], [n])])) K) : wops C ops i (o :: l) ⟨t, h, nx⟩ acc K := by
 subst hi; subst hnm
 refine st_ok (σ := ⟨t, h, nx⟩) hg (by unfold dstOK; rw [hdst]) (storeF_ok (nm := nx + 8 * i) ho ha hinf h1 (SV.hd_eq hy) hone (fun _ _ _ h => h) hc) (fun p hp => by rw [List.mem_singleton.1 hp]; exact hn) (by simp [keysIn]) ?_
 unfold St.app; rw [hdst]; exact kk
theorem sStoreFW {n j c : Nat} {a y : Operand} {T : TypeId} {S : List Nat} {es : List (Value × SV × List InB)} {ty k : Nat} {cells : List SV} {u : SV} (u2 : SV) {inf : TypeInfo} (nm i' : Nat) (hi : i + 1 = i') (hnm : nx + 8 * i = nm) (hg : o.guard = none) (hdst : o.dst = none) (ho : o.op = .store T a y) (ha : opv C t a = .ptr n j c) (hinf : C.P.info? T = some inf) (h1 : inf.size = 1)
   (hy : (opv C t y).hd = some u) (hone : u.one = true) (hw : ∀ M ρ z, VR M ρ u z → VR M ρ u2 z) (hn : h n = some (.fam S ⟨es, [(j, .agg cells)], some (ty, k)⟩)) (hc : c < cells.length)
   (kk : wops C ops i' l ⟨t, upd h n (some (.fam S ⟨es, [(j, .agg (cells.set c u2))], some (ty, k)⟩)), nx⟩ (acc.map (· ++ [([n], [n])])) K) : wops C ops i (o :: l) ⟨t, h, nx⟩ acc K := by
 subst hi; subst hnm
 refine st_ok (σ := ⟨t, h, nx⟩) hg (by unfold dstOK; rw [hdst]) (storeF_ok (nm := nx + 8 * i) ho ha hinf h1 (SV.hd_eq hy) hone hw hc) (fun p hp => by rw [List.mem_singleton.1 hp]; exact hn) (by simp [keysIn]) ?_
 unfold St.app; rw [hdst]; exact kk
theorem sIdxF {n len : Nat} {q : Int} {y ix : Operand} {T el : TypeId} {S : List Nat} {es : Fam} {ty : Nat} {inf : TypeInfo} (d nm i' : Nat) (hi : i + 1 = i') (hnm : nx + 8 * i = nm) (hg : o.guard = none) (hdst : o.dst = some d) (hd : Nat.blt d C.sz = true) (ho : o.op = .indexAddr T y ix) (ht : C.P.underlying T = some (.slice el)) (hinf : C.P.info? el = some inf)
   (hy : opv C t y = .sl n 0 len) (hix : opv C t ix = SV.i q) (hn : h n = some (.fam S es)) (hl : es.ly = some (ty, inf.size)) (hq : 0 ≤ q ∧ q < len)
   (kk : wops C ops i' l ⟨upd t d (.ptr n q.toNat 0), h, nx⟩ (acc.map (· ++ [([n], [])])) K) : wops C ops i (o :: l) ⟨t, h, nx⟩ acc K := by
 subst hi; subst hnm
 refine st_ok (σ := ⟨t, h, nx⟩) hg (by unfold dstOK; rw [hdst]; exact hd) (idxF_ok (nm := nx + 8 * i) ho ht hinf hy hix hl hq.1 hq.2) (fun p hp => by rw [List.mem_singleton.1 hp]; exact hn) rfl ?_
 unfold St.app; rw [hdst]; exact kk
theorem sAppF {n m len : Nat} {a b : Operand} {T el : TypeId} {S : List Nat} {es : List (Value × SV × List InB)} {inf : TypeInfo} {zv : Value} {T0 : Nat} {xs : List SV} {ds : List D} (key : Value) (d nm i' : Nat) (hi : i + 1 = i') (hnm : nx + 8 * i = nm) (hg : o.guard = none) (hdst : o.dst = some d) (hd : Nat.blt d C.sz = true)
   (ho : o.op = .call { callee := .builtin .append, args := #[a, b], argTypes := #[T, T] }) (ht : C.P.underlying T = some (.slice el)) (hinf : C.P.info? el = some inf) (hzv : inf.zero = some zv) (hzs : zv.cells.size = inf.size) (hk : 0 < inf.size) (ha : opv C t a = .sl n 0 len) (hb : opv C t b = .sl m 0 1)
   (hn : h n = some (.fam S ⟨es, [], some (el, inf.size)⟩)) (hm : h m = some (.cells T0 inf.size xs)) (hds : dOf xs = some ds) (hxl : xs.length = inf.size) (hmn : m ≠ n) (hle : es.length = len) (h0 : 0 < len)
   (hes : ∀ (j : Nat) (e : Value × SV × List InB), es[j]? = some e → ∃ cells, e.2.1 = .agg cells ∧ ∀ (c : Nat) (s : SV), cells[c]? = some s → s.one = true) (hbytes : (len + 1) * inf.bytes ≤ limB) (h63 : len + 1 ≤ maxLen)
   (kk : wops C ops i' l ⟨upd t d (.sl nm 0 (len + 1)), upd (upd h n none) nm (some (.fam S ⟨es ++ [(key, .agg xs, [])], [], some (el, inf.size)⟩)), nx⟩ (acc.map (· ++ [([n, m], [n, nm])])) K) : wops C ops i (o :: l) ⟨t, h, nx⟩ acc K := by
 subst hi; subst hnm
 refine st_ok (σ := ⟨t, h, nx⟩) hg (by unfold dstOK; rw [hdst]; exact hd) (appF_ok (nm := nx + 8 * i) ho ht hinf hzv hzs hk hle ha h0 hb hmn hds hxl hes key hbytes h63) (fun p hp => by
   rcases List.mem_cons.1 hp with rfl | hp
   · exact hn
   · rw [List.mem_singleton.1 hp]; exact hm) (by simp [keysIn]) ?_
 unfold St.app; rw [hdst]; exact kk
end
end Go.Proofs.YtalhangpahffeaaDoor.Nice
namespace Go.Proofs.YtalhangpahffeaaDoor.Nice
open Go
set_option linter.unusedVariables false
set_option linter.unusedSimpArgs false
theorem clear_ok {C : Ctx} {o : Oper} {nm : Nat} {v : Operand → SV} {y : Operand} {t ty : TypeId} (ho : o.op = .call { callee := .builtin .clear, args := #[y], argTypes := #[t] }) (ht : C.P.underlying t = some (.slice ty)) {zs : List Value} (hz : zerosOf C.P ty = some zs) {n off len k L : Nat} {f : Nat → Nat → D} (hk : zs.length = k) (hy : v y = .sl n off len) (hL : off + len ≤ L) :
   OpOK C o nm v [(n, .rows ty k L f)] (fun x wr => x = .any ∧ wr = [(n, some (.rows ty k off f))]) := by
 obtain ⟨inf, zv, hi, hzv, hzl, hlz, hone⟩ := zerosOf_ok hz
 refine ok_value fun M F ρ a h w hv hH hbs hfr => ?_
 have e1 := hv y (by rw [ho]; simp [Op.operands, Call.operands]); rw [hy] at e1
 have hn := hbs _ (List.mem_singleton.2 rfl)
 have hn : h n = some (.rows ty k L f) := hn
 have hexec : ∀ (w' : World), (Builtin.clear_ #[t] o.type #[a.eval y]).run C.P w = .ok (.tuple #[]) w' → (execOp a.eval o).run C.P w = .ok (.value (.tuple #[])) w' := by
   intro w' hr
   unfold execOp
   simp only [ho, resolve, invoke, builtin, Sem.run_bind, Sem.run_pure, Result.andThen_ok, List.map_toArray, List.map_cons, List.map_nil, hr]
 have short : ∀ (x : Own) (obj : Obj), BR M ρ x (.rows ty k L f) obj → BR M ρ x (.rows ty k off f) obj := by
   intro x obj hb
   cases obj with
   | cells cur T fz =>
     obtain ⟨h1, h2, h3, h4, h5, h6⟩ := hb
     exact ⟨h1, h2, h3, h4, by omega, fun i c hi hc => h6 i c (by omega) hc⟩
   | _ => exact hb.elim
 have gh : (Blk.rows ty k L f).ghost = true → (Blk.rows ty k off f).ghost = true := by
   intro h
   cases L with
   | zero => obtain rfl : off = 0 := by omega
             rfl
   | succ L => cases h
 have nothing : ∀ ad c, a.eval y = .slice ad 0 c → ∃ ρ' v' w', ρ.le ρ' ∧ (∀ n, n < nm ∨ nm + 8 ≤ n → ρ' n = ρ n) ∧ (execOp a.eval o).run C.P w = .ok (.value v') w' ∧ VR M ρ' .any v' ∧ HR M F ρ' (wrH h [(n, some (.rows ty k off f))]) w' ∧ Same w w' := by
   intro ad c hq
   refine ⟨ρ, .tuple #[], w, Names.le_refl _, fun _ _ => rfl, hexec w ?_, .any _, hH.swap n hn short gh, .refl _⟩
   rw [hq]
   cases ad <;> simp [Builtin.clear_, run_underlying ht]
 generalize hq : a.eval y = q at e1
 cases e1 with
 | sl0 _ _ x hx hR aa => exact nothing aa 0 hq
 | sl _ _ _ x hx hlR hR h0 =>
   rcases Nat.eq_zero_or_pos len with hz0 | hpos
   · subst hz0; exact nothing _ _ hq
   · obtain ⟨cur, k1, _, k3, k4, k5, k6⟩ := hH.rows hn (by omega) hx
     have hk3 : x.k = k := k3
     subst hk3
     have hzc : (Builtin.zeroCells zv.cells len).toList.length = len * x.k := by
       rw [Array.length_toList, size_zeroCells, ← Array.length_toList, hzl, hk]
     have hmul : (off + len) * x.k ≤ x.R * x.k := Nat.mul_le_mul_right _ (by omega)
     rw [Nat.add_mul] at hmul
     have hfit : off * x.k + (Builtin.zeroCells zv.cells len).toList.length ≤ cur.size := by rw [hzc, k4]; exact hmul
     have h1 : ∀ u, u ∈ (Builtin.zeroCells zv.cells len).toList → u.oneCell' = true := by
       intro u hu
       have : u ∈ zv.cells.toList := by
         rw [Array.mem_toList_iff] at hu
         obtain ⟨p, hp, rfl⟩ := Array.mem_iff_getElem.1 hu
         rw [Array.mem_toList_iff]
         have hps : p < len * zv.cells.size := by rw [size_zeroCells] at hp; exact hp
         have hs0 : 0 < zv.cells.size := by
           rcases Nat.eq_zero_or_pos zv.cells.size with e | e
           · rw [e] at hps; omega
           · exact e
         simp only [Builtin.zeroCells, Array.getElem_map, Array.getElem_range]
         rw [getElem!_pos zv.cells (p % zv.cells.size) (Nat.mod_lt _ hs0)]
         exact Array.getElem_mem _
       rw [hzl] at this
       exact hone u this
     have hst := run_storeCells_at C.P x.b (off * x.k) ty (Builtin.zeroCells zv.cells len).toList 0 cur w k1 (by rw [Nat.add_zero]; exact hfit) h1
     rw [Nat.add_zero] at hst
     generalize hcc : (cur.toList.take (off * x.k) ++ (Builtin.zeroCells zv.cells len).toList ++ cur.toList.drop (off * x.k + (Builtin.zeroCells zv.cells len).toList.length)).toArray = cur2 at hst
     refine ⟨ρ, .tuple #[], w.setRow x.b cur2, Names.le_refl _, fun _ _ => rfl, hexec _ ?_, .any _, ?_, ⟨rfl, rfl, rfl, by simp⟩⟩
     · obtain ⟨len', rfl⟩ : ∃ l, len = l + 1 := ⟨len - 1, by omega⟩
       rw [hq]
       simp only [Builtin.clear_, run_underlying ht, Sem.run_bind, Result.andThen_ok]
       simp [zeroValue, typeInfo, hi, hzv, run_underlying ht]
       rw [hst]; rfl
     · refine hH.put n x (by rw [hn]; simp) hx h0 _ _ (setRow_heap w x.b cur _ ty (0, 0) k1) (fun b hb => setRow_other w x.b b _ hb) ?_
       refine ⟨rfl, rfl, rfl, ?_, by omega, fun i c hi hc => ?_⟩
       · rw [← hcc]
         simp only [List.size_toArray, List.length_append, List.length_take, List.length_drop, Array.length_toList]
         rw [← k4]
         simp only [Array.length_toList] at hfit; omega
       · obtain ⟨u, u1, u2⟩ := k6 i c (by omega) hc
         refine ⟨u, ?_, u2⟩
         have := Nat.mul_le_mul_right x.k (show i + 1 ≤ off from hi)
         rw [Nat.succ_mul] at this
         rw [← hcc, List.getElem?_toArray, seg_get _ _ _ _ (by rw [Array.length_toList]; exact hfit), if_pos (by omega), Array.getElem?_toList]
         exact u1
theorem lookA_ok {C : Ctx} {o : Oper} {nm : Nat} {v : Operand → SV} {t kt el : TypeId} {y z : Operand} (ho : o.op = .lookup t y z true) (ht : C.P.underlying t = some (.map kt el))
   {n : Nat} {S : List Nat} {es : Fam} (hl : es.ly = none) (hy : v y = .map n) {key : Value} (hz : ∀ M ρ u, VR M ρ (v z) u → u = key) {j : Nat} (hr : KFind C.P kt key (es.es.map (·.1)) (some j)) :
   OpOK C o nm v [(n, .fam S es)] (fun x w => x = .tup [.any, SV.b true] ∧ w = []) := by
 refine ok_pure fun M F ρ a h w hv hH hbs => ?_
 have e1 := hv y (by rw [ho]; exact mem_ops2 (.inl rfl)); rw [hy] at e1
 have e2 := hz _ _ _ (hv z (by rw [ho]; exact mem_ops2 (.inr rfl)))
 generalize hq : a.eval y = q at e1
 cases e1 with
 | map _ x hx =>
   obtain ⟨_, _, _, ents, cl, k1, k2, k3, k5, k4⟩ := hH.famObj (hbs _ (List.mem_singleton.2 rfl)) hl hx
   have hg := run_getObj_map (P := C.P) k1
   have hf := hr.fnd ents.toList w k3
   have hc := hr.chk ents.isEmpty w
   have hjl := (hr.inn j rfl).1
   rw [List.length_map] at hjl
   obtain ⟨y', y1, _⟩ := k5 j _ (List.getElem?_eq_getElem hjl)
   refine ⟨.tuple #[y'.val, .bool true], ?_, VR.tup2 (.any _) (.d _ _ (.val _ rfl))⟩
   have : (Instr.lookup t (.map (some x.b)) key true).run C.P w = .ok (.tuple #[y'.val, .bool true]) w := by
     have hf2 : (Instr.findKey kt key ents.toList).run C.P w = .ok (some (j, y'.val)) w := by
       rw [hf]; simp [y1]
     simp [Instr.lookup, run_underlying ht, hg, hc, hf2]
   simp only [execOp, ho, hq, e2, Sem.run_bind, this, Result.andThen_ok, Sem.run_pure]
theorem lenF_ok {C : Ctx} {o : Oper} {nm : Nat} {v : Operand → SV} {y : Operand} {t kt el : TypeId} (ho : o.op = .call { callee := .builtin .len, args := #[y], argTypes := #[t] }) (ht : C.P.underlying t = some (.map kt el)) {n L : Nat} {S : List Nat} {es : Fam} (hl : es.ly = none) (hy : v y = .map n) (hL : es.es.length = L) :
   OpOK C o nm v [(n, .fam S es)] (fun x w => x = SV.i L ∧ w = []) := by
 refine ok_pure fun M F ρ a h w hv hH hbs => ?_
 have e1 := hv y (by rw [ho]; simp [Op.operands, Call.operands]); rw [hy] at e1
 generalize hq : a.eval y = q at e1
 cases e1 with
 | map _ x hx =>
   obtain ⟨_, _, _, ents, cl, k1, k2, _⟩ := hH.famObj (hbs _ (List.mem_singleton.2 rfl)) hl hx
   have hr : (Builtin.len_ #[t] o.type #[.map (some x.b)]).run C.P w = .ok (.int .i64 L) w := by
     simp [Builtin.len_, run_underlying ht, run_getObj_map k1, goInt, k2, hL]
   refine ⟨.int .i64 L, ?_, .d _ _ (.val _ rfl)⟩
   unfold execOp
   simp only [ho, hq, resolve, invoke, builtin, Sem.run_bind, Sem.run_pure, Result.andThen_ok, List.map_toArray, List.map_cons, List.map_nil, hr]
theorem slNil_ok {C : Ctx} {o : Oper} {nm : Nat} {v : Operand → SV} {t e : TypeId} {y z : Operand} (ho : o.op = .slice t y none (some z) none) (ht : C.P.underlying t = some (.slice e)) {inf : TypeInfo} (hi : C.P.info? e = some inf) (hy : v y = .d .nils) (hz : v z = SV.i 0) :
   OpOK C o nm v [] (fun x wr => x = .d .nils ∧ wr = []) := by
 refine ok_pure fun M F ρ a h w hv hH hbs => ?_
 have e1 := hv y (by rw [ho]; simp [Op.operands]); rw [hy] at e1
 have e2 := hv z (by rw [ho]; simp [Op.operands]); rw [hz] at e2
 have e2 : a.eval z = .int .i64 0 := e2.val
 generalize hq : a.eval y = q at e1
 cases e1 with
 | d _ _ hd =>
   cases hd with
   | nils aa =>
     have := run_slice_any' (P := C.P) (w := w) ht hi aa 0 0 none (some (.int .i64 0)) 0 0 (.inl ⟨rfl, rfl⟩) (.inr ⟨_, rfl⟩) (by omega) (by omega) (by omega) (by omega)
     refine ⟨sliced aa (0 : Int).toNat (0 : Int).toNat 0 inf.size, ?_, ?_⟩
     · simp only [execOp, ho, Option.map_none, Option.map_some, hq, e2, Sem.run_bind, this, Result.andThen_ok, Sem.run_pure]
     · cases aa <;> exact .d _ _ (.nils _)
theorem slTo_ok {C : Ctx} {o : Oper} {nm : Nat} {v : Operand → SV} {t e : TypeId} {y z : Operand} (ho : o.op = .slice t y none (some z) none) (ht : C.P.underlying t = some (.slice e)) {inf : TypeInfo} (hi : C.P.info? e = some inf) {n len : Nat} {u : Int} (hy : v y = .sl n 0 len) (hz : v z = SV.i u) (h0 : 0 ≤ u) (h1 : u ≤ len) :
   OpOK C o nm v [] (fun x wr => x = .sl n 0 u.toNat ∧ wr = []) := by
 refine ok_pure fun M F ρ a h w hv hH hbs => ?_
 have e1 := hv y (by rw [ho]; simp [Op.operands]); rw [hy] at e1
 have e2 := hv z (by rw [ho]; simp [Op.operands]); rw [hz] at e2
 have e2 : a.eval z = .int .i64 u := e2.val
 generalize hq : a.eval y = q at e1
 have go : ∀ aa cap, q = .slice aa len cap → len ≤ cap → (execOp a.eval o).run C.P w = .ok (.value (sliced aa 0 u.toNat cap inf.size)) w := by
   intro aa cap hqq hc
   have := run_slice_any' (P := C.P) (w := w) ht hi aa len cap none (some (.int .i64 u)) 0 u (.inl ⟨rfl, rfl⟩) (.inr ⟨_, rfl⟩) (by omega) h0 h1 hc
   simp only [execOp, ho, Option.map_none, Option.map_some, hq, hqq, e2, Sem.run_bind, this, Result.andThen_ok, Sem.run_pure]; rfl
 cases e1 with
 | sl _ _ _ x hx hlR hR hR0 =>
   refine ⟨_, go _ _ rfl (by omega), ?_⟩
   unfold sliced
   rw [if_neg (by omega)]
   simp only [Option.map_some, Addr.add_lit, Nat.zero_mul, Nat.add_zero, Nat.sub_zero]
   have := VR.sl (M := M) n 0 u.toNat x hx (by omega) hR hR0
   simpa using this
 | sl0 _ _ x hx hR aa =>
   have hu0 : u = 0 := by omega
   subst hu0
   refine ⟨_, go aa 0 rfl (Nat.le_refl _), ?_⟩
   simp only [sliced, Int.toNat_zero, Nat.sub_self, if_true]
   exact .sl0 n 0 x hx hR aa
section
variable {C : Ctx} {ops : List Oper} {i : Nat} {o : Oper} {l : List Oper} {tm : Nat → SV} {h : Heap} {nx : Nat} {K : St → Prop} {acc : Option (List FP)}
theorem sClr {y : Operand} {t ty : TypeId} {zs : List Value} {n off len k L : Nat} {f : Nat → Nat → D} (nm i' : Nat) (hi : i + 1 = i') (hnm : nx + 8 * i = nm) (hg : o.guard = none) (hdst : o.dst = none) (ho : o.op = .call { callee := .builtin .clear, args := #[y], argTypes := #[t] }) (ht : C.P.underlying t = some (.slice ty)) (hz : zerosOf C.P ty = some zs) (hk : zs.length = k) (hy : opv C tm y = .sl n off len) (hn : h n = some (.rows ty k L f)) (hL : off + len ≤ L)
   (kk : wops C ops i' l ⟨tm, upd h n (some (.rows ty k off f)), nx⟩ (acc.map (· ++ [([n], [n])])) K) : wops C ops i (o :: l) ⟨tm, h, nx⟩ acc K := by
 subst hi; subst hnm
 refine st_ok (σ := ⟨tm, h, nx⟩) hg (by unfold dstOK; rw [hdst]) (clear_ok (nm := nx + 8 * i) ho ht hz hk hy hL) (fun p hp => by rw [List.mem_singleton.1 hp]; exact hn) (by simp [keysIn]) ?_
 unfold St.app; rw [hdst]; exact kk
theorem sLookA {y z : Operand} {ty kt el : TypeId} {n : Nat} {S : List Nat} {es : Fam} {key : Value} (j : Nat) (hr : KFind C.P kt key (es.es.map (·.1)) (some j)) (d nm i' : Nat) (hi : i + 1 = i') (hnm : nx + 8 * i = nm) (hg : o.guard = none) (hdst : o.dst = some d) (hd : Nat.blt d C.sz = true) (ho : o.op = .lookup ty y z true)
   (ht : C.P.underlying ty = some (.map kt el)) (hy : opv C tm y = .map n) (hz : ∀ M ρ u, VR M ρ (opv C tm z) u → u = key) (hn : h n = some (.fam S es)) (hl : es.ly = none)
   (kk : wops C ops i' l ⟨upd tm d (.tup [.any, SV.b true]), h, nx⟩ (acc.map (· ++ [([n], [])])) K) : wops C ops i (o :: l) ⟨tm, h, nx⟩ acc K := by
 subst hi; subst hnm
 refine st_ok (σ := ⟨tm, h, nx⟩) hg (by unfold dstOK; rw [hdst]; exact hd) (lookA_ok (nm := nx + 8 * i) ho ht hl hy hz hr) (fun p hp => by rw [List.mem_singleton.1 hp]; exact hn) rfl ?_
 unfold St.app; rw [hdst]; exact kk
theorem sLenF {y : Operand} {t kt el : TypeId} {n L : Nat} {S : List Nat} {es : Fam} (d nm i' : Nat) (hi : i + 1 = i') (hnm : nx + 8 * i = nm) (hg : o.guard = none) (hdst : o.dst = some d) (hd : Nat.blt d C.sz = true) (ho : o.op = .call { callee := .builtin .len, args := #[y], argTypes := #[t] }) (ht : C.P.underlying t = some (.map kt el)) (hy : opv C tm y = .map n) (hn : h n = some (.fam S es)) (hl : es.ly = none) (hL : es.es.length = L)
   (kk : wops C ops i' l ⟨upd tm d (SV.i L), h, nx⟩ (acc.map (· ++ [([n], [])])) K) : wops C ops i (o :: l) ⟨tm, h, nx⟩ acc K := by
 subst hi; subst hnm
 refine st_ok (σ := ⟨tm, h, nx⟩) hg (by unfold dstOK; rw [hdst]; exact hd) (lenF_ok (nm := nx + 8 * i) ho ht hl hy hL) (fun p hp => by rw [List.mem_singleton.1 hp]; exact hn) rfl ?_
 unfold St.app; rw [hdst]; exact kk
theorem sSlNil {y z : Operand} {t e : TypeId} {inf : TypeInfo} (d nm i' : Nat) (hi : i + 1 = i') (hnm : nx + 8 * i = nm) (hg : o.guard = none) (hdst : o.dst = some d) (hd : Nat.blt d C.sz = true) (ho : o.op = .slice t y none (some z) none) (ht : C.P.underlying t = some (.slice e)) (hinf : C.P.info? e = some inf) (hy : opv C tm y = .d .nils) (hz : opv C tm z = SV.i 0)
   (kk : wops C ops i' l ⟨upd tm d (.d .nils), h, nx⟩ (acc.map (· ++ [([], [])])) K) : wops C ops i (o :: l) ⟨tm, h, nx⟩ acc K := by
 subst hi; subst hnm
 refine st_ok (σ := ⟨tm, h, nx⟩) hg (by unfold dstOK; rw [hdst]; exact hd) (slNil_ok (nm := nx + 8 * i) ho ht hinf hy hz) (fun p hp => by cases hp) rfl ?_
 unfold St.app; rw [hdst]; exact kk
theorem sSlTo {y z : Operand} {t e : TypeId} {inf : TypeInfo} {n len : Nat} {u : Int} (d nm i' : Nat) (hi : i + 1 = i') (hnm : nx + 8 * i = nm) (hg : o.guard = none) (hdst : o.dst = some d) (hd : Nat.blt d C.sz = true) (ho : o.op = .slice t y none (some z) none) (ht : C.P.underlying t = some (.slice e)) (hinf : C.P.info? e = some inf) (hy : opv C tm y = .sl n 0 len) (hz : opv C tm z = SV.i u) (h0 : 0 ≤ u ∧ u ≤ len)
   (kk : wops C ops i' l ⟨upd tm d (.sl n 0 u.toNat), h, nx⟩ (acc.map (· ++ [([], [])])) K) : wops C ops i (o :: l) ⟨tm, h, nx⟩ acc K := by
 subst hi; subst hnm
 refine st_ok (σ := ⟨tm, h, nx⟩) hg (by unfold dstOK; rw [hdst]; exact hd) (slTo_ok (nm := nx + 8 * i) ho ht hinf hy hz h0.1 h0.2) (fun p hp => by cases hp) rfl ?_
 unfold St.app; rw [hdst]; exact kk
end
theorem Spec.rowsc {P : Program} {G : Nat → SV} {fn : FuncId} {args : List SV} {ty k N : Nat} {f g : Nat → Nat → D} {rest : List Blk} {post : SV → List (Option Blk) → Prop} (h : Spec P G fn args (.rows ty k N g :: rest) post) (hg : ∀ i c, i < N → c < k → f i c = g i c) : Spec P G fn args (.rows ty k N f :: rest) post := by
 intro M F ρ vs w hG hH hs ha hn
 refine h M F ρ vs w hG ?_ hs ha hn
 have := hH.swap 0 (b := .rows ty k N f) (b' := .rows ty k N g) rfl (fun x obj hb => ?_) (fun hgst => by cases N with | zero => rfl | succ N => cases hgst)
 · have e : upd (hOf ((Blk.rows ty k N f :: rest).map some)) 0 (some (Blk.rows ty k N g)) = hOf ((Blk.rows ty k N g :: rest).map some) := by
     funext n
     cases n with
     | zero => rfl
     | succ n => rfl
   rw [e] at this
   exact this
 · cases obj with
   | cells cur T fz =>
     obtain ⟨h1, h2, h3, h4, h5, h6⟩ := hb
     exact ⟨h1, h2, h3, h4, h5, fun i c hi hc => by rw [← hg i c hi hc]; exact h6 i c hi hc⟩
   | _ => exact hb.elim
theorem cellW {C : Ctx} {c : Code} {Q : Exit → St → Prop} {t : Nat → SV} {h : Heap} {nx : Nat} (n j : Nat) (s' : SV) {ty k : Nat} {xs : List SV} {s : SV} (hn : h n = some (.cells ty k xs)) (hj : xs[j]? = some s) (hs : ∀ M ρ v, VR M ρ s v → VR M ρ s' v)
   (kk : W C c Q ⟨t, upd h n (some (.cells ty k (xs.set j s'))), nx⟩) : W C c Q ⟨t, h, nx⟩ := by
 intro M F pin ρ a w hsr
 refine kk M F pin ρ a w ⟨⟨hsr.tm, hsr.sz, hsr.df, ?_, hsr.pn, hsr.pm, hsr.gl⟩, hsr.fr⟩
 refine hsr.hr.swap n hn (fun x obj hb => ?_) (fun h => by cases h)
 cases obj with
 | cells cur T fz =>
   obtain ⟨h1, h2, h3, h4, h5, h6⟩ := hb
   refine ⟨h1, h2, h3, h4, by rw [List.length_set]; exact h5, fun q z hz => ?_⟩
   rw [List.getElem?_set] at hz
   split at hz
   · next e =>
     subst e
     split at hz
     · cases hz
       obtain ⟨v, v1, v2⟩ := h6 j _ hj
       exact ⟨v, v1, hs M ρ v v2⟩
     · cases hz
   · exact h6 q z hz
 | _ => exact hb.elim
theorem nil_vec0 (k : Nat) (f : Nat → Nat → D) : ∀ M ρ v, VR M ρ (.d .nils) v → VR M ρ (.d (.vec k 0 f)) v := by
 intro M ρ v h
 cases h with | d _ _ h => cases h with | nils a => exact .d _ _ (.vec0 _ _ _ _)
end Go.Proofs.YtalhangpahffeaaDoor.Nice
namespace Go.Proofs.YtalhangpahffeaaDoor.Nice
open Go
set_option linter.unusedVariables false
set_option linter.unusedSimpArgs false
def LastOK (C : Ctx) (o : Oper) (nm : Nat) (σ : St) (K : St → Prop) : Prop :=
 dstOK C o = true ∧ o.guard = none ∧ ∃ bs RS, OpOK C o nm (opv C σ.t) bs RS ∧ (∀ p, p ∈ bs → σ.h p.1 = some p.2) ∧ ∀ u wr, RS u wr → K (σ.app o.dst u wr)
theorem last_of {C : Ctx} {ops : List Oper} {o : Oper} {n : Nat} {σ : St} {K : St → Prop} (hg : o.guard = none) (h : wops C ops n [o] σ none K) : LastOK C o (σ.nx + 8 * n) σ (fun σ' => K ⟨σ'.t, σ'.h, σ'.nx + 8 * ops.length⟩) := by
 unfold wops at h
 rcases h with ⟨fp, σ', ⟨hd, hD⟩, hr⟩ | ⟨_, hd, _, bs, RS, hok, hbs, hn⟩
 · rcases hD with ⟨_, bs, u, wr, hok, hbs, _, _, rfl⟩ | ⟨hoff, _⟩
   · exact ⟨hd, hg, bs, _, hok, hbs, fun u' wr' h => by obtain ⟨rfl, rfl⟩ := h; exact hr.2⟩
   · unfold gOff at hoff; rw [hg] at hoff; exact hoff.elim
 · exact ⟨hd, hg, bs, RS, hok, hbs, fun u wr h => (hn u wr h).2⟩
theorem gslot_pre {pre : List Oper} {ol : Oper} {j s : Nat} (h : gslot pre j = some s) : gslot (pre ++ [ol]) j = some s := by
 unfold gslot at *
 by_cases hj : j < pre.length
 · rw [List.getElem?_append_left hj]; exact h
 · rw [List.getElem?_eq_none (by omega)] at h; cases h
theorem gOn_pre {pre : List Oper} {ol o : Oper} {t : Nat → SV} (h : gOn pre t o) : gOn (pre ++ [ol]) t o := by
 unfold gOn at *
 cases e : o.guard with
 | none => trivial
 | some p =>
   obtain ⟨j, want⟩ := p
   rw [e] at h
   obtain ⟨s, h1, h2⟩ := h
   exact ⟨s, gslot_pre h1, h2⟩
theorem gOff_pre {pre : List Oper} {ol o : Oper} {t : Nat → SV} (h : gOff pre t o) : gOff (pre ++ [ol]) t o := by
 unfold gOff at *
 cases e : o.guard with
 | none => rw [e] at h; exact h
 | some p =>
   obtain ⟨j, want⟩ := p
   rw [e] at h
   obtain ⟨s, h1, h2⟩ := h
   exact ⟨s, gslot_pre h1, h2⟩
def lastB (pre : List Oper) (o : Oper) : Bool := ((edgesOf o).all fun e => Nat.blt e pre.length) && (List.range pre.length).all fun i => ((edgesOf o).flatMap fun e => e :: (reach pre).getD e []).any (Nat.beq i)
theorem wops_anyL {C : Ctx} {ops : Array Oper} {pre : List Oper} {ol : Oper} (hops : ops.toList = pre ++ [ol]) (hlb : lastB pre ol = true) {fps : List FP} {K : St → Prop} {Q : Go.Exit → Act → World → Prop} {M0 F : Imm} {pin : Names} {w0 : World} {nx : Nat}
   (hok : fpOK pre fps = true)
   (hfin : ∀ M' ρ' σ' a' w', M0.le M' → SR C M' F pin ρ' σ' a' w' → Same w0 w' → K σ' → Q .normal a' w') :
   ∀ (fuel : Nat) (l : List Nat) (listed : Array Bool) (σ τ : St) (M : Imm) (ρ : Names) (a : Act) (w : World), l.length = fuel → l.Pairwise (· < ·) → listed.size = ops.size →
     (∀ i, i ∈ l ↔ i < pre.length ∧ listed.getD i true = false) → listed.getD pre.length true = false →
     (∀ (i : Nat) (o : Oper), pre[i]? = some o → listed.getD i false = true → ∀ e, e ∈ edgesOf o → listed.getD e false = true) →
     M0.le M → Same w0 w → SR0 C M F pin ρ σ a w → σ.nx = nx → (∀ i, i ∈ l → ∀ n, nx + 8 * i ≤ n → n < nx + 8 * i + 8 → ρ n = none) → (∀ n, nx + 8 * pre.length ≤ n → ρ n = none) →
     Runs C pre fps nx l σ τ → LastOK C ol (nx + 8 * pre.length) τ (fun σ' => K ⟨σ'.t, σ'.h, nx + 8 * ops.size⟩) → wpAny C.P .any ops Q (fuel + 1) listed a w := by
 simp only [fpOK, Bool.and_eq_true] at hok
 obtain ⟨_, hall⟩ := hok
 have hget := allOK_get _ hall
 have hback : ∀ (i : Nat) (o : Oper), pre[i]? = some o → ∀ e, e ∈ edgesOf o → e < i := by
   intro i o ho e he
   obtain ⟨o', f, h1, _, h2, _⟩ := hget i (List.getElem?_eq_some_iff.1 ho).1
   rw [ho] at h1; obtain rfl := Option.some.inj h1
   exact h2 e he
 have hsize : ops.size = pre.length + 1 := by
   have := congrArg List.length hops
   simpa using this
 have hopre : ∀ i, i < pre.length → ops[i]? = pre[i]? := by
   intro i hi
   rw [← Array.getElem?_toList, hops, List.getElem?_append_left hi]
 have holast : ops[pre.length]? = some ol := by
   rw [← Array.getElem?_toList, hops, List.getElem?_append_right (Nat.le_refl _), Nat.sub_self]; rfl
 simp only [lastB, Bool.and_eq_true, List.all_eq_true] at hlb
 obtain ⟨hlb1, hlb2⟩ := hlb
 -- when the last is ready, the others are listed
 have lastAll : ∀ (listed : Array Bool), (∀ (i : Nat) (o : Oper), pre[i]? = some o → listed.getD i false = true → ∀ e, e ∈ edgesOf o → listed.getD e false = true) → (∀ e, e ∈ edgesOf ol → listed.getD e false = true) → ∀ i, i < pre.length → listed.getD i false = true := by
   intro listed hdown hed i hi
   have := hlb2 i (List.mem_range.2 hi)
   rw [List.any_eq_true] at this
   obtain ⟨x, hx, hb⟩ := this
   obtain rfl := Nat.eq_of_beq_eq_true hb
   rw [List.mem_flatMap] at hx
   obtain ⟨e, he, hx⟩ := hx
   rcases List.mem_cons.1 hx with rfl | hx
   · exact hed _ he
   · have helt : e < pre.length := by simpa using hlb1 e he
     exact reach_listed (ops := pre) (L := fun k => listed.getD k false = true) hback (fun k o hk => hdown k o hk) e pre[e] (List.getElem?_eq_getElem helt) (fun e' he' => hdown e pre[e] (List.getElem?_eq_getElem helt) (hed e he) e' he') i hx
 have flip : ∀ (listed : Array Bool) (i : Nat), i < listed.size → listed.getD i true = listed.getD i false := by
   intro listed i hi; simp [Array.getD, hi]
 have doLast : ∀ (fuel : Nat) (listed : Array Bool) (σ : St) (M : Imm) (ρ : Names) (a : Act) (w : World), listed.size = ops.size → (∀ i, i < pre.length → listed.getD i false = true) → listed.getD pre.length true = false → M0.le M → Same w0 w → SR0 C M F pin ρ σ a w → σ.nx = nx → (∀ n, nx + 8 * pre.length ≤ n → ρ n = none) →
     LastOK C ol (nx + 8 * pre.length) σ (fun σ' => K ⟨σ'.t, σ'.h, nx + 8 * ops.size⟩) → wpOp C.P ops Q pre.length (wpAny C.P .any ops Q fuel (listed.setIfInBounds pre.length true)) a w := by
   intro fuel listed σ M ρ a w hsz hli hno hM hw hs hn hf hLK
   obtain ⟨hd, hg, bs, RS, hokk, hbs, hk⟩ := hLK
   unfold wpOp
   rw [holast]
   dsimp only
   rw [wanted_on (σ := σ) (ops := ops) hs (by unfold gOn; rw [hg]; trivial)]
   simp only [if_true]
   refine .inl (hokk M F ρ a σ.h w (fun x _ => opv_rel hs x) hs.gl hs.hr hbs (fun n g1 g2 => hf n g1) _ _ ?_)
   intro M' ρ' u1 wr1 u' w' g1 g2 g3 hRS g5 g6 g7
   have hs' := hs.app hd g1 g2 g5 g6
   have fin : Q .normal (a.put ol.dst u') w' := by
     refine hfin M' ρ' ⟨(σ.app ol.dst u1 wr1).t, (σ.app ol.dst u1 wr1).h, nx + 8 * ops.size⟩ _ w' (Imm.le_trans hM g1) ⟨⟨hs'.tm, hs'.sz, hs'.df, hs'.hr, hs'.pn, hs'.pm, hs'.gl⟩, ?_⟩ (hw.trans g7) (hk u1 wr1 hRS)
     intro n hn'
     have hn' : nx + 8 * ops.size ≤ n := hn'
     rw [g3 n (by omega)]; exact hf n (by omega)
   have hready : Region.ready .any ops (listed.setIfInBounds pre.length true) = [] := by
     cases hrd : Region.ready .any ops (listed.setIfInBounds pre.length true) with
     | nil => rfl
     | cons i r =>
       exfalso
       have : i ∈ Region.ready .any ops (listed.setIfInBounds pre.length true) := by rw [hrd]; exact List.mem_cons_self ..
       obtain ⟨hi, hl2, _⟩ := ready_iff.1 this
       by_cases e : i = pre.length
       · subst e; simp [Array.getD, hsz, hi] at hl2
       · have : (listed.setIfInBounds pre.length true).getD i true = listed.getD i true := by
           rw [Array.getD_eq_getD_getElem?, Array.getD_eq_getD_getElem?, Array.getElem?_setIfInBounds_ne (Ne.symm e)]
         rw [this, flip listed i (by omega), hli i (by omega)] at hl2
         cases hl2
   cases fuel with
   | zero => exact ⟨hready, fin⟩
   | succ fuel => exact ⟨fun _ => fin, fun i hi => by rw [hready] at hi; cases hi⟩
 intro fuel
 induction fuel with
 | zero =>
   intro l listed σ τ M ρ a w hlen hp hsz hl hnl hdown hM hw hs hn hf1 hf2 hr hK
   have hnil : l = [] := List.length_eq_zero_iff.1 hlen
   subst hnil
   have hστ : σ = τ := hr
   subst hστ
   have hli : ∀ i, i < pre.length → listed.getD i false = true := by
     intro i hi
     cases hb : listed.getD i true with
     | true => rw [← flip listed i (by omega)]; exact hb
     | false => exact absurd ((hl i).2 ⟨hi, hb⟩) (by simp)
   refine ⟨fun hrd => ?_, fun i hi => ?_⟩
   · exfalso
     have : pre.length ∈ Region.ready .any ops listed := ready_iff.2 ⟨by omega, hnl, ol, holast, fun e he => hli e (by simpa using hlb1 e he)⟩
     rw [hrd] at this; cases this
   · obtain ⟨hlt, hl2, _⟩ := ready_iff.1 hi
     by_cases e : i = pre.length
     · subst e; exact doLast 0 listed σ M ρ a w hsz hli hnl hM hw hs hn hf2 hK
     · rw [flip listed i (by omega), hli i (by omega)] at hl2; cases hl2
 | succ fuel ih =>
   intro l listed σ τ M ρ a w hlen hp hsz hl hnl hdown hM hw hs hn hf1 hf2 hr hK
   refine ⟨fun hrd => ?_, ?_⟩
   · exfalso
     cases l with
     | nil => simp at hlen
     | cons i l =>
       obtain ⟨hi, hli⟩ := (hl i).1 (List.mem_cons_self ..)
       have : i ∈ Region.ready .any ops listed := by
         refine ready_iff.2 ⟨by omega, hli, pre[i], by rw [hopre i hi]; exact List.getElem?_eq_getElem hi, ?_⟩
         intro e he
         have hlt := hback i pre[i] (List.getElem?_eq_getElem hi) e he
         cases hb : listed.getD e true with
         | true => rw [← flip listed e (by omega)]; exact hb
         | false =>
           have hm : e ∈ i :: l := (hl e).2 ⟨by omega, hb⟩
           rcases List.mem_cons.1 hm with h | h
           · omega
           · have := (List.pairwise_cons.1 hp).1 e h; omega
       rw [hrd] at this; cases this
   · intro i hi
     obtain ⟨hlt, hli, o, ho, hpre⟩ := ready_iff.1 hi
     by_cases hil : i = pre.length
     · exfalso
       subst hil
       rw [holast] at ho; obtain rfl := Option.some.inj ho
       have hall := lastAll listed hdown hpre
       cases l with
       | nil => simp at hlen
       | cons i l =>
         obtain ⟨hi2, hli2⟩ := (hl i).1 (List.mem_cons_self ..)
         rw [flip listed i (by omega), hall i hi2] at hli2; cases hli2
     replace hlt : i < pre.length := by omega
     have hlt3 : i < ops.size := by omega
     rw [hopre i hlt] at ho
     have him : i ∈ l := (hl i).2 ⟨hlt, hli⟩
     obtain ⟨A, B, rfl, hA⟩ := split_at_mem him
     have hoL : pre[i]? = some o := ho
     obtain ⟨o', f, h1, hfi, h3, h4⟩ := hget i hlt
     rw [hoL] at h1; obtain rfl := Option.some.inj h1
     have hnot : ∀ j, j ∈ A → j ∉ (reach pre).getD i [] := by
       intro j hj hjr
       have hL := reach_listed (ops := pre) (L := fun k => listed.getD k false = true) hback (fun k o hk => hdown k o hk) i o hoL hpre j hjr
       have := ((hl j).1 (List.mem_append_left _ hj)).2
       have hjs : j < listed.size := by have := ((hl j).1 (List.mem_append_left _ hj)).1; omega
       simp [Array.getD, hjs] at this hL
       rw [this] at hL; cases hL
     have hlt2 : ∀ j, j ∈ A → j < i := by
       intro j hj
       exact (List.pairwise_append.1 hp).2.2 j hj i (List.mem_cons_self ..)
     have hfront := Runs_front (C := C) (nx := nx) hoL hfi A B σ τ (fun j hj p g hp2 hg => (pairsOK_get _ h4 j (hlt2 j hj)).resolve_left (hnot j hj) p g hp2 hg) hr
     obtain ⟨o2, f2, σ', k1, k2, hD, hrest⟩ := hfront
     rw [hoL] at k1; obtain rfl := Option.some.inj k1
     rw [hfi] at k2; obtain rfl := Option.some.inj k2
     have hl' : (A ++ B).length = fuel := by simp at hlen ⊢; omega
     have hp' : (A ++ B).Pairwise (· < ·) := by
       rw [List.pairwise_append] at hp ⊢
       refine ⟨hp.1, (List.pairwise_cons.1 hp.2.1).2, fun x hx y hy => hp.2.2 x hx y (List.mem_cons_of_mem _ hy)⟩
     have hiB : i ∉ B := by
       intro hb
       have := (List.pairwise_cons.1 (List.pairwise_append.1 hp).2.1).1 i hb
       omega
     have hmem : ∀ j, j ∈ A ++ B ↔ j < pre.length ∧ (listed.setIfInBounds i true).getD j true = false := by
       intro j
       by_cases e : j = i
       · subst e
         constructor
         · intro h; rcases List.mem_append.1 h with h | h
           · exact absurd h hA
           · exact absurd h hiB
         · rintro ⟨_, h⟩; simp [Array.getD, hsz, hlt3] at h
       · have : (listed.setIfInBounds i true).getD j true = listed.getD j true := by
           rw [Array.getD_eq_getD_getElem?, Array.getD_eq_getD_getElem?, Array.getElem?_setIfInBounds_ne (Ne.symm e)]
         rw [this, ← hl j]
         simp [e]
     have hdown' : ∀ (k : Nat) (p : Oper), pre[k]? = some p → (listed.setIfInBounds i true).getD k false = true → ∀ e, e ∈ edgesOf p → (listed.setIfInBounds i true).getD e false = true := by
       have keep : ∀ e, listed.getD e false = true → (listed.setIfInBounds i true).getD e false = true := by
         intro e he
         by_cases h : e = i
         · subst h; simp [Array.getD, hsz, hlt3]
         · rw [Array.getD_eq_getD_getElem?, Array.getElem?_setIfInBounds_ne (Ne.symm h), ← Array.getD_eq_getD_getElem?]; exact he
       intro k p hk hlk e he
       by_cases h : k = i
       · subst h
         rw [ho] at hk; obtain rfl := Option.some.inj hk
         exact keep e (hpre e he)
       · refine keep e (hdown k p hk ?_ e he)
         rw [Array.getD_eq_getD_getElem?, Array.getElem?_setIfInBounds_ne (Ne.symm h), ← Array.getD_eq_getD_getElem?] at hlk
         exact hlk
     have hnl' : (listed.setIfInBounds i true).getD pre.length true = false := by
       rw [Array.getD_eq_getD_getElem?, Array.getElem?_setIfInBounds_ne hil, ← Array.getD_eq_getD_getElem?]; exact hnl
     unfold wpOp
     rw [hopre i hlt, ho]
     dsimp only
     obtain ⟨hd, hD⟩ := hD
     rcases hD with ⟨hg, bs, u, wr, hokk, hbs, _, _, rfl⟩ | ⟨hg, _, rfl⟩
     · rw [wanted_on (ops := ops) hs (by rw [hops]; exact gOn_pre hg)]
       simp only [if_true]
       refine .inl (hokk M F ρ a σ.h w (fun x _ => opv_rel hs x) hs.gl hs.hr hbs (fun n g1 g2 => hf1 i him n g1 g2) _ _ ?_)
       rintro M' ρ' u1 wr1 u' w' g1 g2 g3 ⟨rfl, rfl⟩ g5 g6 g7
       refine ih (A ++ B) _ _ τ M' ρ' _ w' hl' hp' (by simp [hsz]) hmem hnl' hdown' (Imm.le_trans hM g1) (hw.trans g7) (hs.app hd g1 g2 g5 g6) hn ?_ ?_ hrest hK
       · intro j hj n m1 m2
         have hji : j ≠ i := by rintro rfl; rcases List.mem_append.1 hj with h | h; exact hA h; exact hiB h
         rw [g3 n (by omega)]
         refine hf1 j ?_ n m1 m2
         rcases List.mem_append.1 hj with h | h
         · exact List.mem_append_left _ h
         · exact List.mem_append_right _ (List.mem_cons_of_mem _ h)
       · intro n m1
         rw [g3 n (by omega)]; exact hf2 n m1
     · rw [wanted_off (ops := ops) hs (by rw [hops]; exact gOff_pre hg)]
       simp only [Bool.false_eq_true, if_false]
       refine ih (A ++ B) _ _ τ M ρ _ w hl' hp' (by simp [hsz]) hmem hnl' hdown' hM hw (hs.app (wr := []) hd (Imm.le_refl _) (Names.le_refl _) VR.skip hs.hr) hn ?_ hf2 hrest hK
       intro j hj n m1 m2
       refine hf1 j ?_ n m1 m2
       rcases List.mem_append.1 hj with h | h
       · exact List.mem_append_left _ h
       · exact List.mem_append_right _ (List.mem_cons_of_mem _ h)
theorem W_region_last {C : Ctx} {id : Nat} {ops : Array Oper} {pre : List Oper} {o : Oper} {Q : Exit → St → Prop} {σ : St} (hm : C.P.follows .mixedOrders = true) (hops : ops.toList = pre ++ [o]) (hlb : lastB pre o = true) (hg : o.guard = none)
   (h : wops C pre 0 pre σ (some []) (fun σ1 => wops C ops.toList pre.length [o] ⟨σ1.t, σ1.h, σ.nx⟩ none (fun σ' => Q .normal σ'))) : W C (.region id ops true) Q σ := by
 intro M F pin ρ a w hs
 have hsize : ops.size = pre.length + 1 := by
   have := congrArg List.length hops
   simpa using this
 obtain ⟨fps, τ, _, h2, h3, h4, h5⟩ := wops_runs (K := fun σ1 => wops C ops.toList pre.length [o] ⟨σ1.t, σ1.h, σ.nx⟩ none (fun σ' => Q .normal σ')) pre 0 σ [] rfl (fun j => by simp) h
 have hlast := last_of hg h5
 have hlast : LastOK C o (σ.nx + 8 * pre.length) τ (fun σ' => Q .normal ⟨σ'.t, σ'.h, σ.nx + 8 * ops.size⟩) := by
   obtain ⟨k1, k2, bs, RS, k3, k4, k5⟩ := hlast
   refine ⟨k1, k2, bs, RS, k3, k4, fun u wr hR => ?_⟩
   have := k5 u wr hR
   simpa [St.app] using this
 refine wp_region_any hm ?_
 rw [hsize]
 refine wops_anyL hops hlb (K := fun σ' => Q .normal σ') (M0 := M) (F := F) (pin := pin) (w0 := w) (nx := σ.nx) h2 ?_ pre.length (List.range' 0 pre.length) (Array.replicate (pre.length + 1) false) σ τ M ρ a _ (by simp) ?_ (by simp [hsize]) ?_ (by simp [Array.getD]) ?_ (Imm.le_refl _) ⟨rfl, rfl, rfl, Nat.le_refl _⟩
   ⟨hs.tm, hs.sz, hs.df, hs.hr.drawn _, hs.pn, hs.pm, hs.gl⟩ rfl (fun i _ n g1 _ => hs.fr n (by omega)) (fun n g1 => hs.fr n (by omega)) h3 hlast
 · intro M' ρ' σ' a' w' k1 k2 k3 k4
   exact ⟨M', ρ', σ', k1, k2, k3, k4⟩
 · exact List.pairwise_lt_range'
 · intro i
   rw [List.mem_range']
   constructor
   · rintro ⟨j, hj, rfl⟩
     simp [Array.getD, hj]; omega
   · rintro ⟨hi, _⟩
     exact ⟨i, hi, by omega⟩
 · intro i o ho hl
   have hi : i < pre.length := (List.getElem?_eq_some_iff.1 ho).1
   simp [Array.getD, show i < pre.length + 1 by omega] at hl
theorem rdL0 {C : Ctx} {Q : Exit → St → Prop} {σ : St} {id : Nat} {ops : Array Oper} {pre : List Oper} {o : Oper} (hm : C.P.follows .mixedOrders = true) (hops : ops.toList = pre ++ [o]) (hlb : lastB pre o = true) (hg : o.guard = none)
   (k : wops C pre 0 pre σ (some []) (fun σ1 => wops C ops.toList pre.length [o] ⟨σ1.t, σ1.h, σ.nx⟩ none (fun σ' => Q .normal σ'))) : W C (.region id ops true) Q σ := W_region_last hm hops hlb hg k
theorem rdLn0 {C : Ctx} {Q : Exit → St → Prop} {σ : St} {id : Nat} {ops : Array Oper} {o : Oper} (n : Nat) (hm : C.P.follows .mixedOrders = true) (ho : ops.toList.drop n = [o]) (hlb : lastB (ops.toList.take n) o = true) (hg : o.guard = none)
   (k : wops C (ops.toList.take n) 0 (ops.toList.take n) σ (some []) (fun σ1 => wops C ops.toList n [o] ⟨σ1.t, σ1.h, σ.nx⟩ none (fun σ' => Q .normal σ'))) : W C (.region id ops true) Q σ := by
 have hlen : (ops.toList.take n).length = n := by
   have := congrArg List.length ho
   simp at this
   rw [List.length_take]; simp; omega
 exact rdL0 hm (by rw [← ho, List.take_append_drop]) hlb hg (by rw [hlen]; exact k)
theorem aStr {C : Ctx} {ops : List Oper} {i : Nat} {o : Oper} {l : List Oper} {t : Nat → SV} {h : Heap} {nx : Nat} {K : St → Prop} {acc : Option (List FP)} {src dst e : TypeId} {y : Operand} {len : Nat} {f : Nat → Nat → D} (L : List UInt8) (d nm i' : Nat) (hi : i + 1 = i') (hnm : nx + 8 * i = nm) (hg : o.guard = none) (hdst : o.dst = some d) (hd : Nat.blt d C.sz = true) (ho : o.op = .convert src dst y)
   (hs : C.P.underlying src = some (.slice e)) (he : C.P.underlying e = some (.int .u8)) (hds : C.P.underlying dst = some .string)
   (hy : (opv C t y).hd = some (.d (.vec 1 len f))) (hlen : len = L.length) (hf : ∀ (j : Nat) (hj : j < L.length), f j 0 = .val (.int .u8 (L[j].toNat : Int)))
   (k : wops C ops i' l ⟨upd t d (.d (.val (.string ⟨L.toArray⟩))), h, nx⟩ (acc.map (· ++ [([], [])])) K) : wops C ops i (o :: l) ⟨t, h, nx⟩ acc K := by
 subst hi; subst hnm; subst hlen
 have hok : OpOK C o (nx + 8 * i) (opv C t) [] (fun x z => x = .d (.val (.string ⟨L.toArray⟩)) ∧ z = []) := by
   refine ok_pure fun M F ρ a hh w hv hH _ => ⟨.string ⟨L.toArray⟩, ?_, .d _ _ (.val _ rfl)⟩
   have e1 := hv y (by rw [ho]; simp [Op.operands]); rw [SV.hd_eq hy] at e1
   have : (convert src dst (a.eval y)).run C.P w = .ok (.string ⟨L.toArray⟩) w := by
     generalize a.eval y = q at e1
     cases e1 with
     | d _ _ hD =>
       generalize hLn : L.length = n at hD
       cases hD with
       | vec0 _ _ ad cap =>
         have : L = [] := List.length_eq_zero_iff.1 hLn
         subst this
         cases ad with
         | none => exact conv_none w src dst e _ _ hs he hds
         | some x => exact run_convert_bytes_back w src dst e x cap [] hs he hds (fun j hj => by simp at hj)
       | vec _ _ _ b oo cap cur T fz g hb hc hgg hr =>
         subst hLn
         refine run_convert_bytes_back w src dst e ⟨b, oo, none⟩ cap L hs he hds fun j hj => ?_
         have h1 := hgg j 0 hj (by omega)
         have h2 := hr j 0 hj (by omega)
         rw [hf j hj] at h2
         generalize hgq : g j 0 = gq at h1 h2
         cases h2
         have h3 := hH.imm b _ hb
         have ea : (⟨b, oo, none⟩ : Addr).add j = ⟨b, oo + j, none⟩ := by unfold Addr.add; split <;> simp_all
         rw [ea]
         unfold World.cell?
         simp only [h3]
         simpa using h1
   unfold execOp
   simp only [ho, Sem.run_bind, this, Result.andThen_ok, Sem.run_pure]
 refine st_ok (σ := ⟨t, h, nx⟩) hg (by unfold dstOK; rw [hdst]; exact hd) hok (fun p hp => by simp at hp) rfl ?_
 unfold St.app; rw [hdst]; exact k
theorem famShutn {C : Ctx} {K : St → Prop} {t : Nat → SV} {h : Heap} {nx : Nat} (n j : Nat) (π : List Nat) (s : SV) (bl : List InB) {S : List Nat} {es : List (Value × SV × List InB)} {ly : Option (TypeId × Nat)} {k : Value} {e0 : SV × List InB} {u : SV} (hn : h n = some (.fam S ⟨es, [(j, u)], ly⟩)) (hj : es[j]? = some (k, e0)) (hu : u = ren π s)
   (hbs : bsHeap h (bsOf π π (bl.map InB.blk))) (side : (Nat.beq π.length bl.length && (nodupB (n :: π) && (s.under bl.length && inUnder bl.length bl))) = true)
   (kk : ∀ S', Wn C K ⟨t, wrH (upd h n (some (.fam S' ⟨es.set j (k, s, bl), [], ly⟩))) (π.map fun m => (m, none)), nx⟩) : Wn C K ⟨t, h, nx⟩ := by
 intro M F pin ρ a w hsr
 have hH : HR M F ρ h w := hsr.hr
 simp only [Bool.and_eq_true] at side
 obtain ⟨s1, s0, s2, s3⟩ := side
 have s1 := Nat.eq_of_beq_eq_true s1
 obtain ⟨x, hx, g0, g1, g2, g3, ρs, r1, r2⟩ := hH.fam n S _ hn
 obtain ⟨hMx, hFx, ob, o1, oB⟩ := hH.famBR hn hx
 have hjl : j < es.length := (List.getElem?_eq_some_iff.1 hj).1
 have hnπ : n ∉ π := by
   intro hm
   obtain ⟨i, hi⟩ := List.mem_iff_getElem?.1 hm
   have := nodupB_inj s0 0 (i + 1) n rfl (by simpa using hi)
   omega
 have hndπ : ∀ i i' m : Nat, π[i]? = some m → π[i']? = some m → i = i' := by
   intro i i' m h1 h2
   have := nodupB_inj s0 (i + 1) (i' + 1) m (by simpa using h1) (by simpa using h2)
   omega
 have hlv : ∀ (i : Nat) (c : InB), bl[i]? = some c → ∃ m, π[i]? = some m ∧ h m = some (renB π c.blk) := by
   intro i c hc
   obtain ⟨m, hm, hb⟩ := bsOf_get (π := π) π (bl.map InB.blk) (by rw [s1, List.length_map]) i c.blk (by rw [List.getElem?_map, hc]; rfl)
   exact ⟨m, hm, bsHeap_mem hbs _ hb⟩
 have hπs : ∀ (i m : Nat), π[i]? = some m → ∃ c, bl[i]? = some c ∧ h m = some (renB π c.blk) ∧ ∃ z, ρ m = some z ∧ ((z.R = 0 ∧ c.blk.ghost = true) ∨ (0 < z.R ∧ M z.b = none ∧ F z.b = none ∧ ∃ o, w.heap[z.b]? = some o ∧ BR M ρ z (renB π c.blk) o)) := by
   intro i m hm
   have hi : i < bl.length := by rw [← s1]; exact (List.getElem?_eq_some_iff.1 hm).1
   obtain ⟨m', hm', hb⟩ := hlv i _ (List.getElem?_eq_getElem hi)
   rw [hm] at hm'; obtain rfl := Option.some.inj hm'
   obtain ⟨z, hz, hr⟩ := hH.live m _ hb
   refine ⟨_, List.getElem?_eq_getElem hi, hb, z, hz, ?_⟩
   rw [ghost_renB] at hr
   exact hr
 have hfamno : ∀ (i m : Nat) S es, π[i]? = some m → h m ≠ some (.fam S es) := by
   intro i m S es hm he
   obtain ⟨c, _, hb, _⟩ := hπs i m hm
   rw [hb] at he
   cases c <;> simp [InB.blk, renB] at he
 let S' := S ++ π.filterMap fun m => (ρ m).bind fun z => if 0 < z.R then some z.b else none
 have hS' : ∀ b, b ∈ S' ↔ b ∈ S ∨ ∃ m z, m ∈ π ∧ ρ m = some z ∧ 0 < z.R ∧ z.b = b := by
   intro b
   simp only [S', List.mem_append, List.mem_filterMap]
   constructor
   · rintro (h1 | ⟨m, hm, h2⟩)
     · exact .inl h1
     · right
       cases hz : ρ m with
       | none => rw [hz] at h2; cases h2
       | some z =>
         rw [hz] at h2
         simp only [Option.bind_some] at h2
         split at h2
         · next h0 => exact ⟨m, z, hm, hz, h0, Option.some.inj h2⟩
         · cases h2
   · rintro (h1 | ⟨m, z, hm, hz, h0, hb⟩)
     · exact .inl h1
     · exact .inr ⟨m, hm, by rw [hz]; simp [h0, hb]⟩
 have hwr : ∀ (l : List Nat) (h0 : Heap) (m : Nat), wrH h0 (l.map fun m => (m, none)) m = if m ∈ l then none else h0 m := by
   intro l
   induction l with
   | nil => intro h0 m; simp [wrH]
   | cons q r ih =>
     intro h0 m
     simp only [List.map_cons, wrH]
     rw [ih, upd_eq]
     by_cases e : m ∈ r
     · simp [e]
     · by_cases e2 : m = q
       · simp [e2]
       · simp [e, e2]
 let es' : Fam := ⟨es.set j (k, s, bl), [], ly⟩
 have at' : ∀ m, wrH (upd h n (some (.fam S' es'))) (π.map fun m => (m, none)) m = if m ∈ π then none else if m = n then some (.fam S' es') else h m := by
   intro m; rw [hwr, upd_eq]
 have ne : ∀ m, wrH (upd h n (some (.fam S' es'))) (π.map fun m => (m, none)) m ≠ none → m ∉ π ∧ h m ≠ none := by
   intro m hm
   rw [at'] at hm
   by_cases e : m ∈ π
   · rw [if_pos e] at hm; exact absurd rfl hm
   · refine ⟨e, fun e2 => ?_⟩
     rw [if_neg e] at hm
     split at hm
     · next e3 => subst e3; rw [hn] at e2; cases e2
     · exact hm e2
 have ofS' : ∀ b, b ∈ S' → M b = none ∧ F b = none ∧ b < w.heap.size := by
   intro b hb
   rcases (hS' b).1 hb with hb | ⟨m, z, hm, hz, h0, rfl⟩
   · exact g1 b hb
   · obtain ⟨i, hi⟩ := List.mem_iff_getElem?.1 hm
     obtain ⟨c, _, _, z', hz', hr⟩ := hπs i m hi
     rw [hz] at hz'; obtain rfl := Option.some.inj hz'
     rcases hr with ⟨h00, _⟩ | ⟨_, h1, h2, o, h3, _⟩
     · omega
     · exact ⟨h1, h2, (Array.getElem?_eq_some_iff.1 h3).1⟩
 obtain ⟨ρs2, hρj, hρo⟩ : ∃ ρs2 : Nat → Names, ρs2 j = back π ρ ∧ ∀ q, q ≠ j → ρs2 q = ρs q := ⟨fun q => if q = j then back π ρ else ρs q, if_pos rfl, fun q hq => if_neg hq⟩
 refine kk S' M F pin ρ a w ⟨⟨hsr.tm, hsr.sz, hsr.df, ⟨hH.imm, hH.frm, hH.dis, fun m b hm => ?_, fun q q' z z' hq hq' => hH.sep q q' z z' (ne q hq).2 (ne q' hq').2, fun m S2 es2 hm => ?_⟩, hsr.pn, hsr.pm, hsr.gl⟩, hsr.fr⟩
 · replace hm := (at' m).symm.trans hm
   by_cases e : m ∈ π
   · rw [if_pos e] at hm; cases hm
   · rw [if_neg e] at hm
     split at hm
     · next e2 =>
       subst e2; cases hm
       exact ⟨x, hx, .inr ⟨g0, hMx, hFx, _, o1, oB.famSet hj⟩⟩
     · exact hH.live m b hm
 · replace hm := (at' m).symm.trans hm
   by_cases e : m ∈ π
   · rw [if_pos e] at hm; cases hm
   · rw [if_neg e] at hm
     split at hm
     · next e2 =>
       subst e2; cases hm
       refine ⟨x, hx, g0, ofS', fun q z hq hz h0z hb => ?_, fun q S3 es3 hqm hq b hb => ?_, ρs2, fun j2 k2 s2' bl2 hj2 => ?_, ?_⟩
       · obtain ⟨q1, q2⟩ := ne q hq
         rcases (hS' _).1 hb with hb | ⟨m', z', hm', hz', h0', hb⟩
         · exact g2 q z q2 hz h0z hb
         · obtain ⟨i, hi⟩ := List.mem_iff_getElem?.1 hm'
           obtain ⟨c, _, hb2, _⟩ := hπs i m' hi
           have := hH.sep q m' z z' q2 (by rw [hb2]; simp) hz hz' h0z h0' hb.symm
           subst this; exact q1 hm'
       · replace hq := (at' q).symm.trans hq
         by_cases e3 : q ∈ π
         · rw [if_pos e3] at hq; cases hq
         rw [if_neg e3, if_neg hqm] at hq
         rcases (hS' _).1 hb with hb | ⟨m', z', hm', hz', h0', rfl⟩
         · exact g3 q S3 es3 hqm hq b hb
         · obtain ⟨i, hi⟩ := List.mem_iff_getElem?.1 hm'
           obtain ⟨c, _, hb2, _⟩ := hπs i m' hi
           obtain ⟨_, _, _, _, t2, _⟩ := hH.fam q S3 es3 hq
           exact t2 m' z' (by rw [hb2]; simp) hz' h0'
       · by_cases hjj : j2 = j
         · subst hjj
           replace hj2 := hj2.1
           rw [List.getElem?_set_self hjl] at hj2
           cases hj2
           obtain ⟨y', y1, y3⟩ := oB.open (p := (j2, u)) (List.mem_singleton.2 rfl)
           refine ⟨⟨_, y', o1, y1, ?_⟩, fun i c hc => ?_⟩
           · rw [hρj]
             exact y3.back s hu (by rw [s1]; exact s2)
           · obtain ⟨m', hm', _⟩ := hlv i c hc
             obtain ⟨c', hc', hb', z, hz, hr⟩ := hπs i m' hm'
             rw [hc] at hc'; obtain rfl := Option.some.inj hc'
             refine ⟨z, by rw [hρj]; simp [back, hm', hz], ?_⟩
             rcases hr with hr | ⟨h0, h1, h2, o, h3, h4⟩
             · exact .inl hr
             · refine .inr ⟨h0, (hS' _).2 (.inr ⟨m', z, List.mem_of_getElem? hm', hz, h0, rfl⟩), o, h3, ?_⟩
               rw [hρj]
               exact h4.back (by rw [s1]; exact (List.all_eq_true.1 s3) c (List.mem_of_getElem? hc))
         · replace hj2 := hj2.1
           rw [List.getElem?_set_ne (Ne.symm hjj)] at hj2
           obtain ⟨q1, q2⟩ := r1 j2 k2 s2' bl2 ⟨hj2, fun p hp => by cases List.mem_singleton.1 hp; exact Ne.symm hjj⟩
           refine ⟨?_, fun i c hc => ?_⟩
           · rw [hρo j2 hjj]; exact q1
           · obtain ⟨z, z1, z2⟩ := q2 i c hc
             refine ⟨z, by rw [hρo j2 hjj]; exact z1, ?_⟩
             rcases z2 with z2 | ⟨z2, z3, o, z4, z5⟩
             · exact .inl z2
             · exact .inr ⟨z2, (hS' _).2 (.inl z3), o, z4, by rw [hρo j2 hjj]; exact z5⟩
       · intro j2 j3 k2 k3 s2' s3' bl2 bl3 i i' c c' z z' hj2 hj3 hc hc' hz hz' h0 h0' hb
         have inS : ∀ (q : Nat) (k' : Value) (s' : SV) (bl' : List InB) (i : Nat) (c : InB) (z : Own), q ≠ j → es'.at q k' s' bl' → bl'[i]? = some c → ρs2 q i = some z → 0 < z.R → z.b ∈ S ∧ (⟨es, [(j, u)], ly⟩ : Fam).at q k' s' bl' ∧ ρs q i = some z := by
           intro q k' s' bl' i c z hq he hc hz h0
           replace he := he.1
           rw [List.getElem?_set_ne (Ne.symm hq)] at he
           replace he : (⟨es, [(j, u)], ly⟩ : Fam).at q k' s' bl' := ⟨he, fun p hp => by cases List.mem_singleton.1 hp; exact Ne.symm hq⟩
           rw [hρo q hq] at hz
           obtain ⟨_, q2⟩ := r1 q k' s' bl' he
           obtain ⟨z', z1, z2⟩ := q2 i c hc
           rw [hz] at z1; obtain rfl := Option.some.inj z1
           rcases z2 with ⟨z2, _⟩ | ⟨_, z3, _⟩
           · omega
           · exact ⟨z3, he, hz⟩
         have inπ : ∀ (i : Nat) (z : Own), back π ρ i = some z → ∃ m, π[i]? = some m ∧ ρ m = some z := by
           intro i z hz
           unfold back at hz
           cases e : π[i]? with
           | none => rw [e] at hz; cases hz
           | some m => rw [e] at hz; exact ⟨m, rfl, hz⟩
         by_cases e2 : j2 = j <;> by_cases e3 : j3 = j
         · rw [e2, hρj] at hz; rw [e3, hρj] at hz'
           obtain ⟨m1, a1, b1⟩ := inπ i z hz
           obtain ⟨m2, a2, b2⟩ := inπ i' z' hz'
           obtain ⟨_, _, c1, _⟩ := hπs i m1 a1
           obtain ⟨_, _, c2, _⟩ := hπs i' m2 a2
           have := hH.sep m1 m2 z z' (by rw [c1]; simp) (by rw [c2]; simp) b1 b2 h0 h0' hb
           subst this
           exact ⟨e2.trans e3.symm, hndπ i i' m1 a1 a2⟩
         · rw [e2, hρj] at hz
           obtain ⟨m1, a1, b1⟩ := inπ i z hz
           obtain ⟨_, _, c1, _⟩ := hπs i m1 a1
           obtain ⟨k1, _, _⟩ := inS j3 k3 s3' bl3 i' c' z' e3 hj3 hc' hz' h0'
           exact absurd (hb ▸ k1) (g2 m1 z (by rw [c1]; simp) b1 h0)
         · rw [e3, hρj] at hz'
           obtain ⟨m1, a1, b1⟩ := inπ i' z' hz'
           obtain ⟨_, _, c1, _⟩ := hπs i' m1 a1
           obtain ⟨k1, _, _⟩ := inS j2 k2 s2' bl2 i c z e2 hj2 hc hz h0
           exact absurd (hb.symm ▸ k1) (g2 m1 z' (by rw [c1]; simp) b1 h0')
         · obtain ⟨_, k1, l1⟩ := inS j2 k2 s2' bl2 i c z e2 hj2 hc hz h0
           obtain ⟨_, k2', l2⟩ := inS j3 k3 s3' bl3 i' c' z' e3 hj3 hc' hz' h0'
           exact r2 j2 j3 k2 k3 s2' s3' bl2 bl3 i i' c c' z z' k1 k2' hc hc' l1 l2 h0 h0' hb
     · next e2 =>
       obtain ⟨x2, hx2, q0, q1, q2, q3, q4⟩ := hH.fam m S2 es2 hm
       refine ⟨x2, hx2, q0, q1, fun q z hq hz h0z => q2 q z (ne q hq).2 hz h0z, fun q S3 es3 hqm hq b hb => ?_, q4⟩
       replace hq := (at' q).symm.trans hq
       by_cases e3 : q ∈ π
       · rw [if_pos e3] at hq; cases hq
       rw [if_neg e3] at hq
       split at hq
       · next e4 =>
         subst e4; cases hq
         intro hb2
         rcases (hS' _).1 hb2 with hb2 | ⟨m', z', hm', hz', h0', rfl⟩
         · exact g3 m S2 es2 e2 hm b hb2 hb
         · obtain ⟨i, hi⟩ := List.mem_iff_getElem?.1 hm'
           obtain ⟨c, _, hb3, _⟩ := hπs i m' hi
           exact q2 m' z' (by rw [hb3]; simp) hz' h0' hb
       · exact q3 q S3 es3 hqm hq b hb
theorem famTelln {C : Ctx} {K : St → Prop} {t : Nat → SV} {h : Heap} {nx : Nat} (n j : Nat) (s' : SV) (bl' : List InB) {S : List Nat} {es : List (Value × SV × List InB)} {ly : Option (TypeId × Nat)} {k : Value} {s : SV} (hn : h n = some (.fam S ⟨es, [], ly⟩)) (hj : es[j]? = some (k, s, []))
   (hs : ∀ M ρ v, VR M ρ s v → ∃ ρ' : Names, VR M ρ' s' v ∧ ∀ (i : Nat) (c : InB), bl'[i]? = some c → ∃ z, ρ' i = some z ∧ z.R = 0 ∧ c.blk.ghost = true) (kk : Wn C K ⟨t, upd h n (some (.fam S ⟨es.set j (k, s', bl'), [], ly⟩)), nx⟩) : Wn C K ⟨t, h, nx⟩ := by
 intro M F pin ρ a w hsr
 have hH : HR M F ρ h w := hsr.hr
 refine kk M F pin ρ a w ⟨⟨hsr.tm, hsr.sz, hsr.df, ?_, hsr.pn, hsr.pm, hsr.gl⟩, hsr.fr⟩
 show HR M F ρ (upd h n (some (.fam S ⟨es.set j (k, s', bl'), [], ly⟩))) w
 obtain ⟨x, hx, h0, g1, g2, g3, ρs, r1, r2⟩ := hH.fam n S _ hn
 obtain ⟨hM, hF, ob, o1, oB⟩ := hH.famBR hn hx
 have hjl : j < es.length := (List.getElem?_eq_some_iff.1 hj).1
 have ne : ∀ m, upd h n (some (.fam S ⟨es.set j (k, s', bl'), [], ly⟩)) m ≠ none → h m ≠ none := by
   intro m hm e
   rw [upd_eq] at hm; split at hm
   · next e2 => subst e2; rw [hn] at e; cases e
   · exact hm e
 refine ⟨hH.imm, hH.frm, hH.dis, fun m b hm => ?_, fun p q y z hp hq => hH.sep p q y z (ne p hp) (ne q hq), fun m S2 es2 hm => ?_⟩
 · rw [upd_eq] at hm
   split at hm
   · next e => subst e; cases hm; exact ⟨x, hx, .inr ⟨h0, hM, hF, ob, o1, oB.famSet hj⟩⟩
   · exact hH.live m b hm
 · rw [upd_eq] at hm
   split at hm
   · next e =>
     subst e; cases hm
     refine ⟨x, hx, h0, g1, fun p z hp => g2 p z (ne p hp), fun p S3 es3 hp hq => ?_, ?_⟩
     · rw [upd_other _ _ _ _ hp] at hq
       exact g3 p S3 es3 hp hq
     · obtain ⟨⟨ob', ev, f1, f2, f3⟩, _⟩ := r1 j k s [] ⟨hj, fun p hp => by cases hp⟩
       obtain ⟨ρ2, q1, q2⟩ := hs M (ρs j) ev f3
       have hset : ∀ j2, j2 ≠ j → ∀ k2 s2 bl2, (⟨es.set j (k, s', bl'), [], ly⟩ : Fam).at j2 k2 s2 bl2 → (⟨es, [], ly⟩ : Fam).at j2 k2 s2 bl2 := by
         intro j2 hne k2 s2 bl2 ha
         have := ha.1
         rw [List.getElem?_set_ne (Ne.symm hne)] at this
         exact ⟨this, fun p hp => by cases hp⟩
       have hself : ∀ k2 s2 bl2, (⟨es.set j (k, s', bl'), [], ly⟩ : Fam).at j k2 s2 bl2 → k2 = k ∧ s2 = s' ∧ bl2 = bl' := by
         intro k2 s2 bl2 ha
         have := ha.1
         rw [List.getElem?_set_self hjl] at this
         cases this; exact ⟨rfl, rfl, rfl⟩
       refine ⟨fun q => if q = j then ρ2 else ρs q, fun j2 k2 s2 bl2 hj2 => ?_, ?_⟩
       · by_cases e : j2 = j
         · subst e
           obtain ⟨rfl, rfl, rfl⟩ := hself _ _ _ hj2
           simp only [if_true]
           refine ⟨⟨ob', ev, f1, f2, q1⟩, fun i c hc => ?_⟩
           obtain ⟨z, z1, z2, z3⟩ := q2 i c hc
           exact ⟨z, z1, .inl ⟨z2, z3⟩⟩
         · simp only [if_neg e]
           exact r1 j2 k2 s2 bl2 (hset j2 e k2 s2 bl2 hj2)
       · intro j2 j3 k2 k3 s2 s3 bl2 bl3 i i' c c' z z' hj2 hj3 hc hc' hz hz' h0z h0z' hb
         have no : ∀ i c z, bl'[i]? = some c → ρ2 i = some z → ¬ 0 < z.R := by
           intro i c z hc hz
           obtain ⟨z2, y1, y2, _⟩ := q2 i c hc
           rw [hz] at y1; cases y1; omega
         by_cases e2 : j2 = j
         · subst e2
           obtain ⟨rfl, rfl, rfl⟩ := hself _ _ _ hj2
           simp only [if_true] at hz
           exact absurd h0z (no i c z hc hz)
         · by_cases e3 : j3 = j
           · subst e3
             obtain ⟨rfl, rfl, rfl⟩ := hself _ _ _ hj3
             simp only [if_true] at hz'
             exact absurd h0z' (no i' c' z' hc' hz')
           · simp only [if_neg e2] at hz
             simp only [if_neg e3] at hz'
             exact r2 j2 j3 k2 k3 s2 s3 bl2 bl3 i i' c c' z z' (hset _ e2 _ _ _ hj2) (hset _ e3 _ _ _ hj3) hc hc' hz hz' h0z h0z' hb
   · next e =>
     obtain ⟨z, hz, k0, k1, k2, k3, k4⟩ := hH.fam m S2 es2 hm
     refine ⟨z, hz, k0, k1, fun p y hp => k2 p y (ne p hp), fun p S3 es3 hp hq => ?_, k4⟩
     rw [upd_eq] at hq
     split at hq
     · next e4 => subst e4; cases hq; exact k3 p S _ hp hn
     · exact k3 p S3 es3 hp hq
theorem rowFamn {C : Ctx} {K : St → Prop} {t : Nat → SV} {h : Heap} {nx : Nat} (n : Nat) (key : Value) (cells : List SV) {ty k : Nat} {f : Nat → Nat → D} (hn : h n = some (.rows ty k 1 f)) (hl : cells.length = k) (hc : ∀ (c : Nat) (s : SV), cells[c]? = some s → s = .d (f 0 c))
   (kk : Wn C K ⟨t, upd h n (some (.fam [] ⟨[(key, .agg cells, [])], [], some (ty, k)⟩)), nx⟩) : Wn C K ⟨t, h, nx⟩ := by
 intro M F pin ρ a w hsr
 have hH : HR M F ρ h w := hsr.hr
 refine kk M F pin ρ a w ⟨⟨hsr.tm, hsr.sz, hsr.df, ?_, hsr.pn, hsr.pm, hsr.gl⟩, hsr.fr⟩
 show HR M F ρ (upd h n (some (.fam [] ⟨[(key, .agg cells, [])], [], some (ty, k)⟩))) w
 have ne : ∀ m, upd h n (some (.fam [] ⟨[(key, .agg cells, [])], [], some (ty, k)⟩)) m ≠ none → h m ≠ none := by
   intro m hm e
   rw [upd_eq] at hm; split at hm
   · next e2 => subst e2; rw [hn] at e; cases e
   · exact hm e
 obtain ⟨x, hx, hr⟩ := hH.live n _ hn
 rcases hr with ⟨_, hg⟩ | ⟨h0, hM, hF, ob, o1, oB⟩
 · simp [Blk.ghost] at hg
 cases ob with
 | cells cur T fz =>
   obtain ⟨rfl, rfl, b1, b2, b3, b4⟩ := oB
   refine ⟨hH.imm, hH.frm, hH.dis, fun m b hm => ?_, fun p q y z hp hq => hH.sep p q y z (ne p hp) (ne q hq), fun m S2 es2 hm => ?_⟩
   · rw [upd_eq] at hm
     split at hm
     · next e =>
       subst e; cases hm
       exact ⟨x, hx, .inr ⟨h0, hM, hF, _, o1, ⟨by rw [b1], rfl, by rw [b1]; exact b2, b3⟩, fun p hp => by cases hp⟩⟩
     · exact hH.live m b hm
   · rw [upd_eq] at hm
     split at hm
     · next e =>
       subst e; cases hm
       refine ⟨x, hx, h0, fun b hb => (by cases hb), fun _ _ _ _ _ hb => (by cases hb), fun _ _ _ _ _ b hb => (by cases hb), fun _ => fun _ => none, fun j k' s bl hj => ?_, fun j j' k1 k2 s s' bl bl' i i' c c' z z' hj hj' hc' => ?_⟩
       · obtain ⟨hj, _⟩ := hj
         have hj0 : j = 0 := by
           have := (List.getElem?_eq_some_iff.1 hj).1
           simp at this; omega
         subst hj0
         cases hj
         have hsz : (0 + 1) * k ≤ cur.size := by rw [b2]; exact Nat.mul_le_mul_right _ h0
         refine ⟨⟨_, .agg (cur.extract (0 * k) (0 * k + k)), o1, by simp only [entry]; rw [if_pos hsz], .aggOf _ _ ?_ fun c s hcs => ?_⟩, fun i c hc' => by simp at hc'⟩
         · rw [Array.size_extract, hl, Nat.min_eq_left (by omega)]; omega
         · obtain rfl := hc c s hcs
           have hck : c < k := by rw [← hl]; exact (List.getElem?_eq_some_iff.1 hcs).1
           obtain ⟨u, u1, u2⟩ := b4 0 c (by omega) hck
           exact ⟨u, by rw [Array.getElem?_extract, if_pos (by omega)]; exact u1, .d _ _ u2⟩
       · have := hj.1
         have hj0 : j = 0 := by
           have := (List.getElem?_eq_some_iff.1 this).1
           simp at this; omega
         subst hj0
         cases this
         simp at hc'
     · next e =>
       obtain ⟨z, hz, k0, k1, k2, k3, k4⟩ := hH.fam m S2 es2 hm
       refine ⟨z, hz, k0, k1, fun p y hp => k2 p y (ne p hp), fun p S3 es3 hp hq => ?_, k4⟩
       rw [upd_eq] at hq
       split at hq
       · cases hq; exact fun _ _ h => by cases h
       · exact k3 p S3 es3 hp hq
 | _ => exact oB.elim
theorem torowsn {C : Ctx} {K : St → Prop} {t : Nat → SV} {h : Heap} {nx : Nat} (n L : Nat) (f : Nat → Nat → D) {ty k : Nat} {xs : List SV} (hn : h n = some (.cells ty k xs)) (hk : 0 < k) (hl : L * k ≤ xs.length) (hf : ∀ i c, i < L → c < k → xs[i * k + c]? = some (.d (f i c)))
   (kk : Wn C K ⟨t, upd h n (some (.rows ty k L f)), nx⟩) : Wn C K ⟨t, h, nx⟩ := by
 intro M F pin ρ a w hsr
 refine kk M F pin ρ a w ⟨⟨hsr.tm, hsr.sz, hsr.df, ?_, hsr.pn, hsr.pm, hsr.gl⟩, hsr.fr⟩
 refine hsr.hr.swap n hn (fun x obj hb => ?_) (fun h => by cases h)
 cases obj with
 | cells cur T fz =>
   obtain ⟨h1, h2, h3, h4, h5, h6⟩ := hb
   refine ⟨h1, h2, h3, h4, ?_, fun i c hi hc => ?_⟩
   · have : L * k ≤ x.R * k := by omega
     exact Nat.le_of_mul_le_mul_right this hk
   · obtain ⟨v, k1, k2⟩ := h6 _ _ (hf i c hi hc)
     exact ⟨v, k1, by cases k2 with | d _ _ h => exact h⟩
 | _ => exact hb.elim
theorem HR.reop {M F : Imm} {ρ : Names} {h : Heap} {w : World} (hH : HR M F ρ h w) {n : Nat} {S : List Nat} {es : List (Value × SV × List InB)} {op op' : List (Nat × SV)} {ly : Option (TypeId × Nat)} (hn : h n = some (.fam S ⟨es, op, ly⟩)) (hix : op'.map (·.1) = op.map (·.1))
   (hop : ∀ o v (p p' : Nat × SV), p ∈ op → p' ∈ op' → p.1 = p'.1 → entry ly o p.1 = some v → VR M ρ p.2 v → VR M ρ p'.2 v) : HR M F ρ (upd h n (some (.fam S ⟨es, op', ly⟩))) w := by
 obtain ⟨x, hx, h0, g1, g2, g3, hFR⟩ := hH.fam n S _ hn
 obtain ⟨hM, hF, ob, o1, oB⟩ := hH.famBR hn hx
 have ne : ∀ m, upd h n (some (.fam S ⟨es, op', ly⟩)) m ≠ none → h m ≠ none := by
   intro m hm e
   rw [upd_eq] at hm; split at hm
   · next e2 => subst e2; rw [hn] at e; cases e
   · exact hm e
 have mem : ∀ (j : Nat), (∃ p, p ∈ op' ∧ p.1 = j) ↔ ∃ p, p ∈ op ∧ p.1 = j := by
   intro j
   have e1 : (∃ p, p ∈ op' ∧ p.1 = j) ↔ j ∈ op'.map (·.1) := by simp [List.mem_map]
   have e2 : (∃ p, p ∈ op ∧ p.1 = j) ↔ j ∈ op.map (·.1) := by simp [List.mem_map]
   rw [e1, e2, hix]
 refine ⟨hH.imm, hH.frm, hH.dis, fun m b hm => ?_, fun p q y z hp hq => hH.sep p q y z (ne p hp) (ne q hq), fun m S2 es2 hm => ?_⟩
 · rw [upd_eq] at hm
   split at hm
   · next e =>
     subst e; cases hm
     refine ⟨x, hx, .inr ⟨h0, hM, hF, ob, o1, oB.famOp fun p' hp' => ?_⟩⟩
     obtain ⟨p, hp, e⟩ := (mem p'.1).1 ⟨p', hp', rfl⟩
     obtain ⟨v, v1, v2⟩ := oB.open hp
     exact ⟨v, by rw [← e]; exact v1, hop ob v p p' hp hp' e v1 v2⟩
   · exact hH.live m b hm
 · rw [upd_eq] at hm
   split at hm
   · next e =>
     subst e; cases hm
     refine ⟨x, hx, h0, g1, fun p z hp => g2 p z (ne p hp), fun p S3 es3 hp hq => ?_, hFR.shuts rfl fun j k s bl hj => ⟨k, hj.1, fun p hp e => ?_⟩⟩
     · rw [upd_other _ _ _ _ hp] at hq
       exact g3 p S3 es3 hp hq
     · obtain ⟨p', hp', e'⟩ := (mem p.1).2 ⟨p, hp, rfl⟩
       exact hj.2 p' hp' (e'.trans e)
   · next e =>
     obtain ⟨z, hz, k0, k1, k2, k3, k4⟩ := hH.fam m S2 es2 hm
     refine ⟨z, hz, k0, k1, fun p y hp => k2 p y (ne p hp), fun p S3 es3 hp hq => ?_, k4⟩
     rw [upd_eq] at hq
     split at hq
     · next e4 => subst e4; cases hq; exact k3 p S _ hp hn
     · exact k3 p S3 es3 hp hq
theorem famCFreezen {C : Ctx} {K : St → Prop} {t : Nat → SV} {h : Heap} {nx : Nat} (n j c m len : Nat) {S : List Nat} {es : List (Value × SV × List InB)} {ly : Option (TypeId × Nat)} {cells : List SV} {ty k L : Nat} {f : Nat → Nat → D} (hn : h n = some (.fam S ⟨es, [(j, .agg cells)], ly⟩)) (hc : cells[c]? = some (.sl m 0 len)) (hm : h m = some (.rows ty k L f)) (hl : len ≤ L) (hne : Nat.beq n m = false)
   (kk : Wn C K ⟨t, upd (upd h m none) n (some (.fam S ⟨es, [(j, .agg (cells.set c (.d (.vec k len f))))], ly⟩)), nx⟩) : Wn C K ⟨t, h, nx⟩ := by
 intro M F pin ρ a w hsr
 have hnm : n ≠ m := fun e => by subst e; simp at hne
 obtain ⟨M', hle, hH', hv'⟩ := freeze_all hsr.hr hm hl
 have hn' : upd h m none n = some (.fam S ⟨es, [(j, .agg cells)], ly⟩) := by rw [upd_other _ _ _ _ hnm]; exact hn
 have k5 := hH'.reop hn' (op' := [(j, .agg (cells.set c (.d (.vec k len f))))]) rfl (fun o v p p' hp hp' _ _ hr => by
   rw [List.mem_singleton.1 hp] at hr
   rw [List.mem_singleton.1 hp']
   obtain ⟨vs, rfl, hs, hg⟩ := agg_case hr
   refine .aggOf _ _ (by rw [List.length_set]; exact hs) fun i s hi => ?_
   rw [List.getElem?_set] at hi
   split at hi
   · next e =>
     subst e
     split at hi
     · cases hi
       obtain ⟨u, u1, u2⟩ := hg c _ hc
       refine ⟨u, u1, hv' u ?_⟩
       cases u2 with
       | sl _ _ _ x hx hlR hR h0 => exact .sl _ _ _ x hx hlR hR h0
       | sl0 _ _ x hx hR aa => exact .sl0 _ _ x hx hR aa
     · cases hi
   · exact hg i s hi)
 obtain ⟨M2, ρ2, σ2, q1, q2, q3⟩ := kk M' F pin ρ a w ⟨⟨fun j => (hsr.tm j).mono hle (Names.le_refl _), hsr.sz, hsr.df, k5, hsr.pn, hsr.pm, fun g ρ => (hsr.gl g ρ).mono hle (Names.le_refl _)⟩, hsr.fr⟩
 exact ⟨M2, ρ2, σ2, Imm.le_trans hle q1, q2, q3⟩
theorem neP_ok {C : Ctx} {o : Oper} {nm : Nat} {v : Operand → SV} {ty ty' : TypeId} {y : Operand} {b : Bool} (ho : o.op = .binOp .neq ty y (.const (.pointer none)) ty') (ht : C.P.underlying ty = some (.pointer (C.P.pointee ty))) (hy : isNilS (v y) = some b) : OpOK C o nm v [] (fun x z => x = SV.b (!b) ∧ z = []) := by
 refine ok_pure fun M F ρ a h w hv hH _ => ⟨.bool (!b), ?_, .d _ _ (.val _ rfl)⟩
 obtain ⟨p, hp, rfl⟩ := isNil_val hy (hv y (by rw [ho]; exact mem_ops2 (.inl rfl)))
 have hc : a.eval (.const (.pointer none)) = .pointer none := rfl
 have he := run_equal_pointer_nil (P := C.P) w ty p ht
 have hg : (eqGuard .neq ty y (.const (.pointer none)) (.pointer p) (.pointer none)).run C.P w = .ok () w := by rfl
 have hb : (binOp .neq ty (.pointer p) (.pointer none)).run C.P w = .ok (.bool (!p.isNone)) w := by
   simp only [binOp]; simp [he]
 unfold execOp
 simp only [ho, hp, hc, Sem.run_bind, hg, hb, Result.andThen_ok, Sem.run_pure]
section
variable {C : Ctx} {ops : List Oper} {i : Nat} {o : Oper} {l : List Oper} {t : Nat → SV} {h h' : Heap} {nx : Nat} {K : St → Prop} {acc : List FP}
theorem sNeP {ty ty' : TypeId} {y : Operand} (b : Bool) (d nm i' : Nat) (hi : i + 1 = i') (hnm : nx + 8 * i = nm) (hg : o.guard = none) (hdst : o.dst = some d) (hd : Nat.blt d C.sz = true) (ho : o.op = .binOp .neq ty y (.const (.pointer none)) ty') (ht : C.P.underlying ty = some (.pointer (C.P.pointee ty))) (hy : isNilS (opv C t y) = some b)
   (k : wops C ops i' l ⟨upd t d (SV.b (!b)), h, nx⟩ none K) : wops C ops i (o :: l) ⟨t, h, nx⟩ none K := by
 subst hi; subst hnm
 refine st_ok (σ := ⟨t, h, nx⟩) hg (by unfold dstOK; rw [hdst]; exact hd) (neP_ok ho ht hy) (fun p hp => by cases hp) rfl ?_
 unfold St.app; rw [hdst]; exact k
end
end Go.Proofs.YtalhangpahffeaaDoor.Nice
namespace Go.Proofs.YtalhangpahffeaaDoor
open Go
theorem ofInt_i64 (a : Nat) (ha : a < 9223372036854775808) : (BitVec.ofInt 64 (a : Int)).toNat = a := by
 rw [BitVec.ofInt_natCast, BitVec.toNat_ofNat]; exact Nat.mod_eq_of_lt (by omega)
theorem i64_or_nat (a b : Nat) (ha : a < 9223372036854775808) (hb : b < 9223372036854775808) : bits .or .i64 (a : Int) (b : Int) = ((a ||| b : Nat) : Int) := by
 have hx : a ||| b < 2 ^ 63 := Nat.or_lt_two_pow (by omega) (by omega)
 show IntKind.i64.wrap ((BitVec.ofInt 64 (a : Int) ||| BitVec.ofInt 64 (b : Int)).toNat : Int) = _
 rw [BitVec.toNat_or, ofInt_i64 a ha, ofInt_i64 b hb, IntKind.wrap_i64]
 omega
theorem ofInt_i64_toNat (a : Int) (h1 : -9223372036854775808 ≤ a) (h2 : a < 9223372036854775808) :
   (BitVec.ofInt 64 a).toNat = (if a < 0 then a + 18446744073709551616 else a).toNat := by
 rw [BitVec.toNat_ofInt]
 split <;> omega
theorem i64_wrap_toNat (r : BitVec 64) : IntKind.i64.wrap (r.toNat : Int) = r.toInt := by
 rw [IntKind.wrap_i64, BitVec.toInt_eq_toNat_cond]
 have := r.isLt
 split <;> omega
theorem ofInt_toInt (a : Int) (h1 : -9223372036854775808 ≤ a) (h2 : a < 9223372036854775808) : (BitVec.ofInt 64 a).toInt = a := by
 rw [BitVec.toInt_ofInt]; simp only [Int.bmod]; omega
theorem i64_xor_zero (a : Int) (h1 : -9223372036854775808 ≤ a) (h2 : a < 9223372036854775808) : bits .xor .i64 a 0 = a := by
 show IntKind.i64.wrap ((BitVec.ofInt 64 a ^^^ BitVec.ofInt 64 0).toNat : Int) = _
 rw [i64_wrap_toNat, show BitVec.ofInt 64 0 = 0#64 from rfl, BitVec.xor_zero, ofInt_toInt a h1 h2]
theorem i64_xor_ones (a : Int) (h1 : -9223372036854775808 ≤ a) (h2 : a < 9223372036854775808) : bits .xor .i64 a (-1) = -a - 1 := by
 show IntKind.i64.wrap ((BitVec.ofInt 64 a ^^^ BitVec.ofInt 64 (-1)).toNat : Int) = _
 rw [i64_wrap_toNat, show BitVec.ofInt 64 (-1) = BitVec.allOnes 64 from rfl, BitVec.xor_allOnes]
 rw [BitVec.toInt_not, ofInt_i64_toNat a h1 h2]
 simp only [Int.bmod]
 split <;> omega
theorem i64_and_one (a : Int) (h1 : -9223372036854775808 ≤ a) (h2 : a < 9223372036854775808) : bits .and .i64 a 1 = a % 2 := by
 show IntKind.i64.wrap ((BitVec.ofInt 64 a &&& BitVec.ofInt 64 1).toNat : Int) = _
 rw [BitVec.toNat_and, show (BitVec.ofInt 64 1).toNat = 1 from rfl, Nat.and_one_is_mod, IntKind.wrap_i64, ofInt_i64_toNat a h1 h2]
 split <;> omega
end Go.Proofs.YtalhangpahffeaaDoor
namespace Go.Proofs.YtalhangpahffeaaDoor
open Go Go.RowKit
def bitsOf : Nat → Int → List Int
 | 0, _ => []
 | w + 1, v => v / 2 ^ w % 2 :: bitsOf w v
theorem bitsOf_length (w : Nat) (v : Int) : (bitsOf w v).length = w := by induction w with
  | zero => rfl
  | succ w ih => simp [bitsOf, ih]
def AllBits (L : List Int) : Prop := ∀ x ∈ L, x = 0 ∨ x = 1
theorem allBits_nil : AllBits [] := by simp [AllBits]
theorem AllBits.append {L M : List Int} (h : AllBits L) (k : AllBits M) : AllBits (L ++ M) := by
 intro x hx
 rcases List.mem_append.1 hx with hx | hx
 · exact h x hx
 · exact k x hx
theorem AllBits.take {L : List Int} (h : AllBits L) (k : Nat) : AllBits (L.take k) := fun x hx => h x (List.mem_of_mem_take hx)
theorem bitsOf_bits (w : Nat) (v : Int) : AllBits (bitsOf w v) := by
 induction w with
 | zero => exact allBits_nil
 | succ w ih =>
   intro x hx
   rcases List.mem_cons.1 hx with rfl | hx
   · generalize v / 2 ^ w = u; omega
   · exact ih x hx
theorem AllBits.getD {L : List Int} (h : AllBits L) (i : Nat) : L.getD i 0 = 0 ∨ L.getD i 0 = 1 := by
 rcases Nat.lt_or_ge i L.length with hi | hi
 · simpa [List.getD, List.getElem?_eq_getElem hi] using h _ (List.getElem_mem hi)
 · simp [List.getD, List.getElem?_eq_none hi]
theorem bitsOf_get (w j : Nat) (v : Int) (h : j < w) : (bitsOf w v)[j]? = some (v / 2 ^ (w - 1 - j) % 2) := by
 induction w generalizing j with
 | zero => omega
 | succ w ih =>
   cases j with
   | zero => simp [bitsOf]
   | succ j =>
     simp only [bitsOf, List.getElem?_cons_succ]
     rw [ih j (by omega), show w - 1 - j = w + 1 - 1 - (j + 1) by omega]
theorem bitsOf_take (w j : Nat) (v : Int) (h : j < w) : (bitsOf w v).take (j + 1) = (bitsOf w v).take j ++ [v / 2 ^ (w - 1 - j) % 2] := by
 rw [List.take_add_one, bitsOf_get w j v h]; rfl
def packByte (L : List Int) (j : Nat) : Int :=
 L.getD (8 * j) 0 * 128 + L.getD (8 * j + 1) 0 * 64 + L.getD (8 * j + 2) 0 * 32 + L.getD (8 * j + 3) 0 * 16 + L.getD (8 * j + 4) 0 * 8 + L.getD (8 * j + 5) 0 * 4 + L.getD (8 * j + 6) 0 * 2 + L.getD (8 * j + 7) 0
def pack (L : List Int) : List Int := (List.range ((L.length + 7) / 8)).map (packByte L)
theorem pack_length (L : List Int) : (pack L).length = (L.length + 7) / 8 := by simp [pack]
theorem packByte_bd (L : List Int) (h : AllBits L) (j : Nat) : 0 ≤ packByte L j ∧ packByte L j ≤ 255 := by
 have h0 := h.getD (8 * j); have h1 := h.getD (8 * j + 1); have h2 := h.getD (8 * j + 2); have h3 := h.getD (8 * j + 3)
 have h4 := h.getD (8 * j + 4); have h5 := h.getD (8 * j + 5); have h6 := h.getD (8 * j + 6); have h7 := h.getD (8 * j + 7)
 unfold packByte; omega
theorem pack_bd (L : List Int) (h : AllBits L) : ∀ x ∈ pack L, 0 ≤ x ∧ x ≤ 255 := by
 intro x hx
 obtain ⟨j, _, rfl⟩ := List.mem_map.1 hx
 exact packByte_bd L h j
theorem getD_snoc (L : List Int) (b : Int) (i : Nat) : (L ++ [b]).getD i 0 = if i < L.length then L.getD i 0 else if i = L.length then b else 0 := by
 rcases Nat.lt_or_ge i L.length with hi | hi
 · rw [if_pos hi]; simp [List.getD, List.getElem?_append_left hi]
 · rw [if_neg (by omega)]
   by_cases he : i = L.length
   · subst he; simp [List.getD]
   · rw [if_neg he]; simp [List.getD, List.getElem?_eq_none (show (L ++ [b]).length ≤ i by simp; omega)]
theorem getD_over (L : List Int) (i : Nat) (h : L.length ≤ i) : L.getD i 0 = 0 := by simp [List.getD, List.getElem?_eq_none h]
theorem packByte_other (L : List Int) (b : Int) (j : Nat) (h : j ≠ L.length / 8) : packByte (L ++ [b]) j = packByte L j := by
 unfold packByte
 simp only [getD_snoc]
 rcases Nat.lt_or_ge j (L.length / 8) with hj | hj
 · simp only [if_pos (show 8 * j < L.length by omega), if_pos (show 8 * j + 1 < L.length by omega), if_pos (show 8 * j + 2 < L.length by omega), if_pos (show 8 * j + 3 < L.length by omega), if_pos (show 8 * j + 4 < L.length by omega), if_pos (show 8 * j + 5 < L.length by omega), if_pos (show 8 * j + 6 < L.length by omega), if_pos (show 8 * j + 7 < L.length by omega)]
 · simp only [if_neg (show ¬ 8 * j < L.length by omega), if_neg (show ¬ 8 * j + 1 < L.length by omega), if_neg (show ¬ 8 * j + 2 < L.length by omega), if_neg (show ¬ 8 * j + 3 < L.length by omega), if_neg (show ¬ 8 * j + 4 < L.length by omega), if_neg (show ¬ 8 * j + 5 < L.length by omega), if_neg (show ¬ 8 * j + 6 < L.length by omega), if_neg (show ¬ 8 * j + 7 < L.length by omega),
     if_neg (show ¬ 8 * j = L.length by omega), if_neg (show ¬ 8 * j + 1 = L.length by omega), if_neg (show ¬ 8 * j + 2 = L.length by omega), if_neg (show ¬ 8 * j + 3 = L.length by omega), if_neg (show ¬ 8 * j + 4 = L.length by omega), if_neg (show ¬ 8 * j + 5 = L.length by omega), if_neg (show ¬ 8 * j + 6 = L.length by omega), if_neg (show ¬ 8 * j + 7 = L.length by omega)]
   simp only [getD_over L (8 * j) (by omega), getD_over L (8 * j + 1) (by omega), getD_over L (8 * j + 2) (by omega), getD_over L (8 * j + 3) (by omega), getD_over L (8 * j + 4) (by omega), getD_over L (8 * j + 5) (by omega), getD_over L (8 * j + 6) (by omega), getD_over L (8 * j + 7) (by omega)]
theorem getD_snoc8 (L : List Int) (b : Int) (q r i : Nat) (h : L.length = 8 * q + r) : (L ++ [b]).getD (8 * q + i) 0 = if i < r then L.getD (8 * q + i) 0 else if i = r then b else 0 := by
 rw [getD_snoc, h]
 by_cases h1 : i < r
 · rw [if_pos h1, if_pos (by omega)]
 · rw [if_neg h1, if_neg (by omega)]
   by_cases h2 : i = r
   · rw [if_pos h2, if_pos (by omega)]
   · rw [if_neg h2, if_neg (by omega)]
theorem getD_over8 (L : List Int) (q r i : Nat) (h : L.length = 8 * q + r) (hi : r ≤ i) : L.getD (8 * q + i) 0 = 0 := getD_over L _ (by omega)
theorem packByte_def0 (L : List Int) (j : Nat) : packByte L j =
 L.getD (8 * j + 0) 0 * 128 + L.getD (8 * j + 1) 0 * 64 + L.getD (8 * j + 2) 0 * 32 + L.getD (8 * j + 3) 0 * 16 + L.getD (8 * j + 4) 0 * 8 + L.getD (8 * j + 5) 0 * 4 + L.getD (8 * j + 6) 0 * 2 + L.getD (8 * j + 7) 0 := rfl
theorem packByte_last (L : List Int) (hL : AllBits L) (b : Int) (q r : Nat) (h : L.length = 8 * q + r) (hr : r < 8) :
   packByte (L ++ [b]) q = packByte L q + b * 2 ^ (7 - r) ∧ packByte L q % 2 ^ (8 - r) = 0 ∧ 0 ≤ packByte L q ∧ packByte L q ≤ 256 - 2 ^ (8 - r) := by
 have h0 := hL.getD (8 * q + 0); have h1 := hL.getD (8 * q + 1); have h2 := hL.getD (8 * q + 2); have h3 := hL.getD (8 * q + 3)
 have h4 := hL.getD (8 * q + 4); have h5 := hL.getD (8 * q + 5); have h6 := hL.getD (8 * q + 6); have h7 := hL.getD (8 * q + 7)
 have z0 := getD_over8 L q r 0 h; have z1 := getD_over8 L q r 1 h; have z2 := getD_over8 L q r 2 h; have z3 := getD_over8 L q r 3 h
 have z4 := getD_over8 L q r 4 h; have z5 := getD_over8 L q r 5 h; have z6 := getD_over8 L q r 6 h; have z7 := getD_over8 L q r 7 h
 rw [packByte_def0, packByte_def0]
 simp only [getD_snoc8 L b q r _ h]
 generalize L.getD (8 * q + 0) 0 = a0 at *
 generalize L.getD (8 * q + 1) 0 = a1 at *
 generalize L.getD (8 * q + 2) 0 = a2 at *
 generalize L.getD (8 * q + 3) 0 = a3 at *
 generalize L.getD (8 * q + 4) 0 = a4 at *
 generalize L.getD (8 * q + 5) 0 = a5 at *
 generalize L.getD (8 * q + 6) 0 = a6 at *
 generalize L.getD (8 * q + 7) 0 = a7 at *
 have e : r = 0 ∨ r = 1 ∨ r = 2 ∨ r = 3 ∨ r = 4 ∨ r = 5 ∨ r = 6 ∨ r = 7 := by omega
 rcases e with rfl | rfl | rfl | rfl | rfl | rfl | rfl | rfl <;> simp at * <;> omega
theorem pack_get (L : List Int) (j : Nat) : (pack L)[j]? = if j < (L.length + 7) / 8 then some (packByte L j) else none := by
 unfold pack
 rw [List.getElem?_map]
 by_cases h : j < (L.length + 7) / 8
 · rw [if_pos h, List.getElem?_range h]; rfl
 · rw [if_neg h, List.getElem?_eq_none (by simpa using h)]; rfl
def packRoom (L : List Int) : List Int := if L.length % 8 = 0 then pack L ++ [0] else pack L
theorem packRoom_length (L : List Int) : (packRoom L).length = L.length / 8 + 1 := by
 unfold packRoom; split <;> simp [pack_length] <;> omega
theorem packRoom_get (L : List Int) (j : Nat) (h : j < L.length / 8 + 1) : (packRoom L)[j]? = some (packByte L j) := by
 unfold packRoom
 split
 · next h8 =>
   rcases Nat.lt_or_ge j (L.length / 8) with hj | hj
   · rw [List.getElem?_append_left (by rw [pack_length]; omega), pack_get, if_pos (by omega)]
   · have : j = L.length / 8 := by omega
     subst this
     rw [List.getElem?_append_right (by rw [pack_length]; omega), pack_length, show L.length / 8 - (L.length + 7) / 8 = 0 by omega]
     have : packByte L (L.length / 8) = 0 := by
       unfold packByte
       simp only [getD_over L (8 * (L.length / 8)) (by omega), getD_over L (8 * (L.length / 8) + 1) (by omega), getD_over L (8 * (L.length / 8) + 2) (by omega), getD_over L (8 * (L.length / 8) + 3) (by omega), getD_over L (8 * (L.length / 8) + 4) (by omega), getD_over L (8 * (L.length / 8) + 5) (by omega), getD_over L (8 * (L.length / 8) + 6) (by omega), getD_over L (8 * (L.length / 8) + 7) (by omega)]
       rfl
     rw [this]; rfl
 · next h8 => rw [pack_get, if_pos (by omega)]
theorem pack_snoc (L : List Int) (hL : AllBits L) (b : Int) : pack (L ++ [b]) = (packRoom L).set (L.length / 8) (packByte L (L.length / 8) + b * 2 ^ (7 - L.length % 8)) := by
 apply List.ext_getElem?
 intro j
 rw [pack_get, List.length_append, List.length_cons, List.length_nil, List.getElem?_set, packRoom_length]
 by_cases hj : j < L.length / 8 + 1
 · rw [if_pos (by omega)]
   by_cases he : L.length / 8 = j
   · subst he
     rw [if_pos rfl, if_pos hj, (packByte_last L hL b (L.length / 8) (L.length % 8) (by omega) (by omega)).1]
   · rw [if_neg he, packRoom_get L j hj, packByte_other L b j (by omega)]
 · rw [if_neg (by omega), if_neg (by omega), List.getElem?_eq_none (by rw [packRoom_length]; omega)]
theorem pack_or (L : List Int) (hL : AllBits L) (b : Int) (hb : b = 0 ∨ b = 1) :
   bits .or .u8 (packByte L (L.length / 8)) (b * 2 ^ (7 - L.length % 8)) = packByte L (L.length / 8) + b * 2 ^ (7 - L.length % 8) ∧ 0 ≤ b * 2 ^ (7 - L.length % 8) ∧ b * 2 ^ (7 - L.length % 8) < 256 := by
 obtain ⟨_, h2, h3, h4⟩ := packByte_last L hL b (L.length / 8) (L.length % 8) (by omega) (by omega)
 generalize packByte L (L.length / 8) = x at *
 have hr : L.length % 8 < 8 := by omega
 generalize L.length % 8 = r at *
 have e : r = 0 ∨ r = 1 ∨ r = 2 ∨ r = 3 ∨ r = 4 ∨ r = 5 ∨ r = 6 ∨ r = 7 := by omega
 have key : ∀ (m : Nat) (y : Int), 0 ≤ x → x ≤ 255 → x % 2 ^ m = 0 → 0 ≤ y → y < 2 ^ m → m ≤ 8 → bits .or .u8 x y = x + y := by
   intro m y hx0 hx1 hxm hy0 hy1 hm
   have hp : (2 : Int) ^ m ≤ 256 := by
     have : m = 0 ∨ m = 1 ∨ m = 2 ∨ m = 3 ∨ m = 4 ∨ m = 5 ∨ m = 6 ∨ m = 7 ∨ m = 8 := by omega
     rcases this with rfl | rfl | rfl | rfl | rfl | rfl | rfl | rfl | rfl <;> decide
   obtain ⟨X, rfl⟩ := Int.eq_ofNat_of_zero_le hx0
   obtain ⟨Y, rfl⟩ := Int.eq_ofNat_of_zero_le hy0
   rw [u8_or_nat _ _ (by omega) (by omega), nat_join m X Y (by exact_mod_cast hxm) (by exact_mod_cast hy1)]
   omega
 rcases e with rfl | rfl | rfl | rfl | rfl | rfl | rfl | rfl
 · refine ⟨key 8 _ h3 ?_ h2 ?_ ?_ ?_, ?_, ?_⟩ <;> simp at * <;> omega
 · refine ⟨key 7 _ h3 ?_ h2 ?_ ?_ ?_, ?_, ?_⟩ <;> simp at * <;> omega
 · refine ⟨key 6 _ h3 ?_ h2 ?_ ?_ ?_, ?_, ?_⟩ <;> simp at * <;> omega
 · refine ⟨key 5 _ h3 ?_ h2 ?_ ?_ ?_, ?_, ?_⟩ <;> simp at * <;> omega
 · refine ⟨key 4 _ h3 ?_ h2 ?_ ?_ ?_, ?_, ?_⟩ <;> simp at * <;> omega
 · refine ⟨key 3 _ h3 ?_ h2 ?_ ?_ ?_, ?_, ?_⟩ <;> simp at * <;> omega
 · refine ⟨key 2 _ h3 ?_ h2 ?_ ?_ ?_, ?_, ?_⟩ <;> simp at * <;> omega
 · refine ⟨key 1 _ h3 ?_ h2 ?_ ?_ ?_, ?_, ?_⟩ <;> simp at * <;> omega
theorem div_pow_bd (v : Int) (k : Nat) (h1 : -9223372036854775808 ≤ v) (h2 : v < 9223372036854775808) : -9223372036854775808 ≤ v / 2 ^ k ∧ v / 2 ^ k < 9223372036854775808 := by
 have hp : (0 : Int) < 2 ^ k := Int.pow_pos (by decide)
 generalize (2 : Int) ^ k = p at *
 constructor
 · apply Int.le_ediv_of_mul_le hp
   omega
 · apply Int.ediv_lt_of_lt_mul hp
   omega
end Go.Proofs.YtalhangpahffeaaDoor
namespace Go.Proofs.YtalhangpahffeaaDoor
open Go Go.RowKit
def zUnf (n : Int) : Int := if n % 2 = 1 then -((n + 1) / 2) else n / 2
def zFold (n : Int) : Int := if n < 0 then -2 * n - 1 else 2 * n
theorem zUnf_xor (n : Int) (h0 : 0 ≤ n) (h1 : n < 576460752303423488) : bits .xor .i64 (n / 2) (-(n % 2)) = zUnf n := by
 unfold zUnf
 split
 · next h => rw [h, i64_xor_ones _ (by omega) (by omega)]; omega
 · next h => rw [show n % 2 = 0 by omega, Int.neg_zero, i64_xor_zero _ (by omega) (by omega)]
theorem zFold_xor (n : Int) (h0 : -288230376151711744 ≤ n) (h1 : n < 288230376151711744) : bits .xor .i64 (n * 2) (n / 9223372036854775808) = zFold n := by
 unfold zFold
 split
 · next h => rw [show n / 9223372036854775808 = -1 by omega, i64_xor_ones _ (by omega) (by omega)]; omega
 · next h => rw [show n / 9223372036854775808 = 0 by omega, i64_xor_zero _ (by omega) (by omega)]; omega
theorem zFold_neg (n : Int) (h : n < 0) : -2 * n - 1 = zFold n := by unfold zFold; rw [if_pos h]
theorem zFold_pos (n : Int) (h : ¬ n < 0) : 2 * n = zFold n := by unfold zFold; rw [if_neg h]
theorem zFold_bd (n : Int) (h0 : -288230376151711744 ≤ n) (h1 : n < 288230376151711744) : 0 ≤ zFold n ∧ zFold n < 576460752303423488 := by
 unfold zFold; split <;> omega
theorem zUnf_bd (n : Int) (h0 : 0 ≤ n) (h1 : n < 576460752303423488) : -288230376151711744 ≤ zUnf n ∧ zUnf n < 288230376151711744 := by
 unfold zUnf; split <;> omega
end Go.Proofs.YtalhangpahffeaaDoor
