/- The step: an operation's outcome by one function; calls; memory laid still; the law's walk. -/
import Derived.Test.YtpdojmebloekgaaDoorNiceI
import Derived.Laws.Cover3
import Derived.Laws.IdiomStrings
namespace Go.Proofs.YtpdojmebloekgaaDoor.Nice
open Go
set_option linter.unusedVariables false

/-- What an operation comes to (maps, comparisons of structs and calls have steps of their own). -/
def minS (y z : SV) : Option Out :=
  match y, z with
  | .d (.val (.int k a)), .d (.val (.int _ b)) => some (True, [], .d (.val (.int k (if b < a then b else a))), [])
  | _, _ => none
def maxS (y z : SV) : Option Out :=
  match y, z with
  | .d (.val (.int k a)), .d (.val (.int _ b)) => some (True, [], .d (.val (.int k (if a < b then b else a))), [])
  | _, _ => none
theorem min_ok {C : Ctx} {o : Oper} {nm : Nat} {v : Operand → SV} {h : Heap} {x : Out} {ts : Array TypeId} {y z : Operand} (ho : o.op = .call { callee := .builtin .min, args := #[y, z], argTypes := ts }) (e : minS (v y) (v z) = some x) : Sound C o nm v h x := by
  have my : y ∈ o.op.operands := by rw [ho]; simp [Op.operands, Call.operands]
  have mz : z ∈ o.op.operands := by rw [ho]; simp [Op.operands, Call.operands]
  unfold minS at e
  split at e
  · next k a k' b hy hz =>
    cases e
    intro _
    refine ⟨ok_pure fun M F ρ a' h w hv hH _ => ⟨_, ?_, .d _ _ (.val _ rfl)⟩, fun p hp => by simp at hp, rfl⟩
    have e1 := hv y my; rw [hy] at e1
    have e2 := hv z mz; rw [hz] at e2
    unfold execOp
    simp only [ho, resolve, invoke, builtin, Sem.run_bind, Sem.run_pure, Result.andThen_ok, List.map_toArray, List.map_cons, List.map_nil, e1.val, e2.val, Builtin.min_, List.foldlM_cons, List.foldlM_nil, Builtin.min2]
  · cases e
theorem max_ok {C : Ctx} {o : Oper} {nm : Nat} {v : Operand → SV} {h : Heap} {x : Out} {ts : Array TypeId} {y z : Operand} (ho : o.op = .call { callee := .builtin .max, args := #[y, z], argTypes := ts }) (e : maxS (v y) (v z) = some x) : Sound C o nm v h x := by
  have my : y ∈ o.op.operands := by rw [ho]; simp [Op.operands, Call.operands]
  have mz : z ∈ o.op.operands := by rw [ho]; simp [Op.operands, Call.operands]
  unfold maxS at e
  split at e
  · next k a k' b hy hz =>
    cases e
    intro _
    refine ⟨ok_pure fun M F ρ a' h w hv hH _ => ⟨_, ?_, .d _ _ (.val _ rfl)⟩, fun p hp => by simp at hp, rfl⟩
    have e1 := hv y my; rw [hy] at e1
    have e2 := hv z mz; rw [hz] at e2
    unfold execOp
    simp only [ho, resolve, invoke, builtin, Sem.run_bind, Sem.run_pure, Result.andThen_ok, List.map_toArray, List.map_cons, List.map_nil, e1.val, e2.val, Builtin.max_, List.foldlM_cons, List.foldlM_nil, Builtin.max2]
  · cases e

/-- A slice with elements is not nil. -/
def nilEqS (P : Program) (r : Bool) (t : TypeId) (x : SV) : Option Out :=
  match P.underlying t with
  | some (.slice _) =>
    match x with
    | .d (.vec _ len _) => some (0 < len, [], .d (.val (.bool r)), [])
    | .sl _ _ len => some (0 < len, [], .d (.val (.bool r)), [])
    | _ => none
  | _ => none
theorem slice_some {M : Imm} {ρ : Names} {x : SV} {u : Value} (h : VR M ρ x u) {len : Nat} (h0 : 0 < len) (hx : (∃ k f, x = .d (.vec k len f)) ∨ ∃ n o, x = .sl n o len) : ∃ a l c, u = .slice (some a) l c := by
  rcases hx with ⟨k, f, rfl⟩ | ⟨n, o, rfl⟩
  · cases h with
    | d _ _ h => cases h with
      | vec0 => omega
      | vec => exact ⟨_, _, _, rfl⟩
  · cases h with
    | sl => exact ⟨_, _, _, rfl⟩
    | sl0 => omega
theorem nilEq_ok {C : Ctx} {o : Oper} {nm : Nat} {v : Operand → SV} {h : Heap} {x : Out} {op : BinOp} {t t' : TypeId} {y : Operand} {r : Bool} (ho : o.op = .binOp op t y (.const (.slice none 0 0)) t') (hop : op = .eql ∧ r = false ∨ op = .neq ∧ r = true) (e : nilEqS C.P r t (v y) = some x) : Sound C o nm v h x := by
  have my : y ∈ o.op.operands := by rw [ho]; exact mem_ops2 (.inl rfl)
  have key : ∀ (el : TypeId) (len : Nat), C.P.underlying t = some (.slice el) → ((∃ k f, v y = .d (.vec k len f)) ∨ ∃ n o, v y = .sl n o len) → Sound C o nm v h (0 < len, [], .d (.val (.bool r)), []) := by
    intro el len hu hx h0
    refine ⟨ok_pure fun M F ρ a' h w hv hH _ => ⟨_, ?_, .d _ _ (.val _ rfl)⟩, fun p hp => by simp at hp, rfl⟩
    obtain ⟨a, l, cc, hs⟩ := slice_some (hv y my) h0 hx
    have hc : a'.eval (.const (.slice none 0 0)) = .slice none 0 0 := rfl
    have hg : (eqGuard op t y (.const (.slice none 0 0)) (.slice (some a) l cc) (.slice none 0 0)).run C.P w = .ok () w := by
      rcases hop with ⟨rfl, rfl⟩ | ⟨rfl, rfl⟩ <;> rfl
    have he := run_equal_slice_nil (P := C.P) w t el (some a) l cc hu
    have hb : (binOp op t (.slice (some a) l cc) (.slice none 0 0)).run C.P w = .ok (.bool r) w := by
      rcases hop with ⟨rfl, rfl⟩ | ⟨rfl, rfl⟩
      · simp only [binOp]
        simp [he]
      · simp only [binOp]
        simp [he]
    unfold execOp
    simp only [ho, hs, hc, Sem.run_bind, hg, hb, Result.andThen_ok, Sem.run_pure]
  unfold nilEqS at e
  split at e
  · next el hu =>
    split at e
    · next k len f hy => cases e; exact key el len hu (.inl ⟨k, f, hy⟩)
    · next n o len hy => cases e; exact key el len hu (.inr ⟨n, o, hy⟩)
    · cases e
  · cases e

/-- A slice literal without elements. -/
def emptyLitS (P : Program) (t : TypeId) : Option Out :=
  match P.underlying t with
  | some (.slice e) => match P.info? e with
    | some _ => some (True, [], .d .nils, [])
    | none => none
  | _ => none
theorem emptyLit_ok {C : Ctx} {o : Oper} {nm : Nat} {v : Operand → SV} {h : Heap} {x : Out} {t : TypeId} (ho : o.op = .buildSlice t 0 #[]) (e : emptyLitS C.P t = some x) : Sound C o nm v h x := by
  unfold emptyLitS at e
  split at e
  · next el hel =>
    split at e
    · next i hi =>
      cases e
      intro _
      refine ⟨ok_value fun M F ρ a h w hv hH _ hfr => ?_, fun p hp => by simp at hp, rfl⟩
      refine ⟨ρ, .slice (some ⟨w.heap.size, 0, none⟩) 0 0, w.alloc (.cells #[] el), Names.le_refl _, fun _ _ => rfl, ?_, .d _ _ (.nils _), hH.beside _, Same.alloc _ _⟩
      have hp : (Array.map (fun x : Nat × Operand => (x.fst, a.eval x.snd)) #[]).toList = [] := by simp
      have hr : ∀ f : Nat → Value, (Array.range 0).map f = #[] := by intro f; simp
      simp only [execOp, ho, Instr.buildSlice, Sem.run_bind, run_underlying hel, Result.andThen_ok, sizeOf, typeInfo, run_program, hi, Sem.run_pure, Nat.zero_mul, if_neg (show ¬ (0 > 2 ^ 24) by decide), if_true, hp, hr, Instr.fill]
      rfl
    · cases e
  · cases e

/-- An element of an array of numbers. -/
def ints64 : List SV → Option (List Int)
  | [] => some []
  | .d (.val (.int .i64 n)) :: r => match ints64 r with
    | some l => some (n :: l)
    | none => none
  | _ => none
theorem ints64_get : ∀ {xs : List SV} {l : List Int}, ints64 xs = some l → xs.length = l.length ∧ ∀ i, i < l.length → xs[i]? = some (.d (.val (.int .i64 (l.getD i 0))))
  | [], l, h => by cases h; exact ⟨rfl, fun i hi => by simp at hi⟩
  | .d (.val (.int .i64 n)) :: r, l, h => by
    simp only [ints64] at h
    split at h
    · next l' hl =>
      cases h
      obtain ⟨h1, h2⟩ := ints64_get hl
      refine ⟨by simp [h1], fun i hi => ?_⟩
      cases i with
      | zero => rfl
      | succ i => simpa using h2 i (by simpa using hi)
    · cases h
def arrIdxS (P : Program) (t : TypeId) (x ix : SV) : Option Out :=
  match P.underlying t with
  | some (.array len e) =>
    match P.info? e, isAggB P e with
    | some i, some false =>
      match x, ix with
      | .agg xs, .d (.val (.int _ n)) =>
        match ints64 xs with
        | some l => if Nat.beq i.size 1 && Nat.beq len l.length then some (0 ≤ n ∧ n < l.length, [], .d (.val (.int .i64 (l.getD n.toNat 0))), []) else none
        | none => none
      | _, _ => none
    | _, _ => none
  | _ => none
theorem arrIdx_ok {C : Ctx} {o : Oper} {nm : Nat} {v : Operand → SV} {h : Heap} {x : Out} {t : TypeId} {y ix : Operand} (ho : o.op = .index t y ix) (e : arrIdxS C.P t (v y) (v ix) = some x) : Sound C o nm v h x := by
  unfold arrIdxS at e
  split at e
  · next len el hel =>
    split at e
    · next i hi hag =>
      split at e
      · next xs kk n hy hix =>
        split at e
        · next l hl =>
          split at e
          · next hc =>
            cases e
            rintro ⟨h0, h1⟩
            simp only [Bool.and_eq_true] at hc
            have c1 := Nat.eq_of_beq_eq_true hc.1
            have c2 := Nat.eq_of_beq_eq_true hc.2
            refine ⟨ok_pure fun M F ρ a h w hv hH _ => ⟨_, ?_, .d _ _ (.val _ rfl)⟩, fun p hp => by simp at hp, rfl⟩
            have e1 := hv y (by rw [ho]; exact mem_ops2 (.inl rfl)); rw [hy] at e1
            have e2 := hv ix (by rw [ho]; exact mem_ops2 (.inr rfl)); rw [hix] at e2
            obtain ⟨vs, hq, hRL⟩ := agg_case e1
            obtain ⟨g1, g2⟩ := ints64_get hl
            obtain ⟨u, u1, u2⟩ := hRL.2 _ _ (g2 n.toNat (by omega))
            rw [u2.val] at u1
            have hlt : 0 ≤ n ∧ n < (len : Int) := ⟨h0, by rw [c2]; exact h1⟩
            simp [execOp, ho, hq, e2.val, Instr.index, asIntOf, run_underlying hel, hlt, part, run_isAgg hag, sizeOf, typeInfo, hi, c1, u1]
          · cases e
        · cases e
      · cases e
    · cases e
  · cases e

/-- An array value put together. -/
def arrBuildS (P : Program) (t : TypeId) (parts : List (Nat × SV)) : Option Out :=
  match P.underlying t with
  | some (.array len e) =>
    match zerosOf P t, P.info? e with
    | some z, some i =>
      if parts.all fun p => Nat.blt p.1 len then
        match fillS (unitPlaces i.size 0 len) (toSVs z) parts with
        | some xs => some (True, [], .agg xs, [])
        | none => none
      else none
    | _, _ => none
  | _ => none
theorem arrBuild_ok {C : Ctx} {o : Oper} {nm : Nat} {v : Operand → SV} {h : Heap} {x : Out} {t : TypeId} {parts : Array (Nat × Operand)} (ho : o.op = .build t parts) (e : arrBuildS C.P t (svParts v parts.toList) = some x) : Sound C o nm v h x := by
  unfold arrBuildS at e
  split at e
  · next len el hel =>
    split at e
    · next z i0 hz hi0 =>
      split at e
      · next c4 =>
        split at e
        · next xs hxs =>
          cases e
          intro _
          refine ⟨ok_pure fun M F ρ a h w hv hH _ => ?_, fun p hp => by simp at hp, rfl⟩
          obtain ⟨i, zv, hi, hzv, hzl, hlen, hone⟩ := zerosOf_ok hz
          obtain ⟨p1, p2⟩ := parts_rel (M := M) (ρ := ρ) (a := a) (v := v) (parts := parts) (fun i x hx => hv x (by rw [ho]; exact mem_build hx t))
          obtain ⟨us, g1, g2⟩ := fill_ok (M := M) (ρ := ρ) (unitPlaces i0.size 0 len) (fun i => (unitPlaces i0.size 0 len)[i]?) (fun i => rfl) (svParts v parts.toList) _ (toSVs z) xs zv.cells p1 p2 (toSVs_RL hzl hone) hxs
          refine ⟨.agg us, ?_, g2.agg⟩
          have hplace : Instr.fill (fun i => some (i * i0.size, i0.size)) zv.cells (parts.map fun (i, x) => (i, a.eval x)).toList = some us := by
            rw [← g1]
            refine fill_bound (places := []) (n := len) (fun i hi => ?_) _ _ ?_
            · rw [unitPlaces_get, if_pos hi, Nat.zero_add]
            · intro p hp
              obtain ⟨j, hj⟩ := List.mem_iff_getElem?.1 hp
              rw [Array.getElem?_toList] at hj
              simp only [Array.getElem?_map, Option.map_eq_some_iff] at hj
              obtain ⟨⟨i, y⟩, hy, rfl⟩ := hj
              have hmem : (i, v y) ∈ svParts v parts.toList := by
                have : ∀ (l : List (Nat × Operand)), (i, y) ∈ l → (i, v y) ∈ svParts v l := by
                  intro l
                  induction l with
                  | nil => intro h; cases h
                  | cons q l ih =>
                    intro h
                    rcases List.mem_cons.1 h with rfl | h
                    · exact List.mem_cons_self ..
                    · exact List.mem_cons_of_mem _ (ih h)
                exact this _ (by rw [Array.mem_toList_iff]; exact Array.mem_of_getElem? hy)
              have := (List.all_eq_true.1 c4) _ hmem
              simpa using this
          simp only [execOp, ho, Instr.build, zeroValue, typeInfo, sizeOf, Sem.run_bind, run_program, Result.andThen_ok, hi, hi0, Sem.run_pure, hzv, run_underlying hel, hplace]
        · cases e
      · cases e
    · cases e
  · cases e

/-- A string's bytes: data. -/
def strBytesF (s : ByteArray) : Nat → Nat → D := fun i _ => .val (.int .u8 ((s.data.getD i 0).toNat : Int))
def strBytesS (P : Program) (src dst : TypeId) (x : SV) : Option Out :=
  match P.underlying src, P.underlying dst with
  | some .string, some (.slice e) =>
    match P.underlying e with
    | some (.int .u8) =>
      match x with
      | .d (.val (.string s)) => some (True, [], .d (.vec 1 s.size (strBytesF s)), [])
      | _ => none
    | _ => none
  | _, _ => none
theorem strBytes_ok {C : Ctx} {o : Oper} {nm : Nat} {v : Operand → SV} {h : Heap} {x : Out} {src dst : TypeId} {y : Operand} (ho : o.op = .convert src dst y) (e : strBytesS C.P src dst (v y) = some x) : Sound C o nm v h x := by
  unfold strBytesS at e
  split at e
  · next el hs hd =>
    split at e
    · next he =>
      split at e
      · next s hy =>
        cases e
        intro _
        refine ⟨?_, fun p hp => by simp at hp, rfl⟩
        intro M F ρ a h w hv hG hH hbs hfr K Q hK
        have e1 := hv y (by rw [ho]; simp [Op.operands]); rw [hy] at e1
        have hrun := run_bytes_of_string (P := C.P) w src dst el s hs hd he
        have hx : (execOp a.eval o).run C.P w = .ok (.value (.slice (some ⟨w.heap.size, 0, none⟩) s.size (grownCap w s.size 0 el))) (w.drew.alloc (.cells (bytesRow s (grownCap w s.size 0 el)) el ((bytesRow s (grownCap w s.size 0 el)).size, (bytesRow s (grownCap w s.size 0 el)).size + 1))) := by
          unfold execOp
          simp only [ho, e1.val, Sem.run_bind, hrun, Result.andThen_ok, Sem.run_pure]
        generalize hobj : Obj.cells (bytesRow s (grownCap w s.size 0 el)) el ((bytesRow s (grownCap w s.size 0 el)).size, (bytesRow s (grownCap w s.size 0 el)).size + 1) = obj at hx
        let M' : Imm := fun b => if b = w.heap.size then some obj else M b
        have hb := hH.beyond
        have hle : M.le M' := by
          intro b o hbo
          have : b ≠ w.heap.size := by rintro rfl; rw [(hb _ (Nat.le_refl _)).1] at hbo; cases hbo
          simp [M', this, hbo]
        have hnew : (w.drew.alloc obj).heap[w.heap.size]? = some obj := heap_alloc_new w.drew obj
        have hD : HR M F ρ h (w.drew.alloc obj) := (hH.drawn (w.drawn + 1)).beside obj
        have hH' : HR M' F ρ h (w.drew.alloc obj) := by
          refine ⟨fun b o hbo => ?_, hD.frm, fun b o hbo => ?_, fun m blk hm => ?_, hD.sep, ?_⟩
          rotate_right
          · refine hD.famKeep (fun _ _ _ h => h) (Names.le_refl _) hle (Nat.le_refl _) (fun m S es hm b hb a1 a2 => ⟨?_, a2⟩) (fun _ _ _ _ _ _ _ _ _ _ => rfl) (fun _ _ _ m y _ a b _ => .inl ⟨a, b⟩)
            obtain ⟨_, _, _, g1, _⟩ := hH.fam m S es hm
            have hlt := (g1 b hb).2.2
            simp [M', show b ≠ w.heap.size by omega, a1]
          · by_cases e : b = w.heap.size
            · subst e; simp [M'] at hbo; subst hbo; exact hnew
            · simp [M', e] at hbo; exact hD.imm b o hbo
          · have : b ≠ w.heap.size := by rintro rfl; rw [(hb _ (Nat.le_refl _)).2] at hbo; cases hbo
            simp [M', this]; exact hD.dis b o hbo
          · obtain ⟨z, hz, hr⟩ := hH.live m blk hm
            obtain ⟨z', hz', hr'⟩ := hD.live m blk hm
            rw [hz] at hz'; obtain rfl := Option.some.inj hz'
            refine ⟨z, hz, ?_⟩
            rcases hr' with hr' | ⟨q0, q1, q2, ob, q3, q4⟩
            · exact .inl hr'
            · rcases hr with ⟨h0, _⟩ | ⟨_, _, _, ob', q5, _⟩
              · omega
              · have hlt := (Array.getElem?_eq_some_iff.1 q5).1
                exact .inr ⟨q0, by simp [M', show z.b ≠ w.heap.size by omega, q1], q2, ob, q3, q4.mono hle (Names.le_refl _)⟩
        unfold Oper.wp
        rw [hx]
        refine hK M' ρ _ [] _ _ hle (Names.le_refl _) (fun _ _ => rfl) ⟨rfl, rfl⟩ (.d _ _ ?_) hH' ⟨rfl, rfl, rfl, by simp⟩
        subst hobj
        refine .vec 1 s.size _ w.heap.size 0 _ (bytesRow s (grownCap w s.size 0 el)) el ((bytesRow s (grownCap w s.size 0 el)).size, (bytesRow s (grownCap w s.size 0 el)).size + 1) (fun i _ => .int .u8 ((s.data.getD i 0).toNat : Int)) (by simp [M']) ?_ (fun i c hi hc => ?_) (fun i c hi hc => .val _ rfl)
        · unfold grownCap; exact Nat.le_add_right _ _
        · obtain rfl : c = 0 := by omega
          have hi' : i < s.data.size := hi
          show (bytesRow s _)[0 + i * 1 + 0]? = _
          rw [Nat.zero_add, Nat.mul_one, Nat.add_zero]
          unfold bytesRow
          rw [Array.getElem?_append_left (by simpa using hi'), Array.getElem?_map, Array.getElem?_eq_getElem hi']
          simp [Array.getD]
          rw [dif_pos hi]
      · cases e
    · cases e
  · cases e

def sop (C : Ctx) (nm : Nat) (o : Oper) (v : Operand → SV) (h : Heap) : Option Out :=
  match o.op with
  | .move y => some (moveS (v y))
  | .assign y => some (moveS (v y))
  | .pick c a b => pickS (v c) (v a) (v b)
  | .alloc t => allocS C.P nm t
  | .box t y => boxS nm t (v y)
  | .build t ps => match buildS C.P t (svParts v ps.toList) with
    | some x => some x
    | none => arrBuildS C.P t (svParts v ps.toList)
  | .buildSlice t 0 ⟨[]⟩ => emptyLitS C.P t
  | .buildSlice t len ps => sliceLitS C.P nm t len (svParts v ps.toList)
  | .load t a => loadOp C.P t (v a) h
  | .store t a y => storeS C.P t (v a) (v y) h
  | .nilCheck y => nilCheckS (v y)
  | .fieldAddr t y f => fieldAddrS C.P t (v y) f
  | .field t y f => fieldS C.P t (v y) f
  | .indexAddr t y ix => indexAddrS C.P t (v y) (v ix) h
  | .index t y ix => match indexS C.P t (v y) (v ix) with
    | some x => some x
    | none => arrIdxS C.P t (v y) (v ix)
  | .slice t y lo hi mx => sliceS C.P t (v y) (lo.map v) (hi.map v) (mx.map v) h
  | .makeFunc fn first caps => makeFuncS fn first.toList (mapV v caps.toList)
  | .makeMap t r => makeMapS nm r
  | .makeSlice t l c => makeSliceS C.P nm t (v l) (v c)
  | .extract y i => extractS (v y) i
  | .call ⟨.builtin .len, ⟨[y]⟩, ⟨[t]⟩⟩ => lenS C.P t (v y) h
  | .call ⟨.builtin .append, ⟨[a, b]⟩, ⟨[t, t']⟩⟩ => if Nat.beq t t' then appendS C.P nm t (v a) (v b) h else none
  | .call ⟨.builtin .min, ⟨[y, z]⟩, ts⟩ => minS (v y) (v z)
  | .call ⟨.builtin .max, ⟨[y, z]⟩, ts⟩ => maxS (v y) (v z)
  | .binOp .eql t y (.const (.slice none 0 0)) t' => nilEqS C.P false t (v y)
  | .binOp .neq t y (.const (.slice none 0 0)) t' => nilEqS C.P true t (v y)
  | .convert src dst y => match strBytesS C.P src dst (v y) with
    | some x => some x
    | none => pureS C.P o v
  | .binOp .quo t y z t' => divS .quo (v y) (v z)
  | .binOp .rem t y z t' => divS .rem (v y) (v z)
  | .binOp .shl t y z t' => shiftS .shl (v y) (v z)
  | .binOp .shr t y z t' => shiftS .shr (v y) (v z)
  | _ => pureS C.P o v

theorem sop_ok {C : Ctx} {nm : Nat} {o : Oper} {v : Operand → SV} {h : Heap} {x : Out} (e : sop C nm o v h = some x) : Sound C o nm v h x := by
  unfold sop at e
  split at e
  · next y ho => cases e; exact move_ok (.inl ho)
  · next y ho => cases e; exact move_ok (.inr ho)
  · next ho => exact pick_ok ho e
  · next ho => exact alloc_ok ho e
  · next ho => exact box_ok ho e
  · next ho =>
    split at e
    · next x hx => exact build_ok ho (by rw [hx, e])
    · exact arrBuild_ok ho e
  · next ho => exact emptyLit_ok ho e
  · next ho => exact sliceLit_ok ho e
  · next ho => exact loadOp_ok ho e
  · next ho => exact storeS_ok ho e
  · next ho => exact nilCheck_ok ho e
  · next ho => exact fieldAddr_ok ho e
  · next ho => exact field_ok ho e
  · next ho => exact indexAddr_ok ho e
  · next ho =>
    split at e
    · next x hx => exact index_ok ho (by rw [hx, e])
    · exact arrIdx_ok ho e
  · next ho => exact slice_ok ho e
  · next ho => exact makeFunc_ok ho e
  · next ho => exact makeMap_ok ho e
  · next ho => exact makeSlice_ok ho e
  · next ho => exact extract_ok ho e
  · next ho => exact len_ok ho e
  · next ho =>
    split at e
    · next ht => have ht := Nat.eq_of_beq_eq_true ht; subst ht; exact append_ok ho e
    · cases e
  · next ho => exact min_ok ho e
  · next ho => exact max_ok ho e
  · next ho => exact nilEq_ok ho (.inl ⟨rfl, rfl⟩) e
  · next ho => exact nilEq_ok ho (.inr ⟨rfl, rfl⟩) e
  · next ho =>
    split at e
    · next x hx => exact strBytes_ok ho (by rw [hx, e])
    · exact pureS_ok e
  · next ho => exact div_ok ho e
  · next ho => exact div_ok ho e
  · next ho => exact shift_ok ho e
  · next ho => exact shift_ok ho e
  · exact pureS_ok e

/-- The step that takes one operation. -/
theorem st {C : Ctx} {ops : List Oper} {i : Nat} {o : Oper} {l : List Oper} {σ : St} {acc : Option (List FP)} {K : St → Prop} {vc : Prop} {bs : List (Nat × Blk)} {u : SV} {wr : List (Nat × Option Blk)}
    (hg : o.guard = none) (hd : dstOK C o = true) (e : sop C (σ.nx + 8 * i) o (opv C σ.t) σ.h = some (vc, bs, u, wr)) (hvc : vc)
    (k : wops C ops (i + 1) l (σ.app o.dst u wr) (acc.map (· ++ [(bs.map (·.1), wr.map (·.1))])) K) : wops C ops i (o :: l) σ acc K := by
  obtain ⟨h1, h2, h3⟩ := sop_ok e hvc
  unfold wops
  exact .inl ⟨_, _, ⟨hd, .inl ⟨by simp [gOn, hg], bs, u, wr, h1, h2, h3, rfl, rfl⟩⟩, k⟩

/-- The same with the value written otherwise. -/
theorem st_as {C : Ctx} {ops : List Oper} {i : Nat} {o : Oper} {l : List Oper} {σ : St} {acc : Option (List FP)} {K : St → Prop} {vc : Prop} {bs : List (Nat × Blk)} {u : SV} {wr : List (Nat × Option Blk)} (u' : SV)
    (hg : o.guard = none) (hd : dstOK C o = true) (e : sop C (σ.nx + 8 * i) o (opv C σ.t) σ.h = some (vc, bs, u, wr)) (hvc : vc) (hu : u = u')
    (k : wops C ops (i + 1) l (σ.app o.dst u' wr) (acc.map (· ++ [(bs.map (·.1), wr.map (·.1))])) K) : wops C ops i (o :: l) σ acc K := by
  subst hu; exact st hg hd e hvc k

/-- A step whose outcome is told by a law of its own. -/
theorem st_ok {C : Ctx} {ops : List Oper} {i : Nat} {o : Oper} {l : List Oper} {σ : St} {acc : Option (List FP)} {K : St → Prop} {bs : List (Nat × Blk)} {u : SV} {wr : List (Nat × Option Blk)}
    (hg : o.guard = none) (hd : dstOK C o = true) (hok : OpOK C o (σ.nx + 8 * i) (opv C σ.t) bs (fun x y => x = u ∧ y = wr)) (hbs : ∀ p, p ∈ bs → σ.h p.1 = some p.2) (hk : keysIn bs (σ.nx + 8 * i) wr = true)
    (k : wops C ops (i + 1) l (σ.app o.dst u wr) (acc.map (· ++ [(bs.map (·.1), wr.map (·.1))])) K) : wops C ops i (o :: l) σ acc K := by
  unfold wops
  exact .inl ⟨_, _, ⟨hd, .inl ⟨by simp [gOn, hg], bs, u, wr, hok, hbs, hk, rfl, rfl⟩⟩, k⟩

/-- The end of a region. -/
theorem st_nil {C : Ctx} {ops : List Oper} {i : Nat} {σ : St} {acc : Option (List FP)} {K : St → Prop} (hc : chk ops acc) (k : K ⟨σ.t, σ.h, σ.nx + 8 * ops.length⟩) : wops C ops i [] σ acc K := ⟨hc, k⟩

/-- An operation behind a guard: both ways. -/
theorem st_guard {C : Ctx} {ops : List Oper} {i : Nat} {o : Oper} {l : List Oper} {σ : St} {acc : Option (List FP)} {K : St → Prop} {j : Nat} {want : Bool} {s : Tmp} {b : Bool}
    (hg : o.guard = some (j, want)) (hs : gslot ops j = some s) (hb : σ.t s = SV.b b)
    (on : b = want → wops C ops i ({ o with guard := none } :: l) ⟨upd σ.t s (SV.b want), σ.h, σ.nx⟩ acc K)
    (off : b = !want → wops C ops (i + 1) l (St.app ⟨upd σ.t s (SV.b !want), σ.h, σ.nx⟩ o.dst (.tup []) []) (acc.map (· ++ [([], [])])) K) (hd : dstOK C o = true) : wops C ops i (o :: l) σ acc K := by
  have same : upd σ.t s (SV.b b) = σ.t := by
    funext k; rw [upd_eq]; split
    · next e => subst e; exact hb.symm
    · rfl
  by_cases h : b = want
  · have := on h
    rw [← h, same] at this
    unfold wops at this ⊢
    have ops' : ∀ {nm : Nat} {v : Operand → SV} {bs RS}, OpOK C { o with guard := none } nm v bs RS → OpOK C o nm v bs RS := fun hok => hok
    rcases this with ⟨fp, σ', ⟨hd', hD⟩, hr⟩ | ⟨h0, hd', hgo, bs, RS, hok, hbs, hn⟩
    · refine .inl ⟨fp, σ', ⟨hd, ?_⟩, hr⟩
      rcases hD with ⟨_, bs, u, wr, hok, rest⟩ | ⟨hgf, _⟩
      · exact .inl ⟨by unfold gOn; rw [hg]; exact ⟨s, hs, by rw [hb, h]⟩, bs, u, wr, ops' hok, rest⟩
      · simp [gOff] at hgf
    · exact .inr ⟨h0, hd, by unfold gOn; rw [hg]; exact ⟨s, hs, by rw [hb, h]⟩, bs, RS, ops' hok, hbs, hn⟩
  · have h' : b = !want := by cases b <;> cases want <;> simp_all
    have := off h'
    rw [← h', same] at this
    unfold wops
    refine .inl ⟨([], []), _, ⟨hd, .inr ⟨?_, rfl, rfl⟩⟩, this⟩
    unfold gOff; rw [hg]; exact ⟨s, hs, .inl (by rw [hb, h'])⟩

/- calls -/
def fnOK (fn : Func) : Bool := !(fn.name == "runtime.NumGoroutine") && fn.body.isSome

theorem call_ok {C : Ctx} {o : Oper} {nm : Nat} {v : Operand → SV} {x : Operand} {cargs : Array Operand} {tys : Array TypeId} (ho : o.op = .call { callee := .value x, args := cargs, argTypes := tys }) {f : FuncId} {caps : List SV} (hx : v x = .fn f caps)
    {fn : Func} (hf : C.P.funcs[f]? = some fn) (hfn : fnOK fn = true) {args : List SV} {hin : List Blk} {post : SV → List (Option Blk) → Prop} (hF : Spec C.P C.G f args hin post) (π : List Nat) (hargs : mapV v cargs.toList ++ caps = renL π args)
    (side : (Nat.beq π.length hin.length && (nodupB π && (hUnder hin.length (hin.map some) && underL hin.length args))) = true) :
    OpOK C o nm v (bsOf π π hin) (fun u wr => ∃ r hout π2, post r hout ∧ π2 = π ++ newNames nm (hout.length - hin.length) ∧ u = ren π2 r ∧ wr = wrOf π2 π2 hout) := by
  simp only [Bool.and_eq_true] at side
  obtain ⟨s1, s2, s3, s4⟩ := side
  have s1 := Nat.eq_of_beq_eq_true s1
  intro M F ρ a h w hv hG hH hbs hfr K Q hK
  have hvx := hv x (by rw [ho]; simp [Op.operands, Call.operands])
  rw [hx] at hvx
  obtain ⟨vs, hq, hvs, hvr⟩ := fn_case hvx
  have hrel := mapV_rel (M := M) (ρ := ρ) (a := a) (v := v) (xs := cargs) (fun y hy => hv y (by rw [ho]; simp [Op.operands, Call.operands, hy]))
  have hrun : (execOp a.eval o).run C.P w = .ok (.enter f (cargs.map a.eval ++ vs)) w := by
    simp only [fnOK, Bool.and_eq_true, Bool.not_eq_true'] at hfn
    obtain ⟨n1, n2⟩ := hfn
    have n1 : fn.name ≠ "runtime.NumGoroutine" := by simpa using n1
    have n3 : fn.body ≠ none := by intro e; rw [e] at n2; cases n2
    simp [execOp, ho, resolve, hq, Deferred.ofValue, invoke, callFunc, hf, n1, n3]
  unfold Oper.wp
  rw [hrun, Oper.upon_enter]
  have hlenargs : args.length = cargs.size + vs.size := by
    have := congrArg List.length hargs
    rw [List.length_append, mapV_length, renL_length, Array.length_toList] at this
    omega
  refine (call_world hF hG hH s1 s2 hbs s3 s4 (vs := cargs.map a.eval ++ vs) (by simp [hlenargs]) ?_ hfr).mono ?_
  · intro i y hy
    have hyr : (mapV v cargs.toList ++ caps)[i]? = some (ren π y) := by rw [hargs, renL_get, hy]; rfl
    by_cases hi : i < cargs.size
    · rw [List.getElem?_append_left (by rw [mapV_length, Array.length_toList]; exact hi)] at hyr
      obtain ⟨u, u1, u2⟩ := hrel.2 i _ hyr
      exact ⟨u, by rw [Array.getElem?_append_left (by simpa using hi)]; exact u1, u2⟩
    · rw [List.getElem?_append_right (by rw [mapV_length, Array.length_toList]; omega), mapV_length, Array.length_toList] at hyr
      obtain ⟨u, u1, u2⟩ := hvr _ _ hyr
      exact ⟨u, by rw [Array.getElem?_append_right (by simp; omega)]; simpa using u1, u2⟩
  · rintro e w' ⟨M', ρ', r, hout, u, π2, rfl, hπ2, h1, h2, h3, h4, h5, h6, h7⟩
    exact hK M' ρ' _ _ u w' h1 h2 h3 ⟨r, hout, π2, h7, hπ2, rfl, rfl⟩ h4 h5 h6

def bsHeap (h : Heap) : List (Nat × Blk) → Prop
  | [] => True
  | (n, b) :: r => h n = some b ∧ bsHeap h r
theorem bsHeap_mem {h : Heap} : ∀ {l : List (Nat × Blk)}, bsHeap h l → ∀ p, p ∈ l → h p.1 = some p.2
  | [], _, p, hp => by cases hp
  | (n, b) :: r, hh, p, hp => by
    rcases List.mem_cons.1 hp with rfl | hp
    · exact hh.1
    · exact bsHeap_mem hh.2 p hp

theorem keysIn_call {π : List Nat} {hin : List Blk} {nm : Nat} (hlen : π.length = hin.length) : ∀ (hout : List (Option Blk)), hout.length ≤ hin.length + 8 → hin.length ≤ hout.length →
    keysIn (bsOf π π hin) nm (wrOf (π ++ newNames nm (hout.length - hin.length)) (π ++ newNames nm (hout.length - hin.length)) hout) = true := by
  intro hout h8 hle
  unfold keysIn
  rw [List.all_eq_true]
  intro p hp
  obtain ⟨i, b, h1, h2, h3⟩ := wrOf_keys _ _ p hp
  by_cases hi : i < π.length
  · rw [List.getElem?_append_left hi] at h1
    obtain ⟨j, j1, j2⟩ := bsOf_get (π := π) π hin hlen i _ (List.getElem?_eq_getElem (by omega))
    rw [h1] at j1; obtain rfl := Option.some.inj j1
    have : ((bsOf π π hin).any fun q => Nat.beq q.1 p.1) = true := by rw [List.any_eq_true]; exact ⟨_, j2, by simp⟩
    rw [this]; rfl
  · rw [List.getElem?_append_right (by omega)] at h1
    have hlt : i - π.length < hout.length - hin.length := by
      have := (List.getElem?_eq_some_iff.1 h1).1
      rw [newNames_length] at this; exact this
    rw [newNames_get _ _ _ hlt] at h1
    have := Option.some.inj h1
    rw [← this]
    simp; omega

/-- A call whose answer is one: in any region. -/
theorem st_call {C : Ctx} {ops : List Oper} {i : Nat} {o : Oper} {l : List Oper} {σ : St} {acc : Option (List FP)} {K : St → Prop} {x : Operand} {cargs : Array Operand} {tys : Array TypeId} {f : FuncId} {caps : List SV} {fn : Func} {args : List SV} {hin : List Blk} {r : SV} {hout : List (Option Blk)}
    (π : List Nat) (hF : Spec C.P C.G f args hin (fun r' ho => r' = r ∧ ho = hout)) (hg : o.guard = none) (hd : dstOK C o = true) (ho : o.op = .call { callee := .value x, args := cargs, argTypes := tys }) (hx : opv C σ.t x = .fn f caps) (hf : C.P.funcs[f]? = some fn) (hfn : fnOK fn = true)
    (hargs : mapV (opv C σ.t) cargs.toList ++ caps = renL π args)
    (side : (Nat.beq π.length hin.length && (nodupB π && (hUnder hin.length (hin.map some) && underL hin.length args))) = true)
    (side2 : (Nat.ble hin.length hout.length && Nat.ble hout.length (hin.length + 8)) = true)
    (hbs : bsHeap σ.h (bsOf π π hin))
    (k : wops C ops (i + 1) l (σ.app o.dst (ren (π ++ newNames (σ.nx + 8 * i) (hout.length - hin.length)) r) (wrOf (π ++ newNames (σ.nx + 8 * i) (hout.length - hin.length)) (π ++ newNames (σ.nx + 8 * i) (hout.length - hin.length)) hout))
      (acc.map (· ++ [((bsOf π π hin).map (·.1), (wrOf (π ++ newNames (σ.nx + 8 * i) (hout.length - hin.length)) (π ++ newNames (σ.nx + 8 * i) (hout.length - hin.length)) hout).map (·.1))])) K) : wops C ops i (o :: l) σ acc K := by
  have hok := call_ok (nm := σ.nx + 8 * i) ho hx hf hfn hF π hargs side
  simp only [Bool.and_eq_true] at side side2
  refine st_ok hg hd (fun M F ρ a h w h1 h2 h3 h4 h5 K Q hK => hok M F ρ a h w h1 h2 h3 h4 h5 K Q fun M' ρ' u wr u' w' g1 g2 g3 g4 => hK M' ρ' u wr u' w' g1 g2 g3 ?_) (bsHeap_mem hbs) (keysIn_call (Nat.eq_of_beq_eq_true side.1) hout (Nat.le_of_ble_eq_true side2.2) (Nat.le_of_ble_eq_true side2.1)) k
  obtain ⟨r', ho', π2, ⟨rfl, rfl⟩, rfl, rfl, rfl⟩ := g4
  exact ⟨rfl, rfl⟩

/-- A call in a region of the text's order: whatever it answers. -/
theorem st_callQ {C : Ctx} {ops : List Oper} {i : Nat} {o : Oper} {l : List Oper} {σ : St} {K : St → Prop} {x : Operand} {cargs : Array Operand} {tys : Array TypeId} {f : FuncId} {caps : List SV} {fn : Func} {args : List SV} {hin : List Blk} {post : SV → List (Option Blk) → Prop}
    (π : List Nat) (hF : Spec C.P C.G f args hin post) (hg : o.guard = none) (hd : dstOK C o = true) (ho : o.op = .call { callee := .value x, args := cargs, argTypes := tys }) (hx : opv C σ.t x = .fn f caps) (hf : C.P.funcs[f]? = some fn) (hfn : fnOK fn = true)
    (hargs : mapV (opv C σ.t) cargs.toList ++ caps = renL π args)
    (side : (Nat.beq π.length hin.length && (nodupB π && (hUnder hin.length (hin.map some) && underL hin.length args))) = true)
    (hbs : bsHeap σ.h (bsOf π π hin))
    (k : ∀ r hout, post r hout → wops C ops (i + 1) l (σ.app o.dst (ren (π ++ newNames (σ.nx + 8 * i) (hout.length - hin.length)) r) (wrOf (π ++ newNames (σ.nx + 8 * i) (hout.length - hin.length)) (π ++ newNames (σ.nx + 8 * i) (hout.length - hin.length)) hout)) none K) : wops C ops i (o :: l) σ none K := by
  have hok := call_ok (nm := σ.nx + 8 * i) ho hx hf hfn hF π hargs side
  unfold wops
  refine .inr ⟨rfl, hd, by simp [gOn, hg], _, _, hok, bsHeap_mem hbs, ?_⟩
  rintro u wr ⟨r, hout, π2, h1, rfl, rfl, rfl⟩
  exact k r hout h1

/-- The law's walk: from what its function answers, over every memory in which its arguments read so. -/
theorem law_walk {P : Program} {G : Nat → SV} {f : FuncId} {args : List SV} {r : SV} (hF : Spec P G f args [] (fun r' _ => r' = r)) {v : Value} (hr : r = .d (.val v)) {w : World} {vs : Array Value} (hsz : vs.size = args.length)
    (hG : ∀ g ρ, VR (fun b => w.heap[b]?) ρ (G g) (.pointer (some ⟨g, 0, none⟩))) (hargs : ∀ (i : Nat) (x : SV), args[i]? = some x → ∃ u, vs[i]? = some u ∧ VR (fun b => w.heap[b]?) (fun _ => none) x u) :
    Calls P f vs w fun e w' => e = .returned v ∧ RowKit.Below w.heap.size w w' := by
  refine (hF (fun b => w.heap[b]?) (fun _ => none) (fun _ => none) vs w hG ⟨fun b o h => h, (fun b o h => by cases h), (fun b o h => by cases h), ?_, ?_, fun n S es hn => by simp [hOf] at hn⟩ hsz hargs (fun _ _ => rfl)).mono ?_
  · intro n b hn; simp [hOf] at hn
  · intro n m x y hn; simp [hOf] at hn
  · rintro e w' ⟨M', ρ', r', ho, u, rfl, h1, h2, h3, h4, h5, h6, rfl⟩
    subst hr
    refine ⟨by rw [h3.val], h6.os, h6.tape, h6.output, h6.size, fun k hk => ?_⟩
    have hb : w.heap[k]? = some (w.heap[k]'hk) := Array.getElem?_eq_getElem hk
    rw [h4.imm k _ (h1 k _ hb), hb]

/-- A block of the call's own, laid still: from now on its rows are data. -/
theorem W_freeze {C : Ctx} {c : Code} {Q : Exit → St → Prop} {σ : St} (s n len : Nat) {ty k L : Nat} {f : Nat → Nat → D} (hs : σ.t s = .sl n 0 len) (hn : σ.h n = some (.rows ty k L f)) (hl : len ≤ L)
    (h : W C c Q ⟨upd σ.t s (.d (.vec k len f)), upd σ.h n none, σ.nx⟩) : W C c Q σ := by
  intro M F pin ρ a w hsr
  have hv := hsr.tm s
  rw [hs] at hv
  have hH := hsr.hr
  have key : ∃ M', M.le M' ∧ HR M' F ρ (upd σ.h n none) w ∧ VR M' ρ (.d (.vec k len f)) (a.tmps.getD s undef) := by
    generalize hq : a.tmps.getD s undef = q at hv
    cases hv with
    | sl0 _ _ x hx hR aa => exact ⟨M, Imm.le_refl _, hH.drop n, .d _ _ (.vec0 _ _ _ _)⟩
    | sl _ _ _ x hx hlR hR h0 =>
      obtain ⟨x', hx', hr⟩ := hH.live n _ hn
      rw [hx] at hx'; obtain rfl := Option.some.inj hx'
      rcases hr with ⟨h00, _⟩ | ⟨_, hM, hF, o, h3, h4⟩
      · omega
      cases o with
      | cells cur T fz =>
        obtain ⟨rfl, rfl, g1, g2, g3, g4⟩ := h4
        let M' : Imm := fun b => if b = x.b then some (.cells cur T (0, 0)) else M b
        have hle : M.le M' := by
          intro b o hb
          have : b ≠ x.b := by rintro rfl; rw [hM] at hb; cases hb
          simp [M', this, hb]
        refine ⟨M', hle, hH.stills hle (fun m b hm => ?_) ?_ ?_ (fun m b y hm hy q0 => ?_) (fun m S es hm b hb => ?_), .d _ _ ?_⟩
        · rw [upd_eq] at hm; split at hm
          · cases hm
          · exact hm
        · intro b o hb
          by_cases e : b = x.b
          · subst e; simp [M'] at hb; subst hb; exact h3
          · simp [M', e] at hb; exact hH.imm b o hb
        · intro b o hb
          have : b ≠ x.b := by rintro rfl; rw [hF] at hb; cases hb
          simp [M', this]; exact hH.dis b o hb
        · rw [upd_eq] at hm; split at hm
          · cases hm
          · next e =>
            obtain ⟨y', hy', hr⟩ := hH.live m b hm
            rw [hy] at hy'; obtain rfl := Option.some.inj hy'
            have : y.b ≠ x.b := fun hb => e (hH.sep m n y x (by rw [hm]; simp) (by rw [hn]; simp) hy hx q0 h0 hb)
            rcases hr with ⟨h00, _⟩ | ⟨_, q1, _⟩
            · omega
            · simp [M', this, q1]
        · rw [upd_eq] at hm; split at hm
          · cases hm
          · obtain ⟨_, _, _, g1, g2, _⟩ := hH.fam m S es hm
            have : b ≠ x.b := fun e => g2 n x (by rw [hn]; simp) hx h0 (e ▸ hb)
            simp [M', this, (g1 b hb).1]
        · subst g1
          have hget : ∀ i c, i < len → c < x.k → ∃ v, cur[i * x.k + c]? = some v ∧ DR M (f i c) v := fun i c hi hc => g4 i c (by omega) hc
          refine .vec x.k len f x.b (0 * x.k) _ cur T (0, 0) (fun i c => (cur[i * x.k + c]?).getD undef) (by simp [M']) (by omega) (fun i c hi hc => ?_) (fun i c hi hc => ?_)
          · obtain ⟨v, v1, _⟩ := hget i c hi hc
            rw [Nat.zero_mul, Nat.zero_add, v1]; rfl
          · obtain ⟨v, v1, v2⟩ := hget i c hi hc
            simp only [v1, Option.getD_some]; exact v2.mono hle
      | _ => exact h4.elim
  obtain ⟨M', hle, hH', hv'⟩ := key
  refine Code.wp_mono ?_ (h M' F pin ρ a w ⟨⟨fun j => ?_, hsr.sz, hsr.df, hH', hsr.pn, hsr.pm, fun g ρ => (hsr.gl g ρ).mono hle (Names.le_refl _)⟩, hsr.fr⟩)
  · rintro e a' w' ⟨M2, ρ2, σ2, h1, h2, h3, h4⟩
    exact ⟨M2, ρ2, σ2, Imm.le_trans hle h1, h2, h3, h4⟩
  · show VR M' ρ (upd σ.t s _ j) _
    rw [upd_eq]
    split
    · next e => subst e; exact hv'
    · exact (hsr.tm j).mono hle (Names.le_refl _)
end Go.Proofs.YtpdojmebloekgaaDoor.Nice
