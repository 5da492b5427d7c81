/- The operations, each with what it lists. -/
import Derived.Test.YtpdojmebloekgaaDoorZCoE
namespace Go.Proofs.YtpdojmebloekgaaDoor.Nice.Co
open Go Go.Conc
set_option linter.unusedVariables false
set_option linter.unusedSimpArgs false


theorem opEv_still {C : Ctx} {o : Oper} {v : Operand → SV} {bs : List (Nat × Blk)} (H : ∀ (M F : Imm) (ρ : Names) (a : Act) (h : Heap) (w : World), (∀ x, x ∈ o.op.operands → VR M ρ (v x) (a.eval x)) → HR M F ρ h w → (∀ p, p ∈ bs → h p.1 = some p.2) → Still C.P (execOp a.eval o)) : OpEv C o v bs :=
  fun M F ρ a h w hv hH hbs e he => by
    rcases (H M F ρ a h w hv hH hbs).out w #[] e he with h | h
    · simp at h
    · exact .inr (.inr h)
theorem opEv_at {C : Ctx} {o : Oper} {v : Operand → SV} {bs : List (Nat × Blk)} (H : ∀ (M F : Imm) (ρ : Names) (a : Act) (h : Heap) (w : World), (∀ x, x ∈ o.op.operands → VR M ρ (v x) (a.eval x)) → HR M F ρ h w → (∀ p, p ∈ bs → h p.1 = some p.2) →
    At C.P (fun b => M b ≠ none ∨ OwnB ρ h b) (fun b => OwnB ρ h b) (execOp a.eval o) w) : OpEv C o v bs :=
  fun M F ρ a h w hv hH hbs e he => by
    rcases H M F ρ a h w hv hH hbs #[] e he with h | h
    · simp at h
    · exact h
theorem Still.val {P : Program} {s : Sem Value} (h : Still P s) : Still P (s >>= fun x => Pure.pure (Next.value x) : Sem Next) := .bind h fun _ => .pure _
theorem pvS_still {P : Program} {α : Type} {s : Sem α} {a : α} (h : pvS P s = some a) : Still P s := by
  constructor
  · intro w es e he
    induction s with
    | pure b => exact .inl he
    | program k ih => simp only [pvS] at h; exact ih P h he
    | _ => simp [pvS] at h
  · intro w a' w' hr b o hb
    rw [pvS_run h w] at hr
    cases hr; exact hb
theorem pureS_ev {C : Ctx} {o : Oper} {v : Operand → SV} {x : Out} (e : pureS C.P o v = some x) : OpEv C o v x.2.1 ∧ OpVal C o v x.2.1 := by
  unfold pureS at e
  split at e
  · cases e
  next hsel =>
  split at e
  next hall =>
    split at e
    next r hr =>
      split at e
      next h1 =>
        cases e
        have hc : ∀ (M : Imm) (ρ : Names) (a : Act), (∀ x, x ∈ o.op.operands → VR M ρ (v x) (a.eval x)) → execOp (rhoOf v) o = execOp a.eval o := by
          intro M ρ a hv
          refine execOp_congr o (fun cs b hcs => by simp [hcs, isSelect] at hsel) fun y hy => ?_
          obtain ⟨u, hu⟩ := allVal_get hall y (Array.mem_toList_iff.2 hy)
          have := hv y hy
          rw [hu] at this
          rw [this.val]
          simp [rhoOf, hu, valOf]
        refine ⟨opEv_still fun M F ρ a h w hv _ _ => by rw [← hc M ρ a hv]; exact pvS_still hr, fun M F ρ a h w hv _ _ r' w' hr' => ?_⟩
        rw [← hc M ρ a hv, pvS_run hr w] at hr'
        cases hr'; trivial
      · cases e
    · cases e
  · cases e

/- where an address told so lies -/
theorem own_blk {M F : Imm} {ρ : Names} {h : Heap} {w : World} (H : HR M F ρ h w) {n : Nat} {blk : Blk} (hn : h n = some blk) (hb : (∃ ty k xs, blk = .cells ty k xs) ∨ ∃ ty k len f, blk = .rows ty k len f ∧ 0 < len) {x : Own} (hx : ρ n = some x) :
    0 < x.R ∧ CellsAt w x.b ∧ OwnB ρ h x.b := by
  obtain ⟨x', hx', hr⟩ := H.live n blk hn
  rw [hx] at hx'; obtain rfl := Option.some.inj hx'
  rcases hr with ⟨_, hg⟩ | ⟨h0, _, _, o, h3, h4⟩
  · exfalso
    rcases hb with ⟨ty, k, xs, rfl⟩ | ⟨ty, k, len, f, rfl, hl⟩
    · cases hg
    · cases len with
      | zero => omega
      | succ l => cases hg
  · refine ⟨h0, ?_, n, blk, x, hn, hx, h0, rfl⟩
    rcases hb with ⟨ty, k, xs, rfl⟩ | ⟨ty, k, len, f, rfl, hl⟩ <;> cases o <;> first | exact h4.elim | exact ⟨_, _, _, h3⟩
theorem load_addr {a : SV} {h0 : Heap} {n : Nat} {vc : Prop} {bs : List (Nat × Blk)} {ys : List SV} (e : cellsAt a h0 n = some (vc, bs, ys)) (hvc : vc) {M F : Imm} {ρ : Names} {h : Heap} {w : World} {u : Value} (hv : VR M ρ a u) (H : HR M F ρ h w) (hbs : ∀ p, p ∈ bs → h p.1 = some p.2) :
    ∃ ad, u = .pointer (some ad) ∧ CellsAt w ad.block ∧ (M ad.block ≠ none ∨ OwnB ρ h ad.block) := by
  unfold cellsAt at e
  split at e
  · next m i c =>
    split at e
    · next ty k xs hm =>
      split at e
      · cases e
        cases hv with
        | ptr _ _ _ x hx =>
          obtain ⟨_, h1, h2⟩ := own_blk H (hbs (m, .cells ty k xs) (by simp)) (.inl ⟨_, _, _, rfl⟩) hx
          exact ⟨_, rfl, h1, .inr h2⟩
      · cases e
    · next ty k len f hm =>
      split at e
      · cases e
        cases hv with
        | ptr _ _ _ x hx =>
          obtain ⟨_, h1, h2⟩ := own_blk H (hbs (m, .rows ty k len f) (by simp)) (.inr ⟨_, _, _, _, rfl, by omega⟩) hx
          exact ⟨_, rfl, h1, .inr h2⟩
      · cases e
    · cases e
  · split at e
    · cases e
      cases hv with
      | vp _ _ _ _ _ b o cur T fz g hb hg hr => exact ⟨_, rfl, ⟨_, _, _, H.imm _ _ hb⟩, .inl (by show M b ≠ none; rw [hb]; simp)⟩
    · cases e
  · cases e
theorem loadS_addr {P : Program} {t : TypeId} {a : SV} {h0 : Heap} {vc : Prop} {bs : List (Nat × Blk)} {s : SV} (e : loadS P t a h0 = some (vc, bs, s)) (hvc : vc) {M F : Imm} {ρ : Names} {h : Heap} {w : World} {u : Value} (hv : VR M ρ a u) (H : HR M F ρ h w) (hbs : ∀ p, p ∈ bs → h p.1 = some p.2) :
    ∃ ad, u = .pointer (some ad) ∧ CellsAt w ad.block ∧ (M ad.block ≠ none ∨ OwnB ρ h ad.block) := by
  unfold loadS at e
  split at e
  · split at e
    · split at e
      · next hc => cases e; exact load_addr hc hvc hv H hbs
      · cases e
    · cases e
  · split at e
    · next hc => cases e; exact load_addr hc hvc hv H hbs
    · cases e
  · cases e
theorem loadOp_ev {C : Ctx} {o : Oper} {v : Operand → SV} {h : Heap} {x : Out} {t : TypeId} {a : Operand} (ho : o.op = .load t a) (e : loadOp C.P t (v a) h = some x) (hvc : x.1) : OpEv C o v x.2.1 := by
  unfold loadOp at e
  split at e
  next vc bs u hl =>
    cases e
    refine opEv_at fun M F ρ a' h w hv hH hbs => ?_
    obtain ⟨ad, h1, h2, h3⟩ := loadS_addr hl hvc (hv a (by rw [ho]; simp [Op.operands])) hH hbs
    unfold execOp
    rw [ho]
    dsimp only
    unfold Instr.loadAt
    rw [h1]
    refine .bind (.bind (Still.pure ad).at fun ad' w' he => ?_) fun _ _ _ => (Still.pure _).at
    cases he
    exact at_loadVar h2 h3
  · cases e
theorem store_addr {a : SV} {h0 : Heap} {ys : List SV} {vc : Prop} {bs : List (Nat × Blk)} {wr : List (Nat × Option Blk)} (e : storeAtS a ys h0 = some (vc, bs, wr)) (hvc : vc) {M F : Imm} {ρ : Names} {h : Heap} {w : World} {u : Value} (hv : VR M ρ a u) (H : HR M F ρ h w) (hbs : ∀ p, p ∈ bs → h p.1 = some p.2) :
    ∃ ad, u = .pointer (some ad) ∧ CellsAt w ad.block ∧ OwnB ρ h ad.block := by
  unfold storeAtS at e
  split at e
  · next m i c =>
    split at e
    · next ty k xs hm =>
      split at e
      · cases e
        cases hv with
        | ptr _ _ _ x hx =>
          obtain ⟨_, h1, h2⟩ := own_blk H (hbs (m, .cells ty k xs) (by simp)) (.inl ⟨_, _, _, rfl⟩) hx
          exact ⟨_, rfl, h1, h2⟩
      · cases e
    · next ty k len f hm =>
      split at e
      · split at e
        · cases e
          cases hv with
          | ptr _ _ _ x hx =>
            obtain ⟨_, h1, h2⟩ := own_blk H (hbs (m, .rows ty k len f) (by simp)) (.inr ⟨_, _, _, _, rfl, by omega⟩) hx
            exact ⟨_, rfl, h1, h2⟩
        · cases e
      · cases e
    · cases e
  · cases e
theorem storeS_ev {C : Ctx} {o : Oper} {v : Operand → SV} {h : Heap} {x : Out} {t : TypeId} {a y : Operand} (ho : o.op = .store t a y) (e : storeS C.P t (v a) (v y) h = some x) (hvc : x.1) : OpEv C o v x.2.1 := by
  unfold storeS at e
  split at e
  · split at e
    · split at e
      · split at e
        · next vc bs wr hst =>
          cases e
          refine opEv_at fun M F ρ a' h w hv hH hbs => ?_
          obtain ⟨ad, h1, h2, h3⟩ := store_addr hst hvc (hv a (by rw [ho]; exact mem_ops2 (.inl rfl))) hH hbs
          unfold execOp
          rw [ho]
          dsimp only
          unfold Instr.storeAt
          rw [h1]
          refine .bind (.bind (Still.pure ad).at fun ad' w' he => ?_) fun _ _ _ => (Still.pure _).at
          cases he
          exact at_storeVar h2 h3
        · cases e
      · cases e
    · cases e
  · cases e

/- append -/
/-- A slice that is read or written behind its length: empty, or its block is known. -/
def SlcIn (w : World) (B : Nat → Prop) (n : Nat) : Value → Prop
  | .slice ba m _ => m = n ∧ (n = 0 ∨ ∃ ad, ba = some ad ∧ CellsAt w ad.block ∧ B ad.block)
  | _ => False
theorem src_addr {s : SV} {h0 : Heap} {k : Nat} {vc : Prop} {bs : List (Nat × Blk)} {blk : Blk} {m : Nat} (e : srcS s h0 k = some (vc, bs, blk, m)) (hvc : vc) {M F : Imm} {ρ : Names} {h : Heap} {w : World} {u : Value} (hv : VR M ρ s u) (H : HR M F ρ h w) (hbs : ∀ p, p ∈ bs → h p.1 = some p.2) :
    SlcIn w (fun b => M b ≠ none ∨ OwnB ρ h b) m u := by
  unfold srcS at e
  split at e
  · cases e
    cases hv with | d _ _ h => cases h; exact ⟨rfl, .inl rfl⟩
  · split at e
    · cases e
      cases hv with
      | d _ _ h =>
        cases h with
        | vec0 => exact ⟨rfl, .inl rfl⟩
        | vec _ _ _ b o cap cur T fz g hb hc hg hr => exact ⟨rfl, .inr ⟨_, rfl, ⟨_, _, _, H.imm _ _ hb⟩, .inl (by show M b ≠ none; rw [hb]; simp)⟩⟩
    · cases e
  · next n o len =>
    split at e
    · next ty k' xs hn =>
      split at e
      · cases e
        cases hv with
        | sl0 => exact ⟨rfl, .inl rfl⟩
        | sl _ _ _ x hx hl hR h0' =>
          obtain ⟨_, h1, h2⟩ := own_blk H (hbs (n, .cells ty k' xs) (by simp)) (.inl ⟨_, _, _, rfl⟩) hx
          exact ⟨rfl, .inr ⟨_, rfl, h1, .inr h2⟩⟩
      · cases e
    · next ty k' L f hn =>
      split at e
      · cases e
        cases hv with
        | sl0 => exact ⟨rfl, .inl rfl⟩
        | sl _ _ _ x hx hl hR h0' =>
          refine ⟨rfl, ?_⟩
          rcases Nat.eq_zero_or_pos m with hm | hm
          · exact .inl hm
          · obtain ⟨_, h1, h2⟩ := own_blk H (hbs (n, .rows ty k' L f) (by simp)) (.inr ⟨_, _, _, _, rfl, by omega⟩) hx
            exact .inr ⟨_, rfl, h1, .inr h2⟩
      · cases e
    · cases e
  · cases e
theorem ax_append {P : Program} {S R Wr : Nat → Prop} {t ty e : TypeId} (ht : P.underlying t = some (.slice e)) {ba xa : Option Addr} {l c k xc : Nat} (hs : l = 0 ∨ ∃ ad, ba = some ad ∧ S ad.block ∧ R ad.block) (hsw : c = 0 ∨ ∃ ad, ba = some ad ∧ S ad.block ∧ Wr ad.block)
    (hx : k = 0 ∨ ∃ ad, xa = some ad ∧ S ad.block ∧ R ad.block) : Ax P S R Wr (Builtin.append_ #[t, t] ty #[.slice ba l c, .slice xa k xc]) := by
  have un : ∀ {d : TypeDesc}, (∃ w w', (underlying t).run P w = .ok d w') → d = .slice e := by
    rintro d ⟨w, w', h⟩; rw [run_underlying ht] at h; cases h; rfl
  unfold Builtin.append_
  refine .bind (Still.underlying t).ax fun d hd => ?_
  obtain rfl := un hd
  refine .bind (Still.sizeOf e).ax fun size _ => ?_
  refine .bind (Still.underlying t).ax fun d hd => ?_
  obtain rfl := un hd
  refine .bind (Still.pure _).ax fun z hz => ?_
  obtain ⟨w0, w0', hz⟩ := hz
  obtain rfl : z = false := by cases hz; rfl
  simp only [Bool.false_eq_true, if_false, Bool.not_false, if_true, false_or]
  refine .bind (Still.pure _).ax fun n hn => ?_
  obtain ⟨w1, w1', hn⟩ := hn
  obtain rfl : n = k := by cases hn; rfl
  have rest : Ax P S R Wr (do
      let newCap ← choose (.appendCap (l + n) c e)
      let i ← typeInfo e
      askRoom (newCap * i.bytes)
      let old ← Builtin.firstCells size l (.slice ba l c)
      let new ← Builtin.firstCells size n (.slice xa n xc)
      let z ← zeroValue e
      let q ← newRow e (old ++ new ++ Builtin.zeroCells z.cells (newCap - (l + n)))
      pure (.slice (some q) (l + n) newCap) : Sem Value) := by
    refine .bind (Still.choose _).ax fun _ _ => .bind (Still.typeInfo _).ax fun _ _ => .bind (Still.askRoom _).ax fun _ _ => .bind (ax_first hs) fun _ _ => .bind (ax_first hx) fun _ _ => ?_
    unfold newRow
    exact Still.ax (.bind (.zeroValue _) fun _ => .bind (.bind (.newObj _) fun _ => .pure _) fun _ => .pure _)
  have lim : Ax P S R Wr (do
      let b ← Builtin.mayShare size l n ba (.slice xa n xc)
      if (!b) = true then do
          mark Mark.noRoom
          unsupported (Unsupported.resourceLimit "append: a slice or a string whose bytes no memory bears")
        else unsupported (Unsupported.resourceLimit "append: a slice or a string whose bytes no memory bears") : Sem Unit) := by
    refine .bind (still_mayShare _ _ _ _ _).ax fun _ _ => ?_
    split
    · exact Still.ax (.bind .noRoom fun _ => .halt _)
    · exact Still.ax (.halt _)
  have step2 : Ax P S R Wr (do
      let i ← typeInfo e
      if Builtin.nextslicecap (l + n) c * i.bytes > 2 ^ 48 then do
          (do let b ← Builtin.mayShare size l n ba (.slice xa n xc)
              if (!b) = true then do
                  mark Mark.noRoom
                  unsupported (Unsupported.resourceLimit "append: a slice or a string whose bytes no memory bears")
                else unsupported (Unsupported.resourceLimit "append: a slice or a string whose bytes no memory bears") : Sem Unit)
          let newCap ← choose (.appendCap (l + n) c e)
          let i ← typeInfo e
          askRoom (newCap * i.bytes)
          let old ← Builtin.firstCells size l (.slice ba l c)
          let new ← Builtin.firstCells size n (.slice xa n xc)
          let z ← zeroValue e
          let q ← newRow e (old ++ new ++ Builtin.zeroCells z.cells (newCap - (l + n)))
          pure (.slice (some q) (l + n) newCap)
        else do
          let newCap ← choose (.appendCap (l + n) c e)
          let i ← typeInfo e
          askRoom (newCap * i.bytes)
          let old ← Builtin.firstCells size l (.slice ba l c)
          let new ← Builtin.firstCells size n (.slice xa n xc)
          let z ← zeroValue e
          let q ← newRow e (old ++ new ++ Builtin.zeroCells z.cells (newCap - (l + n)))
          pure (.slice (some q) (l + n) newCap) : Sem Value) := by
    refine .bind (Still.typeInfo _).ax fun _ _ => ?_
    split
    · exact .bind lim fun _ _ => rest
    · exact rest
  split
  · next hle =>
    refine .bind (ax_first hx) fun new hnew => ?_
    cases ba with
    | none => exact (Still.pure _).ax
    | some a =>
      dsimp only
      refine .bind ?_ fun _ _ => (Still.pure _).ax
      rcases hsw with rfl | ⟨ad, e', g1, g2⟩
      · obtain rfl : n = 0 := by omega
        obtain ⟨w2, w2', h2⟩ := hnew
        have : new = #[] := by
          change (Builtin.firstCells size 0 (.slice xa 0 xc)).run P w2 = _ at h2
          unfold Builtin.firstCells loadCells at h2
          cases xa with
          | none => cases h2; rfl
          | some xa => simp only [Nat.zero_mul] at h2; cases h2; rfl
        subst this
        exact (Still.pure _).ax
      · cases e'
        exact ax_store (by rw [add_blk]; exact g1) (by rw [add_blk]; exact g2) _ _
  · refine .bind (Still.typeInfo _).ax fun _ _ => ?_
    split
    · exact .bind (Still.runtimePanic _).ax fun _ _ => step2
    · exact step2

theorem own_pos {M F : Imm} {ρ : Names} {h : Heap} {w : World} (H : HR M F ρ h w) {n : Nat} {blk : Blk} (hn : h n = some blk) (hb : (∃ ty k xs, blk = .cells ty k xs) ∨ ∃ ty k len f, blk = .rows ty k len f) {x : Own} (hx : ρ n = some x) (h0 : 0 < x.R) :
    CellsAt w x.b ∧ OwnB ρ h x.b := by
  obtain ⟨x', hx', hr⟩ := H.live n blk hn
  rw [hx] at hx'; obtain rfl := Option.some.inj hx'
  rcases hr with ⟨h00, hg⟩ | ⟨_, _, _, o, h3, h4⟩
  · omega
  · refine ⟨?_, n, blk, x, hn, hx, h0, rfl⟩
    rcases hb with ⟨ty, k, xs, rfl⟩ | ⟨ty, k, len, f, rfl⟩ <;> cases o <;> first | exact h4.elim | exact ⟨_, _, _, h3⟩
theorem dst_addr {M F : Imm} {ρ : Names} {h : Heap} {w : World} {s : SV} {u : Value} (hv : VR M ρ s u) (H : HR M F ρ h w) (hs : s = .d .nils ∨ ∃ n len blk, s = .sl n 0 len ∧ h n = some blk ∧ ((∃ ty k xs, blk = .cells ty k xs) ∨ ∃ ty k len f, blk = .rows ty k len f)) :
    ∃ ba l c, u = .slice ba l c ∧ (l = 0 ∨ ∃ ad, ba = some ad ∧ CellsAt w ad.block ∧ OwnB ρ h ad.block) ∧ (c = 0 ∨ ∃ ad, ba = some ad ∧ CellsAt w ad.block ∧ OwnB ρ h ad.block) := by
  rcases hs with rfl | ⟨n, len, blk, rfl, hn, hb⟩
  · cases hv with | d _ _ h => cases h; exact ⟨_, _, _, rfl, .inl rfl, .inl rfl⟩
  · cases hv with
    | sl0 => exact ⟨_, _, _, rfl, .inl rfl, .inl rfl⟩
    | sl _ _ _ x hx hl hR h0 =>
      obtain ⟨h1, h2⟩ := own_pos H hn hb hx h0
      exact ⟨_, _, _, rfl, .inr ⟨_, rfl, h1, h2⟩, .inr ⟨_, rfl, h1, h2⟩⟩
theorem append_ev {C : Ctx} {o : Oper} {nm : Nat} {v : Operand → SV} {h : Heap} {x : Out} {t : TypeId} {a b : Operand} (ho : o.op = .call { callee := .builtin .append, args := #[a, b], argTypes := #[t, t] }) (e : appendS C.P nm t (v a) (v b) h = some x) (hvc : x.1) : OpEv C o v x.2.1 := by
  have ma : a ∈ o.op.operands := by rw [ho]; simp [Op.operands, Call.operands]
  have mb : b ∈ o.op.operands := by rw [ho]; simp [Op.operands, Call.operands]
  have core : ∀ (el : TypeId) (bs bs' : List (Nat × Blk)) (vc : Prop) (k : Nat) (sb : Blk) (m : Nat), C.P.underlying t = some (.slice el) → srcS (v b) h k = some (vc, bs, sb, m) → vc → (∀ p, p ∈ bs → p ∈ bs') →
      (v a = .d .nils ∨ ∃ n len blk, v a = .sl n 0 len ∧ (n, blk) ∈ bs' ∧ ((∃ ty k xs, blk = .cells ty k xs) ∨ ∃ ty k len f, blk = .rows ty k len f)) → OpEv C o v bs' := by
    intro el bs bs' vc k sb m hel hsrc hvc hbs' hdst
    refine opEv_at fun M F ρ a' h' w hv hH hbs => ?_
    have h1 := src_addr hsrc hvc (hv b mb) hH (fun p hp => hbs p (hbs' p hp))
    obtain ⟨ba, l, c, q1, q2, q3⟩ := dst_addr (hv a ma) hH (hdst.imp id fun ⟨n, len, blk, g1, g2, g3⟩ => ⟨n, len, blk, g1, hbs _ g2, g3⟩)
    have ev : execOp a'.eval o = (do let x ← Builtin.append_ #[t, t] o.type #[a'.eval a, a'.eval b]; pure (Next.value x) : Sem Next) := by
      unfold execOp
      rw [ho]
      simp only [resolve, invoke, builtin, List.map_toArray, List.map_cons, List.map_nil]
      rfl
    rw [ev]
    generalize hqb : a'.eval b = qb at h1
    cases qb with
    | slice xa xl xc =>
      obtain ⟨rfl, h1⟩ := h1
      rw [q1]
      refine .bind ((ax_append (S := CellsAt w) hel (q2.imp id fun ⟨ad, g1, g2, g3⟩ => ⟨ad, g1, g2, .inr g3⟩) q3 h1).at_ w fun b hb => hb) fun _ _ _ => (Still.pure _).at
    | _ => exact h1.elim
  unfold appendS at e
  split at e
  · next el hel =>
    split at e
    · split at e
      · next vc bs sb m hsrc =>
        split at e
        · split at e
          · next hdst =>
            split at e
            · cases e; exact core el bs bs vc _ _ m hel hsrc hvc.1 (fun _ h => h) (.inl hdst)
            · split at e
              · cases e; exact core el bs bs vc _ _ m hel hsrc hvc.1 (fun _ h => h) (.inl hdst)
              · cases e
            · cases e
          · next n len hdst =>
            split at e
            · next ty k' xs hn =>
              split at e
              · split at e
                · cases e; exact core el bs _ vc _ _ m hel hsrc hvc.1 (fun _ h => List.mem_cons_of_mem _ h) (.inr ⟨n, len, _, hdst, List.mem_cons_self .., .inl ⟨_, _, _, rfl⟩⟩)
                · cases e
              · cases e
            · next ty k' L f hn =>
              split at e
              · split at e
                · cases e; exact core el bs _ vc _ _ m hel hsrc hvc.2.1 (fun _ h => List.mem_cons_of_mem _ h) (.inr ⟨n, len, _, hdst, List.mem_cons_self .., .inr ⟨_, _, _, _, rfl⟩⟩)
                · cases e
              · cases e
            · cases e
          · cases e
        · cases e
      · cases e
    · cases e
  · cases e

/- the rest -/
theorem still_binInt {P : Program} (op : BinOp) (t : TypeId) (x y : Operand) (k k' : IntKind) (a b : Int) : Still P (do eqGuard op t x y (.int k a) (.int k' b); binOp op t (.int k a) (.int k' b) : Sem Value) := by
  refine .bind ?_ fun _ => ?_
  · unfold eqGuard
    cases op <;> exact .pure _
  · unfold binOp
    cases op <;> simp only [] <;> (repeat (first | split | exact .halt _ | exact .pure _ | (unfold Op.shift) | (unfold Op.intArith) | (unfold Op.intDiv) | (unfold Op.intBits) | (unfold Op.intCmp) | exact .runtimePanic _))
theorem bin_ev {C : Ctx} {o : Oper} {v : Operand → SV} {bs : List (Nat × Blk)} {op : BinOp} {ty ty' : TypeId} {y z : Operand} {k k' : IntKind} {a b : Int} (ho : o.op = .binOp op ty y z ty') (hy : v y = .d (.val (.int k a))) (hz : v z = .d (.val (.int k' b))) : OpEv C o v bs := by
  refine opEv_still fun M F ρ a' h w hv _ _ => ?_
  have e1 := hv y (by rw [ho]; exact mem_ops2 (.inl rfl)); rw [hy] at e1
  have e2 := hv z (by rw [ho]; exact mem_ops2 (.inr rfl)); rw [hz] at e2
  unfold execOp
  rw [ho]
  dsimp only
  rw [e1.val, e2.val]
  exact .bind (still_binInt op ty y z k k' a b) fun _ => .pure _

/-- The operations that are borne beside others. -/
def evOK (v : Operand → SV) (o : Oper) : Bool :=
  match o.op with
  | .slice .. | .makeMap .. => false
  | .call ⟨.builtin .len, ⟨[y]⟩, ⟨[_]⟩⟩ => match v y with | .map _ => false | _ => true
  | .convert _ _ y => match v y with | .d (.val (.string _)) => false | _ => true
  | .binOp .eql _ _ (.const (.slice none 0 0)) _ | .binOp .neq _ _ (.const (.slice none 0 0)) _ => false
  | _ => true
def sopC (C : Ctx) (nm : Nat) (o : Oper) (v : Operand → SV) (h : Heap) : Option Out := bif evOK v o then sop C nm o v h else none

theorem sop_ev {C : Ctx} {nm : Nat} {o : Oper} {v : Operand → SV} {h : Heap} {x : Out} (e : sop C nm o v h = some x) (hev : evOK v o = true) (hvc : x.1) : OpEv C o v x.2.1 ∧ OpVal C o v x.2.1 := by
  have pl : plainOp o.op = true → OpEv C o v x.2.1 → OpEv C o v x.2.1 ∧ OpVal C o v x.2.1 := fun h1 h2 => ⟨h2, OpVal.plain h1⟩
  have sl : ∀ {s : Sem Value}, (∀ a : Act, ∃ s : Sem Value, execOp a.eval o = (do let x ← s; pure (Next.value x) : Sem Next) ∧ Still C.P s) → OpEv C o v x.2.1 := by
    intro _ hs
    refine opEv_still fun M F ρ a' h w hv _ _ => ?_
    obtain ⟨s, h1, h2⟩ := hs a'
    rw [h1]; exact .bind h2 fun _ => .pure _
  unfold sop at e
  split at e
  · next y ho => exact pl (by rw [ho]; rfl) (opEv_still fun M F ρ a' h w hv _ _ => by unfold execOp; rw [ho]; exact .pure _)
  · next y ho => exact pl (by rw [ho]; rfl) (opEv_still fun M F ρ a' h w hv _ _ => by unfold execOp; rw [ho]; exact .pure _)
  · next c a b ho => exact pl (by rw [ho]; rfl) (opEv_still fun M F ρ a' h w hv _ _ => by
      unfold execOp; rw [ho]
      refine .bind ?_ fun _ => ?_
      · unfold asBool; split <;> first | exact .pure _ | exact .halt _
      · exact .pure _)
  · next t ho => exact pl (by rw [ho]; rfl) (sl (s := pure undef) fun a => ⟨_, by unfold execOp; rw [ho], still_alloc t⟩)
  · next t y ho => exact pl (by rw [ho]; rfl) (sl (s := pure undef) fun a => ⟨_, by unfold execOp; rw [ho], still_box t _⟩)
  · next t ps ho => exact pl (by rw [ho]; rfl) (sl (s := pure undef) fun a => ⟨_, by unfold execOp; rw [ho], still_build t _⟩)
  · next t ho => exact pl (by rw [ho]; rfl) (sl (s := pure undef) fun a => ⟨_, by unfold execOp; rw [ho], still_buildSlice t _ _⟩)
  · next t len ps _ ho => exact pl (by rw [ho]; rfl) (sl (s := pure undef) fun a => ⟨_, by unfold execOp; rw [ho], still_buildSlice t _ _⟩)
  · next ho => exact pl (by rw [ho]; rfl) (loadOp_ev ho e hvc)
  · next ho => exact pl (by rw [ho]; rfl) (storeS_ev ho e hvc)
  · next y ho =>
    refine pl (by rw [ho]; rfl) (opEv_still fun M F ρ a' h w hv _ _ => ?_)
    have hy := hv y (by rw [ho]; exact mem_ops1)
    unfold nilCheckS at e
    split at e
    · next he => rw [he] at hy; generalize hq : a'.eval y = q at hy; cases hy; unfold execOp; rw [ho]; simp only [hq]; exact .pure _
    · next he => rw [he] at hy; generalize hq : a'.eval y = q at hy; cases hy; unfold execOp; rw [ho]; simp only [hq]; exact .pure _
    · next he => rw [he] at hy; generalize hq : a'.eval y = q at hy; cases hy; unfold execOp; rw [ho]; simp only [hq]; exact .pure _
    · cases e
  · next t y f ho =>
    refine pl (by rw [ho]; rfl) fun M F ρ a' h w hv _ _ ev he => ?_
    exfalso
    have hh : ∀ fs (d : Field), C.P.underlying t = some (.struct fs) → fs[f]? = some d → ∃ i, C.P.info? d.type = some i ∧ 0 < i.size := by
      unfold fieldAddrS at e
      split at e
      · next fs hfs =>
        split at e
        · next fd hfd =>
          split at e
          · next i hi =>
            split at e
            · next hp =>
              intro fs' d h1 h2
              rw [hfs] at h1; cases h1
              rw [Array.getElem?_toList, h2] at hfd; cases hfd
              exact ⟨i, hi, by simpa using hp⟩
            · cases e
          · cases e
        · cases e
      · cases e
    have hev : execOp a'.eval o = (do let x ← Instr.fieldAt t (a'.eval y) f; pure (Next.value x) : Sem Next) := by unfold execOp; rw [ho]
    rw [hev, Sem.events_bind] at he
    have hf := still_fieldAt t (a'.eval y) f hh w #[] ev
    revert he
    cases (Instr.fieldAt t (a'.eval y) f).run C.P w with
    | ok x w' => intro he; exact absurd (hf he) (by simp)
    | halt x w' => intro he; exact absurd (hf he) (by simp)
  · next t y f ho => exact pl (by rw [ho]; rfl) (sl (s := pure undef) fun a => ⟨_, by unfold execOp; rw [ho], still_field t _ f⟩)
  · next t y ix ho => exact pl (by rw [ho]; rfl) (sl (s := pure undef) fun a => ⟨_, by unfold execOp; rw [ho], still_indexAt t _ _⟩)
  · next t y ix ho => exact pl (by rw [ho]; rfl) (sl (s := pure undef) fun a => ⟨_, by unfold execOp; rw [ho], still_index t _ _⟩)
  · next ho => simp [evOK, ho] at hev
  · next ho => exact pl (by rw [ho]; rfl) (opEv_still fun M F ρ a' h w hv _ _ => by unfold execOp; rw [ho]; exact .bind (.pure _) fun _ => .pure _)
  · next ho => simp [evOK, ho] at hev
  · next t l c ho => exact pl (by rw [ho]; rfl) (sl (s := pure undef) fun a => ⟨_, by unfold execOp; rw [ho], still_makeSlice t _ _⟩)
  · next y i ho => exact pl (by rw [ho]; rfl) (sl (s := pure undef) fun a => ⟨_, by unfold execOp; rw [ho], by
      unfold Instr.extract
      repeat (first | exact .pure _ | exact .halt _ | split)⟩)
  · next y t ho =>
    refine pl (by rw [ho]; rfl) (opEv_still fun M F ρ a' h w hv _ _ => ?_)
    have hy := hv y (by rw [ho]; simp [Op.operands, Call.operands])
    have hm : ∀ r, a'.eval y ≠ .map r ∧ a'.eval y ≠ .chan r := by
      intro r
      unfold lenS at e
      split at e
      · next he => rw [he] at hy; cases hy with | d _ _ h => generalize a'.eval y = q at h; cases h; exact ⟨by simp, by simp⟩
      · next he => rw [he] at hy; cases hy with | d _ _ h => generalize a'.eval y = q at h; cases h <;> exact ⟨by simp, by simp⟩
      · next he => rw [he] at hy; generalize a'.eval y = q at hy; cases hy <;> exact ⟨by simp, by simp⟩
      · next he => rw [he] at hy; rw [hy.val]; exact ⟨by simp, by simp⟩
      · next n hu he => simp [evOK, ho, he] at hev
      · cases e
    have ev : execOp a'.eval o = (do let x ← Builtin.len_ #[t] o.type #[a'.eval y]; pure (Next.value x) : Sem Next) := by unfold execOp; rw [ho]; simp only [resolve, invoke, builtin, List.map_toArray, List.map_cons, List.map_nil]; rfl
    rw [ev]
    refine .bind ?_ fun _ => .pure _
    unfold Builtin.len_
    refine .bind (.underlying _) fun d => ?_
    generalize hq : (#[a'.eval y] : Array Value)[0] = q
    have hq' : a'.eval y = q := hq
    rw [hq'] at hm
    cases q with
    | map r => exact absurd rfl (hm r).1
    | chan r => exact absurd rfl (hm r).2
    | _ => cases d <;> (repeat (first | exact .pure _ | exact .halt _ | exact .underlying _ | (refine .bind (.underlying _) fun _ => ?_) | split))
  · next a b t t' ho =>
    split at e
    · next ht => have ht := Nat.eq_of_beq_eq_true ht; subst ht; exact pl (by rw [ho]; rfl) (append_ev ho e hvc)
    · cases e
  · next y z ts ho =>
    refine pl (by rw [ho]; rfl) (opEv_still fun M F ρ a' h w hv _ _ => ?_)
    have e1 := hv y (by rw [ho]; simp [Op.operands, Call.operands])
    have e2 := hv z (by rw [ho]; simp [Op.operands, Call.operands])
    unfold minS at e
    split at e
    · next k a k' b hy hz =>
      rw [hy] at e1; rw [hz] at e2
      have ev : execOp a'.eval o = (do let x ← Builtin.min_ ts o.type #[a'.eval y, a'.eval z]; pure (Next.value x) : Sem Next) := by unfold execOp; rw [ho]; simp only [resolve, invoke, builtin, List.map_toArray, List.map_cons, List.map_nil]; rfl
      rw [ev, e1.val, e2.val]
      simp only [Builtin.min_, List.foldlM_cons, List.foldlM_nil, Builtin.min2]
      exact .bind (.bind (.pure _) fun _ => .pure _) fun _ => .pure _
    · cases e
  · next y z ts ho =>
    refine pl (by rw [ho]; rfl) (opEv_still fun M F ρ a' h w hv _ _ => ?_)
    have e1 := hv y (by rw [ho]; simp [Op.operands, Call.operands])
    have e2 := hv z (by rw [ho]; simp [Op.operands, Call.operands])
    unfold maxS at e
    split at e
    · next k a k' b hy hz =>
      rw [hy] at e1; rw [hz] at e2
      have ev : execOp a'.eval o = (do let x ← Builtin.max_ ts o.type #[a'.eval y, a'.eval z]; pure (Next.value x) : Sem Next) := by unfold execOp; rw [ho]; simp only [resolve, invoke, builtin, List.map_toArray, List.map_cons, List.map_nil]; rfl
      rw [ev, e1.val, e2.val]
      simp only [Builtin.max_, List.foldlM_cons, List.foldlM_nil, Builtin.max2]
      exact .bind (.bind (.pure _) fun _ => .pure _) fun _ => .pure _
    · cases e
  · next ho => simp [evOK, ho] at hev
  · next ho => simp [evOK, ho] at hev
  · next src dst y ho =>
    split at e
    · next x' hx' =>
      exfalso
      unfold strBytesS at hx'
      split at hx'
      · split at hx'
        · split at hx'
          · next s hy => simp [evOK, ho, hy] at hev
          · cases hx'
        · cases hx'
      · cases hx'
    · exact pureS_ev e
  · next t y z t' _ ho =>
    refine pl (by rw [ho]; rfl) ?_
    unfold divS at e
    split at e
    · next hy hz => exact bin_ev ho hy hz
    · cases e
  · next t y z t' _ ho =>
    refine pl (by rw [ho]; rfl) ?_
    unfold divS at e
    split at e
    · next hy hz => exact bin_ev ho hy hz
    · cases e
  · next t y z t' ho =>
    refine pl (by rw [ho]; rfl) ?_
    unfold shiftS at e
    split at e
    · next hy hz => exact bin_ev ho hy hz
    · cases e
  · next t y z t' ho =>
    refine pl (by rw [ho]; rfl) ?_
    unfold shiftS at e
    split at e
    · next hy hz => exact bin_ev ho hy hz
    · cases e
  · exact pureS_ev e
theorem sopC_ok {C : Ctx} {nm : Nat} {o : Oper} {v : Operand → SV} {h : Heap} {x : Out} (e : sopC C nm o v h = some x) (hvc : x.1) :
    OpOK C o nm v x.2.1 (fun u wr => u = x.2.2.1 ∧ wr = x.2.2.2) ∧ (∀ p, p ∈ x.2.1 → h p.1 = some p.2) ∧ keysIn x.2.1 nm x.2.2.2 = true := by
  unfold sopC at e
  cases hev : evOK v o with
  | false => rw [hev] at e; cases e
  | true =>
    rw [hev] at e
    obtain ⟨h1, h2, h3⟩ := sop_ok e hvc
    obtain ⟨g1, g2⟩ := sop_ev e hev hvc
    exact ⟨.of h1 g2 g1, h2, h3⟩

/- comparisons of structs -/
section
variable {P : Program} {R Wr : Nat → Prop}
theorem at_forIn {α β : Type} {body : α → β → Sem (ForInStep β)} : ∀ (l : List α), (∀ a, a ∈ l → ∀ acc w, At P R Wr (body a acc) w) → ∀ (acc : β) (w : World), At P R Wr (forIn l acc body) w
  | [], _, acc, w => by rw [List.forIn_nil]; exact (Still.pure _).at
  | a :: l, h, acc, w => by
    rw [List.forIn_cons]
    refine .bind (h a (List.mem_cons_self ..) acc w) fun s w' _ => ?_
    cases s with
    | done b => exact (Still.pure _).at
    | yield b => exact at_forIn l (fun x hx => h x (List.mem_cons_of_mem _ hx)) b w'
/-- A value without addresses. -/
def flatV : Value → Bool
  | .int .. | .string _ | .bool _ => true
  | _ => false
theorem still_equalIn (d : Nat) (t : TypeId) {x y : Value} (hx : flatV x = true) (hy : flatV y = true) : Still P (Op.equalIn (d + 1) t x y) := by
  unfold Op.equalIn
  refine .bind (.underlying t) fun e => ?_
  cases x <;> first | (cases hx; done) | skip
  all_goals
    cases y <;> first | (cases hy; done) | skip
  all_goals
    cases e <;> (repeat (first | exact .pure _ | exact .halt _ | contradiction | (simp at *; done) | split))
theorem eqSV_flat {M : Imm} {ρ : Names} {xs ys : List SV} {us vs : Array Value} (hx : RL M ρ xs us) (hy : RL M ρ ys vs) : ∀ (fs : List Field) (b : Bool), eqSV P xs ys fs = some b → ∀ f, f ∈ fs → f.name ≠ "_" →
    ∃ u v, isAggB P f.type = some false ∧ us[f.offset]? = some u ∧ vs[f.offset]? = some v ∧ flatV u = true ∧ flatV v = true
  | [], b, h, f, hf, _ => by cases hf
  | g :: fs, b, h, f, hf, hn => by
    simp only [eqSV] at h
    by_cases hg : g.name ≠ "_"
    · rw [if_pos hg] at h
      have rest : ∀ {b'}, eqSV P xs ys fs = some b' → f ≠ g → ∃ u v, isAggB P f.type = some false ∧ us[f.offset]? = some u ∧ vs[f.offset]? = some v ∧ flatV u = true ∧ flatV v = true := fun h' hne =>
        eqSV_flat hx hy fs _ h' f ((List.mem_cons.1 hf).resolve_left hne) hn
      have one : ∀ {u v : Value} (td : TypeDesc), P.underlying g.type = some td → (∀ fs, td ≠ .struct fs) → (∀ n e, td ≠ .array n e) → xs[g.offset]? = some (.d (.val u)) → ys[g.offset]? = some (.d (.val v)) → flatV u = true → flatV v = true → f = g →
          ∃ u v, isAggB P f.type = some false ∧ us[f.offset]? = some u ∧ vs[f.offset]? = some v ∧ flatV u = true ∧ flatV v = true := by
        rintro u v td hd hns hna h1 h2 f1 f2 rfl
        obtain ⟨q1, a1, a2⟩ := hx.2 _ _ h1
        obtain ⟨q2, b1, b2⟩ := hy.2 _ _ h2
        rw [a2.val] at a1; rw [b2.val] at b1
        refine ⟨u, v, ?_, a1, b1, f1, f2⟩
        unfold isAggB; rw [hd]
        cases td <;> first | rfl | (exact absurd rfl (hns _)) | (exact absurd rfl (hna _ _))
      split at h
      · next k0 k a k' b' hu h1 h2 =>
        split at h
        · obtain ⟨r, hr, _⟩ := Option.map_eq_some_iff.1 h
          by_cases e : f = g
          · exact one _ hu (by simp) (by simp) h1 h2 rfl rfl e
          · exact rest hr e
        · cases h
      · next a b' hu h1 h2 =>
        obtain ⟨r, hr, _⟩ := Option.map_eq_some_iff.1 h
        by_cases e : f = g
        · exact one _ hu (by simp) (by simp) h1 h2 rfl rfl e
        · exact rest hr e
      · next a b' hu h1 h2 =>
        obtain ⟨r, hr, _⟩ := Option.map_eq_some_iff.1 h
        by_cases e : f = g
        · exact one _ hu (by simp) (by simp) h1 h2 rfl rfl e
        · exact rest hr e
      · cases h
    · rw [if_neg hg] at h
      have hne : f ≠ g := by rintro rfl; exact hg hn
      exact eqSV_flat hx hy fs b h f ((List.mem_cons.1 hf).resolve_left hne) hn
theorem at_equal {M : Imm} {ρ : Names} {xs ys : List SV} {us vs : Array Value} (hx : RL M ρ xs us) (hy : RL M ρ ys vs) {t : TypeId} {fs : Array Field} (hfs : P.underlying t = some (.struct fs)) {b : Bool} (hb : eqSV P xs ys fs.toList = some b) (w : World) : At P R Wr (Op.equal t (.agg us) (.agg vs)) w := by
  unfold Op.equal Op.maxDepth
  rw [show (10000 : Nat) = 9998 + 1 + 1 from rfl]
  unfold Op.equalIn
  refine .bind (Still.underlying t).at fun d w1 h1 => ?_
  rw [run_underlying hfs] at h1
  cases h1
  dsimp only
  refine .bind Still.program.at fun p w2 h2 => ?_
  cases h2
  have hp : ∀ (f : Field) (cs : Array Value) (z : Value), isAggB P f.type = some false → cs[f.offset]? = some z → ∀ w, (part f.type cs f.offset).run P w = .ok z w := by
    intro f cs z h0 hz w
    simp [part, run_isAgg h0, hz]
  split
  · exact .bind (Still.halt _).at fun _ w' h => by simp only [unsupported, Sem.run] at h; cases h
  · refine .bind ?_ fun s w' _ => ?_
    · rw [← Array.forIn_toList]
      refine at_forIn _ (fun f hf acc w => ?_) _ w
      split
      · next hn =>
        obtain ⟨u, v, h0, h1, h2, h3, h4⟩ := eqSV_flat hx hy fs.toList b hb f hf hn
        refine .bind (Still.part _ _ _).at fun x w1 e1 => ?_
        rw [hp f us u h0 h1] at e1; cases e1
        refine .bind (Still.part _ _ _).at fun y w1 e1 => ?_
        rw [hp f vs v h0 h2] at e1; cases e1
        refine .bind (still_equalIn 9998 f.type h3 h4).at fun r w1 _ => ?_
        split <;> exact (Still.pure _).at
      · exact (Still.pure _).at
    · split <;> exact (Still.pure _).at
theorem structEq_okC {C : Ctx} {o : Oper} {nm : Nat} {v : Operand → SV} {op : BinOp} {t t' : TypeId} {y z : Operand} (ho : o.op = .binOp op t y z t') {xs ys : List SV} (hy : v y = .agg xs) (hz : v z = .agg ys) {fs : Array Field}
    (hfs : C.P.underlying t = some (.struct fs)) (hp : C.P.stoodInHeld t = false) (hm : C.P.eqGuardType C.P.depth t = false) {b : Bool} (hb : eqSV C.P xs ys fs.toList = some b) {r : Bool} (hop : (op = .eql ∧ r = b) ∨ (op = .neq ∧ r = !b)) :
    OpOK C o nm v [] (fun x w => x = SV.b r ∧ w = []) := by
  refine .of (structEq_ok ho hy hz hfs hp hm hb hop) (OpVal.plain (by rw [ho]; rfl)) (opEv_at fun M F ρ a h w hv hH _ => ?_)
  have e1 := hv y (by rw [ho]; exact mem_ops2 (.inl rfl)); rw [hy] at e1
  have e2 := hv z (by rw [ho]; exact mem_ops2 (.inr rfl)); rw [hz] at e2
  obtain ⟨us, q1, r1⟩ := agg_case e1
  obtain ⟨vs, q2, r2⟩ := agg_case e2
  unfold execOp
  rw [ho]
  dsimp only
  rw [q1, q2]
  have hg : At C.P (fun b => M b ≠ none ∨ OwnB ρ h b) (fun b => OwnB ρ h b) (eqGuard op t y z (.agg us) (.agg vs)) w := by
    rcases hop with ⟨rfl, _⟩ | ⟨rfl, _⟩ <;>
    · unfold eqGuard
      simp only [Bool.not_true, Bool.false_eq_true, if_false]
      refine .bind Still.program.at fun p w1 h1 => ?_
      cases h1
      refine .bind Still.program.at fun p w1 h1 => ?_
      cases h1
      rw [hm]
      exact (Still.pure _).at
  refine .bind (.bind hg fun _ w1 _ => ?_) fun _ _ _ => (Still.pure _).at
  rcases hop with ⟨rfl, _⟩ | ⟨rfl, _⟩
  · simp only [binOp]
    exact .bind (at_equal r1 r2 hfs hb w1) fun _ _ _ => (Still.pure _).at
  · simp only [binOp]
    exact .bind (at_equal r1 r2 hfs hb w1) fun _ _ _ => (Still.pure _).at
end

end Go.Proofs.YtpdojmebloekgaaDoor.Nice.Co
