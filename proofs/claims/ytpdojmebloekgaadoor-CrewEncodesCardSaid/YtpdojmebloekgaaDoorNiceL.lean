/- More rules for walks: numbers in range, loops, ways that meet, answers. -/
import Derived.Test.YtpdojmebloekgaaDoorNiceK
import Derived.IntWalk
namespace Go.Proofs.YtpdojmebloekgaaDoor.Nice
open Go
set_option linter.unusedVariables false

def inRange (n : Int) : Prop := -9223372036854775808 ≤ n ∧ n ≤ 9223372036854775807
theorem wrap_in {n : Int} (h : inRange n) : IntKind.i64.wrap n = n := by rw [IntKind.wrap_i64]; unfold inRange at h; omega

def arith : BinOp → Int → Int → Option Int
  | .add, a, b => some (a + b)
  | .sub, a, b => some (a - b)
  | .mul, a, b => some (a * b)
  | _, _, _ => none
theorem arith_ok {C : Ctx} {o : Oper} {nm : Nat} {v : Operand → SV} {op : BinOp} {ty ty' : TypeId} {y z : Operand} {a b r : Int} (ho : o.op = .binOp op ty y z ty') (hy : (v y).hd = some (SV.i a)) (hz : (v z).hd = some (SV.i b)) (hr : arith op a b = some r) (hin : inRange r) :
    OpOK C o nm v [] (fun x w => x = SV.i r ∧ w = []) := by
  have hy := SV.hd_eq hy
  have hz := SV.hd_eq hz
  refine ok_pure fun M F ρ a' h w hv hH _ => ⟨.int .i64 r, ?_, .d _ _ (.val _ rfl)⟩
  have e1 := hv y (by rw [ho]; exact mem_ops2 (.inl rfl)); rw [hy] at e1
  have e2 := hv z (by rw [ho]; exact mem_ops2 (.inr rfl)); rw [hz] at e2
  have hw := wrap_in hin
  cases op <;> simp only [arith, Option.some.injEq] at hr <;> first | (cases hr; done) | (subst hr; simp [execOp, ho, e1.val, e2.val, eqGuard, binOp, Op.intArith, hw])

def divPos : BinOp → Int → Int → Option Int
  | .quo, a, b => some (a / b)
  | .rem, a, b => some (a % b)
  | _, _, _ => none
theorem divPos_ok {C : Ctx} {o : Oper} {nm : Nat} {v : Operand → SV} {op : BinOp} {ty ty' : TypeId} {y z : Operand} {a b r : Int} (ho : o.op = .binOp op ty y z ty') (hy : (v y).hd = some (SV.i a)) (hz : (v z).hd = some (SV.i b)) (hr : divPos op a b = some r) (hin : 0 ≤ a ∧ a ≤ 9223372036854775807 ∧ 0 < b) :
    OpOK C o nm v [] (fun x w => x = SV.i r ∧ w = []) := by
  have hy := SV.hd_eq hy
  have hz := SV.hd_eq hz
  obtain ⟨h1, h2, h3⟩ := hin
  refine ok_pure fun M F ρ a' h w hv hH _ => ⟨.int .i64 r, ?_, .d _ _ (.val _ rfl)⟩
  have e1 := hv y (by rw [ho]; exact mem_ops2 (.inl rfl)); rw [hy] at e1
  have e2 := hv z (by rw [ho]; exact mem_ops2 (.inr rfl)); rw [hz] at e2
  have hb : b ≠ 0 := by omega
  have q1 : a.tdiv b = a / b := Int.tdiv_eq_ediv_of_nonneg h1
  have q2 : a.tmod b = a % b := Int.tmod_eq_emod_of_nonneg h1
  have q3 : IntKind.i64.wrap (a / b) = a / b := by
    refine wrap_in ⟨?_, ?_⟩
    · have := Int.ediv_nonneg h1 (Int.le_of_lt h3); omega
    · have := Int.ediv_le_self b h1; omega
  cases op <;> simp only [divPos, Option.some.injEq] at hr <;> first | (cases hr; done) | (subst hr; simp [execOp, ho, e1.val, e2.val, eqGuard, binOp, Op.intDiv, hb, q1, q2, q3])

section
variable {C : Ctx} {ops : List Oper} {i : Nat} {o : Oper} {l : List Oper} {t : Nat → SV} {h h' : Heap} {nx : Nat} {K : St → Prop} {acc : List FP}
theorem sA {op : BinOp} {ty ty' : TypeId} {y z : Operand} {a b r : Int} (d nm i' : Nat) (hi : i + 1 = i') (hnm : nx + 8 * i = nm) (hg : o.guard = none) (hdst : o.dst = some d) (hd : Nat.blt d C.sz = true) (ho : o.op = .binOp op ty y z ty')
    (hy : (opv C t y).hd = some (SV.i a)) (hz : (opv C t z).hd = some (SV.i b)) (hr : arith op a b = some r) (hin : inRange r) (k : wops C ops i' l ⟨upd t d (SV.i r), h, nx⟩ none K) : wops C ops i (o :: l) ⟨t, h, nx⟩ none K := by
  subst hi; subst hnm
  refine st_ok (σ := ⟨t, h, nx⟩) hg (by unfold dstOK; rw [hdst]; exact hd) (arith_ok ho hy hz hr hin) (fun p hp => by cases hp) rfl ?_
  unfold St.app; rw [hdst]; exact k
theorem dA {op : BinOp} {ty ty' : TypeId} {y z : Operand} {a b r : Int} (d nm i' : Nat) (hi : i + 1 = i') (hnm : nx + 8 * i = nm) (hg : o.guard = none) (hdst : o.dst = some d) (hd : Nat.blt d C.sz = true) (ho : o.op = .binOp op ty y z ty')
    (hy : (opv C t y).hd = some (SV.i a)) (hz : (opv C t z).hd = some (SV.i b)) (hr : arith op a b = some r) (hin : inRange r) (k : wops C ops i' l ⟨upd t d (SV.i r), h, nx⟩ (some (acc ++ [([], [])])) K) : wops C ops i (o :: l) ⟨t, h, nx⟩ (some acc) K := by
  subst hi; subst hnm
  refine st_ok (σ := ⟨t, h, nx⟩) hg (by unfold dstOK; rw [hdst]; exact hd) (arith_ok ho hy hz hr hin) (fun p hp => by cases hp) rfl ?_
  unfold St.app; rw [hdst]; exact k
theorem sD {op : BinOp} {ty ty' : TypeId} {y z : Operand} {a b r : Int} (d nm i' : Nat) (hi : i + 1 = i') (hnm : nx + 8 * i = nm) (hg : o.guard = none) (hdst : o.dst = some d) (hd : Nat.blt d C.sz = true) (ho : o.op = .binOp op ty y z ty')
    (hy : (opv C t y).hd = some (SV.i a)) (hz : (opv C t z).hd = some (SV.i b)) (hr : divPos op a b = some r) (hin : 0 ≤ a ∧ a ≤ 9223372036854775807 ∧ 0 < b) (k : wops C ops i' l ⟨upd t d (SV.i r), h, nx⟩ none K) : wops C ops i (o :: l) ⟨t, h, nx⟩ none K := by
  subst hi; subst hnm
  refine st_ok (σ := ⟨t, h, nx⟩) hg (by unfold dstOK; rw [hdst]; exact hd) (divPos_ok ho hy hz hr hin) (fun p hp => by cases hp) rfl ?_
  unfold St.app; rw [hdst]; exact k
theorem dD {op : BinOp} {ty ty' : TypeId} {y z : Operand} {a b r : Int} (d nm i' : Nat) (hi : i + 1 = i') (hnm : nx + 8 * i = nm) (hg : o.guard = none) (hdst : o.dst = some d) (hd : Nat.blt d C.sz = true) (ho : o.op = .binOp op ty y z ty')
    (hy : (opv C t y).hd = some (SV.i a)) (hz : (opv C t z).hd = some (SV.i b)) (hr : divPos op a b = some r) (hin : 0 ≤ a ∧ a ≤ 9223372036854775807 ∧ 0 < b) (k : wops C ops i' l ⟨upd t d (SV.i r), h, nx⟩ (some (acc ++ [([], [])])) K) : wops C ops i (o :: l) ⟨t, h, nx⟩ (some acc) K := by
  subst hi; subst hnm
  refine st_ok (σ := ⟨t, h, nx⟩) hg (by unfold dstOK; rw [hdst]; exact hd) (divPos_ok ho hy hz hr hin) (fun p hp => by cases hp) rfl ?_
  unfold St.app; rw [hdst]; exact k
/-- A slot's value written otherwise. -/
theorem val {A : Option (List FP)} (s : Nat) (u : SV) {u0 : SV} (hs : (t s).hd = some u0) (hu : u0 = u) (k : wops C ops i l ⟨upd t s u, h, nx⟩ A K) : wops C ops i l ⟨t, h, nx⟩ A K := by
  have same : upd t s u = t := by
    funext n; rw [upd_eq]; split
    · next e => subst e; rw [SV.hd_eq hs, hu]
    · rfl
  rw [← same]; exact k
/-- A block's contents written otherwise. -/
theorem hval {A : Option (List FP)} (n : Nat) (b : Blk) (hs : h n = some b) (b' : Blk) (hb : b = b') (k : wops C ops i l ⟨t, upd h n (some b'), nx⟩ A K) : wops C ops i l ⟨t, h, nx⟩ A K := by
  have same : upd h n (some b') = h := by
    funext m; rw [upd_eq]; split
    · next e => subst e; rw [hs, hb]
    · rfl
  rw [← same]; exact k
end

section
variable {C : Ctx} {Q : Exit → St → Prop} {σ : St}
theorem loop {c : Code} {t : Nat → SV} {h : Heap} {nx : Nat} {α : Type} (m : Nat) (tl : α → List (Nat × SV)) (hl : α → List (Option Blk)) (I : α → Prop) (μ : α → Nat) (x0 : α) (π : List Nat) (hm : ∀ x, (hl x).length = m)
    (h0 : I x0) (hok : (Nat.beq π.length (hl x0).length && (nodupB π && (pinOk C.m π && (tUnder (hl x0).length (tl x0) && hUnder (hl x0).length (hl x0))))) = true) (ht : tSub π t (tl x0)) (hh : hSub π π h (hl x0))
    (round : ∀ x, I x → W C c (thenQ (fun σ' => ∃ x' π, I x' ∧ μ x' < μ x ∧ Sub C π σ' (tl x') (hl x')) Q) ⟨tOf (tl x), hOf (hl x), m⟩) : W C (.loop c) Q ⟨t, h, nx⟩ := by
  refine W_loop tl hl I μ x0 π h0 ⟨hok, ht, hh⟩ fun x hx => ?_
  have := round x hx
  rw [← hm x] at this
  exact this
/-- The back edge. -/
theorem again {t : Nat → SV} {h : Heap} {nx : Nat} {α : Type} {tl : α → List (Nat × SV)} {hl : α → List (Option Blk)} {I : α → Prop} {μ : α → Nat} {x : α} (x' : α) (π : List Nat) (h0 : I x') (hμ : μ x' < μ x)
    (hok : (Nat.beq π.length (hl x').length && (nodupB π && (pinOk C.m π && (tUnder (hl x').length (tl x') && hUnder (hl x').length (hl x'))))) = true) (ht : tSub π t (tl x')) (hh : hSub π π h (hl x')) :
    ∃ x' π, I x' ∧ μ x' < μ x ∧ Sub C π ⟨t, h, nx⟩ (tl x') (hl x') := ⟨x', π, h0, hμ, hok, ht, hh⟩
theorem cut {x y : Code} {α : Type} (m : Nat) (tl : α → List (Nat × SV)) (hl : α → List (Option Blk)) (I : α → Prop) (hm : ∀ z, (hl z).length = m)
    (hx : W C x (thenQ (fun σ' => ∃ z π, I z ∧ Sub C π σ' (tl z) (hl z)) Q) σ) (hy : ∀ z, I z → W C y Q ⟨tOf (tl z), hOf (hl z), m⟩) : W C (.seq x y) Q σ := by
  refine W_cut tl hl I hx fun z hz => ?_
  have := hy z hz
  rw [← hm z] at this
  exact this
theorem meet {t : Nat → SV} {h : Heap} {nx : Nat} {α : Type} {tl : α → List (Nat × SV)} {hl : α → List (Option Blk)} {I : α → Prop} (z : α) (π : List Nat) (h0 : I z)
    (hok : (Nat.beq π.length (hl z).length && (nodupB π && (pinOk C.m π && (tUnder (hl z).length (tl z) && hUnder (hl z).length (hl z))))) = true) (ht : tSub π t (tl z)) (hh : hSub π π h (hl z)) :
    ∃ z π, I z ∧ Sub C π ⟨t, h, nx⟩ (tl z) (hl z) := ⟨z, π, h0, hok, ht, hh⟩
/-- The state told anew, at any place. -/
theorem tell {c : Code} {t : Nat → SV} {h : Heap} {nx : Nat} (m : Nat) (tl : List (Nat × SV)) (hl : List (Option Blk)) (π : List Nat) (hm : hl.length = m)
    (hok : (Nat.beq π.length hl.length && (nodupB π && (pinOk C.m π && (tUnder hl.length tl && hUnder hl.length hl)))) = true) (ht : tSub π t tl) (hh : hSub π π h hl) (k : W C c Q ⟨tOf tl, hOf hl, m⟩) : W C c Q ⟨t, h, nx⟩ := by
  refine W_sub π tl hl ⟨hok, ht, hh⟩ ?_
  rw [← hm] at k
  exact k
/-- A slice without memory gets a name. -/
theorem ghostly {c : Code} {t : Nat → SV} {h : Heap} {nx : Nat} (s ty k : Nat) (f : Nat → Nat → D) (hs : (t s).hd = some (.d .nils)) (kk : W C c Q ⟨upd t s (.sl nx 0 0), upd h nx (some (.rows ty k 0 f)), nx + 8⟩) : W C c Q ⟨t, h, nx⟩ := by
  intro M F pin ρ a w hsr
  have hv := hsr.tm s
  rw [show (⟨t, h, nx⟩ : St).t s = .d .nils from SV.hd_eq hs] at hv
  have hfr : ∀ n, nx ≤ n → n < nx + 8 → ρ n = none := fun n h1 _ => hsr.fr n h1
  obtain ⟨ρ', k1, k2, k3, k4⟩ := hsr.hr.ghost hfr ty k f
  refine kk M F pin ρ' a w ⟨⟨fun n => ?_, hsr.sz, hsr.df, k4, Names.le_trans hsr.pn k1, hsr.pm, hsr.gl⟩, fun n hn => ?_⟩
  · show VR M ρ' (upd t s _ n) _
    rw [upd_eq]
    split
    · next e =>
      subst e
      generalize hq : a.tmps.getD n undef = q at hv
      cases hv with | d _ _ hd => cases hd with | nils aa => exact .sl0 nx 0 _ k3 rfl aa
    · exact (hsr.tm n).mono (Imm.le_refl _) k1
  · have hn' : nx + 8 ≤ n := hn
    rw [k2 n (.inr hn')]; exact hsr.fr n (by show nx ≤ n; omega)
theorem freeze {c : Code} {t : Nat → SV} {h : Heap} {nx : Nat} (s n len : Nat) {ty k L : Nat} {f : Nat → Nat → D} (hs : (t s).hd = some (.sl n 0 len)) (hn : h n = some (.rows ty k L f)) (hl : len ≤ L)
    (kk : W C c Q ⟨upd t s (.d (.vec k len f)), upd h n none, nx⟩) : W C c Q ⟨t, h, nx⟩ :=
  W_freeze (σ := ⟨t, h, nx⟩) s n len (SV.hd_eq hs) hn hl kk
/-- A slot's value written otherwise, between pieces of code. -/
theorem cval {c : Code} {t : Nat → SV} {h : Heap} {nx : Nat} (s : Nat) (u : SV) {u0 : SV} (hs : (t s).hd = some u0) (hu : u0 = u) (k : W C c Q ⟨upd t s u, h, nx⟩) : W C c Q ⟨t, h, nx⟩ := by
  have same : upd t s u = t := by
    funext n; rw [upd_eq]; split
    · next e => subst e; rw [SV.hd_eq hs, hu]
    · rfl
  rw [← same]; exact k
theorem chval {c : Code} {t : Nat → SV} {h : Heap} {nx : Nat} (n : Nat) (b' : Blk) {b : Blk} (hs : h n = some b) (hb : b = b') (k : W C c Q ⟨t, upd h n (some b'), nx⟩) : W C c Q ⟨t, h, nx⟩ := by
  have same : upd h n (some b') = h := by
    funext m; rw [upd_eq]; split
    · next e => subst e; rw [hs, hb]
    · rfl
  rw [← same]; exact k
end

/- answers -/
section
variable {C : Ctx} {fn : Func} {post : SV → List (Option Blk) → Prop} {t : Nat → SV} {h : Heap} {nx : Nat}
theorem out0 {π : List Nat} {hout : List (Option Blk)} (hres : fn.results = #[]) (hok : okOut C.m (.tup []) hout = true) (hS : (Nat.beq π.length hout.length && (nodupB π && (pinOk C.m π && (tUnder hout.length [] && hUnder hout.length hout)))) = true)
    (hh : hSub π π h hout) (hp : post (.tup []) hout) : outQ C fn post .ret ⟨t, h, nx⟩ :=
  ⟨π, _, .tup [], hout, ret0 hres, rfl, hok, ⟨hS, trivial, hh⟩, hp⟩
theorem out1 (s : Nat) {π : List Nat} (r : SV) {hout : List (Option Blk)} {u : SV} (hres : fn.results = #[.tmp s]) (hu : (t s).hd = some u) (hr : u = ren π r) (hok : okOut C.m r hout = true) (hS : (Nat.beq π.length hout.length && (nodupB π && (pinOk C.m π && (tUnder hout.length [] && hUnder hout.length hout)))) = true)
    (hh : hSub π π h hout) (hp : post r hout) : outQ C fn post .ret ⟨t, h, nx⟩ :=
  ⟨π, t s, r, hout, ret1 hres, by rw [SV.hd_eq hu, hr], hok, ⟨hS, trivial, hh⟩, hp⟩
theorem out2 (s1 s2 : Nat) {π : List Nat} (r1 r2 : SV) {hout : List (Option Blk)} {u1 u2 : SV} (hres : fn.results = #[.tmp s1, .tmp s2]) (hu1 : (t s1).hd = some u1) (hu2 : (t s2).hd = some u2) (hr1 : u1 = ren π r1) (hr2 : u2 = ren π r2) (hok : okOut C.m (.tup [r1, r2]) hout = true)
    (hS : (Nat.beq π.length hout.length && (nodupB π && (pinOk C.m π && (tUnder hout.length [] && hUnder hout.length hout)))) = true) (hh : hSub π π h hout) (hp : post (.tup [r1, r2]) hout) : outQ C fn post .ret ⟨t, h, nx⟩ :=
  ⟨π, .tup [t s1, t s2], .tup [r1, r2], hout, ret2 hres, by rw [SV.hd_eq hu1, SV.hd_eq hu2, hr1, hr2]; rfl, hok, ⟨hS, trivial, hh⟩, hp⟩
theorem out3 (s1 s2 s3 : Nat) {π : List Nat} (r1 r2 r3 : SV) {hout : List (Option Blk)} {u1 u2 u3 : SV} (hres : fn.results = #[.tmp s1, .tmp s2, .tmp s3]) (hu1 : (t s1).hd = some u1) (hu2 : (t s2).hd = some u2) (hu3 : (t s3).hd = some u3) (hr1 : u1 = ren π r1) (hr2 : u2 = ren π r2) (hr3 : u3 = ren π r3) (hok : okOut C.m (.tup [r1, r2, r3]) hout = true)
    (hS : (Nat.beq π.length hout.length && (nodupB π && (pinOk C.m π && (tUnder hout.length [] && hUnder hout.length hout)))) = true) (hh : hSub π π h hout) (hp : post (.tup [r1, r2, r3]) hout) : outQ C fn post .ret ⟨t, h, nx⟩ :=
  ⟨π, .tup [t s1, t s2, t s3], .tup [r1, r2, r3], hout, ret3 hres, by rw [SV.hd_eq hu1, SV.hd_eq hu2, SV.hd_eq hu3, hr1, hr2, hr3]; rfl, hok, ⟨hS, trivial, hh⟩, hp⟩
end

/- ways through a short circuit meet -/
theorem W_le {C : Ctx} {c : Code} {Q : Exit → St → Prop} {t t' : Nat → SV} {h : Heap} {nx : Nat} (ht : ∀ k, t k = .any ∨ t k = t' k) (hw : W C c Q ⟨t, h, nx⟩) : W C c Q ⟨t', h, nx⟩ := by
  intro M F pin ρ a w hs
  refine hw M F pin ρ a w ⟨⟨fun n => ?_, hs.sz, hs.df, hs.hr, hs.pn, hs.pm, hs.gl⟩, hs.fr⟩
  rcases ht n with e | e
  · show VR M ρ (t n) _; rw [e]; exact .any _
  · show VR M ρ (t n) _; rw [e]; exact hs.tm n

theorem opv_le {C : Ctx} {t t' : Nat → SV} (ht : ∀ k, t k = .any ∨ t k = t' k) (x : Operand) : opv C t x = .any ∨ opv C t x = opv C t' x := by
  cases x with
  | tmp k => exact ht k
  | const v => cases v <;> first | exact .inr rfl | (rename_i a l c; cases a <;> cases l <;> cases c <;> exact .inr rfl)
  | global g => exact .inr rfl
  | func f => exact .inr rfl

theorem OpOK_le {C : Ctx} {o : Oper} {nm : Nat} {t t' : Nat → SV} {bs : List (Nat × Blk)} {RS : SV → List (Nat × Option Blk) → Prop} (ht : ∀ k, t k = .any ∨ t k = t' k) (h : OpOK C o nm (opv C t) bs RS) : OpOK C o nm (opv C t') bs RS := by
  intro M F ρ a hp w hv
  refine h M F ρ a hp w fun x hx => ?_
  rcases opv_le (C := C) ht x with e | e
  · rw [e]; exact .any _
  · rw [e]; exact hv x hx

theorem wops_le {C : Ctx} {ops : List Oper} {y : Code} {Q : Exit → St → Prop} : ∀ (l : List Oper) (i : Nat) (σ : St) (t' : Nat → SV) (acc : Option (List FP)), (∀ k, σ.t k = .any ∨ σ.t k = t' k) →
    wops C ops i l σ acc (fun σ => W C y Q σ) → wops C ops i l ⟨t', σ.h, σ.nx⟩ acc (fun σ => W C y Q σ) := by
  intro l
  induction l with
  | nil =>
    intro i σ t' acc ht h
    obtain ⟨h1, h2⟩ := h
    exact ⟨h1, W_le ht h2⟩
  | cons o l ih =>
    intro i σ t' acc ht h
    have happ : ∀ (d : Option Tmp) (u : SV) (wr : List (Nat × Option Blk)) (k : Nat), (σ.app d u wr).t k = .any ∨ (σ.app d u wr).t k = (St.app ⟨t', σ.h, σ.nx⟩ d u wr).t k := by
      intro d u wr k
      cases d with
      | none => exact ht k
      | some d =>
        show upd σ.t d u k = .any ∨ upd σ.t d u k = upd t' d u k
        rw [upd_eq, upd_eq]
        split
        · exact .inr rfl
        · exact ht k
    have gon : gOn ops σ.t o → gOn ops t' o := by
      intro hg
      unfold gOn at *
      cases e : o.guard with
      | none => trivial
      | some p =>
        obtain ⟨j, want⟩ := p
        rw [e] at hg
        obtain ⟨s, s1, s2⟩ := hg
        refine ⟨s, s1, ?_⟩
        rcases ht s with h | h
        · rw [h] at s2; cases s2
        · rw [← h]; exact s2
    have goff : gOff ops σ.t o → gOff ops t' o := by
      intro hg
      unfold gOff at *
      cases e : o.guard with
      | none => rw [e] at hg; exact hg
      | some p =>
        obtain ⟨j, want⟩ := p
        rw [e] at hg
        obtain ⟨s, s1, s2⟩ := hg
        refine ⟨s, s1, ?_⟩
        rcases ht s with h | h
        · rw [h] at s2; rcases s2 with s2 | s2 <;> cases s2
        · rw [← h]; exact s2
    unfold wops at h ⊢
    rcases h with ⟨fp, σ', ⟨hd, hD⟩, hr⟩ | ⟨h0, hd, hg, bs, RS, hok, hbs, hn⟩
    · refine .inl ⟨fp, ?_⟩
      rcases hD with ⟨hg, bs, u, wr, hok, hbs, hk, rfl, rfl⟩ | ⟨hg, rfl, rfl⟩
      · exact ⟨_, ⟨hd, .inl ⟨gon hg, bs, u, wr, OpOK_le ht hok, hbs, hk, rfl, rfl⟩⟩, ih (i + 1) (σ.app o.dst u wr) _ _ (happ o.dst u wr) hr⟩
      · exact ⟨_, ⟨hd, .inr ⟨goff hg, rfl, rfl⟩⟩, ih (i + 1) (σ.app o.dst (.tup []) []) _ _ (happ o.dst (.tup []) []) hr⟩
    · exact .inr ⟨h0, hd, gon hg, bs, RS, OpOK_le ht hok, hbs, fun u wr hR => ih (i + 1) (σ.app o.dst u wr) _ _ (happ o.dst u wr) (hn u wr hR)⟩

def tEq (t : Nat → SV) : List (Nat × SV) → Prop
  | [] => True
  | (k, v) :: r => (t k).hd = some v ∧ tEq t r
theorem tEq_get {t : Nat → SV} : ∀ {l : List (Nat × SV)}, tEq t l → ∀ k, tOf l k = .any ∨ tOf l k = t k
  | [], _, k => .inl rfl
  | (k', v) :: r, h, k => by
    simp only [tOf]
    cases e : Nat.beq k k' with
    | true => have := Nat.eq_of_beq_eq_true e; subst this; exact .inr (SV.hd_eq h.1).symm
    | false => exact tEq_get h.2 k

theorem joinB {C : Ctx} {ops l l' : List Oper} {i : Nat} {t : Nat → SV} {h : Heap} {nx : Nat} {y : Code} {Q : Exit → St → Prop} (n i' d : Nat) (e : Bool) (ks ka : List Nat) {lk la : List (Nat × SV)} (hk : keepO t ks = some lk) (ha : keepO t ka = some la) (hi : i + n = i') (hl : l.drop n = l')
    (J : wops C ops i' l' ⟨upd (tOf la) d (SV.b e), h, nx⟩ none (fun σ => W C y Q σ)) (k : wops C ops i' l' ⟨upd (tOf la) d (SV.b e), h, nx⟩ none (fun σ => W C y Q σ) → wops C ops i l ⟨tOf lk, h, nx⟩ none (fun σ => W C y Q σ)) :
    wops C ops i l ⟨t, h, nx⟩ none (fun σ => W C y Q σ) := wops_le _ _ ⟨tOf lk, h, nx⟩ t none (fun n => keepO_sub hk n) (k J)
theorem joinEnd {C : Ctx} {ops l' : List Oper} {i' : Nat} {t' : Nat → SV} {h : Heap} {nx d : Nat} {e x : Bool} {lk : List (Nat × SV)} {y : Code} {Q : Exit → St → Prop} (J : wops C ops i' l' ⟨upd (tOf lk) d (SV.b e), h, nx⟩ none (fun σ => W C y Q σ))
    (hd : (t' d).hd = some (SV.b x)) (hx : x = e) (hs : tEq t' lk) : wops C ops i' l' ⟨t', h, nx⟩ none (fun σ => W C y Q σ) := by
  refine wops_le _ _ _ t' none (fun k => ?_) J
  show upd (tOf lk) d (SV.b e) k = .any ∨ upd (tOf lk) d (SV.b e) k = t' k
  rw [upd_eq]
  split
  · next hk => subst hk; rw [← hx]; exact .inr (SV.hd_eq hd).symm
  · exact tEq_get hs k
end Go.Proofs.YtpdojmebloekgaaDoor.Nice
