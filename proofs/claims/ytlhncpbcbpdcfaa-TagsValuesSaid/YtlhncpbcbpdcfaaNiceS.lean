/- A piece of code that looks at some of the blocks alone: the others lie still. Pointers that may be nil. -/
import Derived.Test.YtlhncpbcbpdcfaaNiceR
import Derived.Laws.Pointers
namespace Go.Proofs.Ytlhncpbcbpdcfaa.Nice
open Go
set_option linter.unusedVariables false
set_option linter.unusedSimpArgs false

/-- What the piece of code may not see: everything of the caller's but the blocks πf. -/
noncomputable def frameOf2 (M F : Imm) (ρ : Names) (h : Heap) (π : List Nat) (w : World) : Imm := fun b =>
  open Classical in
  if F b ≠ none then F b else if M b = none ∧ ¬ Passed ρ h π b then w.heap[b]? else none
def renT (π : List Nat) (tl : List (Nat × SV)) : List (Nat × SV) := tl.map fun p => (p.1, ren π p.2)
theorem tOf_renT (π : List Nat) : ∀ (tl : List (Nat × SV)) (k : Nat), tOf (renT π tl) k = ren π (tOf tl k)
  | [], k => rfl
  | (j, v) :: r, k => by
    have ih := tOf_renT π r k
    simp only [renT, List.map_cons, tOf] at ih ⊢
    cases Nat.beq k j
    · exact ih
    · rfl
theorem tUnder_get {n : Nat} : ∀ {tl : List (Nat × SV)}, tUnder n tl = true → ∀ k, (tOf tl k).under n = true
  | [], _, k => rfl
  | (j, v) :: r, h, k => by
    simp [tUnder] at h
    simp only [tOf]
    cases Nat.beq k j
    · exact tUnder_get h.2 k
    · exact h.1
/-- The named but blockless places stay so. -/
def okF (p q : Nat) (hout : List (Option Blk)) : Bool := Nat.ble (p + q) hout.length && (Nat.ble hout.length (p + q + 8) && (List.range q).all fun j => ((hout.getD (p + j) none).isNone))

theorem W_focus {C : Ctx} {c : Code} {Q : Exit → St → Prop} {t : Nat → SV} {h : Heap} {nx : Nat} (πf πx : List Nat) (tl0 : List (Nat × SV)) (hin : List Blk) {post : Exit → List (Nat × SV) → List (Option Blk) → Prop}
    (hW : W ⟨C.P, C.sz, hin.length + πx.length, C.G⟩ c (fun e σ' => ∃ tl' hout π', post e tl' hout ∧ okF hin.length πx.length hout = true ∧ Sub ⟨C.P, C.sz, hin.length + πx.length, C.G⟩ π' σ' tl' hout) ⟨tOf tl0, hOf (hin.map some), hin.length + πx.length⟩)
    (side : (Nat.beq πf.length hin.length && (nodupB (πf ++ πx) && (((πf ++ πx).all fun n => Nat.blt n nx) && (tUnder (hin.length + πx.length) tl0 && hUnder (hin.length + πx.length) (hin.map some))))) = true)
    (ht : tSub (πf ++ πx) t tl0) (hbs : bsHeap h (bsOf (πf ++ πx) πf hin))
    (k : ∀ e tl' hout, post e tl' hout → okF hin.length πx.length hout = true → Q e ⟨tOf (renT (πf ++ πx ++ newNames nx (hout.length - (hin.length + πx.length))) tl'), wrH h (wrOf (πf ++ πx ++ newNames nx (hout.length - (hin.length + πx.length))) (πf ++ newNames nx (hout.length - (hin.length + πx.length))) (hout.take hin.length ++ hout.drop (hin.length + πx.length))), nx + 8⟩) : W C c Q ⟨t, h, nx⟩ := by
  intro M F pin ρ a w hs
  simp only [Bool.and_eq_true] at side
  obtain ⟨s1, s2, s3, s4, s5⟩ := side
  have s1 := Nat.eq_of_beq_eq_true s1
  have s3 : ∀ n, n ∈ πf ++ πx → n < nx := fun n hn => by have := List.all_eq_true.1 s3 n hn; simpa using this
  generalize hπ0 : πf ++ πx = π at *
  have hπl : π.length = hin.length + πx.length := by rw [← hπ0, List.length_append, s1]
  have getf : ∀ i, i < hin.length → π[i]? = πf[i]? := fun i hi => by rw [← hπ0, List.getElem?_append_left (by omega)]
  have hH := hs.hr
  have hlive : ∀ (i : Nat) (b : Blk), hin[i]? = some b → ∃ n, πf[i]? = some n ∧ h n = some (renB π b) := by
    intro i b hb
    obtain ⟨n, hn, hm⟩ := bsOf_get (π := π) πf hin s1 i b hb
    exact ⟨n, hn, bsHeap_mem hbs _ hm⟩
  have hsome : ∀ (i n : Nat), πf[i]? = some n → ∃ b, hin[i]? = some b ∧ h n = some (renB π b) ∧ ∃ x, ρ n = some x := by
    intro i n hn
    have hi : i < hin.length := by rw [← s1]; exact (List.getElem?_eq_some_iff.1 hn).1
    obtain ⟨n', hn', hb⟩ := hlive i _ (List.getElem?_eq_getElem hi)
    rw [hn] at hn'; obtain rfl := Option.some.inj hn'
    obtain ⟨x, hx, _⟩ := hH.live n _ hb
    exact ⟨_, List.getElem?_eq_getElem hi, hb, x, hx⟩
  have hundb : ∀ (i : Nat) (b : Blk), hin[i]? = some b → b.under π.length = true := by
    have : ∀ (l : List Blk) (n : Nat), hUnder n (l.map some) = true → ∀ (i : Nat) (b : Blk), l[i]? = some b → b.under n = true := by
      intro l n
      induction l with
      | nil => intro _ i b hb; simp at hb
      | cons c l ih =>
        intro hl i b hb
        simp [hUnder] at hl
        cases i with
        | zero => simp at hb; subst hb; exact hl.1
        | succ i => exact ih hl.2 i b (by simpa using hb)
    rw [hπl]; exact this hin _ s5
  have hHc : HR M (frameOf2 M F ρ h πf w) (back π ρ) (hOf (hin.map some)) w := by
    have hFc : ∀ b, F b = none → Passed ρ h πf b → frameOf2 M F ρ h πf w b = none := by
      intro b hb hex
      unfold frameOf2
      rw [if_neg (by simp [hb]), if_neg (fun h => h.2 hex)]
    refine ⟨hH.imm, ?_, ?_, ?_, ?_, ?_⟩
    rotate_right
    · intro i S es hi
      have hi' : hin[i]? = some (.fam S es) := by
        have := hOf_some hi
        simp at this; exact this
      have hil : i < hin.length := (List.getElem?_eq_some_iff.1 hi').1
      obtain ⟨n, hn, hb⟩ := hlive i _ hi'
      obtain ⟨x, hx, g0, g1, g2, g3, g4⟩ := hH.fam n S _ hb
      refine ⟨x, by simp [back, getf i hil, hn, hx], g0, fun b hbS => ⟨(g1 b hbS).1, hFc b (g1 b hbS).2.1 (.inr ⟨i, n, S, _, hn, hb, hbS⟩), (g1 b hbS).2.2⟩, fun p y hp hy h0y => ?_, fun p S' es' hpi hp => ?_, FR.ren.1 g4⟩
      · obtain ⟨bp, hbp⟩ := Option.ne_none_iff_exists'.1 hp
        have hp' : hin[p]? = some bp := by have := hOf_some hbp; simp at this; exact this
        have hpl : p < hin.length := (List.getElem?_eq_some_iff.1 hp').1
        obtain ⟨np, hnp, hhp⟩ := hlive p bp hp'
        simp only [back, getf p hpl, hnp, Option.bind_some] at hy
        exact g2 np y (by show h np ≠ none; rw [hhp]; simp) hy h0y
      · have hp' : hin[p]? = some (.fam S' es') := by have := hOf_some hp; simp at this; exact this
        have hpl : p < hin.length := (List.getElem?_eq_some_iff.1 hp').1
        obtain ⟨np, hnp, hhp⟩ := hlive p _ hp'
        refine g3 np S' _ (fun e => hpi ?_) hhp
        subst e
        exact nodupB_inj s2 p i np (by rw [getf p hpl]; exact hnp) (by rw [getf i hil]; exact hn)
    · intro b o hb
      unfold frameOf2 at hb
      split at hb
      · exact hH.frm b o hb
      · split at hb
        · exact hb
        · cases hb
    · intro b o hb
      unfold frameOf2 at hb
      split at hb
      · exact hH.dis b o hb
      · split at hb
        · next h1 => exact h1.1
        · cases hb
    · intro i b hi
      have hi' : hin[i]? = some b := by
        have := hOf_some hi
        simp at this; exact this
      obtain ⟨n, hn, hb⟩ := hlive i b hi'
      have hil : i < hin.length := (List.getElem?_eq_some_iff.1 hi').1
      obtain ⟨x, hx, hr⟩ := hH.live n _ hb
      refine ⟨x, by simp [back, getf i hil, hn, hx], ?_⟩
      rcases hr with ⟨h0, hg⟩ | ⟨h0, h1, h2, o, h3, h4⟩
      · exact .inl ⟨h0, by rw [ghost_renB] at *; exact hg⟩
      · exact .inr ⟨h0, h1, hFc _ h2 (.inl ⟨i, n, x, hn, hx, h0, rfl⟩), o, h3, h4.back (hundb i b hi')⟩
    · intro p q x y hp hq hx hy h0x h0y hb
      obtain ⟨bp, hbp⟩ := Option.ne_none_iff_exists'.1 hp
      obtain ⟨bq, hbq⟩ := Option.ne_none_iff_exists'.1 hq
      have hp' : hin[p]? = some bp := by have := hOf_some hbp; simp at this; exact this
      have hq' : hin[q]? = some bq := by have := hOf_some hbq; simp at this; exact this
      obtain ⟨np, hnp, hhp⟩ := hlive p bp hp'
      obtain ⟨nq, hnq, hhq⟩ := hlive q bq hq'
      have hpl : p < hin.length := (List.getElem?_eq_some_iff.1 hp').1
      have hql : q < hin.length := (List.getElem?_eq_some_iff.1 hq').1
      simp only [back, getf p hpl, getf q hql, hnp, hnq, Option.bind_some] at hx hy
      have := hH.sep np nq x y (by show h np ≠ none; rw [hhp]; simp) (by show h nq ≠ none; rw [hhq]; simp) hx hy h0x h0y hb
      subst this
      exact nodupB_inj s2 p q np (by rw [getf p hpl]; exact hnp) (by rw [getf q hql]; exact hnq)
  have hstart : SR ⟨C.P, C.sz, hin.length + πx.length, C.G⟩ M (frameOf2 M F ρ h πf w) (back π ρ) (back π ρ) ⟨tOf tl0, hOf (hin.map some), hin.length + πx.length⟩ a w := by
    refine ⟨⟨fun j => ?_, hs.sz, hs.df, hHc, Names.le_refl _, fun n x hx => ?_, hs.gl⟩, fun n hn => ?_⟩
    · rcases tSub_get ht s4 j with e | ⟨e, hu⟩
      · show VR M _ (tOf tl0 j) _; rw [e]; exact .any _
      · exact (hs.tm j).back _ e (by rw [hπl]; exact hu)
    · show n < hin.length + πx.length
      rw [← hπl]
      unfold back at hx
      cases e : π[n]? with
      | none => rw [e] at hx; cases hx
      | some m => exact (List.getElem?_eq_some_iff.1 e).1
    · have : π[n]? = none := by rw [List.getElem?_eq_none_iff, hπl]; exact hn
      simp [back, this]
  refine Code.wp_mono ?_ (hW M _ _ _ a w hstart)
  rintro e a' w' ⟨M', ρ0, σ0, hM, hs', hsame, tl', hout, π', hpost, hokF, hsub⟩
  have hrel := hsub.rel hs'.toSR0
  have hok := hsub.ok
  simp only [Bool.and_eq_true] at hok
  obtain ⟨_, _, _, htu, huo⟩ := hok
  generalize hρ1 : back π' ρ0 = ρ' at hrel
  have hρ : (back π ρ).le ρ' := hrel.pn
  have hH' : HR M' (frameOf2 M F ρ h πf w) ρ' (hOf hout) w' := hrel.hr
  have hokF' := hokF
  simp only [okF, Bool.and_eq_true] at hokF'
  obtain ⟨hle, hle8, hmid⟩ := hokF'
  have hle := Nat.le_of_ble_eq_true hle
  have hle8 := Nat.le_of_ble_eq_true hle8
  have hK := k e tl' hout hpost hokF
  generalize hkk : hout.length - (hin.length + πx.length) = kk at hK
  have hkl : hout.length = hin.length + πx.length + kk := by omega
  generalize hπ2 : π ++ newNames nx kk = π2 at hK
  have hlen2 : π2.length = hout.length := by rw [← hπ2, List.length_append, newNames_length, hπl, hkl]
  have get1 : ∀ i, i < π.length → π2[i]? = π[i]? := fun i hi => by rw [← hπ2, List.getElem?_append_left hi]
  have get2 : ∀ j, j < kk → π2[π.length + j]? = some (nx + j) := fun j hj => by
    rw [← hπ2, List.getElem?_append_right (by omega), show π.length + j - π.length = j by omega, newNames_get kk nx j hj]
  have hfr : ∀ n, nx ≤ n → ρ n = none := fun n hn => hs.fr n hn
  have hnd2 : ∀ i j n : Nat, π2[i]? = some n → π2[j]? = some n → i = j := by
    have old : ∀ (i n : Nat), i < π.length → π2[i]? = some n → n < nx := by
      intro i n hi hn
      rw [get1 i hi] at hn
      exact s3 n (List.mem_of_getElem? hn)
    have new : ∀ (i n : Nat), π.length ≤ i → π2[i]? = some n → n = nx + (i - π.length) ∧ i - π.length < kk := by
      intro i n hi hn
      have hi2 : i < hout.length := by rw [← hlen2]; exact (List.getElem?_eq_some_iff.1 hn).1
      obtain ⟨j, rfl⟩ : ∃ j, i = π.length + j := ⟨i - π.length, by omega⟩
      rw [get2 j (by omega)] at hn
      obtain rfl := Option.some.inj hn
      exact ⟨by omega, by omega⟩
    intro i j n hi hj
    rcases Nat.lt_or_ge i π.length with h1 | h1 <;> rcases Nat.lt_or_ge j π.length with h2 | h2
    · rw [get1 i h1] at hi; rw [get1 j h2] at hj; exact nodupB_inj s2 i j n hi hj
    · have := new j n h2 hj; have := old i n h1 hi; omega
    · have := new i n h1 hi; have := old j n h2 hj; omega
    · have a := new i n h1 hi; have b := new j n h2 hj; omega
  let ρ2 : Names := fun n => if n ∈ π2 then ρ' (π2.idxOf n) else ρ n
  have hin2 : ∀ i n, π2[i]? = some n → ρ2 n = ρ' i := by
    intro i n hn
    have hm : n ∈ π2 := List.mem_of_getElem? hn
    have : π2.idxOf n = i := hnd2 _ _ n (by rw [List.getElem?_eq_getElem (List.idxOf_lt_length_of_mem hm), List.getElem_idxOf]) hn
    show (if n ∈ π2 then ρ' (π2.idxOf n) else ρ n) = _
    rw [if_pos hm, this]
  have hout2 : ∀ n, n ∉ π2 → ρ2 n = ρ n := fun n hn => if_neg hn
  have hle2 : ρ.le ρ2 := by
    intro n x hx
    by_cases hm : n ∈ π2
    · obtain ⟨i, hi⟩ := List.mem_iff_getElem?.1 hm
      rw [hin2 i n hi]
      rcases Nat.lt_or_ge i π.length with h1 | h1
      · rw [get1 i h1] at hi
        exact hρ i x (by simp [back, hi, hx])
      · have hi2 : i < hout.length := by rw [← hlen2]; exact (List.getElem?_eq_some_iff.1 hi).1
        obtain ⟨j, rfl⟩ : ∃ j, i = π.length + j := ⟨i - π.length, by omega⟩
        rw [get2 j (by omega)] at hi
        obtain rfl := Option.some.inj hi
        rw [hfr _ (by omega)] at hx; cases hx
    · rw [hout2 n hm]; exact hx
  have hsee' : ∀ i, i < hout.length → ρ2 (π2.getD i 0) = ρ' i := by
    intro i hi
    refine hin2 i _ ?_
    rw [List.getD_eq_getElem?_getD, List.getElem?_eq_getElem (by omega)]; rfl
  -- the places that the code has turned
  generalize hL : πf ++ newNames nx kk = Lπ at hK
  generalize hO : hout.take hin.length ++ hout.drop (hin.length + πx.length) = Lo at hK
  have hLl : Lπ.length = Lo.length := by
    rw [← hL, ← hO, List.length_append, List.length_append, newNames_length, List.length_take, List.length_drop]; omega
  have emb : ∀ (i n : Nat), Lπ[i]? = some n → ∃ j, π2[j]? = some n ∧ Lo[i]? = hout[j]? ∧ j < hout.length ∧ (j < hin.length ∨ hin.length + πx.length ≤ j) := by
    intro i n hn
    have hil : i < Lπ.length := (List.getElem?_eq_some_iff.1 hn).1
    rcases Nat.lt_or_ge i hin.length with hi | hi
    · refine ⟨i, ?_, ?_, by omega, .inl hi⟩
      · rw [get1 i (by omega), getf i hi]
        rw [← hL, List.getElem?_append_left (by omega)] at hn; exact hn
      · rw [← hO, List.getElem?_append_left (by rw [List.length_take]; omega), List.getElem?_take, if_pos hi]
    · have hik : i - hin.length < kk := by rw [← hL, List.length_append, newNames_length] at hil; omega
      refine ⟨i + πx.length, ?_, ?_, by omega, .inr (by omega)⟩
      · rw [show i + πx.length = π.length + (i - hin.length) by omega, get2 _ hik]
        rw [← hL, List.getElem?_append_right (by omega), s1, newNames_get kk nx _ hik] at hn
        exact hn
      · rw [← hO, List.getElem?_append_right (by rw [List.length_take]; omega), List.length_take, List.getElem?_drop]
        congr 1; omega
  have hndL : ∀ i j n : Nat, Lπ[i]? = some n → Lπ[j]? = some n → i = j := by
    intro i j n hi hj
    rw [← hL] at hi hj
    rcases Nat.lt_or_ge i πf.length with h1 | h1 <;> rcases Nat.lt_or_ge j πf.length with h2 | h2
    · rw [List.getElem?_append_left h1] at hi
      rw [List.getElem?_append_left h2] at hj
      exact nodupB_inj s2 i j n (by rw [getf i (by omega)]; exact hi) (by rw [getf j (by omega)]; exact hj)
    · rw [List.getElem?_append_left h1] at hi
      rw [List.getElem?_append_right h2] at hj
      have a1 := s3 n (List.mem_of_getElem? (by rw [getf i (by omega)]; exact hi))
      have a2 : j - πf.length < kk := by have := (List.getElem?_eq_some_iff.1 hj).1; rw [newNames_length] at this; exact this
      rw [newNames_get kk nx _ a2] at hj
      have := Option.some.inj hj; omega
    · rw [List.getElem?_append_right h1] at hi
      rw [List.getElem?_append_left h2] at hj
      have a1 := s3 n (List.mem_of_getElem? (by rw [getf j (by omega)]; exact hj))
      have a2 : i - πf.length < kk := by have := (List.getElem?_eq_some_iff.1 hi).1; rw [newNames_length] at this; exact this
      rw [newNames_get kk nx _ a2] at hi
      have := Option.some.inj hi; omega
    · rw [List.getElem?_append_right h1] at hi
      rw [List.getElem?_append_right h2] at hj
      have a2 : i - πf.length < kk := by have := (List.getElem?_eq_some_iff.1 hi).1; rw [newNames_length] at this; exact this
      have b2 : j - πf.length < kk := by have := (List.getElem?_eq_some_iff.1 hj).1; rw [newNames_length] at this; exact this
      rw [newNames_get kk nx _ a2] at hi
      rw [newNames_get kk nx _ b2] at hj
      have := Option.some.inj hi; have := Option.some.inj hj; omega
  obtain ⟨hwr1, hwr2⟩ := wrH_wrOf (π := π2) Lπ Lo h hLl hndL
  have hundo : ∀ (i : Nat) (b : Blk), hout[i]? = some (some b) → b.under hout.length = true := by
    have : ∀ (l : List (Option Blk)) (n : Nat), hUnder n l = true → ∀ (i : Nat) (b : Blk), l[i]? = some (some b) → b.under n = true := by
      intro l n
      induction l with
      | nil => intro _ i b hb; simp at hb
      | cons c l ih =>
        intro hl i b hb
        cases c with
        | none => cases i with
          | zero => simp at hb
          | succ i => exact ih (by simpa [hUnder] using hl) i b (by simpa using hb)
        | some c =>
          simp [hUnder] at hl
          cases i with
          | zero => simp at hb; subst hb; exact hl.1
          | succ i => exact ih hl.2 i b (by simpa using hb)
    exact this hout _ huo
  have hFle : ∀ b o, F b = some o → frameOf2 M F ρ h πf w b = some o := by
    intro b o hb
    unfold frameOf2
    rw [if_pos (by simp [hb])]; exact hb
  have hFn : ∀ b, frameOf2 M F ρ h πf w b = none → F b = none := by
    intro b hb
    cases e : F b with
    | none => rfl
    | some o => rw [hFle b o e] at hb; cases hb
  have hstay : ∀ n blk x, n ∉ Lπ → h n = some blk → ρ n = some x → 0 < x.R → ∃ obj, w.heap[x.b]? = some obj ∧ frameOf2 M F ρ h πf w x.b = some obj ∧ BR M ρ x blk obj := by
    intro n blk x hn hb hx h0
    obtain ⟨x', hx', hr⟩ := hH.live n blk hb
    rw [hx] at hx'; obtain rfl := Option.some.inj hx'
    rcases hr with ⟨h00, _⟩ | ⟨_, h1, h2, o, h3, h4⟩
    · omega
    · refine ⟨o, h3, ?_, h4⟩
      unfold frameOf2
      rw [if_neg (by simp [h2]), if_pos ?_]
      · exact h3
      · refine ⟨h1, ?_⟩
        rintro (⟨i, m, y, hm, hy, hy0, hyb⟩ | ⟨i, m, S, es, hm, hmf, hbS⟩)
        · obtain ⟨b, _, hb2, _⟩ := hsome i m hm
          have := hH.sep n m x y (by show h n ≠ none; rw [hb]; simp) (by show h m ≠ none; rw [hb2]; simp) hx hy h0 hy0 hyb.symm
          subst this
          exact hn (by rw [← hL]; exact List.mem_append_left _ (List.mem_of_getElem? hm))
        · obtain ⟨_, _, _, _, g2, _⟩ := hH.fam m S es hmf
          exact g2 n x (by show h n ≠ none; rw [hb]; simp) hx h0 hbS
  have hstayF : ∀ n S es, n ∉ Lπ → h n = some (.fam S es) → ∀ b, b ∈ S → ∃ obj, w.heap[b]? = some obj ∧ frameOf2 M F ρ h πf w b = some obj := by
    intro n S es hn hb b hbS
    obtain ⟨x, hx, g0, g1, g2, g3, _⟩ := hH.fam n S es hb
    obtain ⟨k1, k2, k3⟩ := g1 b hbS
    refine ⟨_, Array.getElem?_eq_getElem k3, ?_⟩
    unfold frameOf2
    rw [if_neg (by simp [k2]), if_pos ?_]
    · exact Array.getElem?_eq_getElem k3
    · refine ⟨k1, ?_⟩
      rintro (⟨i, m, y, hm, hy, hy0, hyb⟩ | ⟨i, m, S', es', hm, hmf, hbS'⟩)
      · obtain ⟨b', _, hb2, _⟩ := hsome i m hm
        refine g2 m y (by show h m ≠ none; rw [hb2]; simp) hy hy0 ?_
        rw [hyb]; exact hbS
      · by_cases e : m = n
        · subst e
          exact hn (by rw [← hL]; exact List.mem_append_left _ (List.mem_of_getElem? hm))
        · exact g3 m S' es' e hmf b hbS hbS'
  refine ⟨M', ρ2, _, hM, ⟨⟨fun j => ?_, hs'.sz, hs'.df, ⟨hH'.imm, fun b o hb => hH'.frm b o (hFle b o hb), fun b o hb => hH'.dis b o (hFle b o hb), ?_, ?_, ?_⟩, Names.le_trans hs.pn hle2, hs.pm, hs'.gl⟩, fun n hn => ?_⟩, hsame, hK⟩
  · show VR M' ρ2 (tOf (renT π2 tl') j) _
    rw [tOf_renT]
    exact (hrel.tm j).fwd hsee' (tUnder_get htu j)
  rotate_left 2
  · have inside : ∀ (n i : Nat), Lπ[i]? = some n → ∀ blk, wrH h (wrOf π2 Lπ Lo) n = some blk → ∃ j b, π2[j]? = some n ∧ hOf hout j = some b ∧ blk = renB π2 b := by
      intro n i hi blk hn
      obtain ⟨j, e1, e2, e3, e4⟩ := emb i n hi
      have hil : i < Lo.length := by rw [← hLl]; exact (List.getElem?_eq_some_iff.1 hi).1
      have hb := hwr1 i n _ hi (List.getElem?_eq_getElem hil)
      rw [hn] at hb
      cases e : Lo[i] with
      | none => rw [e] at hb; cases hb
      | some b =>
        rw [e] at hb
        have hob : hout[j]? = some (some b) := by rw [← e2, List.getElem?_eq_getElem hil, e]
        exact ⟨j, b, e1, by unfold hOf; rw [List.getD_eq_getElem?_getD, hob]; rfl, by simpa using hb⟩
    have inS : ∀ (i : Nat) S es b, hOf hout i = some (.fam S es) → b ∈ S → frameOf2 M F ρ h πf w b = none := by
      intro i S es b hi hb
      obtain ⟨_, _, _, g1, _⟩ := hH'.fam i S es hi
      exact (g1 b hb).2.1
    intro n S es hn
    have hn : wrH h (wrOf π2 Lπ Lo) n = some (.fam S es) := hn
    by_cases hmem : n ∈ Lπ
    · obtain ⟨i, hi⟩ := List.mem_iff_getElem?.1 hmem
      obtain ⟨j, b0, e1, hlv, e⟩ := inside n i hi _ hn
      obtain ⟨es', rfl, rfl⟩ := renB_fam e.symm
      obtain ⟨x, hx, g0, g1, g2, g3, g4⟩ := hH'.fam j S es' hlv
      refine ⟨x, by rw [hin2 j n e1]; exact hx, g0, fun b hb => ⟨(g1 b hb).1, hFn _ (g1 b hb).2.1, (g1 b hb).2.2⟩, fun m y hm hy h0y => ?_, fun m S2 es2 hmn hm b hb => ?_, FR.ren.2 g4⟩
      · have hm : wrH h (wrOf π2 Lπ Lo) m ≠ none := hm
        by_cases hm2 : m ∈ Lπ
        · obtain ⟨i2, hi2⟩ := List.mem_iff_getElem?.1 hm2
          obtain ⟨blk, hblk⟩ := Option.ne_none_iff_exists'.1 hm
          obtain ⟨j2, b2, k1, k2, _⟩ := inside m i2 hi2 _ hblk
          exact g2 j2 y (by rw [k2]; simp) (by rw [← hin2 j2 m k1]; exact hy) h0y
        · rw [hwr2 m hm2] at hm
          obtain ⟨blk, hblk⟩ := Option.ne_none_iff_exists'.1 hm
          obtain ⟨y', hy', _⟩ := hH.live m blk hblk
          have := hle2 m y' hy'
          rw [hy] at this; obtain rfl := Option.some.inj this
          obtain ⟨obj, _, k2, _⟩ := hstay m blk y hm2 hblk hy' h0y
          intro hb
          rw [(g1 _ hb).2.1] at k2; cases k2
      · have hm : wrH h (wrOf π2 Lπ Lo) m = some (.fam S2 es2) := hm
        by_cases hm2 : m ∈ Lπ
        · obtain ⟨i2, hi2⟩ := List.mem_iff_getElem?.1 hm2
          obtain ⟨j2, b2, k1, k2, k3⟩ := inside m i2 hi2 _ hm
          obtain ⟨es3, rfl, _⟩ := renB_fam k3.symm
          exact g3 j2 S2 es3 (fun e => hmn (by subst e; rw [e1] at k1; exact (Option.some.inj k1).symm)) k2 b hb
        · rw [hwr2 m hm2] at hm
          intro hb2
          obtain ⟨obj, _, k2⟩ := hstayF m S2 es2 hm2 hm b hb2
          rw [(g1 _ hb).2.1] at k2; cases k2
    · rw [hwr2 n hmem] at hn
      obtain ⟨x, hx, g0, g1, g2, g3, g4⟩ := hH.fam n S es hn
      obtain ⟨xo, _, hxF, _⟩ := hstay n _ x hmem hn hx g0
      refine ⟨x, hle2 n x hx, g0, fun b hb => ?_, fun m y hm hy h0y => ?_, fun m S2 es2 hmn hm b hb => ?_, g4.last hM (fun c hc => ?_)⟩
      · obtain ⟨obj, k1, k2⟩ := hstayF n S es hmem hn b hb
        exact ⟨hH'.dis _ _ k2, (g1 b hb).2.1, (Array.getElem?_eq_some_iff.1 (hH'.frm _ _ k2)).1⟩
      · have hm : wrH h (wrOf π2 Lπ Lo) m ≠ none := hm
        by_cases hm2 : m ∈ Lπ
        · obtain ⟨i2, hi2⟩ := List.mem_iff_getElem?.1 hm2
          obtain ⟨blk, hblk⟩ := Option.ne_none_iff_exists'.1 hm
          obtain ⟨j2, b2, k1, k2, _⟩ := inside m i2 hi2 _ hblk
          obtain ⟨y', hy', hr⟩ := hH'.live j2 b2 k2
          have := hin2 j2 m k1
          rw [hy, hy'] at this; obtain rfl := Option.some.inj this
          intro hbS
          obtain ⟨obj, _, k3⟩ := hstayF n S es hmem hn _ hbS
          rcases hr with ⟨h00, _⟩ | ⟨_, _, k4, _⟩
          · omega
          · rw [k4] at k3; cases k3
        · rw [hwr2 m hm2] at hm
          obtain ⟨blk, hblk⟩ := Option.ne_none_iff_exists'.1 hm
          obtain ⟨y', hy', _⟩ := hH.live m blk hblk
          have := hle2 m y' hy'
          rw [hy] at this; obtain rfl := Option.some.inj this
          exact g2 m y hm hy' h0y
      · have hm : wrH h (wrOf π2 Lπ Lo) m = some (.fam S2 es2) := hm
        by_cases hm2 : m ∈ Lπ
        · obtain ⟨i2, hi2⟩ := List.mem_iff_getElem?.1 hm2
          obtain ⟨j2, b2, k1, k2, k3⟩ := inside m i2 hi2 _ hm
          obtain ⟨es3, rfl, _⟩ := renB_fam k3.symm
          intro hb2
          obtain ⟨obj, _, k4⟩ := hstayF n S es hmem hn b hb
          rw [inS j2 S2 es3 b k2 hb2] at k4; cases k4
        · rw [hwr2 m hm2] at hm
          exact g3 m S2 es2 hmn hm b hb
      · rcases hc with rfl | hc
        · rw [hH'.frm _ _ hxF]
          obtain ⟨obj, k1, k2, _⟩ := hstay n _ x hmem hn hx g0
          rw [hxF] at k2; obtain rfl := Option.some.inj k2
          exact k1.symm
        · obtain ⟨obj, k1, k2⟩ := hstayF n S es hmem hn c hc
          rw [hH'.frm _ _ k2, k1]
  rotate_right 2
  · intro n blk hn
    have hn : wrH h (wrOf π2 Lπ Lo) n = some blk := hn
    by_cases hmem : n ∈ Lπ
    · obtain ⟨i, hi⟩ := List.mem_iff_getElem?.1 hmem
      obtain ⟨j, e1, e2, e3, e4⟩ := emb i n hi
      have hil : i < Lo.length := by rw [← hLl]; exact (List.getElem?_eq_some_iff.1 hi).1
      have hb := hwr1 i n _ hi (List.getElem?_eq_getElem hil)
      rw [hn] at hb
      cases e : Lo[i] with
      | none => rw [e] at hb; cases hb
      | some b =>
        rw [e] at hb
        obtain rfl : blk = renB π2 b := by simpa using hb
        have hob : hout[j]? = some (some b) := by rw [← e2, List.getElem?_eq_getElem hil, e]
        have hlv : hOf hout j = some b := by unfold hOf; rw [List.getD_eq_getElem?_getD, hob]; rfl
        obtain ⟨x, hx, hr⟩ := hH'.live j b hlv
        refine ⟨x, by rw [hin2 j n e1]; exact hx, ?_⟩
        rcases hr with ⟨h0, hg⟩ | ⟨h0, h1, h2, o, h3, h4⟩
        · exact .inl ⟨h0, by rw [ghost_renB] at *; exact hg⟩
        · exact .inr ⟨h0, h1, hFn _ h2, o, h3, h4.fwd hsee' (hundo j b hob)⟩
    · rw [hwr2 n hmem] at hn
      obtain ⟨x, hx, hr⟩ := hH.live n blk hn
      refine ⟨x, hle2 n x hx, ?_⟩
      rcases hr with hr | ⟨h0, h1, h2, _, _, _⟩
      · exact .inl hr
      · obtain ⟨obj, _, g2, g3⟩ := hstay n blk x hmem hn hx h0
        exact .inr ⟨h0, hH'.dis _ _ g2, h2, obj, hH'.frm _ _ g2, g3.mono hM hle2⟩
  · intro p q x y hp hq hx hy h0x h0y hb
    have inside : ∀ (n i : Nat) (z : Own), Lπ[i]? = some n → wrH h (wrOf π2 Lπ Lo) n ≠ none → ρ2 n = some z → 0 < z.R → ∃ j, π2[j]? = some n ∧ hOf hout j ≠ none ∧ ρ' j = some z ∧ frameOf2 M F ρ h πf w z.b = none := by
      intro n i z hi hne hz h0
      obtain ⟨j, e1, e2, e3, e4⟩ := emb i n hi
      have hil : i < Lo.length := by rw [← hLl]; exact (List.getElem?_eq_some_iff.1 hi).1
      have hb := hwr1 i n _ hi (List.getElem?_eq_getElem hil)
      have hz' : ρ' j = some z := by rw [← hin2 j n e1]; exact hz
      cases e : Lo[i] with
      | none => rw [e] at hb; exact absurd hb hne
      | some b =>
        have hob : hout[j]? = some (some b) := by rw [← e2, List.getElem?_eq_getElem hil, e]
        have hlv : hOf hout j = some b := by unfold hOf; rw [List.getD_eq_getElem?_getD, hob]; rfl
        obtain ⟨x, hx, hr⟩ := hH'.live j b hlv
        rw [hz'] at hx; obtain rfl := Option.some.inj hx
        rcases hr with ⟨h00, _⟩ | ⟨_, _, h2, _⟩
        · omega
        · exact ⟨j, e1, by rw [hlv]; simp, hz', h2⟩
    have outside : ∀ (n : Nat) (z : Own), n ∉ Lπ → wrH h (wrOf π2 Lπ Lo) n ≠ none → ρ2 n = some z → 0 < z.R → h n ≠ none ∧ ρ n = some z ∧ frameOf2 M F ρ h πf w z.b ≠ none := by
      intro n z hn hne hz h0
      rw [hwr2 n hn] at hne
      obtain ⟨blk, hblk⟩ := Option.ne_none_iff_exists'.1 hne
      obtain ⟨x, hx, _⟩ := hH.live n blk hblk
      have := hle2 n x hx
      rw [hz] at this; obtain rfl := Option.some.inj this
      obtain ⟨obj, _, g2, _⟩ := hstay n blk _ hn hblk hx h0
      exact ⟨hne, hx, by rw [g2]; simp⟩
    by_cases hpm : p ∈ Lπ <;> by_cases hqm : q ∈ Lπ
    · obtain ⟨i, hi⟩ := List.mem_iff_getElem?.1 hpm
      obtain ⟨j, hj⟩ := List.mem_iff_getElem?.1 hqm
      obtain ⟨i', a0, a1, a2, a3⟩ := inside p i x hi hp hx h0x
      obtain ⟨j', b0, b1, b2, b3⟩ := inside q j y hj hq hy h0y
      have := hH'.sep i' j' x y a1 b1 a2 b2 h0x h0y hb
      subst this
      rw [a0] at b0; exact Option.some.inj b0
    · obtain ⟨i, hi⟩ := List.mem_iff_getElem?.1 hpm
      obtain ⟨i', a0, a1, a2, a3⟩ := inside p i x hi hp hx h0x
      obtain ⟨b1, b2, b3⟩ := outside q y hqm hq hy h0y
      rw [← hb] at b3; exact absurd a3 b3
    · obtain ⟨j, hj⟩ := List.mem_iff_getElem?.1 hqm
      obtain ⟨j', a0, a1, a2, a3⟩ := inside q j y hj hq hy h0y
      obtain ⟨b1, b2, b3⟩ := outside p x hpm hp hx h0x
      rw [hb] at b3; exact absurd a3 b3
    · obtain ⟨a1, a2, a3⟩ := outside p x hpm hp hx h0x
      obtain ⟨b1, b2, b3⟩ := outside q y hqm hq hy h0y
      exact hH.sep p q x y a1 b1 a2 b2 h0x h0y hb
  · have hn : nx + 8 ≤ n := hn
    show ρ2 n = none
    rw [hout2 n ?_]
    · exact hfr n (by omega)
    · intro hm
      obtain ⟨i, hi⟩ := List.mem_iff_getElem?.1 hm
      rcases Nat.lt_or_ge i π.length with h1 | h1
      · rw [get1 i h1] at hi
        have := s3 n (List.mem_of_getElem? hi); omega
      · have hi2 : i < hout.length := by rw [← hlen2]; exact (List.getElem?_eq_some_iff.1 hi).1
        obtain ⟨j, rfl⟩ : ∃ j, i = π.length + j := ⟨i - π.length, by omega⟩
        rw [get2 j (by omega)] at hi
        have := Option.some.inj hi; omega

/-- Is it nil? -/
def isNilS : SV → Option Bool
  | .op _ b => some (!b)
  | .ptr _ _ _ => some false
  | .d (.val (.pointer none)) => some true
  | _ => none
theorem isNil_val {M : Imm} {ρ : Names} {x : SV} {b : Bool} (h : isNilS x = some b) {v : Value} (hv : VR M ρ x v) : ∃ p : Option Addr, v = .pointer p ∧ p.isNone = b := by
  unfold isNilS at h
  split at h
  · cases h; cases hv with
    | opY => exact ⟨_, rfl, rfl⟩
    | opN => exact ⟨_, rfl, rfl⟩
  · cases h; cases hv with | ptr => exact ⟨_, rfl, rfl⟩
  · cases h; cases hv with | d _ _ h => cases h; exact ⟨none, rfl, rfl⟩
  · cases h
theorem nilP_ok {C : Ctx} {o : Oper} {nm : Nat} {v : Operand → SV} {ty ty' : TypeId} {y : Operand} {b : Bool} (ho : o.op = .binOp .eql ty y (.const (.pointer none)) ty') (ht : C.P.underlying ty = some (.pointer (C.P.pointee ty))) (hy : isNilS (v y) = some b) : OpOK C o nm v [] (fun x z => x = SV.b b ∧ z = []) := by
  refine ok_pure fun M F ρ a h w hv hH _ => ⟨.bool b, ?_, .d _ _ (.val _ rfl)⟩
  obtain ⟨p, hp, rfl⟩ := isNil_val hy (hv y (by rw [ho]; exact mem_ops2 (.inl rfl)))
  have hc : a.eval (.const (.pointer none)) = .pointer none := rfl
  have he := run_equal_pointer_nil (P := C.P) w ty p ht
  have hg : (eqGuard .eql ty y (.const (.pointer none)) (.pointer p) (.pointer none)).run C.P w = .ok () w := by rfl
  have hb : (binOp .eql ty (.pointer p) (.pointer none)).run C.P w = .ok (.bool p.isNone) w := by
    simp only [binOp]; simp [he]
  unfold execOp
  simp only [ho, hp, hc, Sem.run_bind, hg, hb, Result.andThen_ok, Sem.run_pure]
section
variable {C : Ctx} {ops : List Oper} {i : Nat} {o : Oper} {l : List Oper} {t : Nat → SV} {h h' : Heap} {nx : Nat} {K : St → Prop} {acc : List FP}
theorem sNilP {ty ty' : TypeId} {y : Operand} {b : Bool} (d nm i' : Nat) (hi : i + 1 = i') (hnm : nx + 8 * i = nm) (hg : o.guard = none) (hdst : o.dst = some d) (hd : Nat.blt d C.sz = true) (ho : o.op = .binOp .eql ty y (.const (.pointer none)) ty') (ht : C.P.underlying ty = some (.pointer (C.P.pointee ty))) (hy : isNilS (opv C t y) = some b)
    (k : wops C ops i' l ⟨upd t d (SV.b b), h, nx⟩ none K) : wops C ops i (o :: l) ⟨t, h, nx⟩ none K := by
  subst hi; subst hnm
  refine st_ok (σ := ⟨t, h, nx⟩) hg (by unfold dstOK; rw [hdst]; exact hd) (nilP_ok ho ht hy) (fun p hp => by cases hp) rfl ?_
  unfold St.app; rw [hdst]; exact k
theorem dNilP {ty ty' : TypeId} {y : Operand} {b : Bool} (d nm i' : Nat) (hi : i + 1 = i') (hnm : nx + 8 * i = nm) (hg : o.guard = none) (hdst : o.dst = some d) (hd : Nat.blt d C.sz = true) (ho : o.op = .binOp .eql ty y (.const (.pointer none)) ty') (ht : C.P.underlying ty = some (.pointer (C.P.pointee ty))) (hy : isNilS (opv C t y) = some b)
    (k : wops C ops i' l ⟨upd t d (SV.b b), h, nx⟩ (some (acc ++ [([], [])])) K) : wops C ops i (o :: l) ⟨t, h, nx⟩ (some acc) K := by
  subst hi; subst hnm
  refine st_ok (σ := ⟨t, h, nx⟩) hg (by unfold dstOK; rw [hdst]; exact hd) (nilP_ok ho ht hy) (fun p hp => by cases hp) rfl ?_
  unfold St.app; rw [hdst]; exact k
end
theorem op_ptr {M : Imm} {ρ : Names} {n : Nat} {v : Value} (h : VR M ρ (.op n true) v) : VR M ρ (.ptr n 0 0) v := by
  cases h with | opY _ x hx => have := VR.ptr (M := M) n 0 0 x hx; simpa using this
theorem ptr_op {M : Imm} {ρ : Names} {n : Nat} {v : Value} (h : VR M ρ (.ptr n 0 0) v) : VR M ρ (.op n true) v := by
  cases h with | ptr _ _ _ x hx => simpa using VR.opY (M := M) n x hx
theorem nil_op {M : Imm} {ρ : Names} {n : Nat} {v : Value} (h : VR M ρ (.d (.val (.pointer none))) v) : VR M ρ (.op n false) v := by
  cases h with | d _ _ h => cases h; exact .opN n
theorem op_nil {M : Imm} {ρ : Names} {n : Nat} {v : Value} (h : VR M ρ (.op n false) v) : VR M ρ (.d (.val (.pointer none))) v := by
  cases h with | opN => exact .d _ _ (.val _ rfl)
/-- A cell of a block, told in another way. -/
theorem ccell {C : Ctx} {c : Code} {Q : Exit → St → Prop} {t : Nat → SV} {h : Heap} {nx : Nat} (n j : Nat) (s' : SV) {ty k : Nat} {xs : List SV} {s : SV} (hn : h n = some (.cells ty k xs)) (hj : xs[j]? = some s) (hw : ∀ M ρ v, VR M ρ s v → VR M ρ s' v)
    (kk : W C c Q ⟨t, upd h n (some (.cells ty k (xs.set j s'))), nx⟩) : W C c Q ⟨t, h, nx⟩ := by
  intro M F pin ρ a w hsr
  refine kk M F pin ρ a w ⟨⟨hsr.tm, hsr.sz, hsr.df, hsr.hr.swap n hn (b' := .cells ty k (xs.set j s')) (fun x obj hb => ?_) (fun h => by cases h), hsr.pn, hsr.pm, hsr.gl⟩, hsr.fr⟩
  cases obj with
  | cells cur T fz =>
    obtain ⟨h1, h2, h3, h4, h5, h6⟩ := hb
    refine ⟨h1, h2, h3, h4, by rw [List.length_set]; exact h5, fun i q hq => ?_⟩
    rw [List.getElem?_set] at hq
    split at hq
    · next e =>
      split at hq
      · cases hq; subst e
        obtain ⟨v, hv, hr⟩ := h6 j s hj
        exact ⟨v, hv, hw _ _ _ hr⟩
      · cases hq
    · exact h6 i q hq
  | _ => exact hb.elim
/-- Rows of data, told more weakly. -/
theorem rowsw {C : Ctx} {c : Code} {Q : Exit → St → Prop} {t : Nat → SV} {h : Heap} {nx : Nat} (n L' : Nat) (g : Nat → Nat → D) {ty k L : Nat} {f : Nat → Nat → D} (hn : h n = some (.rows ty k L f)) (hl : L = L') (hf : ∀ i c, i < L → c < k → ∀ M v, DR M (f i c) v → DR M (g i c) v)
    (kk : W C c Q ⟨t, upd h n (some (.rows ty k L' g)), nx⟩) : W C c Q ⟨t, h, nx⟩ := by
  subst hl
  intro M F pin ρ a w hsr
  refine kk M F pin ρ a w ⟨⟨hsr.tm, hsr.sz, hsr.df, hsr.hr.swap n hn (b' := .rows ty k L g) (fun x obj hb => ?_) (fun h => ?_), hsr.pn, hsr.pm, hsr.gl⟩, hsr.fr⟩
  · cases obj with
    | cells cur T fz =>
      obtain ⟨h1, h2, h3, h4, h5, h6⟩ := hb
      exact ⟨h1, h2, h3, h4, h5, fun i c hi hc => let ⟨v, hv, hr⟩ := h6 i c hi hc; ⟨v, hv, hf i c hi hc _ _ hr⟩⟩
    | _ => exact hb.elim
  · cases L
    · rfl
    · cases h
/-- A block laid still, for every value that names it. -/
theorem freeze_all {M F : Imm} {ρ : Names} {h : Heap} {w : World} (hH : HR M F ρ h w) {n ty k L len : Nat} {f : Nat → Nat → D} (hn : h n = some (.rows ty k L f)) (hl : len ≤ L) :
    ∃ M', M.le M' ∧ HR M' F ρ (upd h n none) w ∧ ∀ v, VR M ρ (.sl n 0 len) v → VR M' ρ (.d (.vec k len f)) v := by
  obtain ⟨x, hx, hr⟩ := hH.live n _ hn
  rcases hr with ⟨h00, _⟩ | ⟨h0, hM, hF, o, h3, h4⟩
  · refine ⟨M, Imm.le_refl _, hH.drop n, fun v hv => ?_⟩
    cases hv with
    | sl0 _ _ x' hx' hR aa => exact .d _ _ (.vec0 _ _ _ _)
    | sl _ _ _ x' hx' hlR hR h0 => rw [hx] at hx'; obtain rfl := Option.some.inj hx'; omega
  · cases o with
    | cells cur T fz =>
      obtain ⟨rfl, rfl, g1, g2, g3, g4⟩ := h4
      let M' : Imm := fun b => if b = x.b then some (.cells cur T (0, 0)) else M b
      have hle : M.le M' := by
        intro b o hb
        have : b ≠ x.b := by rintro rfl; rw [hM] at hb; cases hb
        simp [M', this, hb]
      refine ⟨M', hle, hH.stills hle (fun m b hm => ?_) ?_ ?_ (fun m b y hm hy q0 => ?_) (fun m S es hm b hb => ?_), fun v hv => ?_⟩
      · rw [upd_eq] at hm; split at hm
        · cases hm
        · exact hm
      · intro b o hb
        by_cases e : b = x.b
        · subst e; simp [M'] at hb; subst hb; exact h3
        · simp [M', e] at hb; exact hH.imm b o hb
      · intro b o hb
        have : b ≠ x.b := by rintro rfl; rw [hF] at hb; cases hb
        simp [M', this]; exact hH.dis b o hb
      · rw [upd_eq] at hm; split at hm
        · cases hm
        · next e =>
          obtain ⟨y', hy', hr⟩ := hH.live m b hm
          rw [hy] at hy'; obtain rfl := Option.some.inj hy'
          have : y.b ≠ x.b := fun hb => e (hH.sep m n y x (by rw [hm]; simp) (by rw [hn]; simp) hy hx q0 h0 hb)
          rcases hr with ⟨h00, _⟩ | ⟨_, q1, _⟩
          · omega
          · simp [M', this, q1]
      · rw [upd_eq] at hm; split at hm
        · cases hm
        · obtain ⟨_, _, _, g1, g2, _⟩ := hH.fam m S es hm
          have : b ≠ x.b := fun e => g2 n x (by rw [hn]; simp) hx h0 (e ▸ hb)
          simp [M', this, (g1 b hb).1]
      · cases hv with
        | sl0 _ _ x' hx' hR aa => exact .d _ _ (.vec0 _ _ _ _)
        | sl _ _ _ x' hx' hlR hR hR0 =>
          rw [hx] at hx'; obtain rfl := Option.some.inj hx'
          subst g1
          have hget : ∀ i c, i < len → c < x.k → ∃ v, cur[i * x.k + c]? = some v ∧ DR M (f i c) v := fun i c hi hc => g4 i c (by omega) hc
          refine .d _ _ (.vec x.k len f x.b (0 * x.k) _ cur T (0, 0) (fun i c => (cur[i * x.k + c]?).getD undef) (by simp [M']) (by omega) (fun i c hi hc => ?_) (fun i c hi hc => ?_))
          · obtain ⟨v, v1, _⟩ := hget i c hi hc
            rw [Nat.zero_mul, Nat.zero_add, v1]; rfl
          · obtain ⟨v, v1, v2⟩ := hget i c hi hc
            simp only [v1, Option.getD_some]; exact v2.mono hle
    | _ => exact h4.elim
/-- A block that a cell names, laid still. -/
theorem cfreeze {C : Ctx} {c : Code} {Q : Exit → St → Prop} {t : Nat → SV} {h : Heap} {nx : Nat} (m j n len : Nat) {ty k L ty' k' : Nat} {f : Nat → Nat → D} {xs : List SV} (hm : h m = some (.cells ty' k' xs)) (hj : xs[j]? = some (.sl n 0 len)) (hn : h n = some (.rows ty k L f)) (hl : len ≤ L) (hne : Nat.beq m n = false)
    (kk : W C c Q ⟨t, upd (upd h n none) m (some (.cells ty' k' (xs.set j (.d (.vec k len f))))), nx⟩) : W C c Q ⟨t, h, nx⟩ := by
  intro M F pin ρ a w hsr
  have hmn : m ≠ n := fun e => by subst e; simp at hne
  obtain ⟨M', hle, hH, hv⟩ := freeze_all hsr.hr hn hl
  have hm' : upd h n none m = some (.cells ty' k' xs) := by rw [upd_other _ _ _ _ hmn]; exact hm
  -- the cell's own value is one that the block's name told before
  have hcell : ∀ x, ρ m = some x → ∃ cur, w.heap[x.b]? = some (.cells cur ty' (0, 0)) ∧ 0 < x.R ∧ x.k = k' ∧ cur.size = x.R * k' ∧ xs.length ≤ cur.size ∧ ∀ (i : Nat) (s : SV), xs[i]? = some s → ∃ v, cur[i]? = some v ∧ VR M ρ s v := fun x hx => hsr.hr.cells hm hx
  have hH2 : HR M' F ρ (upd (upd h n none) m (some (.cells ty' k' (xs.set j (.d (.vec k len f)))))) w := by
    obtain ⟨x, hx, hr⟩ := hH.live m _ hm'
    obtain ⟨cur, c1, c2, c3, c4, c5, c6⟩ := hcell x hx
    refine hH.put m x (by rw [hm']; simp) hx c2 _ (.cells cur ty' (0, 0)) c1 (fun b hb => rfl) ⟨rfl, rfl, c3, c4, by rw [List.length_set]; exact c5, fun i q hq => ?_⟩
    rw [List.getElem?_set] at hq
    split at hq
    · next e =>
      split at hq
      · cases hq; subst e
        obtain ⟨v, hv1, hv2⟩ := c6 j _ hj
        exact ⟨v, hv1, hv v hv2⟩
      · cases hq
    · obtain ⟨v, hv1, hv2⟩ := c6 i q hq
      exact ⟨v, hv1, hv2.mono hle (Names.le_refl _)⟩
  refine Code.wp_mono ?_ (kk M' F pin ρ a w ⟨⟨fun i => (hsr.tm i).mono hle (Names.le_refl _), hsr.sz, hsr.df, hH2, hsr.pn, hsr.pm, fun g ρ => (hsr.gl g ρ).mono hle (Names.le_refl _)⟩, hsr.fr⟩)
  rintro e a' w' ⟨M2, ρ2, σ2, h1, h2, h3, h4⟩
  exact ⟨M2, ρ2, σ2, Imm.le_trans hle h1, h2, h3, h4⟩
def codeAt : List Nat → Code → Code
  | 0 :: p, .seq x _ => codeAt p x
  | 1 :: p, .seq _ y => codeAt p y
  | 0 :: p, .cond _ x _ => codeAt p x
  | 1 :: p, .cond _ _ y => codeAt p y
  | 0 :: p, .block _ x => codeAt p x
  | 0 :: p, .loop x => codeAt p x
  | [], c => c
  | _, _ => .skip
end Go.Proofs.Ytlhncpbcbpdcfaa.Nice
