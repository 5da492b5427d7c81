/- Calls, beside others: what a function answers; how its body shows it. -/
import Derived.Test.YtpdojmebloekgaaDoorZCoC
namespace Go.Proofs.YtpdojmebloekgaaDoor.Nice.Co
open Go Go.Conc
set_option linter.unusedVariables false
set_option linter.unusedSimpArgs false

/-- What a callee is handed, in its own names. -/
theorem call_in {M F : Imm} {ρ : Names} {h : Heap} {w : World} {π : List Nat} {hin : List Blk} (hH : HR M F ρ h w) (hπ : π.length = hin.length) (hnd : nodupB π = true) (hbs : ∀ p, p ∈ bsOf π π hin → h p.1 = some p.2) (hu : hUnder hin.length (hin.map some) = true) :
    HR M (frameOf M F ρ h π w) (back π ρ) (hOf (hin.map some)) w := by
  have hlive : ∀ (i : Nat) (b : Blk), hin[i]? = some b → ∃ n, π[i]? = some n ∧ h n = some (renB π b) := by
    intro i b hb
    obtain ⟨n, hn, hm⟩ := bsOf_get (π := π) π hin hπ i b hb
    exact ⟨n, hn, hbs _ hm⟩
  have hsome : ∀ (i n : Nat), π[i]? = some n → ∃ b, hin[i]? = some b ∧ h n = some (renB π b) ∧ ∃ x, ρ n = some x := by
    intro i n hn
    have hi : i < hin.length := by rw [← hπ]; exact (List.getElem?_eq_some_iff.1 hn).1
    obtain ⟨n', hn', hb⟩ := hlive i _ (List.getElem?_eq_getElem hi)
    rw [hn] at hn'; obtain rfl := Option.some.inj hn'
    obtain ⟨x, hx, _⟩ := hH.live n _ hb
    exact ⟨_, List.getElem?_eq_getElem hi, hb, x, hx⟩
  have hundb : ∀ (i : Nat) (b : Blk), hin[i]? = some b → b.under hin.length = true := by
    have : ∀ (l : List Blk) (n : Nat), hUnder n (l.map some) = true → ∀ (i : Nat) (b : Blk), l[i]? = some b → b.under n = true := by
      intro l n
      induction l with
      | nil => intro _ i b hb; simp at hb
      | cons c l ih =>
        intro hl i b hb
        simp [hUnder] at hl
        cases i with
        | zero => simp at hb; subst hb; exact hl.1
        | succ i => exact ih hl.2 i b (by simpa using hb)
    exact this hin _ hu
  have hFc : ∀ b, F b = none → Passed ρ h π b → frameOf M F ρ h π w b = none := by
    intro b hb hex
    unfold frameOf
    rw [if_neg (by simp [hb]), if_neg (fun h => h.2 hex)]
  refine ⟨hH.imm, ?_, ?_, ?_, ?_, ?_⟩
  rotate_right
  · intro i S es hi
    have hi' : hin[i]? = some (.fam S es) := by
      have := hOf_some hi
      simp at this; exact this
    obtain ⟨n, hn, hb⟩ := hlive i _ hi'
    obtain ⟨x, hx, g0, g1, g2, g3, g4⟩ := hH.fam n S _ hb
    refine ⟨x, by simp [back, hn, hx], g0, fun b hbS => ⟨(g1 b hbS).1, hFc b (g1 b hbS).2.1 (.inr ⟨i, n, S, _, hn, hb, hbS⟩), (g1 b hbS).2.2⟩, fun p y hp hy h0y => ?_, fun p S' es' hpi hp => ?_, FR.ren.1 g4⟩
    · obtain ⟨bp, hbp⟩ := Option.ne_none_iff_exists'.1 hp
      obtain ⟨np, hnp, hhp⟩ := hlive p bp (by have := hOf_some hbp; simp at this; exact this)
      simp only [back, hnp, Option.bind_some] at hy
      exact g2 np y (by rw [hhp]; simp) hy h0y
    · obtain ⟨np, hnp, hhp⟩ := hlive p _ (by have := hOf_some hp; simp at this; exact this)
      refine g3 np S' _ (fun e => hpi ?_) hhp
      subst e
      exact nodupB_inj hnd p i np hnp hn
  · intro b o hb
    unfold frameOf at hb
    split at hb
    · exact hH.frm b o hb
    · split at hb
      · exact hb
      · cases hb
  · intro b o hb
    unfold frameOf at hb
    split at hb
    · exact hH.dis b o hb
    · split at hb
      · next h1 => exact h1.1
      · cases hb
  · intro i b hi
    have hi' : hin[i]? = some b := by
      have := hOf_some hi
      simp at this; exact this
    obtain ⟨n, hn, hb⟩ := hlive i b hi'
    obtain ⟨x, hx, hr⟩ := hH.live n _ hb
    refine ⟨x, by simp [back, hn, hx], ?_⟩
    rcases hr with ⟨h0, hg⟩ | ⟨h0, h1, h2, o, h3, h4⟩
    · exact .inl ⟨h0, by rw [ghost_renB] at *; exact hg⟩
    · exact .inr ⟨h0, h1, hFc _ h2 (.inl ⟨i, n, x, hn, hx, h0, rfl⟩), o, h3, h4.back (by rw [hπ]; exact hundb i b hi')⟩
  · intro p q x y hp hq hx hy h0x h0y hb
    obtain ⟨bp, hbp⟩ := Option.ne_none_iff_exists'.1 hp
    obtain ⟨bq, hbq⟩ := Option.ne_none_iff_exists'.1 hq
    obtain ⟨np, hnp, hhp⟩ := hlive p bp (by have := hOf_some hbp; simp at this; exact this)
    obtain ⟨nq, hnq, hhq⟩ := hlive q bq (by have := hOf_some hbq; simp at this; exact this)
    simp only [back, hnp, hnq, Option.bind_some] at hx hy
    have := hH.sep np nq x y (by rw [hhp]; simp) (by rw [hhq]; simp) hx hy h0x h0y hb
    subst this
    exact nodupB_inj hnd p q np hnp hnq

/-- What a callee hands back, in the caller's names. -/
theorem call_out {M M' Fs Fe Fc : Imm} {ρ ρ' : Names} {h : Heap} {w w' : World} {π : List Nat} {nm : Nat} {hin : List Blk} {r : SV} {hout : List (Option Blk)} {u : Value} (hH : HR M Fs ρ h w) (hπ : π.length = hin.length) (hnd : nodupB π = true) (hbs : ∀ p, p ∈ bsOf π π hin → h p.1 = some p.2)
    (hu : hUnder hin.length (hin.map some) = true) (hfr : ∀ n, nm ≤ n → n < nm + 8 → ρ n = none) (hFle : ∀ b o, Fe b = some o → Fc b = some o) (hFn : ∀ b, Fc b = none → Fe b = none) (hFs : ∀ b o, w.heap[b]? = some o → M b = none → Fs b = none → Fe b = none)
    (hFk : ∀ b o, w.heap[b]? = some o → M b = none → Fs b = none → ¬ Passed ρ h π b → Fc b = some o) (hM : M.le M') (hρ : (back π ρ).le ρ') (hv : VR M' ρ' r u) (hH' : HR M' Fc ρ' (hOf hout) w') (hok : okOut hin.length r hout = true) :
    ∃ ρ2 π2, π2 = π ++ newNames nm (hout.length - hin.length) ∧ ρ.le ρ2 ∧ (∀ n, n < nm ∨ nm + 8 ≤ n → ρ2 n = ρ n) ∧ VR M' ρ2 (ren π2 r) u ∧ HR M' Fe ρ2 (wrH h (wrOf π2 π2 hout)) w' := by
  have hlive : ∀ (i : Nat) (b : Blk), hin[i]? = some b → ∃ n, π[i]? = some n ∧ h n = some (renB π b) := by
    intro i b hb
    obtain ⟨n, hn, hm⟩ := bsOf_get (π := π) π hin hπ i b hb
    exact ⟨n, hn, hbs _ hm⟩
  have hsome : ∀ (i n : Nat), π[i]? = some n → ∃ b, hin[i]? = some b ∧ h n = some (renB π b) ∧ ∃ x, ρ n = some x := by
    intro i n hn
    have hi : i < hin.length := by rw [← hπ]; exact (List.getElem?_eq_some_iff.1 hn).1
    obtain ⟨n', hn', hb⟩ := hlive i _ (List.getElem?_eq_getElem hi)
    rw [hn] at hn'; obtain rfl := Option.some.inj hn'
    obtain ⟨x, hx, _⟩ := hH.live n _ hb
    exact ⟨_, List.getElem?_eq_getElem hi, hb, x, hx⟩
  have hundb : ∀ (i : Nat) (b : Blk), hin[i]? = some b → b.under hin.length = true := by
    have : ∀ (l : List Blk) (n : Nat), hUnder n (l.map some) = true → ∀ (i : Nat) (b : Blk), l[i]? = some b → b.under n = true := by
      intro l n
      induction l with
      | nil => intro _ i b hb; simp at hb
      | cons c l ih =>
        intro hl i b hb
        simp [hUnder] at hl
        cases i with
        | zero => simp at hb; subst hb; exact hl.1
        | succ i => exact ih hl.2 i b (by simpa using hb)
    exact this hin _ hu
  simp only [okOut, Bool.and_eq_true] at hok
  obtain ⟨hle, hle8, hur, huo⟩ := hok
  have hle := Nat.le_of_ble_eq_true hle
  have hle8 := Nat.le_of_ble_eq_true hle8
  obtain ⟨k, hk⟩ : ∃ k, hout.length = hin.length + k := ⟨hout.length - hin.length, by omega⟩
  have hk8 : k ≤ 8 := by omega
  have hks : hout.length - hin.length = k := by omega
  generalize hπ2 : π ++ newNames nm (hout.length - hin.length) = π2
  rw [hks] at hπ2
  have hlen2 : π2.length = hout.length := by rw [← hπ2, List.length_append, newNames_length, hπ, hk]
  have get1 : ∀ i, i < hin.length → π2[i]? = π[i]? := fun i hi => by rw [← hπ2, List.getElem?_append_left (by omega)]
  have get2 : ∀ j, j < k → π2[hin.length + j]? = some (nm + j) := fun j hj => by
    rw [← hπ2, List.getElem?_append_right (by omega), show hin.length + j - π.length = j by omega, newNames_get k nm j hj]
  -- the caller's new names
  let ρ2 : Names := fun n => if nm ≤ n ∧ n < nm + k then ρ' (hin.length + (n - nm)) else ρ n
  have hρ2 : ∀ n, ρ2 n = if nm ≤ n ∧ n < nm + k then ρ' (hin.length + (n - nm)) else ρ n := fun n => rfl
  have hle2 : ρ.le ρ2 := by
    intro n x hx
    rw [hρ2, if_neg]
    · exact hx
    · rintro ⟨h1, h2⟩; rw [hfr n h1 (by omega)] at hx; cases hx
  have hsee : ∀ (i n : Nat), π2[i]? = some n → ρ2 n = ρ' i := by
    intro i n hn
    rcases Nat.lt_or_ge i hin.length with hi | hi
    · rw [get1 i hi] at hn
      obtain ⟨b, _, _, x, hx⟩ := hsome i n hn
      rw [hle2 n x hx, hρ i x (by simp [back, hn, hx])]
    · have hi2 : i < hout.length := by rw [← hlen2]; exact (List.getElem?_eq_some_iff.1 hn).1
      obtain ⟨j, rfl⟩ : ∃ j, i = hin.length + j := ⟨i - hin.length, by omega⟩
      rw [get2 j (by omega)] at hn
      obtain rfl := Option.some.inj hn
      rw [hρ2, if_pos ⟨by omega, by omega⟩]
      congr 1; omega
  have hsee' : ∀ i, i < hout.length → ρ2 (π2.getD i 0) = ρ' i := by
    intro i hi
    refine hsee i _ ?_
    rw [List.getD_eq_getElem?_getD, List.getElem?_eq_getElem (by omega)]; rfl
  have hnd2 : ∀ i j n : Nat, π2[i]? = some n → π2[j]? = some n → i = j := by
    have old : ∀ (i n : Nat), i < hin.length → π2[i]? = some n → ¬ (nm ≤ n ∧ n < nm + k) := by
      intro i n hi hn ⟨h1, h2⟩
      rw [get1 i hi] at hn
      obtain ⟨_, _, _, x, hx⟩ := hsome i n hn
      rw [hfr n h1 (by omega)] at hx; cases hx
    have new : ∀ (i n : Nat), hin.length ≤ i → π2[i]? = some n → n = nm + (i - hin.length) ∧ i - hin.length < k := by
      intro i n hi hn
      have hi2 : i < hout.length := by rw [← hlen2]; exact (List.getElem?_eq_some_iff.1 hn).1
      obtain ⟨j, rfl⟩ : ∃ j, i = hin.length + j := ⟨i - hin.length, by omega⟩
      rw [get2 j (by omega)] at hn
      obtain rfl := Option.some.inj hn
      exact ⟨by omega, by omega⟩
    intro i j n hi hj
    rcases Nat.lt_or_ge i hin.length with h1 | h1 <;> rcases Nat.lt_or_ge j hin.length with h2 | h2
    · rw [get1 i h1] at hi; rw [get1 j h2] at hj; exact nodupB_inj hnd i j n hi hj
    · have := new j n h2 hj; exact absurd ⟨by omega, by omega⟩ (old i n h1 hi)
    · have := new i n h1 hi; exact absurd ⟨by omega, by omega⟩ (old j n h2 hj)
    · have a := new i n h1 hi; have b := new j n h2 hj; omega
  obtain ⟨hwr1, hwr2⟩ := wrH_wrOf (π := π2) π2 hout h hlen2 hnd2
  have hundo : ∀ (i : Nat) (b : Blk), hout[i]? = some (some b) → b.under hout.length = true := by
    have : ∀ (l : List (Option Blk)) (n : Nat), hUnder n l = true → ∀ (i : Nat) (b : Blk), l[i]? = some (some b) → b.under n = true := by
      intro l n
      induction l with
      | nil => intro _ i b hb; simp at hb
      | cons c l ih =>
        intro hl i b hb
        cases c with
        | none => cases i with
          | zero => simp at hb
          | succ i => exact ih (by simpa [hUnder] using hl) i b (by simpa using hb)
        | some c =>
          simp [hUnder] at hl
          cases i with
          | zero => simp at hb; subst hb; exact hl.1
          | succ i => exact ih hl.2 i b (by simpa using hb)
    exact this hout _ huo
  -- a block of the caller's that was not passed lies still
  have hstay : ∀ n blk x, n ∉ π2 → h n = some blk → ρ n = some x → 0 < x.R → ∃ obj, w.heap[x.b]? = some obj ∧ Fc x.b = some obj ∧ BR M ρ x blk obj := by
    intro n blk x hn hb hx h0
    obtain ⟨x', hx', hr⟩ := hH.live n blk hb
    rw [hx] at hx'; obtain rfl := Option.some.inj hx'
    rcases hr with ⟨h00, _⟩ | ⟨_, h1, h2, o, h3, h4⟩
    · omega
    · refine ⟨o, h3, ?_, h4⟩
      refine hFk _ _ h3 h1 h2 ?_
      · rintro (⟨i, m, y, hm, hy, hy0, hyb⟩ | ⟨i, m, S, es, hm, hmf, hbS⟩)
        · obtain ⟨b, _, hb2, _⟩ := hsome i m hm
          have := hH.sep n m x y (by rw [hb]; simp) (by rw [hb2]; simp) hx hy h0 hy0 hyb.symm
          subst this
          have hi : i < hin.length := by rw [← hπ]; exact (List.getElem?_eq_some_iff.1 hm).1
          exact hn (List.mem_iff_getElem?.2 ⟨i, by rw [get1 i hi]; exact hm⟩)
        · obtain ⟨_, _, _, _, g2, _⟩ := hH.fam m S es hmf
          exact g2 n x (by rw [hb]; simp) hx h0 hbS
  -- a family of the caller's that was not passed lies still
  have hstayF : ∀ n S es, n ∉ π2 → h n = some (.fam S es) → ∀ b, b ∈ S → ∃ obj, w.heap[b]? = some obj ∧ Fc b = some obj := by
    intro n S es hn hb b hbS
    obtain ⟨x, hx, g0, g1, g2, g3, _⟩ := hH.fam n S es hb
    obtain ⟨k1, k2, k3⟩ := g1 b hbS
    refine ⟨_, Array.getElem?_eq_getElem k3, ?_⟩
    refine hFk _ _ (Array.getElem?_eq_getElem k3) k1 k2 ?_
    · rintro (⟨i, m, y, hm, hy, hy0, hyb⟩ | ⟨i, m, S', es', hm, hmf, hbS'⟩)
      · obtain ⟨b', _, hb2, _⟩ := hsome i m hm
        refine g2 m y (by rw [hb2]; simp) hy hy0 ?_
        rw [hyb]; exact hbS
      · by_cases e : m = n
        · subst e
          have hi : i < hin.length := by rw [← hπ]; exact (List.getElem?_eq_some_iff.1 hm).1
          exact hn (List.mem_iff_getElem?.2 ⟨i, by rw [get1 i hi]; exact hm⟩)
        · exact g3 m S' es' e hmf b hbS hbS'
  refine ⟨ρ2, π2, rfl, hle2, ?_, hv.fwd hsee' hur, ⟨hH'.imm, fun b o hb => hH'.frm b o (hFle b o hb), fun b o hb => hH'.dis b o (hFle b o hb), ?_, ?_, ?_⟩⟩
  · intro n hn
    rw [hρ2, if_neg (by omega)]
  rotate_right
  · -- families
    have inside : ∀ (n i : Nat), π2[i]? = some n → ∀ blk, wrH h (wrOf π2 π2 hout) n = some blk → ∃ b, hOf hout i = some b ∧ blk = renB π2 b := by
      intro n i hi blk hn
      have hi2 : i < hout.length := by rw [← hlen2]; exact (List.getElem?_eq_some_iff.1 hi).1
      have hb := hwr1 i n _ hi (List.getElem?_eq_getElem hi2)
      rw [hn] at hb
      cases e : hout[i] with
      | none => rw [e] at hb; cases hb
      | some b =>
        rw [e] at hb
        refine ⟨b, ?_, by simpa using hb⟩
        unfold hOf; rw [List.getD_eq_getElem?_getD, List.getElem?_eq_getElem hi2, e]; rfl
    have fIn : ∀ (n i : Nat) S es, π2[i]? = some n → wrH h (wrOf π2 π2 hout) n = some (.fam S es) → ∃ es', hOf hout i = some (.fam S es') ∧ es = ⟨es'.es, renO π2 es'.op, es'.ly⟩ := by
      intro n i S es hi hn
      obtain ⟨b, hb, e⟩ := inside n i hi _ hn
      obtain ⟨es', rfl, he⟩ := renB_fam e.symm
      exact ⟨es', hb, he⟩
    -- the blocks of a family that was passed are not in the callee's frame; those of one that was not are
    have inS : ∀ (i : Nat) S es b, hOf hout i = some (.fam S es) → b ∈ S → Fc b = none := by
      intro i S es b hi hb
      obtain ⟨_, _, _, g1, _⟩ := hH'.fam i S es hi
      exact (g1 b hb).2.1
    intro n S es hn
    by_cases hmem : n ∈ π2
    · obtain ⟨i, hi⟩ := List.mem_iff_getElem?.1 hmem
      obtain ⟨es', hlv, rfl⟩ := fIn n i S es hi hn
      obtain ⟨x, hx, g0, g1, g2, g3, g4⟩ := hH'.fam i S es' hlv
      refine ⟨x, by rw [hsee i n hi]; exact hx, g0, fun b hb => ⟨(g1 b hb).1, hFn _ (g1 b hb).2.1, (g1 b hb).2.2⟩, fun m y hm hy h0y => ?_, fun m S2 es2 hmn hm b hb => ?_, FR.ren.2 g4⟩
      · by_cases hm2 : m ∈ π2
        · obtain ⟨j, hj⟩ := List.mem_iff_getElem?.1 hm2
          obtain ⟨blk, hblk⟩ := Option.ne_none_iff_exists'.1 hm
          obtain ⟨b, hb, _⟩ := inside m j hj _ hblk
          exact g2 j y (by rw [hb]; simp) (by rw [← hsee j m hj]; exact hy) h0y
        · rw [hwr2 m hm2] at hm
          obtain ⟨blk, hblk⟩ := Option.ne_none_iff_exists'.1 hm
          obtain ⟨y', hy', _⟩ := hH.live m blk hblk
          have := hle2 m y' hy'
          rw [hy] at this; obtain rfl := Option.some.inj this
          obtain ⟨obj, _, k2, _⟩ := hstay m blk y hm2 hblk hy' h0y
          intro hb
          rw [(g1 _ hb).2.1] at k2; cases k2
      · by_cases hm2 : m ∈ π2
        · obtain ⟨j, hj⟩ := List.mem_iff_getElem?.1 hm2
          obtain ⟨es3, hlv3, _⟩ := fIn m j S2 es2 hj hm
          exact g3 j S2 es3 (fun e => hmn (by subst e; rw [hi] at hj; exact (Option.some.inj hj).symm)) hlv3 b hb
        · rw [hwr2 m hm2] at hm
          intro hb2
          obtain ⟨obj, _, k2⟩ := hstayF m S2 es2 hm2 hm b hb2
          rw [(g1 _ hb).2.1] at k2; cases k2
    · rw [hwr2 n hmem] at hn
      obtain ⟨x, hx, g0, g1, g2, g3, g4⟩ := hH.fam n S es hn
      obtain ⟨xo, _, hxF, _⟩ := hstay n _ x hmem hn hx g0
      refine ⟨x, hle2 n x hx, g0, fun b hb => ?_, fun m y hm hy h0y => ?_, fun m S2 es2 hmn hm b hb => ?_, g4.last hM (fun c hc => ?_)⟩
      · obtain ⟨obj, k1, k2⟩ := hstayF n S es hmem hn b hb
        exact ⟨hH'.dis _ _ k2, hFs _ _ k1 (g1 b hb).1 (g1 b hb).2.1, (Array.getElem?_eq_some_iff.1 (hH'.frm _ _ k2)).1⟩
      · by_cases hm2 : m ∈ π2
        · obtain ⟨j, hj⟩ := List.mem_iff_getElem?.1 hm2
          obtain ⟨blk, hblk⟩ := Option.ne_none_iff_exists'.1 hm
          obtain ⟨b, hb, _⟩ := inside m j hj _ hblk
          obtain ⟨y', hy', hr⟩ := hH'.live j b hb
          have := hsee j m hj
          rw [hy, hy'] at this; obtain rfl := Option.some.inj this
          intro hbS
          obtain ⟨obj, _, k2⟩ := hstayF n S es hmem hn _ hbS
          rcases hr with ⟨h00, _⟩ | ⟨_, _, k3, _⟩
          · omega
          · rw [k3] at k2; cases k2
        · rw [hwr2 m hm2] at hm
          obtain ⟨blk, hblk⟩ := Option.ne_none_iff_exists'.1 hm
          obtain ⟨y', hy', _⟩ := hH.live m blk hblk
          have := hle2 m y' hy'
          rw [hy] at this; obtain rfl := Option.some.inj this
          exact g2 m y hm hy' h0y
      · by_cases hm2 : m ∈ π2
        · obtain ⟨j, hj⟩ := List.mem_iff_getElem?.1 hm2
          obtain ⟨es3, hlv3, _⟩ := fIn m j S2 es2 hj hm
          intro hb2
          obtain ⟨obj, _, k2⟩ := hstayF n S es hmem hn b hb
          rw [inS j S2 es3 b hlv3 hb2] at k2; cases k2
        · rw [hwr2 m hm2] at hm
          exact g3 m S2 es2 hmn hm b hb
      · rcases hc with rfl | hc
        · rw [hH'.frm _ _ hxF]
          obtain ⟨obj, k1, k2, _⟩ := hstay n _ x hmem hn hx g0
          rw [hxF] at k2; obtain rfl := Option.some.inj k2
          exact k1.symm
        · obtain ⟨obj, k1, k2⟩ := hstayF n S es hmem hn c hc
          rw [hH'.frm _ _ k2, k1]
  · intro n blk hn
    by_cases hmem : n ∈ π2
    · obtain ⟨i, hi⟩ := List.mem_iff_getElem?.1 hmem
      have hi2 : i < hout.length := by rw [← hlen2]; exact (List.getElem?_eq_some_iff.1 hi).1
      have hb := hwr1 i n _ hi (List.getElem?_eq_getElem hi2)
      rw [hn] at hb
      cases e : hout[i] with
      | none => rw [e] at hb; cases hb
      | some b =>
        rw [e] at hb
        obtain rfl : blk = renB π2 b := by simpa using hb
        have hob : hout[i]? = some (some b) := by rw [List.getElem?_eq_getElem hi2, e]
        have hlv : hOf hout i = some b := by unfold hOf; rw [List.getD_eq_getElem?_getD, hob]; rfl
        obtain ⟨x, hx, hr⟩ := hH'.live i b hlv
        refine ⟨x, by rw [hsee i n hi]; exact hx, ?_⟩
        rcases hr with ⟨h0, hg⟩ | ⟨h0, h1, h2, o, h3, h4⟩
        · exact .inl ⟨h0, by rw [ghost_renB] at *; exact hg⟩
        · exact .inr ⟨h0, h1, hFn _ h2, o, h3, h4.fwd hsee' (hundo i b hob)⟩
    · rw [hwr2 n hmem] at hn
      obtain ⟨x, hx, hr⟩ := hH.live n blk hn
      refine ⟨x, hle2 n x hx, ?_⟩
      rcases hr with hr | ⟨h0, h1, h2, _, _, _⟩
      · exact .inl hr
      · obtain ⟨obj, g1, g2, g3⟩ := hstay n blk x hmem hn hx h0
        exact .inr ⟨h0, hH'.dis _ _ g2, hFs _ _ g1 h1 h2, obj, hH'.frm _ _ g2, g3.mono hM hle2⟩
  · intro p q x y hp hq hx hy h0x h0y hb
    have inside : ∀ (n i : Nat) (z : Own), π2[i]? = some n → wrH h (wrOf π2 π2 hout) n ≠ none → ρ2 n = some z → 0 < z.R → hOf hout i ≠ none ∧ ρ' i = some z ∧ Fc z.b = none := by
      intro n i z hi hne hz h0
      have hi2 : i < hout.length := by rw [← hlen2]; exact (List.getElem?_eq_some_iff.1 hi).1
      have hb := hwr1 i n _ hi (List.getElem?_eq_getElem hi2)
      have hz' : ρ' i = some z := by rw [← hsee i n hi]; exact hz
      cases e : hout[i] with
      | none => rw [e] at hb; exact absurd hb hne
      | some b =>
        have hlv : hOf hout i = some b := by unfold hOf; rw [List.getD_eq_getElem?_getD, List.getElem?_eq_getElem hi2, e]; rfl
        obtain ⟨x, hx, hr⟩ := hH'.live i b hlv
        rw [hz'] at hx; obtain rfl := Option.some.inj hx
        rcases hr with ⟨h00, _⟩ | ⟨_, _, h2, _⟩
        · omega
        · exact ⟨by rw [hlv]; simp, hz', h2⟩
    have outside : ∀ (n : Nat) (z : Own), n ∉ π2 → wrH h (wrOf π2 π2 hout) n ≠ none → ρ2 n = some z → 0 < z.R → h n ≠ none ∧ ρ n = some z ∧ Fc z.b ≠ none := by
      intro n z hn hne hz h0
      rw [hwr2 n hn] at hne
      obtain ⟨blk, hblk⟩ := Option.ne_none_iff_exists'.1 hne
      obtain ⟨x, hx, _⟩ := hH.live n blk hblk
      have := hle2 n x hx
      rw [hz] at this; obtain rfl := Option.some.inj this
      obtain ⟨obj, _, g2, _⟩ := hstay n blk _ hn hblk hx h0
      exact ⟨hne, hx, by rw [g2]; simp⟩
    by_cases hpm : p ∈ π2 <;> by_cases hqm : q ∈ π2
    · obtain ⟨i, hi⟩ := List.mem_iff_getElem?.1 hpm
      obtain ⟨j, hj⟩ := List.mem_iff_getElem?.1 hqm
      obtain ⟨a1, a2, a3⟩ := inside p i x hi hp hx h0x
      obtain ⟨b1, b2, b3⟩ := inside q j y hj hq hy h0y
      have := hH'.sep i j x y a1 b1 a2 b2 h0x h0y hb
      subst this
      rw [hi] at hj; exact Option.some.inj hj
    · obtain ⟨i, hi⟩ := List.mem_iff_getElem?.1 hpm
      obtain ⟨a1, a2, a3⟩ := inside p i x hi hp hx h0x
      obtain ⟨b1, b2, b3⟩ := outside q y hqm hq hy h0y
      rw [← hb] at b3; exact absurd a3 b3
    · obtain ⟨j, hj⟩ := List.mem_iff_getElem?.1 hqm
      obtain ⟨a1, a2, a3⟩ := inside q j y hj hq hy h0y
      obtain ⟨b1, b2, b3⟩ := outside p x hpm hp hx h0x
      rw [hb] at b3; exact absurd a3 b3
    · obtain ⟨a1, a2, a3⟩ := outside p x hpm hp hx h0x
      obtain ⟨b1, b2, b3⟩ := outside q y hqm hq hy h0y
      exact hH.sep p q x y a1 b1 a2 b2 h0x h0y hb

/-- What a step lists, told by what the state knows. -/
def OwnB (ρ : Names) (h : Heap) (b : Nat) : Prop := ∃ n blk x, h n = some blk ∧ ρ n = some x ∧ 0 < x.R ∧ x.b = b
def EvB (M : Imm) (ρ : Names) (h : Heap) (e : Event) : Prop :=
  (∃ ad s, e = ⟨.cell ad, false, s⟩ ∧ (M ad.block ≠ none ∨ OwnB ρ h ad.block)) ∨ (∃ ad s, e = ⟨.cell ad, true, s⟩ ∧ OwnB ρ h ad.block) ∨ e = noRoomEvent
theorem EvB.ok {A Rd : Blks} {M F : Imm} {ρ : Names} {h : Heap} {w : World} {e : Event} (H : HR M (ext A Rd F w) ρ h w) (f : Fit A Rd F M w) (he : EvB M ρ h e) : EvOk A Rd e := by
  have own : ∀ b, OwnB ρ h b → A b := fun b ⟨n, blk, x, h1, h2, h3, h4⟩ => h4 ▸ own_live H f h1 h2 h3
  rcases he with ⟨ad, s, rfl, h1 | h1⟩ | ⟨ad, s, rfl, h1⟩ | rfl
  · exact .inl ⟨ad, s, rfl, acc_M H h1⟩
  · exact .inl ⟨ad, s, rfl, .inl (own _ h1)⟩
  · exact .inr (.inl ⟨ad, s, rfl, own _ h1⟩)
  · exact .inr (.inr rfl)
def OpEv (C : Ctx) (o : Oper) (v : Operand → SV) (bs : List (Nat × Blk)) : Prop :=
  ∀ (M F : Imm) (ρ : Names) (a : Act) (h : Heap) (w : World), (∀ x, x ∈ o.op.operands → VR M ρ (v x) (a.eval x)) → HR M F ρ h w → (∀ p, p ∈ bs → h p.1 = some p.2) → ∀ e, e ∈ (execOp a.eval o).events C.P w #[] → EvB M ρ h e

/-- An operation that yields a value or nothing, whatever it is. -/
def plainOp : Op → Bool
  | .call ⟨.builtin .len, _, _⟩ | .call ⟨.builtin .append, _, _⟩ | .call ⟨.builtin .min, _, _⟩ | .call ⟨.builtin .max, _, _⟩ => true
  | .call _ | .go _ | .defer _ | .send .. | .recv .. | .select .. => false
  | _ => true
def IsVal : Next → Prop
  | .value _ | .skip => True
  | _ => False
theorem run_isval {P : Program} {s : Sem Value} {w w' : World} {r : Next} (h : (do pure (Next.value (← s)) : Sem Next).run P w = .ok r w') : IsVal r := by
  rw [Sem.run_bind] at h
  cases e : s.run P w with
  | ok x w1 => rw [e] at h; cases h; trivial
  | halt x w1 => rw [e] at h; cases h
theorem run_isskip {P : Program} {s : Sem Unit} {w w' : World} {r : Next} (h : (do s; pure Next.skip : Sem Next).run P w = .ok r w') : IsVal r := by
  rw [Sem.run_bind] at h
  cases e : s.run P w with
  | ok x w1 => rw [e] at h; cases h; trivial
  | halt x w1 => rw [e] at h; cases h
theorem plain_run {P : Program} {o : Oper} (hp : plainOp o.op = true) {ρ : Operand → Value} {w w' : World} {r : Next} (h : (execOp ρ o).run P w = .ok r w') : IsVal r := by
  unfold execOp at h
  revert hp h
  cases o.op <;> intro hp h <;> first
    | (exact run_isval h)
    | (exact run_isskip h)
    | (cases h; trivial)
    | (cases hp)
    | skip
  case pick =>
    rw [Sem.run_bind] at h
    revert h
    cases (asBool _).run P w with
    | ok x w1 => intro h; cases h; trivial
    | halt x w1 => intro h; cases h
  case nilCheck x =>
    simp only at h
    have np : ∀ {e : RuntimeError}, (runtimePanic e : Sem Next).run P w = .ok r w' → IsVal r := by
      intro e h
      unfold runtimePanic at h
      simp only [Sem.run_bind, run_program, Result.andThen_ok] at h
      cases e <;> simp only [goPanic, Sem.run, Sem.run_bind] at h <;> first | (cases h; done) | skip
      all_goals
        revert h
        generalize (elemOf _).run P w = q
        cases q with
        | halt _ _ => intro h; cases h
        | ok t w1 =>
          intro h
          simp only [Result.andThen_ok, newVar, newRow, Sem.run_bind, newObj, Sem.run, Sem.run_pure] at h
          cases h
    split at h
    · exact np h
    · exact np h
    · exact np h
    · split at h
      · exact np h
      · rw [Sem.run_bind, run_program, Result.andThen_ok, Sem.run_bind] at h
        revert h
        generalize (nilAhead _ _ _ _).run P w = q
        cases q with
        | halt _ _ => intro h; cases h
        | ok t w1 =>
          intro h
          simp only [Result.andThen_ok] at h
          split at h
          · simp only [Sem.run_bind, unsupported, Sem.run, Result.andThen] at h; cases h
          · simp only [Sem.run_bind, Sem.run_pure, Result.andThen_ok] at h; cases h; trivial
      · cases h; trivial
    · cases h; trivial
  case call c =>
    obtain ⟨cl, xs, ts⟩ := c
    cases cl with
    | builtin bi =>
      cases bi <;> first
        | (cases hp; done)
        | (simp only [resolve, invoke, builtin, Sem.run_bind, Sem.run_pure, Result.andThen_ok] at h
           exact run_isval (by rw [Sem.run_bind]; exact h))
    | value f => cases hp
    | invoke f n => cases hp

/-- It yields a value or nothing. -/
def OpVal (C : Ctx) (o : Oper) (v : Operand → SV) (bs : List (Nat × Blk)) : Prop :=
  ∀ (M F : Imm) (ρ : Names) (a : Act) (h : Heap) (w : World), (∀ x, x ∈ o.op.operands → VR M ρ (v x) (a.eval x)) → HR M F ρ h w → (∀ p, p ∈ bs → h p.1 = some p.2) → ∀ r w', (execOp a.eval o).run C.P w = .ok r w' → IsVal r
theorem OpVal.plain {C : Ctx} {o : Oper} {v : Operand → SV} {bs : List (Nat × Blk)} (hp : plainOp o.op = true) : OpVal C o v bs := fun M F ρ a h w _ _ _ r w' hr => plain_run hp hr
/-- An operation of the lone calculus whose accesses are told. -/
theorem OpOK.of {C : Ctx} {o : Oper} {nm : Nat} {v : Operand → SV} {bs : List (Nat × Blk)} {RS : SV → List (Nat × Option Blk) → Prop} (hL : Nice.OpOK C o nm v bs RS) (hp : OpVal C o v bs) (hE : OpEv C o v bs) : OpOK C o nm v bs RS := by
  intro K A F M ρ a h w hf hv hG hH hbs hfr gd b ops i rest k cs ho hw hb hk
  refine K.step A _ w rfl fun w₁ h₁ => ?_
  have H1 := hr_rely hH hf h₁
  have f1 := fit_rely hf h₁
  have ev : ∀ e, e ∈ listed C.P b.fn a o w₁ → EvOk A K.Rd e := fun e he => (hE M _ ρ a h w₁ hv H1 hbs e (mem_listed he)).ok H1 f1
  have key := hL M _ ρ a h w₁ hv hG H1 hbs hfr
    (fun a' w' => ∃ M' ρ' u wr u', M.le M' ∧ ρ.le ρ' ∧ (∀ n, n < nm ∨ nm + 8 ≤ n → ρ' n = ρ n) ∧ RS u wr ∧ VR M' ρ' u u' ∧ HR M' (ext A K.Rd F w₁) ρ' (wrH h wr) w' ∧ Same w₁ w' ∧ a' = a.put o.dst u') (fun _ _ _ => False)
    (fun M' ρ' u wr u' w' g1 g2 g3 g4 g5 g6 g7 => ⟨M', ρ', u, wr, u', g1, g2, g3, g4, g5, g6, g7, rfl⟩)
  unfold Oper.wp at key
  have go : ∀ a' w', (∃ M' ρ' u wr u', M.le M' ∧ ρ.le ρ' ∧ (∀ n, n < nm ∨ nm + 8 ≤ n → ρ' n = ρ n) ∧ RS u wr ∧ VR M' ρ' u u' ∧ HR M' (ext A K.Rd F w₁) ρ' (wrH h wr) w' ∧ Same w₁ w' ∧ a' = a.put o.dst u') →
      Guar A K.Rd w₁ w' (listed C.P b.fn a o w₁) ∧ K.T (more A w₁ w') (G (b.at a' (.inRegion ops rest :: k)) cs) w' := by
    rintro a' w' ⟨M', ρ', u, wr, u', g1, g2, g3, g4, g5, g6, g7, rfl⟩
    obtain ⟨e1, e2, e3⟩ := hr_more H1 f1 g1 g6 g7
    exact ⟨⟨g7, e3, ev⟩, hk (more A w₁ w') M' ρ' u wr u' w' (fun x hx => .inl hx) g1 g2 g3 g4 g5 e2 e1 (h₁.same.trans g7)⟩
  cases hr : (execOp a.eval o).run C.P w₁ with
  | ok r w' =>
    have hiv := hp M _ ρ a h w₁ hv H1 hbs r w' hr
    rw [hr] at key
    cases r with
    | value x =>
      rw [Oper.upon_value] at key
      obtain ⟨q1, q2⟩ := go _ _ key
      exact ⟨_, w', _, stepG_value (o := { o with guard := gd }) ho hw hb hr, q1, q2⟩
    | skip =>
      rw [Oper.upon_skip] at key
      obtain ⟨q1, q2⟩ := go _ _ key
      exact ⟨_, w', _, stepG_none (o := { o with guard := gd }) ho hw hb hr, q1, q2⟩
    | _ => exact hiv.elim
  | halt x w' =>
    rw [hr] at key
    cases x <;> exact key.elim

/-- The function, called with such arguments beside others, returns, with an answer and blocks as 'post' says. -/
def Spec (P : Program) (Gv : Nat → SV) (f : FuncId) (args : List SV) (hin : List Blk) (post : SV → List (Option Blk) → Prop) : Prop :=
  ∀ (K : Tr P) A F M ρ (vs : Array Value) w, Fit A K.Rd F M w → (∀ g ρ, VR M ρ (Gv g) (.pointer (some ⟨g, 0, none⟩))) → HR M (ext A K.Rd F w) ρ (hOf (hin.map some)) w → vs.size = args.length →
    (∀ (i : Nat) (x : SV), args[i]? = some x → ∃ u, vs[i]? = some u ∧ VR M ρ x u) → (∀ n, hin.length ≤ n → ρ n = none) →
    ∀ c cs, (∀ A' M' ρ' r hout u w', (∀ x, A x → A' x) → M.le M' → ρ.le ρ' → VR M' ρ' r u → Fit A' K.Rd F M' w' → HR M' (ext A' K.Rd F w') ρ' (hOf hout) w' → okOut hin.length r hout = true → Same w w' → post r hout → K.T A' (G (Frame.finish c u) cs) w') →
      K.T A (G (Frame.enter P f vs .normal) (c :: cs)) w
theorem Spec.mono {P : Program} {Gv : Nat → SV} {f : FuncId} {args : List SV} {hin : List Blk} {post post' : SV → List (Option Blk) → Prop} (h : Spec P Gv f args hin post) (hp : ∀ r ho, post r ho → post' r ho) : Spec P Gv f args hin post' :=
  fun K A F M ρ vs w h0 h1 h2 h3 h4 h5 c cs hk => h K A F M ρ vs w h0 h1 h2 h3 h4 h5 c cs fun A' M' ρ' r hout u w' k1 k2 k3 k4 k5 k6 k7 k8 k9 => hk A' M' ρ' r hout u w' k1 k2 k3 k4 k5 k6 k7 k8 (hp _ _ k9)

/-- What a function gives back: the slots of its results; what it reads for that. -/
def RetIs (C : Ctx) (fn : Func) (σ : St) (r : SV) : Prop :=
  ∀ M F pin ρ a w, SR C M F pin ρ σ a w → (∃ u, (results fn a.tmps).run C.P w = .ok u w ∧ VR M ρ r u) ∧ ∀ e, e ∈ (results fn a.tmps).events C.P w #[] → EvB M ρ σ.h e
theorem RetIs.of {C : Ctx} {fn : Func} {σ : St} {r : SV} (h : Nice.RetIs C fn σ r) (he : ∀ tmps w, (results fn tmps).events C.P w #[] = #[]) : RetIs C fn σ r :=
  fun M F pin ρ a w hs => ⟨h M F pin ρ a w hs, fun e hm => by rw [he] at hm; simp at hm⟩
/-- The exits of a body. -/
def outQ (C : Ctx) (fn : Func) (post : SV → List (Option Blk) → Prop) : Exit → St → Prop
  | .ret, σ | .normal, σ => ∃ π r' r hout, RetIs C fn σ r' ∧ r' = ren π r ∧ okOut C.m r hout = true ∧ Sub C π σ [] hout ∧ post r hout
  | _, _ => False

theorem stepG_leaveE {P : Program} {main : Bool} {b : Frame} {a : Act} {cs : List Frame} {w : World} {fn : Func} {todo : List Item} {c : Frame} {v : Value} (hn : b.kind = .normal) (hd : a.defers = []) (hf : P.funcs[b.fn]? = some fn)
    (hr : (results fn a.tmps).run P w = .ok v w) : ∃ es, stepG P main (G { b.at a todo with mode := .returning } (c :: cs)) w = .go (G (c.finish v) cs) w es ∧ ∀ e, e ∈ es → e ∈ (results fn a.tmps).events P w #[] := by
  simp [G, stepG, unwind, doReturn, Frame.at, hn, hd, hf, hr, GStep.after]
  first
    | exact fun e he => mem_seen he
    | exact ⟨_, rfl, fun e he => mem_seen he⟩

theorem fn_intro {P : Program} {Gv : Nat → SV} {f : FuncId} {fn : Func} {c : Code} {args : List SV} {hin : List Blk} {post : SV → List (Option Blk) → Prop} (hf : P.funcs[f]? = some fn) (hb : fn.body = some c)
    (hn : Nat.ble args.length fn.ntmps = true)
    (h : W ⟨P, fn.ntmps, hin.length, Gv⟩ c (outQ ⟨P, fn.ntmps, hin.length, Gv⟩ fn post) (stOf (argT 0 args) (hin.map some))) : Spec P Gv f args hin post := by
  intro K A F M ρ vs w hfit hG hH hsz hargs hfr fc cs hk
  have hn' := Nat.le_of_ble_eq_true hn
  rw [enter_at vs hf hb]
  have fin : ∀ σ' A' M' ρ' a' w', (∀ x, A x → A' x) → M.le M' → SC ⟨P, fn.ntmps, hin.length, Gv⟩ A' K.Rd F M' ρ ρ' σ' a' w' → Same w w' →
      (∃ π r' r hout, RetIs ⟨P, fn.ntmps, hin.length, Gv⟩ fn σ' r' ∧ r' = ren π r ∧ okOut hin.length r hout = true ∧ Sub ⟨P, fn.ntmps, hin.length, Gv⟩ π σ' [] hout ∧ post r hout) →
      ∀ todo, K.T A' (G { (base f).at a' todo with mode := .returning } (fc :: cs)) w' := by
    rintro σ' A' M' ρ' a' w' h1 h2 h3 h4 ⟨π, r', r, hout, hr, rfl, hu, hsub, hp⟩ todo
    refine K.step A' _ w' rfl fun w₁ h₁ => ?_
    have H1 := hr_rely h3.sr.hr h3.fit h₁
    have f1 := fit_rely h3.fit h₁
    have hs1 : SR ⟨P, fn.ntmps, hin.length, Gv⟩ M' (ext A' K.Rd F w₁) ρ ρ' σ' a' w₁ := ⟨⟨h3.sr.tm, h3.sr.sz, h3.sr.df, H1, h3.sr.pn, h3.sr.pm, h3.sr.gl⟩, h3.sr.fr⟩
    obtain ⟨⟨u, hru, hv⟩, hev⟩ := hr M' _ ρ ρ' a' w₁ hs1
    have hrel := hsub.rel hs1.toSR0
    have hlen : π.length = hout.length := by
      have := hsub.ok
      simp only [Bool.and_eq_true] at this
      exact Nat.eq_of_beq_eq_true this.1
    have hu' : r.under hout.length = true := by
      simp only [okOut, Bool.and_eq_true] at hu
      exact hu.2.2.1
    obtain ⟨es, e1, e2⟩ := stepG_leaveE (main := K.main) (b := base f) (todo := todo) (c := fc) (cs := cs) rfl hs1.df hf hru
    refine ⟨_, w₁, es, e1, ⟨.refl _, fun _ _ _ => rfl, fun e he => (hev e (e2 e he)).ok H1 f1⟩, ?_⟩
    rw [more_self]
    exact hk A' M' (back π ρ') r hout u w₁ h1 h2 hrel.pn (hv.back r rfl (by rw [hlen]; exact hu')) f1 hrel.hr hu (h4.trans h₁.same) hp
  refine h K A F M ρ ρ { tmps := vs ++ Array.replicate (fn.ntmps - vs.size) undef, defers := [] } w ⟨hfit, ⟨⟨?_, ?_, rfl, hH, Names.le_refl _, ?_, hG⟩, ?_⟩⟩ (base f) [] (fc :: cs) (by intro h; cases h) ?_
  · intro k
    show VR M ρ (tOf (argT 0 args) k) _
    rw [tOf_argT]
    simp only [Nat.zero_le, if_true, Nat.sub_zero]
    rw [List.getD_eq_getElem?_getD]
    cases e : args[k]? with
    | none => exact .any _
    | some x =>
      obtain ⟨u, hu, hr⟩ := hargs k x e
      have hk := (Array.getElem?_eq_some_iff.1 hu).1
      have : (vs ++ Array.replicate (fn.ntmps - vs.size) undef).getD k undef = u := by
        rw [Array.getD_eq_getD_getElem?, Array.getElem?_append_left hk, hu]; rfl
      rw [this]; exact hr
  · simp; omega
  · intro n x hx
    rcases Nat.lt_or_ge n hin.length with h | h
    · exact h
    · rw [hfr n h] at hx; cases hx
  · intro n hn
    exact hfr n (by simpa [stOf] using hn)
  · intro e A' M' ρ' σ' a' w' h1 h2 h3 h4 h5
    cases e with
    | normal => exact K.idle rfl (fun _ => stepG_end) (fin σ' A' M' ρ' a' w' h1 h2 h3 h4 h5 [])
    | ret => exact fin σ' A' M' ρ' a' w' h1 h2 h3 h4 h5
    | _ => exact h5.elim

end Go.Proofs.YtpdojmebloekgaaDoor.Nice.Co
