/- Part 9 of the proof of StorePlays: StoI, StoJ, StoK, DocA, DocB, DocC, DocD. -/
import Derived.Test.YtalhangpahffeaaDoorZ8
namespace Go.Proofs.YtalhangpahffeaaDoor.Nice
open Go Go.Proofs
set_option linter.unusedVariables false
set_option linter.unusedSimpArgs false
set_option maxRecDepth 100000
set_option maxHeartbeats 4000000
structure LnIn (x : Ln) : Prop where
 nm : x.nm.size ≤ 8
 c : x.ch.length ≤ 30
 ne : ∀ c, c ∈ x.ch → 0 < c.length ∧ c.length ≤ 8 ∧ sfault c = 0
 o : x.op.length ≤ 8
 so : sfault x.op = 0
theorem LnIn.at {x : Ln} (h : LnIn x) {i : Nat} (hi : i < x.ch.length) : 0 < (x.ch.getD i default).length ∧ (x.ch.getD i default).length ≤ 8 ∧ sfault (x.ch.getD i default) = 0 := by
 rw [getD_eq hi]; exact h.ne _ (List.getElem_mem hi)
theorem LnIn.ok {x : Ln} (h : LnIn x) : LnOk x.ch x.op :=
 ⟨Nat.le_trans h.c (by decide), fun i hi => ⟨(h.at hi).1, Nat.le_trans (h.at hi).2.1 (by decide)⟩, Nat.le_trans h.o (by decide)⟩
theorem LnIn.len {x : Ln} (h : LnIn x) : (allS x.ch x.op).length ≤ 248 := by
 have h1 := flat_le (gs := x.ch) (k := 8) fun i hi => (h.at hi).2.1
 have h2 := h.c
 have h3 := h.o
 unfold allS; rw [List.length_append]; omega
theorem inB_mem {l : List Smp} (h : sfault l = 0) {s : Smp} (hs : s ∈ l) : inB s.t ∧ inB s.v := by
 obtain ⟨i, hi, rfl⟩ := List.mem_iff_getElem.1 hs
 obtain ⟨a, b, _⟩ := smp_at (sf_parts h).2 hi
 rw [getD_eq hi] at a b
 exact ⟨a, b⟩
theorem LnIn.val {x : Ln} (h : LnIn x) {s : Smp} (hs : s ∈ allS x.ch x.op) : inB s.t ∧ inB s.v := by
 rcases List.mem_append.1 hs with hs | hs
 · obtain ⟨c, hc, hs⟩ := List.mem_flatten.1 hs
   exact inB_mem (h.ne c hc).2.2 hs
 · exact inB_mem h.so hs
theorem vals_inV {l : List Smp} (h : ∀ s, s ∈ l → inB s.v) : ∀ i, i < (vals l).length → inV ((vals l).getD i 0) := by
 intro i hi
 rw [vals_len] at hi
 rw [vals_get hi, getD_eq hi]
 exact h _ (List.getElem_mem hi)
structure Dd where
 k : Int
 nm : ByteArray
 s : Smp
 fr : Int
 to : Int
 kp : Int
 deriving Inhabited
def ddX (d : Dd) : List SV := [SV.i d.k, .d (.val (.string d.nm)), SV.i d.s.t, SV.i d.s.v, SV.i d.fr, SV.i d.to, SV.i d.kp]
def ddV (d : Dd) : SV := .agg (ddX d)
structure DdIn (d : Dd) : Prop where
 k : inRange d.k
 nm : d.nm.size ≤ 9223372036854775807
 s : inRange d.s.t ∧ inRange d.s.v
 fr : inRange d.fr
 to : inRange d.to
 kp : inRange d.kp
def ofF (d : Dd) (x : Ln) (F : List Int) (cnt : Nat) : SeR × Fd :=
 if d.k = 2 then (appF x.nm d.s x.ch x.op F cnt, codeF (appF x.nm d.s x.ch x.op F cnt).e (appF x.nm d.s x.ch x.op F cnt).ch.length)
 else if d.k = 6 then (sealF x.nm x.ch x.op F cnt, codeF (sealF x.nm x.ch x.op F cnt).e (sealF x.nm x.ch x.op F cnt).ch.length)
 else if d.k = 5 then (trimF x.nm d.kp x.ch x.op F cnt, codeF (trimF x.nm d.kp x.ch x.op F cnt).e (trimF x.nm d.kp x.ch x.op F cnt).ch.length)
 else if d.k = 3 then (⟨0, x.ch, x.op, F, cnt⟩, ⟨0, (allS x.ch x.op).filter (inR d.fr d.to), roll0, 0⟩)
 else (⟨0, x.ch, x.op, F, cnt⟩, ⟨0, [], rollL ((allS x.ch x.op).filter (inR d.fr d.to)), 0⟩)
structure StoOk (s : Sto) : Prop where
 F : s.F.length ≤ 900000
 cnt : s.cnt ≤ 200
 L : s.L.length ≤ 6
 ln : ∀ x, x ∈ s.L → LnIn x
theorem of_any {Z : List Nat} {es : List (Value × SV × List InB)} {j : Nat} (d : Dd) (hd : DdIn d) (hk : 2 ≤ d.k ∧ d.k ≤ 6) (x : Ln) (hx : LnIn x) (hn : x.nm = d.nm) (F : List Int) (hF : F.length ≤ 900000) (cnt : Nat) (hr : cnt ≤ 200) (q : SeR) (f : Fd) (hq : ofF d x F cnt = (q, f)) :
   Spec Tryd.prog GF 13 [.ptr 0 0 0, .ptr 3 0 0, ddV d] [.cells 39 3 [.map 1, .sl 2 0 F.length, SV.i cnt], .fam Z ⟨es, [(j, .ptr 3 0 0)], none⟩, u8B F, .cells 71 2 [.sl 4 0 x.ch.length, .sl 5 0 x.op.length], chsB x.ch, smB x.op] (fun r ho => r = fdV f ∧ ho = [some (.cells 39 3 [.map 1, .sl 6 0 q.F.length, SV.i q.cnt]), some (.fam Z ⟨es, [(j, .ptr 3 0 0)], none⟩), none, some (.cells 71 2 [.sl 7 0 q.ch.length, .sl 8 0 q.op.length]), none, none, some (u8B q.F), some (chsB q.ch), some (smB q.op)]) := by
 obtain ⟨k, nm, s, fr, to, kp⟩ := d
 have hok := hx.ok
 have h8 := hx.nm
 obtain ⟨xn, ch, op⟩ := x
 have hn : xn = nm := hn
 subst hn
 have hk : 2 ≤ k ∧ k ≤ 6 := hk
 have e : k = 2 ∨ k = 3 ∨ k = 4 ∨ k = 5 ∨ k = 6 := by omega
 rcases e with rfl | rfl | rfl | rfl | rfl
 · have e2 : (appF xn s ch op F cnt, codeF (appF xn s ch op F cnt).e (appF xn s ch op F cnt).ch.length) = (q, f) := by rw [← hq]; unfold ofF; rw [if_pos rfl]
   obtain ⟨rfl, rfl⟩ := Prod.mk.inj e2
   exact of_app xn h8 s fr to kp hd.s hd.kp ch op hok hx.so hx.c hx.o F hF cnt hr _ rfl
 · have e2 : ((⟨0, ch, op, F, cnt⟩ : SeR), (⟨0, (allS ch op).filter (inR fr to), roll0, 0⟩ : Fd)) = (q, f) := by rw [← hq]; unfold ofF; rw [if_neg (fun h => absurd (show (3 : Int) = 2 from h) (by decide)), if_neg (fun h => absurd (show (3 : Int) = 6 from h) (by decide)), if_neg (fun h => absurd (show (3 : Int) = 5 from h) (by decide)), if_pos rfl]
   obtain ⟨rfl, rfl⟩ := Prod.mk.inj e2
   exact of_range xn h8 s fr to kp hd.s hd.kp ch op hok hx.so hx.c hx.o F hF cnt hr
 · have e2 : ((⟨0, ch, op, F, cnt⟩ : SeR), (⟨0, [], rollL ((allS ch op).filter (inR fr to)), 0⟩ : Fd)) = (q, f) := by rw [← hq]; unfold ofF; rw [if_neg (fun h => absurd (show (4 : Int) = 2 from h) (by decide)), if_neg (fun h => absurd (show (4 : Int) = 6 from h) (by decide)), if_neg (fun h => absurd (show (4 : Int) = 5 from h) (by decide)), if_neg (fun h => absurd (show (4 : Int) = 3 from h) (by decide))]
   obtain ⟨rfl, rfl⟩ := Prod.mk.inj e2
   refine of_total xn h8 s fr to kp hd.s hd.kp ch op hok hx.so hx.c hx.o F hF cnt hr _ rfl ?_ (vals_inV fun y hy => (hx.val ((List.mem_filter.1 hy).1)).2)
   exact Nat.le_trans (List.length_filter_le _ _) (Nat.le_trans hx.len (by decide))
 · have e2 : (trimF xn kp ch op F cnt, codeF (trimF xn kp ch op F cnt).e (trimF xn kp ch op F cnt).ch.length) = (q, f) := by rw [← hq]; unfold ofF; rw [if_neg (fun h => absurd (show (5 : Int) = 2 from h) (by decide)), if_neg (fun h => absurd (show (5 : Int) = 6 from h) (by decide)), if_pos rfl]
   obtain ⟨rfl, rfl⟩ := Prod.mk.inj e2
   exact of_trim xn h8 s fr to kp hd.s hd.kp ch op hok hx.so hx.c hx.o F hF cnt hr _ rfl
 · have e2 : (sealF xn ch op F cnt, codeF (sealF xn ch op F cnt).e (sealF xn ch op F cnt).ch.length) = (q, f) := by rw [← hq]; unfold ofF; rw [if_neg (fun h => absurd (show (6 : Int) = 2 from h) (by decide)), if_pos rfl]
   obtain ⟨rfl, rfl⟩ := Prod.mk.inj e2
   exact of_seal xn h8 s fr to kp hd.s hd.kp ch op hok hx.so hx.c hx.o F hF cnt hr _ rfl
theorem deed_create {Z : List Nat} (d : Dd) (hd : DdIn d) (s : Sto) (hs : StoOk s) (hk1 : d.k = 1) (q : CrR) (hq : createF d.nm s = q) : Spec Tryd.prog GF 8 [.ptr 0 0 0, ddV d] [.cells 39 3 [.map 1, .sl 2 0 s.F.length, SV.i s.cnt], .fam Z ⟨famL s.L, [], none⟩, u8B s.F] (fun r ho => ∃ Z2, r = fdV (errF q.e) ∧ ho = [some (.cells 39 3 [.map 3, .sl 4 0 q.s.F.length, SV.i q.s.cnt]), none, none, some (.fam Z2 ⟨famL q.s.L, [], none⟩), some (u8B q.s.F)]) := by
 refine start 47 3 Tryd.func8 rfl rfl rfl rfl ?_
 refine r1 <| sT 3 3 1 rfl <| sT 4 11 2 rfl <| e1 19 rfl <| keep [0, 3, 4] rfl <| W_seq <| r1 <| sT 7 19 1 rfl <| sO 8 27 2 rfl <| e1 35 rfl <| keep [0, 3, 4, 8] rfl <| W_block <| r1 <| sO 10 35 1 rfl <| sT 9 43 2 rfl <| e1 51 rfl ?_
 refine keep [0, 3, 4, 8, 9] rfl ?_
 refine q1 rfl (fun hc2 => ?_) (fun hc2 => ?_)
 try simp only [cs, ne_eq] at hc2
 refine r1 <| sT 11 51 1 rfl <| sT 12 59 2 rfl <| sO 13 67 3 rfl ?_
 refine cQ (create_any d.nm hd.nm s hs.F hs.cnt hs.L q hq) [0, 1, 2] 14 75 4 rfl rfl rfl rfl rfl rfl rfl Tryd.func11 rfl rfl rfl ⟨rfl, rfl, rfl, trivial⟩ ?_
 rintro _ _ ⟨Z3, rfl, rfl⟩
 refine val 14 (SV.i q.e) rfl rfl ?_
 refine hval 75 _ rfl (.fam Z3 ⟨famL q.s.L, [], none⟩) rfl ?_
 refine c1 (no_any q.e) [] [] 15 83 5 rfl rfl rfl rfl rfl rfl rfl rfl Tryd.func10 rfl rfl rfl rfl trivial rfl rfl ?_
 refine s0O 91 6 rfl rfl rfl rfl rfl <| e1 99 rfl <| keep [4] rfl <| W_ret <| br <| tr ?_
 exact outN (fdV (errF q.e)) (π := [0, 1, 2, 75, 76]) (hout := [some (.cells 39 3 [.map 3, .sl 4 0 q.s.F.length, SV.i q.s.cnt]), none, none, some (.fam Z3 ⟨famL q.s.L, [], none⟩), some (u8B q.s.F)]) Tryd.results8 rfl (by trivial) rfl rfl rfl ⟨rfl, rfl, rfl, trivial⟩ ⟨Z3, rfl, rfl⟩
 exact absurd hk1 (by simpa using hc2)
theorem deed_kind {Z : List Nat} (d : Dd) (hd : DdIn d) (s : Sto) (hs : StoOk s) (hk1 : d.k < 1 ∨ 7 < d.k) : Spec Tryd.prog GF 8 [.ptr 0 0 0, ddV d] [.cells 39 3 [.map 1, .sl 2 0 s.F.length, SV.i s.cnt], .fam Z ⟨famL s.L, [], none⟩, u8B s.F] (fun r ho => ∃ Z2, r = fdV (errF 3) ∧ ho = [some (.cells 39 3 [.map 3, .sl 4 0 s.F.length, SV.i s.cnt]), none, none, some (.fam Z2 ⟨famL s.L, [], none⟩), some (u8B s.F)]) := by
 refine start 47 3 Tryd.func8 rfl rfl rfl rfl ?_
 refine r1 <| sT 3 3 1 rfl <| sT 4 11 2 rfl <| e1 19 rfl <| keep [0, 3, 4] rfl <| W_seq <| r1 <| sT 7 19 1 rfl <| sO 8 27 2 rfl <| e1 35 rfl <| keep [0, 3, 4, 8] rfl <| W_block <| r1 <| sO 10 35 1 rfl <| sT 9 43 2 rfl <| e1 51 rfl ?_
 refine keep [0, 3, 4, 8, 9] rfl ?_
 refine q1 rfl (fun hc2 => ?_) (fun hc2 => ?_)
 simp at hc2; omega
 try simp only [cs, ne_eq] at hc2
 refine r1 <| sO 17 51 1 rfl <| sT 16 59 2 rfl <| e1 67 rfl <| keep [0, 3, 4, 8, 16] rfl ?_
 refine q1 rfl (fun hc4 => ?_) (fun hc4 => ?_)
 simp at hc4; omega
 try simp only [cs, ne_eq] at hc4
 refine W_seq <| r1 <| sO 24 67 1 rfl <| sT 23 75 2 rfl <| e1 83 rfl <| keep [0, 3, 4, 8, 23] rfl ?_
 refine q1 rfl (fun hc7 => ?_) (fun hc7 => ?_)
 simp at hc7; omega
 try simp only [cs, ne_eq] at hc7
 refine r1 <| sO 25 83 1 rfl <| sT 23 91 2 rfl <| e1 99 rfl <| keep [0, 3, 4, 8, 23] rfl ?_
 refine q1 rfl (fun hc8 => ?_) (fun hc8 => ?_)
 simp at hc8; omega
 try simp only [cs, ne_eq] at hc8
 refine r1 <| sO 26 99 1 rfl <| sT 23 107 2 rfl <| e1 115 rfl <| keep [0, 3, 4, 8, 23] rfl ?_
 refine q1 rfl (fun hc9 => ?_) (fun hc9 => ?_)
 simp at hc9; omega
 try simp only [cs, ne_eq] at hc9
 refine r1 <| sO 27 115 1 rfl <| sT 23 123 2 rfl <| e1 131 rfl <| keep [0, 3, 4, 8, 23] rfl ?_
 refine q1 rfl (fun hc10 => ?_) (fun hc10 => ?_)
 simp at hc10; omega
 try simp only [cs, ne_eq] at hc10
 refine r0 ?_
 refine sO 28 131 1 rfl <| sT 23 139 2 rfl <| e1 147 rfl <| tn ?_
 refine q1 rfl (fun hc11 => ?_) (fun hc11 => ?_)
 simp at hc11; omega
 try simp only [cs, ne_eq] at hc11
 refine W_skip <| bn <| tn <| r1 ?_
 refine c1 (no_any 3) [] [] 46 147 1 rfl rfl rfl rfl rfl rfl rfl rfl Tryd.func10 rfl rfl rfl rfl trivial rfl rfl ?_
 refine s0O 155 2 rfl rfl rfl rfl rfl <| e1 163 rfl <| keep [4] rfl <| rename 1 rfl rfl <| rename 2 rfl rfl <| W_ret ?_
 exact outN (fdV (errF 3)) (π := [0, 1, 2, 163, 171]) (hout := [some (.cells 39 3 [.map 3, .sl 4 0 s.F.length, SV.i s.cnt]), none, none, some (.fam Z ⟨famL s.L, [], none⟩), some (u8B s.F)]) Tryd.results8 rfl (by trivial) rfl rfl rfl ⟨rfl, rfl, rfl, trivial⟩ ⟨Z, rfl, rfl⟩
theorem deed_none {Z : List Nat} (d : Dd) (hd : DdIn d) (s : Sto) (hs : StoOk s) (hk1 : 2 ≤ d.k ∧ d.k ≤ 6) (hk : idxN d.nm s.L = none) : Spec Tryd.prog GF 8 [.ptr 0 0 0, ddV d] [.cells 39 3 [.map 1, .sl 2 0 s.F.length, SV.i s.cnt], .fam Z ⟨famL s.L, [], none⟩, u8B s.F] (fun r ho => ∃ Z2, r = fdV (errF 6) ∧ ho = [some (.cells 39 3 [.map 3, .sl 4 0 s.F.length, SV.i s.cnt]), none, none, some (.fam Z2 ⟨famL s.L, [], none⟩), some (u8B s.F)]) := by
 refine start 47 3 Tryd.func8 rfl rfl rfl rfl ?_
 refine r1 <| sT 3 3 1 rfl <| sT 4 11 2 rfl <| e1 19 rfl <| keep [0, 3, 4] rfl <| W_seq <| r1 <| sT 7 19 1 rfl <| sO 8 27 2 rfl <| e1 35 rfl <| keep [0, 3, 4, 8] rfl <| W_block <| r1 <| sO 10 35 1 rfl <| sT 9 43 2 rfl <| e1 51 rfl ?_
 refine keep [0, 3, 4, 8, 9] rfl ?_
 refine q1 rfl (fun hc2 => ?_) (fun hc2 => ?_)
 simp at hc2; omega
 try simp only [cs, ne_eq] at hc2
 refine r1 <| sO 17 51 1 rfl <| sT 16 59 2 rfl <| e1 67 rfl <| keep [0, 3, 4, 8, 16] rfl ?_
 refine q1 rfl (fun hc4 => ?_) (fun hc4 => ?_)
 simp at hc4; omega
 try simp only [cs, ne_eq] at hc4
 refine W_seq <| r1 <| sO 24 67 1 rfl <| sT 23 75 2 rfl <| e1 83 rfl <| keep [0, 3, 4, 8, 23] rfl ?_
 refine q1 rfl (fun hc7 => ?_) (fun hc7 => ?_)
 try simp only [cs, ne_eq] at hc7
 refine W_skip <| tn ?_
 refine q1 rfl (fun hc7 => ?_) (fun hc7 => ?_)
 try simp only [cs, ne_eq] at hc7
 refine rd1 rfl ?_
 refine dT 30 83 1 rfl <| dT 31 91 2 rfl <| dT 32 99 3 rfl <| dO 33 107 4 rfl <| dT 34 115 5 rfl <| dO 35 123 6 rfl ?_
 refine dLookF none (.d (.val (.pointer none))) (hk ▸ KN d.nm s.L) (.inl ⟨rfl, .pointer none, (by kernel_rfl), rfl, rfl⟩) 36 131 7 rfl rfl rfl rfl rfl rfl Tryd.underlying37 rfl (fun M ρ u h => h.val) rfl rfl ?_
 refine dT 29 139 8 rfl <| dT 37 147 9 rfl <| dT 38 155 10 rfl <| dT 5 163 11 rfl <| dT 6 171 12 rfl <| de1 179 rfl (by kernel_rfl) <| keep [0, 3, 4, 5, 6] rfl <| W_seq <| r1 <| sT 39 179 1 rfl <| sT 40 187 2 rfl <| e1 195 rfl <| keep [0, 3, 4, 5, 40] rfl ?_
 refine q1 rfl (fun hc13 => ?_) (fun hc13 => ?_)
 try simp only [cs, ne_eq] at hc13
 refine r1 ?_
 refine c1 (no_any 6) [] [] 41 195 1 rfl rfl rfl rfl rfl rfl rfl rfl Tryd.func10 rfl rfl rfl rfl trivial rfl rfl ?_
 refine s0O 203 2 rfl rfl rfl rfl rfl <| e1 211 rfl <| keep [4] rfl <| rename 1 rfl rfl <| rename 2 rfl rfl <| W_ret <| tr <| br <| tr ?_
 exact outN (fdV (errF 6)) (π := [0, 1, 2, 211, 219]) (hout := [some (.cells 39 3 [.map 3, .sl 4 0 s.F.length, SV.i s.cnt]), none, none, some (.fam Z ⟨famL s.L, [], none⟩), some (u8B s.F)]) Tryd.results8 rfl (by trivial) rfl rfl rfl ⟨rfl, rfl, rfl, trivial⟩ ⟨Z, rfl, rfl⟩
 exact absurd hc13 (by decide)
 try simp only [cs, ne_eq] at hc7
 exfalso; first | omega | contradiction | (simp_all; done)
 try simp only [cs, ne_eq] at hc7
 refine r1 <| sO 25 83 1 rfl <| sT 23 91 2 rfl <| e1 99 rfl <| keep [0, 3, 4, 8, 23] rfl ?_
 refine q1 rfl (fun hc8 => ?_) (fun hc8 => ?_)
 try simp only [cs, ne_eq] at hc8
 refine W_skip <| tn ?_
 refine q1 rfl (fun hc8 => ?_) (fun hc8 => ?_)
 try simp only [cs, ne_eq] at hc8
 refine rd1 rfl ?_
 refine dT 30 99 1 rfl <| dT 31 107 2 rfl <| dT 32 115 3 rfl <| dO 33 123 4 rfl <| dT 34 131 5 rfl <| dO 35 139 6 rfl ?_
 refine dLookF none (.d (.val (.pointer none))) (hk ▸ KN d.nm s.L) (.inl ⟨rfl, .pointer none, (by kernel_rfl), rfl, rfl⟩) 36 147 7 rfl rfl rfl rfl rfl rfl Tryd.underlying37 rfl (fun M ρ u h => h.val) rfl rfl ?_
 refine dT 29 155 8 rfl <| dT 37 163 9 rfl <| dT 38 171 10 rfl <| dT 5 179 11 rfl <| dT 6 187 12 rfl <| de1 195 rfl (by kernel_rfl) <| keep [0, 3, 4, 5, 6] rfl <| W_seq <| r1 <| sT 39 195 1 rfl <| sT 40 203 2 rfl <| e1 211 rfl <| keep [0, 3, 4, 5, 40] rfl ?_
 refine q1 rfl (fun hc13 => ?_) (fun hc13 => ?_)
 try simp only [cs, ne_eq] at hc13
 refine r1 ?_
 refine c1 (no_any 6) [] [] 41 211 1 rfl rfl rfl rfl rfl rfl rfl rfl Tryd.func10 rfl rfl rfl rfl trivial rfl rfl ?_
 refine s0O 219 2 rfl rfl rfl rfl rfl <| e1 227 rfl <| keep [4] rfl <| rename 1 rfl rfl <| rename 2 rfl rfl <| W_ret <| tr <| br <| tr ?_
 exact outN (fdV (errF 6)) (π := [0, 1, 2, 227, 235]) (hout := [some (.cells 39 3 [.map 3, .sl 4 0 s.F.length, SV.i s.cnt]), none, none, some (.fam Z ⟨famL s.L, [], none⟩), some (u8B s.F)]) Tryd.results8 rfl (by trivial) rfl rfl rfl ⟨rfl, rfl, rfl, trivial⟩ ⟨Z, rfl, rfl⟩
 exact absurd hc13 (by decide)
 try simp only [cs, ne_eq] at hc8
 exfalso; first | omega | contradiction | (simp_all; done)
 try simp only [cs, ne_eq] at hc8
 refine r1 <| sO 26 99 1 rfl <| sT 23 107 2 rfl <| e1 115 rfl <| keep [0, 3, 4, 8, 23] rfl ?_
 refine q1 rfl (fun hc9 => ?_) (fun hc9 => ?_)
 try simp only [cs, ne_eq] at hc9
 refine W_skip <| tn ?_
 refine q1 rfl (fun hc9 => ?_) (fun hc9 => ?_)
 try simp only [cs, ne_eq] at hc9
 refine rd1 rfl ?_
 refine dT 30 115 1 rfl <| dT 31 123 2 rfl <| dT 32 131 3 rfl <| dO 33 139 4 rfl <| dT 34 147 5 rfl <| dO 35 155 6 rfl ?_
 refine dLookF none (.d (.val (.pointer none))) (hk ▸ KN d.nm s.L) (.inl ⟨rfl, .pointer none, (by kernel_rfl), rfl, rfl⟩) 36 163 7 rfl rfl rfl rfl rfl rfl Tryd.underlying37 rfl (fun M ρ u h => h.val) rfl rfl ?_
 refine dT 29 171 8 rfl <| dT 37 179 9 rfl <| dT 38 187 10 rfl <| dT 5 195 11 rfl <| dT 6 203 12 rfl <| de1 211 rfl (by kernel_rfl) <| keep [0, 3, 4, 5, 6] rfl <| W_seq <| r1 <| sT 39 211 1 rfl <| sT 40 219 2 rfl <| e1 227 rfl <| keep [0, 3, 4, 5, 40] rfl ?_
 refine q1 rfl (fun hc13 => ?_) (fun hc13 => ?_)
 try simp only [cs, ne_eq] at hc13
 refine r1 ?_
 refine c1 (no_any 6) [] [] 41 227 1 rfl rfl rfl rfl rfl rfl rfl rfl Tryd.func10 rfl rfl rfl rfl trivial rfl rfl ?_
 refine s0O 235 2 rfl rfl rfl rfl rfl <| e1 243 rfl <| keep [4] rfl <| rename 1 rfl rfl <| rename 2 rfl rfl <| W_ret <| tr <| br <| tr ?_
 exact outN (fdV (errF 6)) (π := [0, 1, 2, 243, 251]) (hout := [some (.cells 39 3 [.map 3, .sl 4 0 s.F.length, SV.i s.cnt]), none, none, some (.fam Z ⟨famL s.L, [], none⟩), some (u8B s.F)]) Tryd.results8 rfl (by trivial) rfl rfl rfl ⟨rfl, rfl, rfl, trivial⟩ ⟨Z, rfl, rfl⟩
 exact absurd hc13 (by decide)
 try simp only [cs, ne_eq] at hc9
 exfalso; first | omega | contradiction | (simp_all; done)
 try simp only [cs, ne_eq] at hc9
 refine r1 <| sO 27 115 1 rfl <| sT 23 123 2 rfl <| e1 131 rfl <| keep [0, 3, 4, 8, 23] rfl ?_
 refine q1 rfl (fun hc10 => ?_) (fun hc10 => ?_)
 try simp only [cs, ne_eq] at hc10
 refine W_skip <| tn ?_
 refine q1 rfl (fun hc10 => ?_) (fun hc10 => ?_)
 try simp only [cs, ne_eq] at hc10
 refine rd1 rfl ?_
 refine dT 30 131 1 rfl <| dT 31 139 2 rfl <| dT 32 147 3 rfl <| dO 33 155 4 rfl <| dT 34 163 5 rfl <| dO 35 171 6 rfl ?_
 refine dLookF none (.d (.val (.pointer none))) (hk ▸ KN d.nm s.L) (.inl ⟨rfl, .pointer none, (by kernel_rfl), rfl, rfl⟩) 36 179 7 rfl rfl rfl rfl rfl rfl Tryd.underlying37 rfl (fun M ρ u h => h.val) rfl rfl ?_
 refine dT 29 187 8 rfl <| dT 37 195 9 rfl <| dT 38 203 10 rfl <| dT 5 211 11 rfl <| dT 6 219 12 rfl <| de1 227 rfl (by kernel_rfl) <| keep [0, 3, 4, 5, 6] rfl <| W_seq <| r1 <| sT 39 227 1 rfl <| sT 40 235 2 rfl <| e1 243 rfl <| keep [0, 3, 4, 5, 40] rfl ?_
 refine q1 rfl (fun hc13 => ?_) (fun hc13 => ?_)
 try simp only [cs, ne_eq] at hc13
 refine r1 ?_
 refine c1 (no_any 6) [] [] 41 243 1 rfl rfl rfl rfl rfl rfl rfl rfl Tryd.func10 rfl rfl rfl rfl trivial rfl rfl ?_
 refine s0O 251 2 rfl rfl rfl rfl rfl <| e1 259 rfl <| keep [4] rfl <| rename 1 rfl rfl <| rename 2 rfl rfl <| W_ret <| tr <| br <| tr ?_
 exact outN (fdV (errF 6)) (π := [0, 1, 2, 259, 267]) (hout := [some (.cells 39 3 [.map 3, .sl 4 0 s.F.length, SV.i s.cnt]), none, none, some (.fam Z ⟨famL s.L, [], none⟩), some (u8B s.F)]) Tryd.results8 rfl (by trivial) rfl rfl rfl ⟨rfl, rfl, rfl, trivial⟩ ⟨Z, rfl, rfl⟩
 exact absurd hc13 (by decide)
 try simp only [cs, ne_eq] at hc10
 exfalso; first | omega | contradiction | (simp_all; done)
 try simp only [cs, ne_eq] at hc10
 refine r0 ?_
 refine sO 28 131 1 rfl <| sT 23 139 2 rfl <| e1 147 rfl <| tn ?_
 refine q1 rfl (fun hc11 => ?_) (fun hc11 => ?_)
 try simp only [cs, ne_eq] at hc11
 refine rd1 rfl ?_
 refine dT 30 147 1 rfl <| dT 31 155 2 rfl <| dT 32 163 3 rfl <| dO 33 171 4 rfl <| dT 34 179 5 rfl <| dO 35 187 6 rfl ?_
 refine dLookF none (.d (.val (.pointer none))) (hk ▸ KN d.nm s.L) (.inl ⟨rfl, .pointer none, (by kernel_rfl), rfl, rfl⟩) 36 195 7 rfl rfl rfl rfl rfl rfl Tryd.underlying37 rfl (fun M ρ u h => h.val) rfl rfl ?_
 refine dT 29 203 8 rfl <| dT 37 211 9 rfl <| dT 38 219 10 rfl <| dT 5 227 11 rfl <| dT 6 235 12 rfl <| de1 243 rfl (by kernel_rfl) <| keep [0, 3, 4, 5, 6] rfl <| W_seq <| r1 <| sT 39 243 1 rfl <| sT 40 251 2 rfl <| e1 259 rfl <| keep [0, 3, 4, 5, 40] rfl ?_
 refine q1 rfl (fun hc13 => ?_) (fun hc13 => ?_)
 try simp only [cs, ne_eq] at hc13
 refine r1 ?_
 refine c1 (no_any 6) [] [] 41 259 1 rfl rfl rfl rfl rfl rfl rfl rfl Tryd.func10 rfl rfl rfl rfl trivial rfl rfl ?_
 refine s0O 267 2 rfl rfl rfl rfl rfl <| e1 275 rfl <| keep [4] rfl <| rename 1 rfl rfl <| rename 2 rfl rfl <| W_ret <| tr <| br <| tr ?_
 exact outN (fdV (errF 6)) (π := [0, 1, 2, 275, 283]) (hout := [some (.cells 39 3 [.map 3, .sl 4 0 s.F.length, SV.i s.cnt]), none, none, some (.fam Z ⟨famL s.L, [], none⟩), some (u8B s.F)]) Tryd.results8 rfl (by trivial) rfl rfl rfl ⟨rfl, rfl, rfl, trivial⟩ ⟨Z, rfl, rfl⟩
 exact absurd hc13 (by decide)
 simp at hc11; omega
theorem deed_found {Z : List Nat} (d : Dd) (hd : DdIn d) (s : Sto) (hs : StoOk s) (hk1 : 2 ≤ d.k ∧ d.k ≤ 6) (j : Nat) (x : Ln) (hk : idxN d.nm s.L = some j) (hj : s.L[j]? = some x) (hxn : x.nm = d.nm) (q : SeR) (f : Fd) (hq : ofF d x s.F s.cnt = (q, f)) : Spec Tryd.prog GF 8 [.ptr 0 0 0, ddV d] [.cells 39 3 [.map 1, .sl 2 0 s.F.length, SV.i s.cnt], .fam Z ⟨famL s.L, [], none⟩, u8B s.F] (fun r ho => ∃ Z2, r = fdV f ∧ ho = [some (.cells 39 3 [.map 3, .sl 4 0 (Sto.mk (s.L.set j (Ln.mk x.nm q.ch q.op)) q.F q.cnt).F.length, SV.i (Sto.mk (s.L.set j (Ln.mk x.nm q.ch q.op)) q.F q.cnt).cnt]), none, none, some (.fam Z2 ⟨famL (Sto.mk (s.L.set j (Ln.mk x.nm q.ch q.op)) q.F q.cnt).L, [], none⟩), some (u8B (Sto.mk (s.L.set j (Ln.mk x.nm q.ch q.op)) q.F q.cnt).F)]) := by
 have hx := hs.ln x (List.mem_of_getElem? hj)
 refine start 47 3 Tryd.func8 rfl rfl rfl rfl ?_
 refine r1 <| sT 3 3 1 rfl <| sT 4 11 2 rfl <| e1 19 rfl <| keep [0, 3, 4] rfl <| W_seq <| r1 <| sT 7 19 1 rfl <| sO 8 27 2 rfl <| e1 35 rfl <| keep [0, 3, 4, 8] rfl <| W_block <| r1 <| sO 10 35 1 rfl <| sT 9 43 2 rfl <| e1 51 rfl ?_
 refine keep [0, 3, 4, 8, 9] rfl ?_
 refine q1 rfl (fun hc2 => ?_) (fun hc2 => ?_)
 simp at hc2; omega
 try simp only [cs, ne_eq] at hc2
 refine r1 <| sO 17 51 1 rfl <| sT 16 59 2 rfl <| e1 67 rfl <| keep [0, 3, 4, 8, 16] rfl ?_
 refine q1 rfl (fun hc4 => ?_) (fun hc4 => ?_)
 simp at hc4; omega
 try simp only [cs, ne_eq] at hc4
 refine W_seq <| r1 <| sO 24 67 1 rfl <| sT 23 75 2 rfl <| e1 83 rfl <| keep [0, 3, 4, 8, 23] rfl ?_
 refine q1 rfl (fun hc7 => ?_) (fun hc7 => ?_)
 try simp only [cs, ne_eq] at hc7
 refine W_skip <| tn ?_
 refine q1 rfl (fun hc7 => ?_) (fun hc7 => ?_)
 try simp only [cs, ne_eq] at hc7
 refine famOpen 1 j rfl (famL_at hj) rfl rfl (fun Z1 => ?_)
 refine rd1 rfl ?_
 refine dT 30 91 1 rfl <| dT 31 99 2 rfl <| dT 32 107 3 rfl <| dO 33 115 4 rfl <| dT 34 123 5 rfl <| dO 35 131 6 rfl ?_
 refine dLookF (some j) (.ptr 83 0 0) (hk ▸ KN d.nm s.L) (.inr ⟨j, rfl, List.mem_singleton.2 rfl⟩) 36 139 7 rfl rfl rfl rfl rfl rfl Tryd.underlying37 rfl (fun M ρ u h => h.val) rfl rfl ?_
 refine dT 29 147 8 rfl <| dT 37 155 9 rfl <| dT 38 163 10 rfl <| dT 5 171 11 rfl <| dT 6 179 12 rfl <| de1 187 rfl (by kernel_rfl) <| keep [0, 3, 4, 5, 6] rfl <| W_seq <| r1 <| sT 39 187 1 rfl <| sT 40 195 2 rfl <| e1 203 rfl <| keep [0, 3, 4, 5, 40] rfl ?_
 refine q1 rfl (fun hc13 => ?_) (fun hc13 => ?_)
 exact absurd hc13 (by simp)
 try simp only [cs, ne_eq] at hc13
 refine W_skip <| tn <| r1 <| sT 42 203 1 rfl <| sT 43 211 2 rfl <| sO 44 219 3 rfl ?_
 refine c1 (of_any d hd (by omega) x hx hxn s.F hs.F s.cnt hs.cnt q f hq) [0, 1, 2, 83, 84, 85] [0, 1, 2, 83, 84, 85, 227, 228, 229] 45 227 4 rfl rfl rfl rfl rfl rfl rfl rfl Tryd.func13 rfl rfl rfl rfl ⟨rfl, rfl, rfl, rfl, rfl, rfl, trivial⟩ rfl rfl ?_
 refine s0O 235 5 rfl rfl rfl rfl rfl <| e1 243 rfl <| keep [4] rfl ?_
 refine famShut 1 j [83, 228, 229] (.ptr 0 0 0) (serIn (Ln.mk x.nm q.ch q.op)) rfl (famL_at hj) rfl ⟨rfl, rfl, rfl, trivial⟩ rfl (fun Z3 => ?_)
 refine chval 1 (.fam Z3 ⟨famL (s.L.set j (Ln.mk x.nm q.ch q.op)), [], none⟩) rfl (congrArg (fun l => Blk.fam Z3 ⟨l, [], none⟩) (famL_set s.L j (Ln.mk x.nm q.ch q.op))) ?_
 refine rename 1 rfl rfl <| W_ret <| br <| tr ?_
 exact outN (fdV f) (π := [0, 1, 2, 243, 227]) (hout := [some (.cells 39 3 [.map 3, .sl 4 0 (Sto.mk (s.L.set j (Ln.mk x.nm q.ch q.op)) q.F q.cnt).F.length, SV.i (Sto.mk (s.L.set j (Ln.mk x.nm q.ch q.op)) q.F q.cnt).cnt]), none, none, some (.fam Z3 ⟨famL (Sto.mk (s.L.set j (Ln.mk x.nm q.ch q.op)) q.F q.cnt).L, [], none⟩), some (u8B (Sto.mk (s.L.set j (Ln.mk x.nm q.ch q.op)) q.F q.cnt).F)]) Tryd.results8 rfl (by trivial) rfl rfl rfl ⟨rfl, rfl, rfl, trivial⟩ ⟨Z3, rfl, rfl⟩
 try simp only [cs, ne_eq] at hc7
 exfalso; first | omega | contradiction | (simp_all; done)
 try simp only [cs, ne_eq] at hc7
 refine r1 <| sO 25 83 1 rfl <| sT 23 91 2 rfl <| e1 99 rfl <| keep [0, 3, 4, 8, 23] rfl ?_
 refine q1 rfl (fun hc8 => ?_) (fun hc8 => ?_)
 try simp only [cs, ne_eq] at hc8
 refine W_skip <| tn ?_
 refine q1 rfl (fun hc8 => ?_) (fun hc8 => ?_)
 try simp only [cs, ne_eq] at hc8
 refine famOpen 1 j rfl (famL_at hj) rfl rfl (fun Z1 => ?_)
 refine rd1 rfl ?_
 refine dT 30 107 1 rfl <| dT 31 115 2 rfl <| dT 32 123 3 rfl <| dO 33 131 4 rfl <| dT 34 139 5 rfl <| dO 35 147 6 rfl ?_
 refine dLookF (some j) (.ptr 99 0 0) (hk ▸ KN d.nm s.L) (.inr ⟨j, rfl, List.mem_singleton.2 rfl⟩) 36 155 7 rfl rfl rfl rfl rfl rfl Tryd.underlying37 rfl (fun M ρ u h => h.val) rfl rfl ?_
 refine dT 29 163 8 rfl <| dT 37 171 9 rfl <| dT 38 179 10 rfl <| dT 5 187 11 rfl <| dT 6 195 12 rfl <| de1 203 rfl (by kernel_rfl) <| keep [0, 3, 4, 5, 6] rfl <| W_seq <| r1 <| sT 39 203 1 rfl <| sT 40 211 2 rfl <| e1 219 rfl <| keep [0, 3, 4, 5, 40] rfl ?_
 refine q1 rfl (fun hc13 => ?_) (fun hc13 => ?_)
 exact absurd hc13 (by simp)
 try simp only [cs, ne_eq] at hc13
 refine W_skip <| tn <| r1 <| sT 42 219 1 rfl <| sT 43 227 2 rfl <| sO 44 235 3 rfl ?_
 refine c1 (of_any d hd (by omega) x hx hxn s.F hs.F s.cnt hs.cnt q f hq) [0, 1, 2, 99, 100, 101] [0, 1, 2, 99, 100, 101, 243, 244, 245] 45 243 4 rfl rfl rfl rfl rfl rfl rfl rfl Tryd.func13 rfl rfl rfl rfl ⟨rfl, rfl, rfl, rfl, rfl, rfl, trivial⟩ rfl rfl ?_
 refine s0O 251 5 rfl rfl rfl rfl rfl <| e1 259 rfl <| keep [4] rfl ?_
 refine famShut 1 j [99, 244, 245] (.ptr 0 0 0) (serIn (Ln.mk x.nm q.ch q.op)) rfl (famL_at hj) rfl ⟨rfl, rfl, rfl, trivial⟩ rfl (fun Z3 => ?_)
 refine chval 1 (.fam Z3 ⟨famL (s.L.set j (Ln.mk x.nm q.ch q.op)), [], none⟩) rfl (congrArg (fun l => Blk.fam Z3 ⟨l, [], none⟩) (famL_set s.L j (Ln.mk x.nm q.ch q.op))) ?_
 refine rename 1 rfl rfl <| W_ret <| br <| tr ?_
 exact outN (fdV f) (π := [0, 1, 2, 259, 243]) (hout := [some (.cells 39 3 [.map 3, .sl 4 0 (Sto.mk (s.L.set j (Ln.mk x.nm q.ch q.op)) q.F q.cnt).F.length, SV.i (Sto.mk (s.L.set j (Ln.mk x.nm q.ch q.op)) q.F q.cnt).cnt]), none, none, some (.fam Z3 ⟨famL (Sto.mk (s.L.set j (Ln.mk x.nm q.ch q.op)) q.F q.cnt).L, [], none⟩), some (u8B (Sto.mk (s.L.set j (Ln.mk x.nm q.ch q.op)) q.F q.cnt).F)]) Tryd.results8 rfl (by trivial) rfl rfl rfl ⟨rfl, rfl, rfl, trivial⟩ ⟨Z3, rfl, rfl⟩
 try simp only [cs, ne_eq] at hc8
 exfalso; first | omega | contradiction | (simp_all; done)
 try simp only [cs, ne_eq] at hc8
 refine r1 <| sO 26 99 1 rfl <| sT 23 107 2 rfl <| e1 115 rfl <| keep [0, 3, 4, 8, 23] rfl ?_
 refine q1 rfl (fun hc9 => ?_) (fun hc9 => ?_)
 try simp only [cs, ne_eq] at hc9
 refine W_skip <| tn ?_
 refine q1 rfl (fun hc9 => ?_) (fun hc9 => ?_)
 try simp only [cs, ne_eq] at hc9
 refine famOpen 1 j rfl (famL_at hj) rfl rfl (fun Z1 => ?_)
 refine rd1 rfl ?_
 refine dT 30 123 1 rfl <| dT 31 131 2 rfl <| dT 32 139 3 rfl <| dO 33 147 4 rfl <| dT 34 155 5 rfl <| dO 35 163 6 rfl ?_
 refine dLookF (some j) (.ptr 115 0 0) (hk ▸ KN d.nm s.L) (.inr ⟨j, rfl, List.mem_singleton.2 rfl⟩) 36 171 7 rfl rfl rfl rfl rfl rfl Tryd.underlying37 rfl (fun M ρ u h => h.val) rfl rfl ?_
 refine dT 29 179 8 rfl <| dT 37 187 9 rfl <| dT 38 195 10 rfl <| dT 5 203 11 rfl <| dT 6 211 12 rfl <| de1 219 rfl (by kernel_rfl) <| keep [0, 3, 4, 5, 6] rfl <| W_seq <| r1 <| sT 39 219 1 rfl <| sT 40 227 2 rfl <| e1 235 rfl <| keep [0, 3, 4, 5, 40] rfl ?_
 refine q1 rfl (fun hc13 => ?_) (fun hc13 => ?_)
 exact absurd hc13 (by simp)
 try simp only [cs, ne_eq] at hc13
 refine W_skip <| tn <| r1 <| sT 42 235 1 rfl <| sT 43 243 2 rfl <| sO 44 251 3 rfl ?_
 refine c1 (of_any d hd (by omega) x hx hxn s.F hs.F s.cnt hs.cnt q f hq) [0, 1, 2, 115, 116, 117] [0, 1, 2, 115, 116, 117, 259, 260, 261] 45 259 4 rfl rfl rfl rfl rfl rfl rfl rfl Tryd.func13 rfl rfl rfl rfl ⟨rfl, rfl, rfl, rfl, rfl, rfl, trivial⟩ rfl rfl ?_
 refine s0O 267 5 rfl rfl rfl rfl rfl <| e1 275 rfl <| keep [4] rfl ?_
 refine famShut 1 j [115, 260, 261] (.ptr 0 0 0) (serIn (Ln.mk x.nm q.ch q.op)) rfl (famL_at hj) rfl ⟨rfl, rfl, rfl, trivial⟩ rfl (fun Z3 => ?_)
 refine chval 1 (.fam Z3 ⟨famL (s.L.set j (Ln.mk x.nm q.ch q.op)), [], none⟩) rfl (congrArg (fun l => Blk.fam Z3 ⟨l, [], none⟩) (famL_set s.L j (Ln.mk x.nm q.ch q.op))) ?_
 refine rename 1 rfl rfl <| W_ret <| br <| tr ?_
 exact outN (fdV f) (π := [0, 1, 2, 275, 259]) (hout := [some (.cells 39 3 [.map 3, .sl 4 0 (Sto.mk (s.L.set j (Ln.mk x.nm q.ch q.op)) q.F q.cnt).F.length, SV.i (Sto.mk (s.L.set j (Ln.mk x.nm q.ch q.op)) q.F q.cnt).cnt]), none, none, some (.fam Z3 ⟨famL (Sto.mk (s.L.set j (Ln.mk x.nm q.ch q.op)) q.F q.cnt).L, [], none⟩), some (u8B (Sto.mk (s.L.set j (Ln.mk x.nm q.ch q.op)) q.F q.cnt).F)]) Tryd.results8 rfl (by trivial) rfl rfl rfl ⟨rfl, rfl, rfl, trivial⟩ ⟨Z3, rfl, rfl⟩
 try simp only [cs, ne_eq] at hc9
 exfalso; first | omega | contradiction | (simp_all; done)
 try simp only [cs, ne_eq] at hc9
 refine r1 <| sO 27 115 1 rfl <| sT 23 123 2 rfl <| e1 131 rfl <| keep [0, 3, 4, 8, 23] rfl ?_
 refine q1 rfl (fun hc10 => ?_) (fun hc10 => ?_)
 try simp only [cs, ne_eq] at hc10
 refine W_skip <| tn ?_
 refine q1 rfl (fun hc10 => ?_) (fun hc10 => ?_)
 try simp only [cs, ne_eq] at hc10
 refine famOpen 1 j rfl (famL_at hj) rfl rfl (fun Z1 => ?_)
 refine rd1 rfl ?_
 refine dT 30 139 1 rfl <| dT 31 147 2 rfl <| dT 32 155 3 rfl <| dO 33 163 4 rfl <| dT 34 171 5 rfl <| dO 35 179 6 rfl ?_
 refine dLookF (some j) (.ptr 131 0 0) (hk ▸ KN d.nm s.L) (.inr ⟨j, rfl, List.mem_singleton.2 rfl⟩) 36 187 7 rfl rfl rfl rfl rfl rfl Tryd.underlying37 rfl (fun M ρ u h => h.val) rfl rfl ?_
 refine dT 29 195 8 rfl <| dT 37 203 9 rfl <| dT 38 211 10 rfl <| dT 5 219 11 rfl <| dT 6 227 12 rfl <| de1 235 rfl (by kernel_rfl) <| keep [0, 3, 4, 5, 6] rfl <| W_seq <| r1 <| sT 39 235 1 rfl <| sT 40 243 2 rfl <| e1 251 rfl <| keep [0, 3, 4, 5, 40] rfl ?_
 refine q1 rfl (fun hc13 => ?_) (fun hc13 => ?_)
 exact absurd hc13 (by simp)
 try simp only [cs, ne_eq] at hc13
 refine W_skip <| tn <| r1 <| sT 42 251 1 rfl <| sT 43 259 2 rfl <| sO 44 267 3 rfl ?_
 refine c1 (of_any d hd (by omega) x hx hxn s.F hs.F s.cnt hs.cnt q f hq) [0, 1, 2, 131, 132, 133] [0, 1, 2, 131, 132, 133, 275, 276, 277] 45 275 4 rfl rfl rfl rfl rfl rfl rfl rfl Tryd.func13 rfl rfl rfl rfl ⟨rfl, rfl, rfl, rfl, rfl, rfl, trivial⟩ rfl rfl ?_
 refine s0O 283 5 rfl rfl rfl rfl rfl <| e1 291 rfl <| keep [4] rfl ?_
 refine famShut 1 j [131, 276, 277] (.ptr 0 0 0) (serIn (Ln.mk x.nm q.ch q.op)) rfl (famL_at hj) rfl ⟨rfl, rfl, rfl, trivial⟩ rfl (fun Z3 => ?_)
 refine chval 1 (.fam Z3 ⟨famL (s.L.set j (Ln.mk x.nm q.ch q.op)), [], none⟩) rfl (congrArg (fun l => Blk.fam Z3 ⟨l, [], none⟩) (famL_set s.L j (Ln.mk x.nm q.ch q.op))) ?_
 refine rename 1 rfl rfl <| W_ret <| br <| tr ?_
 exact outN (fdV f) (π := [0, 1, 2, 291, 275]) (hout := [some (.cells 39 3 [.map 3, .sl 4 0 (Sto.mk (s.L.set j (Ln.mk x.nm q.ch q.op)) q.F q.cnt).F.length, SV.i (Sto.mk (s.L.set j (Ln.mk x.nm q.ch q.op)) q.F q.cnt).cnt]), none, none, some (.fam Z3 ⟨famL (Sto.mk (s.L.set j (Ln.mk x.nm q.ch q.op)) q.F q.cnt).L, [], none⟩), some (u8B (Sto.mk (s.L.set j (Ln.mk x.nm q.ch q.op)) q.F q.cnt).F)]) Tryd.results8 rfl (by trivial) rfl rfl rfl ⟨rfl, rfl, rfl, trivial⟩ ⟨Z3, rfl, rfl⟩
 try simp only [cs, ne_eq] at hc10
 exfalso; first | omega | contradiction | (simp_all; done)
 try simp only [cs, ne_eq] at hc10
 refine r0 ?_
 refine sO 28 131 1 rfl <| sT 23 139 2 rfl <| e1 147 rfl <| tn ?_
 refine q1 rfl (fun hc11 => ?_) (fun hc11 => ?_)
 try simp only [cs, ne_eq] at hc11
 refine famOpen 1 j rfl (famL_at hj) rfl rfl (fun Z1 => ?_)
 refine rd1 rfl ?_
 refine dT 30 155 1 rfl <| dT 31 163 2 rfl <| dT 32 171 3 rfl <| dO 33 179 4 rfl <| dT 34 187 5 rfl <| dO 35 195 6 rfl ?_
 refine dLookF (some j) (.ptr 147 0 0) (hk ▸ KN d.nm s.L) (.inr ⟨j, rfl, List.mem_singleton.2 rfl⟩) 36 203 7 rfl rfl rfl rfl rfl rfl Tryd.underlying37 rfl (fun M ρ u h => h.val) rfl rfl ?_
 refine dT 29 211 8 rfl <| dT 37 219 9 rfl <| dT 38 227 10 rfl <| dT 5 235 11 rfl <| dT 6 243 12 rfl <| de1 251 rfl (by kernel_rfl) <| keep [0, 3, 4, 5, 6] rfl <| W_seq <| r1 <| sT 39 251 1 rfl <| sT 40 259 2 rfl <| e1 267 rfl <| keep [0, 3, 4, 5, 40] rfl ?_
 refine q1 rfl (fun hc13 => ?_) (fun hc13 => ?_)
 exact absurd hc13 (by simp)
 try simp only [cs, ne_eq] at hc13
 refine W_skip <| tn <| r1 <| sT 42 267 1 rfl <| sT 43 275 2 rfl <| sO 44 283 3 rfl ?_
 refine c1 (of_any d hd (by omega) x hx hxn s.F hs.F s.cnt hs.cnt q f hq) [0, 1, 2, 147, 148, 149] [0, 1, 2, 147, 148, 149, 291, 292, 293] 45 291 4 rfl rfl rfl rfl rfl rfl rfl rfl Tryd.func13 rfl rfl rfl rfl ⟨rfl, rfl, rfl, rfl, rfl, rfl, trivial⟩ rfl rfl ?_
 refine s0O 299 5 rfl rfl rfl rfl rfl <| e1 307 rfl <| keep [4] rfl ?_
 refine famShut 1 j [147, 292, 293] (.ptr 0 0 0) (serIn (Ln.mk x.nm q.ch q.op)) rfl (famL_at hj) rfl ⟨rfl, rfl, rfl, trivial⟩ rfl (fun Z3 => ?_)
 refine chval 1 (.fam Z3 ⟨famL (s.L.set j (Ln.mk x.nm q.ch q.op)), [], none⟩) rfl (congrArg (fun l => Blk.fam Z3 ⟨l, [], none⟩) (famL_set s.L j (Ln.mk x.nm q.ch q.op))) ?_
 refine rename 1 rfl rfl <| W_ret <| br <| tr ?_
 exact outN (fdV f) (π := [0, 1, 2, 307, 291]) (hout := [some (.cells 39 3 [.map 3, .sl 4 0 (Sto.mk (s.L.set j (Ln.mk x.nm q.ch q.op)) q.F q.cnt).F.length, SV.i (Sto.mk (s.L.set j (Ln.mk x.nm q.ch q.op)) q.F q.cnt).cnt]), none, none, some (.fam Z3 ⟨famL (Sto.mk (s.L.set j (Ln.mk x.nm q.ch q.op)) q.F q.cnt).L, [], none⟩), some (u8B (Sto.mk (s.L.set j (Ln.mk x.nm q.ch q.op)) q.F q.cnt).F)]) Tryd.results8 rfl (by trivial) rfl rfl rfl ⟨rfl, rfl, rfl, trivial⟩ ⟨Z3, rfl, rfl⟩
 simp at hc11; omega
end Go.Proofs.YtalhangpahffeaaDoor.Nice
namespace Go.Proofs.YtalhangpahffeaaDoor.Nice
open Go Go.Proofs
set_option linter.unusedVariables false
set_option linter.unusedSimpArgs false
set_option maxRecDepth 100000
set_option maxHeartbeats 4000000
def u8s (l : List Int) : List UInt8 := l.map fun v => UInt8.ofNat v.toNat
theorem u8s_get {l : List Int} (hl : Bytes l) (j : Nat) (hj : j < (u8s l).length) : u8F l j 0 = .val (.int .u8 ((u8s l)[j].toNat : Int)) := by
 have hj' : j < l.length := by simpa [u8s] using hj
 have e : (u8s l)[j] = UInt8.ofNat (l[j]'hj').toNat := by unfold u8s; exact List.getElem_map ..
 have := hl.b j
 rw [show l.getD j 0 = l[j]'hj' by simp [List.getD, hj']] at this
 rw [e, UInt8.toNat_ofNat']
 unfold u8F
 rw [show l.getD j 0 = l[j]'hj' by simp [List.getD, hj'], show ((l[j]'hj').toNat % 2 ^ 8 : Nat) = (l[j]'hj').toNat by omega, Int.toNat_of_nonneg this.1]
theorem nm_back (s : ByteArray) : (⟨(u8s (nmL s)).toArray⟩ : ByteArray) = s := by
 obtain ⟨a⟩ := s
 congr 1
 apply Array.ext_getElem?
 intro i
 rw [List.getElem?_toArray]
 unfold u8s nmL
 rw [List.map_map, List.getElem?_map]
 by_cases h : i < a.size
 · have hs : i < (⟨a⟩ : ByteArray).size := h
   rw [List.getElem?_range hs, Array.getElem?_eq_getElem h]
   simp [byteAt, Array.getD, h]
 · have hs : ¬ i < (⟨a⟩ : ByteArray).size := h
   rw [List.getElem?_eq_none (by simp; exact Nat.le_of_not_lt hs), Array.getElem?_eq_none (by omega)]; rfl
structure Ev where
 k : Nat
 nm : ByteArray
 l : List Smp
 kp : Int
 deriving Inhabited
def tailE (e : Ev) : List Int := if e.k = 1 then nmL e.nm else [(e.nm.size : Int)] ++ nmL e.nm ++ (if e.k = 2 then encB e.l else putB 8 (xorL e.kp))
def bodyE (e : Ev) : List Int := [(e.k : Int)] ++ tailE e
def onL (L : List Ln) (nm : ByteArray) (f : Ln → Ln) : List Ln := match idxN nm L with
 | none => L
 | some j => L.set j (f (L.getD j default))
def sealL (l : List Smp) (x : Ln) : Ln := ⟨x.nm, x.ch ++ [l], []⟩
def trimL (kp : Int) (x : Ln) : Ln := ⟨x.nm, x.ch.filter (keepC kp), x.op⟩
def againL (l : List Smp) (x : Ln) : Ln := ⟨x.nm, x.ch ++ [l], x.op⟩
def againE (L : List Ln) (e : Ev) : List Ln := if e.k = 1 then L ++ [⟨e.nm, [], []⟩] else if e.k = 2 then onL L e.nm (againL e.l) else onL L e.nm (trimL e.kp)
def Rt (l : List Smp) : Prop := decE (encB l) = 0 ∧ decM (encB l) = l
theorem ag_name (nm : ByteArray) (R : List Int) {M : Imm} {ρ : Names} {n : Nat} {z : Value} (h : VR M ρ (.d (.vec 1 n (fun r c => u8F ([(nm.size : Int)] ++ nmL nm ++ R) (1 + r) c))) z) (hn : n = nm.size) : VR M ρ (u8V (nmL nm)) z := by
 subst hn
 unfold u8V
 rw [nmL_len]
 refine h.vec_congr fun i c hi hc => ?_
 unfold u8F
 refine congrArg (fun x => D.val (Value.int .u8 x)) ?_
 rw [List.getD_eq_getElem?_getD, List.getD_eq_getElem?_getD, List.append_assoc, List.singleton_append, Nat.add_comm, List.getElem?_cons_succ, List.getElem?_append_left (by rw [nmL_len]; exact hi)]
theorem ag_rest (nm : ByteArray) (R : List Int) {M : Imm} {ρ : Names} {n a : Nat} {z : Value} (h : VR M ρ (.d (.vec 1 n (fun r c => u8F ([(nm.size : Int)] ++ nmL nm ++ R) (a + r) c))) z) (hn : n = R.length) (ha : a = 1 + nm.size) : VR M ρ (u8V R) z := by
 subst hn; subst ha
 refine h.vec_congr fun i c hi hc => ?_
 unfold u8F
 refine congrArg (fun x => D.val (Value.int .u8 x)) ?_
 rw [List.getD_eq_getElem?_getD, List.getD_eq_getElem?_getD, List.getElem?_append_right (by simp [nmL_len]; omega)]
 congr 2
 simp [nmL_len]; omega
theorem again1 {Z : List Nat} (s : Sto) (nm : ByteArray) (hnm : nm.size ≤ 8) (hk : idxN nm s.L = none) : Spec Tryd.prog GF 26 [.ptr 0 0 0, .d (.val (.int .u8 1)), u8V (nmL nm)] [.cells 39 3 [.map 1, .sl 2 0 s.F.length, SV.i s.cnt], .fam Z ⟨famL s.L, [], none⟩, u8B s.F] (fun r ho => ∃ Z2, r = SV.tup [] ∧ ho = [some (.cells 39 3 [.map 1, .sl 2 0 s.F.length, SV.i s.cnt]), some (.fam Z2 ⟨famL (s.L ++ [(Ln.mk nm [] [])]), [], none⟩), some (u8B s.F)]) := by
 have hnb := nmL_bytes nm (by omega)
 refine start 60 3 Tryd.func26 rfl rfl rfl rfl ?_
 refine W_seq <| r1 <| sT 11 3 1 rfl <| sO 12 11 2 rfl <| e1 19 rfl <| keep [0, 1, 2, 12] rfl ?_
 refine q1 rfl (fun hc0 => ?_) (fun hc0 => ?_)
 try simp only [cs, ne_eq] at hc0
 refine rd1 rfl ?_
 refine dT 13 19 1 rfl <| dT 14 27 2 rfl <| dT 15 35 3 rfl <| dO 16 43 4 rfl <| dT 17 51 5 rfl ?_
 refine aStr (u8s (nmL nm)) 18 59 6 rfl rfl rfl rfl rfl rfl Tryd.underlying24 rfl Tryd.underlying9 rfl (by simp [u8s, nmL_len]) (u8s_get hnb) ?_
 refine val 18 (.d (.val (.string nm))) rfl (by rw [nm_back]) ?_
 refine dT 19 67 7 rfl <| dT 20 75 8 rfl ?_
 refine dMapF none (.ptr 75 0 0) (hk ▸ KN nm s.L) (fun p hp => by cases hp) 83 9 rfl rfl rfl rfl rfl Tryd.underlying37 rfl (fun M ρ u h => h.val) rfl rfl ?_
 refine de1 91 rfl (by kernel_rfl) <| keep [] rfl ?_
 refine cghostly 75 0 29 1 (chF []) rfl rfl rfl ?_
 refine cghostly 75 1 41 2 (smpF []) rfl rfl rfl ?_
 refine famShut 1 (famL s.L).length [75, 91, 99] (.ptr 0 0 0) (serIn (Ln.mk nm [] [])) rfl (push_atL s.L _) rfl ⟨rfl, rfl, rfl, trivial⟩ rfl (fun Z3 => ?_)
 refine chval 1 (.fam Z3 ⟨famL (s.L ++ [(Ln.mk nm [] [])]), [], none⟩) rfl (congrArg (fun l => Blk.fam Z3 ⟨l, [], none⟩) (famL_push s.L (Ln.mk nm [] []))) ?_
 refine W_ret <| tr ?_
 exact out0 (π := [0, 1, 2]) (hout := [some (.cells 39 3 [.map 1, .sl 2 0 s.F.length, SV.i s.cnt]), some (.fam Z3 ⟨famL (s.L ++ [(Ln.mk nm [] [])]), [], none⟩), some (u8B s.F)]) Tryd.results26 rfl rfl ⟨rfl, rfl, rfl, trivial⟩ ⟨Z3, rfl, rfl⟩
 exact absurd hc0 (by decide)
theorem again2 {Z : List Nat} (s : Sto) (nm : ByteArray) (hnm : nm.size ≤ 8) (l : List Smp) (hl : l.length ≤ 120) (hrt : Rt l) {j : Nat} {x : Ln} (hx : LnIn x) (hk : idxN nm s.L = some j) (hj : s.L[j]? = some x) : Spec Tryd.prog GF 26 [.ptr 0 0 0, .d (.val (.int .u8 2)), u8V ([(nm.size : Int)] ++ nmL nm ++ encB l)] [.cells 39 3 [.map 1, .sl 2 0 s.F.length, SV.i s.cnt], .fam Z ⟨famL s.L, [], none⟩, u8B s.F] (fun r ho => ∃ Z2, r = SV.tup [] ∧ ho = [some (.cells 39 3 [.map 1, .sl 2 0 s.F.length, SV.i s.cnt]), some (.fam Z2 ⟨famL (s.L.set j (againL l x)), [], none⟩), some (u8B s.F)]) := by
 have hnb := nmL_bytes nm (by omega)
 have hRl : ([(nm.size : Int)] ++ nmL nm ++ encB l).length = 1 + nm.size + (encB l).length := (by simp [nmL_len]; omega)
 have hxc := hx.c
 have hp8 : (encB l).length ≤ 100000 := (by have := encB_len l; omega)
 refine start 60 3 Tryd.func26 rfl rfl rfl rfl ?_
 refine W_seq <| r1 <| sT 11 3 1 rfl <| sO 12 11 2 rfl <| e1 19 rfl <| keep [0, 1, 2, 12] rfl ?_
 refine q1 rfl (fun hc0 => ?_) (fun hc0 => ?_)
 exact absurd hc0 (by decide)
 try simp only [cs, ne_eq] at hc0
 refine W_skip <| tn <| r1 <| sT 21 19 1 rfl ?_
 refine sV 22 27 2 rfl ⟨by omega, by omega⟩ ?_
 refine sO 23 35 3 rfl ?_
 refine val 23 (.d (.val (.int .u8 nm.size))) rfl rfl ?_
 refine sT 24 43 4 rfl ?_
 refine val 24 (SV.i nm.size) rfl (congrArg SV.i (wrap_in ⟨by omega, by omega⟩)) ?_
 refine sAO 25 51 5 rfl ?_
 refine val 25 (SV.i (1 + nm.size : Nat)) rfl (congrArg SV.i (by omega)) ?_
 refine sT 6 59 6 rfl <| e1 67 rfl <| keep [0, 1, 2, 6] rfl ?_
 refine famOpen 1 j rfl (famL_at hj) rfl rfl (fun Z1 => ?_)
 refine rd1 rfl ?_
 refine dT 26 75 1 rfl <| dT 27 83 2 rfl <| dT 28 91 3 rfl <| dO 29 99 4 rfl <| dT 30 107 5 rfl <| dT 31 115 6 rfl ?_
 refine d1w (u8V (nmL nm)) 32 123 7 rfl rfl rfl rfl rfl rfl ⟨by omega, by omega, by omega⟩ (fun M ρ z h => ag_name nm (encB l) h (by omega)) ?_
 refine aStr (u8s (nmL nm)) 33 131 8 rfl rfl rfl rfl rfl rfl Tryd.underlying24 rfl Tryd.underlying9 rfl (by simp [u8s, nmL_len]) (u8s_get hnb) ?_
 refine val 33 (.d (.val (.string nm))) rfl (by rw [nm_back]) ?_
 refine dLookF (some j) (.ptr 67 0 0) (hk ▸ KN nm s.L) (.inr ⟨j, rfl, List.mem_singleton.2 rfl⟩) 34 139 9 rfl rfl rfl rfl rfl rfl Tryd.underlying37 rfl (fun M ρ u h => h.val) rfl rfl ?_
 refine dT 35 147 10 rfl <| dT 36 155 11 rfl ?_
 refine d1w (u8V (encB l)) 37 163 12 rfl rfl rfl rfl rfl rfl ⟨by omega, by omega, by omega⟩ (fun M ρ z h => ag_rest nm (encB l) h (by omega) (by omega)) ?_
 refine dT 7 171 13 rfl <| dT 8 179 14 rfl <| de1 187 rfl (by kernel_rfl) <| keep [1, 7, 8] rfl <| W_seq <| r1 <| sT 38 187 1 rfl <| sO 39 195 2 rfl <| e1 203 rfl <| keep [7, 8, 39] rfl ?_
 refine q1 rfl (fun hc4 => ?_) (fun hc4 => ?_)
 exact absurd hc4 (by decide)
 try simp only [cs, ne_eq] at hc4
 refine W_skip <| tn <| r1 <| sT 46 203 1 rfl ?_
 refine cQ (decode_any (encB l) (encB_bytes l hl)) [] 47 211 2 rfl rfl rfl rfl rfl rfl rfl Tryd.func39 rfl rfl rfl trivial ?_
 rintro _ _ (⟨_, rfl, rfl⟩ | ⟨hbad, _, _⟩)
 rotate_left
 · exact absurd hrt.1 hbad
 refine val 47 (.tup [.sl 211 0 (decM (encB l)).length, SV.i 0]) rfl rfl ?_
 refine hval 211 _ rfl (smB (decM (encB l))) rfl ?_
 refine sT 45 219 3 rfl <| sT 48 227 4 rfl <| sT 49 235 5 rfl <| sT 9 243 6 rfl <| sT 10 251 7 rfl <| e1 259 rfl <| keep [7, 9] rfl ?_
 refine freeze 9 211 (decM (encB l)).length rfl rfl (Nat.le_refl _) ?_
 refine cval 9 (smpV l) rfl (by rw [hrt.2]; rfl) ?_
 refine r0n ?_
 refine sT 50 259 1 rfl <| sT 51 267 2 rfl <| sT 52 275 3 rfl <| sT 53 283 4 rfl <| sO 54 291 5 rfl <| sT 55 299 6 rfl <| sT 56 307 7 rfl ?_
 refine sV 57 315 8 rfl ⟨Nat.le_refl _, trivial, (by show (_ + 1) * 24 ≤ 140737488355328; omega), (by simp only [maxLen]; omega)⟩ ?_
 refine sT 58 323 9 rfl <| sT 59 331 10 rfl <| s0O 339 11 rfl rfl rfl rfl rfl <| e1 347 rfl ?_
 refine rowscn 315 (x.ch ++ [l]).length (chF (x.ch ++ [l])) rfl (by simp) (fun i c hi hc => ch_one rfl i c hi hc) ?_
 refine chvaln 67 (.cells 71 2 [.sl 315 0 (x.ch ++ [l]).length, .sl 69 0 x.op.length]) rfl (congrArg (fun n => Blk.cells 71 2 [.sl 315 0 n, .sl 69 0 x.op.length]) (show x.ch.length + 1 = (x.ch ++ [l]).length by simp)) ?_
 refine famShutn 1 j [67, 315, 69] (.ptr 0 0 0) (serIn (againL l x)) rfl (famL_at hj) rfl ⟨rfl, rfl, rfl, trivial⟩ rfl (fun Z3 => ?_)
 refine chvaln 1 (.fam Z3 ⟨famL (s.L.set j (againL l x)), [], none⟩) rfl (congrArg (fun l => Blk.fam Z3 ⟨l, [], none⟩) (famL_set s.L j (againL l x))) ?_
 refine wn ?_
 exact out0 (π := [0, 1, 2]) (hout := [some (.cells 39 3 [.map 1, .sl 2 0 s.F.length, SV.i s.cnt]), some (.fam Z3 ⟨famL (s.L.set j (againL l x)), [], none⟩), some (u8B s.F)]) Tryd.results26 rfl rfl ⟨rfl, rfl, rfl, trivial⟩ ⟨Z3, rfl, rfl⟩
theorem again3 {Z : List Nat} (s : Sto) (nm : ByteArray) (hnm : nm.size ≤ 8) (kp : Int) (hkp : inRange kp) {j : Nat} {x : Ln} (hx : LnIn x) (hk : idxN nm s.L = some j) (hj : s.L[j]? = some x) : Spec Tryd.prog GF 26 [.ptr 0 0 0, .d (.val (.int .u8 3)), u8V ([(nm.size : Int)] ++ nmL nm ++ putB 8 (xorL kp))] [.cells 39 3 [.map 1, .sl 2 0 s.F.length, SV.i s.cnt], .fam Z ⟨famL s.L, [], none⟩, u8B s.F] (fun r ho => ∃ Z2, r = SV.tup [] ∧ ho = [some (.cells 39 3 [.map 1, .sl 2 0 s.F.length, SV.i s.cnt]), some (.fam Z2 ⟨famL (s.L.set j (trimL kp x)), [], none⟩), some (u8B s.F)]) := by
 have hnb := nmL_bytes nm (by omega)
 have hRl : ([(nm.size : Int)] ++ nmL nm ++ putB 8 (xorL kp)).length = 1 + nm.size + (putB 8 (xorL kp)).length := (by simp [nmL_len]; omega)
 have hxc := hx.c
 have hp8 : (putB 8 (xorL kp)).length ≤ 100000 := (by unfold putB; rw [putT_len]; omega)
 refine start 60 3 Tryd.func26 rfl rfl rfl rfl ?_
 refine W_seq <| r1 <| sT 11 3 1 rfl <| sO 12 11 2 rfl <| e1 19 rfl <| keep [0, 1, 2, 12] rfl ?_
 refine q1 rfl (fun hc0 => ?_) (fun hc0 => ?_)
 exact absurd hc0 (by decide)
 try simp only [cs, ne_eq] at hc0
 refine W_skip <| tn <| r1 <| sT 21 19 1 rfl ?_
 refine sV 22 27 2 rfl ⟨by omega, by omega⟩ ?_
 refine sO 23 35 3 rfl ?_
 refine val 23 (.d (.val (.int .u8 nm.size))) rfl rfl ?_
 refine sT 24 43 4 rfl ?_
 refine val 24 (SV.i nm.size) rfl (congrArg SV.i (wrap_in ⟨by omega, by omega⟩)) ?_
 refine sAO 25 51 5 rfl ?_
 refine val 25 (SV.i (1 + nm.size : Nat)) rfl (congrArg SV.i (by omega)) ?_
 refine sT 6 59 6 rfl <| e1 67 rfl <| keep [0, 1, 2, 6] rfl ?_
 refine famOpen 1 j rfl (famL_at hj) rfl rfl (fun Z1 => ?_)
 refine rd1 rfl ?_
 refine dT 26 75 1 rfl <| dT 27 83 2 rfl <| dT 28 91 3 rfl <| dO 29 99 4 rfl <| dT 30 107 5 rfl <| dT 31 115 6 rfl ?_
 refine d1w (u8V (nmL nm)) 32 123 7 rfl rfl rfl rfl rfl rfl ⟨by omega, by omega, by omega⟩ (fun M ρ z h => ag_name nm (putB 8 (xorL kp)) h (by omega)) ?_
 refine aStr (u8s (nmL nm)) 33 131 8 rfl rfl rfl rfl rfl rfl Tryd.underlying24 rfl Tryd.underlying9 rfl (by simp [u8s, nmL_len]) (u8s_get hnb) ?_
 refine val 33 (.d (.val (.string nm))) rfl (by rw [nm_back]) ?_
 refine dLookF (some j) (.ptr 67 0 0) (hk ▸ KN nm s.L) (.inr ⟨j, rfl, List.mem_singleton.2 rfl⟩) 34 139 9 rfl rfl rfl rfl rfl rfl Tryd.underlying37 rfl (fun M ρ u h => h.val) rfl rfl ?_
 refine dT 35 147 10 rfl <| dT 36 155 11 rfl ?_
 refine d1w (u8V (putB 8 (xorL kp))) 37 163 12 rfl rfl rfl rfl rfl rfl ⟨by omega, by omega, by omega⟩ (fun M ρ z h => ag_rest nm (putB 8 (xorL kp)) h (by omega) (by omega)) ?_
 refine dT 7 171 13 rfl <| dT 8 179 14 rfl <| de1 187 rfl (by kernel_rfl) <| keep [1, 7, 8] rfl <| W_seq <| r1 <| sT 38 187 1 rfl <| sO 39 195 2 rfl <| e1 203 rfl <| keep [7, 8, 39] rfl ?_
 refine q1 rfl (fun hc4 => ?_) (fun hc4 => ?_)
 try simp only [cs, ne_eq] at hc4
 refine r1 <| sT 40 203 1 rfl <| sT 41 211 2 rfl ?_
 refine c1 (fget8 (putB 8 (xorL kp)) (putB_bytes 8 _ (by omega)) (by unfold putB; rw [putT_len]; omega)) [] [] 42 219 3 rfl rfl rfl rfl rfl rfl rfl rfl Tryd.func38 rfl rfl rfl rfl trivial rfl rfl ?_
 refine sO 43 227 4 rfl ?_
 refine val 43 (SV.i kp) rfl (congrArg SV.i (by rw [put_xor kp (by unfold inRange at hkp; omega) (by unfold inRange at hkp; omega)]; exact get_xor (by unfold inRange at hkp; omega) (by unfold inRange at hkp; omega))) ?_
 refine c1 (trim_any x.ch x.op hx.ok kp) [67, 68, 69] [67, 68, 69, 235] 44 235 5 rfl rfl rfl rfl rfl rfl rfl rfl Tryd.func29 rfl rfl rfl rfl ⟨rfl, rfl, rfl, trivial⟩ rfl rfl ?_
 refine e1 243 rfl <| keep [] rfl ?_
 refine famShut 1 j [67, 235, 69] (.ptr 0 0 0) (serIn (trimL kp x)) rfl (famL_at hj) rfl ⟨rfl, rfl, rfl, trivial⟩ rfl (fun Z3 => ?_)
 refine chval 1 (.fam Z3 ⟨famL (s.L.set j (trimL kp x)), [], none⟩) rfl (congrArg (fun l => Blk.fam Z3 ⟨l, [], none⟩) (famL_set s.L j (trimL kp x))) ?_
 refine W_ret <| tr ?_
 exact out0 (π := [0, 1, 2]) (hout := [some (.cells 39 3 [.map 1, .sl 2 0 s.F.length, SV.i s.cnt]), some (.fam Z3 ⟨famL (s.L.set j (trimL kp x)), [], none⟩), some (u8B s.F)]) Tryd.results26 rfl rfl ⟨rfl, rfl, rfl, trivial⟩ ⟨Z3, rfl, rfl⟩
 exact absurd hc4 (by decide)
end Go.Proofs.YtalhangpahffeaaDoor.Nice
namespace Go.Proofs.YtalhangpahffeaaDoor.Nice
open Go Go.Proofs
set_option linter.unusedVariables false
set_option linter.unusedSimpArgs false
set_option maxRecDepth 100000
set_option maxHeartbeats 4000000
def EvAt (L : List Ln) (e : Ev) : Prop := e.nm.size ≤ 8 ∧
 ((e.k = 1 ∧ idxN e.nm L = none) ∨ (e.k = 2 ∧ e.l.length ≤ 120 ∧ Rt e.l ∧ ∃ j x, idxN e.nm L = some j ∧ L[j]? = some x ∧ LnIn x) ∨ (e.k = 3 ∧ inRange e.kp ∧ ∃ j x, idxN e.nm L = some j ∧ L[j]? = some x ∧ LnIn x))
def replayA (E : List Ev) : List Ln := E.foldl againE []
theorem replayA_succ {E : List Ev} {i : Nat} (h : i < E.length) : replayA (E.take (i + 1)) = againE (replayA (E.take i)) (E.getD i default) := by
 unfold replayA
 rw [take_succ' h, List.foldl_append, getD_eq h]; rfl
theorem onL_at {L : List Ln} {nm : ByteArray} {f : Ln → Ln} {j : Nat} {x : Ln} (h : idxN nm L = some j) (hj : L[j]? = some x) : onL L nm f = L.set j (f x) := by
 unfold onL
 rw [h]
 show L.set j (f (L.getD j default)) = _
 rw [List.getD_eq_getElem?_getD, hj]; rfl
theorem body_at {bs : List Ev} {i : Nat} (h : i < bs.length) : (bs.map bodyE).getD i [] = bodyE (bs.getD i default) := by
 simp [List.getD, h]
theorem body_len (e : Ev) : (bodyE e).length = 1 + (tailE e).length := by unfold bodyE; simp; omega
theorem take_drop1 (e : Ev) : (bodyE e).drop 1 = tailE e := rfl
theorem again_any {Z : List Nat} (s : Sto) (e : Ev) (h : EvAt s.L e) : Spec Tryd.prog GF 26 [.ptr 0 0 0, .d (.val (.int .u8 (e.k : Nat))), u8V (tailE e)] [.cells 39 3 [.map 1, .sl 2 0 s.F.length, SV.i s.cnt], .fam Z ⟨famL s.L, [], none⟩, u8B s.F] (fun r ho => ∃ Z2, r = SV.tup [] ∧ ho = [some (.cells 39 3 [.map 1, .sl 2 0 s.F.length, SV.i s.cnt]), some (.fam Z2 ⟨famL (againE s.L e), [], none⟩), some (u8B s.F)]) := by
 obtain ⟨k, nm, l, kp⟩ := e
 obtain ⟨hnm, h⟩ := h
 rcases h with ⟨rfl, hk⟩ | ⟨rfl, hl, hrt, j, x, hk, hj, hx⟩ | ⟨rfl, hkp, j, x, hk, hj, hx⟩
 · exact again1 s nm hnm hk
 · have e1 : againE s.L ⟨2, nm, l, kp⟩ = s.L.set j (againL l x) := onL_at hk hj
   rw [e1]
   exact again2 s nm hnm l hl hrt hx hk hj
 · have e1 : againE s.L ⟨3, nm, l, kp⟩ = s.L.set j (trimL kp x) := onL_at hk hj
   rw [e1]
   exact again3 s nm hnm kp hkp hx hk hj
theorem fall_any {Z : List Nat} (kp : Int) (s : Sto) (hb : Bytes s.F) (hF : s.F.length ≤ 900000) (u : Nat) (hu : (u : Int) = min (max 0 kp) s.F.length) (q : OpenR) (hq : opened (s.F.take u) = q) (bs : List Ev) (hbs : q.L = bs.map bodyE) (hb2 : bs.length ≤ 200) (F2 : List Int) (hn : (F2.length : Int) = q.n) (hn2 : F2.length ≤ u) (hF2 : s.F.take F2.length = F2) (hvl : ∀ i, i < bs.length → EvAt (replayA (bs.take i)) (bs.getD i default)) : Spec Tryd.prog GF 12 [.ptr 0 0 0, SV.i kp] [.cells 39 3 [.map 1, .sl 2 0 s.F.length, SV.i s.cnt], .fam Z ⟨famL s.L, [], none⟩, u8B s.F] (fun r ho => ∃ Z2, r = SV.tup [] ∧ ho = [some (.cells 39 3 [.map 3, .sl 4 0 (Sto.mk (replayA bs) F2 bs.length).F.length, SV.i (Sto.mk (replayA bs) F2 bs.length).cnt]), none, none, some (.fam Z2 ⟨famL (Sto.mk (replayA bs) F2 bs.length).L, [], none⟩), some (u8B (Sto.mk (replayA bs) F2 bs.length).F)]) := by
 have hul : u ≤ s.F.length := (by omega)
 have hql : q.L.length = bs.length := (by rw [hbs, List.length_map])
 have htl : (s.F.take u).length = u := (by rw [List.length_take]; omega)
 have hF3 : (s.F.take u).take F2.length = F2 := (by rw [List.take_take, Nat.min_eq_left hn2]; exact hF2)
 refine start 53 3 Tryd.func12 rfl rfl rfl rfl ?_
 refine rd1 rfl ?_
 refine dT 10 3 1 rfl <| dT 11 11 2 rfl <| dT 12 19 3 rfl <| dO 13 27 4 rfl <| dT 14 35 5 rfl <| dO 15 43 6 rfl <| dT 16 51 7 rfl <| dT 17 59 8 rfl <| dT 18 67 9 rfl <| dO 19 75 10 rfl <| dO 20 83 11 rfl <| dO 21 91 12 rfl ?_
 refine val 21 (SV.i (u : Nat)) rfl (congrArg SV.i (by omega)) ?_
 refine dV 22 99 13 rfl ⟨by omega, by omega, by omega, by omega⟩ ?_
 refine val 22 (.sl 2 0 u) rfl (by simp) ?_
 refine dT 4 107 14 rfl <| de1 115 rfl (by kernel_rfl) <| keep [0, 4] rfl ?_
 refine freeze 4 2 u rfl rfl hul ?_
 refine slotc 4 (u8V (s.F.take u)) rfl (fun M ρ v h => piece0_w rfl hul h) ?_
 refine r1 <| sT 24 115 1 rfl ?_
 refine c1 (open_file (s.F.take u) (bytes_take hb u) q hq) [] [] 25 123 2 rfl rfl rfl rfl rfl rfl rfl rfl Tryd.func24 rfl rfl rfl rfl trivial rfl rfl ?_
 refine sT 23 131 3 rfl <| sT 26 139 4 rfl <| sT 27 147 5 rfl <| sT 28 155 6 rfl <| sT 5 163 7 rfl <| sT 6 171 8 rfl <| sT 7 179 9 rfl <| e1 187 rfl <| keep [0, 4, 5, 6] rfl <| r1 <| sT 29 187 1 rfl <| sT 30 195 2 rfl <| sT 31 203 3 rfl <| sT 32 211 4 rfl ?_
 refine s1w (u8V F2) 33 219 5 rfl rfl rfl rfl rfl rfl ⟨by omega, by omega, by omega⟩ (fun M ρ z h => by have := piece0_w (l := s.F.take u) (n := F2.length) (by omega) (by omega) h; rwa [hF3] at this) ?_
 refine c1 (cloneB_any F2 (by omega)) [] [227] 34 227 6 rfl rfl rfl rfl rfl rfl rfl rfl Tryd.func25 rfl rfl rfl rfl trivial rfl rfl ?_
 refine sT 35 235 7 rfl <| sO 36 243 8 rfl <| sT 37 251 9 rfl <| sT 38 259 10 rfl <| s0O 267 11 rfl rfl rfl rfl rfl <| e1 275 rfl <| keep [0, 5] rfl ?_
 refine tofam 195 rfl ?_
 refine chval 0 (.cells 39 3 [.map 195, .sl 227 0 F2.length, SV.i bs.length]) rfl (by rw [hql]; rfl) ?_
 refine r1 <| sT 39 275 1 rfl <| sO 40 283 2 rfl <| sT 41 291 3 rfl <| e1 299 rfl <| keep [0, 39, 40, 41] rfl <| W_block ?_
 refine loop (α := Nat × (List Nat)) 5 (fun z => [(0, .ptr 0 0 0), (39, lstV q.L), (40, SV.i q.L.length), (41, SV.i (z.1))]) (fun z => [some (.cells 39 3 [.map 3, .sl 4 0 F2.length, SV.i bs.length]), none, none, some (.fam (z.2) ⟨famL (replayA (bs.take (z.1))), [], none⟩), some (u8B F2)]) (fun z => (z.1) ≤ bs.length) (fun z => bs.length - (z.1)) (((0, []) : Nat × (List Nat))) [0, 1, 2, 195, 227] (fun _ => rfl) (show (0) ≤ bs.length from (Nat.zero_le _)) rfl ⟨rfl, rfl, rfl, rfl, trivial⟩ ⟨rfl, rfl, rfl, trivial⟩ (fun z hx => ?_)
 obtain ⟨i, Z1⟩ := z
 show W _ _ _ ⟨tOf [(0, .ptr 0 0 0), (39, lstV q.L), (40, SV.i q.L.length), (41, SV.i i)], hOf [some (.cells 39 3 [.map 3, .sl 4 0 F2.length, SV.i bs.length]), none, none, some (.fam Z1 ⟨famL (replayA (bs.take i)), [], none⟩), some (u8B F2)], 5⟩
 have hx : i ≤ bs.length := hx
 refine r1 <| sO 42 5 1 rfl <| e1 13 rfl <| keep [0, 39, 40, 41, 42] rfl <| W_seq ?_
 refine q1 rfl (fun hc4 => ?_) (fun hc4 => ?_)
 try simp only [cs, ne_eq] at hc4
 refine W_skip <| tn <| W_seq <| W_block <| r1 ?_
 refine sV 43 13 1 rfl ⟨by omega, by omega⟩ ?_
 refine sV 44 21 2 rfl (by simp only [Int.toNat_natCast]; omega) ?_
 refine val 44 (u8V (bodyE (bs.getD i default))) rfl (by simp only [Int.toNat_natCast]; rw [hbs, body_at (by omega)]; rfl) ?_
 refine sT 9 29 3 rfl <| e1 37 rfl <| keep [0, 9, 39, 40, 41] rfl ?_
 refine rdLn0 6 rfl rfl (by kernel_rfl) rfl ?_
 refine dT 45 37 1 rfl <| dT 46 45 2 rfl ?_
 refine dV 47 53 3 rfl ⟨by omega, by rw [body_len]; omega⟩ ?_
 refine dV 48 61 4 rfl (by rw [body_len]; simp; omega) ?_
 refine val 48 (.d (.val (.int .u8 ((bs.getD i default).k : Nat)))) rfl rfl ?_
 refine dT 49 69 5 rfl ?_
 refine d1w (u8V (tailE (bs.getD i default))) 50 77 6 rfl rfl rfl rfl rfl rfl ⟨by omega, by rw [body_len]; omega, by omega⟩ (fun M ρ z h => by have := drop_w (l := bodyE (bs.getD i default)) (a := 1) (by omega) h; rwa [take_drop1] at this) ?_
 refine de1 85 rfl (by kernel_rfl) ?_
 refine cQ (again_any (Sto.mk (replayA (bs.take i)) F2 bs.length) (bs.getD i default) (hvl i (by omega))) [0, 3, 4] 51 85 7 rfl rfl rfl rfl rfl rfl rfl Tryd.func26 rfl rfl rfl ⟨rfl, rfl, rfl, trivial⟩ ?_
 rintro _ _ ⟨Z2, rfl, rfl⟩
 refine val 51 (.tup []) rfl rfl ?_
 refine hval 3 _ rfl (.fam Z2 ⟨famL (replayA (bs.take (i + 1))), [], none⟩) (congrArg (fun l => Blk.fam Z2 ⟨famL l, [], none⟩) (replayA_succ (by omega)).symm) ?_
 refine e1 93 rfl <| bn <| tn ?_
 refine r0 ?_
 refine sAO 52 93 1 rfl <| sT 41 101 2 rfl <| e1 109 rfl <| tn ?_
 exact again (((i + 1, Z2) : Nat × (List Nat))) [0, 1, 2, 3, 4] (show (i + 1) ≤ bs.length from (by omega)) (show bs.length - (i + 1) < bs.length - i from (by omega)) rfl ⟨rfl, rfl, rfl, rfl, trivial⟩ ⟨rfl, rfl, rfl, trivial⟩
 try simp only [cs, ne_eq] at hc4
 refine W_exit <| tx <| tx <| bx ?_
 have hie : i = bs.length := (by omega)
 subst hie
 exact out0 (π := [0, 1, 2, 3, 4]) (hout := [some (.cells 39 3 [.map 3, .sl 4 0 (Sto.mk (replayA bs) F2 bs.length).F.length, SV.i (Sto.mk (replayA bs) F2 bs.length).cnt]), none, none, some (.fam Z1 ⟨famL (Sto.mk (replayA bs) F2 bs.length).L, [], none⟩), some (u8B (Sto.mk (replayA bs) F2 bs.length).F)]) Tryd.results12 rfl rfl ⟨rfl, (by rw [List.take_length]; rfl), rfl, trivial⟩ ⟨Z1, rfl, rfl⟩
end Go.Proofs.YtalhangpahffeaaDoor.Nice
namespace Go.Proofs.YtalhangpahffeaaDoor.Nice
open Go Go.Proofs
set_option linter.unusedVariables false
set_option linter.unusedSimpArgs false
set_option maxRecDepth 100000
set_option maxHeartbeats 4000000
/- the document's lines -/
def linC (x : Ln) : List SV := [.d (.val (.string x.nm)), .sl 0 0 x.ch.length, .d (.vec 2 x.op.length (smpF x.op))]
def linO (x : Ln) (n : Nat) : List SV := [.d (.val (.string x.nm)), .sl n 0 x.ch.length, .d (.vec 2 x.op.length (smpF x.op))]
def linB (x : Ln) : List InB := [.rows 29 1 x.ch.length (chF x.ch)]
def linS (x : Ln) : Value × SV × List InB := (.bool true, .agg (linC x), linB x)
def linL (L : List Ln) : List (Value × SV × List InB) := L.map linS
theorem linL_at {L : List Ln} {j : Nat} {x : Ln} (h : L[j]? = some x) : (linL L)[j]? = some (.bool true, .agg (linC x), linB x) := by unfold linL; rw [List.getElem?_map, h]; rfl
theorem linL_set (L : List Ln) (j : Nat) (x : Ln) : (linL L).set j (.bool true, .agg (linC x), linB x) = linL (L.set j x) := by unfold linL; rw [List.map_set]; rfl
theorem linL_len (L : List Ln) : (linL L).length = L.length := by simp [linL]
theorem linL_one (L : List Ln) : ∀ (j : Nat) (e : Value × SV × List InB), (linL L)[j]? = some e → ∃ cells, e.2.1 = .agg cells ∧ ∀ (c : Nat) (s : SV), cells[c]? = some s → s.one = true := by
 intro j e he
 unfold linL at he
 rw [List.getElem?_map] at he
 obtain ⟨x, _, rfl⟩ := Option.map_eq_some_iff.1 he
 refine ⟨linC x, rfl, fun c s hs => ?_⟩
 match c, hs with
 | 0, hs => cases hs; rfl
 | 1, hs => cases hs; rfl
 | 2, hs => cases hs; rfl
 | c + 3, hs => simp [linC] at hs
theorem idxN_no {nm : ByteArray} : ∀ {L : List Ln}, (∀ i, i < L.length → (L.getD i default).nm ≠ nm) → idxN nm L = none
 | [], _ => rfl
 | x :: r, h => by
   unfold idxN
   rw [if_neg (fun e => h 0 (by simp) e.symm), idxN_no (fun i hi => by have := h (i + 1) (by simpa using hi); simpa using this)]; rfl
theorem idxN_yes {nm : ByteArray} : ∀ {L : List Ln} {j : Nat}, j < L.length → (∀ i, i < j → (L.getD i default).nm ≠ nm) → (L.getD j default).nm = nm → idxN nm L = some j
 | x :: r, 0, _, _, h => by unfold idxN; rw [if_pos (by simpa using h.symm)]
 | x :: r, j + 1, hj, h, hn => by
   unfold idxN
   rw [if_neg (fun e => h 0 (by omega) e.symm), idxN_yes (L := r) (j := j) (by simpa using hj) (fun i hi => by have := h (i + 1) (by omega); simpa using this) (by simpa using hn)]; rfl
def lineR (nm : ByteArray) (L : List Ln) : SV := match idxN nm L with
 | none => .d (.val (.pointer none))
 | some j => .ptr 1 j 0
theorem line_any {Z : List Nat} {en : Nat} {ef : Nat → Nat → D} (F : List Int) (nm : ByteArray) (L : List Ln) (h6 : L.length ≤ 100) : Spec Tryd.prog GF 14 [.ptr 0 0 0, .d (.val (.string nm))] [.cells 49 3 [.sl 1 0 L.length, .sl 2 0 en, .sl 3 0 F.length], .fam Z ⟨linL L, [], some (66, 3)⟩, .rows 60 5 en ef, u8B F] (fun r ho => r = lineR nm L ∧ ho = [some (.cells 49 3 [.sl 1 0 L.length, .sl 2 0 en, .sl 3 0 F.length]), some (.fam Z ⟨linL L, [], some (66, 3)⟩), some (.rows 60 5 en ef), some (u8B F)]) := by
 refine start 31 4 Tryd.func14 rfl rfl rfl rfl ?_
 refine r1 <| sT 4 4 1 rfl <| e1 12 rfl <| keep [0, 1] rfl <| W_seq <| r1 <| sT 6 12 1 rfl <| sT 7 20 2 rfl <| sT 8 28 3 rfl <| sO 9 36 4 rfl <| sO 10 44 5 rfl <| sT 11 52 6 rfl <| e1 60 rfl <| keep [0, 1, 10, 11] rfl <| W_block ?_
 refine loop (α := Nat) 4 (fun i => [(0, .ptr 0 0 0), (1, .d (.val (.string nm))), (10, SV.i L.length), (11, SV.i (i))]) (fun i => [some (.cells 49 3 [.sl 1 0 L.length, .sl 2 0 en, .sl 3 0 F.length]), some (.fam Z ⟨linL L, [], some (66, 3)⟩), some (.rows 60 5 en ef), some (u8B F)]) (fun i => (i) ≤ L.length ∧ ∀ n, n < (i) → (L.getD n default).nm ≠ nm) (fun i => L.length - (i)) (((0) : Nat)) [0, 1, 2, 3] (fun _ => rfl) (show (0) ≤ L.length ∧ ∀ n, n < (0) → (L.getD n default).nm ≠ nm from ⟨Nat.zero_le _, fun n hn => by omega⟩) rfl ⟨rfl, rfl, rfl, rfl, trivial⟩ ⟨rfl, rfl, rfl, rfl, trivial⟩ (fun i hx => ?_)
 show W _ _ _ ⟨tOf [(0, .ptr 0 0 0), (1, .d (.val (.string nm))), (10, SV.i L.length), (11, SV.i i)], hOf [some (.cells 49 3 [.sl 1 0 L.length, .sl 2 0 en, .sl 3 0 F.length]), some (.fam Z ⟨linL L, [], some (66, 3)⟩), some (.rows 60 5 en ef), some (u8B F)], 4⟩
 have hx : i ≤ L.length ∧ ∀ n, n < i → (L.getD n default).nm ≠ nm := hx
 obtain ⟨hil, hno⟩ := hx
 refine r1 <| sO 12 4 1 rfl <| e1 12 rfl <| keep [0, 1, 10, 11, 12] rfl <| W_seq ?_
 refine q1 rfl (fun hc2 => ?_) (fun hc2 => ?_)
 try simp only [cs, ne_eq] at hc2
 refine W_skip <| tn <| W_seq <| W_block <| r1 <| sT 13 12 1 rfl <| sT 5 20 2 rfl <| e1 28 rfl <| keep [0, 1, 5, 10, 11] rfl <| r1 <| sT 14 28 1 rfl <| sT 15 36 2 rfl <| sT 16 44 3 rfl <| sO 17 52 4 rfl <| sT 18 60 5 rfl ?_
 refine sIdxF 19 68 6 rfl rfl rfl rfl rfl rfl Tryd.underlying46 rfl rfl rfl rfl rfl ⟨by omega, by omega⟩ ?_
 refine sT 20 76 7 rfl ?_
 refine sLoadF (linC (L.getD i default)) (.d (.val (.string (L.getD i default).nm))) 21 84 8 rfl rfl rfl rfl rfl rfl rfl rfl rfl rfl (.inr ⟨_, _, _, ⟨(by simp only [Int.toNat_natCast]; exact linL_at (by rw [getD_eq (by omega)]; exact List.getElem?_eq_getElem _)), fun p hp => by cases hp⟩, rfl⟩) rfl ?_
 refine sT 22 92 9 rfl <| sO 23 100 10 rfl <| e1 108 rfl <| keep [0, 1, 5, 10, 11, 23] rfl ?_
 refine q1 rfl (fun hc4 => ?_) (fun hc4 => ?_)
 try simp only [cs, ne_eq] at hc4
 refine r1 <| sT 24 108 1 rfl <| sT 25 116 2 rfl <| sT 26 124 3 rfl <| sO 27 132 4 rfl <| sT 28 140 5 rfl ?_
 refine sIdxF 29 148 6 rfl rfl rfl rfl rfl rfl Tryd.underlying46 rfl rfl rfl rfl rfl ⟨by omega, by omega⟩ ?_
 refine sT 4 156 7 rfl <| e1 164 rfl <| keep [4] rfl <| W_ret <| br <| tr <| tr <| br <| tr ?_
 exact out1 4 (.ptr 1 i 0) (π := [0, 1, 2, 3]) (hout := [some (.cells 49 3 [.sl 1 0 L.length, .sl 2 0 en, .sl 3 0 F.length]), some (.fam Z ⟨linL L, [], some (66, 3)⟩), some (.rows 60 5 en ef), some (u8B F)]) Tryd.results14 rfl (by simp only [Int.toNat_natCast]; rfl) rfl rfl ⟨rfl, rfl, rfl, rfl, trivial⟩ ⟨(by unfold lineR; rw [idxN_yes (j := i) (by omega) hno (str_eq.2 hc4)]), rfl⟩
 try simp only [cs, ne_eq] at hc4
 refine W_skip <| bn <| tn ?_
 refine r0 ?_
 refine sAO 30 108 1 rfl <| sT 11 116 2 rfl <| e1 124 rfl <| tn ?_
 exact again ((i + 1 : Nat)) [0, 1, 2, 3] (show (i + 1) ≤ L.length ∧ ∀ n, n < (i + 1) → (L.getD n default).nm ≠ nm from ⟨by omega, fun n hn => by by_cases e : n = i; (subst e; exact fun h => hc4 (by rw [h])); exact hno n (by omega)⟩) (show L.length - (i + 1) < L.length - i from (by omega)) rfl ⟨rfl, rfl, rfl, rfl, trivial⟩ ⟨rfl, rfl, rfl, rfl, trivial⟩
 try simp only [cs, ne_eq] at hc2
 refine W_exit <| tx <| tx <| bx <| tn <| r1 <| sT 4 12 1 rfl <| e1 20 rfl <| keep [4] rfl <| W_ret ?_
 exact out1 4 (.d (.val (.pointer none))) (π := [0, 1, 2, 3]) (hout := [some (.cells 49 3 [.sl 1 0 L.length, .sl 2 0 en, .sl 3 0 F.length]), some (.fam Z ⟨linL L, [], some (66, 3)⟩), some (.rows 60 5 en ef), some (u8B F)]) Tryd.results14 rfl rfl rfl rfl ⟨rfl, rfl, rfl, rfl, trivial⟩ ⟨(by unfold lineR; rw [idxN_no (fun n hn => hno n (by omega))]), rfl⟩
theorem line_nil {Z : List Nat} {en : Nat} {ef : Nat → Nat → D} (F : List Int) (nm : ByteArray)  : Spec Tryd.prog GF 14 [.ptr 0 0 0, .d (.val (.string nm))] [.cells 49 3 [.d .nils, .sl 1 0 en, .sl 2 0 F.length], .rows 60 5 en ef, u8B F] (fun r ho => r = .d (.val (.pointer none)) ∧ ho = [some (.cells 49 3 [.d .nils, .sl 1 0 en, .sl 2 0 F.length]), some (.rows 60 5 en ef), some (u8B F)]) := by
 refine start 31 3 Tryd.func14 rfl rfl rfl rfl ?_
 refine r1 <| sT 4 3 1 rfl <| e1 11 rfl <| keep [0, 1] rfl <| W_seq <| r1 <| sT 6 11 1 rfl <| sT 7 19 2 rfl <| sT 8 27 3 rfl <| sO 9 35 4 rfl <| sO 10 43 5 rfl <| sT 11 51 6 rfl <| e1 59 rfl <| keep [0, 1, 10, 11] rfl <| W_block ?_
 refine W_unroll 1 ?_
 refine unr ?_
 refine r1 <| sO 12 59 1 rfl <| e1 67 rfl <| keep [0, 1, 10, 11, 12] rfl <| W_seq ?_
 refine q1 rfl (fun hc2 => ?_) (fun hc2 => ?_)
 exact absurd hc2 (by decide)
 try simp only [cs, ne_eq] at hc2
 refine W_exit <| tx <| tx <| bx <| tn <| r1 <| sT 4 67 1 rfl <| e1 75 rfl <| keep [4] rfl <| W_ret ?_
 exact out1 4 (.d (.val (.pointer none))) (π := [0, 1, 2]) (hout := [some (.cells 49 3 [.d .nils, .sl 1 0 en, .sl 2 0 F.length]), some (.rows 60 5 en ef), some (u8B F)]) Tryd.results14 rfl rfl rfl rfl ⟨rfl, rfl, rfl, trivial⟩ ⟨rfl, rfl⟩
theorem allOf_any (nm : ByteArray) (ch : List (List Smp)) (op : List Smp) (hok : LnOk ch op) : Spec Tryd.prog GF 18 [stV 66 [.val (.string nm), .vec 1 ch.length (chF ch), .vec 2 op.length (smpF op)]] [] (fun r ho => r = .sl 0 0 (allS ch op).length ∧ ho = [some (smB (allS ch op))]) := by
 have hcl := hok.c
 have hall := hok.all
 have hopl := hok.o
 refine start 25 0 Tryd.func18 rfl rfl rfl rfl ?_
 refine r1 <| sT 2 0 1 rfl <| e1 8 rfl <| keep [0] rfl <| r1 <| sT 3 8 1 rfl <| e1 16 rfl <| keep [0, 3] rfl <| W_seq <| r1 <| sT 6 16 1 rfl ?_
 refine sStNil 7 24 2 rfl rfl rfl rfl rfl rfl rfl ?_
 refine sStField 8 32 3 rfl rfl rfl rfl rfl rfl rfl Tryd.underlying66 rfl rfl (by decide) rfl ?_
 refine sStLoad 9 40 4 rfl rfl rfl rfl rfl rfl rfl rfl ?_
 refine sO 10 48 5 rfl <| sT 11 56 6 rfl <| e1 64 rfl <| keep [0, 3, 9, 10, 11] rfl <| W_block ?_
 refine ghostly 3 41 2 (smpF []) rfl ?_
 refine loop (α := Nat) 1 (fun n => [(0, stV 66 [.val (.string nm), .vec 1 ch.length (chF ch), .vec 2 op.length (smpF op)]), (3, .sl 0 0 (ch.take (n)).flatten.length), (9, chV ch), (10, SV.i ch.length), (11, SV.i (n))]) (fun n => [some (smB (ch.take (n)).flatten)]) (fun n => (n) ≤ ch.length) (fun n => ch.length - (n)) (((0) : Nat)) [64] (fun _ => rfl) (show (0) ≤ ch.length from (Nat.zero_le _)) rfl ⟨rfl, rfl, rfl, rfl, rfl, trivial⟩ ⟨rfl, trivial⟩ (fun n hx => ?_)
 show W _ _ _ ⟨tOf [(0, stV 66 [.val (.string nm), .vec 1 ch.length (chF ch), .vec 2 op.length (smpF op)]), (3, .sl 0 0 (ch.take n).flatten.length), (9, chV ch), (10, SV.i ch.length), (11, SV.i n)], hOf [some (smB (ch.take n).flatten)], 1⟩
 have hx : n ≤ ch.length := hx
 refine r1 <| sO 12 1 1 rfl <| e1 9 rfl <| keep [0, 3, 9, 10, 11, 12] rfl <| W_seq ?_
 refine q1 rfl (fun hc3 => ?_) (fun hc3 => ?_)
 try simp only [cs, ne_eq] at hc3
 have hs1 := sumL_le ch (n + 1)
 have hs2 := sumL_succ (cs := ch) (n := n) (by omega)
 unfold sumL at hs1 hs2
 refine W_skip <| tn <| W_seq <| W_block <| r1 ?_
 refine sV 13 9 1 rfl ⟨by omega, by omega⟩ ?_
 refine sV 14 17 2 rfl (by simp only [Int.toNat_natCast]; omega) ?_
 refine val 14 (.d (.vec 2 (ch.getD n []).length (smpF (ch.getD n [])))) rfl (by first | (simp only [Int.toNat_natCast, Nat.zero_add]; done) | (simp only [Int.toNat_natCast, Nat.zero_add]; rfl)) ?_
 refine sT 5 25 3 rfl <| e1 33 rfl <| keep [0, 3, 5, 9, 10, 11] rfl ?_
 refine r0 ?_
 refine sT 15 33 1 rfl <| sT 16 41 2 rfl ?_
 refine sV 17 49 3 rfl ⟨Nat.le_refl _, trivial, (by show (_ + _) * 16 ≤ 140737488355328; omega), (by simp only [maxLen]; omega)⟩ ?_
 refine sT 3 57 4 rfl <| e1 65 rfl <| bn <| tn ?_
 refine rowsc 49 (ch.take (n + 1)).flatten.length (smpF (ch.take (n + 1)).flatten) rfl (by rw [flat_succ (by omega), List.length_append]) (fun i c hi hc => by rw [flat_succ (by omega)]; exact sm_cat i c hi hc) ?_
 refine cval 3 (.sl 49 0 (ch.take (n + 1)).flatten.length) rfl (by rw [flat_succ (by omega), List.length_append]) ?_
 refine r0 ?_
 refine sAO 18 65 1 rfl <| sT 11 73 2 rfl <| e1 81 rfl <| tn ?_
 exact again ((n + 1 : Nat)) [49] (show (n + 1) ≤ ch.length from (by omega)) (show ch.length - (n + 1) < ch.length - n from (by omega)) rfl ⟨rfl, rfl, rfl, rfl, rfl, trivial⟩ ⟨rfl, trivial⟩
 try simp only [cs, ne_eq] at hc3
 refine W_exit <| tx <| tx <| bx <| tn ?_
 obtain rfl : n = ch.length := (by omega)
 rw [List.take_length] at *
 refine r1 <| sT 19 9 1 rfl <| sT 20 17 2 rfl ?_
 refine sStNil 21 25 3 rfl rfl rfl rfl rfl rfl rfl ?_
 refine sStField 22 33 4 rfl rfl rfl rfl rfl rfl rfl Tryd.underlying66 rfl rfl (by decide) rfl ?_
 refine sStLoad 23 41 5 rfl rfl rfl rfl rfl rfl rfl rfl ?_
 refine sV 24 49 6 rfl ⟨Nat.le_refl _, trivial, (by show (_ + _) * 16 ≤ 140737488355328; omega), (by simp only [maxLen]; omega)⟩ ?_
 refine sT 2 57 7 rfl <| e1 65 rfl <| keep [2] rfl ?_
 refine rowsc 49 (allS ch op).length (smpF (allS ch op)) rfl (by unfold allS; rw [List.length_append]) (fun i c hi hc => sm_cat i c hi hc) ?_
 refine cval 2 (.sl 49 0 (allS ch op).length) rfl (by unfold allS; rw [List.length_append]) ?_
 refine W_ret ?_
 exact out1 2 (.sl 0 0 (allS ch op).length) (π := [49]) (hout := [some (smB (allS ch op))]) Tryd.results18 rfl rfl rfl rfl ⟨rfl, trivial⟩ ⟨rfl, rfl⟩
end Go.Proofs.YtalhangpahffeaaDoor.Nice
namespace Go.Proofs.YtalhangpahffeaaDoor.Nice
open Go Go.Proofs
set_option linter.unusedVariables false
set_option linter.unusedSimpArgs false
set_option maxRecDepth 100000
set_option maxHeartbeats 1000000
def fileB (E : List Ev) : List Int := (E.map fun e => recB (bodyE e)).flatten
theorem fileB_snoc (E : List Ev) (e : Ev) : fileB (E ++ [e]) = fileB E ++ recB (bodyE e) := by simp [fileB]
def endE (E : List Ev) (i : Nat) : Int := ((fileB (E.take (i + 1))).length : Int)
def evD (e : Ev) : D := if e.k = 2 then .vec 2 e.l.length (smpF e.l) else .nils
def evC (en : Int) (e : Ev) : List D := [.val (.int .i64 en), .val (.int .i64 e.k), .val (.string e.nm), evD e, .val (.int .i64 e.kp)]
def evF (E : List Ev) : Nat → Nat → D := fun i c => (evC (endE E i) (E.getD i default)).getD c .any
def evB (E : List Ev) : Blk := .rows 60 5 E.length (evF E)
theorem ev_cat {E : List Ev} {e : Ev} {en : Int} (h : en = ((fileB (E ++ [e])).length : Int)) (i c : Nat) (hi : i < E.length + 1) (hc : c < 5) : catR (evF E) E.length (litR 5 (evC en e)) i c = evF (E ++ [e]) i c := by
 subst h
 unfold catR
 by_cases hl : i < E.length
 · rw [if_pos hl]
   unfold evF endE
   rw [List.take_append_of_le_length (by omega)]
   congr 2
   simp [List.getD, List.getElem?_append_left hl]
 · rw [if_neg hl]
   have : i = E.length := by omega
   subst this
   unfold evF endE litR
   rw [Nat.sub_self, Nat.zero_mul, Nat.zero_add, List.take_of_length_le (by simp), show (E ++ [e]).getD E.length default = e by simp [List.getD]]
theorem ev_cat1 {E : List Ev} {nm : ByteArray} {en : Int} (h : en = ((fileB (E ++ [Ev.mk 1 nm [] 0])).length : Int)) (i c : Nat) (hi : i < E.length + 1) (hc : c < 5) : catR (evF E) E.length (litR 5 [.val (.int .i64 en), .val (.int .i64 1), .val (.string nm), .nils, .val (.int .i64 0)]) i c = evF (E ++ [Ev.mk 1 nm [] 0]) i c := ev_cat h i c hi hc
theorem ev_cat2 {E : List Ev} {nm : ByteArray} {l : List Smp} {en : Int} (h : en = ((fileB (E ++ [Ev.mk 2 nm l 0])).length : Int)) (i c : Nat) (hi : i < E.length + 1) (hc : c < 5) : catR (evF E) E.length (litR 5 [.val (.int .i64 en), .val (.int .i64 2), .val (.string nm), .vec 2 l.length (smpF l), .val (.int .i64 0)]) i c = evF (E ++ [Ev.mk 2 nm l 0]) i c := ev_cat h i c hi hc
theorem ev_cat3 {E : List Ev} {nm : ByteArray} {kp en : Int} (h : en = ((fileB (E ++ [Ev.mk 3 nm [] kp])).length : Int)) (i c : Nat) (hi : i < E.length + 1) (hc : c < 5) : catR (evF E) E.length (litR 5 [.val (.int .i64 en), .val (.int .i64 3), .val (.string nm), .nils, .val (.int .i64 kp)]) i c = evF (E ++ [Ev.mk 3 nm [] kp]) i c := ev_cat h i c hi hc
structure EvIn (e : Ev) : Prop where
 nm : e.nm.size ≤ 8
 l : e.l.length ≤ 120
 k : e.k = 1 ∨ e.k = 2 ∨ e.k = 3
theorem tail_bytes {e : Ev} (h : EvIn e) : Bytes (tailE e) ∧ (tailE e).length ≤ 3990 := by
 have hb := nmL_bytes e.nm (by have := h.nm; omega)
 have hnl := nmL_len e.nm
 have h8 := h.nm
 have h1 := encB_len e.l
 have h2 := h.l
 have h3 : (putB 8 (xorL e.kp)).length = 8 := by unfold putB; rw [putT_len]
 have hone : Bytes [(e.nm.size : Int)] := bytes_of (by simp) fun x hx => by simp at hx; subst hx; omega
 have h12 : Bytes ([(e.nm.size : Int)] ++ nmL e.nm) := bytes_app hone hb (by simp [nmL_len]; omega)
 unfold tailE
 by_cases e1 : e.k = 1
 · rw [if_pos e1]; exact ⟨hb, by omega⟩
 · rw [if_neg e1]
   by_cases e2 : e.k = 2
   · rw [if_pos e2]; exact ⟨bytes_app h12 (encB_bytes _ h2) (by simp [nmL_len]; omega), by simp [nmL_len]; omega⟩
   · rw [if_neg e2]; exact ⟨bytes_app h12 (putB_bytes 8 _ (by omega)) (by simp [nmL_len]; omega), by simp [nmL_len]; omega⟩
theorem body_bytes {e : Ev} (h : EvIn e) : Bytes (bodyE e) ∧ (bodyE e).length ≤ 4000 := by
 obtain ⟨h1, h2⟩ := tail_bytes h
 have hk := h.k
 refine ⟨bytes_app (bytes_of (by simp) fun x hx => ?_) h1 (by simp; omega), by rw [body_len]; omega⟩
 simp at hx; subst hx; omega
theorem body1 (nm : ByteArray) : bodyE ⟨1, nm, [], 0⟩ = [1] ++ nmL nm := rfl
theorem body2 (nm : ByteArray) (l : List Smp) : bodyE ⟨2, nm, l, 0⟩ = namedL 2 nm ++ encB l := by
 show [(2 : Int)] ++ ([(nm.size : Int)] ++ nmL nm ++ encB l) = _
 unfold namedL; simp
theorem body3 (nm : ByteArray) (kp : Int) : bodyE ⟨3, nm, [], kp⟩ = namedL 3 nm ++ putB 8 (xorL kp) := by
 show [(3 : Int)] ++ ([(nm.size : Int)] ++ nmL nm ++ putB 8 (xorL kp)) = _
 unfold namedL; simp
theorem u64_keep {x : Int} (h : inRange x) : IntKind.u64.wrap (IntKind.u64.wrap x + 9223372036854775808) = x + 9223372036854775808 := by
 unfold inRange at h
 show ((x % 18446744073709551616) + 9223372036854775808) % 18446744073709551616 = _
 omega
theorem write1N (nm : ByteArray) (hnm : nm.size ≤ 8) (E : List Ev) (hE : E.length ≤ 250) (hF : (fileB E).length ≤ 900000) : Spec Tryd.prog GF 16 [.ptr 0 0 0, .agg [SV.i 0, SV.i 1, .d (.val (.string nm)), .d .nils, SV.i 0]] [.cells 49 3 [.d .nils, .sl 1 0 E.length, .sl 2 0 (fileB E).length], evB E, u8B (fileB E)] (fun r ho => r = SV.tup [] ∧ ho = [some (.cells 49 3 [.d .nils, .sl 3 0 (E ++ [(Ev.mk 1 nm [] 0)]).length, .sl 4 0 (fileB (E ++ [(Ev.mk 1 nm [] 0)])).length]), none, none, some (evB (E ++ [(Ev.mk 1 nm [] 0)])), some (u8B (fileB (E ++ [(Ev.mk 1 nm [] 0)])))]) := by
 have hbb := body_bytes (e := (Ev.mk 1 nm [] 0)) ⟨hnm, (show (0 : Nat) ≤ 120 by decide), .inl rfl⟩
 have hrl := recB_len (bodyE (Ev.mk 1 nm [] 0))
 have hbl : (bodyE (Ev.mk 1 nm [] 0)).length = ([1] ++ nmL nm).length := (by rw [body1])
 refine start 93 3 Tryd.func16 rfl rfl rfl rfl ?_
 refine r1 <| sT 3 3 1 rfl <| e1 11 rfl <| keep [0, 3] rfl <| r1 <| sT 11 11 1 rfl <| sO 12 19 2 rfl <| sT 13 27 3 rfl ?_
 refine val 13 (.d (.val (.int .u8 1))) rfl rfl ?_
 refine sT 14 35 4 rfl <| sT 4 43 5 rfl <| e1 51 rfl <| keep [0, 3, 4] rfl <| W_seq <| r1 <| sT 15 51 1 rfl <| sO 16 59 2 rfl <| sO 17 67 3 rfl <| e1 75 rfl <| keep [0, 3, 4, 17] rfl ?_
 refine q1 rfl (fun hc2 => ?_) (fun hc2 => ?_)
 try simp only [cs, ne_eq] at hc2
 refine r0 ?_
 refine sT 18 75 1 rfl <| sT 19 83 2 rfl <| sO 20 91 3 rfl ?_
 refine sApS 21 99 4 rfl rfl rfl rfl rfl rfl Tryd.underlying24 Tryd.underlying9 rfl rfl rfl rfl rfl rfl rfl rfl rfl (by omega) (by show (1 + nm.size) * 1 ≤ 140737488355328; omega) (by simp only [maxLen]; omega) ?_
 refine sT 4 107 5 rfl <| e1 115 rfl <| tn <| W_seq ?_
 refine rowsc 99 ([1] ++ nmL nm).length (u8F ([1] ++ nmL nm)) rfl (by simp [nmL_len]; omega) (fun i c hi hc => cre_cat i c hi hc) ?_
 refine cval 4 (.sl 99 0 ([1] ++ nmL nm).length) rfl (by simp [nmL_len]; omega) ?_
 refine r1 <| sT 32 115 1 rfl <| sO 33 123 2 rfl <| sO 34 131 3 rfl <| e1 139 rfl <| keep [0, 3, 4, 34] rfl ?_
 refine q1 rfl (fun hc5 => ?_) (fun hc5 => ?_)
 exact absurd hc5 (by decide)
 try simp only [cs, ne_eq] at hc5
 refine W_skip <| tn <| W_seq <| r1 <| sT 44 139 1 rfl <| sO 45 147 2 rfl <| sO 46 155 3 rfl <| e1 163 rfl <| keep [0, 3, 4, 46] rfl ?_
 refine q1 rfl (fun hc8 => ?_) (fun hc8 => ?_)
 exact absurd hc8 (by decide)
 try simp only [cs, ne_eq] at hc8
 refine W_skip <| tn ?_
 refine freeze 4 99 ([1] ++ nmL nm).length rfl rfl (Nat.le_refl _) ?_
 refine cval 4 (u8V (bodyE (Ev.mk 1 nm [] 0))) rfl (by rw [body1]; rfl) ?_
 refine r1 <| sT 64 163 1 rfl ?_
 refine c1 (rrec_any (bodyE (Ev.mk 1 nm [] 0)) hbb.1 hbb.2) [] [] 65 171 2 rfl rfl rfl rfl rfl rfl rfl rfl Tryd.func35 rfl rfl rfl rfl trivial rfl rfl ?_
 refine sT 63 179 3 rfl <| sT 66 187 4 rfl <| sT 67 195 5 rfl <| sT 9 203 6 rfl <| sT 10 211 7 rfl <| e1 219 rfl <| keep [0, 3, 9] rfl <| r1 <| sT 68 219 1 rfl <| sT 69 227 2 rfl <| sT 70 235 3 rfl <| sT 71 243 4 rfl <| sO 72 251 5 rfl <| sT 73 259 6 rfl ?_
 refine sV 74 267 7 rfl ⟨Nat.le_refl _, trivial, (by show (_ + _) * 1 ≤ 140737488355328; omega), (by simp only [maxLen]; omega)⟩ ?_
 refine sT 75 275 8 rfl <| sT 76 283 9 rfl <| s0O 291 10 rfl rfl rfl rfl rfl <| e1 299 rfl <| keep [0, 3] rfl ?_
 refine rowsc 267 (fileB (E ++ [(Ev.mk 1 nm [] 0)])).length (u8F (fileB (E ++ [(Ev.mk 1 nm [] 0)]))) rfl (by rw [fileB_snoc, List.length_append]) (fun i c hi hc => by rw [fileB_snoc]; exact u8_cat i c hi hc) ?_
 refine chval 0 (.cells 49 3 [.d .nils, .sl 1 0 E.length, .sl 267 0 (fileB (E ++ [(Ev.mk 1 nm [] 0)])).length]) rfl (congrArg (fun q => Blk.cells 49 3 [.d .nils, .sl 1 0 E.length, .sl 267 0 q]) (show (fileB E).length + (recB (bodyE (Ev.mk 1 nm [] 0))).length = (fileB (E ++ [(Ev.mk 1 nm [] 0)])).length by rw [fileB_snoc, List.length_append])) ?_
 refine r1 <| sT 77 299 1 rfl <| sT 78 307 2 rfl <| sT 79 315 3 rfl <| sO 80 323 4 rfl <| sO 81 331 5 rfl <| sT 82 339 6 rfl <| s0O 347 7 rfl rfl rfl rfl rfl <| e1 355 rfl <| keep [0, 3] rfl ?_
 refine rd0n rfl ?_
 refine dT 83 355 1 rfl <| dT 84 363 2 rfl <| dT 85 371 3 rfl <| dT 86 379 4 rfl <| dO 87 387 5 rfl <| dO 88 395 6 rfl <| dT 89 403 7 rfl ?_
 refine dV 90 411 8 rfl ⟨Nat.le_refl _, trivial, (by show (_ + 1) * 64 ≤ 140737488355328; omega), (by simp only [maxLen]; omega)⟩ ?_
 refine dT 91 419 9 rfl <| dT 92 427 10 rfl ?_
 refine d0 435 11 rfl rfl rfl rfl rfl (by first | trivial | omega) ?_
 refine de1 443 rfl (by kernel_rfl) ?_
 refine rowscn 411 (E ++ [(Ev.mk 1 nm [] 0)]).length (evF (E ++ [(Ev.mk 1 nm [] 0)])) rfl (by simp) (fun i c hi hc => ev_cat1 (en := ((fileB (E ++ [(Ev.mk 1 nm [] 0)])).length : Nat)) rfl i c hi hc) ?_
 refine chvaln 0 (.cells 49 3 [.d .nils, .sl 411 0 (E ++ [(Ev.mk 1 nm [] 0)]).length, .sl 267 0 (fileB (E ++ [(Ev.mk 1 nm [] 0)])).length]) rfl (congrArg (fun q => Blk.cells 49 3 [.d .nils, .sl 411 0 q, .sl 267 0 (fileB (E ++ [(Ev.mk 1 nm [] 0)])).length]) (show E.length + 1 = (E ++ [(Ev.mk 1 nm [] 0)]).length by simp)) ?_
 refine wn ?_
 exact out0 (π := [0, 1, 2, 411, 267]) (hout := [some (.cells 49 3 [.d .nils, .sl 3 0 (E ++ [(Ev.mk 1 nm [] 0)]).length, .sl 4 0 (fileB (E ++ [(Ev.mk 1 nm [] 0)])).length]), none, none, some (evB (E ++ [(Ev.mk 1 nm [] 0)])), some (u8B (fileB (E ++ [(Ev.mk 1 nm [] 0)])))]) Tryd.results16 rfl rfl ⟨rfl, rfl, rfl, trivial⟩ ⟨rfl, rfl⟩
 exact absurd hc2 (by decide)
theorem write1L {Z : List Nat} (L : List Ln) (nm : ByteArray) (hnm : nm.size ≤ 8) (E : List Ev) (hE : E.length ≤ 250) (hF : (fileB E).length ≤ 900000) : Spec Tryd.prog GF 16 [.ptr 0 0 0, .agg [SV.i 0, SV.i 1, .d (.val (.string nm)), .d .nils, SV.i 0]] [.cells 49 3 [.sl 1 0 L.length, .sl 2 0 E.length, .sl 3 0 (fileB E).length], .fam Z ⟨linL L, [], some (66, 3)⟩, evB E, u8B (fileB E)] (fun r ho => r = SV.tup [] ∧ ho = [some (.cells 49 3 [.sl 1 0 L.length, .sl 4 0 (E ++ [(Ev.mk 1 nm [] 0)]).length, .sl 5 0 (fileB (E ++ [(Ev.mk 1 nm [] 0)])).length]), some (.fam Z ⟨linL L, [], some (66, 3)⟩), none, none, some (evB (E ++ [(Ev.mk 1 nm [] 0)])), some (u8B (fileB (E ++ [(Ev.mk 1 nm [] 0)])))]) := by
 have hbb := body_bytes (e := (Ev.mk 1 nm [] 0)) ⟨hnm, (show (0 : Nat) ≤ 120 by decide), .inl rfl⟩
 have hrl := recB_len (bodyE (Ev.mk 1 nm [] 0))
 have hbl : (bodyE (Ev.mk 1 nm [] 0)).length = ([1] ++ nmL nm).length := (by rw [body1])
 refine start 93 4 Tryd.func16 rfl rfl rfl rfl ?_
 refine r1 <| sT 3 4 1 rfl <| e1 12 rfl <| keep [0, 3] rfl <| r1 <| sT 11 12 1 rfl <| sO 12 20 2 rfl <| sT 13 28 3 rfl ?_
 refine val 13 (.d (.val (.int .u8 1))) rfl rfl ?_
 refine sT 14 36 4 rfl <| sT 4 44 5 rfl <| e1 52 rfl <| keep [0, 3, 4] rfl <| W_seq <| r1 <| sT 15 52 1 rfl <| sO 16 60 2 rfl <| sO 17 68 3 rfl <| e1 76 rfl <| keep [0, 3, 4, 17] rfl ?_
 refine q1 rfl (fun hc2 => ?_) (fun hc2 => ?_)
 try simp only [cs, ne_eq] at hc2
 refine r0 ?_
 refine sT 18 76 1 rfl <| sT 19 84 2 rfl <| sO 20 92 3 rfl ?_
 refine sApS 21 100 4 rfl rfl rfl rfl rfl rfl Tryd.underlying24 Tryd.underlying9 rfl rfl rfl rfl rfl rfl rfl rfl rfl (by omega) (by show (1 + nm.size) * 1 ≤ 140737488355328; omega) (by simp only [maxLen]; omega) ?_
 refine sT 4 108 5 rfl <| e1 116 rfl <| tn <| W_seq ?_
 refine rowsc 100 ([1] ++ nmL nm).length (u8F ([1] ++ nmL nm)) rfl (by simp [nmL_len]; omega) (fun i c hi hc => cre_cat i c hi hc) ?_
 refine cval 4 (.sl 100 0 ([1] ++ nmL nm).length) rfl (by simp [nmL_len]; omega) ?_
 refine r1 <| sT 32 116 1 rfl <| sO 33 124 2 rfl <| sO 34 132 3 rfl <| e1 140 rfl <| keep [0, 3, 4, 34] rfl ?_
 refine q1 rfl (fun hc5 => ?_) (fun hc5 => ?_)
 exact absurd hc5 (by decide)
 try simp only [cs, ne_eq] at hc5
 refine W_skip <| tn <| W_seq <| r1 <| sT 44 140 1 rfl <| sO 45 148 2 rfl <| sO 46 156 3 rfl <| e1 164 rfl <| keep [0, 3, 4, 46] rfl ?_
 refine q1 rfl (fun hc8 => ?_) (fun hc8 => ?_)
 exact absurd hc8 (by decide)
 try simp only [cs, ne_eq] at hc8
 refine W_skip <| tn ?_
 refine freeze 4 100 ([1] ++ nmL nm).length rfl rfl (Nat.le_refl _) ?_
 refine cval 4 (u8V (bodyE (Ev.mk 1 nm [] 0))) rfl (by rw [body1]; rfl) ?_
 refine r1 <| sT 64 164 1 rfl ?_
 refine c1 (rrec_any (bodyE (Ev.mk 1 nm [] 0)) hbb.1 hbb.2) [] [] 65 172 2 rfl rfl rfl rfl rfl rfl rfl rfl Tryd.func35 rfl rfl rfl rfl trivial rfl rfl ?_
 refine sT 63 180 3 rfl <| sT 66 188 4 rfl <| sT 67 196 5 rfl <| sT 9 204 6 rfl <| sT 10 212 7 rfl <| e1 220 rfl <| keep [0, 3, 9] rfl <| r1 <| sT 68 220 1 rfl <| sT 69 228 2 rfl <| sT 70 236 3 rfl <| sT 71 244 4 rfl <| sO 72 252 5 rfl <| sT 73 260 6 rfl ?_
 refine sV 74 268 7 rfl ⟨Nat.le_refl _, trivial, (by show (_ + _) * 1 ≤ 140737488355328; omega), (by simp only [maxLen]; omega)⟩ ?_
 refine sT 75 276 8 rfl <| sT 76 284 9 rfl <| s0O 292 10 rfl rfl rfl rfl rfl <| e1 300 rfl <| keep [0, 3] rfl ?_
 refine rowsc 268 (fileB (E ++ [(Ev.mk 1 nm [] 0)])).length (u8F (fileB (E ++ [(Ev.mk 1 nm [] 0)]))) rfl (by rw [fileB_snoc, List.length_append]) (fun i c hi hc => by rw [fileB_snoc]; exact u8_cat i c hi hc) ?_
 refine chval 0 (.cells 49 3 [.sl 1 0 L.length, .sl 2 0 E.length, .sl 268 0 (fileB (E ++ [(Ev.mk 1 nm [] 0)])).length]) rfl (congrArg (fun q => Blk.cells 49 3 [.sl 1 0 L.length, .sl 2 0 E.length, .sl 268 0 q]) (show (fileB E).length + (recB (bodyE (Ev.mk 1 nm [] 0))).length = (fileB (E ++ [(Ev.mk 1 nm [] 0)])).length by rw [fileB_snoc, List.length_append])) ?_
 refine r1 <| sT 77 300 1 rfl <| sT 78 308 2 rfl <| sT 79 316 3 rfl <| sO 80 324 4 rfl <| sO 81 332 5 rfl <| sT 82 340 6 rfl <| s0O 348 7 rfl rfl rfl rfl rfl <| e1 356 rfl <| keep [0, 3] rfl ?_
 refine rd0n rfl ?_
 refine dT 83 356 1 rfl <| dT 84 364 2 rfl <| dT 85 372 3 rfl <| dT 86 380 4 rfl <| dO 87 388 5 rfl <| dO 88 396 6 rfl <| dT 89 404 7 rfl ?_
 refine dV 90 412 8 rfl ⟨Nat.le_refl _, trivial, (by show (_ + 1) * 64 ≤ 140737488355328; omega), (by simp only [maxLen]; omega)⟩ ?_
 refine dT 91 420 9 rfl <| dT 92 428 10 rfl ?_
 refine d0 436 11 rfl rfl rfl rfl rfl (by first | trivial | omega) ?_
 refine de1 444 rfl (by kernel_rfl) ?_
 refine rowscn 412 (E ++ [(Ev.mk 1 nm [] 0)]).length (evF (E ++ [(Ev.mk 1 nm [] 0)])) rfl (by simp) (fun i c hi hc => ev_cat1 (en := ((fileB (E ++ [(Ev.mk 1 nm [] 0)])).length : Nat)) rfl i c hi hc) ?_
 refine chvaln 0 (.cells 49 3 [.sl 1 0 L.length, .sl 412 0 (E ++ [(Ev.mk 1 nm [] 0)]).length, .sl 268 0 (fileB (E ++ [(Ev.mk 1 nm [] 0)])).length]) rfl (congrArg (fun q => Blk.cells 49 3 [.sl 1 0 L.length, .sl 412 0 q, .sl 268 0 (fileB (E ++ [(Ev.mk 1 nm [] 0)])).length]) (show E.length + 1 = (E ++ [(Ev.mk 1 nm [] 0)]).length by simp)) ?_
 refine wn ?_
 exact out0 (π := [0, 1, 2, 3, 412, 268]) (hout := [some (.cells 49 3 [.sl 1 0 L.length, .sl 4 0 (E ++ [(Ev.mk 1 nm [] 0)]).length, .sl 5 0 (fileB (E ++ [(Ev.mk 1 nm [] 0)])).length]), some (.fam Z ⟨linL L, [], some (66, 3)⟩), none, none, some (evB (E ++ [(Ev.mk 1 nm [] 0)])), some (u8B (fileB (E ++ [(Ev.mk 1 nm [] 0)])))]) Tryd.results16 rfl rfl ⟨rfl, rfl, rfl, rfl, trivial⟩ ⟨rfl, rfl⟩
 exact absurd hc2 (by decide)
theorem write2L {Z : List Nat} (L : List Ln) (nm : ByteArray) (hnm : nm.size ≤ 8) (l : List Smp) (hl : l.length ≤ 120) (hz : sfault l = 0) (E : List Ev) (hE : E.length ≤ 250) (hF : (fileB E).length ≤ 900000) : Spec Tryd.prog GF 16 [.ptr 0 0 0, .agg [SV.i 0, SV.i 2, .d (.val (.string nm)), smpV l, SV.i 0]] [.cells 49 3 [.sl 1 0 L.length, .sl 2 0 E.length, .sl 3 0 (fileB E).length], .fam Z ⟨linL L, [], some (66, 3)⟩, evB E, u8B (fileB E)] (fun r ho => r = SV.tup [] ∧ ho = [some (.cells 49 3 [.sl 1 0 L.length, .sl 4 0 (E ++ [(Ev.mk 2 nm l 0)]).length, .sl 5 0 (fileB (E ++ [(Ev.mk 2 nm l 0)])).length]), some (.fam Z ⟨linL L, [], some (66, 3)⟩), none, none, some (evB (E ++ [(Ev.mk 2 nm l 0)])), some (u8B (fileB (E ++ [(Ev.mk 2 nm l 0)])))]) := by
 have hbb := body_bytes (e := (Ev.mk 2 nm l 0)) ⟨hnm, hl, .inr (.inl rfl)⟩
 have hrl := recB_len (bodyE (Ev.mk 2 nm l 0))
 have hbl : (bodyE (Ev.mk 2 nm l 0)).length = (namedL 2 nm ++ encB l).length := (by rw [body2])
 have hnl := namedL_len 2 nm
 have hel : (namedL 2 nm ++ encB l).length = (namedL 2 nm).length + (encB l).length := List.length_append
 refine start 93 4 Tryd.func16 rfl rfl rfl rfl ?_
 refine r1 <| sT 3 4 1 rfl <| e1 12 rfl <| keep [0, 3] rfl <| r1 <| sT 11 12 1 rfl <| sO 12 20 2 rfl <| sT 13 28 3 rfl ?_
 refine val 13 (.d (.val (.int .u8 2))) rfl rfl ?_
 refine sT 14 36 4 rfl <| sT 4 44 5 rfl <| e1 52 rfl <| keep [0, 3, 4] rfl <| W_seq <| r1 <| sT 15 52 1 rfl <| sO 16 60 2 rfl <| sO 17 68 3 rfl <| e1 76 rfl <| keep [0, 3, 4, 17] rfl ?_
 refine q1 rfl (fun hc2 => ?_) (fun hc2 => ?_)
 exact absurd hc2 (by decide)
 try simp only [cs, ne_eq] at hc2
 refine rd0 rfl ?_
 refine dT 22 76 1 rfl <| dT 23 84 2 rfl <| dO 24 92 3 rfl <| dO 25 100 4 rfl <| dT 26 108 5 rfl ?_
 refine val 26 (.d (.val (.int .u8 nm.size))) rfl (congrArg (fun x => SV.d (D.val (Value.int .u8 x))) (show (nm.size : Int) % 256 = nm.size by omega)) ?_
 refine dT 27 116 6 rfl <| dO 28 124 7 rfl <| dT 29 132 8 rfl <| dO 30 140 9 rfl ?_
 refine sApS 31 148 10 rfl rfl rfl rfl rfl rfl Tryd.underlying24 Tryd.underlying9 rfl rfl rfl rfl rfl rfl rfl rfl rfl (by omega) (by show (2 + nm.size) * 1 ≤ 140737488355328; omega) (by simp only [maxLen]; omega) ?_
 refine dT 4 156 11 rfl <| de1 164 rfl (by kernel_rfl) <| tn <| W_seq ?_
 refine rowsc 148 (namedL 2 nm).length (u8F (namedL 2 nm)) rfl (namedL_len 2 nm).symm (fun i c hi hc => named_cat i c hi hc) ?_
 refine cval 4 (.sl 148 0 (namedL 2 nm).length) rfl (by rw [namedL_len]) ?_
 refine r1 <| sT 32 164 1 rfl <| sO 33 172 2 rfl <| sO 34 180 3 rfl <| e1 188 rfl <| keep [0, 3, 4, 34] rfl ?_
 refine q1 rfl (fun hc5 => ?_) (fun hc5 => ?_)
 try simp only [cs, ne_eq] at hc5
 refine r1 <| sT 36 188 1 rfl <| sO 37 196 2 rfl ?_
 refine c1 (encoded_ok l (smpIn_of hz) hz) [] [204] 38 204 3 rfl rfl rfl rfl rfl rfl rfl rfl Tryd.func34 rfl rfl rfl rfl trivial rfl rfl ?_
 refine sT 35 212 4 rfl <| sT 39 220 5 rfl <| sT 40 228 6 rfl <| sT 5 236 7 rfl <| sT 6 244 8 rfl <| e1 252 rfl <| keep [0, 3, 4, 5] rfl ?_
 refine r0 ?_
 refine sT 41 252 1 rfl <| sT 42 260 2 rfl ?_
 refine sV 43 268 3 rfl ⟨Nat.le_refl _, (by omega), (by show (_ + _) * 1 ≤ 140737488355328; omega), (by simp only [maxLen]; omega)⟩ ?_
 refine sT 4 276 4 rfl <| e1 284 rfl <| tn <| W_seq ?_
 refine rowsc 268 (namedL 2 nm ++ encB l).length (u8F (namedL 2 nm ++ encB l)) rfl (by rw [List.length_append]) (fun i c hi hc => u8_cat i c hi hc) ?_
 refine cval 4 (.sl 268 0 (namedL 2 nm ++ encB l).length) rfl (by rw [List.length_append]) ?_
 refine r1 <| sT 44 284 1 rfl <| sO 45 292 2 rfl <| sO 46 300 3 rfl <| e1 308 rfl <| keep [0, 3, 4, 46] rfl ?_
 refine q1 rfl (fun hc8 => ?_) (fun hc8 => ?_)
 exact absurd hc8 (by decide)
 try simp only [cs, ne_eq] at hc8
 refine W_skip <| tn ?_
 refine freeze 4 268 (namedL 2 nm ++ encB l).length rfl rfl (Nat.le_refl _) ?_
 refine cval 4 (u8V (bodyE (Ev.mk 2 nm l 0))) rfl (by rw [body2]; rfl) ?_
 refine r1 <| sT 64 308 1 rfl ?_
 refine c1 (rrec_any (bodyE (Ev.mk 2 nm l 0)) hbb.1 hbb.2) [] [] 65 316 2 rfl rfl rfl rfl rfl rfl rfl rfl Tryd.func35 rfl rfl rfl rfl trivial rfl rfl ?_
 refine sT 63 324 3 rfl <| sT 66 332 4 rfl <| sT 67 340 5 rfl <| sT 9 348 6 rfl <| sT 10 356 7 rfl <| e1 364 rfl <| keep [0, 3, 9] rfl <| r1 <| sT 68 364 1 rfl <| sT 69 372 2 rfl <| sT 70 380 3 rfl <| sT 71 388 4 rfl <| sO 72 396 5 rfl <| sT 73 404 6 rfl ?_
 refine sV 74 412 7 rfl ⟨Nat.le_refl _, trivial, (by show (_ + _) * 1 ≤ 140737488355328; omega), (by simp only [maxLen]; omega)⟩ ?_
 refine sT 75 420 8 rfl <| sT 76 428 9 rfl <| s0O 436 10 rfl rfl rfl rfl rfl <| e1 444 rfl <| keep [0, 3] rfl ?_
 refine rowsc 412 (fileB (E ++ [(Ev.mk 2 nm l 0)])).length (u8F (fileB (E ++ [(Ev.mk 2 nm l 0)]))) rfl (by rw [fileB_snoc, List.length_append]) (fun i c hi hc => by rw [fileB_snoc]; exact u8_cat i c hi hc) ?_
 refine chval 0 (.cells 49 3 [.sl 1 0 L.length, .sl 2 0 E.length, .sl 412 0 (fileB (E ++ [(Ev.mk 2 nm l 0)])).length]) rfl (congrArg (fun q => Blk.cells 49 3 [.sl 1 0 L.length, .sl 2 0 E.length, .sl 412 0 q]) (show (fileB E).length + (recB (bodyE (Ev.mk 2 nm l 0))).length = (fileB (E ++ [(Ev.mk 2 nm l 0)])).length by rw [fileB_snoc, List.length_append])) ?_
 refine r1 <| sT 77 444 1 rfl <| sT 78 452 2 rfl <| sT 79 460 3 rfl <| sO 80 468 4 rfl <| sO 81 476 5 rfl <| sT 82 484 6 rfl <| s0O 492 7 rfl rfl rfl rfl rfl <| e1 500 rfl <| keep [0, 3] rfl ?_
 refine rd0n rfl ?_
 refine dT 83 500 1 rfl <| dT 84 508 2 rfl <| dT 85 516 3 rfl <| dT 86 524 4 rfl <| dO 87 532 5 rfl <| dO 88 540 6 rfl <| dT 89 548 7 rfl ?_
 refine dV 90 556 8 rfl ⟨Nat.le_refl _, trivial, (by show (_ + 1) * 64 ≤ 140737488355328; omega), (by simp only [maxLen]; omega)⟩ ?_
 refine dT 91 564 9 rfl <| dT 92 572 10 rfl ?_
 refine d0 580 11 rfl rfl rfl rfl rfl (by first | trivial | omega) ?_
 refine de1 588 rfl (by kernel_rfl) ?_
 refine rowscn 556 (E ++ [(Ev.mk 2 nm l 0)]).length (evF (E ++ [(Ev.mk 2 nm l 0)])) rfl (by simp) (fun i c hi hc => ev_cat2 (en := ((fileB (E ++ [(Ev.mk 2 nm l 0)])).length : Nat)) rfl i c hi hc) ?_
 refine chvaln 0 (.cells 49 3 [.sl 1 0 L.length, .sl 556 0 (E ++ [(Ev.mk 2 nm l 0)]).length, .sl 412 0 (fileB (E ++ [(Ev.mk 2 nm l 0)])).length]) rfl (congrArg (fun q => Blk.cells 49 3 [.sl 1 0 L.length, .sl 556 0 q, .sl 412 0 (fileB (E ++ [(Ev.mk 2 nm l 0)])).length]) (show E.length + 1 = (E ++ [(Ev.mk 2 nm l 0)]).length by simp)) ?_
 refine wn ?_
 exact out0 (π := [0, 1, 2, 3, 556, 412]) (hout := [some (.cells 49 3 [.sl 1 0 L.length, .sl 4 0 (E ++ [(Ev.mk 2 nm l 0)]).length, .sl 5 0 (fileB (E ++ [(Ev.mk 2 nm l 0)])).length]), some (.fam Z ⟨linL L, [], some (66, 3)⟩), none, none, some (evB (E ++ [(Ev.mk 2 nm l 0)])), some (u8B (fileB (E ++ [(Ev.mk 2 nm l 0)])))]) Tryd.results16 rfl rfl ⟨rfl, rfl, rfl, rfl, trivial⟩ ⟨rfl, rfl⟩
 exact absurd hc5 (by decide)
theorem write3L {Z : List Nat} (L : List Ln) (nm : ByteArray) (hnm : nm.size ≤ 8) (kp : Int) (hkp : inRange kp) (E : List Ev) (hE : E.length ≤ 250) (hF : (fileB E).length ≤ 900000) : Spec Tryd.prog GF 16 [.ptr 0 0 0, .agg [SV.i 0, SV.i 3, .d (.val (.string nm)), .d .nils, SV.i kp]] [.cells 49 3 [.sl 1 0 L.length, .sl 2 0 E.length, .sl 3 0 (fileB E).length], .fam Z ⟨linL L, [], some (66, 3)⟩, evB E, u8B (fileB E)] (fun r ho => r = SV.tup [] ∧ ho = [some (.cells 49 3 [.sl 1 0 L.length, .sl 4 0 (E ++ [(Ev.mk 3 nm [] kp)]).length, .sl 5 0 (fileB (E ++ [(Ev.mk 3 nm [] kp)])).length]), some (.fam Z ⟨linL L, [], some (66, 3)⟩), none, none, some (evB (E ++ [(Ev.mk 3 nm [] kp)])), some (u8B (fileB (E ++ [(Ev.mk 3 nm [] kp)])))]) := by
 have hbb := body_bytes (e := (Ev.mk 3 nm [] kp)) ⟨hnm, (show (0 : Nat) ≤ 120 by decide), .inr (.inr rfl)⟩
 have hrl := recB_len (bodyE (Ev.mk 3 nm [] kp))
 have hbl : (bodyE (Ev.mk 3 nm [] kp)).length = (namedL 3 nm ++ putB 8 (xorL kp)).length := (by rw [body3])
 have hnl := namedL_len 3 nm
 refine start 93 4 Tryd.func16 rfl rfl rfl rfl ?_
 refine r1 <| sT 3 4 1 rfl <| e1 12 rfl <| keep [0, 3] rfl <| r1 <| sT 11 12 1 rfl <| sO 12 20 2 rfl <| sT 13 28 3 rfl ?_
 refine val 13 (.d (.val (.int .u8 3))) rfl rfl ?_
 refine sT 14 36 4 rfl <| sT 4 44 5 rfl <| e1 52 rfl <| keep [0, 3, 4] rfl <| W_seq <| r1 <| sT 15 52 1 rfl <| sO 16 60 2 rfl <| sO 17 68 3 rfl <| e1 76 rfl <| keep [0, 3, 4, 17] rfl ?_
 refine q1 rfl (fun hc2 => ?_) (fun hc2 => ?_)
 exact absurd hc2 (by decide)
 try simp only [cs, ne_eq] at hc2
 refine rd0 rfl ?_
 refine dT 22 76 1 rfl <| dT 23 84 2 rfl <| dO 24 92 3 rfl <| dO 25 100 4 rfl <| dT 26 108 5 rfl ?_
 refine val 26 (.d (.val (.int .u8 nm.size))) rfl (congrArg (fun x => SV.d (D.val (Value.int .u8 x))) (show (nm.size : Int) % 256 = nm.size by omega)) ?_
 refine dT 27 116 6 rfl <| dO 28 124 7 rfl <| dT 29 132 8 rfl <| dO 30 140 9 rfl ?_
 refine sApS 31 148 10 rfl rfl rfl rfl rfl rfl Tryd.underlying24 Tryd.underlying9 rfl rfl rfl rfl rfl rfl rfl rfl rfl (by omega) (by show (2 + nm.size) * 1 ≤ 140737488355328; omega) (by simp only [maxLen]; omega) ?_
 refine dT 4 156 11 rfl <| de1 164 rfl (by kernel_rfl) <| tn <| W_seq ?_
 refine rowsc 148 (namedL 3 nm).length (u8F (namedL 3 nm)) rfl (namedL_len 3 nm).symm (fun i c hi hc => named_cat i c hi hc) ?_
 refine cval 4 (.sl 148 0 (namedL 3 nm).length) rfl (by rw [namedL_len]) ?_
 refine r1 <| sT 32 164 1 rfl <| sO 33 172 2 rfl <| sO 34 180 3 rfl <| e1 188 rfl <| keep [0, 3, 4, 34] rfl ?_
 refine q1 rfl (fun hc5 => ?_) (fun hc5 => ?_)
 exact absurd hc5 (by decide)
 try simp only [cs, ne_eq] at hc5
 refine W_skip <| tn <| W_seq <| r1 <| sT 44 188 1 rfl <| sO 45 196 2 rfl <| sO 46 204 3 rfl <| e1 212 rfl <| keep [0, 3, 4, 46] rfl ?_
 refine q1 rfl (fun hc8 => ?_) (fun hc8 => ?_)
 try simp only [cs, ne_eq] at hc8
 refine r1 <| sT 47 212 1 rfl <| sO 48 220 2 rfl <| sT 49 228 3 rfl ?_
 refine val 49 (.d (.val (.int .u64 (IntKind.u64.wrap kp)))) rfl rfl ?_
 refine sO 50 236 4 rfl ?_
 refine val 50 (.d (.val (.int .u64 (kp + 9223372036854775808)))) rfl (congrArg (fun x => SV.d (D.val (Value.int .u64 x))) (u64_keep hkp)) ?_
 refine sT 7 244 5 rfl <| e1 252 rfl <| keep [0, 3, 4, 7] rfl <| r1 <| sT 8 252 1 rfl <| e1 260 rfl <| keep [0, 3, 4, 7, 8] rfl <| W_block ?_
 refine chval 148 (u8B (namedL 3 nm ++ putT 8 (kp + 9223372036854775808) 0)) rfl (by simp [putT]; rfl) ?_
 refine cval 4 (.sl 148 0 (namedL 3 nm ++ putT 8 (kp + 9223372036854775808) 0).length) rfl (by simp [putT]) ?_
 refine loop (α := Nat) 6 (fun n => [(0, .ptr 0 0 0), (3, .ptr 4 0 0), (4, .sl 5 0 (namedL 3 nm ++ putT 8 (kp + 9223372036854775808) (n)).length), (7, .d (.val (.int .u64 (kp + 9223372036854775808)))), (8, SV.i (7 - (n) : Int))]) (fun n => [some (.cells 49 3 [.sl 1 0 L.length, .sl 2 0 E.length, .sl 3 0 (fileB E).length]), some (.fam Z ⟨linL L, [], some (66, 3)⟩), some (evB E), some (u8B (fileB E)), some (.cells 60 5 [SV.i 0, SV.i 3, .d (.val (.string nm)), .d .nils, SV.i kp]), some (u8B (namedL 3 nm ++ putT 8 (kp + 9223372036854775808) (n)))]) (fun n => (n) ≤ 8) (fun n => 8 - (n)) (((0) : Nat)) [0, 1, 2, 3, 4, 148] (fun _ => rfl) (show (0) ≤ 8 from (Nat.zero_le _)) rfl ⟨rfl, rfl, rfl, rfl, rfl, trivial⟩ ⟨rfl, rfl, rfl, rfl, rfl, rfl, trivial⟩ (fun n hx => ?_)
 show W _ _ _ ⟨tOf [(0, .ptr 0 0 0), (3, .ptr 4 0 0), (4, .sl 5 0 (namedL 3 nm ++ putT 8 (kp + 9223372036854775808) n).length), (7, .d (.val (.int .u64 (kp + 9223372036854775808)))), (8, SV.i (7 - n : Int))], hOf [some (.cells 49 3 [.sl 1 0 L.length, .sl 2 0 E.length, .sl 3 0 (fileB E).length]), some (.fam Z ⟨linL L, [], some (66, 3)⟩), some (evB E), some (u8B (fileB E)), some (.cells 60 5 [SV.i 0, SV.i 3, .d (.val (.string nm)), .d .nils, SV.i kp]), some (u8B (namedL 3 nm ++ putT 8 (kp + 9223372036854775808) n))], 6⟩
 have hx : n ≤ 8 := hx
 have hlen : (namedL 3 nm ++ putT 8 (kp + 9223372036854775808) n).length = (namedL 3 nm).length + n := (by rw [List.length_append, putT_len])
 refine W_seq <| r1 <| sT 51 6 1 rfl <| sO 52 14 2 rfl <| e1 22 rfl <| keep [0, 3, 4, 7, 8, 52] rfl ?_
 refine q1 rfl (fun hc11 => ?_) (fun hc11 => ?_)
 try simp only [cs, ne_eq] at hc11
 refine W_skip <| tn <| W_seq <| W_block ?_
 refine r0 ?_
 refine sT 55 22 1 rfl <| sT 56 30 2 rfl <| sT 57 38 3 rfl <| sAO 58 46 4 rfl <| sO 59 54 5 rfl ?_
 refine val 59 (.d (.val (.int .u64 ((kp + 9223372036854775808) / 2 ^ (8 * (7 - n)))))) rfl (congrArg (fun x => SV.d (D.val (Value.int .u64 x))) (shr_val (by omega) (by omega))) ?_
 refine sT 60 62 6 rfl ?_
 refine val 60 (.d (.val (.int .u8 ((kp + 9223372036854775808) / 2 ^ (8 * (8 - 1 - n)) % 256)))) rfl (congrArg (fun x => SV.d (D.val (Value.int .u8 x))) rfl) ?_
 refine sT 61 70 7 rfl ?_
 refine sV 62 78 8 rfl ⟨Nat.le_refl _, trivial, (by show (_ + 1) * 1 ≤ 140737488355328; omega), (by simp only [maxLen]; omega)⟩ ?_
 refine sT 4 86 9 rfl <| e1 94 rfl <| bn <| tn ?_
 refine rowsc 78 (namedL 3 nm ++ putT 8 (kp + 9223372036854775808) (n + 1)).length (u8F (namedL 3 nm ++ putT 8 (kp + 9223372036854775808) (n + 1))) rfl (by rw [putT_succ, ← List.append_assoc, List.length_append (bs := [_])]; rfl) (fun i c hi hc => by rw [putT_succ, ← List.append_assoc]; exact u8_one rfl i c hi hc) ?_
 refine cval 4 (.sl 78 0 (namedL 3 nm ++ putT 8 (kp + 9223372036854775808) (n + 1)).length) rfl (by rw [putT_succ, ← List.append_assoc, List.length_append (bs := [_])]; rfl) ?_
 refine r0 ?_
 refine sT 53 94 1 rfl <| sAO 54 102 2 rfl <| sT 8 110 3 rfl <| e1 118 rfl <| tn ?_
 exact again ((n + 1 : Nat)) [0, 1, 2, 3, 4, 78] (show (n + 1) ≤ 8 from (by omega)) (show 8 - (n + 1) < 8 - n from (by omega)) rfl ⟨rfl, rfl, rfl, rfl, (congrArg SV.i (by omega)), trivial⟩ ⟨rfl, rfl, rfl, rfl, rfl, rfl, trivial⟩
 try simp only [cs, ne_eq] at hc11
 refine W_exit <| tx <| tx <| bx <| tn ?_
 obtain rfl : n = 8 := (by omega)
 have hput : (namedL 3 nm ++ putT 8 (kp + 9223372036854775808) 8) = (namedL 3 nm ++ putB 8 (xorL kp)) := (by rw [put_xor kp (by unfold inRange at hkp; omega) (by unfold inRange at hkp; omega)]; rfl)
 rw [hput]
 refine freeze 4 5 (namedL 3 nm ++ putB 8 (xorL kp)).length rfl rfl (Nat.le_refl _) ?_
 refine cval 4 (u8V (bodyE (Ev.mk 3 nm [] kp))) rfl (by rw [body3]; rfl) ?_
 refine r1 <| sT 64 22 1 rfl ?_
 refine c1 (rrec_any (bodyE (Ev.mk 3 nm [] kp)) hbb.1 hbb.2) [] [] 65 30 2 rfl rfl rfl rfl rfl rfl rfl rfl Tryd.func35 rfl rfl rfl rfl trivial rfl rfl ?_
 refine sT 63 38 3 rfl <| sT 66 46 4 rfl <| sT 67 54 5 rfl <| sT 9 62 6 rfl <| sT 10 70 7 rfl <| e1 78 rfl <| keep [0, 3, 9] rfl <| r1 <| sT 68 78 1 rfl <| sT 69 86 2 rfl <| sT 70 94 3 rfl <| sT 71 102 4 rfl <| sO 72 110 5 rfl <| sT 73 118 6 rfl ?_
 refine sV 74 126 7 rfl ⟨Nat.le_refl _, trivial, (by show (_ + _) * 1 ≤ 140737488355328; omega), (by simp only [maxLen]; omega)⟩ ?_
 refine sT 75 134 8 rfl <| sT 76 142 9 rfl <| s0O 150 10 rfl rfl rfl rfl rfl <| e1 158 rfl <| keep [0, 3] rfl ?_
 refine rowsc 126 (fileB (E ++ [(Ev.mk 3 nm [] kp)])).length (u8F (fileB (E ++ [(Ev.mk 3 nm [] kp)]))) rfl (by rw [fileB_snoc, List.length_append]) (fun i c hi hc => by rw [fileB_snoc]; exact u8_cat i c hi hc) ?_
 refine chval 0 (.cells 49 3 [.sl 1 0 L.length, .sl 2 0 E.length, .sl 126 0 (fileB (E ++ [(Ev.mk 3 nm [] kp)])).length]) rfl (congrArg (fun q => Blk.cells 49 3 [.sl 1 0 L.length, .sl 2 0 E.length, .sl 126 0 q]) (show (fileB E).length + (recB (bodyE (Ev.mk 3 nm [] kp))).length = (fileB (E ++ [(Ev.mk 3 nm [] kp)])).length by rw [fileB_snoc, List.length_append])) ?_
 refine r1 <| sT 77 158 1 rfl <| sT 78 166 2 rfl <| sT 79 174 3 rfl <| sO 80 182 4 rfl <| sO 81 190 5 rfl <| sT 82 198 6 rfl <| s0O 206 7 rfl rfl rfl rfl rfl <| e1 214 rfl <| keep [0, 3] rfl ?_
 refine rd0n rfl ?_
 refine dT 83 214 1 rfl <| dT 84 222 2 rfl <| dT 85 230 3 rfl <| dT 86 238 4 rfl <| dO 87 246 5 rfl <| dO 88 254 6 rfl <| dT 89 262 7 rfl ?_
 refine dV 90 270 8 rfl ⟨Nat.le_refl _, trivial, (by show (_ + 1) * 64 ≤ 140737488355328; omega), (by simp only [maxLen]; omega)⟩ ?_
 refine dT 91 278 9 rfl <| dT 92 286 10 rfl ?_
 refine d0 294 11 rfl rfl rfl rfl rfl (by first | trivial | omega) ?_
 refine de1 302 rfl (by kernel_rfl) ?_
 refine rowscn 270 (E ++ [(Ev.mk 3 nm [] kp)]).length (evF (E ++ [(Ev.mk 3 nm [] kp)])) rfl (by simp) (fun i c hi hc => ev_cat3 (en := ((fileB (E ++ [(Ev.mk 3 nm [] kp)])).length : Nat)) rfl i c hi hc) ?_
 refine chvaln 0 (.cells 49 3 [.sl 1 0 L.length, .sl 270 0 (E ++ [(Ev.mk 3 nm [] kp)]).length, .sl 126 0 (fileB (E ++ [(Ev.mk 3 nm [] kp)])).length]) rfl (congrArg (fun q => Blk.cells 49 3 [.sl 1 0 L.length, .sl 270 0 q, .sl 126 0 (fileB (E ++ [(Ev.mk 3 nm [] kp)])).length]) (show E.length + 1 = (E ++ [(Ev.mk 3 nm [] kp)]).length by simp)) ?_
 refine wn ?_
 exact out0 (π := [0, 1, 2, 3, 270, 126]) (hout := [some (.cells 49 3 [.sl 1 0 L.length, .sl 4 0 (E ++ [(Ev.mk 3 nm [] kp)]).length, .sl 5 0 (fileB (E ++ [(Ev.mk 3 nm [] kp)])).length]), some (.fam Z ⟨linL L, [], some (66, 3)⟩), none, none, some (evB (E ++ [(Ev.mk 3 nm [] kp)])), some (u8B (fileB (E ++ [(Ev.mk 3 nm [] kp)])))]) Tryd.results16 rfl rfl ⟨rfl, rfl, rfl, rfl, trivial⟩ ⟨rfl, rfl⟩
 exact absurd hc8 (by decide)
end Go.Proofs.YtalhangpahffeaaDoor.Nice
namespace Go.Proofs.YtalhangpahffeaaDoor.Nice
open Go Go.Proofs
set_option linter.unusedVariables false
set_option linter.unusedSimpArgs false
set_option maxRecDepth 100000
set_option maxHeartbeats 1000000
theorem lt13 : (1 : Nat) < 3 := by decide
theorem lt23 : (2 : Nat) < 3 := by decide
def newL (nm : ByteArray) : Ln := ⟨nm, [], []⟩
theorem linL_push (L : List Ln) (x : Ln) (s : SV) : (linL L ++ [(Value.bool true, s, ([] : List InB))]).set L.length (.bool true, .agg (linC x), linB x) = linL (L ++ [x]) := by
 rw [← linL_len L, List.set_append_right _ _ (Nat.le_refl _), Nat.sub_self]
 unfold linL; simp [linS]
theorem linL_last (L : List Ln) (s : SV) : (linL L ++ [(Value.bool true, s, ([] : List InB))])[L.length]? = some (.bool true, s, []) := by
 rw [← linL_len L]; simp
theorem new_line (nm : ByteArray) : ∀ M ρ v, VR M ρ (.agg [.d (.val (.string nm)), .d .nils, .d .nils]) v → ∃ ρ' : Names, VR M ρ' (.agg (linC (newL nm))) v ∧ ∀ (i : Nat) (c : InB), (linB (newL nm))[i]? = some c → ∃ z, ρ' i = some z ∧ z.R = 0 ∧ c.blk.ghost = true := by
 intro M ρ v h
 obtain ⟨vs, rfl, hs, hr⟩ := agg_case h
 refine ⟨fun i => if i = 0 then some ⟨0, 1, 0⟩ else none, .aggOf _ _ hs fun c s hc => ?_, fun i c hc => ?_⟩
 · match c, hc with
   | 0, hc =>
     cases hc
     obtain ⟨u, u1, u2⟩ := hr 0 _ rfl
     refine ⟨u, u1, ?_⟩
     cases u2 with | d _ _ hd => exact .d _ _ hd
   | 1, hc =>
     cases hc
     obtain ⟨u, u1, u2⟩ := hr 1 _ rfl
     refine ⟨u, u1, ?_⟩
     cases u2 with | d _ _ hd => cases hd with | nils a => exact .sl0 0 0 ⟨0, 1, 0⟩ rfl rfl a
   | 2, hc =>
     cases hc
     obtain ⟨u, u1, u2⟩ := hr 2 _ rfl
     refine ⟨u, u1, ?_⟩
     cases u2 with | d _ _ hd => cases hd with | nils a => exact .d _ _ (.vec0 _ _ _ _)
   | c + 3, hc => simp [linC] at hc
 · match i, hc with
   | 0, hc => cases hc; exact ⟨_, rfl, rfl, rfl⟩
   | i + 1, hc => simp [linB] at hc
def evArg1 (en : Int) (nm : ByteArray) : SV := .agg [SV.i en, SV.i 1, .d (.val (.string nm)), .d .nils, SV.i 0]
def evArg2 (en : Int) (nm : ByteArray) (l : List Smp) : SV := .agg [SV.i en, SV.i 2, .d (.val (.string nm)), smpV l, SV.i 0]
def evArg3 (en : Int) (nm : ByteArray) (kp : Int) : SV := .agg [SV.i en, SV.i 3, .d (.val (.string nm)), .d .nils, SV.i kp]
theorem take_filt {k : Int} {ch : List (List Smp)} {n : Nat} (h : n < ch.length) (hk : keepC k (ch.getD n default) = true) : (ch.take (n + 1)).filter (keepC k) = (ch.take n).filter (keepC k) ++ [ch.getD n default] := by
 rw [take_succ' h, List.filter_append, getD_eq h] at *; simp [hk]
theorem take_filtn {k : Int} {ch : List (List Smp)} {n : Nat} (h : n < ch.length) (hk : keepC k (ch.getD n default) = false) : (ch.take (n + 1)).filter (keepC k) = (ch.take n).filter (keepC k) := by
 rw [take_succ' h, List.filter_append, getD_eq h] at *; simp [hk]
theorem line_found {Z : List Nat} {en : Nat} {ef : Nat → Nat → D} (F : List Int) (nm : ByteArray) (L : List Ln) (h6 : L.length ≤ 100) {j : Nat} (hk : idxN nm L = some j) : Spec Tryd.prog GF 14 [.ptr 0 0 0, .d (.val (.string nm))] [.cells 49 3 [.sl 1 0 L.length, .sl 2 0 en, .sl 3 0 F.length], .fam Z ⟨linL L, [], some (66, 3)⟩, .rows 60 5 en ef, u8B F] (fun r ho => r = .ptr 1 j 0 ∧ ho = [some (.cells 49 3 [.sl 1 0 L.length, .sl 2 0 en, .sl 3 0 F.length]), some (.fam Z ⟨linL L, [], some (66, 3)⟩), some (.rows 60 5 en ef), some (u8B F)]) := by
 have h := line_any (Z := Z) (ef := ef) (en := en) F nm L h6
 unfold lineR at h; rw [hk] at h; exact h
theorem line_none {Z : List Nat} {en : Nat} {ef : Nat → Nat → D} (F : List Int) (nm : ByteArray) (L : List Ln) (h6 : L.length ≤ 100) (hk : idxN nm L = none) : Spec Tryd.prog GF 14 [.ptr 0 0 0, .d (.val (.string nm))] [.cells 49 3 [.sl 1 0 L.length, .sl 2 0 en, .sl 3 0 F.length], .fam Z ⟨linL L, [], some (66, 3)⟩, .rows 60 5 en ef, u8B F] (fun r ho => r = .d (.val (.pointer none)) ∧ ho = [some (.cells 49 3 [.sl 1 0 L.length, .sl 2 0 en, .sl 3 0 F.length]), some (.fam Z ⟨linL L, [], some (66, 3)⟩), some (.rows 60 5 en ef), some (u8B F)]) := by
 have h := line_any (Z := Z) (ef := ef) (en := en) F nm L h6
 unfold lineR at h; rw [hk] at h; exact h
theorem apply1N {en : Nat} {ef : Nat → Nat → D} (F : List Int) (nm : ByteArray) (e0 : Int) : Spec Tryd.prog GF 17 [.ptr 0 0 0, evArg1 e0 nm] [.cells 49 3 [.d .nils, .sl 1 0 en, .sl 2 0 F.length], .rows 60 5 en ef, u8B F] (fun r ho => ∃ Z2, r = SV.tup [] ∧ ho = [some (.cells 49 3 [.sl 3 0 [newL nm].length, .sl 1 0 en, .sl 2 0 F.length]), some (.rows 60 5 en ef), some (u8B F), some (.fam Z2 ⟨linL [newL nm], [], some (66, 3)⟩)]) := by
 refine start 74 3 Tryd.func17 rfl rfl rfl rfl ?_
 refine r1 <| sT 3 3 1 rfl <| e1 11 rfl <| keep [0, 3] rfl <| r1 <| sT 8 11 1 rfl <| sT 9 19 2 rfl <| sO 10 27 3 rfl ?_
 refine c1 (line_nil (Z := []) F nm) [0, 1, 2] [0, 1, 2] 11 35 4 rfl rfl rfl rfl rfl rfl rfl rfl Tryd.func14 rfl rfl rfl rfl ⟨rfl, rfl, rfl, trivial⟩ rfl rfl ?_
 refine sT 4 43 5 rfl <| e1 51 rfl <| keep [0, 3, 4] rfl <| r1 <| sT 12 51 1 rfl <| sO 13 59 2 rfl <| e1 67 rfl <| keep [0, 3, 4, 13] rfl <| W_block <| r1 <| sO 15 67 1 rfl <| sT 14 75 2 rfl <| e1 83 rfl <| keep [0, 3, 4, 13, 14] rfl ?_
 refine q1 rfl (fun hc3 => ?_) (fun hc3 => ?_)
 try simp only [cs, ne_eq] at hc3
 refine rd0n rfl ?_
 refine dT 16 83 1 rfl <| dT 17 91 2 rfl <| dT 18 99 3 rfl <| dT 19 107 4 rfl <| dO 20 115 5 rfl <| dT 21 123 6 rfl <| dO 22 131 7 rfl <| dT 23 139 8 rfl <| dT 24 147 9 rfl ?_
 refine dV 25 155 10 rfl ⟨trivial, (by decide), (by decide)⟩ ?_
 refine dT 26 163 11 rfl <| dT 27 171 12 rfl ?_
 refine d0 179 13 rfl rfl rfl rfl rfl (by first | trivial | omega) ?_
 refine de1 187 rfl (by kernel_rfl) ?_
 refine chvaln 155 (.cells 66 3 [.d (.val (.string nm)), .d .nils, .d .nils]) rfl rfl ?_
 refine torowsn 155 1 (fun _ c => match c with | 0 => .val (.string nm) | 1 => .nils | _ => .nils) rfl (by decide) (Nat.le_refl _) (fun i c hi hc => by obtain rfl : i = 0 := (by omega); match c, hc with | 0, _ => rfl | 1, _ => rfl | 2, _ => rfl) ?_
 refine rowFamn 155 (.bool true) [.d (.val (.string nm)), .d .nils, .d .nils] rfl rfl (fun c s hs => by match c, hs with | 0, hs => (cases hs; rfl) | 1, hs => (cases hs; rfl) | 2, hs => (cases hs; rfl) | c + 3, hs => simp at hs) ?_
 refine famTelln 155 0 (.agg (linC (newL nm))) (linB (newL nm)) rfl rfl (new_line nm) ?_
 refine chvaln 155 (.fam [] ⟨linL [(newL nm)], [], some (66, 3)⟩) rfl rfl ?_
 refine wn ?_
 refine bn ?_
 exact out0 (π := [0, 1, 2, 155]) (hout := [some (.cells 49 3 [.sl 3 0 [newL nm].length, .sl 1 0 en, .sl 2 0 F.length]), some (.rows 60 5 en ef), some (u8B F), some (.fam [] ⟨linL [newL nm], [], some (66, 3)⟩)]) Tryd.results17 rfl rfl ⟨rfl, rfl, rfl, rfl, trivial⟩ ⟨[], rfl, rfl⟩
 exact absurd hc3 (by decide)
theorem apply1L {Z : List Nat} {en : Nat} {ef : Nat → Nat → D} (F : List Int) (nm : ByteArray) (e0 : Int) (L : List Ln) (h0 : 0 < L.length) (h6 : L.length ≤ 100) (hk : idxN nm L = none) : Spec Tryd.prog GF 17 [.ptr 0 0 0, evArg1 e0 nm] [.cells 49 3 [.sl 1 0 L.length, .sl 2 0 en, .sl 3 0 F.length], .fam Z ⟨linL L, [], some (66, 3)⟩, .rows 60 5 en ef, u8B F] (fun r ho => r = SV.tup [] ∧ ho = [some (.cells 49 3 [.sl 4 0 (L ++ [newL nm]).length, .sl 2 0 en, .sl 3 0 F.length]), none, some (.rows 60 5 en ef), some (u8B F), some (.fam Z ⟨linL (L ++ [newL nm]), [], some (66, 3)⟩)]) := by
 refine start 74 4 Tryd.func17 rfl rfl rfl rfl ?_
 refine r1 <| sT 3 4 1 rfl <| e1 12 rfl <| keep [0, 3] rfl <| r1 <| sT 8 12 1 rfl <| sT 9 20 2 rfl <| sO 10 28 3 rfl ?_
 refine c1 (line_none F nm L h6 hk) [0, 1, 2, 3] [0, 1, 2, 3] 11 36 4 rfl rfl rfl rfl rfl rfl rfl rfl Tryd.func14 rfl rfl rfl rfl ⟨rfl, rfl, rfl, rfl, trivial⟩ rfl rfl ?_
 refine sT 4 44 5 rfl <| e1 52 rfl <| keep [0, 3, 4] rfl <| r1 <| sT 12 52 1 rfl <| sO 13 60 2 rfl <| e1 68 rfl <| keep [0, 3, 4, 13] rfl <| W_block <| r1 <| sO 15 68 1 rfl <| sT 14 76 2 rfl <| e1 84 rfl <| keep [0, 3, 4, 13, 14] rfl ?_
 refine q1 rfl (fun hc3 => ?_) (fun hc3 => ?_)
 try simp only [cs, ne_eq] at hc3
 refine rd0n rfl ?_
 refine dT 16 84 1 rfl <| dT 17 92 2 rfl <| dT 18 100 3 rfl <| dT 19 108 4 rfl <| dO 20 116 5 rfl <| dT 21 124 6 rfl <| dO 22 132 7 rfl <| dT 23 140 8 rfl <| dT 24 148 9 rfl ?_
 refine sAppF (.bool true) 25 156 10 rfl rfl rfl rfl rfl rfl Tryd.underlying46 rfl rfl rfl (by decide) rfl rfl rfl rfl rfl rfl (by decide) (linL_len _) h0 (linL_one L) (by show (_ + 1) * 64 ≤ 140737488355328; omega) (by simp only [maxLen]; omega) ?_
 refine dT 26 164 11 rfl <| dT 27 172 12 rfl ?_
 refine d0 180 13 rfl rfl rfl rfl rfl (by first | trivial | omega) ?_
 refine de1 188 rfl (by kernel_rfl) ?_
 refine famTelln 156 L.length (.agg (linC (newL nm))) (linB (newL nm)) rfl (linL_last L _) (new_line nm) ?_
 refine chvaln 156 (.fam Z ⟨linL (L ++ [newL nm]), [], some (66, 3)⟩) rfl (congrArg (fun l => Blk.fam Z ⟨l, [], some (66, 3)⟩) (linL_push L (newL nm) _)) ?_
 refine chvaln 0 (.cells 49 3 [.sl 156 0 (L ++ [newL nm]).length, .sl 2 0 en, .sl 3 0 F.length]) rfl (congrArg (fun q => Blk.cells 49 3 [.sl 156 0 q, .sl 2 0 en, .sl 3 0 F.length]) (show L.length + 1 = (L ++ [newL nm]).length by simp)) ?_
 refine wn ?_
 refine bn ?_
 exact out0 (π := [0, 1, 2, 3, 156]) (hout := [some (.cells 49 3 [.sl 4 0 (L ++ [newL nm]).length, .sl 2 0 en, .sl 3 0 F.length]), none, some (.rows 60 5 en ef), some (u8B F), some (.fam Z ⟨linL (L ++ [newL nm]), [], some (66, 3)⟩)]) Tryd.results17 rfl rfl ⟨rfl, rfl, rfl, rfl, trivial⟩ ⟨rfl, rfl⟩
 exact absurd hc3 (by decide)
theorem apply2 {Z : List Nat} {en : Nat} {ef : Nat → Nat → D} (F : List Int) (nm : ByteArray) (e0 : Int) (L : List Ln) (h6 : L.length ≤ 100) {j : Nat} {x : Ln} (hln : LnIn x) (hk : idxN nm L = some j) (hj : L[j]? = some x) (l : List Smp) : Spec Tryd.prog GF 17 [.ptr 0 0 0, evArg2 e0 nm l] [.cells 49 3 [.sl 1 0 L.length, .sl 2 0 en, .sl 3 0 F.length], .fam Z ⟨linL L, [], some (66, 3)⟩, .rows 60 5 en ef, u8B F] (fun r ho => ∃ Z2, r = SV.tup [] ∧ ho = [some (.cells 49 3 [.sl 1 0 (L.set j (sealL l x)).length, .sl 2 0 en, .sl 3 0 F.length]), some (.fam Z2 ⟨linL (L.set j (sealL l x)), [], some (66, 3)⟩), some (.rows 60 5 en ef), some (u8B F)]) := by
 have hxc := hln.c
 refine start 74 4 Tryd.func17 rfl rfl rfl rfl ?_
 refine r1 <| sT 3 4 1 rfl <| e1 12 rfl <| keep [0, 3] rfl <| r1 <| sT 8 12 1 rfl <| sT 9 20 2 rfl <| sO 10 28 3 rfl ?_
 refine c1 (line_found F nm L h6 hk) [0, 1, 2, 3] [0, 1, 2, 3] 11 36 4 rfl rfl rfl rfl rfl rfl rfl rfl Tryd.func14 rfl rfl rfl rfl ⟨rfl, rfl, rfl, rfl, trivial⟩ rfl rfl ?_
 refine sT 4 44 5 rfl <| e1 52 rfl <| keep [0, 3, 4] rfl <| r1 <| sT 12 52 1 rfl <| sO 13 60 2 rfl <| e1 68 rfl <| keep [0, 3, 4, 13] rfl <| W_block <| r1 <| sO 15 68 1 rfl <| sT 14 76 2 rfl <| e1 84 rfl <| keep [0, 3, 4, 13, 14] rfl ?_
 refine q1 rfl (fun hc3 => ?_) (fun hc3 => ?_)
 exact absurd hc3 (by decide)
 try simp only [cs, ne_eq] at hc3
 refine r1 <| sO 29 84 1 rfl <| sT 28 92 2 rfl <| e1 100 rfl <| keep [3, 4, 13, 28] rfl ?_
 refine q1 rfl (fun hc5 => ?_) (fun hc5 => ?_)
 try simp only [cs, ne_eq] at hc5
 refine famOpen 1 j rfl (linL_at hj) rfl rfl (fun Z1 => ?_)
 refine rd1 rfl ?_
 refine dT 30 108 1 rfl <| dT 31 116 2 rfl <| dT 32 124 3 rfl <| dT 33 132 4 rfl ?_
 refine sLoadF (linO x 100) (.sl 100 0 x.ch.length) 34 140 5 rfl rfl rfl rfl rfl rfl rfl rfl rfl rfl (.inl (List.mem_singleton.2 rfl)) rfl ?_
 refine dT 35 148 6 rfl <| dO 36 156 7 rfl <| dT 37 164 8 rfl ?_
 refine dV 38 172 9 rfl ⟨Nat.le_refl _, trivial, (by show (_ + 1) * 24 ≤ 140737488355328; omega), (by simp only [maxLen]; omega)⟩ ?_
 refine dT 39 180 10 rfl <| dT 40 188 11 rfl ?_
 refine sStoreF 196 12 rfl rfl rfl rfl rfl rfl rfl rfl rfl rfl rfl lt13 ?_
 refine de1 204 rfl (by kernel_rfl) <| keep [4] rfl ?_
 refine r0n ?_
 refine sT 41 204 1 rfl <| sT 42 212 2 rfl <| sT 43 220 3 rfl ?_
 refine sStoreFW (.d (.vec 2 0 (smpF []))) 228 4 rfl rfl rfl rfl rfl rfl rfl rfl rfl rfl (nil_vec0 2 _) rfl lt23 ?_
 refine e1 236 rfl ?_
 refine rowscn 172 (x.ch ++ [l]).length (chF (x.ch ++ [l])) rfl (by simp) (fun i c hi hc => ch_one rfl i c hi hc) ?_
 refine famShutn 1 j [172] (.agg (linC (sealL l x))) (linB (sealL l x)) rfl (linL_at hj) (congrArg (fun q => SV.agg [.d (.val (.string x.nm)), .sl 172 0 q, .d (.vec 2 0 (smpF []))]) (show x.ch.length + 1 = (x.ch ++ [l]).length by simp)) ⟨rfl, trivial⟩ rfl (fun Z3 => ?_)
 refine chvaln 1 (.fam Z3 ⟨linL (L.set j (sealL l x)), [], some (66, 3)⟩) rfl (congrArg (fun q => Blk.fam Z3 ⟨q, [], some (66, 3)⟩) (linL_set L j (sealL l x))) ?_
 refine chvaln 0 (.cells 49 3 [.sl 1 0 (L.set j (sealL l x)).length, .sl 2 0 en, .sl 3 0 F.length]) rfl (congrArg (fun q => Blk.cells 49 3 [.sl 1 0 q, .sl 2 0 en, .sl 3 0 F.length]) (show L.length = (L.set j (sealL l x)).length by simp)) ?_
 refine wn ?_
 refine bn ?_
 exact out0 (π := [0, 1, 2, 3]) (hout := [some (.cells 49 3 [.sl 1 0 (L.set j (sealL l x)).length, .sl 2 0 en, .sl 3 0 F.length]), some (.fam Z3 ⟨linL (L.set j (sealL l x)), [], some (66, 3)⟩), some (.rows 60 5 en ef), some (u8B F)]) Tryd.results17 rfl rfl ⟨rfl, rfl, rfl, rfl, trivial⟩ ⟨Z3, rfl, rfl⟩
 exact absurd hc5 (by decide)
theorem apply3 {Z : List Nat} {en : Nat} {ef : Nat → Nat → D} (F : List Int) (nm : ByteArray) (e0 : Int) (L : List Ln) (h6 : L.length ≤ 100) {j : Nat} {x : Ln} (hln : LnIn x) (hk : idxN nm L = some j) (hj : L[j]? = some x) (kp : Int) : Spec Tryd.prog GF 17 [.ptr 0 0 0, evArg3 e0 nm kp] [.cells 49 3 [.sl 1 0 L.length, .sl 2 0 en, .sl 3 0 F.length], .fam Z ⟨linL L, [], some (66, 3)⟩, .rows 60 5 en ef, u8B F] (fun r ho => ∃ Z2, r = SV.tup [] ∧ ho = [some (.cells 49 3 [.sl 1 0 (L.set j (trimL kp x)).length, .sl 2 0 en, .sl 3 0 F.length]), some (.fam Z2 ⟨linL (L.set j (trimL kp x)), [], some (66, 3)⟩), some (.rows 60 5 en ef), some (u8B F)]) := by
 have hxc := hln.c
 refine start 74 4 Tryd.func17 rfl rfl rfl rfl ?_
 refine r1 <| sT 3 4 1 rfl <| e1 12 rfl <| keep [0, 3] rfl <| r1 <| sT 8 12 1 rfl <| sT 9 20 2 rfl <| sO 10 28 3 rfl ?_
 refine c1 (line_found F nm L h6 hk) [0, 1, 2, 3] [0, 1, 2, 3] 11 36 4 rfl rfl rfl rfl rfl rfl rfl rfl Tryd.func14 rfl rfl rfl rfl ⟨rfl, rfl, rfl, rfl, trivial⟩ rfl rfl ?_
 refine sT 4 44 5 rfl <| e1 52 rfl <| keep [0, 3, 4] rfl <| r1 <| sT 12 52 1 rfl <| sO 13 60 2 rfl <| e1 68 rfl <| keep [0, 3, 4, 13] rfl <| W_block <| r1 <| sO 15 68 1 rfl <| sT 14 76 2 rfl <| e1 84 rfl <| keep [0, 3, 4, 13, 14] rfl ?_
 refine q1 rfl (fun hc3 => ?_) (fun hc3 => ?_)
 exact absurd hc3 (by decide)
 try simp only [cs, ne_eq] at hc3
 refine r1 <| sO 29 84 1 rfl <| sT 28 92 2 rfl <| e1 100 rfl <| keep [3, 4, 13, 28] rfl ?_
 refine q1 rfl (fun hc5 => ?_) (fun hc5 => ?_)
 exact absurd hc5 (by decide)
 try simp only [cs, ne_eq] at hc5
 refine r1 <| sO 45 100 1 rfl <| sT 44 108 2 rfl <| e1 116 rfl <| keep [3, 4, 44] rfl ?_
 refine q1 rfl (fun hc8 => ?_) (fun hc8 => ?_)
 try simp only [cs, ne_eq] at hc8
 refine r1 <| sT 5 116 1 rfl <| e1 124 rfl <| keep [3, 4, 5] rfl <| W_seq ?_
 refine famOpen 1 j rfl (linL_at hj) rfl rfl (fun Z1 => ?_)
 refine r1 <| sT 46 132 1 rfl <| sT 47 140 2 rfl <| sT 48 148 3 rfl ?_
 refine sLoadF (linO x 124) (.sl 124 0 x.ch.length) 49 156 4 rfl rfl rfl rfl rfl rfl rfl rfl rfl rfl (.inl (List.mem_singleton.2 rfl)) rfl ?_
 refine sO 50 164 5 rfl <| sT 51 172 6 rfl <| e1 180 rfl <| keep [3, 4, 5, 49, 50, 51] rfl <| W_block ?_
 refine ghostly 5 29 1 (chF []) rfl ?_
 refine loop (α := Nat) 7 (fun n => [(3, .ptr 4 0 0), (4, .ptr 1 j 0), (5, .sl 6 0 ((x.ch.take (n)).filter (keepC kp)).length), (49, .sl 5 0 x.ch.length), (50, SV.i x.ch.length), (51, SV.i (n))]) (fun n => [some (.cells 49 3 [.sl 1 0 L.length, .sl 2 0 en, .sl 3 0 F.length]), some (.fam Z1 ⟨linL L, [(j, .agg (linO x 5))], some (66, 3)⟩), some (.rows 60 5 en ef), some (u8B F), some (.cells 60 5 [SV.i e0, SV.i 3, .d (.val (.string nm)), .d .nils, SV.i kp]), some (chsB x.ch), some (chsB ((x.ch.take (n)).filter (keepC kp)))]) (fun n => (n) ≤ x.ch.length) (fun n => x.ch.length - (n)) (((0) : Nat)) [0, 1, 2, 3, 4, 124, 180] (fun _ => rfl) (show (0) ≤ x.ch.length from (Nat.zero_le _)) rfl ⟨rfl, rfl, rfl, rfl, rfl, rfl, trivial⟩ ⟨rfl, rfl, rfl, rfl, rfl, rfl, rfl, trivial⟩ (fun n hx => ?_)
 show W _ _ _ ⟨tOf [(3, .ptr 4 0 0), (4, .ptr 1 j 0), (5, .sl 6 0 ((x.ch.take n).filter (keepC kp)).length), (49, .sl 5 0 x.ch.length), (50, SV.i x.ch.length), (51, SV.i n)], hOf [some (.cells 49 3 [.sl 1 0 L.length, .sl 2 0 en, .sl 3 0 F.length]), some (.fam Z1 ⟨linL L, [(j, .agg (linO x 5))], some (66, 3)⟩), some (.rows 60 5 en ef), some (u8B F), some (.cells 60 5 [SV.i e0, SV.i 3, .d (.val (.string nm)), .d .nils, SV.i kp]), some (chsB x.ch), some (chsB ((x.ch.take n).filter (keepC kp)))], 7⟩
 have hx : n ≤ x.ch.length := hx
 refine r1 <| sO 52 7 1 rfl <| e1 15 rfl <| keep [3, 4, 5, 49, 50, 51, 52] rfl <| W_seq ?_
 refine q1 rfl (fun hc11 => ?_) (fun hc11 => ?_)
 try simp only [cs, ne_eq] at hc11
 have hne := hln.at (i := n) (by omega)
 have hfl := List.length_filter_le (keepC kp) (x.ch.take n)
 rw [List.length_take] at hfl
 refine W_skip <| tn <| W_seq <| W_block <| r1 ?_
 refine sV 53 15 1 rfl ⟨⟨by omega, by omega⟩, by omega⟩ ?_
 refine sV 54 23 2 rfl (by simp only [Int.toNat_natCast]; omega) ?_
 refine val 54 (.d (.vec 2 (x.ch.getD n default).length (smpF (x.ch.getD n default)))) rfl (by first | (simp only [Int.toNat_natCast, Nat.zero_add]; done) | (simp only [Int.toNat_natCast, Nat.zero_add]; rfl)) ?_
 refine sT 7 31 3 rfl <| e1 39 rfl <| keep [3, 4, 5, 7, 49, 50, 51] rfl ?_
 refine rd1 rfl ?_
 refine dT 55 39 1 rfl <| dT 56 47 2 rfl <| dO 57 55 3 rfl <| dAO 58 63 4 rfl ?_
 refine dV 59 71 5 rfl ⟨by omega, by omega⟩ ?_
 refine dT 60 79 6 rfl <| dO 61 87 7 rfl ?_
 refine val 61 (SV.i (lastT (x.ch.getD n default))) rfl (congrArg SV.i (congrArg (fun q => ((x.ch.getD n default).getD q default).t) (by omega))) ?_
 refine dT 62 95 8 rfl <| dO 63 103 9 rfl <| dO 64 111 10 rfl <| de1 119 rfl (by kernel_rfl) <| keep [3, 4, 5, 7, 49, 50, 51, 64] rfl ?_
 refine q1 rfl (fun hc13 => ?_) (fun hc13 => ?_)
 try simp only [cs, ne_eq] at hc13
 have hkp : keepC kp (x.ch.getD n default) = true := (by unfold keepC; rw [decide_eq_false (by omega)]; rfl)
 have htk := take_filt (k := kp) (by omega) hkp
 refine r0 ?_
 refine sT 65 119 1 rfl <| sT 66 127 2 rfl <| sT 67 135 3 rfl ?_
 refine sV 68 143 4 rfl ⟨Nat.le_refl _, trivial, (by show (_ + 1) * 24 ≤ 140737488355328; omega), (by simp only [maxLen]; omega)⟩ ?_
 refine sT 5 151 5 rfl <| e1 159 rfl <| bn <| tn ?_
 refine rowsc 143 ((x.ch.take (n + 1)).filter (keepC kp)).length (chF ((x.ch.take (n + 1)).filter (keepC kp))) rfl (by rw [htk]; simp) (fun i c hi hc => by rw [htk]; exact ch_one rfl i c hi hc) ?_
 refine cval 5 (.sl 143 0 ((x.ch.take (n + 1)).filter (keepC kp)).length) rfl (by rw [htk]; simp) ?_
 refine r0 ?_
 refine sAO 69 159 1 rfl <| sT 51 167 2 rfl <| e1 175 rfl <| tn ?_
 exact again ((n + 1 : Nat)) [0, 1, 2, 3, 4, 5, 143] (show (n + 1) ≤ x.ch.length from (by omega)) (show x.ch.length - (n + 1) < x.ch.length - n from (by omega)) rfl ⟨rfl, rfl, rfl, rfl, rfl, rfl, trivial⟩ ⟨rfl, rfl, rfl, rfl, rfl, rfl, rfl, trivial⟩
 try simp only [cs, ne_eq] at hc13
 have hkp : keepC kp (x.ch.getD n default) = false := (by unfold keepC; rw [decide_eq_true (by omega)]; rfl)
 have htk := take_filtn (k := kp) (by omega) hkp
 refine W_skip <| bn <| tn ?_
 refine chval 6 (chsB ((x.ch.take (n + 1)).filter (keepC kp))) rfl (by first | (rw [htk]; done) | (rw [htk]; rfl)) ?_
 refine cval 5 (.sl 6 0 ((x.ch.take (n + 1)).filter (keepC kp)).length) rfl (by rw [htk]) ?_
 refine r0 ?_
 refine sAO 69 119 1 rfl <| sT 51 127 2 rfl <| e1 135 rfl <| tn ?_
 exact again ((n + 1 : Nat)) [0, 1, 2, 3, 4, 5, 6] (show (n + 1) ≤ x.ch.length from (by omega)) (show x.ch.length - (n + 1) < x.ch.length - n from (by omega)) rfl ⟨rfl, rfl, rfl, rfl, rfl, rfl, trivial⟩ ⟨rfl, rfl, rfl, rfl, rfl, rfl, rfl, trivial⟩
 try simp only [cs, ne_eq] at hc11
 refine W_exit <| tx <| tx <| bx <| tn ?_
 obtain rfl : n = x.ch.length := (by omega)
 refine chval 6 (chsB (x.ch.filter (keepC kp))) rfl (by first | (rw [List.take_length]; done) | (rw [List.take_length]; rfl)) ?_
 refine cval 5 (.sl 6 0 (x.ch.filter (keepC kp)).length) rfl (by rw [List.take_length]) ?_
 refine r0n ?_
 refine sT 70 15 1 rfl <| sT 71 23 2 rfl <| sT 72 31 3 rfl <| sT 73 39 4 rfl ?_
 refine sStoreF 47 5 rfl rfl rfl rfl rfl rfl rfl rfl rfl rfl rfl lt13 ?_
 refine e1 55 rfl ?_
 refine famShutn 1 j [6] (.agg (linC (trimL kp x))) (linB (trimL kp x)) rfl (linL_at hj) rfl ⟨rfl, trivial⟩ rfl (fun Z3 => ?_)
 refine chvaln 1 (.fam Z3 ⟨linL (L.set j (trimL kp x)), [], some (66, 3)⟩) rfl (congrArg (fun q => Blk.fam Z3 ⟨q, [], some (66, 3)⟩) (linL_set L j (trimL kp x))) ?_
 refine chvaln 0 (.cells 49 3 [.sl 1 0 (L.set j (trimL kp x)).length, .sl 2 0 en, .sl 3 0 F.length]) rfl (congrArg (fun q => Blk.cells 49 3 [.sl 1 0 q, .sl 2 0 en, .sl 3 0 F.length]) (show L.length = (L.set j (trimL kp x)).length by simp)) ?_
 refine wn ?_
 refine bn ?_
 exact out0 (π := [0, 1, 2, 3]) (hout := [some (.cells 49 3 [.sl 1 0 (L.set j (trimL kp x)).length, .sl 2 0 en, .sl 3 0 F.length]), some (.fam Z3 ⟨linL (L.set j (trimL kp x)), [], some (66, 3)⟩), some (.rows 60 5 en ef), some (u8B F)]) Tryd.results17 rfl rfl ⟨rfl, rfl, rfl, rfl, trivial⟩ ⟨Z3, rfl, rfl⟩
 exact absurd hc8 (by decide)
end Go.Proofs.YtalhangpahffeaaDoor.Nice
namespace Go.Proofs.YtalhangpahffeaaDoor.Nice
open Go Go.Proofs
set_option linter.unusedVariables false
set_option linter.unusedSimpArgs false
set_option maxRecDepth 100000
set_option maxHeartbeats 1000000
theorem linL_self {L : List Ln} {j : Nat} {x : Ln} (h : L[j]? = some x) : (linL L).set j (.bool true, .agg (linC x), linB x) = linL L := by
 rw [linL_set]; congr 1
 obtain ⟨hj, e⟩ := List.getElem?_eq_some_iff.1 h
 rw [← e, List.set_getElem_self]
structure KR where
 e : Int
 L : List Ln
 E : List Ev
def sealK (j : Nat) (x : Ln) (L : List Ln) (E : List Ev) : KR :=
 if x.op.length = 0 then ⟨0, L, E⟩ else if 30 ≤ x.ch.length ∨ 200 ≤ E.length then ⟨8, L, E⟩ else ⟨0, L.set j (sealL x.op x), E ++ [⟨2, x.nm, x.op, 0⟩]⟩
theorem sealK_nil {j : Nat} {x : Ln} {L : List Ln} {E : List Ev} (h : x.op.length = 0) : sealK j x L E = ⟨0, L, E⟩ := by unfold sealK; rw [if_pos h]
theorem sealK_full {j : Nat} {x : Ln} {L : List Ln} {E : List Ev} (h : ¬ x.op.length = 0) (h2 : 30 ≤ x.ch.length ∨ 200 ≤ E.length) : sealK j x L E = ⟨8, L, E⟩ := by unfold sealK; rw [if_neg h, if_pos h2]
theorem sealK_yes {j : Nat} {x : Ln} {L : List Ln} {E : List Ev} (h : ¬ x.op.length = 0) (h2 : ¬ 30 ≤ x.ch.length) (h3 : ¬ 200 ≤ E.length) : sealK j x L E = ⟨0, L.set j (sealL x.op x), E ++ [⟨2, x.nm, x.op, 0⟩]⟩ := by unfold sealK; rw [if_neg h, if_neg (by omega)]
theorem seals_any {Z : List Nat} (L : List Ln) (h6 : L.length ≤ 100) (E : List Ev) (hE : E.length ≤ 240) (hF : (fileB E).length ≤ 800000) {j : Nat} {x : Ln} (hln : LnIn x) (hk : idxN x.nm L = some j) (hj : L[j]? = some x) (q : KR) (hq : sealK j x L E = q) : Spec Tryd.prog GF 20 [.ptr 0 0 0, .ptr 1 j 0] [.cells 49 3 [.sl 1 0 L.length, .sl 2 0 E.length, .sl 3 0 (fileB E).length], .fam Z ⟨linL L, [], some (66, 3)⟩, evB E, u8B (fileB E)] (fun r ho => ∃ Z9, r = SV.i q.e ∧ ho = [some (.cells 49 3 [.sl 1 0 q.L.length, .sl 4 0 q.E.length, .sl 5 0 (fileB q.E).length]), some (.fam Z9 ⟨linL q.L, [], some (66, 3)⟩), none, none, some (evB q.E), some (u8B (fileB q.E))]) := by
 refine start 41 4 Tryd.func20 rfl rfl rfl rfl ?_
 refine r1 <| sT 4 4 1 rfl <| e1 12 rfl <| keep [0, 1] rfl <| W_seq <| r1 <| sT 6 12 1 rfl <| sT 7 20 2 rfl <| sT 8 28 3 rfl ?_
 refine sLoadF (linC x) (.d (.vec 2 x.op.length (smpF x.op))) 9 36 4 rfl rfl rfl rfl rfl rfl rfl rfl rfl rfl (.inr ⟨_, _, _, ⟨linL_at hj, fun p hp => by cases hp⟩, rfl⟩) rfl ?_
 refine sO 10 44 5 rfl <| sO 11 52 6 rfl <| e1 60 rfl <| keep [0, 1, 11] rfl ?_
 refine q1 rfl (fun hc1 => ?_) (fun hc1 => ?_)
 try simp only [cs, ne_eq] at hc1
 refine r1 <| sT 4 60 1 rfl <| e1 68 rfl <| keep [4] rfl <| rename 2 rfl rfl <| rename 3 rfl rfl <| W_ret <| tr ?_
 obtain rfl := hq.symm.trans (sealK_nil (by omega))
 exact out1 4 (SV.i 0) (π := [0, 1, 2, 3, 68, 76]) (hout := [some (.cells 49 3 [.sl 1 0 (KR.mk 0 L E).L.length, .sl 4 0 (KR.mk 0 L E).E.length, .sl 5 0 (fileB (KR.mk 0 L E).E).length]), some (.fam Z ⟨linL (KR.mk 0 L E).L, [], some (66, 3)⟩), none, none, some (evB (KR.mk 0 L E).E), some (u8B (fileB (KR.mk 0 L E).E))]) Tryd.results20 rfl rfl rfl rfl ⟨rfl, rfl, rfl, rfl, trivial⟩ ⟨Z, rfl, rfl⟩
 try simp only [cs, ne_eq] at hc1
 refine W_skip <| tn <| W_seq ?_
 refine famOpen 1 j rfl (linL_at hj) rfl rfl (fun Z1 => ?_)
 refine r1 <| sT 12 68 1 rfl <| sT 13 76 2 rfl <| sT 14 84 3 rfl ?_
 refine sLoadF (linO x 60) (.sl 60 0 x.ch.length) 15 92 4 rfl rfl rfl rfl rfl rfl rfl rfl rfl rfl (.inl (List.mem_singleton.2 rfl)) rfl ?_
 refine sO 16 100 5 rfl <| sO 17 108 6 rfl <| sT 18 116 7 rfl ?_
 refine ask 18 rfl (fun hg3_18 => ?_) (fun hg3_18 => ?_)
 try simp only [cs, ne_eq] at hg3_18
 refine gF 6 false 18 19 8 rfl rfl <| gF 6 false 18 20 9 rfl rfl <| gF 6 false 18 21 10 rfl rfl <| gF 6 false 18 22 11 rfl rfl <| gF 6 false 18 23 12 rfl rfl <| gF 6 false 18 24 13 rfl rfl <| sT 25 172 14 rfl <| e1 180 rfl <| keep [0, 1, 25] rfl ?_
 refine q1 rfl (fun hc3 => ?_) (fun hc3 => ?_)
 try simp only [cs, ne_eq] at hc3
 refine r1 <| sT 4 180 1 rfl <| e1 188 rfl <| keep [4] rfl ?_
 refine famShut 1 j [60] (.agg (linC x)) (linB x) rfl (linL_at hj) rfl ⟨rfl, trivial⟩ rfl (fun Z2 => ?_)
 refine chval 1 (.fam Z2 ⟨linL L, [], some (66, 3)⟩) rfl (congrArg (fun q => Blk.fam Z2 ⟨q, [], some (66, 3)⟩) (linL_self hj)) ?_
 refine rename 2 rfl rfl <| rename 3 rfl rfl <| W_ret <| tr ?_
 obtain rfl := hq.symm.trans (sealK_full (by omega) (by omega))
 exact out1 4 (SV.i 8) (π := [0, 1, 2, 3, 188, 196]) (hout := [some (.cells 49 3 [.sl 1 0 (KR.mk 8 L E).L.length, .sl 4 0 (KR.mk 8 L E).E.length, .sl 5 0 (fileB (KR.mk 8 L E).E).length]), some (.fam Z2 ⟨linL (KR.mk 8 L E).L, [], some (66, 3)⟩), none, none, some (evB (KR.mk 8 L E).E), some (u8B (fileB (KR.mk 8 L E).E))]) Tryd.results20 rfl rfl rfl rfl ⟨rfl, rfl, rfl, rfl, trivial⟩ ⟨Z2, rfl, rfl⟩
 exact absurd hc3 (by decide)
 try simp only [cs, ne_eq] at hg3_18
 refine gT 6 false 18 8 rfl rfl <| sT 19 124 8 rfl <| gT 6 false 18 9 rfl rfl <| sT 20 132 9 rfl <| gT 6 false 18 10 rfl rfl <| sT 21 140 10 rfl <| gT 6 false 18 11 rfl rfl <| sO 22 148 11 rfl <| gT 6 false 18 12 rfl rfl <| sO 23 156 12 rfl <| gT 6 false 18 13 rfl rfl <| sO 24 164 13 rfl <| sT 25 172 14 rfl <| e1 180 rfl <| keep [0, 1, 25] rfl ?_
 refine q1 rfl (fun hc3 => ?_) (fun hc3 => ?_)
 try simp only [cs, ne_eq] at hc3
 refine r1 <| sT 4 180 1 rfl <| e1 188 rfl <| keep [4] rfl ?_
 refine famShut 1 j [60] (.agg (linC x)) (linB x) rfl (linL_at hj) rfl ⟨rfl, trivial⟩ rfl (fun Z2 => ?_)
 refine chval 1 (.fam Z2 ⟨linL L, [], some (66, 3)⟩) rfl (congrArg (fun q => Blk.fam Z2 ⟨q, [], some (66, 3)⟩) (linL_self hj)) ?_
 refine rename 2 rfl rfl <| rename 3 rfl rfl <| W_ret <| tr ?_
 obtain rfl := hq.symm.trans (sealK_full (by omega) (by omega))
 exact out1 4 (SV.i 8) (π := [0, 1, 2, 3, 188, 196]) (hout := [some (.cells 49 3 [.sl 1 0 (KR.mk 8 L E).L.length, .sl 4 0 (KR.mk 8 L E).E.length, .sl 5 0 (fileB (KR.mk 8 L E).E).length]), some (.fam Z2 ⟨linL (KR.mk 8 L E).L, [], some (66, 3)⟩), none, none, some (evB (KR.mk 8 L E).E), some (u8B (fileB (KR.mk 8 L E).E))]) Tryd.results20 rfl rfl rfl rfl ⟨rfl, rfl, rfl, rfl, trivial⟩ ⟨Z2, rfl, rfl⟩
 try simp only [cs, ne_eq] at hc3
 refine W_skip <| tn ?_
 refine rd1 rfl ?_
 refine dT 26 180 1 rfl <| dT 27 188 2 rfl <| dT 28 196 3 rfl ?_
 refine sLoadF (linO x 60) (.d (.val (.string x.nm))) 29 204 4 rfl rfl rfl rfl rfl rfl rfl rfl rfl rfl (.inl (List.mem_singleton.2 rfl)) rfl ?_
 refine dT 30 212 5 rfl <| dT 31 220 6 rfl <| dT 32 228 7 rfl ?_
 refine sLoadF (linO x 60) (.d (.vec 2 x.op.length (smpF x.op))) 33 236 8 rfl rfl rfl rfl rfl rfl rfl rfl rfl rfl (.inl (List.mem_singleton.2 rfl)) rfl ?_
 refine dT 34 244 9 rfl <| dT 5 252 10 rfl ?_
 refine d0 260 11 rfl rfl rfl rfl rfl (by first | trivial | omega) ?_
 refine de1 268 rfl (by kernel_rfl) <| keep [0, 5] rfl ?_
 refine famShut 1 j [60] (.agg (linC x)) (linB x) rfl (linL_at hj) rfl ⟨rfl, trivial⟩ rfl (fun Z2 => ?_)
 refine chval 1 (.fam Z2 ⟨linL L, [], some (66, 3)⟩) rfl (congrArg (fun q => Blk.fam Z2 ⟨q, [], some (66, 3)⟩) (linL_self hj)) ?_
 refine r1 <| sT 35 268 1 rfl <| sO 36 276 2 rfl ?_
 refine c1 (write2L L x.nm hln.nm x.op (Nat.le_trans hln.o (by decide)) hln.so E (by omega) (by omega)) [0, 1, 2, 3] [0, 1, 2, 3, 284, 285] 37 284 3 rfl rfl rfl rfl rfl rfl rfl rfl Tryd.func16 rfl rfl rfl rfl ⟨rfl, rfl, rfl, rfl, trivial⟩ rfl rfl ?_
 refine e1 292 rfl <| keep [0, 5] rfl <| r1 <| sT 38 292 1 rfl <| sO 39 300 2 rfl ?_
 refine cQ (apply2 (fileB (E ++ [Ev.mk 2 x.nm x.op 0])) x.nm 0 L h6 hln hk hj x.op) [0, 1, 284, 285] 40 308 3 rfl rfl rfl rfl rfl rfl rfl Tryd.func17 rfl rfl rfl ⟨rfl, rfl, rfl, rfl, trivial⟩ ?_
 rintro _ _ ⟨Z3, rfl, rfl⟩
 refine val 40 (.tup []) rfl rfl ?_
 refine hval 0 _ rfl (.cells 49 3 [.sl 1 0 (L.set j (sealL x.op x)).length, .sl 284 0 (E ++ [Ev.mk 2 x.nm x.op 0]).length, .sl 285 0 (fileB (E ++ [Ev.mk 2 x.nm x.op 0])).length]) rfl ?_
 refine hval 1 _ rfl (.fam Z3 ⟨linL (L.set j (sealL x.op x)), [], some (66, 3)⟩) rfl ?_
 refine hval 284 _ rfl (evB (E ++ [Ev.mk 2 x.nm x.op 0])) rfl ?_
 refine hval 285 _ rfl (u8B (fileB (E ++ [Ev.mk 2 x.nm x.op 0]))) rfl ?_
 refine e1 316 rfl <| keep [] rfl <| r1 <| sT 4 316 1 rfl <| e1 324 rfl <| keep [4] rfl <| W_ret ?_
 obtain rfl := hq.symm.trans (sealK_yes (by omega) (by omega) (by omega))
 exact out1 4 (SV.i 0) (π := [0, 1, 2, 3, 284, 285]) (hout := [some (.cells 49 3 [.sl 1 0 (KR.mk 0 (L.set j (sealL x.op x)) (E ++ [Ev.mk 2 x.nm x.op 0])).L.length, .sl 4 0 (KR.mk 0 (L.set j (sealL x.op x)) (E ++ [Ev.mk 2 x.nm x.op 0])).E.length, .sl 5 0 (fileB (KR.mk 0 (L.set j (sealL x.op x)) (E ++ [Ev.mk 2 x.nm x.op 0])).E).length]), some (.fam Z3 ⟨linL (KR.mk 0 (L.set j (sealL x.op x)) (E ++ [Ev.mk 2 x.nm x.op 0])).L, [], some (66, 3)⟩), none, none, some (evB (KR.mk 0 (L.set j (sealL x.op x)) (E ++ [Ev.mk 2 x.nm x.op 0])).E), some (u8B (fileB (KR.mk 0 (L.set j (sealL x.op x)) (E ++ [Ev.mk 2 x.nm x.op 0])).E))]) Tryd.results20 rfl rfl rfl rfl ⟨rfl, rfl, rfl, rfl, trivial⟩ ⟨Z3, rfl, rfl⟩
end Go.Proofs.YtalhangpahffeaaDoor.Nice
