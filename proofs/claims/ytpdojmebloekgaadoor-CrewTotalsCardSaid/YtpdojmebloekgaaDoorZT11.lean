/- Part 11 of the proof of CrewTotals: CrewR4, RollJ, CrewR6, CrewR7, CrewTotalsLaw, Leav. -/
import Derived.Test.YtpdojmebloekgaaDoorZT10
import Derived.Test.YtpdojmebloekgaaDoorProg
import Derived.Conc.LeavingOf
import Derived.Deep.DeepHandedRow
import Derived.SevenTiedAt
namespace Go.Proofs.YtpdojmebloekgaaDoor.Nice.Co
open Go
set_option linter.unusedVariables false
set_option linter.unusedSimpArgs false
set_option maxRecDepth 100000
theorem ansR_form (L : List (List Int)) : (∃ c, rolAns L = .tup [.d .nils, SV.i c]) ∨ ∃ n f c, rolAns L = .tup [.d (.vec 4 n f), SV.i c] := by
 unfold rolAns
 split
 · exact .inl ⟨_, rfl⟩
 · split
   · exact .inr ⟨_, _, _, rfl⟩
   · exact .inl ⟨_, rfl⟩
section
variable {Pst : Value → World → Prop} {s : Aside} {hX : ∀ b, s.O b ≠ none → s.X b}
theorem each17_any (L : List (List Int)) (hin : ∀ l, l ∈ L → Bytes l) (Rd : Blks) : SpecX Tryd.prog GC 17 [listR L, .fn 18 []] (frX s hX (trPre Tryd.prog Pst Rd .p0)) (postR s hX L Pst) := by
 refine fnx_intro Tryd.func17 rfl rfl ?_
 by_cases hL : L.length ≤ 100
 · exact each17_a L hL hin Rd fun Wg Ch Rd' π σ hs => each17_b L hL hin Wg Ch Rd' hs
 · refine x1 ?_
   refine sT 3 0 1 rfl <| sT 4 8 2 rfl <| sT 5 16 3 rfl <| e1 24 rfl ?_
   refine WX_seq ?_
   refine x1 ?_
   refine sT 15 24 1 rfl <| sT 16 32 2 rfl <| sT 17 40 3 rfl <| e1 48 rfl ?_
   refine WX_cond rfl (fun hc => ?_) fun hc => ?_
   · refine x1 ?_
     refine sT 4 48 1 rfl <| sT 5 56 2 rfl <| e1 64 rfl ?_
     refine WX_ret ?_
     refine xtr ?_
     exact outX2 4 5 Tryd.results17 rfl rfl (free_data rfl) (free_data rfl) ⟨(ansR_size (by omega)).symm, _, rfl, ends_pre⟩
   · exfalso
     simp at hc; omega
theorem rolls_any (L : List (List Int)) (hin : ∀ l, l ∈ L → Bytes l) (Rd : Blks) : SpecX Tryd.prog GC 9 [listR L] (frX s hX (trPre Tryd.prog Pst Rd .p0)) (postR s hX L Pst) := by
 refine fnx_intro Tryd.func9 rfl rfl ?_
 refine x1 ?_
 refine sT 2 0 1 rfl <| sT 3 8 2 rfl <| e1 16 rfl ?_
 refine xX1 ?_
 refine RX_ops PZ.up [_] 0 _ (fun j hj => by simp at hj; subst hj; rfl) ?_
 refine sT 4 16 1 rfl <| e1 64 rfl ?_
 refine RX_call PZ.up rfl rfl rfl rfl Tryd.func17 rfl (each17_any L hin Rd) rfl ?_ (fun n => rfl) rfl ?_
 · intro y hy
   simp at hy
   rcases hy with rfl | rfl
   · exact free_data rfl
   · exact free_fn
 rintro K' r ⟨rfl, hE⟩
 rcases ansR_form L with ⟨c, e⟩ | ⟨n, f, c, e⟩
 · rw [e]
   refine RX_ops PZ.up [_, _, _, _] 2 _ (fun j hj => by simp at hj; match j, hj with | 0, _ => rfl | 1, _ => rfl | 2, _ => rfl | 3, _ => rfl) ?_
   refine sT 6 32 3 rfl <| sT 7 40 4 rfl <| sT 2 48 5 rfl <| sT 3 56 6 rfl <| e1 64 rfl ?_
   refine RX_end rfl rfl ?_
   refine xtn ?_
   refine WX_ret ?_
   exact outX2 2 3 Tryd.results9 rfl rfl (free_data rfl) (free_data rfl) ⟨e.symm, hE⟩
 · rw [e]
   refine RX_ops PZ.up [_, _, _, _] 2 _ (fun j hj => by simp at hj; match j, hj with | 0, _ => rfl | 1, _ => rfl | 2, _ => rfl | 3, _ => rfl) ?_
   refine sT 6 32 3 rfl <| sT 7 40 4 rfl <| sT 2 48 5 rfl <| sT 3 56 6 rfl <| e1 64 rfl ?_
   refine RX_end rfl rfl ?_
   refine xtn ?_
   refine WX_ret ?_
   exact outX2 2 3 Tryd.results9 rfl rfl (free_data rfl) (free_data rfl) ⟨e.symm, hE⟩
end
theorem decoded_ok (l : List Int) (hl : Bytes l) (hE : decE l = 0) : Spec Tryd.prog GC 21 [u8V l] [] (fun r ho => r = SV.tup [smpV (decM l), SV.i 0] ∧ ho = []) := (decoded_any l hl).mono fun r ho h => by
 rcases h with ⟨_, h1, h2⟩ | ⟨h, _⟩
 · exact ⟨h1, h2⟩
 · exact absurd hE h
theorem decoded_bad (l : List Int) (hl : Bytes l) (hE : decE l ≠ 0) : Spec Tryd.prog GC 21 [u8V l] [] (fun r ho => r = SV.tup [.d .nils, SV.i (decE l)] ∧ ho = []) := (decoded_any l hl).mono fun r ho h => by
 rcases h with ⟨h, _⟩ | ⟨_, h1, h2⟩
 · exact absurd h hE
 · exact ⟨h1, h2⟩
theorem rR_ok {l : List Int} (h : decE l = 0) : rR l = ofR (decM l) := by unfold rR; rw [if_pos h]
theorem refOf_dec (l : List Int) (hE : decE l = 0) : Spec Tryd.prog GC 22 [smpV (decM l)] [] (fun r ho => r = SV.tup [rollS (rR l), SV.i 0] ∧ ho = []) := by
 have h := refRollOf_any (decM l) (decM_good hE).2.1
 rw [(decM_good hE).1, ← rR_ok hE] at h
 exact h
theorem refRol_size (L : List (List Int)) (hL : 100 < L.length) : Spec Tryd.prog GC 10 [listR L] [] (fun r ho => r = SV.tup [.d .nils, SV.i 1] ∧ ho = []) := by
 refine start 39 0 Tryd.func10 rfl rfl rfl rfl ?_
 refine r1 <| sT 2 0 1 rfl <| sT 3 8 2 rfl <| e1 16 rfl <| keep [0] rfl <| W_seq <| r1 <| sT 11 16 1 rfl <| sO 12 24 2 rfl <| sO 13 32 3 rfl <| e1 40 rfl <| keep [0, 13] rfl ?_
 refine q1 rfl (fun hc1 => ?_) (fun hc1 => ?_)
 try simp only [cs, ne_eq] at hc1
 refine r1 <| sT 2 40 1 rfl <| sT 3 48 2 rfl <| e1 56 rfl <| keep [2, 3] rfl <| W_ret <| tr ?_
 exact out2 2 3 (.d .nils) (SV.i 1) (π := []) (hout := []) Tryd.results10 rfl rfl rfl rfl rfl rfl trivial ⟨rfl, rfl⟩
 exfalso; simp at hc1; omega
theorem refRol_all (L : List (List Int)) (hin : ∀ l, l ∈ L → Bytes l) (hL : L.length ≤ 100) : Spec Tryd.prog GC 10 [listR L] [] (fun r ho => (firstR L = 0 ∧ r = SV.tup [.sl 0 0 L.length, SV.i 0] ∧ ho = [some (.rows 33 4 L.length (fun i c => whatR L i c))]) ∨ (firstR L ≠ 0 ∧ r = SV.tup [.d .nils, SV.i (firstR L)] ∧ ho = [])) := by
 refine start 39 0 Tryd.func10 rfl rfl rfl rfl ?_
 refine r1 <| sT 2 0 1 rfl <| sT 3 8 2 rfl <| e1 16 rfl <| keep [0] rfl <| W_seq <| r1 <| sT 11 16 1 rfl <| sO 12 24 2 rfl <| sO 13 32 3 rfl <| e1 40 rfl <| keep [0, 13] rfl ?_
 refine q1 rfl (fun hc1 => ?_) (fun hc1 => ?_)
 exfalso; simp at hc1; omega
 try simp only [cs, ne_eq] at hc1
 refine W_skip <| tn <| r1 <| sT 4 40 1 rfl <| e1 48 rfl <| keep [0, 4] rfl <| W_seq <| r1 <| sT 14 48 1 rfl <| sO 15 56 2 rfl <| sT 16 64 3 rfl <| e1 72 rfl <| keep [4, 14, 15, 16] rfl <| W_block ?_
 refine ghostly 4 33 4 (fun i c => whatR L i c) rfl ?_
 refine loop (α := Nat) 1 (fun n => [(4, .sl 0 0 (n)), (14, listR L), (15, SV.i L.length), (16, SV.i (n))]) (fun n => [some (.rows 33 4 (n) (fun i c => whatR L i c))]) (fun n => (n) ≤ L.length ∧ faultsR L (n) = 0) (fun n => L.length - (n)) (((0) : Nat)) [72] (fun _ => rfl) (show (0) ≤ L.length ∧ faultsR L (0) = 0 from ⟨Nat.zero_le _, rfl⟩) rfl ⟨rfl, rfl, rfl, rfl, trivial⟩ ⟨rfl, trivial⟩ (fun n hx => ?_)
 show W _ _ _ ⟨tOf [(4, .sl 0 0 n), (14, listR L), (15, SV.i L.length), (16, SV.i n)], hOf [some (.rows 33 4 n (fun i c => whatR L i c))], 1⟩
 have hx : n ≤ L.length ∧ faultsR L n = 0 := hx
 obtain ⟨hn, hno⟩ := hx
 by_cases hz : decE (L.getD n []) = 0
 · skip
   refine r1 <| sO 17 1 1 rfl <| e1 9 rfl <| keep [4, 14, 15, 16, 17] rfl <| W_seq ?_
   refine q1 rfl (fun hc5 => ?_) (fun hc5 => ?_)
   · skip
     try simp only [cs, ne_eq] at hc5
     refine W_skip <| tn <| W_seq <| W_block <| r1 <| sO 18 9 1 rfl <| sO 19 17 2 rfl ?_
     refine val 19 (u8V (L.getD n [])) rfl (by simp only [Int.toNat_natCast, Nat.zero_add]; rfl) ?_
     refine sT 6 25 3 rfl <| e1 33 rfl <| keep [4, 6, 14, 15, 16] rfl <| r1 <| sT 21 33 1 rfl ?_
     refine c1 (decoded_ok (L.getD n []) (hin _ (mem_at [] (by omega))) hz) [] [] 22 41 2 rfl rfl rfl rfl rfl rfl rfl rfl Tryd.func21 rfl rfl rfl rfl trivial rfl rfl ?_
     refine sT 20 49 3 rfl <| sT 23 57 4 rfl <| sT 24 65 5 rfl <| sT 7 73 6 rfl <| sT 8 81 7 rfl <| e1 89 rfl <| keep [4, 7, 8, 14, 15, 16] rfl <| W_seq <| r1 <| sT 25 89 1 rfl <| sO 26 97 2 rfl <| e1 105 rfl <| keep [4, 7, 8, 14, 15, 16, 26] rfl ?_
     refine q1 rfl (fun hc8 => ?_) (fun hc8 => ?_)
     exact absurd hc8 (by decide)
     try simp only [cs, ne_eq] at hc8
     refine W_skip <| tn <| r1 <| sT 29 105 1 rfl ?_
     refine c1 (refOf_dec (L.getD n []) hz) [] [] 30 113 2 rfl rfl rfl rfl rfl rfl rfl rfl Tryd.func22 rfl rfl rfl rfl trivial rfl rfl ?_
     refine sT 28 121 3 rfl <| sT 31 129 4 rfl <| sT 32 137 5 rfl <| sT 9 145 6 rfl <| s0O 153 7 rfl rfl rfl rfl rfl <| sT 10 161 8 rfl <| e1 169 rfl <| keep [4, 9, 14, 15, 16] rfl ?_
     refine r0 ?_
     refine sT 33 169 1 rfl <| sO 34 177 2 rfl ?_
     refine sLit 4 (fun _ c => rollAt (rR (L.getD n [])) c) 35 185 3 rfl rfl rfl rfl rfl rfl rfl rfl rfl (by intro i c hi hc; obtain rfl : i = 0 := (by omega); rcases (show c = 0 ∨ c = 1 ∨ c = 2 ∨ c = 3 by omega) with rfl | rfl | rfl | rfl <;> rfl) ?_
     refine sV 36 193 4 rfl ⟨Nat.le_refl _, (by omega), (by show (n + 1) * 32 ≤ 140737488355328; omega), (by simp only [maxLen]; omega)⟩ ?_
     refine sT 4 201 5 rfl <| e1 209 rfl <| bn <| tn ?_
     refine rowsc 193 (n + 1) (fun i c => whatR L i c) rfl rfl (fun i c hi hc => by show catR (fun i c => whatR L i c) n _ i c = _; unfold catR; by_cases e : i < n; (rw [if_pos e]); (rw [if_neg e]; obtain rfl : i = n := (by omega); rfl)) ?_
     refine r0 ?_
     refine sAO 37 209 1 rfl <| sT 16 217 2 rfl <| e1 225 rfl <| tn ?_
     exact again ((n + 1 : Nat)) [193] (show (n + 1) ≤ L.length ∧ faultsR L (n + 1) = 0 from ⟨by omega, faultsR_step hno hz⟩) (show L.length - (n + 1) < L.length - n from (by omega)) rfl ⟨rfl, rfl, rfl, rfl, trivial⟩ ⟨rfl, trivial⟩
   try simp only [cs, ne_eq] at hc5
   refine W_exit <| tx <| tx <| bx <| tn ?_
   obtain rfl : n = L.length := (by omega)
   refine r1 <| sT 38 9 1 rfl <| sT 2 17 2 rfl <| sT 3 25 3 rfl <| e1 33 rfl <| keep [2, 3] rfl <| W_ret ?_
   exact out2 2 3 (.sl 0 0 L.length) (SV.i 0) (π := [0]) (hout := [some (.rows 33 4 L.length (fun i c => whatR L i c))]) Tryd.results10 rfl rfl rfl rfl rfl rfl ⟨rfl, trivial⟩ (.inl ⟨hno, rfl, rfl⟩)
 refine r1 <| sO 17 1 1 rfl <| e1 9 rfl <| keep [4, 14, 15, 16, 17] rfl <| W_seq ?_
 refine q1 rfl (fun hc5 => ?_) (fun hc5 => ?_)
 try simp only [cs, ne_eq] at hc5
 refine W_skip <| tn <| W_seq <| W_block <| r1 <| sO 18 9 1 rfl <| sO 19 17 2 rfl ?_
 refine val 19 (u8V (L.getD n [])) rfl (by simp only [Int.toNat_natCast, Nat.zero_add]; rfl) ?_
 refine sT 6 25 3 rfl <| e1 33 rfl <| keep [4, 6, 14, 15, 16] rfl <| r1 <| sT 21 33 1 rfl ?_
 refine c1 (decoded_bad (L.getD n []) (hin _ (mem_at [] (by omega))) hz) [] [] 22 41 2 rfl rfl rfl rfl rfl rfl rfl rfl Tryd.func21 rfl rfl rfl rfl trivial rfl rfl ?_
 refine sT 20 49 3 rfl <| sT 23 57 4 rfl <| sT 24 65 5 rfl <| sT 7 73 6 rfl <| sT 8 81 7 rfl <| e1 89 rfl <| keep [4, 7, 8, 14, 15, 16] rfl <| W_seq <| r1 <| sT 25 89 1 rfl <| sO 26 97 2 rfl <| e1 105 rfl <| keep [4, 7, 8, 14, 15, 16, 26] rfl ?_
 refine q1 rfl (fun hc8 => ?_) (fun hc8 => ?_)
 try simp only [cs, ne_eq] at hc8
 refine r1 <| sT 27 105 1 rfl <| sT 2 113 2 rfl <| sT 3 121 3 rfl <| e1 129 rfl <| keep [2, 3] rfl <| W_ret <| tr <| br <| tr <| tr <| br <| tr ?_
 exact out2 2 3 (.d .nils) (SV.i (decE (L.getD n []))) (π := []) (hout := []) Tryd.results10 rfl rfl rfl rfl rfl rfl trivial (.inr (by have h := faultsR_at (L := L) (k := n) (n := L.length) (by omega) hno hz; exact ⟨by unfold firstR; rw [h]; exact hz, by unfold firstR; rw [h], rfl⟩))
 exfalso; simp at hc8; exact hz hc8
 try simp only [cs, ne_eq] at hc5
 refine W_exit <| tx <| tx <| bx <| tn ?_
 obtain rfl : n = L.length := (by omega)
 refine r1 <| sT 38 9 1 rfl <| sT 2 17 2 rfl <| sT 3 25 3 rfl <| e1 33 rfl <| keep [2, 3] rfl <| W_ret ?_
 exact out2 2 3 (.sl 0 0 L.length) (SV.i 0) (π := [0]) (hout := [some (.rows 33 4 L.length (fun i c => whatR L i c))]) Tryd.results10 rfl rfl rfl rfl rfl rfl ⟨rfl, trivial⟩ (.inl ⟨hno, rfl, rfl⟩)
theorem refRol_ok (L : List (List Int)) (hin : ∀ l, l ∈ L → Bytes l) (hL : L.length ≤ 100) (h0 : firstR L = 0) : Spec Tryd.prog GC 10 [listR L] [] (fun r ho => r = SV.tup [.sl 0 0 L.length, SV.i 0] ∧ ho = [some (.rows 33 4 L.length (fun i c => whatR L i c))]) :=
 (refRol_all L hin hL).mono fun r ho h => by
   rcases h with ⟨_, a, b⟩ | ⟨h, _⟩
   · exact ⟨a, b⟩
   · exact absurd h0 h
theorem refRol_bad (L : List (List Int)) (hin : ∀ l, l ∈ L → Bytes l) (hL : L.length ≤ 100) (h0 : firstR L ≠ 0) : Spec Tryd.prog GC 10 [listR L] [] (fun r ho => r = SV.tup [.d .nils, SV.i (firstR L)] ∧ ho = []) :=
 (refRol_all L hin hL).mono fun r ho h => by
   rcases h with ⟨h, _⟩ | ⟨_, a, b⟩
   · exact absurd h h0
   · exact ⟨a, b⟩
end Go.Proofs.YtpdojmebloekgaaDoor.Nice.Co
namespace Go.Proofs.YtpdojmebloekgaaDoor.Nice.Co.J
open Go
set_option linter.unusedVariables false
set_option linter.unusedSimpArgs false
set_option maxRecDepth 100000
def G0 : Nat → SV := fun _ => .any
structure Roll where
 c : Int
 lo : Int
 hi : Int
 s : Int
 deriving DecidableEq
def rollS (r : Roll) : SV := .agg [SV.i r.c, SV.i r.lo, SV.i r.hi, SV.i r.s]
def Roll.ok (r : Roll) : Prop := inRange r.c ∧ inRange r.lo ∧ inRange r.hi ∧ inRange r.s
def inB (n : Int) : Bool := decide (-2305843009213693952 ≤ n) && decide (n < 2305843009213693952)
def mayB (r : Roll) : Bool := (decide (r.c = 0) && (decide (r.lo = 0) && (decide (r.hi = 0) && decide (r.s = 0)))) || (decide (0 < r.c) && (decide (r.c ≤ 1048576) && (decide (r.lo ≤ r.hi) && (inB r.lo && (inB r.hi && inB r.s)))))
def joined (a b : Roll) : Roll := if a.c = 0 then b else if b.c = 0 then a else ⟨a.c + b.c, if b.lo < a.lo then b.lo else a.lo, if a.hi < b.hi then b.hi else a.hi, a.s + b.s⟩
def join (a b : Roll) : Roll × Int := if mayB a = true ∧ mayB b = true then (if mayB (joined a b) = true then (joined a b, 0) else (⟨0, 0, 0, 0⟩, 11)) else (⟨0, 0, 0, 0⟩, 4)
theorem join_form {a b : Roll} (h : ¬ (mayB a = true ∧ mayB b = true)) : join a b = (⟨0, 0, 0, 0⟩, 4) := by unfold join; rw [if_neg h]
theorem join_over {a b : Roll} (h : mayB a = true) (h1 : mayB b = true) (h2 : mayB (joined a b) = false) : join a b = (⟨0, 0, 0, 0⟩, 11) := by unfold join; rw [if_pos ⟨h, h1⟩, if_neg (by rw [h2]; decide)]
theorem join_ok {a b : Roll} (h : mayB a = true) (h1 : mayB b = true) (h2 : mayB (joined a b) = true) : join a b = (joined a b, 0) := by unfold join; rw [if_pos ⟨h, h1⟩, if_pos h2]
theorem may_out {r : Roll} (h : mayB r = true) : (r.c = 0 ∧ r.lo = 0 ∧ r.hi = 0 ∧ r.s = 0) ∨ (0 < r.c ∧ r.c ≤ 1048576 ∧ r.lo ≤ r.hi ∧ -2305843009213693952 ≤ r.lo ∧ r.hi < 2305843009213693952 ∧ -2305843009213693952 ≤ r.s ∧ r.s < 2305843009213693952) := by
 simp [mayB, inB] at h
 omega
def at3 (a b d : Int) : Nat → Int
 | 0 => a
 | 1 => b
 | _ => d
def tri (a b d : Int) : Nat → Nat → D := fun i _ => .val (.int .i64 (at3 a b d i))
theorem all3 {a b d : Int} (h : ∀ j, j < 3 → inB (at3 a b d j) = true) : inB a = true ∧ inB b = true ∧ inB d = true := ⟨h 0 (by omega), h 1 (by omega), h 2 (by omega)⟩
theorem not3 {a b d : Int} {n : Nat} (hn : n < 3) (h : inB (at3 a b d n) = false) : (inB a && (inB b && inB d)) = false := by
 match n, hn with
 | 0, _ => have h : inB a = false := h; rw [h]; rfl
 | 1, _ => have h : inB b = false := h; rw [h]; simp
 | 2, _ => have h : inB d = false := h; rw [h]; simp
theorem within_any (a b d : Int) : Spec Tryd.prog G0 82 [.sl 0 0 3] [.cells 3 1 [SV.i a, SV.i b, SV.i d]] (fun r ho => r = SV.b (inB a && (inB b && inB d)) ∧ ho = [none]) := by
 refine start 18 1 Tryd.func82 rfl rfl rfl rfl ?_
 refine torows 0 3 (tri a b d) rfl (by decide) (Nat.le_refl _) (fun i c hi hc => by have hc1 : c < 1 := hc; obtain rfl : c = 0 := (by omega); match i, hi with | 0, _ => rfl | 1, _ => rfl | 2, _ => rfl) ?_
 refine freeze 0 0 3 rfl rfl (Nat.le_refl _) ?_
 refine r1 <| sT 2 1 1 rfl <| e1 9 rfl <| keep [0] rfl <| W_seq <| r1 <| sT 5 9 1 rfl <| sO 6 17 2 rfl <| sT 7 25 3 rfl <| e1 33 rfl <| keep [5, 6, 7] rfl <| W_block ?_
 refine loop (α := Nat) 1 (fun n => [(5, .d (.vec 1 3 (tri a b d))), (6, SV.i 3), (7, SV.i n)]) (fun n => [none]) (fun n => n ≤ 3 ∧ ∀ j, j < n → inB (at3 a b d j) = true) (fun n => 3 - n) (0) [0] (fun _ => rfl) ⟨Nat.zero_le _, fun j hj => by omega⟩ rfl ⟨rfl, rfl, rfl, trivial⟩ trivial (fun n hx => ?_)
 obtain ⟨hn, hno⟩ := hx
 refine r1 <| sO 8 1 1 rfl <| e1 9 rfl <| keep [5, 6, 7, 8] rfl <| W_seq ?_
 refine q1 rfl (fun hc2 => ?_) (fun hc2 => ?_)
 try simp only [cs, ne_eq] at hc2
 refine W_skip <| tn <| W_seq <| W_block <| r1 <| sO 9 9 1 rfl <| sO 10 17 2 rfl <| sT 4 25 3 rfl <| e1 33 rfl <| keep [4, 5, 6, 7] rfl <| r1 <| sT 11 33 1 rfl <| sO 12 41 2 rfl <| sT 13 49 3 rfl ?_
 refine ask 13 rfl (fun hg4_13 => ?_) (fun hg4_13 => ?_)
 try simp only [cs, ne_eq] at hg4_13
 refine gF 2 false 13 14 4 rfl rfl <| gF 2 false 13 15 5 rfl rfl <| sT 16 73 6 rfl <| e1 81 rfl <| keep [5, 6, 7, 16] rfl ?_
 refine q1 rfl (fun hc4 => ?_) (fun hc4 => ?_)
 try simp only [cs, ne_eq] at hc4
 refine r1 <| sT 2 81 1 rfl <| e1 89 rfl <| keep [2] rfl <| W_ret <| br <| tr <| tr <| br <| tr ?_
 exact out1 2 (SV.b (inB a && (inB b && inB d))) (π := [0]) (hout := [none]) Tryd.results82 rfl (by rw [not3 (n := n) (by omega) (by simp only [Int.toNat_natCast] at *; simp [inB]; omega)]; rfl) rfl rfl trivial ⟨rfl, rfl⟩
 exact absurd hc4 (by decide)
 try simp only [cs, ne_eq] at hg4_13
 refine gT 2 false 13 4 rfl rfl <| sT 14 57 4 rfl <| gT 2 false 13 5 rfl rfl <| sO 15 65 5 rfl <| sT 16 73 6 rfl <| e1 81 rfl <| keep [5, 6, 7, 16] rfl ?_
 refine q1 rfl (fun hc4 => ?_) (fun hc4 => ?_)
 try simp only [cs, ne_eq] at hc4
 refine r1 <| sT 2 81 1 rfl <| e1 89 rfl <| keep [2] rfl <| W_ret <| br <| tr <| tr <| br <| tr ?_
 exact out1 2 (SV.b (inB a && (inB b && inB d))) (π := [0]) (hout := [none]) Tryd.results82 rfl (by rw [not3 (n := n) (by omega) (by simp only [Int.toNat_natCast] at *; simp [inB]; omega)]; rfl) rfl rfl trivial ⟨rfl, rfl⟩
 try simp only [cs, ne_eq] at hc4
 refine W_skip <| bn <| tn ?_
 refine r0 ?_
 refine sAO 17 81 1 rfl <| sT 7 89 2 rfl <| e1 97 rfl <| tn ?_
 exact again (n + 1) [0] ⟨by omega, fun j hj => by by_cases e : j = n; (subst e; clear hno; simp only [Int.toNat_natCast] at *; simp [inB]; omega); exact hno j (by omega)⟩ (by omega) rfl ⟨rfl, rfl, rfl, trivial⟩ trivial
 try simp only [cs, ne_eq] at hc2
 refine W_exit <| tx <| tx <| bx <| tn <| r1 <| sT 2 9 1 rfl <| e1 17 rfl <| keep [2] rfl <| W_ret ?_
 exact out1 2 (SV.b (inB a && (inB b && inB d))) (π := [0]) (hout := [none]) Tryd.results82 rfl (by obtain ⟨h1, h2, h3⟩ := all3 (fun j hj => hno j (by omega)); rw [h1, h2, h3]; rfl) rfl rfl trivial ⟨rfl, rfl⟩
theorem may_any (q : Roll) : Spec Tryd.prog G0 53 [rollS q] [] (fun r ho => r = SV.b (mayB q) ∧ ho = []) := by
 refine start 34 0 Tryd.func53 rfl rfl rfl rfl ?_
 refine r1 <| sT 1 0 1 rfl <| sT 2 8 2 rfl <| e1 16 rfl <| keep [1] rfl <| W_seq <| r1 <| sT 3 16 1 rfl <| sO 4 24 2 rfl <| sO 5 32 3 rfl <| e1 40 rfl <| keep [1, 5] rfl ?_
 refine q1 rfl (fun hc1 => ?_) (fun hc1 => ?_)
 · skip
   try simp only [cs, ne_eq] at hc1
   refine r1 <| sO 6 40 1 rfl <| sT 7 48 2 rfl ?_
   refine sEq (op := .eql) 8 56 3 rfl rfl rfl rfl rfl rfl rfl rfl rfl (by kernel_rfl) (by kernel_rfl) rfl (.inl ⟨rfl, rfl⟩) ?_
   refine sT 2 64 4 rfl <| e1 72 rfl <| keep [2] rfl <| W_ret <| tr ?_
   exact out1 2 (SV.b (mayB q)) (π := []) (hout := []) Tryd.results53 rfl (by show SV.b _ = SV.b _; refine congrArg SV.b (Bool.eq_iff_iff.2 ?_); cases h1 : inB q.lo <;> cases h2 : inB q.hi <;> cases h3 : inB q.s <;> simp [mayB, h1, h2, h3] at * <;> omega) rfl rfl trivial ⟨rfl, rfl⟩
 try simp only [cs, ne_eq] at hc1
 refine W_skip <| tn <| r1 <| sT 9 40 1 rfl <| sO 10 48 2 rfl <| sO 11 56 3 rfl <| sT 12 64 4 rfl ?_
 refine ask 12 rfl (fun hg3_12 => ?_) (fun hg3_12 => ?_)
 · skip
   try simp only [cs, ne_eq] at hg3_12
   refine gT 3 true 12 5 rfl rfl <| sT 13 72 5 rfl <| gT 3 true 12 6 rfl rfl <| sO 14 80 6 rfl <| gT 3 true 12 7 rfl rfl <| sO 15 88 7 rfl <| sT 16 96 8 rfl <| sT 17 104 9 rfl ?_
   refine ask 17 rfl (fun hg3_17 => ?_) (fun hg3_17 => ?_)
   · skip
     try simp only [cs, ne_eq] at hg3_17
     refine gT 8 true 17 10 rfl rfl <| sT 18 112 10 rfl <| gT 8 true 17 11 rfl rfl <| sO 19 120 11 rfl <| gT 8 true 17 12 rfl rfl <| sT 20 128 12 rfl <| gT 8 true 17 13 rfl rfl <| sO 21 136 13 rfl <| gT 8 true 17 14 rfl rfl <| sO 22 144 14 rfl <| sT 23 152 15 rfl <| sT 24 160 16 rfl ?_
     refine ask 24 rfl (fun hg3_24 => ?_) (fun hg3_24 => ?_)
     · skip
       try simp only [cs, ne_eq] at hg3_24
       refine gT 15 true 24 17 rfl rfl <| sT 25 168 17 rfl <| gT 15 true 24 18 rfl rfl <| sO 26 176 18 rfl <| gT 15 true 24 19 rfl rfl <| sT 27 184 19 rfl <| gT 15 true 24 20 rfl rfl <| sO 28 192 20 rfl <| gT 15 true 24 21 rfl rfl <| sT 29 200 21 rfl <| gT 15 true 24 22 rfl rfl <| sO 30 208 22 rfl <| gT 15 true 24 23 rfl rfl <| sT 31 216 23 rfl <| gT 15 true 24 24 rfl rfl ?_
       refine c1 (within_any q.lo q.hi q.s) [216] [216] 32 224 24 rfl rfl rfl rfl rfl rfl rfl rfl Tryd.func82 rfl rfl rfl rfl ⟨rfl, trivial⟩ rfl rfl ?_
       refine sT 33 232 25 rfl <| sT 2 240 26 rfl <| e1 248 rfl <| keep [2] rfl <| W_ret ?_
       exact out1 2 (SV.b (mayB q)) (π := []) (hout := []) Tryd.results53 rfl (by show SV.b _ = SV.b _; refine congrArg SV.b (Bool.eq_iff_iff.2 ?_); cases h1 : inB q.lo <;> cases h2 : inB q.hi <;> cases h3 : inB q.s <;> simp [mayB, h1, h2, h3] at * <;> omega) rfl rfl trivial ⟨rfl, rfl⟩
     try simp only [cs, ne_eq] at hg3_24
     refine gF 15 true 24 25 17 rfl rfl <| gF 15 true 24 26 18 rfl rfl <| gF 15 true 24 27 19 rfl rfl <| gF 15 true 24 28 20 rfl rfl <| gF 15 true 24 29 21 rfl rfl <| gF 15 true 24 30 22 rfl rfl <| gF 15 true 24 31 23 rfl rfl <| gF 15 true 24 32 24 rfl rfl <| sT 33 232 25 rfl <| sT 2 240 26 rfl <| e1 248 rfl <| keep [2] rfl <| W_ret ?_
     exact out1 2 (SV.b (mayB q)) (π := []) (hout := []) Tryd.results53 rfl (by show SV.b _ = SV.b _; refine congrArg SV.b (Bool.eq_iff_iff.2 ?_); cases h1 : inB q.lo <;> cases h2 : inB q.hi <;> cases h3 : inB q.s <;> simp [mayB, h1, h2, h3] at * <;> omega) rfl rfl trivial ⟨rfl, rfl⟩
   try simp only [cs, ne_eq] at hg3_17
   refine gF 8 true 17 18 10 rfl rfl <| gF 8 true 17 19 11 rfl rfl <| gF 8 true 17 20 12 rfl rfl <| gF 8 true 17 21 13 rfl rfl <| gF 8 true 17 22 14 rfl rfl <| sT 23 152 15 rfl <| sT 24 160 16 rfl <| gF 15 true 24 25 17 rfl rfl <| gF 15 true 24 26 18 rfl rfl <| gF 15 true 24 27 19 rfl rfl <| gF 15 true 24 28 20 rfl rfl <| gF 15 true 24 29 21 rfl rfl <| gF 15 true 24 30 22 rfl rfl <| gF 15 true 24 31 23 rfl rfl <| gF 15 true 24 32 24 rfl rfl <| sT 33 232 25 rfl ?_
   refine sT 2 240 26 rfl <| e1 248 rfl <| keep [2] rfl <| W_ret ?_
   exact out1 2 (SV.b (mayB q)) (π := []) (hout := []) Tryd.results53 rfl (by show SV.b _ = SV.b _; refine congrArg SV.b (Bool.eq_iff_iff.2 ?_); cases h1 : inB q.lo <;> cases h2 : inB q.hi <;> cases h3 : inB q.s <;> simp [mayB, h1, h2, h3] at * <;> omega) rfl rfl trivial ⟨rfl, rfl⟩
 try simp only [cs, ne_eq] at hg3_12
 refine gF 3 true 12 13 5 rfl rfl <| gF 3 true 12 14 6 rfl rfl <| gF 3 true 12 15 7 rfl rfl <| sT 16 96 8 rfl <| sT 17 104 9 rfl <| gF 8 true 17 18 10 rfl rfl <| gF 8 true 17 19 11 rfl rfl <| gF 8 true 17 20 12 rfl rfl <| gF 8 true 17 21 13 rfl rfl <| gF 8 true 17 22 14 rfl rfl <| sT 23 152 15 rfl <| sT 24 160 16 rfl <| gF 15 true 24 25 17 rfl rfl <| gF 15 true 24 26 18 rfl rfl <| gF 15 true 24 27 19 rfl rfl <| gF 15 true 24 28 20 rfl rfl ?_
 refine gF 15 true 24 29 21 rfl rfl <| gF 15 true 24 30 22 rfl rfl <| gF 15 true 24 31 23 rfl rfl <| gF 15 true 24 32 24 rfl rfl <| sT 33 232 25 rfl <| sT 2 240 26 rfl <| e1 248 rfl <| keep [2] rfl <| W_ret ?_
 exact out1 2 (SV.b (mayB q)) (π := []) (hout := []) Tryd.results53 rfl (by show SV.b _ = SV.b _; refine congrArg SV.b (Bool.eq_iff_iff.2 ?_); cases h1 : inB q.lo <;> cases h2 : inB q.hi <;> cases h3 : inB q.s <;> simp [mayB, h1, h2, h3] at * <;> omega) rfl rfl trivial ⟨rfl, rfl⟩
theorem joined_any (a b : Roll) (ha : mayB a = true) (hb : mayB b = true) : Spec Tryd.prog G0 54 [rollS a, rollS b] [] (fun r ho => r = rollS (joined a b) ∧ ho = []) := by
 refine start 36 0 Tryd.func54 rfl rfl rfl rfl ?_
 refine r1 <| sT 2 0 1 rfl <| sT 3 8 2 rfl <| sT 4 16 3 rfl <| e1 24 rfl <| keep [2, 3, 4] rfl <| W_seq <| W_block <| r1 <| sT 6 24 1 rfl <| sO 7 32 2 rfl <| sO 8 40 3 rfl <| sT 5 48 4 rfl <| e1 56 rfl <| keep [2, 3, 4, 5] rfl ?_
 refine q1 rfl (fun hc1 => ?_) (fun hc1 => ?_)
 try simp only [cs, ne_eq] at hc1
 refine r1 <| sO 9 56 1 rfl <| s0O 64 2 rfl rfl rfl rfl rfl <| e1 72 rfl <| keep [4] rfl <| W_ret <| br <| tr ?_
 exact outN (rollS (joined a b)) (π := []) (hout := []) Tryd.results54 rfl (by trivial) (by unfold joined; rw [if_pos hc1]; rfl) rfl rfl trivial ⟨rfl, rfl⟩
 try simp only [cs, ne_eq] at hc1
 refine r1 <| sT 11 56 1 rfl <| sO 12 64 2 rfl <| sO 13 72 3 rfl <| sT 10 80 4 rfl <| e1 88 rfl <| keep [2, 3, 4, 10] rfl ?_
 refine q1 rfl (fun hc3 => ?_) (fun hc3 => ?_)
 try simp only [cs, ne_eq] at hc3
 refine r1 <| sO 14 88 1 rfl <| s0O 96 2 rfl rfl rfl rfl rfl <| e1 104 rfl <| keep [4] rfl <| W_ret <| br <| tr ?_
 exact outN (rollS (joined a b)) (π := []) (hout := []) Tryd.results54 rfl (by trivial) (by unfold joined; rw [if_neg hc1, if_pos hc3]; rfl) rfl rfl trivial ⟨rfl, rfl⟩
 try simp only [cs, ne_eq] at hc3
 refine W_skip <| bn <| tn <| r1 <| sT 15 88 1 rfl <| sO 16 96 2 rfl <| sT 17 104 3 rfl <| sO 18 112 4 rfl ?_
 refine sA 19 120 5 rfl rfl rfl rfl rfl rfl rfl rfl rfl (by have := may_out ha; have := may_out hb; unfold inRange; omega) ?_
 refine sT 20 128 6 rfl <| sO 21 136 7 rfl <| sT 22 144 8 rfl <| sO 23 152 9 rfl <| sT 24 160 10 rfl <| sT 25 168 11 rfl <| sO 26 176 12 rfl <| sT 27 184 13 rfl <| sO 28 192 14 rfl <| sT 29 200 15 rfl <| sT 30 208 16 rfl <| sO 31 216 17 rfl <| sT 32 224 18 rfl <| sO 33 232 19 rfl ?_
 refine sA 34 240 20 rfl rfl rfl rfl rfl rfl rfl rfl rfl (by have := may_out ha; have := may_out hb; unfold inRange; omega) ?_
 refine sT 35 248 21 rfl <| s0O 256 22 rfl rfl rfl rfl rfl <| e1 264 rfl <| keep [4] rfl <| W_ret ?_
 exact outN (rollS (joined a b)) (π := []) (hout := []) Tryd.results54 rfl (by trivial) (by unfold joined; rw [if_neg hc1, if_neg hc3]; rfl) rfl rfl trivial ⟨rfl, rfl⟩
theorem join_any (a b : Roll) : Spec Tryd.prog G0 23 [rollS a, rollS b] [] (fun r ho => r = SV.tup [rollS (join a b).1, SV.i (join a b).2] ∧ ho = []) := by
 refine start 24 0 Tryd.func23 rfl rfl rfl rfl ?_
 refine r1 <| sT 2 0 1 rfl <| sT 3 8 2 rfl <| sT 4 16 3 rfl <| sT 5 24 4 rfl <| e1 32 rfl <| keep [2, 3, 4] rfl <| W_seq <| r1 <| sO 7 32 1 rfl ?_
 refine c1 (may_any a) [] [] 8 40 2 rfl rfl rfl rfl rfl rfl rfl rfl Tryd.func53 rfl rfl rfl rfl trivial rfl rfl ?_
 refine sT 9 48 3 rfl <| sT 10 56 4 rfl ?_
 refine ask 10 rfl (fun hg1_10 => ?_) (fun hg1_10 => ?_)
 try simp only [cs, ne_eq] at hg1_10
 refine gF 3 false 10 11 5 rfl rfl <| gF 3 false 10 12 6 rfl rfl <| gF 3 false 10 13 7 rfl rfl <| sT 14 88 8 rfl <| e1 96 rfl <| keep [2, 3, 4, 14] rfl ?_
 refine q1 rfl (fun hc1 => ?_) (fun hc1 => ?_)
 try simp only [cs, ne_eq] at hc1
 refine r1 <| sT 15 96 1 rfl <| s0O 104 2 rfl rfl rfl rfl rfl <| sT 5 112 3 rfl <| e1 120 rfl <| keep [4, 5] rfl <| W_ret <| tr ?_
 exact outN (SV.tup [rollS (join a b).1, SV.i (join a b).2]) (π := []) (hout := []) Tryd.results23 rfl (by trivial) (by rw [join_form (by simp [*])]; rfl) rfl rfl trivial ⟨rfl, rfl⟩
 exact absurd hc1 (by decide)
 try simp only [cs, ne_eq] at hg1_10
 refine gT 3 false 10 5 rfl rfl <| sO 11 64 5 rfl <| gT 3 false 10 6 rfl rfl ?_
 refine c1 (may_any b) [] [] 12 72 6 rfl rfl rfl rfl rfl rfl rfl rfl Tryd.func53 rfl rfl rfl rfl trivial rfl rfl ?_
 refine gT 3 false 10 7 rfl rfl <| sT 13 80 7 rfl <| sT 14 88 8 rfl <| e1 96 rfl <| keep [2, 3, 4, 14] rfl ?_
 refine q1 rfl (fun hc1 => ?_) (fun hc1 => ?_)
 try simp only [cs, ne_eq] at hc1
 refine r1 <| sT 15 96 1 rfl <| s0O 104 2 rfl rfl rfl rfl rfl <| sT 5 112 3 rfl <| e1 120 rfl <| keep [4, 5] rfl <| W_ret <| tr ?_
 exact outN (SV.tup [rollS (join a b).1, SV.i (join a b).2]) (π := []) (hout := []) Tryd.results23 rfl (by trivial) (by rw [join_form (by simp [*])]; rfl) rfl rfl trivial ⟨rfl, rfl⟩
 try simp only [cs, ne_eq] at hc1
 refine W_skip <| tn <| r1 <| sO 16 96 1 rfl <| sO 17 104 2 rfl ?_
 refine c1 (joined_any a b hg1_10 hc1) [] [] 18 112 3 rfl rfl rfl rfl rfl rfl rfl rfl Tryd.func54 rfl rfl rfl rfl trivial rfl rfl ?_
 refine sT 6 120 4 rfl <| s0O 128 5 rfl rfl rfl rfl rfl <| e1 136 rfl <| keep [4, 6] rfl <| W_seq <| r1 <| sO 19 136 1 rfl ?_
 refine c1 (may_any (joined a b)) [] [] 20 144 2 rfl rfl rfl rfl rfl rfl rfl rfl Tryd.func53 rfl rfl rfl rfl trivial rfl rfl ?_
 refine sT 21 152 3 rfl <| e1 160 rfl <| keep [4, 6, 21] rfl ?_
 refine q1 rfl (fun hc4 => ?_) (fun hc4 => ?_)
 try simp only [cs, ne_eq] at hc4
 refine r1 <| sT 22 160 1 rfl <| s0O 168 2 rfl rfl rfl rfl rfl <| sT 5 176 3 rfl <| e1 184 rfl <| keep [4, 5] rfl <| W_ret <| tr ?_
 exact outN (SV.tup [rollS (join a b).1, SV.i (join a b).2]) (π := []) (hout := []) Tryd.results23 rfl (by trivial) (by rw [join_over hg1_10 hc1 hc4]; rfl) rfl rfl trivial ⟨rfl, rfl⟩
 try simp only [cs, ne_eq] at hc4
 refine W_skip <| tn <| r1 <| sO 23 160 1 rfl <| s0O 168 2 rfl rfl rfl rfl rfl <| sT 5 176 3 rfl <| e1 184 rfl <| keep [4, 5] rfl <| W_ret ?_
 exact outN (SV.tup [rollS (join a b).1, SV.i (join a b).2]) (π := []) (hout := []) Tryd.results23 rfl (by trivial) (by rw [join_ok hg1_10 hc1 hc4]; rfl) rfl rfl trivial ⟨rfl, rfl⟩
def stepR (r : Roll) (n : Nat) (v : Int) : Roll := ⟨r.c + 1, if n = 0 ∨ v < r.lo then v else r.lo, if n = 0 ∨ r.hi < v then v else r.hi, r.s + v⟩
def foldTo (l : List Int) : Nat → Roll
 | 0 => ⟨0, 0, 0, 0⟩
 | n + 1 => stepR (foldTo l n) n (l.getD n 0)
def intsF (l : List Int) : Nat → Nat → D := fun i _ => .val (.int .i64 (l.getD i 0))
def intsV (l : List Int) : SV := .d (.vec 1 l.length (intsF l))
def rollBlk (r : Roll) : Blk := .cells 33 4 [SV.i r.c, SV.i r.lo, SV.i r.hi, SV.i r.s]
theorem blk_eq {c lo hi s : Int} {r : Roll} (h1 : c = r.c) (h2 : lo = r.lo) (h3 : hi = r.hi) (h4 : s = r.s) : Blk.cells 33 4 [SV.i c, SV.i lo, SV.i hi, SV.i s] = rollBlk r := by
 rw [h1, h2, h3, h4]; rfl
theorem fold_c (l : List Int) : ∀ n, (foldTo l n).c = n
 | 0 => rfl
 | n + 1 => by show (foldTo l n).c + 1 = _; rw [fold_c l n]; omega
theorem fold_s {l : List Int} (h : ∀ j, j < l.length → -2305843009213693952 ≤ l.getD j 0 ∧ l.getD j 0 < 2305843009213693952) : ∀ n, n ≤ l.length → -(n * 2305843009213693952) ≤ (foldTo l n).s ∧ (foldTo l n).s ≤ n * 2305843009213693951
 | 0, _ => by simp [foldTo]
 | n + 1, hn => by
   have := fold_s h n (by omega)
   have := h n (by omega)
   show _ ≤ (foldTo l n).s + l.getD n 0 ∧ (foldTo l n).s + l.getD n 0 ≤ _
   omega
theorem fold_in {l : List Int} (hl : l.length ≤ 4) (h : ∀ j, j < l.length → -2305843009213693952 ≤ l.getD j 0 ∧ l.getD j 0 < 2305843009213693952) : ∀ n, n ≤ l.length → inRange (foldTo l n).s := by
 intro n hn
 have := fold_s h n hn
 unfold inRange; omega
theorem refMay_any (q : Roll) : Spec Tryd.prog G0 55 [rollS q] [] (fun r ho => r = SV.b (mayB q) ∧ ho = []) := by
 refine start 55 0 Tryd.func55 rfl rfl rfl rfl ?_
 refine r1 <| sT 1 0 1 rfl <| sT 2 8 2 rfl <| e1 16 rfl <| keep [1] rfl <| W_seq <| r1 <| sT 5 16 1 rfl <| sO 6 24 2 rfl <| sO 7 32 3 rfl <| e1 40 rfl <| keep [1, 7] rfl ?_
 refine q1 rfl (fun hc1 => ?_) (fun hc1 => ?_)
 try simp only [cs, ne_eq] at hc1
 refine r1 <| sT 8 40 1 rfl <| sO 9 48 2 rfl <| sO 10 56 3 rfl <| sT 11 64 4 rfl ?_
 refine ask 11 rfl (fun hg2_11 => ?_) (fun hg2_11 => ?_)
 try simp only [cs, ne_eq] at hg2_11
 refine gT 3 true 11 5 rfl rfl <| sT 12 72 5 rfl <| gT 3 true 11 6 rfl rfl <| sO 13 80 6 rfl <| gT 3 true 11 7 rfl rfl <| sO 14 88 7 rfl <| sT 15 96 8 rfl <| sT 16 104 9 rfl ?_
 refine ask 16 rfl (fun hg2_16 => ?_) (fun hg2_16 => ?_)
 try simp only [cs, ne_eq] at hg2_16
 refine gT 8 true 16 10 rfl rfl <| sT 17 112 10 rfl <| gT 8 true 16 11 rfl rfl <| sO 18 120 11 rfl <| gT 8 true 16 12 rfl rfl <| sO 19 128 12 rfl <| sT 20 136 13 rfl <| sT 2 144 14 rfl <| e1 152 rfl <| keep [2] rfl <| W_ret <| tr ?_
 exact out1 2 (SV.b (mayB q)) (π := []) (hout := []) Tryd.results55 rfl (by show SV.b _ = SV.b _; refine congrArg SV.b (Bool.eq_iff_iff.2 ?_); simp [mayB] at *; omega) rfl rfl trivial ⟨rfl, rfl⟩
 try simp only [cs, ne_eq] at hg2_16
 refine gF 8 true 16 17 10 rfl rfl <| gF 8 true 16 18 11 rfl rfl <| gF 8 true 16 19 12 rfl rfl <| sT 20 136 13 rfl <| sT 2 144 14 rfl <| e1 152 rfl <| keep [2] rfl <| W_ret <| tr ?_
 exact out1 2 (SV.b (mayB q)) (π := []) (hout := []) Tryd.results55 rfl (by show SV.b _ = SV.b _; refine congrArg SV.b (Bool.eq_iff_iff.2 ?_); simp [mayB] at *; omega) rfl rfl trivial ⟨rfl, rfl⟩
 try simp only [cs, ne_eq] at hg2_11
 refine gF 3 true 11 12 5 rfl rfl <| gF 3 true 11 13 6 rfl rfl <| gF 3 true 11 14 7 rfl rfl <| sT 15 96 8 rfl <| sT 16 104 9 rfl <| gF 8 true 16 17 10 rfl rfl <| gF 8 true 16 18 11 rfl rfl <| gF 8 true 16 19 12 rfl rfl <| sT 20 136 13 rfl <| sT 2 144 14 rfl <| e1 152 rfl <| keep [2] rfl <| W_ret <| tr ?_
 exact out1 2 (SV.b (mayB q)) (π := []) (hout := []) Tryd.results55 rfl (by show SV.b _ = SV.b _; refine congrArg SV.b (Bool.eq_iff_iff.2 ?_); simp [mayB] at *; omega) rfl rfl trivial ⟨rfl, rfl⟩
 try simp only [cs, ne_eq] at hc1
 refine W_skip <| tn <| W_seq <| r1 <| sT 21 40 1 rfl <| sO 22 48 2 rfl <| sO 23 56 3 rfl <| sT 24 64 4 rfl ?_
 refine ask 24 rfl (fun hg3_24 => ?_) (fun hg3_24 => ?_)
 try simp only [cs, ne_eq] at hg3_24
 refine gF 3 false 24 25 5 rfl rfl <| gF 3 false 24 26 6 rfl rfl <| gF 3 false 24 27 7 rfl rfl <| sT 28 96 8 rfl <| sT 29 104 9 rfl <| gF 8 false 29 30 10 rfl rfl <| gF 8 false 29 31 11 rfl rfl <| gF 8 false 29 32 12 rfl rfl <| gF 8 false 29 33 13 rfl rfl <| gF 8 false 29 34 14 rfl rfl <| sT 35 152 15 rfl <| e1 160 rfl <| keep [1, 35] rfl ?_
 refine q1 rfl (fun hc3 => ?_) (fun hc3 => ?_)
 try simp only [cs, ne_eq] at hc3
 refine r1 <| sT 2 160 1 rfl <| e1 168 rfl <| keep [2] rfl <| W_ret <| tr ?_
 exact out1 2 (SV.b (mayB q)) (π := []) (hout := []) Tryd.results55 rfl (by show SV.b _ = SV.b _; refine congrArg SV.b (Bool.eq_iff_iff.2 ?_); simp [mayB] at *; omega) rfl rfl trivial ⟨rfl, rfl⟩
 exact absurd hc3 (by decide)
 try simp only [cs, ne_eq] at hg3_24
 refine gT 3 false 24 5 rfl rfl <| sT 25 72 5 rfl <| gT 3 false 24 6 rfl rfl <| sO 26 80 6 rfl <| gT 3 false 24 7 rfl rfl <| sO 27 88 7 rfl <| sT 28 96 8 rfl <| sT 29 104 9 rfl ?_
 refine ask 29 rfl (fun hg3_29 => ?_) (fun hg3_29 => ?_)
 try simp only [cs, ne_eq] at hg3_29
 refine gF 8 false 29 30 10 rfl rfl <| gF 8 false 29 31 11 rfl rfl <| gF 8 false 29 32 12 rfl rfl <| gF 8 false 29 33 13 rfl rfl <| gF 8 false 29 34 14 rfl rfl <| sT 35 152 15 rfl <| e1 160 rfl <| keep [1, 35] rfl ?_
 refine q1 rfl (fun hc3 => ?_) (fun hc3 => ?_)
 try simp only [cs, ne_eq] at hc3
 refine r1 <| sT 2 160 1 rfl <| e1 168 rfl <| keep [2] rfl <| W_ret <| tr ?_
 exact out1 2 (SV.b (mayB q)) (π := []) (hout := []) Tryd.results55 rfl (by show SV.b _ = SV.b _; refine congrArg SV.b (Bool.eq_iff_iff.2 ?_); simp [mayB] at *; omega) rfl rfl trivial ⟨rfl, rfl⟩
 exact absurd hc3 (by decide)
 try simp only [cs, ne_eq] at hg3_29
 refine gT 8 false 29 10 rfl rfl <| sT 30 112 10 rfl <| gT 8 false 29 11 rfl rfl <| sO 31 120 11 rfl <| gT 8 false 29 12 rfl rfl <| sT 32 128 12 rfl <| gT 8 false 29 13 rfl rfl <| sO 33 136 13 rfl <| gT 8 false 29 14 rfl rfl <| sO 34 144 14 rfl <| sT 35 152 15 rfl <| e1 160 rfl <| keep [1, 35] rfl ?_
 refine q1 rfl (fun hc3 => ?_) (fun hc3 => ?_)
 try simp only [cs, ne_eq] at hc3
 refine r1 <| sT 2 160 1 rfl <| e1 168 rfl <| keep [2] rfl <| W_ret <| tr ?_
 exact out1 2 (SV.b (mayB q)) (π := []) (hout := []) Tryd.results55 rfl (by show SV.b _ = SV.b _; refine congrArg SV.b (Bool.eq_iff_iff.2 ?_); simp [mayB] at *; omega) rfl rfl trivial ⟨rfl, rfl⟩
 try simp only [cs, ne_eq] at hc3
 refine W_skip <| tn <| W_seq <| r1 <| sT 36 160 1 rfl <| sO 37 168 2 rfl <| sT 38 176 3 rfl <| sO 39 184 4 rfl <| sT 40 192 5 rfl <| sO 41 200 6 rfl <| sT 42 208 7 rfl <| sO 43 216 8 rfl <| sT 44 224 9 rfl <| e1 232 rfl <| keep [42, 43, 44] rfl ?_
 refine torows 208 3 (tri q.lo q.hi q.s) rfl (by decide) (Nat.le_refl _) (fun i c hi hc => by have hc1 : c < 1 := hc; obtain rfl : c = 0 := (by omega); match i, hi with | 0, _ => rfl | 1, _ => rfl | 2, _ => rfl) ?_
 refine freeze 42 208 3 rfl rfl (Nat.le_refl _) ?_
 refine W_block ?_
 refine loop (α := Nat) 0 (fun n => [(42, .d (.vec 1 3 (tri q.lo q.hi q.s))), (43, SV.i 3), (44, SV.i n)]) (fun n => []) (fun n => n ≤ 3 ∧ ∀ j, j < n → inB (at3 q.lo q.hi q.s j) = true) (fun n => 3 - n) (0) [] (fun _ => rfl) ⟨Nat.zero_le _, fun j hj => by omega⟩ rfl ⟨rfl, rfl, rfl, trivial⟩ trivial (fun n hx => ?_)
 obtain ⟨hn, hno⟩ := hx
 refine r1 <| sO 45 0 1 rfl <| e1 8 rfl <| keep [42, 43, 44, 45] rfl <| W_seq ?_
 refine q1 rfl (fun hc6 => ?_) (fun hc6 => ?_)
 try simp only [cs, ne_eq] at hc6
 refine W_skip <| tn <| W_seq <| W_block <| r1 <| sO 46 8 1 rfl <| sO 47 16 2 rfl <| sT 4 24 3 rfl <| e1 32 rfl <| keep [4, 42, 43, 44] rfl <| r1 <| sT 48 32 1 rfl <| sO 49 40 2 rfl <| sT 50 48 3 rfl ?_
 refine ask 50 rfl (fun hg8_50 => ?_) (fun hg8_50 => ?_)
 try simp only [cs, ne_eq] at hg8_50
 refine gF 2 false 50 51 4 rfl rfl <| gF 2 false 50 52 5 rfl rfl <| sT 53 72 6 rfl <| e1 80 rfl <| keep [42, 43, 44, 53] rfl ?_
 refine q1 rfl (fun hc8 => ?_) (fun hc8 => ?_)
 try simp only [cs, ne_eq] at hc8
 refine r1 <| sT 2 80 1 rfl <| e1 88 rfl <| keep [2] rfl <| W_ret <| br <| tr <| tr <| br <| tr ?_
 exact out1 2 (SV.b (mayB q)) (π := []) (hout := []) Tryd.results55 rfl (by have h0 := not3 (a := q.lo) (b := q.hi) (d := q.s) (n := n) (by omega) (by simp only [Int.toNat_natCast] at *; simp [inB]; omega); show SV.b _ = SV.b _; refine congrArg SV.b ?_; unfold mayB; rw [h0]; simp; omega) rfl rfl trivial ⟨rfl, rfl⟩
 exact absurd hc8 (by decide)
 try simp only [cs, ne_eq] at hg8_50
 refine gT 2 false 50 4 rfl rfl <| sT 51 56 4 rfl <| gT 2 false 50 5 rfl rfl <| sO 52 64 5 rfl <| sT 53 72 6 rfl <| e1 80 rfl <| keep [42, 43, 44, 53] rfl ?_
 refine q1 rfl (fun hc8 => ?_) (fun hc8 => ?_)
 try simp only [cs, ne_eq] at hc8
 refine r1 <| sT 2 80 1 rfl <| e1 88 rfl <| keep [2] rfl <| W_ret <| br <| tr <| tr <| br <| tr ?_
 exact out1 2 (SV.b (mayB q)) (π := []) (hout := []) Tryd.results55 rfl (by have h0 := not3 (a := q.lo) (b := q.hi) (d := q.s) (n := n) (by omega) (by simp only [Int.toNat_natCast] at *; simp [inB]; omega); show SV.b _ = SV.b _; refine congrArg SV.b ?_; unfold mayB; rw [h0]; simp; omega) rfl rfl trivial ⟨rfl, rfl⟩
 try simp only [cs, ne_eq] at hc8
 refine W_skip <| bn <| tn ?_
 refine r0 ?_
 refine sAO 54 80 1 rfl <| sT 44 88 2 rfl <| e1 96 rfl <| tn ?_
 exact again (n + 1) [] ⟨by omega, fun j hj => by by_cases e : j = n; (subst e; clear hno; simp only [Int.toNat_natCast] at *; simp [inB]; omega); exact hno j (by omega)⟩ (by omega) rfl ⟨rfl, rfl, rfl, trivial⟩ trivial
 try simp only [cs, ne_eq] at hc6
 refine W_exit <| tx <| tx <| bx <| tn <| r1 <| sT 2 8 1 rfl <| e1 16 rfl <| keep [2] rfl <| W_ret ?_
 exact out1 2 (SV.b (mayB q)) (π := []) (hout := []) Tryd.results55 rfl (by obtain ⟨h1, h2, h3⟩ := all3 (fun j hj => hno j (by omega)); show SV.b _ = SV.b _; refine congrArg SV.b ?_; unfold mayB; rw [h1, h2, h3]; simp; omega) rfl rfl trivial ⟨rfl, rfl⟩
theorem rollOf_any (l : List Int) (hl : l.length ≤ 9223372036854775807) (hs : ∀ n, n ≤ l.length → inRange (foldTo l n).s) : Spec Tryd.prog G0 52 [intsV l] [] (fun r ho => r = rollS (foldTo l l.length) ∧ ho = []) := by
 refine start 44 0 Tryd.func52 rfl rfl rfl rfl ?_
 refine r1 <| sT 2 0 1 rfl <| e1 8 rfl <| keep [0, 2] rfl <| r1 <| sT 3 8 1 rfl <| e1 16 rfl <| keep [0, 2, 3] rfl <| W_seq <| r1 <| sT 6 16 1 rfl <| sO 7 24 2 rfl <| sT 8 32 3 rfl <| e1 40 rfl <| keep [2, 3, 6, 7, 8] rfl <| W_block ?_
 refine loop (α := Nat) 2 (fun n => [(2, .ptr 0 0 0), (3, .ptr 1 0 0), (6, intsV l), (7, SV.i l.length), (8, SV.i n)]) (fun n => [some (rollBlk ⟨0, 0, 0, 0⟩), some (rollBlk (foldTo l n))]) (fun n => n ≤ l.length) (fun n => l.length - n) (0) [0, 8] (fun _ => rfl) (Nat.zero_le _) rfl ⟨rfl, rfl, rfl, rfl, rfl, trivial⟩ ⟨rfl, rfl, trivial⟩ (fun n hx => ?_)
 refine r1 <| sO 9 2 1 rfl <| e1 10 rfl <| keep [2, 3, 6, 7, 8, 9] rfl <| W_seq ?_
 refine q1 rfl (fun hc3 => ?_) (fun hc3 => ?_)
 · skip
   try simp only [cs, ne_eq] at hc3
   refine W_skip <| tn <| W_seq <| W_block <| r1 <| sT 10 10 1 rfl <| sO 11 18 2 rfl <| sO 12 26 3 rfl <| sT 4 34 4 rfl <| sT 5 42 5 rfl <| e1 50 rfl <| keep [2, 3, 4, 5, 6, 7, 8] rfl <| W_seq <| r1 <| sT 13 50 1 rfl <| sO 14 58 2 rfl ?_
   refine sT 15 66 3 rfl ?_
   refine ask 15 rfl (fun hg5_15 => ?_) (fun hg5_15 => ?_)
   · skip
     try simp only [cs, ne_eq] at hg5_15
     refine gF 2 false 15 16 4 rfl rfl <| gF 2 false 15 17 5 rfl rfl <| gF 2 false 15 18 6 rfl rfl <| gF 2 false 15 19 7 rfl rfl <| sT 20 106 8 rfl <| e1 114 rfl <| keep [2, 3, 4, 5, 6, 7, 8, 20] rfl ?_
     refine q1 rfl (fun hc5 => ?_) (fun hc5 => ?_)
     · skip
       try simp only [cs, ne_eq] at hc5
       refine r0 ?_
       refine sT 21 114 1 rfl <| sT 22 122 2 rfl <| s0O 130 3 rfl rfl rfl rfl rfl <| e1 138 rfl <| tn <| W_seq <| r1 <| sT 23 138 1 rfl <| sO 24 146 2 rfl <| sT 25 154 3 rfl ?_
       refine ask 25 rfl (fun hg7_25 => ?_) (fun hg7_25 => ?_)
       · skip
         try simp only [cs, ne_eq] at hg7_25
         refine gF 2 false 25 26 4 rfl rfl <| gF 2 false 25 27 5 rfl rfl <| gF 2 false 25 28 6 rfl rfl <| gF 2 false 25 29 7 rfl rfl <| sT 30 194 8 rfl <| e1 202 rfl <| keep [2, 3, 5, 6, 7, 8, 30] rfl ?_
         refine q1 rfl (fun hc7 => ?_) (fun hc7 => ?_)
         · skip
           try simp only [cs, ne_eq] at hc7
           refine r0 ?_
           refine sT 31 202 1 rfl <| sT 32 210 2 rfl <| s0O 218 3 rfl rfl rfl rfl rfl <| e1 226 rfl <| tn <| r1 <| sT 33 226 1 rfl <| sO 34 234 2 rfl <| sT 35 242 3 rfl ?_
           refine sA 36 250 4 rfl rfl rfl rfl rfl rfl rfl rfl rfl (by have := hs (n + 1) (by omega); exact this) ?_
           refine sT 37 258 5 rfl <| s0O 266 6 rfl rfl rfl rfl rfl <| e1 274 rfl <| keep [2, 3, 6, 7, 8] rfl ?_
           refine r0 ?_
           refine sT 38 274 1 rfl <| sO 39 282 2 rfl ?_
           refine sA 40 290 3 rfl rfl rfl rfl rfl rfl rfl rfl rfl (by have := fold_c l n; unfold inRange; omega) ?_
           refine sT 41 298 4 rfl <| s0O 306 5 rfl rfl rfl rfl rfl <| e1 314 rfl <| bn <| tn ?_
           refine chval 1 (rollBlk (foldTo l (n + 1))) rfl (blk_eq rfl (by simp only [Int.toNat_natCast] at *; simp only [foldTo, stepR]; split <;> omega) (by simp only [Int.toNat_natCast] at *; simp only [foldTo, stepR]; split <;> omega) rfl) ?_
           refine r0 ?_
           refine sAO 42 314 1 rfl <| sT 8 322 2 rfl <| e1 330 rfl <| tn ?_
           exact again (n + 1) [0, 1] (by omega) (by omega) rfl ⟨rfl, rfl, rfl, rfl, rfl, trivial⟩ ⟨rfl, rfl, trivial⟩
         exact absurd hc7 (by decide)
       try simp only [cs, ne_eq] at hg7_25
       refine gT 2 false 25 4 rfl rfl <| sT 26 162 4 rfl <| gT 2 false 25 5 rfl rfl <| sT 27 170 5 rfl <| gT 2 false 25 6 rfl rfl <| sO 28 178 6 rfl <| gT 2 false 25 7 rfl rfl <| sO 29 186 7 rfl <| sT 30 194 8 rfl <| e1 202 rfl <| keep [2, 3, 5, 6, 7, 8, 30] rfl ?_
       refine q1 rfl (fun hc7 => ?_) (fun hc7 => ?_)
       · skip
         try simp only [cs, ne_eq] at hc7
         refine r0 ?_
         refine sT 31 202 1 rfl <| sT 32 210 2 rfl <| s0O 218 3 rfl rfl rfl rfl rfl <| e1 226 rfl <| tn <| r1 <| sT 33 226 1 rfl <| sO 34 234 2 rfl <| sT 35 242 3 rfl ?_
         refine sA 36 250 4 rfl rfl rfl rfl rfl rfl rfl rfl rfl (by have := hs (n + 1) (by omega); exact this) ?_
         refine sT 37 258 5 rfl <| s0O 266 6 rfl rfl rfl rfl rfl <| e1 274 rfl <| keep [2, 3, 6, 7, 8] rfl ?_
         refine r0 ?_
         refine sT 38 274 1 rfl <| sO 39 282 2 rfl ?_
         refine sA 40 290 3 rfl rfl rfl rfl rfl rfl rfl rfl rfl (by have := fold_c l n; unfold inRange; omega) ?_
         refine sT 41 298 4 rfl <| s0O 306 5 rfl rfl rfl rfl rfl <| e1 314 rfl <| bn <| tn ?_
         refine chval 1 (rollBlk (foldTo l (n + 1))) rfl (blk_eq rfl (by simp only [Int.toNat_natCast] at *; simp only [foldTo, stepR]; split <;> omega) (by simp only [Int.toNat_natCast] at *; simp only [foldTo, stepR]; split <;> omega) rfl) ?_
         refine r0 ?_
         refine sAO 42 314 1 rfl <| sT 8 322 2 rfl <| e1 330 rfl <| tn ?_
         exact again (n + 1) [0, 1] (by omega) (by omega) rfl ⟨rfl, rfl, rfl, rfl, rfl, trivial⟩ ⟨rfl, rfl, trivial⟩
       try simp only [cs, ne_eq] at hc7
       refine W_skip <| tn <| r1 <| sT 33 202 1 rfl <| sO 34 210 2 rfl <| sT 35 218 3 rfl ?_
       refine sA 36 226 4 rfl rfl rfl rfl rfl rfl rfl rfl rfl (by have := hs (n + 1) (by omega); exact this) ?_
       refine sT 37 234 5 rfl <| s0O 242 6 rfl rfl rfl rfl rfl <| e1 250 rfl <| keep [2, 3, 6, 7, 8] rfl ?_
       refine r0 ?_
       refine sT 38 250 1 rfl <| sO 39 258 2 rfl ?_
       refine sA 40 266 3 rfl rfl rfl rfl rfl rfl rfl rfl rfl (by have := fold_c l n; unfold inRange; omega) ?_
       refine sT 41 274 4 rfl <| s0O 282 5 rfl rfl rfl rfl rfl <| e1 290 rfl <| bn <| tn ?_
       refine chval 1 (rollBlk (foldTo l (n + 1))) rfl (blk_eq rfl (by simp only [Int.toNat_natCast] at *; simp only [foldTo, stepR]; split <;> omega) (by simp only [Int.toNat_natCast] at *; simp only [foldTo, stepR]; split <;> omega) rfl) ?_
       refine r0 ?_
       refine sAO 42 290 1 rfl <| sT 8 298 2 rfl <| e1 306 rfl <| tn ?_
       exact again (n + 1) [0, 1] (by omega) (by omega) rfl ⟨rfl, rfl, rfl, rfl, rfl, trivial⟩ ⟨rfl, rfl, trivial⟩
     exact absurd hc5 (by decide)
   try simp only [cs, ne_eq] at hg5_15
   refine gT 2 false 15 4 rfl rfl <| sT 16 74 4 rfl <| gT 2 false 15 5 rfl rfl <| sT 17 82 5 rfl <| gT 2 false 15 6 rfl rfl <| sO 18 90 6 rfl <| gT 2 false 15 7 rfl rfl <| sO 19 98 7 rfl <| sT 20 106 8 rfl <| e1 114 rfl <| keep [2, 3, 4, 5, 6, 7, 8, 20] rfl ?_
   refine q1 rfl (fun hc5 => ?_) (fun hc5 => ?_)
   · skip
     try simp only [cs, ne_eq] at hc5
     refine r0 ?_
     refine sT 21 114 1 rfl <| sT 22 122 2 rfl <| s0O 130 3 rfl rfl rfl rfl rfl <| e1 138 rfl <| tn <| W_seq <| r1 <| sT 23 138 1 rfl <| sO 24 146 2 rfl <| sT 25 154 3 rfl ?_
     refine ask 25 rfl (fun hg7_25 => ?_) (fun hg7_25 => ?_)
     · skip
       try simp only [cs, ne_eq] at hg7_25
       refine gF 2 false 25 26 4 rfl rfl <| gF 2 false 25 27 5 rfl rfl <| gF 2 false 25 28 6 rfl rfl <| gF 2 false 25 29 7 rfl rfl <| sT 30 194 8 rfl <| e1 202 rfl <| keep [2, 3, 5, 6, 7, 8, 30] rfl ?_
       refine q1 rfl (fun hc7 => ?_) (fun hc7 => ?_)
       · skip
         try simp only [cs, ne_eq] at hc7
         refine r0 ?_
         refine sT 31 202 1 rfl <| sT 32 210 2 rfl <| s0O 218 3 rfl rfl rfl rfl rfl <| e1 226 rfl <| tn <| r1 <| sT 33 226 1 rfl <| sO 34 234 2 rfl <| sT 35 242 3 rfl ?_
         refine sA 36 250 4 rfl rfl rfl rfl rfl rfl rfl rfl rfl (by have := hs (n + 1) (by omega); exact this) ?_
         refine sT 37 258 5 rfl <| s0O 266 6 rfl rfl rfl rfl rfl <| e1 274 rfl <| keep [2, 3, 6, 7, 8] rfl ?_
         refine r0 ?_
         refine sT 38 274 1 rfl <| sO 39 282 2 rfl ?_
         refine sA 40 290 3 rfl rfl rfl rfl rfl rfl rfl rfl rfl (by have := fold_c l n; unfold inRange; omega) ?_
         refine sT 41 298 4 rfl <| s0O 306 5 rfl rfl rfl rfl rfl <| e1 314 rfl <| bn <| tn ?_
         refine chval 1 (rollBlk (foldTo l (n + 1))) rfl (blk_eq rfl (by simp only [Int.toNat_natCast] at *; simp only [foldTo, stepR]; split <;> omega) (by simp only [Int.toNat_natCast] at *; simp only [foldTo, stepR]; split <;> omega) rfl) ?_
         refine r0 ?_
         refine sAO 42 314 1 rfl <| sT 8 322 2 rfl <| e1 330 rfl <| tn ?_
         exact again (n + 1) [0, 1] (by omega) (by omega) rfl ⟨rfl, rfl, rfl, rfl, rfl, trivial⟩ ⟨rfl, rfl, trivial⟩
       exact absurd hc7 (by decide)
     try simp only [cs, ne_eq] at hg7_25
     refine gT 2 false 25 4 rfl rfl <| sT 26 162 4 rfl <| gT 2 false 25 5 rfl rfl <| sT 27 170 5 rfl <| gT 2 false 25 6 rfl rfl <| sO 28 178 6 rfl <| gT 2 false 25 7 rfl rfl <| sO 29 186 7 rfl <| sT 30 194 8 rfl <| e1 202 rfl <| keep [2, 3, 5, 6, 7, 8, 30] rfl ?_
     refine q1 rfl (fun hc7 => ?_) (fun hc7 => ?_)
     · skip
       try simp only [cs, ne_eq] at hc7
       refine r0 ?_
       refine sT 31 202 1 rfl <| sT 32 210 2 rfl <| s0O 218 3 rfl rfl rfl rfl rfl <| e1 226 rfl <| tn <| r1 <| sT 33 226 1 rfl <| sO 34 234 2 rfl <| sT 35 242 3 rfl ?_
       refine sA 36 250 4 rfl rfl rfl rfl rfl rfl rfl rfl rfl (by have := hs (n + 1) (by omega); exact this) ?_
       refine sT 37 258 5 rfl <| s0O 266 6 rfl rfl rfl rfl rfl <| e1 274 rfl <| keep [2, 3, 6, 7, 8] rfl ?_
       refine r0 ?_
       refine sT 38 274 1 rfl <| sO 39 282 2 rfl ?_
       refine sA 40 290 3 rfl rfl rfl rfl rfl rfl rfl rfl rfl (by have := fold_c l n; unfold inRange; omega) ?_
       refine sT 41 298 4 rfl <| s0O 306 5 rfl rfl rfl rfl rfl <| e1 314 rfl <| bn <| tn ?_
       refine chval 1 (rollBlk (foldTo l (n + 1))) rfl (blk_eq rfl (by simp only [Int.toNat_natCast] at *; simp only [foldTo, stepR]; split <;> omega) (by simp only [Int.toNat_natCast] at *; simp only [foldTo, stepR]; split <;> omega) rfl) ?_
       refine r0 ?_
       refine sAO 42 314 1 rfl <| sT 8 322 2 rfl <| e1 330 rfl <| tn ?_
       exact again (n + 1) [0, 1] (by omega) (by omega) rfl ⟨rfl, rfl, rfl, rfl, rfl, trivial⟩ ⟨rfl, rfl, trivial⟩
     try simp only [cs, ne_eq] at hc7
     refine W_skip <| tn <| r1 <| sT 33 202 1 rfl <| sO 34 210 2 rfl <| sT 35 218 3 rfl ?_
     refine sA 36 226 4 rfl rfl rfl rfl rfl rfl rfl rfl rfl (by have := hs (n + 1) (by omega); exact this) ?_
     refine sT 37 234 5 rfl <| s0O 242 6 rfl rfl rfl rfl rfl <| e1 250 rfl <| keep [2, 3, 6, 7, 8] rfl ?_
     refine r0 ?_
     refine sT 38 250 1 rfl <| sO 39 258 2 rfl ?_
     refine sA 40 266 3 rfl rfl rfl rfl rfl rfl rfl rfl rfl (by have := fold_c l n; unfold inRange; omega) ?_
     refine sT 41 274 4 rfl <| s0O 282 5 rfl rfl rfl rfl rfl <| e1 290 rfl <| bn <| tn ?_
     refine chval 1 (rollBlk (foldTo l (n + 1))) rfl (blk_eq rfl (by simp only [Int.toNat_natCast] at *; simp only [foldTo, stepR]; split <;> omega) (by simp only [Int.toNat_natCast] at *; simp only [foldTo, stepR]; split <;> omega) rfl) ?_
     refine r0 ?_
     refine sAO 42 290 1 rfl <| sT 8 298 2 rfl <| e1 306 rfl <| tn ?_
     exact again (n + 1) [0, 1] (by omega) (by omega) rfl ⟨rfl, rfl, rfl, rfl, rfl, trivial⟩ ⟨rfl, rfl, trivial⟩
   try simp only [cs, ne_eq] at hc5
   refine W_skip <| tn <| W_seq <| r1 <| sT 23 114 1 rfl <| sO 24 122 2 rfl <| sT 25 130 3 rfl ?_
   refine ask 25 rfl (fun hg7_25 => ?_) (fun hg7_25 => ?_)
   · skip
     try simp only [cs, ne_eq] at hg7_25
     refine gF 2 false 25 26 4 rfl rfl <| gF 2 false 25 27 5 rfl rfl <| gF 2 false 25 28 6 rfl rfl <| gF 2 false 25 29 7 rfl rfl <| sT 30 170 8 rfl <| e1 178 rfl <| keep [2, 3, 5, 6, 7, 8, 30] rfl ?_
     refine q1 rfl (fun hc7 => ?_) (fun hc7 => ?_)
     · skip
       try simp only [cs, ne_eq] at hc7
       refine r0 ?_
       refine sT 31 178 1 rfl <| sT 32 186 2 rfl <| s0O 194 3 rfl rfl rfl rfl rfl <| e1 202 rfl <| tn <| r1 <| sT 33 202 1 rfl <| sO 34 210 2 rfl <| sT 35 218 3 rfl ?_
       refine sA 36 226 4 rfl rfl rfl rfl rfl rfl rfl rfl rfl (by have := hs (n + 1) (by omega); exact this) ?_
       refine sT 37 234 5 rfl <| s0O 242 6 rfl rfl rfl rfl rfl <| e1 250 rfl <| keep [2, 3, 6, 7, 8] rfl ?_
       refine r0 ?_
       refine sT 38 250 1 rfl <| sO 39 258 2 rfl ?_
       refine sA 40 266 3 rfl rfl rfl rfl rfl rfl rfl rfl rfl (by have := fold_c l n; unfold inRange; omega) ?_
       refine sT 41 274 4 rfl <| s0O 282 5 rfl rfl rfl rfl rfl <| e1 290 rfl <| bn <| tn ?_
       refine chval 1 (rollBlk (foldTo l (n + 1))) rfl (blk_eq rfl (by simp only [Int.toNat_natCast] at *; simp only [foldTo, stepR]; split <;> omega) (by simp only [Int.toNat_natCast] at *; simp only [foldTo, stepR]; split <;> omega) rfl) ?_
       refine r0 ?_
       refine sAO 42 290 1 rfl <| sT 8 298 2 rfl <| e1 306 rfl <| tn ?_
       exact again (n + 1) [0, 1] (by omega) (by omega) rfl ⟨rfl, rfl, rfl, rfl, rfl, trivial⟩ ⟨rfl, rfl, trivial⟩
     exact absurd hc7 (by decide)
   try simp only [cs, ne_eq] at hg7_25
   refine gT 2 false 25 4 rfl rfl <| sT 26 138 4 rfl <| gT 2 false 25 5 rfl rfl <| sT 27 146 5 rfl <| gT 2 false 25 6 rfl rfl <| sO 28 154 6 rfl <| gT 2 false 25 7 rfl rfl <| sO 29 162 7 rfl <| sT 30 170 8 rfl <| e1 178 rfl <| keep [2, 3, 5, 6, 7, 8, 30] rfl ?_
   refine q1 rfl (fun hc7 => ?_) (fun hc7 => ?_)
   · skip
     try simp only [cs, ne_eq] at hc7
     refine r0 ?_
     refine sT 31 178 1 rfl <| sT 32 186 2 rfl <| s0O 194 3 rfl rfl rfl rfl rfl <| e1 202 rfl <| tn <| r1 <| sT 33 202 1 rfl <| sO 34 210 2 rfl <| sT 35 218 3 rfl ?_
     refine sA 36 226 4 rfl rfl rfl rfl rfl rfl rfl rfl rfl (by have := hs (n + 1) (by omega); exact this) ?_
     refine sT 37 234 5 rfl <| s0O 242 6 rfl rfl rfl rfl rfl <| e1 250 rfl <| keep [2, 3, 6, 7, 8] rfl ?_
     refine r0 ?_
     refine sT 38 250 1 rfl <| sO 39 258 2 rfl ?_
     refine sA 40 266 3 rfl rfl rfl rfl rfl rfl rfl rfl rfl (by have := fold_c l n; unfold inRange; omega) ?_
     refine sT 41 274 4 rfl <| s0O 282 5 rfl rfl rfl rfl rfl <| e1 290 rfl <| bn <| tn ?_
     refine chval 1 (rollBlk (foldTo l (n + 1))) rfl (blk_eq rfl (by simp only [Int.toNat_natCast] at *; simp only [foldTo, stepR]; split <;> omega) (by simp only [Int.toNat_natCast] at *; simp only [foldTo, stepR]; split <;> omega) rfl) ?_
     refine r0 ?_
     refine sAO 42 290 1 rfl <| sT 8 298 2 rfl <| e1 306 rfl <| tn ?_
     exact again (n + 1) [0, 1] (by omega) (by omega) rfl ⟨rfl, rfl, rfl, rfl, rfl, trivial⟩ ⟨rfl, rfl, trivial⟩
   try simp only [cs, ne_eq] at hc7
   refine W_skip <| tn <| r1 <| sT 33 178 1 rfl <| sO 34 186 2 rfl <| sT 35 194 3 rfl ?_
   refine sA 36 202 4 rfl rfl rfl rfl rfl rfl rfl rfl rfl (by have := hs (n + 1) (by omega); exact this) ?_
   refine sT 37 210 5 rfl <| s0O 218 6 rfl rfl rfl rfl rfl <| e1 226 rfl <| keep [2, 3, 6, 7, 8] rfl ?_
   refine r0 ?_
   refine sT 38 226 1 rfl <| sO 39 234 2 rfl ?_
   refine sA 40 242 3 rfl rfl rfl rfl rfl rfl rfl rfl rfl (by have := fold_c l n; unfold inRange; omega) ?_
   refine sT 41 250 4 rfl <| s0O 258 5 rfl rfl rfl rfl rfl <| e1 266 rfl <| bn <| tn ?_
   refine chval 1 (rollBlk (foldTo l (n + 1))) rfl (blk_eq rfl (by simp only [Int.toNat_natCast] at *; simp only [foldTo, stepR]; split <;> omega) (by simp only [Int.toNat_natCast] at *; simp only [foldTo, stepR]; split <;> omega) rfl) ?_
   refine r0 ?_
   refine sAO 42 266 1 rfl <| sT 8 274 2 rfl <| e1 282 rfl <| tn ?_
   exact again (n + 1) [0, 1] (by omega) (by omega) rfl ⟨rfl, rfl, rfl, rfl, rfl, trivial⟩ ⟨rfl, rfl, trivial⟩
 try simp only [cs, ne_eq] at hc3
 refine W_exit <| tx <| tx <| bx <| tn ?_
 obtain rfl : n = l.length := (by omega)
 refine r1 <| sO 43 10 1 rfl <| s0O 18 2 rfl rfl rfl rfl rfl <| e1 26 rfl <| keep [2] rfl <| W_ret ?_
 exact outN (rollS (foldTo l l.length)) (π := []) (hout := []) Tryd.results52 rfl (by trivial) rfl rfl rfl trivial ⟨rfl, rfl⟩
theorem refJoin_any (a b : Roll) : Spec Tryd.prog G0 24 [rollS a, rollS b] [] (fun r ho => r = SV.tup [rollS (join a b).1, SV.i (join a b).2] ∧ ho = []) := by
 refine start 62 0 Tryd.func24 rfl rfl rfl rfl ?_
 refine r1 <| sT 2 0 1 rfl <| sT 3 8 2 rfl <| sT 4 16 3 rfl <| sT 5 24 4 rfl <| e1 32 rfl <| keep [2, 3, 4] rfl <| W_seq <| r1 <| sO 9 32 1 rfl ?_
 refine c1 (refMay_any a) [] [] 10 40 2 rfl rfl rfl rfl rfl rfl rfl rfl Tryd.func55 rfl rfl rfl rfl trivial rfl rfl ?_
 refine sT 11 48 3 rfl <| sT 12 56 4 rfl ?_
 refine ask 12 rfl (fun hg1_12 => ?_) (fun hg1_12 => ?_)
 try simp only [cs, ne_eq] at hg1_12
 refine gF 3 false 12 13 5 rfl rfl <| gF 3 false 12 14 6 rfl rfl <| gF 3 false 12 15 7 rfl rfl <| sT 16 88 8 rfl <| e1 96 rfl <| keep [2, 3, 4, 16] rfl ?_
 refine q1 rfl (fun hc1 => ?_) (fun hc1 => ?_)
 try simp only [cs, ne_eq] at hc1
 refine r1 <| sT 17 96 1 rfl <| s0O 104 2 rfl rfl rfl rfl rfl <| sT 5 112 3 rfl <| e1 120 rfl <| keep [4, 5] rfl <| W_ret <| tr ?_
 exact outN (SV.tup [rollS (join a b).1, SV.i (join a b).2]) (π := []) (hout := []) Tryd.results24 rfl (by trivial) (by rw [join_form (by simp [*])]; rfl) rfl rfl trivial ⟨rfl, rfl⟩
 exact absurd hc1 (by decide)
 try simp only [cs, ne_eq] at hg1_12
 refine gT 3 false 12 5 rfl rfl <| sO 13 64 5 rfl <| gT 3 false 12 6 rfl rfl ?_
 refine c1 (refMay_any b) [] [] 14 72 6 rfl rfl rfl rfl rfl rfl rfl rfl Tryd.func55 rfl rfl rfl rfl trivial rfl rfl ?_
 refine gT 3 false 12 7 rfl rfl <| sT 15 80 7 rfl <| sT 16 88 8 rfl <| e1 96 rfl <| keep [2, 3, 4, 16] rfl ?_
 refine q1 rfl (fun hc1 => ?_) (fun hc1 => ?_)
 try simp only [cs, ne_eq] at hc1
 refine r1 <| sT 17 96 1 rfl <| s0O 104 2 rfl rfl rfl rfl rfl <| sT 5 112 3 rfl <| e1 120 rfl <| keep [4, 5] rfl <| W_ret <| tr ?_
 exact outN (SV.tup [rollS (join a b).1, SV.i (join a b).2]) (π := []) (hout := []) Tryd.results24 rfl (by trivial) (by rw [join_form (by simp [*])]; rfl) rfl rfl trivial ⟨rfl, rfl⟩
 try simp only [cs, ne_eq] at hc1
 refine W_skip <| tn ?_
 have hA := hg1_12
 have hB := hc1
 refine r1 <| sT 18 96 1 rfl <| sO 19 104 2 rfl <| sT 20 112 3 rfl <| sO 21 120 4 rfl ?_
 refine sA 22 128 5 rfl rfl rfl rfl rfl rfl rfl rfl rfl (by have := may_out hA; have := may_out hB; unfold inRange; omega) ?_
 refine sT 23 136 6 rfl <| sO 24 144 7 rfl <| sT 25 152 8 rfl <| sO 26 160 9 rfl ?_
 refine sA 27 168 10 rfl rfl rfl rfl rfl rfl rfl rfl rfl (by have := may_out hA; have := may_out hB; unfold inRange; omega) ?_
 refine sT 28 176 11 rfl <| sT 6 184 12 rfl <| s0O 192 13 rfl rfl rfl rfl rfl <| e1 200 rfl <| keep [2, 3, 4, 6] rfl <| r1 <| sT 7 200 1 rfl <| e1 208 rfl <| keep [2, 3, 4, 6, 7] rfl <| W_seq <| r1 <| sT 29 208 1 rfl <| sO 30 216 2 rfl <| sO 31 224 3 rfl <| e1 232 rfl <| keep [2, 3, 4, 6, 7, 31] rfl ?_
 refine q1 rfl (fun hc5 => ?_) (fun hc5 => ?_)
 · skip
   try simp only [cs, ne_eq] at hc5
   refine r0 ?_
   refine sT 32 232 1 rfl <| sT 33 240 2 rfl <| sO 34 248 3 rfl <| sT 35 256 4 rfl <| sO 36 264 5 rfl <| sT 37 272 6 rfl <| sO 38 280 7 rfl <| sT 7 288 8 rfl <| e1 296 rfl <| tn <| W_seq <| r1 <| sT 39 296 1 rfl <| sO 40 304 2 rfl <| sO 41 312 3 rfl <| e1 320 rfl ?_
   refine keep [3, 4, 6, 7, 41] rfl ?_
   refine q1 rfl (fun hc7 => ?_) (fun hc7 => ?_)
   · skip
     try simp only [cs, ne_eq] at hc7
     refine r0 ?_
     refine sT 42 320 1 rfl <| sT 43 328 2 rfl <| sO 44 336 3 rfl <| sT 45 344 4 rfl <| sO 46 352 5 rfl <| sT 47 360 6 rfl <| sO 48 368 7 rfl <| sT 7 376 8 rfl <| e1 384 rfl <| tn ?_
     refine torows 368 4 (intsF [a.lo, a.hi, b.lo, b.hi]) rfl (by decide) (Nat.le_refl _) (fun i c hi hc => by have hc1 : c < 1 := hc; obtain rfl : c = 0 := (by omega); match i, hi with | 0, _ => rfl | 1, _ => rfl | 2, _ => rfl | 3, _ => rfl) ?_
     refine freeze 7 368 4 rfl rfl (Nat.le_refl _) ?_
     refine r1 <| sT 49 384 1 rfl ?_
     refine c1 (rollOf_any [a.lo, a.hi, b.lo, b.hi] (by simp) (fold_in (l := [a.lo, a.hi, b.lo, b.hi]) (by simp) (fun j hj => by have := may_out hA; have := may_out hB; match j, hj with | 0, _ => (simp; omega) | 1, _ => (simp; omega) | 2, _ => (simp; omega) | 3, _ => (simp; omega)))) [] [] 50 392 2 rfl rfl rfl rfl rfl rfl rfl rfl Tryd.func52 rfl rfl rfl rfl trivial rfl rfl ?_
     refine sT 8 400 3 rfl <| s0O 408 4 rfl rfl rfl rfl rfl <| e1 416 rfl <| keep [4, 6, 8] rfl <| r1 <| sT 51 416 1 rfl <| sO 52 424 2 rfl <| sT 53 432 3 rfl <| s0O 440 4 rfl rfl rfl rfl rfl <| e1 448 rfl <| keep [4, 6, 8] rfl <| r1 <| sT 54 448 1 rfl <| sO 55 456 2 rfl <| sT 56 464 3 rfl <| s0O 472 4 rfl rfl rfl rfl rfl ?_
     refine e1 480 rfl <| keep [4, 6] rfl <| W_seq ?_
     refine chval 184 (rollBlk (joined a b)) rfl (blk_eq (by have h1 := may_out hA; have h2 := may_out hB; simp [joined, foldTo, stepR] <;> (repeat' split) <;> (try dsimp only) <;> omega) (by have h1 := may_out hA; have h2 := may_out hB; simp [joined, foldTo, stepR] <;> (repeat' split) <;> (try dsimp only) <;> omega) (by have h1 := may_out hA; have h2 := may_out hB; simp [joined, foldTo, stepR] <;> (repeat' split) <;> (try dsimp only) <;> omega) (by have h1 := may_out hA; have h2 := may_out hB; simp [joined, foldTo, stepR] <;> (repeat' split) <;> (try dsimp only) <;> omega)) ?_
     refine r1 <| sO 57 480 1 rfl ?_
     refine c1 (refMay_any (joined a b)) [] [] 58 488 2 rfl rfl rfl rfl rfl rfl rfl rfl Tryd.func55 rfl rfl rfl rfl trivial rfl rfl ?_
     refine sT 59 496 3 rfl <| e1 504 rfl <| keep [4, 6, 59] rfl ?_
     refine q1 rfl (fun hc12 => ?_) (fun hc12 => ?_)
     try simp only [cs, ne_eq] at hc12
     refine r1 <| sT 60 504 1 rfl <| s0O 512 2 rfl rfl rfl rfl rfl <| sT 5 520 3 rfl <| e1 528 rfl <| keep [4, 5] rfl <| W_ret <| tr ?_
     exact outN (SV.tup [rollS (join a b).1, SV.i (join a b).2]) (π := []) (hout := []) Tryd.results24 rfl (by trivial) (by rw [join_over hA hB hc12]; rfl) rfl rfl trivial ⟨rfl, rfl⟩
     try simp only [cs, ne_eq] at hc12
     refine W_skip <| tn <| r1 <| sO 61 504 1 rfl <| s0O 512 2 rfl rfl rfl rfl rfl <| sT 5 520 3 rfl <| e1 528 rfl <| keep [4, 5] rfl <| W_ret ?_
     exact outN (SV.tup [rollS (join a b).1, SV.i (join a b).2]) (π := []) (hout := []) Tryd.results24 rfl (by trivial) (by rw [join_ok hA hB hc12]; rfl) rfl rfl trivial ⟨rfl, rfl⟩
   try simp only [cs, ne_eq] at hc7
   refine W_skip <| tn ?_
   refine torows 280 2 (intsF [a.lo, a.hi]) rfl (by decide) (Nat.le_refl _) (fun i c hi hc => by have hc1 : c < 1 := hc; obtain rfl : c = 0 := (by omega); match i, hi with | 0, _ => rfl | 1, _ => rfl) ?_
   refine freeze 7 280 2 rfl rfl (Nat.le_refl _) ?_
   refine r1 <| sT 49 320 1 rfl ?_
   refine c1 (rollOf_any [a.lo, a.hi] (by simp) (fold_in (l := [a.lo, a.hi]) (by simp) (fun j hj => by have := may_out hA; have := may_out hB; match j, hj with | 0, _ => (simp; omega) | 1, _ => (simp; omega)))) [] [] 50 328 2 rfl rfl rfl rfl rfl rfl rfl rfl Tryd.func52 rfl rfl rfl rfl trivial rfl rfl ?_
   refine sT 8 336 3 rfl <| s0O 344 4 rfl rfl rfl rfl rfl <| e1 352 rfl <| keep [4, 6, 8] rfl <| r1 <| sT 51 352 1 rfl <| sO 52 360 2 rfl <| sT 53 368 3 rfl <| s0O 376 4 rfl rfl rfl rfl rfl <| e1 384 rfl <| keep [4, 6, 8] rfl <| r1 <| sT 54 384 1 rfl <| sO 55 392 2 rfl <| sT 56 400 3 rfl <| s0O 408 4 rfl rfl rfl rfl rfl ?_
   refine e1 416 rfl <| keep [4, 6] rfl <| W_seq ?_
   refine chval 184 (rollBlk (joined a b)) rfl (blk_eq (by have h1 := may_out hA; have h2 := may_out hB; simp [joined, foldTo, stepR] <;> (repeat' split) <;> (try dsimp only) <;> omega) (by have h1 := may_out hA; have h2 := may_out hB; simp [joined, foldTo, stepR] <;> (repeat' split) <;> (try dsimp only) <;> omega) (by have h1 := may_out hA; have h2 := may_out hB; simp [joined, foldTo, stepR] <;> (repeat' split) <;> (try dsimp only) <;> omega) (by have h1 := may_out hA; have h2 := may_out hB; simp [joined, foldTo, stepR] <;> (repeat' split) <;> (try dsimp only) <;> omega)) ?_
   refine r1 <| sO 57 416 1 rfl ?_
   refine c1 (refMay_any (joined a b)) [] [] 58 424 2 rfl rfl rfl rfl rfl rfl rfl rfl Tryd.func55 rfl rfl rfl rfl trivial rfl rfl ?_
   refine sT 59 432 3 rfl <| e1 440 rfl <| keep [4, 6, 59] rfl ?_
   refine q1 rfl (fun hc12 => ?_) (fun hc12 => ?_)
   try simp only [cs, ne_eq] at hc12
   refine r1 <| sT 60 440 1 rfl <| s0O 448 2 rfl rfl rfl rfl rfl <| sT 5 456 3 rfl <| e1 464 rfl <| keep [4, 5] rfl <| W_ret <| tr ?_
   exact outN (SV.tup [rollS (join a b).1, SV.i (join a b).2]) (π := []) (hout := []) Tryd.results24 rfl (by trivial) (by rw [join_over hA hB hc12]; rfl) rfl rfl trivial ⟨rfl, rfl⟩
   try simp only [cs, ne_eq] at hc12
   refine W_skip <| tn <| r1 <| sO 61 440 1 rfl <| s0O 448 2 rfl rfl rfl rfl rfl <| sT 5 456 3 rfl <| e1 464 rfl <| keep [4, 5] rfl <| W_ret ?_
   exact outN (SV.tup [rollS (join a b).1, SV.i (join a b).2]) (π := []) (hout := []) Tryd.results24 rfl (by trivial) (by rw [join_ok hA hB hc12]; rfl) rfl rfl trivial ⟨rfl, rfl⟩
 try simp only [cs, ne_eq] at hc5
 refine W_skip <| tn <| W_seq <| r1 <| sT 39 232 1 rfl <| sO 40 240 2 rfl <| sO 41 248 3 rfl <| e1 256 rfl <| keep [3, 4, 6, 7, 41] rfl ?_
 refine q1 rfl (fun hc7 => ?_) (fun hc7 => ?_)
 · skip
   try simp only [cs, ne_eq] at hc7
   refine r0 ?_
   refine sT 42 256 1 rfl <| sT 43 264 2 rfl <| sO 44 272 3 rfl <| sT 45 280 4 rfl <| sO 46 288 5 rfl <| sT 47 296 6 rfl <| sO 48 304 7 rfl <| sT 7 312 8 rfl <| e1 320 rfl <| tn ?_
   refine torows 304 2 (intsF [b.lo, b.hi]) rfl (by decide) (Nat.le_refl _) (fun i c hi hc => by have hc1 : c < 1 := hc; obtain rfl : c = 0 := (by omega); match i, hi with | 0, _ => rfl | 1, _ => rfl) ?_
   refine freeze 7 304 2 rfl rfl (Nat.le_refl _) ?_
   refine r1 <| sT 49 320 1 rfl ?_
   refine c1 (rollOf_any [b.lo, b.hi] (by simp) (fold_in (l := [b.lo, b.hi]) (by simp) (fun j hj => by have := may_out hA; have := may_out hB; match j, hj with | 0, _ => (simp; omega) | 1, _ => (simp; omega)))) [] [] 50 328 2 rfl rfl rfl rfl rfl rfl rfl rfl Tryd.func52 rfl rfl rfl rfl trivial rfl rfl ?_
   refine sT 8 336 3 rfl <| s0O 344 4 rfl rfl rfl rfl rfl <| e1 352 rfl <| keep [4, 6, 8] rfl <| r1 <| sT 51 352 1 rfl <| sO 52 360 2 rfl <| sT 53 368 3 rfl <| s0O 376 4 rfl rfl rfl rfl rfl <| e1 384 rfl <| keep [4, 6, 8] rfl <| r1 <| sT 54 384 1 rfl <| sO 55 392 2 rfl <| sT 56 400 3 rfl <| s0O 408 4 rfl rfl rfl rfl rfl ?_
   refine e1 416 rfl <| keep [4, 6] rfl <| W_seq ?_
   refine chval 184 (rollBlk (joined a b)) rfl (blk_eq (by have h1 := may_out hA; have h2 := may_out hB; simp [joined, foldTo, stepR] <;> (repeat' split) <;> (try dsimp only) <;> omega) (by have h1 := may_out hA; have h2 := may_out hB; simp [joined, foldTo, stepR] <;> (repeat' split) <;> (try dsimp only) <;> omega) (by have h1 := may_out hA; have h2 := may_out hB; simp [joined, foldTo, stepR] <;> (repeat' split) <;> (try dsimp only) <;> omega) (by have h1 := may_out hA; have h2 := may_out hB; simp [joined, foldTo, stepR] <;> (repeat' split) <;> (try dsimp only) <;> omega)) ?_
   refine r1 <| sO 57 416 1 rfl ?_
   refine c1 (refMay_any (joined a b)) [] [] 58 424 2 rfl rfl rfl rfl rfl rfl rfl rfl Tryd.func55 rfl rfl rfl rfl trivial rfl rfl ?_
   refine sT 59 432 3 rfl <| e1 440 rfl <| keep [4, 6, 59] rfl ?_
   refine q1 rfl (fun hc12 => ?_) (fun hc12 => ?_)
   try simp only [cs, ne_eq] at hc12
   refine r1 <| sT 60 440 1 rfl <| s0O 448 2 rfl rfl rfl rfl rfl <| sT 5 456 3 rfl <| e1 464 rfl <| keep [4, 5] rfl <| W_ret <| tr ?_
   exact outN (SV.tup [rollS (join a b).1, SV.i (join a b).2]) (π := []) (hout := []) Tryd.results24 rfl (by trivial) (by rw [join_over hA hB hc12]; rfl) rfl rfl trivial ⟨rfl, rfl⟩
   try simp only [cs, ne_eq] at hc12
   refine W_skip <| tn <| r1 <| sO 61 440 1 rfl <| s0O 448 2 rfl rfl rfl rfl rfl <| sT 5 456 3 rfl <| e1 464 rfl <| keep [4, 5] rfl <| W_ret ?_
   exact outN (SV.tup [rollS (join a b).1, SV.i (join a b).2]) (π := []) (hout := []) Tryd.results24 rfl (by trivial) (by rw [join_ok hA hB hc12]; rfl) rfl rfl trivial ⟨rfl, rfl⟩
 try simp only [cs, ne_eq] at hc7
 refine W_skip <| tn ?_
 refine ghostly 7 3 1 (intsF []) rfl ?_
 refine freeze 7 256 0 rfl rfl (Nat.le_refl _) ?_
 refine r1 <| sT 49 264 1 rfl ?_
 refine c1 (rollOf_any [] (by simp) (fold_in (l := []) (by simp) (fun j hj => by have := may_out hA; have := may_out hB; match j, hj with | j, hj => (simp at hj)))) [] [] 50 272 2 rfl rfl rfl rfl rfl rfl rfl rfl Tryd.func52 rfl rfl rfl rfl trivial rfl rfl ?_
 refine sT 8 280 3 rfl <| s0O 288 4 rfl rfl rfl rfl rfl <| e1 296 rfl <| keep [4, 6, 8] rfl <| r1 <| sT 51 296 1 rfl <| sO 52 304 2 rfl <| sT 53 312 3 rfl <| s0O 320 4 rfl rfl rfl rfl rfl <| e1 328 rfl <| keep [4, 6, 8] rfl <| r1 <| sT 54 328 1 rfl <| sO 55 336 2 rfl <| sT 56 344 3 rfl <| s0O 352 4 rfl rfl rfl rfl rfl ?_
 refine e1 360 rfl <| keep [4, 6] rfl <| W_seq ?_
 refine chval 184 (rollBlk (joined a b)) rfl (blk_eq (by have h1 := may_out hA; have h2 := may_out hB; simp [joined, foldTo, stepR] <;> (repeat' split) <;> (try dsimp only) <;> omega) (by have h1 := may_out hA; have h2 := may_out hB; simp [joined, foldTo, stepR] <;> (repeat' split) <;> (try dsimp only) <;> omega) (by have h1 := may_out hA; have h2 := may_out hB; simp [joined, foldTo, stepR] <;> (repeat' split) <;> (try dsimp only) <;> omega) (by have h1 := may_out hA; have h2 := may_out hB; simp [joined, foldTo, stepR] <;> (repeat' split) <;> (try dsimp only) <;> omega)) ?_
 refine r1 <| sO 57 360 1 rfl ?_
 refine c1 (refMay_any (joined a b)) [] [] 58 368 2 rfl rfl rfl rfl rfl rfl rfl rfl Tryd.func55 rfl rfl rfl rfl trivial rfl rfl ?_
 refine sT 59 376 3 rfl <| e1 384 rfl <| keep [4, 6, 59] rfl ?_
 refine q1 rfl (fun hc12 => ?_) (fun hc12 => ?_)
 try simp only [cs, ne_eq] at hc12
 refine r1 <| sT 60 384 1 rfl <| s0O 392 2 rfl rfl rfl rfl rfl <| sT 5 400 3 rfl <| e1 408 rfl <| keep [4, 5] rfl <| W_ret <| tr ?_
 exact outN (SV.tup [rollS (join a b).1, SV.i (join a b).2]) (π := []) (hout := []) Tryd.results24 rfl (by trivial) (by rw [join_over hA hB hc12]; rfl) rfl rfl trivial ⟨rfl, rfl⟩
 try simp only [cs, ne_eq] at hc12
 refine W_skip <| tn <| r1 <| sO 61 384 1 rfl <| s0O 392 2 rfl rfl rfl rfl rfl <| sT 5 400 3 rfl <| e1 408 rfl <| keep [4, 5] rfl <| W_ret ?_
 exact outN (SV.tup [rollS (join a b).1, SV.i (join a b).2]) (π := []) (hout := []) Tryd.results24 rfl (by trivial) (by rw [join_ok hA hB hc12]; rfl) rfl rfl trivial ⟨rfl, rfl⟩
end Go.Proofs.YtpdojmebloekgaaDoor.Nice.Co.J
namespace Go.Proofs.YtpdojmebloekgaaDoor.Nice.Co
open Go
set_option linter.unusedVariables false
set_option linter.unusedSimpArgs false
set_option maxRecDepth 100000
theorem Spec.anyG {P : Program} {Gv : Nat → SV} {f : FuncId} {args : List SV} {hin : List Blk} {post : SV → List (Option Blk) → Prop} (h : Spec P J.G0 f args hin post) : Spec P Gv f args hin post :=
 fun K A F M ρ vs w h0 h1 h2 h3 h4 h5 => h K A F M ρ vs w h0 (fun g ρ => .any _) h2 h3 h4 h5
def toJ (r : Roll) : J.Roll := ⟨r.c, r.lo, r.hi, r.s⟩
def ofJ (r : J.Roll) : Roll := ⟨r.c, r.lo, r.hi, r.s⟩
def joinR (a b : Roll) : Roll := ofJ (J.join (toJ a) (toJ b)).1
def joinE (a b : Roll) : Int := (J.join (toJ a) (toJ b)).2
theorem joinR_any (a b : Roll) : Spec Tryd.prog GC 23 [rollS a, rollS b] [] (fun r ho => r = SV.tup [rollS (joinR a b), SV.i (joinE a b)] ∧ ho = []) := (J.join_any (toJ a) (toJ b)).anyG
theorem refJoinR_any (a b : Roll) : Spec Tryd.prog GC 24 [rollS a, rollS b] [] (fun r ho => r = SV.tup [rollS (joinR a b), SV.i (joinE a b)] ∧ ho = []) := (J.refJoin_any (toJ a) (toJ b)).anyG
def totTo (L : List (List Int)) : Nat → Roll
 | 0 => ⟨0, 0, 0, 0⟩
 | n + 1 => joinR (totTo L n) (rR (L.getD n []))
def totR (L : List (List Int)) : Roll := if 100 < L.length then ⟨0, 0, 0, 0⟩ else if firstR L = 0 then totTo L L.length else ⟨0, 0, 0, 0⟩
def totE (L : List (List Int)) : Int := if 100 < L.length then 1 else firstR L
def totAns (L : List (List Int)) : SV := .tup [rollS (totR L), SV.i (totE L)]
theorem totAns_size {L : List (List Int)} (hL : 100 < L.length) : totAns L = .tup [rollS ⟨0, 0, 0, 0⟩, SV.i 1] := by unfold totAns totR totE; rw [if_pos hL, if_pos hL]
theorem totAns_bad {L : List (List Int)} (hL : L.length ≤ 100) (h : firstR L ≠ 0) : totAns L = .tup [rollS ⟨0, 0, 0, 0⟩, SV.i (firstR L)] := by unfold totAns totR totE; rw [if_neg (by omega), if_neg h, if_neg (by omega)]
theorem totAns_ok {L : List (List Int)} (hL : L.length ≤ 100) (h : firstR L = 0) : totAns L = .tup [rollS (totTo L L.length), SV.i 0] := by unfold totAns totR totE; rw [if_neg (by omega), if_pos h, if_neg (by omega), h]
theorem free_roll (r : Roll) : Free (rollS r) := free_agg (data_all rfl)
theorem ren_roll (π : List Nat) (r : Roll) (e : Int) : ren π (.tup [rollS r, SV.i e]) = .tup [rollS r, SV.i e] := rfl
noncomputable def tailT : Code := match Tryd.f11.body.getD .skip with | .seq _ (.seq _ c) => c | _ => .skip
theorem tailT_ok (L : List (List Int)) (hL : L.length ≤ 100) : W ⟨Tryd.prog, 29, 0, GC⟩ tailT (outQ ⟨Tryd.prog, 29, 0, GC⟩ Tryd.f11 (fun r _ => r = .tup [rollS (totTo L L.length), SV.i 0])) (stOf [(2, .ptr 0 0 0), (4, rollsV L), (5, SV.i 0)] [some (.cells 33 4 [SV.i 0, SV.i 0, SV.i 0, SV.i 0])]) := by
 show W _ _ _ ⟨tOf _, hOf _, 1⟩
 refine r1 <| sT 6 1 1 rfl <| e1 9 rfl <| keep [2, 4, 5, 6] rfl <| W_seq <| r1 <| sT 14 9 1 rfl <| sO 15 17 2 rfl <| sT 16 25 3 rfl <| e1 33 rfl <| keep [2, 5, 6, 14, 15, 16] rfl <| W_block ?_
 refine loop (α := Nat) 2 (fun n => [(2, .ptr 0 0 0), (5, SV.i 0), (6, .ptr 1 0 0), (14, rollsV L), (15, SV.i L.length), (16, SV.i (n))]) (fun n => [some (.cells 33 4 [SV.i 0, SV.i 0, SV.i 0, SV.i 0]), some (rollBlk (totTo L (n)))]) (fun n => (n) ≤ L.length) (fun n => L.length - (n)) (((0) : Nat)) [0, 1] (fun _ => rfl) (show (0) ≤ L.length from (Nat.zero_le _)) rfl ⟨rfl, rfl, rfl, rfl, rfl, rfl, trivial⟩ ⟨rfl, rfl, trivial⟩ (fun n hx => ?_)
 show W _ _ _ ⟨tOf [(2, .ptr 0 0 0), (5, SV.i 0), (6, .ptr 1 0 0), (14, rollsV L), (15, SV.i L.length), (16, SV.i n)], hOf [some (.cells 33 4 [SV.i 0, SV.i 0, SV.i 0, SV.i 0]), some (rollBlk (totTo L n))], 2⟩
 have hx : n ≤ L.length := hx
 refine r1 <| sO 17 2 1 rfl <| e1 10 rfl <| keep [2, 5, 6, 14, 15, 16, 17] rfl <| W_seq ?_
 refine q1 rfl (fun hc4 => ?_) (fun hc4 => ?_)
 try simp only [cs, ne_eq] at hc4
 refine W_skip <| tn <| W_seq <| W_block <| r1 <| sO 18 10 1 rfl <| sO 19 18 2 rfl ?_
 refine val 19 (rollS (rR (L.getD n []))) rfl (by simp only [Int.toNat_natCast, Nat.zero_add]; rfl) ?_
 refine sT 8 26 3 rfl <| s0O 34 4 rfl rfl rfl rfl rfl <| e1 42 rfl <| keep [2, 5, 6, 8, 14, 15, 16] rfl ?_
 refine r0 ?_
 refine sO 21 42 1 rfl ?_
 refine val 21 (rollS (totTo L n)) rfl rfl ?_
 refine sO 22 50 2 rfl ?_
 refine val 22 (rollS (rR (L.getD n []))) rfl rfl ?_
 refine c1 (joinR_any (totTo L n) (rR (L.getD n []))) [] [] 23 58 3 rfl rfl rfl rfl rfl rfl rfl rfl Tryd.func23 rfl rfl rfl rfl trivial rfl rfl ?_
 refine sT 20 66 4 rfl <| sT 24 74 5 rfl <| sT 25 82 6 rfl <| s0O 90 7 rfl rfl rfl rfl rfl <| e1 98 rfl <| bn <| tn ?_
 refine r0 ?_
 refine sAO 26 98 1 rfl <| sT 16 106 2 rfl <| e1 114 rfl <| tn ?_
 exact again ((n + 1 : Nat)) [0, 1] (show (n + 1) ≤ L.length from (by omega)) (show L.length - (n + 1) < L.length - n from (by omega)) rfl ⟨rfl, rfl, rfl, rfl, rfl, rfl, trivial⟩ ⟨rfl, rfl, trivial⟩
 try simp only [cs, ne_eq] at hc4
 refine W_exit <| tx <| tx <| bx <| tn ?_
 obtain rfl : n = L.length := (by omega)
 refine r1 <| sO 27 10 1 rfl <| sT 28 18 2 rfl <| s0O 26 3 rfl rfl rfl rfl rfl <| sT 3 34 4 rfl <| e1 42 rfl <| keep [2, 3] rfl <| W_ret ?_
 exact outN (SV.tup [rollS (totTo L L.length), SV.i 0]) (π := []) (hout := []) Tryd.results11 rfl (by trivial) rfl rfl rfl trivial rfl
theorem tailT_nil (e : Int) : W ⟨Tryd.prog, 29, 0, GC⟩ tailT (outQ ⟨Tryd.prog, 29, 0, GC⟩ Tryd.f11 (fun r _ => r = .tup [rollS ⟨0, 0, 0, 0⟩, SV.i e])) (stOf [(2, .ptr 0 0 0), (4, .d .nils), (5, SV.i e)] [some (.cells 33 4 [SV.i 0, SV.i 0, SV.i 0, SV.i 0])]) := by
 show W _ _ _ ⟨tOf _, hOf _, 1⟩
 refine r1 <| sT 6 1 1 rfl <| e1 9 rfl <| keep [2, 4, 5, 6] rfl <| W_seq <| r1 <| sT 14 9 1 rfl <| sO 15 17 2 rfl <| sT 16 25 3 rfl <| e1 33 rfl <| keep [2, 5, 6, 14, 15, 16] rfl <| W_block ?_
 refine W_unroll 1 ?_
 refine unr ?_
 refine r1 <| sO 17 33 1 rfl <| e1 41 rfl <| keep [2, 5, 6, 14, 15, 16, 17] rfl <| W_seq ?_
 refine q1 rfl (fun hc4 => ?_) (fun hc4 => ?_)
 exact absurd hc4 (by decide)
 try simp only [cs, ne_eq] at hc4
 refine W_exit <| tx <| tx <| bx <| tn <| r1 <| sO 27 41 1 rfl <| sT 28 49 2 rfl <| s0O 57 3 rfl rfl rfl rfl rfl <| sT 3 65 4 rfl <| e1 73 rfl <| keep [2, 3] rfl <| W_ret ?_
 exact outN (SV.tup [rollS ⟨0, 0, 0, 0⟩, SV.i e]) (π := []) (hout := []) Tryd.results11 rfl (by trivial) rfl rfl rfl trivial rfl
theorem total_any {Pst : Value → World → Prop} (L : List (List Int)) (hin : ∀ l, l ∈ L → Bytes l) (Rd : Blks) : SpecX Tryd.prog GC 11 [listR L] (trPre Tryd.prog Pst Rd .p0) (fun K r => r = totAns L ∧ Ends Pst K) := by
 refine fnx_intro Tryd.func11 rfl rfl ?_
 refine x1 ?_
 refine sT 2 0 1 rfl <| sT 3 8 2 rfl <| e1 16 rfl ?_
 refine xX1 ?_
 refine RX_ops PZ.up [_] 0 _ (fun j hj => by simp at hj; subst hj; rfl) ?_
 refine sT 10 16 1 rfl <| e1 72 rfl ?_
 refine RX_callF (Pr := fun r => r = rolAns L) (Q := Ends Pst) PZ.up rfl rfl rfl rfl Tryd.func9 rfl (fun s hX => rolls_any L hin Rd) rfl (data_all rfl) rfl ?_
 rintro K' r rfl hE
 by_cases hL : 100 < L.length
 · rw [ansR_size hL]
   refine RX_ops PZ.up [_, _, _, _, _] 2 _ (fun j hj => by simp at hj; match j, hj with | 0, _ => rfl | 1, _ => rfl | 2, _ => rfl | 3, _ => rfl | 4, _ => rfl) ?_
   refine sT 9 32 3 rfl <| sT 12 40 4 rfl <| sT 13 48 5 rfl <| sT 4 56 6 rfl <| sT 5 64 7 rfl <| e1 72 rfl ?_
   refine RX_end rfl rfl ?_
   refine xtn ?_
   refine WX_sub [0] [(2, .ptr 0 0 0), (4, .d .nils), (5, SV.i 1)] [some (.cells 33 4 [SV.i 0, SV.i 0, SV.i 0, SV.i 0])] ⟨rfl, ⟨rfl, rfl, rfl, trivial⟩, ⟨rfl, trivial⟩⟩ (WX_last (tailT_nil 1) ?_)
   rintro π r ho rfl
   rw [ren_roll]
   exact ⟨free_two (free_roll _) (free_data rfl), (totAns_size hL).symm, hE⟩
 have hL : L.length ≤ 100 := by omega
 by_cases h0 : firstR L = 0
 · rw [ansR_ok hL h0]
   refine RX_ops PZ.up [_, _, _, _, _] 2 _ (fun j hj => by simp at hj; match j, hj with | 0, _ => rfl | 1, _ => rfl | 2, _ => rfl | 3, _ => rfl | 4, _ => rfl) ?_
   refine sT 9 32 3 rfl <| sT 12 40 4 rfl <| sT 13 48 5 rfl <| sT 4 56 6 rfl <| sT 5 64 7 rfl <| e1 72 rfl ?_
   refine RX_end rfl rfl ?_
   refine xtn ?_
   refine WX_sub [0] [(2, .ptr 0 0 0), (4, rollsV L), (5, SV.i 0)] [some (.cells 33 4 [SV.i 0, SV.i 0, SV.i 0, SV.i 0])] ⟨rfl, ⟨rfl, rfl, rfl, trivial⟩, ⟨rfl, trivial⟩⟩ (WX_last (tailT_ok L hL) ?_)
   rintro π r ho rfl
   rw [ren_roll]
   exact ⟨free_two (free_roll _) (free_data rfl), (totAns_ok hL h0).symm, hE⟩
 · rw [ansR_bad hL h0]
   refine RX_ops PZ.up [_, _, _, _, _] 2 _ (fun j hj => by simp at hj; match j, hj with | 0, _ => rfl | 1, _ => rfl | 2, _ => rfl | 3, _ => rfl | 4, _ => rfl) ?_
   refine sT 9 32 3 rfl <| sT 12 40 4 rfl <| sT 13 48 5 rfl <| sT 4 56 6 rfl <| sT 5 64 7 rfl <| e1 72 rfl ?_
   refine RX_end rfl rfl ?_
   refine xtn ?_
   refine WX_sub [0] [(2, .ptr 0 0 0), (4, .d .nils), (5, SV.i (firstR L))] [some (.cells 33 4 [SV.i 0, SV.i 0, SV.i 0, SV.i 0])] ⟨rfl, ⟨rfl, rfl, rfl, trivial⟩, ⟨rfl, trivial⟩⟩ (WX_last (tailT_nil (firstR L)) ?_)
   rintro π r ho rfl
   rw [ren_roll]
   exact ⟨free_two (free_roll _) (free_data rfl), (totAns_bad hL h0).symm, hE⟩
end Go.Proofs.YtpdojmebloekgaaDoor.Nice.Co
namespace Go.Proofs.YtpdojmebloekgaaDoor.Nice.Co
open Go
set_option linter.unusedVariables false
set_option linter.unusedSimpArgs false
set_option maxRecDepth 100000
theorem refTot_size (L : List (List Int)) (hL : 100 < L.length) : Spec Tryd.prog GC 12 [listR L] [] (fun r ho => r = totAns L ∧ ho = []) := by
 refine start 29 0 Tryd.func12 rfl rfl rfl rfl ?_
 refine r1 <| sT 2 0 1 rfl <| sT 3 8 2 rfl <| e1 16 rfl <| keep [0, 2] rfl <| r1 <| sT 10 16 1 rfl ?_
 refine c1 (refRol_size L hL) [] [] 11 24 2 rfl rfl rfl rfl rfl rfl rfl rfl Tryd.func10 rfl rfl rfl rfl trivial rfl rfl ?_
 refine sT 9 32 3 rfl <| sT 12 40 4 rfl <| sT 13 48 5 rfl <| sT 4 56 6 rfl <| sT 5 64 7 rfl <| e1 72 rfl <| keep [2, 4, 5] rfl <| r1 <| sT 6 72 1 rfl <| e1 80 rfl <| keep [2, 4, 5, 6] rfl <| W_seq <| r1 <| sT 14 80 1 rfl <| sO 15 88 2 rfl <| sT 16 96 3 rfl ?_
 refine e1 104 rfl <| keep [2, 5, 6, 14, 15, 16] rfl <| W_block ?_
 refine W_unroll 1 ?_
 refine unr ?_
 refine r1 <| sO 17 104 1 rfl <| e1 112 rfl <| keep [2, 5, 6, 14, 15, 16, 17] rfl <| W_seq ?_
 refine q1 rfl (fun hc4 => ?_) (fun hc4 => ?_)
 exact absurd hc4 (by decide)
 try simp only [cs, ne_eq] at hc4
 refine W_exit <| tx <| tx <| bx <| tn <| r1 <| sO 27 112 1 rfl <| sT 28 120 2 rfl <| s0O 128 3 rfl rfl rfl rfl rfl <| sT 3 136 4 rfl <| e1 144 rfl <| keep [2, 3] rfl <| W_ret ?_
 exact outN (SV.tup [rollS ⟨0, 0, 0, 0⟩, SV.i 1]) (π := []) (hout := []) Tryd.results12 rfl (by trivial) rfl rfl rfl trivial ⟨(totAns_size hL).symm, rfl⟩
theorem refTot_bad (L : List (List Int)) (hin : ∀ l, l ∈ L → Bytes l) (hL : L.length ≤ 100) (h0 : firstR L ≠ 0) : Spec Tryd.prog GC 12 [listR L] [] (fun r ho => r = totAns L ∧ ho = []) := by
 refine start 29 0 Tryd.func12 rfl rfl rfl rfl ?_
 refine r1 <| sT 2 0 1 rfl <| sT 3 8 2 rfl <| e1 16 rfl <| keep [0, 2] rfl <| r1 <| sT 10 16 1 rfl ?_
 refine c1 (refRol_bad L hin hL h0) [] [] 11 24 2 rfl rfl rfl rfl rfl rfl rfl rfl Tryd.func10 rfl rfl rfl rfl trivial rfl rfl ?_
 refine sT 9 32 3 rfl <| sT 12 40 4 rfl <| sT 13 48 5 rfl <| sT 4 56 6 rfl <| sT 5 64 7 rfl <| e1 72 rfl <| keep [2, 4, 5] rfl <| r1 <| sT 6 72 1 rfl <| e1 80 rfl <| keep [2, 4, 5, 6] rfl <| W_seq <| r1 <| sT 14 80 1 rfl <| sO 15 88 2 rfl <| sT 16 96 3 rfl ?_
 refine e1 104 rfl <| keep [2, 5, 6, 14, 15, 16] rfl <| W_block ?_
 refine W_unroll 1 ?_
 refine unr ?_
 refine r1 <| sO 17 104 1 rfl <| e1 112 rfl <| keep [2, 5, 6, 14, 15, 16, 17] rfl <| W_seq ?_
 refine q1 rfl (fun hc4 => ?_) (fun hc4 => ?_)
 exact absurd hc4 (by decide)
 try simp only [cs, ne_eq] at hc4
 refine W_exit <| tx <| tx <| bx <| tn <| r1 <| sO 27 112 1 rfl <| sT 28 120 2 rfl <| s0O 128 3 rfl rfl rfl rfl rfl <| sT 3 136 4 rfl <| e1 144 rfl <| keep [2, 3] rfl <| W_ret ?_
 exact outN (SV.tup [rollS ⟨0, 0, 0, 0⟩, SV.i (firstR L)]) (π := []) (hout := []) Tryd.results12 rfl (by trivial) rfl rfl rfl trivial ⟨(totAns_bad hL h0).symm, rfl⟩
theorem refTot_ok (L : List (List Int)) (hin : ∀ l, l ∈ L → Bytes l) (hL : L.length ≤ 100) (h0 : firstR L = 0) : Spec Tryd.prog GC 12 [listR L] [] (fun r ho => r = totAns L ∧ ho = []) := by
 refine start 29 0 Tryd.func12 rfl rfl rfl rfl ?_
 refine r1 <| sT 2 0 1 rfl <| sT 3 8 2 rfl <| e1 16 rfl <| keep [0, 2] rfl <| r1 <| sT 10 16 1 rfl ?_
 refine c1 (refRol_ok L hin hL h0) [] [24] 11 24 2 rfl rfl rfl rfl rfl rfl rfl rfl Tryd.func10 rfl rfl rfl rfl trivial rfl rfl ?_
 refine sT 9 32 3 rfl <| sT 12 40 4 rfl <| sT 13 48 5 rfl <| sT 4 56 6 rfl <| sT 5 64 7 rfl <| e1 72 rfl <| keep [2, 4, 5] rfl ?_
 refine freeze 4 24 L.length rfl rfl (Nat.le_refl _) ?_
 refine r1 <| sT 6 72 1 rfl <| e1 80 rfl <| keep [2, 4, 5, 6] rfl <| W_seq <| r1 <| sT 14 80 1 rfl <| sO 15 88 2 rfl <| sT 16 96 3 rfl <| e1 104 rfl <| keep [2, 5, 6, 14, 15, 16] rfl <| W_block ?_
 refine loop (α := Nat) 2 (fun n => [(2, .ptr 0 0 0), (5, SV.i 0), (6, .ptr 1 0 0), (14, rollsV L), (15, SV.i L.length), (16, SV.i (n))]) (fun n => [some (.cells 33 4 [SV.i 0, SV.i 0, SV.i 0, SV.i 0]), some (rollBlk (totTo L (n)))]) (fun n => (n) ≤ L.length) (fun n => L.length - (n)) (((0) : Nat)) [0, 72] (fun _ => rfl) (show (0) ≤ L.length from (Nat.zero_le _)) rfl ⟨rfl, rfl, rfl, rfl, rfl, rfl, trivial⟩ ⟨rfl, rfl, trivial⟩ (fun n hx => ?_)
 show W _ _ _ ⟨tOf [(2, .ptr 0 0 0), (5, SV.i 0), (6, .ptr 1 0 0), (14, rollsV L), (15, SV.i L.length), (16, SV.i n)], hOf [some (.cells 33 4 [SV.i 0, SV.i 0, SV.i 0, SV.i 0]), some (rollBlk (totTo L n))], 2⟩
 have hx : n ≤ L.length := hx
 refine r1 <| sO 17 2 1 rfl <| e1 10 rfl <| keep [2, 5, 6, 14, 15, 16, 17] rfl <| W_seq ?_
 refine q1 rfl (fun hc4 => ?_) (fun hc4 => ?_)
 try simp only [cs, ne_eq] at hc4
 refine W_skip <| tn <| W_seq <| W_block <| r1 <| sO 18 10 1 rfl <| sO 19 18 2 rfl ?_
 refine val 19 (rollS (rR (L.getD n []))) rfl (by simp only [Int.toNat_natCast, Nat.zero_add]; rfl) ?_
 refine sT 8 26 3 rfl <| s0O 34 4 rfl rfl rfl rfl rfl <| e1 42 rfl <| keep [2, 5, 6, 8, 14, 15, 16] rfl ?_
 refine r0 ?_
 refine sO 21 42 1 rfl ?_
 refine val 21 (rollS (totTo L n)) rfl rfl ?_
 refine sO 22 50 2 rfl ?_
 refine val 22 (rollS (rR (L.getD n []))) rfl rfl ?_
 refine c1 (refJoinR_any (totTo L n) (rR (L.getD n []))) [] [] 23 58 3 rfl rfl rfl rfl rfl rfl rfl rfl Tryd.func24 rfl rfl rfl rfl trivial rfl rfl ?_
 refine sT 20 66 4 rfl <| sT 24 74 5 rfl <| sT 25 82 6 rfl <| s0O 90 7 rfl rfl rfl rfl rfl <| e1 98 rfl <| bn <| tn ?_
 refine r0 ?_
 refine sAO 26 98 1 rfl <| sT 16 106 2 rfl <| e1 114 rfl <| tn ?_
 exact again ((n + 1 : Nat)) [0, 1] (show (n + 1) ≤ L.length from (by omega)) (show L.length - (n + 1) < L.length - n from (by omega)) rfl ⟨rfl, rfl, rfl, rfl, rfl, rfl, trivial⟩ ⟨rfl, rfl, trivial⟩
 try simp only [cs, ne_eq] at hc4
 refine W_exit <| tx <| tx <| bx <| tn ?_
 obtain rfl : n = L.length := (by omega)
 refine r1 <| sO 27 10 1 rfl <| sT 28 18 2 rfl <| s0O 26 3 rfl rfl rfl rfl rfl <| sT 3 34 4 rfl <| e1 42 rfl <| keep [2, 3] rfl <| W_ret ?_
 exact outN (SV.tup [rollS (totTo L L.length), SV.i 0]) (π := []) (hout := []) Tryd.results12 rfl (by trivial) rfl rfl rfl trivial ⟨(totAns_ok hL h0).symm, rfl⟩
theorem refTot_any (L : List (List Int)) (hin : ∀ l, l ∈ L → Bytes l) : Spec Tryd.prog GC 12 [listR L] [] (fun r ho => r = .tup [rollS (totR L), SV.i (totE L)] ∧ ho = []) := by
 by_cases hL : 100 < L.length
 · exact refTot_size L hL
 · by_cases h0 : firstR L = 0
   · exact refTot_ok L hin (by omega) h0
   · exact refTot_bad L hin (by omega) h0
noncomputable def tailLT : Code := match Tryd.f5.body.getD .skip with | .seq _ (.seq _ c) => c | _ => .skip
theorem lawT_any (L : List (List Int)) (hin : ∀ l, l ∈ L → Bytes l) : W ⟨Tryd.prog, 25, 0, GC⟩ tailLT (outQ ⟨Tryd.prog, 25, 0, GC⟩ Tryd.f5 (fun r _ => r = SV.b true)) (stOf [(0, listR L), (3, .ptr 0 0 0), (4, SV.i (totE L))] [some (rollBlk (totR L))]) := by
 show W _ _ _ ⟨tOf _, hOf _, 1⟩
 refine r1 <| sT 13 1 1 rfl ?_
 refine c1 (refTot_any L hin) [] [] 14 9 2 rfl rfl rfl rfl rfl rfl rfl rfl Tryd.func12 rfl rfl rfl rfl trivial rfl rfl ?_
 refine sT 12 17 3 rfl <| sT 15 25 4 rfl <| sT 16 33 5 rfl <| sT 5 41 6 rfl <| s0O 49 7 rfl rfl rfl rfl rfl <| sT 6 57 8 rfl <| e1 65 rfl <| keep [3, 4, 5, 6] rfl <| r1 <| sO 17 65 1 rfl ?_
 refine val 17 (rollS (totR L)) rfl rfl ?_
 refine sO 18 73 2 rfl ?_
 refine val 18 (rollS (totR L)) rfl rfl ?_
 refine sEq (op := .eql) 19 81 3 rfl rfl rfl rfl rfl rfl rfl rfl rfl (by kernel_rfl) (by kernel_rfl) rfl (.inl ⟨rfl, rfl⟩) ?_
 refine sT 20 89 4 rfl ?_
 refine ask 20 rfl (fun hg3_20 => ?_) (fun hg3_20 => ?_)
 try simp only [cs, ne_eq] at hg3_20
 refine gT 3 true 20 5 rfl rfl <| sT 21 97 5 rfl <| gT 3 true 20 6 rfl rfl <| sT 22 105 6 rfl <| gT 3 true 20 7 rfl rfl <| sO 23 113 7 rfl <| sT 24 121 8 rfl <| sT 2 129 9 rfl <| e1 137 rfl <| keep [2] rfl <| W_ret ?_
 exact out1 2 (SV.b true) (π := []) (hout := []) Tryd.results5 rfl (by first | rfl | (simp; done) | (simp; rfl) | (simp [*]; rfl)) rfl rfl trivial rfl
 try simp only [cs, ne_eq] at hg3_20
 all_goals (exfalso; first | (simp at hg3_20; done) | (simp at hg3_20; omega) | (simp_all; omega) | omega)
theorem lawCT (Pst : Value → World → Prop) (Rd : Blks) (L : List (List Int)) (hin : ∀ l, l ∈ L → Bytes l) : WX ⟨Tryd.prog, 25, 0, GC⟩ (Tryd.f5.body.getD .skip) (outQX ⟨Tryd.prog, 25, 0, GC⟩ Tryd.f5 (fun K r => r = SV.b true ∧ Ends Pst K)) (trPre Tryd.prog Pst Rd .p0) [] (stOf (argT 0 [listR L]) []) := by
 refine x1 ?_
 refine sT 2 0 1 rfl <| e1 8 rfl ?_
 refine xX1 ?_
 refine RX_ops PZ.up [_] 0 _ (fun j hj => by simp at hj; subst hj; rfl) ?_
 refine sT 8 8 1 rfl <| e1 72 rfl ?_
 refine RX_call PZ.up rfl rfl rfl rfl Tryd.func11 rfl (total_any L hin Rd) rfl (data_all rfl) (fun n => rfl) rfl ?_
 rintro K' r ⟨rfl, hE⟩
 refine RX_ops PZ.up [_, _, _, _, _, _] 2 _ (fun j hj => by simp at hj; match j, hj with | 0, _ => rfl | 1, _ => rfl | 2, _ => rfl | 3, _ => rfl | 4, _ => rfl | 5, _ => rfl) ?_
 refine sT 7 24 3 rfl <| sT 10 32 4 rfl <| sT 11 40 5 rfl <| sT 3 48 6 rfl ?_
 refine s0 56 7 rfl rfl rfl rfl rfl trivial ?_
 refine sT 4 64 8 rfl <| e1 72 rfl ?_
 refine RX_end rfl rfl ?_
 refine xtn ?_
 refine WX_sub [48] [(0, listR L), (3, .ptr 0 0 0), (4, SV.i (totE L))] [some (rollBlk (totR L))] ⟨rfl, ⟨rfl, rfl, rfl, trivial⟩, ⟨rfl, trivial⟩⟩ (WX_last (lawT_any L hin) ?_)
 rintro π r ho rfl
 exact ⟨free_data rfl, rfl, hE⟩
end Go.Proofs.YtpdojmebloekgaaDoor.Nice.Co
namespace Go.Proofs.YtpdojmebloekgaaDoor
open Go Nice Nice.Co Go.Conc
set_option linter.unusedVariables false
set_option maxRecDepth 100000
theorem crewTotals_walk {H : Type} {enc : TypeId × Value → H} (v0 : Value) {b0 : Nat} {d0 : DataW H} {p0 : List MemPlace} {s0 : Nat → Bool} {e0 : Bool} {c0 : Nat} (W : World) (o0 : Value.okWide Tryd.prog W .any b0 23 v0) (k0 : DataW.Trod enc Tryd.prog W c0 s0 e0 23 v0 d0 p0) (hs : ClassesAt W) (hsz : ∀ (a : Addr) (len cap : Nat), v0 = .slice (some a) len cap → ∀ (i : Nat), i < len → ∀ a' len' cap', W.cell? (a.add i) = some (.slice a' len' cap') → len' ≤ reachBytes) :
   ∃ M last o w' t', runNT Tryd.prog (M + 1) (solo (G (Frame.enter Tryd.prog 5 #[v0] .normal) []) W) #[] = (.ended o w', t') ∧ runN Tryd.prog M (solo (G (Frame.enter Tryd.prog 5 #[v0] .normal) []) W) = .next last ∧
     Go.step Tryd.prog last = .ended o w' ∧ Conc.Good Tryd.prog (fun v W' => v = .bool true ∧ RowKit.Below W.heap.size W W') last o w' t' := by
 obtain ⟨l0, hl0, hv0⟩ := arg_slice (P := Tryd.prog) (t := 23) (b0 := b0) (.slice (.u8)) (fit_slice Tryd.underlying23 (by kernel_rfl) (by decide) (fit_slice Tryd.underlying39 (by kernel_rfl) (by decide) (fit_u8 Tryd.underlying5))) o0 k0
 have hG := classes_G hs
 refine lawX_run (v := .bool true) Tryd.func5 rfl rfl (by kernel_rfl) rfl ?_ ?_ (fun Pst => lawCT Pst _ (l0.map ofB) (bytess_in l0 (dr_of (hv0 (fun _ => none))) hsz))
 · first | exact fun g ρ => .any _ | exact hG
 · intro i x hx
   match i, hx with
   | 0, hx => cases hx; exact ⟨v0, rfl, (.d _ _ (bytess_of l0 (dr_of (hv0 (fun _ => none)))))⟩
   | n + 1, hx => simp at hx
end Go.Proofs.YtpdojmebloekgaaDoor
namespace Go.Proofs.YtpdojmebloekgaaDoor
open Go Go.Conc
section
variable {H : Type} {enc : TypeId × Value → H}
theorem returnsInLeavingWide_of_row {a : Assume} {C : Checked} {os : Os} {f : FuncId} {fn : Func} {s : ChangeSpec} {conds : List PathCond} {apart fresh handsOn again : Bool} {laid : List (String × DataW Unit)}
   (own : ownKnob C.prog.godebug = none) (started : os.Started) (hfn : C.prog.funcs[f]? = some fn)
   (witness : ∃ (w : World) (tape : Tape) (i : Input), w.os = os ∧ (w.forCall tape i).Shaped C.prog ∧ i.vars = [] ∧ Input.okWide C.prog (w.forCall tape i) .any w.heap.size f i ∧
     (OpenSpec.ofChange s).preRow enc C.prog fn conds apart laid (w.forCall tape i).memory i.args ∧ a.holds C.prog (lone (Frame.enter C.prog f i.args .normal) [] (w.forCall tape i)))
   (runs : ∀ (W : World) (base : Nat) (args : Array Value) (ds gs : List (DataW H)) (before : List MemPlace),
     (∀ (j : Nat) t v, fn.params[j]? = some t → args[j]? = some v → Value.okWide C.prog W .any base t v) →
     DataW.Whole enc C.prog fn.params.toList s.vars apart W args.toList ds gs before →
     (DataW.weightsEach C.prog (fn.params.toList ++ (OpenSpec.ofChange s).bare.plain.varTypes C.prog) (ds ++ gs)).all (· ≤ reachBytes) = true →
     laidMetH C.prog laid W →
     ∃ M last o w' t', runNT C.prog (M + 1) (solo (G (Frame.enter C.prog f args .normal) []) W) #[] = (.ended o w', t') ∧ runN C.prog M (solo (G (Frame.enter C.prog f args .normal) []) W) = .next last ∧
       step C.prog last = .ended o w' ∧ Conc.Good C.prog (fun v W' => s.post enc C.prog fn apart fresh handsOn again W args v W') last o w' t') :
   ReturnsInLeavingWide a C os f .any ((OpenSpec.ofChange s).preRow enc C.prog fn conds apart laid) (s.post enc C.prog fn apart fresh handsOn again) := by
 refine returnsInLeavingWide_of_good own started witness ?_
 intro w tape i _ _ _ hok hpre hholds
 obtain ⟨_, _, _, fn', hfn', _, _, _, _, hval⟩ := hok
 have e : fn' = fn := Option.some.inj (hfn'.symm.trans hfn)
 subst e
 obtain ⟨⟨hp, hl⟩, hz⟩ := hpre
 obtain ⟨ds, gs, before, hw, hc, hk⟩ := OpenSpec.pre_parts hp
 have hw' := DataW.Whole.of_heap (w' := w.forCall tape i) (by rfl) hw
 obtain ⟨M, last, o, w', t', h1, h2, h3, h4⟩ := runs (w.forCall tape i) w.heap.size i.args ds gs before hval hw' (hz.weights hw) (hl.of_heap (by rfl))
 exact ⟨M, last, o, w', t', h1, h2, h3, h4.mono fun v hp => ChangeSpec.post_blind hp⟩
end
theorem holds_tied_goes_at (Lk : Looks) {p : Pinned} {s : OpenSpec} {c : OpenClaim} (kinds : List LaidKind) (tests : Bool) (har : Bool × String) (lk : Bool)
   (hc : c.holds p s) (hw : c.wfByText s = true) (htie : c.laidByTextAt Lk p kinds tests)
   (hst : c.start = .entering) (hnb : c.noBlocks = false ∧ c.again = false) (hm : p.checked.prog.mainIs = some (har.1, har.2.toList)) (hn : (!har.1 && har.2.isEmpty && !lk) = false)
   (hl : ∀ f fn, p.checked.prog.funcNamed c.func = some f → p.checked.prog.funcs[f]? = some fn → lk = p.checked.prog.looks [] ∧ ∀ (j : Nat) t, fn.params[j]? = some t → p.checked.prog.wantsStandIn t = false)
   (hg : true = c.goesBy p.checked.prog) :
   Claim7.holds p (.plain s) { stood := { row := c, standIns := [], harness := har, looks := lk }, kinds := [], alts := [], goes := true, laidByText := true, laidKinds := kinds, laidTests := tests, laidLooks := Lk } := by
 have h6 : Claim7.isSixth { stood := { row := c, standIns := [], harness := har, looks := lk }, kinds := [] } = false := by simpa [Claim7.isSixth] using hn
 exact ⟨Claim7.tied_new_at Lk kinds tests (Claim7.new_of_sixth hc har lk hst hnb hm h6 hl) hw, (fun D hD => by cases hD), htie, (fun h => by cases h), hg⟩
end Go.Proofs.YtpdojmebloekgaaDoor
