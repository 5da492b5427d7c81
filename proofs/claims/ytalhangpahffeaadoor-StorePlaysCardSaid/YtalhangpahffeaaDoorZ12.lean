/- Part 12 of the proof of StorePlays: DocJ, StoN, ClassLaid, StorePlaysLaw. -/
import Derived.Test.YtalhangpahffeaaDoorZ11
import Derived.Test.YtalhangpahffeaaDoorRows
import Derived.Lib.LaidTab
import Derived.ChangeArms
import Derived.OpenShut
namespace Go.Proofs.YtalhangpahffeaaDoor.Nice
open Go Go.Proofs
set_option linter.unusedVariables false
set_option linter.unusedSimpArgs false
set_option maxRecDepth 100000
set_option maxHeartbeats 1000000
abbrev lnsW : List Ln → SV
 | [] => .d .nils
 | x :: r => .sl 1 0 (x :: r).length
abbrev lnsC (Z : List Nat) : List Ln → Option Blk
 | [] => none
 | x :: r => some (.fam Z ⟨linL (x :: r), [], some (66, 3)⟩)
theorem doc_NN2 (d : Dd) (hd : DdIn d) {E : List Ev} (hE : E = []) {f : Fd} {L2 : List Ln} {E2 : List Ev} (hs : StepK d [] E f L2 E2) (h2 : L2 = []) : Spec Tryd.prog GF 9 [.ptr 0 0 0, ddV d] [.cells 49 3 [.d .nils, .sl 1 0 E.length, .sl 2 0 (fileB E).length], evB E, u8B (fileB E)] (fun r ho => r = fdV f ∧ ho = [some (.cells 49 3 [.d .nils, .sl 3 0 E2.length, .sl 4 0 (fileB E2).length]), none, none, some (evB E2), some (u8B (fileB E2))]) := by
 subst hE; exact doc_NN d hd hs h2
theorem doc_NL2 (d : Dd) (hd : DdIn d) {E : List Ev} (hE : E = []) {f : Fd} {L2 : List Ln} {E2 : List Ev} (hs : StepK d [] E f L2 E2) (h2 : 0 < L2.length) : Spec Tryd.prog GF 9 [.ptr 0 0 0, ddV d] [.cells 49 3 [.d .nils, .sl 1 0 E.length, .sl 2 0 (fileB E).length], evB E, u8B (fileB E)] (fun r ho => ∃ Z2, r = fdV f ∧ ho = [some (.cells 49 3 [.sl 3 0 L2.length, .sl 4 0 E2.length, .sl 5 0 (fileB E2).length]), none, none, some (.fam Z2 ⟨linL L2, [], some (66, 3)⟩), some (evB E2), some (u8B (fileB E2))]) := by
 subst hE; exact doc_NL d hd hs h2
theorem play_cases {ds : List Dd} {n : Nat} {L1 : List Ln} (hd : ∀ i, i < ds.length → DdIn (ds.getD i default)) (hn : n ≤ ds.length) (hL : L1 = lnR ds n) :
   (n = ds.length) ∨
   (n < ds.length ∧ L1 = [] ∧ evR ds n = [] ∧ StepK (ds.getD n default) [] (evR ds n) (fR ds n) (lnR ds (n + 1)) (evR ds (n + 1)) ∧ lnR ds (n + 1) = []) ∨
   (n < ds.length ∧ L1 = [] ∧ evR ds n = [] ∧ ∃ y2 Y2, StepK (ds.getD n default) [] (evR ds n) (fR ds n) (y2 :: Y2) (evR ds (n + 1)) ∧ lnR ds (n + 1) = y2 :: Y2) ∨
   (n < ds.length ∧ ∃ y Y, L1 = y :: Y ∧ KOk (y :: Y) (evR ds n) ∧ StepK (ds.getD n default) (y :: Y) (evR ds n) (fR ds n) (lnR ds (n + 1)) (evR ds (n + 1)) ∧ lnR ds (n + 1) = []) ∨
   (n < ds.length ∧ ∃ y Y y2 Y2, L1 = y :: Y ∧ KOk (y :: Y) (evR ds n) ∧ StepK (ds.getD n default) (y :: Y) (evR ds n) (fR ds n) (y2 :: Y2) (evR ds (n + 1)) ∧ lnR ds (n + 1) = y2 :: Y2) := by
 rcases Nat.lt_or_ge n ds.length with h | h
 · refine .inr ?_
   have hok := run_at hd hn
   have hs := run_step ds n
   subst hL
   cases h1 : lnR ds n with
   | nil =>
     rw [h1] at hs hok
     have he : evR ds n = [] := no_ev hok.g hok.s.symm
     cases h2 : lnR ds (n + 1) with
     | nil => rw [h2] at hs; exact .inl ⟨h, rfl, he, hs, rfl⟩
     | cons y2 Y2 => rw [h2] at hs; exact .inr (.inl ⟨h, rfl, he, y2, Y2, hs, rfl⟩)
   | cons y Y =>
     rw [h1] at hs hok
     cases h2 : lnR ds (n + 1) with
     | nil => rw [h2] at hs; exact .inr (.inr (.inl ⟨h, y, Y, rfl, hok, hs, rfl⟩))
     | cons y2 Y2 => rw [h2] at hs; exact .inr (.inr (.inr ⟨h, y, Y, y2, Y2, rfl, hok, hs, rfl⟩))
 · exact .inl (by omega)
theorem played_big (ds : List Dd) (hl : ds.length ≤ 9223372036854775807) (hb : 300 < ds.length) : Spec Tryd.prog GF 5 [ddsV ds] [] (fun r ho => r = SV.tup [fdsV (outF ds), u8V (outB ds), SV.i (outE ds)] ∧ ho = []) := by
 have he1 : outF ds = [] := if_pos hb
 have he2 : outB ds = [] := if_pos hb
 have he3 : outE ds = 1 := if_pos hb
 rw [he1, he2, he3]
 refine start 32 0 Tryd.func5 rfl rfl rfl rfl ?_
 refine r1 <| sT 2 0 1 rfl <| sT 3 8 2 rfl <| sT 4 16 3 rfl <| e1 24 rfl <| keep [0] rfl <| W_seq <| r1 <| sT 9 24 1 rfl <| sO 10 32 2 rfl <| sO 11 40 3 rfl <| e1 48 rfl <| keep [0, 11] rfl ?_
 refine q1 rfl (fun hc1 => ?_) (fun hc1 => ?_)
 try simp only [cs, ne_eq] at hc1
 refine r1 <| sT 2 48 1 rfl <| sT 3 56 2 rfl <| sT 4 64 3 rfl <| e1 72 rfl <| keep [2, 3, 4] rfl ?_
 refine slotc 2 (fdsV []) rfl (nil_vec0 7 _) ?_
 refine slotc 3 (u8V []) rfl (nil_vec0 1 _) ?_
 refine W_ret <| tr ?_
 exact out3 2 3 4 (fdsV []) (u8V []) (SV.i 1) (π := []) (hout := []) Tryd.results5 rfl rfl rfl rfl rfl rfl rfl rfl trivial ⟨rfl, rfl⟩
 simp at hc1; omega
theorem played_ok (ds : List Dd) (hd : ∀ i, i < ds.length → DdIn (ds.getD i default)) (hs : ds.length ≤ 300) : Spec Tryd.prog GF 5 [ddsV ds] [] (fun r ho => r = SV.tup [fdsV (outF ds), u8V (outB ds), SV.i (outE ds)] ∧ ho = []) := by
 have he1 : outF ds = fdR ds ds.length := if_neg (by omega)
 have he2 : outB ds = fileB (evR ds ds.length) := if_neg (by omega)
 have he3 : outE ds = 0 := if_neg (by omega)
 rw [he1, he2, he3]
 refine start 32 0 Tryd.func5 rfl rfl rfl rfl ?_
 refine r1 <| sT 2 0 1 rfl <| sT 3 8 2 rfl <| sT 4 16 3 rfl <| e1 24 rfl <| keep [0] rfl <| W_seq <| r1 <| sT 9 24 1 rfl <| sO 10 32 2 rfl <| sO 11 40 3 rfl <| e1 48 rfl <| keep [0, 11] rfl ?_
 refine q1 rfl (fun hc1 => ?_) (fun hc1 => ?_)
 simp at hc1; omega
 try simp only [cs, ne_eq] at hc1
 refine W_skip <| tn <| r1 <| sT 12 48 1 rfl <| sT 13 56 2 rfl <| sT 5 64 3 rfl <| e1 72 rfl <| keep [0, 5] rfl ?_
 refine cghostly 56 1 60 5 (evF []) rfl rfl rfl ?_
 refine cghostly 56 2 5 1 (u8F []) rfl rfl rfl ?_
 refine r1 <| sT 6 88 1 rfl <| e1 96 rfl <| keep [0, 5, 6] rfl ?_
 refine ghostly 6 33 7 (fdF []) rfl ?_
 refine W_seq <| r1 <| sT 14 104 1 rfl <| sO 15 112 2 rfl <| sT 16 120 3 rfl <| e1 128 rfl <| keep [5, 6, 14, 15, 16] rfl <| W_block ?_
 refine loop (α := Nat × (List Nat) × (List Ln)) 5 (fun z => [(5, .ptr 0 0 0), (6, .sl 4 0 (fdR ds (z.1)).length), (14, ddsV ds), (15, SV.i ds.length), (16, SV.i (z.1))]) (fun z => [some (.cells 49 3 [lnsW (z.2.2), .sl 2 0 (evR ds (z.1)).length, .sl 3 0 (fileB (evR ds (z.1))).length]), lnsC (z.2.1) (z.2.2), some (evB (evR ds (z.1))), some (u8B (fileB (evR ds (z.1)))), some (fdsB (fdR ds (z.1)))]) (fun z => (z.1) ≤ ds.length ∧ (z.2.2) = lnR ds (z.1)) (fun z => ds.length - (z.1)) (((0, [], []) : Nat × (List Nat) × (List Ln))) [56, 0, 72, 80, 96] (fun _ => rfl) (show (0) ≤ ds.length ∧ ([]) = lnR ds (0) from ⟨Nat.zero_le _, rfl⟩) rfl ⟨rfl, rfl, rfl, rfl, rfl, trivial⟩ ⟨rfl, rfl, rfl, rfl, trivial⟩ (fun z hx => ?_)
 obtain ⟨n, Z1, L1⟩ := z
 show W _ _ _ ⟨tOf [(5, .ptr 0 0 0), (6, .sl 4 0 (fdR ds n).length), (14, ddsV ds), (15, SV.i ds.length), (16, SV.i n)], hOf [some (.cells 49 3 [lnsW L1, .sl 2 0 (evR ds n).length, .sl 3 0 (fileB (evR ds n)).length]), lnsC Z1 L1, some (evB (evR ds n)), some (u8B (fileB (evR ds n))), some (fdsB (fdR ds n))], 5⟩
 have hx : n ≤ ds.length ∧ L1 = lnR ds n := hx
 have hfl := fdR_len ds n
 obtain ⟨hnn, hLL⟩ := hx
 rcases play_cases hd hnn hLL with hlt | ⟨hlt, rfl, hE, hs2, hL2⟩ | ⟨hlt, rfl, hE, y2, Y2, hs2, hL2⟩ | ⟨hlt, y, Y, rfl, hok, hs2, hL2⟩ | ⟨hlt, y, Y, y2, Y2, rfl, hok, hs2, hL2⟩
 refine r1 <| sO 17 5 1 rfl <| e1 13 rfl <| keep [5, 6, 14, 15, 16, 17] rfl <| W_seq ?_
 refine q1 rfl (fun hc6 => ?_) (fun hc6 => ?_)
 exfalso; simp at hc6; omega
 try simp only [cs, ne_eq] at hc6
 refine W_exit <| tx <| tx <| bx <| tn ?_
 have hne : n = ds.length := (by omega)
 subst hne
 refine rd1 rfl ?_
 refine dT 27 13 1 rfl <| dT 28 21 2 rfl <| dT 29 29 3 rfl <| dT 30 37 4 rfl <| dO 31 45 5 rfl <| dT 2 53 6 rfl <| dT 3 61 7 rfl <| dT 4 69 8 rfl <| de1 77 rfl (by kernel_rfl) <| keep [2, 3, 4] rfl ?_
 refine freeze 2 4 (fdR ds ds.length).length rfl rfl (Nat.le_refl _) ?_
 refine freeze 3 3 (fileB (evR ds ds.length)).length rfl rfl (Nat.le_refl _) ?_
 refine W_ret ?_
 exact out3 2 3 4 (fdsV (fdR ds ds.length)) (u8V (fileB (evR ds ds.length))) (SV.i 0) (π := []) (hout := []) Tryd.results5 rfl rfl rfl rfl rfl rfl rfl rfl trivial ⟨rfl, rfl⟩
 show W _ _ _ ⟨tOf [(5, .ptr 0 0 0), (6, .sl 4 0 (fdR ds n).length), (14, ddsV ds), (15, SV.i ds.length), (16, SV.i n)], hOf [some (.cells 49 3 [.d .nils, .sl 2 0 (evR ds n).length, .sl 3 0 (fileB (evR ds n)).length]), none, some (evB (evR ds n)), some (u8B (fileB (evR ds n))), some (fdsB (fdR ds n))], 5⟩
 refine r1 <| sO 17 5 1 rfl <| e1 13 rfl <| keep [5, 6, 14, 15, 16, 17] rfl <| W_seq ?_
 refine q1 rfl (fun hc6 => ?_) (fun hc6 => ?_)
 try simp only [cs, ne_eq] at hc6
 refine W_skip <| tn <| W_seq <| W_block <| r1 ?_
 refine sV 18 13 1 rfl ⟨by omega, by omega⟩ ?_
 refine sV 19 21 2 rfl (by simp only [Int.toNat_natCast]; omega) ?_
 refine val 19 (ddV (ds.getD n default)) rfl (by first | rfl | (simp only [Nat.zero_add, Int.toNat_natCast]; rfl)) ?_
 refine sT 8 29 3 rfl <| s0O 37 4 rfl rfl rfl rfl rfl <| e1 45 rfl <| keep [5, 6, 8, 14, 15, 16] rfl ?_
 refine r0 ?_
 refine sT 20 45 1 rfl <| sT 21 53 2 rfl <| sO 22 61 3 rfl ?_
 refine c1 (doc_NN2 (ds.getD n default) (hd n (by omega)) hE hs2 hL2) [0, 2, 3] [0, 2, 3, 69, 70] 23 69 4 rfl rfl rfl rfl rfl rfl rfl rfl Tryd.func9 rfl rfl rfl rfl ⟨rfl, rfl, rfl, trivial⟩ rfl rfl ?_
 refine sT 24 77 5 rfl ?_
 refine sV 25 85 6 rfl ⟨Nat.le_refl _, trivial, (by show (_ + 1) * 72 ≤ 140737488355328; omega), (by simp only [maxLen]; omega)⟩ ?_
 refine sT 6 93 7 rfl <| e1 101 rfl <| bn <| tn ?_
 refine rowsc 85 (fdR ds (n + 1)).length (fdF (fdR ds (n + 1))) rfl (by rw [fdR_succ, len_snoc]) (fun i c hi hc => by rw [fdR_succ]; exact fd_cat _ _ i c hi hc) ?_
 refine cval 6 (.sl 85 0 (fdR ds (n + 1)).length) rfl (by rw [fdR_succ, len_snoc]) ?_
 refine r0 ?_
 refine sAO 26 101 1 rfl <| sT 16 109 2 rfl <| e1 117 rfl <| tn ?_
 exact again (((n + 1, [], []) : Nat × (List Nat) × (List Ln))) [0, 1, 69, 70, 85] (show (n + 1) ≤ ds.length ∧ ([]) = lnR ds (n + 1) from ⟨by omega, hL2.symm⟩) (show ds.length - (n + 1) < ds.length - n from (by omega)) rfl ⟨rfl, rfl, rfl, rfl, rfl, trivial⟩ ⟨rfl, rfl, rfl, rfl, trivial⟩
 exfalso; simp at hc6; omega
 show W _ _ _ ⟨tOf [(5, .ptr 0 0 0), (6, .sl 4 0 (fdR ds n).length), (14, ddsV ds), (15, SV.i ds.length), (16, SV.i n)], hOf [some (.cells 49 3 [.d .nils, .sl 2 0 (evR ds n).length, .sl 3 0 (fileB (evR ds n)).length]), none, some (evB (evR ds n)), some (u8B (fileB (evR ds n))), some (fdsB (fdR ds n))], 5⟩
 refine r1 <| sO 17 5 1 rfl <| e1 13 rfl <| keep [5, 6, 14, 15, 16, 17] rfl <| W_seq ?_
 refine q1 rfl (fun hc6 => ?_) (fun hc6 => ?_)
 try simp only [cs, ne_eq] at hc6
 refine W_skip <| tn <| W_seq <| W_block <| r1 ?_
 refine sV 18 13 1 rfl ⟨by omega, by omega⟩ ?_
 refine sV 19 21 2 rfl (by simp only [Int.toNat_natCast]; omega) ?_
 refine val 19 (ddV (ds.getD n default)) rfl (by first | rfl | (simp only [Nat.zero_add, Int.toNat_natCast]; rfl)) ?_
 refine sT 8 29 3 rfl <| s0O 37 4 rfl rfl rfl rfl rfl <| e1 45 rfl <| keep [5, 6, 8, 14, 15, 16] rfl ?_
 refine r0 ?_
 refine sT 20 45 1 rfl <| sT 21 53 2 rfl <| sO 22 61 3 rfl ?_
 refine cQ (doc_NL2 (ds.getD n default) (hd n (by omega)) hE hs2 (by simp)) [0, 2, 3] 23 69 4 rfl rfl rfl rfl rfl rfl rfl Tryd.func9 rfl rfl rfl ⟨rfl, rfl, rfl, trivial⟩ ?_
 rintro _ _ ⟨Z2, rfl, rfl⟩
 refine val 23 (fdV (fR ds n)) rfl rfl ?_
 refine hval 69 _ rfl (.fam Z2 ⟨linL (y2 :: Y2), [], some (66, 3)⟩) rfl ?_
 refine sT 24 77 5 rfl ?_
 refine sV 25 85 6 rfl ⟨Nat.le_refl _, trivial, (by show (_ + 1) * 72 ≤ 140737488355328; omega), (by simp only [maxLen]; omega)⟩ ?_
 refine sT 6 93 7 rfl <| e1 101 rfl <| bn <| tn ?_
 refine rowsc 85 (fdR ds (n + 1)).length (fdF (fdR ds (n + 1))) rfl (by rw [fdR_succ, len_snoc]) (fun i c hi hc => by rw [fdR_succ]; exact fd_cat _ _ i c hi hc) ?_
 refine cval 6 (.sl 85 0 (fdR ds (n + 1)).length) rfl (by rw [fdR_succ, len_snoc]) ?_
 refine r0 ?_
 refine sAO 26 101 1 rfl <| sT 16 109 2 rfl <| e1 117 rfl <| tn ?_
 exact again (((n + 1, Z2, y2 :: Y2) : Nat × (List Nat) × (List Ln))) [0, 69, 70, 71, 85] (show (n + 1) ≤ ds.length ∧ (y2 :: Y2) = lnR ds (n + 1) from ⟨by omega, hL2.symm⟩) (show ds.length - (n + 1) < ds.length - n from (by omega)) rfl ⟨rfl, rfl, rfl, rfl, rfl, trivial⟩ ⟨rfl, rfl, rfl, rfl, rfl, trivial⟩
 exfalso; simp at hc6; omega
 show W _ _ _ ⟨tOf [(5, .ptr 0 0 0), (6, .sl 4 0 (fdR ds n).length), (14, ddsV ds), (15, SV.i ds.length), (16, SV.i n)], hOf [some (.cells 49 3 [.sl 1 0 (y :: Y).length, .sl 2 0 (evR ds n).length, .sl 3 0 (fileB (evR ds n)).length]), some (.fam Z1 ⟨linL (y :: Y), [], some (66, 3)⟩), some (evB (evR ds n)), some (u8B (fileB (evR ds n))), some (fdsB (fdR ds n))], 5⟩
 refine r1 <| sO 17 5 1 rfl <| e1 13 rfl <| keep [5, 6, 14, 15, 16, 17] rfl <| W_seq ?_
 refine q1 rfl (fun hc6 => ?_) (fun hc6 => ?_)
 try simp only [cs, ne_eq] at hc6
 refine W_skip <| tn <| W_seq <| W_block <| r1 ?_
 refine sV 18 13 1 rfl ⟨by omega, by omega⟩ ?_
 refine sV 19 21 2 rfl (by simp only [Int.toNat_natCast]; omega) ?_
 refine val 19 (ddV (ds.getD n default)) rfl (by first | rfl | (simp only [Nat.zero_add, Int.toNat_natCast]; rfl)) ?_
 refine sT 8 29 3 rfl <| s0O 37 4 rfl rfl rfl rfl rfl <| e1 45 rfl <| keep [5, 6, 8, 14, 15, 16] rfl ?_
 refine r0 ?_
 refine sT 20 45 1 rfl <| sT 21 53 2 rfl <| sO 22 61 3 rfl ?_
 refine c1 (doc_LN (ds.getD n default) (hd n (by omega)) hok (by simp) hs2 hL2) [0, 1, 2, 3] [0, 1, 2, 3, 69, 70] 23 69 4 rfl rfl rfl rfl rfl rfl rfl rfl Tryd.func9 rfl rfl rfl rfl ⟨rfl, rfl, rfl, rfl, trivial⟩ rfl rfl ?_
 refine sT 24 77 5 rfl ?_
 refine sV 25 85 6 rfl ⟨Nat.le_refl _, trivial, (by show (_ + 1) * 72 ≤ 140737488355328; omega), (by simp only [maxLen]; omega)⟩ ?_
 refine sT 6 93 7 rfl <| e1 101 rfl <| bn <| tn ?_
 refine rowsc 85 (fdR ds (n + 1)).length (fdF (fdR ds (n + 1))) rfl (by rw [fdR_succ, len_snoc]) (fun i c hi hc => by rw [fdR_succ]; exact fd_cat _ _ i c hi hc) ?_
 refine cval 6 (.sl 85 0 (fdR ds (n + 1)).length) rfl (by rw [fdR_succ, len_snoc]) ?_
 refine r0 ?_
 refine sAO 26 101 1 rfl <| sT 16 109 2 rfl <| e1 117 rfl <| tn ?_
 exact again (((n + 1, [], []) : Nat × (List Nat) × (List Ln))) [0, 1, 69, 70, 85] (show (n + 1) ≤ ds.length ∧ ([]) = lnR ds (n + 1) from ⟨by omega, hL2.symm⟩) (show ds.length - (n + 1) < ds.length - n from (by omega)) rfl ⟨rfl, rfl, rfl, rfl, rfl, trivial⟩ ⟨rfl, rfl, rfl, rfl, trivial⟩
 exfalso; simp at hc6; omega
 show W _ _ _ ⟨tOf [(5, .ptr 0 0 0), (6, .sl 4 0 (fdR ds n).length), (14, ddsV ds), (15, SV.i ds.length), (16, SV.i n)], hOf [some (.cells 49 3 [.sl 1 0 (y :: Y).length, .sl 2 0 (evR ds n).length, .sl 3 0 (fileB (evR ds n)).length]), some (.fam Z1 ⟨linL (y :: Y), [], some (66, 3)⟩), some (evB (evR ds n)), some (u8B (fileB (evR ds n))), some (fdsB (fdR ds n))], 5⟩
 refine r1 <| sO 17 5 1 rfl <| e1 13 rfl <| keep [5, 6, 14, 15, 16, 17] rfl <| W_seq ?_
 refine q1 rfl (fun hc6 => ?_) (fun hc6 => ?_)
 try simp only [cs, ne_eq] at hc6
 refine W_skip <| tn <| W_seq <| W_block <| r1 ?_
 refine sV 18 13 1 rfl ⟨by omega, by omega⟩ ?_
 refine sV 19 21 2 rfl (by simp only [Int.toNat_natCast]; omega) ?_
 refine val 19 (ddV (ds.getD n default)) rfl (by first | rfl | (simp only [Nat.zero_add, Int.toNat_natCast]; rfl)) ?_
 refine sT 8 29 3 rfl <| s0O 37 4 rfl rfl rfl rfl rfl <| e1 45 rfl <| keep [5, 6, 8, 14, 15, 16] rfl ?_
 refine r0 ?_
 refine sT 20 45 1 rfl <| sT 21 53 2 rfl <| sO 22 61 3 rfl ?_
 refine cQ (doc_LL (ds.getD n default) (hd n (by omega)) hok (by simp) hs2 (by simp)) [0, 1, 2, 3] 23 69 4 rfl rfl rfl rfl rfl rfl rfl Tryd.func9 rfl rfl rfl ⟨rfl, rfl, rfl, rfl, trivial⟩ ?_
 rintro _ _ ⟨Z2, rfl, rfl⟩
 refine val 23 (fdV (fR ds n)) rfl rfl ?_
 refine hval 69 _ rfl (.fam Z2 ⟨linL (y2 :: Y2), [], some (66, 3)⟩) rfl ?_
 refine sT 24 77 5 rfl ?_
 refine sV 25 85 6 rfl ⟨Nat.le_refl _, trivial, (by show (_ + 1) * 72 ≤ 140737488355328; omega), (by simp only [maxLen]; omega)⟩ ?_
 refine sT 6 93 7 rfl <| e1 101 rfl <| bn <| tn ?_
 refine rowsc 85 (fdR ds (n + 1)).length (fdF (fdR ds (n + 1))) rfl (by rw [fdR_succ, len_snoc]) (fun i c hi hc => by rw [fdR_succ]; exact fd_cat _ _ i c hi hc) ?_
 refine cval 6 (.sl 85 0 (fdR ds (n + 1)).length) rfl (by rw [fdR_succ, len_snoc]) ?_
 refine r0 ?_
 refine sAO 26 101 1 rfl <| sT 16 109 2 rfl <| e1 117 rfl <| tn ?_
 exact again (((n + 1, Z2, y2 :: Y2) : Nat × (List Nat) × (List Ln))) [0, 69, 70, 71, 85] (show (n + 1) ≤ ds.length ∧ (y2 :: Y2) = lnR ds (n + 1) from ⟨by omega, hL2.symm⟩) (show ds.length - (n + 1) < ds.length - n from (by omega)) rfl ⟨rfl, rfl, rfl, rfl, rfl, trivial⟩ ⟨rfl, rfl, rfl, rfl, rfl, trivial⟩
 exfalso; simp at hc6; omega
end Go.Proofs.YtalhangpahffeaaDoor.Nice
namespace Go.Proofs.YtalhangpahffeaaDoor.Nice
open Go Go.Proofs
set_option linter.unusedVariables false
set_option linter.unusedSimpArgs false
set_option maxRecDepth 100000
set_option maxHeartbeats 1000000
theorem step_l {d : Dd} {L : List Ln} {E : List Ev} (h : KOk L E) {f : Fd} {L2 : List Ln} {E2 : List Ev} (hs : StepK d L E f L2 E2) : f.l.length ≤ 250 := by
 cases hs with
 | range hk j x hi hj hx => exact Nat.le_trans (List.length_filter_le _ _) (Nat.le_trans (h.ln _ (List.mem_of_getElem? hj)).len (by decide))
 | kind | cform | ctwice | cfull | cnew | fall | gone | over | old | plain | afull | aseal | snil | sfull | syes | tfull | tyes | total => exact Nat.zero_le _
theorem fdR_l {ds : List Dd} (hd : ∀ i, i < ds.length → DdIn (ds.getD i default)) : ∀ n, n ≤ ds.length → ∀ f, f ∈ fdR ds n → f.l.length ≤ 250
 | 0, _, f, hf => by cases hf
 | n + 1, h, f, hf => by
   rw [fdR_succ] at hf
   rcases List.mem_append.1 hf with hf | hf
   · exact fdR_l hd n (by omega) f hf
   · rw [List.mem_singleton.1 hf]; exact step_l (run_at hd (n := n) (by omega)) (run_step ds n)
theorem outF_m {ds : List Dd} (hd : ∀ i, i < ds.length → DdIn (ds.getD i default)) : ∀ f, f ∈ outF ds → f.l.length ≤ 250 := by
 intro f hm
 unfold outF at hm
 by_cases hb : 300 < ds.length
 · rw [if_pos hb] at hm; cases hm
 · rw [if_neg hb] at hm; exact fdR_l hd _ (Nat.le_refl _) _ hm
theorem outF_l {ds : List Dd} (hd : ∀ i, i < ds.length → DdIn (ds.getD i default)) (i : Nat) : ((outF ds).getD i (errF 0)).l.length ≤ 250 := by
 by_cases hi : i < (outF ds).length
 · have e : (outF ds).getD i (errF 0) = (outF ds)[i] := by simp [List.getD, hi]
   rw [e]
   exact outF_m hd _ (List.getElem_mem hi)
 · rw [List.getD_eq_getElem?_getD, List.getElem?_eq_none (by omega)]; exact Nat.zero_le _
theorem outF_n (ds : List Dd) : (outF ds).length ≤ 300 := by
 unfold outF
 by_cases hb : 300 < ds.length
 · rw [if_pos hb]; exact Nat.zero_le _
 · rw [if_neg hb, fdR_len]; omega
theorem outB_n {ds : List Dd} (hd : ∀ i, i < ds.length → DdIn (ds.getD i default)) : (outB ds).length ≤ 62000 := by
 unfold outB
 by_cases hb : 300 < ds.length
 · rw [if_pos hb]; exact Nat.zero_le _
 · rw [if_neg hb]; exact (run_at hd (Nat.le_refl _)).g.fileN.1
theorem play_any (ds : List Dd) (hl : ds.length ≤ 9223372036854775807) (hd : ∀ i, i < ds.length → DdIn (ds.getD i default)) : Spec Tryd.prog GF 4 [ddsV ds] [] (fun r ho => r = SV.tup [fdsV (outF ds), u8V (outB ds), SV.i (outE ds)] ∧ ho = []) := by
 by_cases h : 300 < ds.length
 · exact play_big ds hl h
 · exact play_ok ds hd (by omega)
theorem played_any (ds : List Dd) (hl : ds.length ≤ 9223372036854775807) (hd : ∀ i, i < ds.length → DdIn (ds.getD i default)) : Spec Tryd.prog GF 5 [ddsV ds] [] (fun r ho => r = SV.tup [fdsV (outF ds), u8V (outB ds), SV.i (outE ds)] ∧ ho = []) := by
 by_cases h : 300 < ds.length
 · exact played_big ds hl h
 · exact played_ok ds hd (by omega)
noncomputable def fnd (ds : List Dd) (n : Nat) : Fd := (outF ds).getD n (errF 0)
theorem eqSm_any (x : List Smp) (hx0 : x.length ≤ 1000000) : Spec Tryd.prog GF 7 [smpV x, smpV x] [] (fun r ho => r = SV.b true ∧ ho = []) := by
 refine start 26 0 Tryd.func7 rfl rfl rfl rfl ?_
 refine r1 <| sT 4 0 1 rfl <| e1 8 rfl <| keep [0, 1] rfl <| W_seq <| r1 <| sT 6 8 1 rfl <| sO 7 16 2 rfl <| sT 8 24 3 rfl <| sO 9 32 4 rfl <| sO 10 40 5 rfl <| e1 48 rfl <| keep [0, 1, 10] rfl ?_
 refine q1 rfl (fun hc1 => ?_) (fun hc1 => ?_)
 exfalso; simp at hc1
 try simp only [cs, ne_eq] at hc1
 refine W_skip <| tn <| W_seq <| r1 <| sT 5 48 1 rfl <| e1 56 rfl <| keep [0, 1, 5] rfl <| W_block ?_
 refine loop (α := Nat) 0 (fun n => [(0, smpV x), (1, smpV x), (5, SV.i (n))]) (fun n => []) (fun n => (n) ≤ x.length) (fun n => x.length - (n)) (((0) : Nat)) [] (fun _ => rfl) (show (0) ≤ x.length from (Nat.zero_le _)) rfl ⟨rfl, rfl, rfl, trivial⟩ trivial (fun n hx => ?_)
 show W _ _ _ ⟨tOf [(0, smpV x), (1, smpV x), (5, SV.i n)], hOf [], 0⟩
 have hx : n ≤ x.length := hx
 refine W_seq <| r1 <| sT 11 0 1 rfl <| sT 12 8 2 rfl <| sO 13 16 3 rfl <| sO 14 24 4 rfl <| e1 32 rfl <| keep [0, 1, 5, 14] rfl ?_
 refine q1 rfl (fun hc4 => ?_) (fun hc4 => ?_)
 try simp only [cs, ne_eq] at hc4
 refine W_skip <| tn <| W_seq <| W_block ?_
 refine rd1 rfl ?_
 refine dT 17 32 1 rfl <| dT 18 40 2 rfl <| dO 19 48 3 rfl <| dO 20 56 4 rfl ?_
 refine val 20 (smpS (x.getD n default)) rfl (by rfl) ?_
 refine dT 21 64 5 rfl <| dT 22 72 6 rfl <| dO 23 80 7 rfl <| dO 24 88 8 rfl ?_
 refine val 24 (smpS (x.getD n default)) rfl (by rfl) ?_
 refine dEq (op := .neq) 25 96 9 rfl rfl rfl rfl rfl rfl rfl rfl rfl (by kernel_rfl) (by kernel_rfl) rfl (.inr ⟨rfl, rfl⟩) ?_
 refine de1 104 rfl (by kernel_rfl) <| keep [0, 1, 5, 25] rfl ?_
 refine q1 rfl (fun hc6 => ?_) (fun hc6 => ?_)
 exfalso; simp at hc6
 try simp only [cs, ne_eq] at hc6
 refine W_skip <| bn <| tn ?_
 refine r0 ?_
 refine sT 15 104 1 rfl <| sAO 16 112 2 rfl <| sT 5 120 3 rfl <| e1 128 rfl <| tn ?_
 exact again ((n + 1 : Nat)) [] (show (n + 1) ≤ x.length from (by omega)) (show x.length - (n + 1) < x.length - n from (by omega)) rfl ⟨rfl, rfl, rfl, trivial⟩ trivial
 try simp only [cs, ne_eq] at hc4
 refine W_exit <| tx <| tx <| bx <| tn <| r1 <| sT 4 32 1 rfl <| e1 40 rfl <| keep [4] rfl <| W_ret ?_
 exact out1 4 (SV.b true) (π := []) (hout := []) Tryd.results7 rfl rfl rfl rfl trivial ⟨rfl, rfl⟩
theorem eqBy_any (x : List Int) (hx0 : x.length ≤ 1000000) : Spec Tryd.prog GF 6 [u8V x, u8V x] [] (fun r ho => r = SV.b true ∧ ho = []) := by
 refine start 26 0 Tryd.func6 rfl rfl rfl rfl ?_
 refine r1 <| sT 4 0 1 rfl <| e1 8 rfl <| keep [0, 1] rfl <| W_seq <| r1 <| sT 6 8 1 rfl <| sO 7 16 2 rfl <| sT 8 24 3 rfl <| sO 9 32 4 rfl <| sO 10 40 5 rfl <| e1 48 rfl <| keep [0, 1, 10] rfl ?_
 refine q1 rfl (fun hc1 => ?_) (fun hc1 => ?_)
 exfalso; simp at hc1
 try simp only [cs, ne_eq] at hc1
 refine W_skip <| tn <| W_seq <| r1 <| sT 5 48 1 rfl <| e1 56 rfl <| keep [0, 1, 5] rfl <| W_block ?_
 refine loop (α := Nat) 0 (fun n => [(0, u8V x), (1, u8V x), (5, SV.i (n))]) (fun n => []) (fun n => (n) ≤ x.length) (fun n => x.length - (n)) (((0) : Nat)) [] (fun _ => rfl) (show (0) ≤ x.length from (Nat.zero_le _)) rfl ⟨rfl, rfl, rfl, trivial⟩ trivial (fun n hx => ?_)
 show W _ _ _ ⟨tOf [(0, u8V x), (1, u8V x), (5, SV.i n)], hOf [], 0⟩
 have hx : n ≤ x.length := hx
 refine W_seq <| r1 <| sT 11 0 1 rfl <| sT 12 8 2 rfl <| sO 13 16 3 rfl <| sO 14 24 4 rfl <| e1 32 rfl <| keep [0, 1, 5, 14] rfl ?_
 refine q1 rfl (fun hc4 => ?_) (fun hc4 => ?_)
 try simp only [cs, ne_eq] at hc4
 refine W_skip <| tn <| W_seq <| W_block ?_
 refine rd1 rfl ?_
 refine dT 17 32 1 rfl <| dT 18 40 2 rfl <| dO 19 48 3 rfl <| dO 20 56 4 rfl <| dT 21 64 5 rfl <| dT 22 72 6 rfl <| dO 23 80 7 rfl <| dO 24 88 8 rfl <| dO 25 96 9 rfl <| de1 104 rfl (by kernel_rfl) <| keep [0, 1, 5, 25] rfl ?_
 refine q1 rfl (fun hc6 => ?_) (fun hc6 => ?_)
 exfalso; simp at hc6
 try simp only [cs, ne_eq] at hc6
 refine W_skip <| bn <| tn ?_
 refine r0 ?_
 refine sT 15 104 1 rfl <| sAO 16 112 2 rfl <| sT 5 120 3 rfl <| e1 128 rfl <| tn ?_
 exact again ((n + 1 : Nat)) [] (show (n + 1) ≤ x.length from (by omega)) (show x.length - (n + 1) < x.length - n from (by omega)) rfl ⟨rfl, rfl, rfl, trivial⟩ trivial
 try simp only [cs, ne_eq] at hc4
 refine W_exit <| tx <| tx <| bx <| tn <| r1 <| sT 4 32 1 rfl <| e1 40 rfl <| keep [4] rfl <| W_ret ?_
 exact out1 4 (SV.b true) (π := []) (hout := []) Tryd.results6 rfl rfl rfl rfl trivial ⟨rfl, rfl⟩
theorem lawSP_any (ds : List Dd) (hl : ds.length ≤ 9223372036854775807) (hd : ∀ i, i < ds.length → DdIn (ds.getD i default)) : Spec Tryd.prog GF 3 [ddsV ds] [] (fun r _ => r = SV.b true) := by
 have hFn := outF_n ds
 have hBn := outB_n hd
 refine start 95 0 Tryd.func3 rfl rfl rfl rfl ?_
 refine r1 <| sT 2 0 1 rfl <| e1 8 rfl <| keep [0] rfl <| r1 <| sT 11 8 1 rfl ?_
 refine c1 (play_any ds hl hd) [] [] 12 16 2 rfl rfl rfl rfl rfl rfl rfl rfl Tryd.func4 rfl rfl rfl rfl trivial rfl rfl ?_
 refine sT 10 24 3 rfl <| sT 13 32 4 rfl <| sT 14 40 5 rfl <| sT 15 48 6 rfl <| sT 3 56 7 rfl <| sT 4 64 8 rfl <| sT 5 72 9 rfl <| e1 80 rfl <| keep [0, 3, 4, 5] rfl <| r1 <| sT 17 80 1 rfl ?_
 refine c1 (played_any ds hl hd) [] [] 18 88 2 rfl rfl rfl rfl rfl rfl rfl rfl Tryd.func5 rfl rfl rfl rfl trivial rfl rfl ?_
 refine sT 16 96 3 rfl <| sT 19 104 4 rfl <| sT 20 112 5 rfl <| sT 21 120 6 rfl <| sT 6 128 7 rfl <| sT 7 136 8 rfl <| sT 8 144 9 rfl <| e1 152 rfl <| keep [3, 4, 5, 6, 7, 8] rfl <| W_seq <| r1 <| sT 22 152 1 rfl <| sO 23 160 2 rfl <| sT 24 168 3 rfl <| sO 25 176 4 rfl <| sO 26 184 5 rfl ?_
 refine sT 27 192 6 rfl ?_
 refine ask 27 rfl (fun hg3_27 => ?_) (fun hg3_27 => ?_)
 · skip
   try simp only [cs, ne_eq] at hg3_27
   all_goals (exfalso; first | (simp at hg3_27; done) | (simp at hg3_27; omega) | (simp_all; done) | omega)
 try simp only [cs, ne_eq] at hg3_27
 refine gT 5 false 27 7 rfl rfl <| sT 28 200 7 rfl <| gT 5 false 27 8 rfl rfl <| sT 29 208 8 rfl <| gT 5 false 27 9 rfl rfl ?_
 refine c1 (eqBy_any (outB ds) (by omega)) [] [] 30 216 9 rfl rfl rfl rfl rfl rfl rfl rfl Tryd.func6 rfl rfl rfl rfl trivial rfl rfl ?_
 refine gT 5 false 27 10 rfl rfl <| sT 31 224 10 rfl <| sT 32 232 11 rfl <| sT 33 240 12 rfl ?_
 refine ask 33 rfl (fun hg3_33 => ?_) (fun hg3_33 => ?_)
 · skip
   try simp only [cs, ne_eq] at hg3_33
   all_goals (exfalso; first | (simp at hg3_33; done) | (simp at hg3_33; omega) | (simp_all; done) | omega)
 try simp only [cs, ne_eq] at hg3_33
 refine gT 11 false 33 13 rfl rfl <| sT 34 248 13 rfl <| gT 11 false 33 14 rfl rfl <| sT 35 256 14 rfl <| gT 11 false 33 15 rfl rfl <| sO 36 264 15 rfl <| sT 37 272 16 rfl <| e1 280 rfl <| keep [3, 6, 37] rfl ?_
 refine q1 rfl (fun hc3 => ?_) (fun hc3 => ?_)
 exfalso; simp at hc3
 try simp only [cs, ne_eq] at hc3
 refine W_skip <| tn <| W_seq <| r1 <| sT 9 280 1 rfl <| e1 288 rfl <| keep [3, 6, 9] rfl <| W_block ?_
 refine loop (α := Nat) 0 (fun n => [(3, fdsV (outF ds)), (6, fdsV (outF ds)), (9, SV.i (n))]) (fun n => []) (fun n => (n) ≤ (outF ds).length) (fun n => (outF ds).length - (n)) (((0) : Nat)) [] (fun _ => rfl) (show (0) ≤ (outF ds).length from (Nat.zero_le _)) rfl ⟨rfl, rfl, rfl, trivial⟩ trivial (fun n hx => ?_)
 show W _ _ _ ⟨tOf [(3, fdsV (outF ds)), (6, fdsV (outF ds)), (9, SV.i n)], hOf [], 0⟩
 have hx : n ≤ (outF ds).length := hx
 refine W_seq <| r1 <| sT 38 0 1 rfl <| sT 39 8 2 rfl <| sO 40 16 3 rfl <| sO 41 24 4 rfl <| e1 32 rfl <| keep [3, 6, 9, 41] rfl ?_
 refine q1 rfl (fun hc6 => ?_) (fun hc6 => ?_)
 · skip
   try simp only [cs, ne_eq] at hc6
   refine W_skip <| tn <| W_seq <| W_block ?_
   refine rd1 rfl ?_
   refine dT 44 32 1 rfl <| dT 45 40 2 rfl <| dO 46 48 3 rfl <| dT 47 56 4 rfl <| dO 48 64 5 rfl ?_
   refine val 48 (SV.i (fnd ds n).code) rfl (by rfl) ?_
   refine dT 49 72 6 rfl <| dT 50 80 7 rfl <| dO 51 88 8 rfl <| dT 52 96 9 rfl <| dO 53 104 10 rfl ?_
   refine val 53 (SV.i (fnd ds n).code) rfl (by rfl) ?_
   refine dO 54 112 11 rfl <| dT 55 120 12 rfl ?_
   refine ask 55 rfl (fun hg8_55 => ?_) (fun hg8_55 => ?_)
   · skip
     try simp only [cs, ne_eq] at hg8_55
     all_goals (exfalso; first | (simp at hg8_55; done) | (simp at hg8_55; omega) | (simp_all; done) | omega)
   try simp only [cs, ne_eq] at hg8_55
   refine gT 11 false 55 13 rfl rfl <| dT 56 128 13 rfl <| gT 11 false 55 14 rfl rfl <| dT 57 136 14 rfl <| gT 11 false 55 15 rfl rfl <| dO 58 144 15 rfl <| gT 11 false 55 16 rfl rfl <| dT 59 152 16 rfl <| gT 11 false 55 17 rfl rfl <| dO 60 160 17 rfl ?_
   refine val 60 (.agg [SV.i (fnd ds n).ro.c, SV.i (fnd ds n).ro.lo, SV.i (fnd ds n).ro.hi, SV.i (fnd ds n).ro.s]) rfl (by rfl) ?_
   refine gT 11 false 55 18 rfl rfl <| dT 61 168 18 rfl <| gT 11 false 55 19 rfl rfl <| dT 62 176 19 rfl <| gT 11 false 55 20 rfl rfl <| dO 63 184 20 rfl <| gT 11 false 55 21 rfl rfl <| dT 64 192 21 rfl <| gT 11 false 55 22 rfl rfl <| dO 65 200 22 rfl ?_
   refine val 65 (.agg [SV.i (fnd ds n).ro.c, SV.i (fnd ds n).ro.lo, SV.i (fnd ds n).ro.hi, SV.i (fnd ds n).ro.s]) rfl (by rfl) ?_
   refine gT 11 false 55 23 rfl rfl ?_
   refine dEq (op := .neq) 66 208 23 rfl rfl rfl rfl rfl rfl rfl rfl rfl (by kernel_rfl) (by kernel_rfl) rfl (.inr ⟨rfl, rfl⟩) ?_
   refine dT 67 216 24 rfl <| dT 68 224 25 rfl ?_
   refine ask 68 rfl (fun hg8_68 => ?_) (fun hg8_68 => ?_)
   · skip
     try simp only [cs, ne_eq] at hg8_68
     all_goals (exfalso; first | (simp at hg8_68; done) | (simp at hg8_68; omega) | (simp_all; done) | omega)
   try simp only [cs, ne_eq] at hg8_68
   refine gT 24 false 68 26 rfl rfl <| dT 69 232 26 rfl <| gT 24 false 68 27 rfl rfl <| dT 70 240 27 rfl <| gT 24 false 68 28 rfl rfl <| dO 71 248 28 rfl <| gT 24 false 68 29 rfl rfl <| dT 72 256 29 rfl <| gT 24 false 68 30 rfl rfl <| dO 73 264 30 rfl ?_
   refine val 73 (SV.i (fnd ds n).n) rfl (by rfl) ?_
   refine gT 24 false 68 31 rfl rfl <| dT 74 272 31 rfl <| gT 24 false 68 32 rfl rfl <| dT 75 280 32 rfl <| gT 24 false 68 33 rfl rfl <| dO 76 288 33 rfl <| gT 24 false 68 34 rfl rfl <| dT 77 296 34 rfl <| gT 24 false 68 35 rfl rfl <| dO 78 304 35 rfl ?_
   refine val 78 (SV.i (fnd ds n).n) rfl (by rfl) ?_
   refine gT 24 false 68 36 rfl rfl <| dO 79 312 36 rfl <| dT 80 320 37 rfl <| dT 81 328 38 rfl ?_
   refine ask 81 rfl (fun hg8_81 => ?_) (fun hg8_81 => ?_)
   · skip
     try simp only [cs, ne_eq] at hg8_81
     all_goals (exfalso; first | (simp at hg8_81; done) | (simp at hg8_81; omega) | (simp_all; done) | omega)
   try simp only [cs, ne_eq] at hg8_81
   refine gT 37 false 81 39 rfl rfl <| dT 82 336 39 rfl <| gT 37 false 81 40 rfl rfl <| dT 83 344 40 rfl <| gT 37 false 81 41 rfl rfl <| dO 84 352 41 rfl <| gT 37 false 81 42 rfl rfl <| dT 85 360 42 rfl <| gT 37 false 81 43 rfl rfl <| dO 86 368 43 rfl ?_
   refine val 86 (smpV (fnd ds n).l) rfl (by rfl) ?_
   refine gT 37 false 81 44 rfl rfl <| dT 87 376 44 rfl <| gT 37 false 81 45 rfl rfl <| dT 88 384 45 rfl <| gT 37 false 81 46 rfl rfl <| dO 89 392 46 rfl <| gT 37 false 81 47 rfl rfl <| dT 90 400 47 rfl <| gT 37 false 81 48 rfl rfl <| dO 91 408 48 rfl ?_
   refine val 91 (smpV (fnd ds n).l) rfl (by rfl) ?_
   refine gT 37 false 81 49 rfl rfl ?_
   refine dc1 (eqSm_any (fnd ds n).l (by have := outF_l hd n; unfold fnd; omega)) [] [] 92 416 49 rfl rfl rfl rfl rfl rfl rfl rfl Tryd.func7 rfl rfl rfl rfl trivial rfl rfl ?_
   refine gT 37 false 81 50 rfl rfl <| dT 93 424 50 rfl <| dT 94 432 51 rfl <| de1 440 rfl (by kernel_rfl) <| keep [3, 6, 9, 94] rfl ?_
   refine q1 rfl (fun hc8 => ?_) (fun hc8 => ?_)
   exfalso; simp at hc8
   try simp only [cs, ne_eq] at hc8
   refine W_skip <| bn <| tn ?_
   refine r0 ?_
   refine sT 42 440 1 rfl <| sAO 43 448 2 rfl <| sT 9 456 3 rfl <| e1 464 rfl <| tn ?_
   exact again ((n + 1 : Nat)) [] (show (n + 1) ≤ (outF ds).length from (by omega)) (show (outF ds).length - (n + 1) < (outF ds).length - n from (by omega)) rfl ⟨rfl, rfl, rfl, trivial⟩ trivial
 try simp only [cs, ne_eq] at hc6
 refine W_exit <| tx <| tx <| bx <| tn <| r1 <| sT 2 32 1 rfl <| e1 40 rfl <| keep [2] rfl <| W_ret ?_
 exact out1 2 (SV.b true) (π := []) (hout := []) Tryd.results3 rfl rfl rfl rfl trivial rfl
end Go.Proofs.YtalhangpahffeaaDoor.Nice
namespace Go.Proofs.YtalhangpahffeaaDoor
open Go Go.RowKit
set_option linter.unusedVariables false
def ClassesAt (w : World) : Prop := ∃ (t : TypeId) (fr : Nat × Nat), w.heap[(0 : Nat)]? = some (.cells #[.int .i64 0, .int .i64 1, .int .i64 0, .int .i64 2, .int .i64 2, .int .i64 6, .int .i64 6, .int .i64 3, .int .i64 12, .int .i64 14, .int .i64 4, .int .i64 24, .int .i64 15, .int .i64 4, .int .i64 59] t fr)
theorem rows_cell {H : Type} {enc : TypeId × Value → H} {P : Program} {w : World} {base : Nat} {sp : Nat → Bool} {held : Bool} {fuel : Nat} {t e : TypeId} {n m : Nat} {fs : Array Field} {cs : List Value} {rows : List (DataW H)} {p : List MemPlace}
   (ht : P.underlying t = some (.array n e)) (he : P.underlying e = some (.struct fs)) (hce : P.cellsOf e = m)
   (h : DataW.trod enc P w base sp held fuel t cs = some (.agg rows, p)) (i j : Nat) (f : Field) (r : List (DataW H)) (z : Int) (hi : i < n) (hr : rows[i]? = some (.agg r)) (hj : fs[j]? = some f) (hoff : f.offset = j) (hft : P.underlying f.type = some (.int .i64)) (hfc : P.cellsOf f.type = 1) (hjm : j < m)
   (hz : r[j]? = some (.lit (.int .i64 z))) : cs[i * m + j]? = some (.int .i64 z) := by
 obtain ⟨xs, k, _, hx, _, hxl, hel⟩ := DataW.trod_array ht h
 have h1 := hel i hi
 rw [hce] at h1
 have hxi : xs[i]? = some (xs[i]'(by omega)) := List.getElem?_eq_getElem (by omega)
 rw [hxi] at h1
 have hx1 := (Prod.mk.inj hx).1
 injection hx1 with hx1
 have hri : (xs.map (·.1))[i]? = some (.agg r) := by rw [← hx1]; exact hr
 rw [List.getElem?_map, hxi] at hri
 simp only [Option.map_some, Option.some.injEq] at hri
 obtain ⟨ys, k2, _, hy, _, hyl, hf⟩ := DataW.trod_struct he h1
 have h2 := hf j f hj
 rw [hoff, hfc] at h2
 have hys : j < ys.length := by rw [hyl]; exact (Array.getElem?_eq_some_iff.1 hj).1
 have hyj : ys[j]? = some (ys[j]'hys) := List.getElem?_eq_getElem hys
 rw [hyj] at h2
 obtain ⟨z', hcz, hyz, _⟩ := DataW.trod_int hft h2
 have hagg : DataW.agg (ys.map (·.1)) = .agg r := by
   have := congrArg Prod.fst hy
   rw [← hri]; exact this.symm
 injection hagg with hagg
 have hrj : (ys.map (·.1))[j]? = some (.lit (.int .i64 z)) := by rw [hagg]; exact hz
 rw [List.getElem?_map, hyj] at hrj
 simp only [Option.map_some, Option.some.injEq] at hrj
 have hzz : z' = z := by
   have : (ys[j]'hys).1 = .lit (.int .i64 z') := by rw [hyz]
   rw [this] at hrj
   injection hrj with hrj
   injection hrj
 subst hzz
 have h3 := congrArg (·[0]?) hcz
 simp only [List.getElem?_take, List.getElem?_drop] at h3
 simpa [hjm] using h3
set_option maxRecDepth 100000 in
theorem classesAt_of {W : World} (h : laidMetH Tryd.prog [("barograph/zig.classes", Rows.laid_barograph_zig_classes)] W) : ClassesAt W := by
 have h' : laidMet Tryd.prog [("barograph/zig.classes", Rows.laid_barograph_zig_classes)] W := h
 obtain ⟨ps, ⟨g', t', cs, fuel, p, q, hg', ht', hvar, hd, _, _⟩, _⟩ := h'
 have hg : Tryd.prog.globalNamed "barograph/zig.classes" = some 0 := by kernel_rfl
 have hty : (Tryd.prog.globals[(0 : Nat)]?).map (·.type) = some 138 := by kernel_rfl
 obtain rfl := Option.some.inj (hg.symm.trans hg')
 obtain rfl := Option.some.inj (hty.symm.trans ht')
 have hcl : cs.toList.length = 15 := by
   obtain ⟨_, _, _, _, hl, _, _⟩ := DataW.trod_array Tryd.underlying138 hd
   rw [hl]; kernel_rfl
 have key := fun i j f r z hi hr hj hoff hft hfc hjm hz => rows_cell (m := 3) Tryd.underlying138 Tryd.underlying137 (by kernel_rfl) hd i j f r z hi hr hj hoff hft hfc hjm hz
 have u3 := Tryd.underlying3
 have c3 : Tryd.prog.cellsOf 3 = 1 := by kernel_rfl
 have k0 : cs.toList[0]? = some (.int .i64 0) := key 0 0 _ _ 0 (by decide) rfl rfl rfl u3 c3 (by decide) rfl
 have k1 : cs.toList[1]? = some (.int .i64 1) := key 0 1 _ _ 1 (by decide) rfl rfl rfl u3 c3 (by decide) rfl
 have k2 : cs.toList[2]? = some (.int .i64 0) := key 0 2 _ _ 0 (by decide) rfl rfl rfl u3 c3 (by decide) rfl
 have k3 : cs.toList[3]? = some (.int .i64 2) := key 1 0 _ _ 2 (by decide) rfl rfl rfl u3 c3 (by decide) rfl
 have k4 : cs.toList[4]? = some (.int .i64 2) := key 1 1 _ _ 2 (by decide) rfl rfl rfl u3 c3 (by decide) rfl
 have k5 : cs.toList[5]? = some (.int .i64 6) := key 1 2 _ _ 6 (by decide) rfl rfl rfl u3 c3 (by decide) rfl
 have k6 : cs.toList[6]? = some (.int .i64 6) := key 2 0 _ _ 6 (by decide) rfl rfl rfl u3 c3 (by decide) rfl
 have k7 : cs.toList[7]? = some (.int .i64 3) := key 2 1 _ _ 3 (by decide) rfl rfl rfl u3 c3 (by decide) rfl
 have k8 : cs.toList[8]? = some (.int .i64 12) := key 2 2 _ _ 12 (by decide) rfl rfl rfl u3 c3 (by decide) rfl
 have k9 : cs.toList[9]? = some (.int .i64 14) := key 3 0 _ _ 14 (by decide) rfl rfl rfl u3 c3 (by decide) rfl
 have k10 : cs.toList[10]? = some (.int .i64 4) := key 3 1 _ _ 4 (by decide) rfl rfl rfl u3 c3 (by decide) rfl
 have k11 : cs.toList[11]? = some (.int .i64 24) := key 3 2 _ _ 24 (by decide) rfl rfl rfl u3 c3 (by decide) rfl
 have k12 : cs.toList[12]? = some (.int .i64 15) := key 4 0 _ _ 15 (by decide) rfl rfl rfl u3 c3 (by decide) rfl
 have k13 : cs.toList[13]? = some (.int .i64 4) := key 4 1 _ _ 4 (by decide) rfl rfl rfl u3 c3 (by decide) rfl
 have k14 : cs.toList[14]? = some (.int .i64 59) := key 4 2 _ _ 59 (by decide) rfl rfl rfl u3 c3 (by decide) rfl
 have hcs : cs.toList = [.int .i64 0, .int .i64 1, .int .i64 0, .int .i64 2, .int .i64 2, .int .i64 6, .int .i64 6, .int .i64 3, .int .i64 12, .int .i64 14, .int .i64 4, .int .i64 24, .int .i64 15, .int .i64 4, .int .i64 59] := by
   apply List.ext_getElem?
   intro i
   rcases Nat.lt_or_ge i 15 with hi | hi
   · have : i = 0 ∨ i = 1 ∨ i = 2 ∨ i = 3 ∨ i = 4 ∨ i = 5 ∨ i = 6 ∨ i = 7 ∨ i = 8 ∨ i = 9 ∨ i = 10 ∨ i = 11 ∨ i = 12 ∨ i = 13 ∨ i = 14 := by omega
     rcases this with rfl | rfl | rfl | rfl | rfl | rfl | rfl | rfl | rfl | rfl | rfl | rfl | rfl | rfl | rfl
     · exact k0
     · exact k1
     · exact k2
     · exact k3
     · exact k4
     · exact k5
     · exact k6
     · exact k7
     · exact k8
     · exact k9
     · exact k10
     · exact k11
     · exact k12
     · exact k13
     · exact k14
   · rw [List.getElem?_eq_none (by omega), List.getElem?_eq_none (by simpa using hi)]
 simp only [World.var?, hg, Option.bind_some] at hvar
 split at hvar
 · rename_i cs' t fr he
   simp only [Option.some.injEq] at hvar
   refine ⟨t, fr, ?_⟩
   rw [he, hvar, ← Array.toArray_toList (xs := cs), hcs]
 · cases hvar
theorem classes_G {W : World} (h : ClassesAt W) : ∀ g ρ, Nice.VR (fun b => W.heap[b]?) ρ (Nice.GC g) (.pointer (some ⟨g, 0, none⟩)) := by
 intro g ρ
 by_cases hg : g = 0
 · subst hg
   obtain ⟨T, fz, hb⟩ := h
   have key : ∀ c, c < 15 → (#[.int .i64 0, .int .i64 1, .int .i64 0, .int .i64 2, .int .i64 2, .int .i64 6, .int .i64 6, .int .i64 3, .int .i64 12, .int .i64 14, .int .i64 4, .int .i64 24, .int .i64 15, .int .i64 4, .int .i64 59] : Array Value)[c]? = some (.int .i64 (Nice.clL.getD c 0)) := by
     intro c hc
     have : c = 0 ∨ c = 1 ∨ c = 2 ∨ c = 3 ∨ c = 4 ∨ c = 5 ∨ c = 6 ∨ c = 7 ∨ c = 8 ∨ c = 9 ∨ c = 10 ∨ c = 11 ∨ c = 12 ∨ c = 13 ∨ c = 14 := by omega
     rcases this with rfl | rfl | rfl | rfl | rfl | rfl | rfl | rfl | rfl | rfl | rfl | rfl | rfl | rfl | rfl <;> rfl
   refine .vp 15 1 Nice.clF 0 0 0 0 _ T fz (fun i c => .int .i64 (Nice.clL.getD c 0)) hb (fun i c hi hc => ?_) (fun i c hi hc => .val _ rfl)
   obtain rfl : i = 0 := by omega
   rw [show 0 + 0 * 15 + c = c by omega]; exact key c hc
 · have : Nice.GC g = .any := by
     unfold Nice.GC
     split
     · exact absurd rfl hg
     · rfl
   rw [this]; exact .any _
end Go.Proofs.YtalhangpahffeaaDoor
namespace Go.Proofs.YtalhangpahffeaaDoor
open Go Nice
set_option linter.unusedVariables false
set_option maxRecDepth 100000
def ofDd (x : (Sh.pair .int (.pair .str (.pair (.pair .int (.pair .int .unit)) (.pair .int (.pair .int (.pair .int .unit)))))).T) : Nice.Dd := ⟨x.1, x.2.1, ⟨x.2.2.1.1, x.2.2.1.2.1⟩, x.2.2.2.1, x.2.2.2.2.1, x.2.2.2.2.2.1⟩
theorem dds_of {M : Imm} (l : List (Sh.pair .int (.pair .str (.pair (.pair .int (.pair .int .unit)) (.pair .int (.pair .int (.pair .int .unit)))))).T) {v : Value} (h : DR M ((Sh.slice (Sh.pair .int (.pair .str (.pair (.pair .int (.pair .int .unit)) (.pair .int (.pair .int (.pair .int .unit))))))).cell l 0) v) : DR M (.vec 7 (l.map ofDd).length (ddF (l.map ofDd))) v := by
 rw [List.length_map]
 refine DR.vec_congr h fun i c hi hc => ?_
 rw [List.getElem?_eq_getElem hi]
 have e : (l.map ofDd).getD i default = ofDd l[i] := by simp [List.getD, hi]
 unfold ddF
 rw [e]
 match c, hc with
 | 0, _ => rfl
 | 1, _ => rfl
 | 2, _ => rfl
 | 3, _ => rfl
 | 4, _ => rfl
 | 5, _ => rfl
 | 6, _ => rfl
theorem ddIn_of (l : List (Sh.pair .int (.pair .str (.pair (.pair .int (.pair .int .unit)) (.pair .int (.pair .int (.pair .int .unit)))))).T) (h : ∀ x, x ∈ l → (Sh.pair .int (.pair .str (.pair (.pair .int (.pair .int .unit)) (.pair .int (.pair .int (.pair .int .unit)))))).ok x) : ∀ i, i < (l.map ofDd).length → DdIn ((l.map ofDd).getD i default) := by
 intro i hi
 rw [List.length_map] at hi
 have e : (l.map ofDd).getD i default = ofDd l[i] := by simp [List.getD, hi]
 rw [e]
 obtain ⟨h1, h2, ⟨h3, h4, _⟩, h5, h6, h7, _⟩ := h _ (List.getElem_mem hi)
 exact ⟨h1, h2, ⟨h3, h4⟩, h5, h6, h7⟩
theorem storePlays_walk {H : Type} {enc : TypeId × Value → H} (v0 : Value) {b0 : Nat} {d0 : DataW H} {p0 : List MemPlace} {s0 : Nat → Bool} {e0 : Bool} {c0 : Nat} (W : World) (o0 : Value.okWide Tryd.prog W .any b0 22 v0) (k0 : DataW.Trod enc Tryd.prog W c0 s0 e0 22 v0 d0 p0) (hs : ClassesAt W) :
   Calls Tryd.prog 3 #[v0] W fun e w' => e = .returned (.bool true) ∧ RowKit.Below W.heap.size W w' := by
 obtain ⟨l0, hl0, hv0⟩ := arg_slice (P := Tryd.prog) (t := 22) (b0 := b0) (.pair (.int) (.pair (.str) (.pair (.pair (.int) (.pair (.int) (.unit))) (.pair (.int) (.pair (.int) (.pair (.int) (.unit))))))) (fit_slice Tryd.underlying22 (by kernel_rfl) (by decide) (fit_pair Tryd.underlying43 (by kernel_rfl) (fitF_pair rfl (by kernel_rfl) (fit_int Tryd.underlying3) (fitF_pair rfl (by kernel_rfl) (fit_str Tryd.underlying9) (fitF_pair rfl (by kernel_rfl) (fit_pair Tryd.underlying41 (by kernel_rfl) (fitF_pair rfl (by kernel_rfl) (fit_int Tryd.underlying3) (fitF_pair rfl (by kernel_rfl) (fit_int Tryd.underlying3) fitF_unit))) (fitF_pair rfl (by kernel_rfl) (fit_int Tryd.underlying3) (fitF_pair rfl (by kernel_rfl) (fit_int Tryd.underlying3) (fitF_pair rfl (by kernel_rfl) (fit_int Tryd.underlying3) fitF_unit)))))))) o0 k0
 have hG := classes_G hs
 refine law_walk  (lawSP_any (l0.map ofDd) (by rw [List.length_map]; exact hl0.1) (ddIn_of l0 hl0.2)) rfl rfl ?_ ?_
 · first | exact fun g ρ => .any _ | exact hG
 · intro i x hx
   match i, hx with
   | 0, hx => cases hx; exact ⟨v0, rfl, (by have := hv0 (fun _ => none); cases this with | d _ _ h => exact .d _ _ (dds_of l0 h))⟩
   | n + 1, hx => simp at hx
end Go.Proofs.YtalhangpahffeaaDoor
