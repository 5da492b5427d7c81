/- Part 10 of the proof of StorePlays: DocE, DocF. -/
import Derived.Test.YtalhangpahffeaaDoorZ9
namespace Go.Proofs.YtalhangpahffeaaDoor.Nice
open Go Go.Proofs
set_option linter.unusedVariables false
set_option linter.unusedSimpArgs false
set_option maxRecDepth 100000
set_option maxHeartbeats 1000000
theorem Spec.blur {P : Program} {G : Nat → SV} {f : FuncId} {args : List SV} {hin : List Blk} {r0 : SV} {HO : List (Option Blk)} (h : Spec P G f args hin (fun r ho => r = r0 ∧ ho = HO)) (hok : okOut hin.length .any HO = true) : Spec P G f args hin (fun r ho => r = .any ∧ ho = HO) :=
 fun M F ρ vs w h1 h2 h3 h4 h5 => (h M F ρ vs w h1 h2 h3 h4 h5).mono fun e w' ⟨M', ρ', r, ho, u, k1, k2, k3, k4, k5, k6, k7, k8, k9⟩ => ⟨M', ρ', .any, ho, u, k1, k2, k3, .any u, k5, by rw [k9]; exact hok, k7, rfl, k9⟩
theorem line_blur {Z : List Nat} {en : Nat} {ef : Nat → Nat → D} (F : List Int) (nm : ByteArray) (L : List Ln) (h6 : L.length ≤ 100) : Spec Tryd.prog GF 14 [.ptr 0 0 0, .d (.val (.string nm))] [.cells 49 3 [.sl 1 0 L.length, .sl 2 0 en, .sl 3 0 F.length], .fam Z ⟨linL L, [], some (66, 3)⟩, .rows 60 5 en ef, u8B F] (fun r ho => r = .any ∧ ho = [some (.cells 49 3 [.sl 1 0 L.length, .sl 2 0 en, .sl 3 0 F.length]), some (.fam Z ⟨linL L, [], some (66, 3)⟩), some (.rows 60 5 en ef), some (u8B F)]) := (line_any F nm L h6).blur rfl
theorem dkindN (d : Dd) (hd : DdIn d) (E : List Ev) (hE : E.length ≤ 200) (hF : (fileB E).length ≤ 800000) (hk1 : d.k < 1 ∨ 7 < d.k) : Spec Tryd.prog GF 9 [.ptr 0 0 0, ddV d] [.cells 49 3 [.d .nils, .sl 1 0 E.length, .sl 2 0 (fileB E).length], evB E, u8B (fileB E)] (fun r ho => r = fdV (errF 3) ∧ ho = [some (.cells 49 3 [.d .nils, .sl 3 0 E.length, .sl 4 0 (fileB E).length]), none, none, some (evB E), some (u8B (fileB E))]) := by
 refine start 254 3 Tryd.func9 rfl rfl rfl rfl ?_
 refine r1 <| sT 3 3 1 rfl <| sT 4 11 2 rfl <| e1 19 rfl <| keep [0, 3, 4] rfl <| W_seq <| r1 <| sT 20 19 1 rfl <| sO 21 27 2 rfl <| sO 22 35 3 rfl <| sT 23 43 4 rfl ?_
 refine ask 23 rfl (fun hg1_23 => ?_) (fun hg1_23 => ?_)
 try simp only [cs, ne_eq] at hg1_23
 refine gF 3 false 23 24 5 rfl rfl <| gF 3 false 23 25 6 rfl rfl <| gF 3 false 23 26 7 rfl rfl <| sT 27 75 8 rfl <| e1 83 rfl <| keep [0, 3, 4, 27] rfl ?_
 refine q1 rfl (fun hc1 => ?_) (fun hc1 => ?_)
 try simp only [cs, ne_eq] at hc1
 refine r1 <| sT 28 83 1 rfl <| s0O 91 2 rfl rfl rfl rfl rfl <| e1 99 rfl <| keep [4] rfl ?_
 refine cellW 11 1 (.d (.vec 2 0 (smpF []))) rfl rfl (nil_vec0 2 _) ?_
 refine rename 1 rfl rfl <| rename 2 rfl rfl <| W_ret <| tr ?_
 exact outN (fdV (errF 3)) (π := [0, 1, 2, 99, 107]) (hout := [some (.cells 49 3 [.d .nils, .sl 3 0 E.length, .sl 4 0 (fileB E).length]), none, none, some (evB E), some (u8B (fileB E))]) Tryd.results9 rfl (by trivial) rfl rfl rfl ⟨rfl, rfl, rfl, trivial⟩ ⟨rfl, rfl⟩
 exact absurd hc1 (by decide)
 try simp only [cs, ne_eq] at hg1_23
 refine gT 3 false 23 5 rfl rfl <| sT 24 51 5 rfl <| gT 3 false 23 6 rfl rfl <| sO 25 59 6 rfl <| gT 3 false 23 7 rfl rfl <| sO 26 67 7 rfl <| sT 27 75 8 rfl <| e1 83 rfl <| keep [0, 3, 4, 27] rfl ?_
 refine q1 rfl (fun hc1 => ?_) (fun hc1 => ?_)
 try simp only [cs, ne_eq] at hc1
 refine r1 <| sT 28 83 1 rfl <| s0O 91 2 rfl rfl rfl rfl rfl <| e1 99 rfl <| keep [4] rfl ?_
 refine cellW 11 1 (.d (.vec 2 0 (smpF []))) rfl rfl (nil_vec0 2 _) ?_
 refine rename 1 rfl rfl <| rename 2 rfl rfl <| W_ret <| tr ?_
 exact outN (fdV (errF 3)) (π := [0, 1, 2, 99, 107]) (hout := [some (.cells 49 3 [.d .nils, .sl 3 0 E.length, .sl 4 0 (fileB E).length]), none, none, some (evB E), some (u8B (fileB E))]) Tryd.results9 rfl (by trivial) rfl rfl rfl ⟨rfl, rfl, rfl, trivial⟩ ⟨rfl, rfl⟩
 simp at hc1; omega
theorem dkindL {Z : List Nat} (L : List Ln) (h6 : L.length ≤ 100) (d : Dd) (hd : DdIn d) (E : List Ev) (hE : E.length ≤ 200) (hF : (fileB E).length ≤ 800000) (hk1 : d.k < 1 ∨ 7 < d.k) : Spec Tryd.prog GF 9 [.ptr 0 0 0, ddV d] [.cells 49 3 [.sl 1 0 L.length, .sl 2 0 E.length, .sl 3 0 (fileB E).length], .fam Z ⟨linL L, [], some (66, 3)⟩, evB E, u8B (fileB E)] (fun r ho => r = fdV (errF 3) ∧ ho = [some (.cells 49 3 [.sl 4 0 L.length, .sl 5 0 E.length, .sl 6 0 (fileB E).length]), none, none, none, some (.fam Z ⟨linL L, [], some (66, 3)⟩), some (evB E), some (u8B (fileB E))]) := by
 refine start 254 4 Tryd.func9 rfl rfl rfl rfl ?_
 refine r1 <| sT 3 4 1 rfl <| sT 4 12 2 rfl <| e1 20 rfl <| keep [0, 3, 4] rfl <| W_seq <| r1 <| sT 20 20 1 rfl <| sO 21 28 2 rfl <| sO 22 36 3 rfl <| sT 23 44 4 rfl ?_
 refine ask 23 rfl (fun hg1_23 => ?_) (fun hg1_23 => ?_)
 try simp only [cs, ne_eq] at hg1_23
 refine gF 3 false 23 24 5 rfl rfl <| gF 3 false 23 25 6 rfl rfl <| gF 3 false 23 26 7 rfl rfl <| sT 27 76 8 rfl <| e1 84 rfl <| keep [0, 3, 4, 27] rfl ?_
 refine q1 rfl (fun hc1 => ?_) (fun hc1 => ?_)
 try simp only [cs, ne_eq] at hc1
 refine r1 <| sT 28 84 1 rfl <| s0O 92 2 rfl rfl rfl rfl rfl <| e1 100 rfl <| keep [4] rfl ?_
 refine cellW 12 1 (.d (.vec 2 0 (smpF []))) rfl rfl (nil_vec0 2 _) ?_
 refine rename 1 rfl rfl <| rename 2 rfl rfl <| rename 3 rfl rfl <| W_ret <| tr ?_
 exact outN (fdV (errF 3)) (π := [0, 1, 2, 3, 100, 108, 116]) (hout := [some (.cells 49 3 [.sl 4 0 L.length, .sl 5 0 E.length, .sl 6 0 (fileB E).length]), none, none, none, some (.fam Z ⟨linL L, [], some (66, 3)⟩), some (evB E), some (u8B (fileB E))]) Tryd.results9 rfl (by trivial) rfl rfl rfl ⟨rfl, rfl, rfl, rfl, trivial⟩ ⟨rfl, rfl⟩
 exact absurd hc1 (by decide)
 try simp only [cs, ne_eq] at hg1_23
 refine gT 3 false 23 5 rfl rfl <| sT 24 52 5 rfl <| gT 3 false 23 6 rfl rfl <| sO 25 60 6 rfl <| gT 3 false 23 7 rfl rfl <| sO 26 68 7 rfl <| sT 27 76 8 rfl <| e1 84 rfl <| keep [0, 3, 4, 27] rfl ?_
 refine q1 rfl (fun hc1 => ?_) (fun hc1 => ?_)
 try simp only [cs, ne_eq] at hc1
 refine r1 <| sT 28 84 1 rfl <| s0O 92 2 rfl rfl rfl rfl rfl <| e1 100 rfl <| keep [4] rfl ?_
 refine cellW 12 1 (.d (.vec 2 0 (smpF []))) rfl rfl (nil_vec0 2 _) ?_
 refine rename 1 rfl rfl <| rename 2 rfl rfl <| rename 3 rfl rfl <| W_ret <| tr ?_
 exact outN (fdV (errF 3)) (π := [0, 1, 2, 3, 100, 108, 116]) (hout := [some (.cells 49 3 [.sl 4 0 L.length, .sl 5 0 E.length, .sl 6 0 (fileB E).length]), none, none, none, some (.fam Z ⟨linL L, [], some (66, 3)⟩), some (evB E), some (u8B (fileB E))]) Tryd.results9 rfl (by trivial) rfl rfl rfl ⟨rfl, rfl, rfl, rfl, trivial⟩ ⟨rfl, rfl⟩
 simp at hc1; omega
theorem dnoneN (d : Dd) (hd : DdIn d) (E : List Ev) (hE : E.length ≤ 200) (hF : (fileB E).length ≤ 800000) (hk1 : 2 ≤ d.k ∧ d.k ≤ 6) : Spec Tryd.prog GF 9 [.ptr 0 0 0, ddV d] [.cells 49 3 [.d .nils, .sl 1 0 E.length, .sl 2 0 (fileB E).length], evB E, u8B (fileB E)] (fun r ho => r = fdV (errF 6) ∧ ho = [some (.cells 49 3 [.d .nils, .sl 3 0 E.length, .sl 4 0 (fileB E).length]), none, none, some (evB E), some (u8B (fileB E))]) := by
 refine start 254 3 Tryd.func9 rfl rfl rfl rfl ?_
 refine r1 <| sT 3 3 1 rfl <| sT 4 11 2 rfl <| e1 19 rfl <| keep [0, 3, 4] rfl <| W_seq <| r1 <| sT 20 19 1 rfl <| sO 21 27 2 rfl <| sO 22 35 3 rfl <| sT 23 43 4 rfl ?_
 refine ask 23 rfl (fun hg1_23 => ?_) (fun hg1_23 => ?_)
 try simp only [cs, ne_eq] at hg1_23
 exfalso; omega
 try simp only [cs, ne_eq] at hg1_23
 refine gT 3 false 23 5 rfl rfl <| sT 24 51 5 rfl <| gT 3 false 23 6 rfl rfl <| sO 25 59 6 rfl <| gT 3 false 23 7 rfl rfl <| sO 26 67 7 rfl <| sT 27 75 8 rfl <| e1 83 rfl <| keep [0, 3, 4, 27] rfl ?_
 refine q1 rfl (fun hc1 => ?_) (fun hc1 => ?_)
 simp at hc1; omega
 try simp only [cs, ne_eq] at hc1
 refine W_skip <| tn <| r1 <| sT 29 83 1 rfl <| sT 30 91 2 rfl <| sO 31 99 3 rfl ?_
 refine c1 (line_nil (Z := []) (fileB E) d.nm) [0, 1, 2] [0, 1, 2] 32 107 4 rfl rfl rfl rfl rfl rfl rfl rfl Tryd.func14 rfl rfl rfl rfl ⟨rfl, rfl, rfl, trivial⟩ rfl rfl ?_
 refine sT 5 115 5 rfl <| e1 123 rfl <| keep [0, 3, 4, 5] rfl <| W_seq <| r1 <| sT 33 123 1 rfl <| sO 34 131 2 rfl <| sO 35 139 3 rfl <| e1 147 rfl <| keep [0, 3, 4, 5, 35] rfl ?_
 refine q1 rfl (fun hc4 => ?_) (fun hc4 => ?_)
 simp at hc4; omega
 try simp only [cs, ne_eq] at hc4
 refine W_skip <| tn <| W_seq <| r1 <| sT 69 147 1 rfl <| sO 70 155 2 rfl <| sO 71 163 3 rfl <| e1 171 rfl <| keep [0, 3, 4, 5, 71] rfl ?_
 refine q1 rfl (fun hc15 => ?_) (fun hc15 => ?_)
 simp at hc15; omega
 try simp only [cs, ne_eq] at hc15
 refine W_skip <| tn <| W_seq <| r1 <| sT 121 171 1 rfl ?_
 refine sNilP 122 179 2 rfl rfl rfl rfl rfl rfl Tryd.underlying56 rfl ?_
 refine e1 187 rfl <| keep [0, 3, 4, 5, 122] rfl ?_
 refine q1 rfl (fun hc34 => ?_) (fun hc34 => ?_)
 try simp only [cs, ne_eq] at hc34
 refine r1 <| sT 123 187 1 rfl <| s0O 195 2 rfl rfl rfl rfl rfl <| e1 203 rfl <| keep [4] rfl ?_
 refine cellW 11 1 (.d (.vec 2 0 (smpF []))) rfl rfl (nil_vec0 2 _) ?_
 refine rename 1 rfl rfl <| rename 2 rfl rfl <| W_ret <| tr ?_
 exact outN (fdV (errF 6)) (π := [0, 1, 2, 203, 211]) (hout := [some (.cells 49 3 [.d .nils, .sl 3 0 E.length, .sl 4 0 (fileB E).length]), none, none, some (evB E), some (u8B (fileB E))]) Tryd.results9 rfl (by trivial) rfl rfl rfl ⟨rfl, rfl, rfl, trivial⟩ ⟨rfl, rfl⟩
 exact absurd hc34 (by simp)
theorem dnoneL {Z : List Nat} (L : List Ln) (h6 : L.length ≤ 100) (d : Dd) (hd : DdIn d) (E : List Ev) (hE : E.length ≤ 200) (hF : (fileB E).length ≤ 800000) (hk1 : 2 ≤ d.k ∧ d.k ≤ 6) (hk : idxN d.nm L = none) : Spec Tryd.prog GF 9 [.ptr 0 0 0, ddV d] [.cells 49 3 [.sl 1 0 L.length, .sl 2 0 E.length, .sl 3 0 (fileB E).length], .fam Z ⟨linL L, [], some (66, 3)⟩, evB E, u8B (fileB E)] (fun r ho => r = fdV (errF 6) ∧ ho = [some (.cells 49 3 [.sl 4 0 L.length, .sl 5 0 E.length, .sl 6 0 (fileB E).length]), none, none, none, some (.fam Z ⟨linL L, [], some (66, 3)⟩), some (evB E), some (u8B (fileB E))]) := by
 refine start 254 4 Tryd.func9 rfl rfl rfl rfl ?_
 refine r1 <| sT 3 4 1 rfl <| sT 4 12 2 rfl <| e1 20 rfl <| keep [0, 3, 4] rfl <| W_seq <| r1 <| sT 20 20 1 rfl <| sO 21 28 2 rfl <| sO 22 36 3 rfl <| sT 23 44 4 rfl ?_
 refine ask 23 rfl (fun hg1_23 => ?_) (fun hg1_23 => ?_)
 try simp only [cs, ne_eq] at hg1_23
 exfalso; omega
 try simp only [cs, ne_eq] at hg1_23
 refine gT 3 false 23 5 rfl rfl <| sT 24 52 5 rfl <| gT 3 false 23 6 rfl rfl <| sO 25 60 6 rfl <| gT 3 false 23 7 rfl rfl <| sO 26 68 7 rfl <| sT 27 76 8 rfl <| e1 84 rfl <| keep [0, 3, 4, 27] rfl ?_
 refine q1 rfl (fun hc1 => ?_) (fun hc1 => ?_)
 simp at hc1; omega
 try simp only [cs, ne_eq] at hc1
 refine W_skip <| tn <| r1 <| sT 29 84 1 rfl <| sT 30 92 2 rfl <| sO 31 100 3 rfl ?_
 refine c1 (line_none (fileB E) d.nm L h6 hk) [0, 1, 2, 3] [0, 1, 2, 3] 32 108 4 rfl rfl rfl rfl rfl rfl rfl rfl Tryd.func14 rfl rfl rfl rfl ⟨rfl, rfl, rfl, rfl, trivial⟩ rfl rfl ?_
 refine sT 5 116 5 rfl <| e1 124 rfl <| keep [0, 3, 4, 5] rfl <| W_seq <| r1 <| sT 33 124 1 rfl <| sO 34 132 2 rfl <| sO 35 140 3 rfl <| e1 148 rfl <| keep [0, 3, 4, 5, 35] rfl ?_
 refine q1 rfl (fun hc4 => ?_) (fun hc4 => ?_)
 simp at hc4; omega
 try simp only [cs, ne_eq] at hc4
 refine W_skip <| tn <| W_seq <| r1 <| sT 69 148 1 rfl <| sO 70 156 2 rfl <| sO 71 164 3 rfl <| e1 172 rfl <| keep [0, 3, 4, 5, 71] rfl ?_
 refine q1 rfl (fun hc15 => ?_) (fun hc15 => ?_)
 simp at hc15; omega
 try simp only [cs, ne_eq] at hc15
 refine W_skip <| tn <| W_seq <| r1 <| sT 121 172 1 rfl ?_
 refine sNilP 122 180 2 rfl rfl rfl rfl rfl rfl Tryd.underlying56 rfl ?_
 refine e1 188 rfl <| keep [0, 3, 4, 5, 122] rfl ?_
 refine q1 rfl (fun hc34 => ?_) (fun hc34 => ?_)
 try simp only [cs, ne_eq] at hc34
 refine r1 <| sT 123 188 1 rfl <| s0O 196 2 rfl rfl rfl rfl rfl <| e1 204 rfl <| keep [4] rfl ?_
 refine cellW 12 1 (.d (.vec 2 0 (smpF []))) rfl rfl (nil_vec0 2 _) ?_
 refine rename 1 rfl rfl <| rename 2 rfl rfl <| rename 3 rfl rfl <| W_ret <| tr ?_
 exact outN (fdV (errF 6)) (π := [0, 1, 2, 3, 204, 212, 220]) (hout := [some (.cells 49 3 [.sl 4 0 L.length, .sl 5 0 E.length, .sl 6 0 (fileB E).length]), none, none, none, some (.fam Z ⟨linL L, [], some (66, 3)⟩), some (evB E), some (u8B (fileB E))]) Tryd.results9 rfl (by trivial) rfl rfl rfl ⟨rfl, rfl, rfl, rfl, trivial⟩ ⟨rfl, rfl⟩
 exact absurd hc34 (by simp)
theorem dcreate_formN (d : Dd) (hd : DdIn d) (E : List Ev) (hE : E.length ≤ 200) (hF : (fileB E).length ≤ 800000) (hk1 : d.k = 1) (hnb : nameB d.nm = false) : Spec Tryd.prog GF 9 [.ptr 0 0 0, ddV d] [.cells 49 3 [.d .nils, .sl 1 0 E.length, .sl 2 0 (fileB E).length], evB E, u8B (fileB E)] (fun r ho => r = fdV (errF 4) ∧ ho = [some (.cells 49 3 [.d .nils, .sl 3 0 E.length, .sl 4 0 (fileB E).length]), none, none, some (evB E), some (u8B (fileB E))]) := by
 refine start 254 3 Tryd.func9 rfl rfl rfl rfl ?_
 refine r1 <| sT 3 3 1 rfl <| sT 4 11 2 rfl <| e1 19 rfl <| keep [0, 3, 4] rfl <| W_seq <| r1 <| sT 20 19 1 rfl <| sO 21 27 2 rfl <| sO 22 35 3 rfl <| sT 23 43 4 rfl ?_
 refine ask 23 rfl (fun hg1_23 => ?_) (fun hg1_23 => ?_)
 try simp only [cs, ne_eq] at hg1_23
 exfalso; omega
 try simp only [cs, ne_eq] at hg1_23
 refine gT 3 false 23 5 rfl rfl <| sT 24 51 5 rfl <| gT 3 false 23 6 rfl rfl <| sO 25 59 6 rfl <| gT 3 false 23 7 rfl rfl <| sO 26 67 7 rfl <| sT 27 75 8 rfl <| e1 83 rfl <| keep [0, 3, 4, 27] rfl ?_
 refine q1 rfl (fun hc1 => ?_) (fun hc1 => ?_)
 simp at hc1; omega
 try simp only [cs, ne_eq] at hc1
 refine W_skip <| tn <| r1 <| sT 29 83 1 rfl <| sT 30 91 2 rfl <| sO 31 99 3 rfl ?_
 refine c1 (line_nil (Z := []) (fileB E) d.nm) [0, 1, 2] [0, 1, 2] 32 107 4 rfl rfl rfl rfl rfl rfl rfl rfl Tryd.func14 rfl rfl rfl rfl ⟨rfl, rfl, rfl, trivial⟩ rfl rfl ?_
 refine sT 5 115 5 rfl <| e1 123 rfl <| keep [0, 3, 4, 5] rfl <| W_seq <| r1 <| sT 33 123 1 rfl <| sO 34 131 2 rfl <| sO 35 139 3 rfl <| e1 147 rfl <| keep [0, 3, 4, 5, 35] rfl ?_
 refine q1 rfl (fun hc4 => ?_) (fun hc4 => ?_)
 try simp only [cs, ne_eq] at hc4
 refine W_seq <| r1 <| sT 36 147 1 rfl <| sO 37 155 2 rfl ?_
 refine c1 (good_any d.nm hd.nm) [] [] 38 163 3 rfl rfl rfl rfl rfl rfl rfl rfl Tryd.func15 rfl rfl rfl rfl trivial rfl rfl ?_
 refine sT 39 171 4 rfl <| e1 179 rfl <| keep [0, 3, 4, 5, 39] rfl ?_
 refine q1 rfl (fun hc5 => ?_) (fun hc5 => ?_)
 try simp only [cs, ne_eq] at hc5
 refine r1 <| sT 40 179 1 rfl <| s0O 187 2 rfl rfl rfl rfl rfl <| e1 195 rfl <| keep [4] rfl ?_
 refine cellW 11 1 (.d (.vec 2 0 (smpF []))) rfl rfl (nil_vec0 2 _) ?_
 refine rename 1 rfl rfl <| rename 2 rfl rfl <| W_ret <| tr <| tr ?_
 exact outN (fdV (errF 4)) (π := [0, 1, 2, 195, 203]) (hout := [some (.cells 49 3 [.d .nils, .sl 3 0 E.length, .sl 4 0 (fileB E).length]), none, none, some (evB E), some (u8B (fileB E))]) Tryd.results9 rfl (by trivial) rfl rfl rfl ⟨rfl, rfl, rfl, trivial⟩ ⟨rfl, rfl⟩
 exact absurd hnb (by simpa using hc5)
 simp at hc4; omega
theorem dcreate_newN (d : Dd) (hd : DdIn d) (E : List Ev) (hE : E.length ≤ 200) (hF : (fileB E).length ≤ 800000) (hk1 : d.k = 1) (hnb : nameB d.nm = true) (hnf : ¬ 200 ≤ E.length) : Spec Tryd.prog GF 9 [.ptr 0 0 0, ddV d] [.cells 49 3 [.d .nils, .sl 1 0 E.length, .sl 2 0 (fileB E).length], evB E, u8B (fileB E)] (fun r ho => ∃ Z3, r = fdV (errF 0) ∧ ho = [some (.cells 49 3 [.sl 3 0 [newL d.nm].length, .sl 4 0 (E ++ [Ev.mk 1 d.nm [] 0]).length, .sl 5 0 (fileB (E ++ [Ev.mk 1 d.nm [] 0])).length]), none, none, some (.fam Z3 ⟨linL [newL d.nm], [], some (66, 3)⟩), some (evB (E ++ [Ev.mk 1 d.nm [] 0])), some (u8B (fileB (E ++ [Ev.mk 1 d.nm [] 0])))]) := by
 have hns := name_size hnb
 refine start 254 3 Tryd.func9 rfl rfl rfl rfl ?_
 refine r1 <| sT 3 3 1 rfl <| sT 4 11 2 rfl <| e1 19 rfl <| keep [0, 3, 4] rfl <| W_seq <| r1 <| sT 20 19 1 rfl <| sO 21 27 2 rfl <| sO 22 35 3 rfl <| sT 23 43 4 rfl ?_
 refine ask 23 rfl (fun hg1_23 => ?_) (fun hg1_23 => ?_)
 try simp only [cs, ne_eq] at hg1_23
 exfalso; omega
 try simp only [cs, ne_eq] at hg1_23
 refine gT 3 false 23 5 rfl rfl <| sT 24 51 5 rfl <| gT 3 false 23 6 rfl rfl <| sO 25 59 6 rfl <| gT 3 false 23 7 rfl rfl <| sO 26 67 7 rfl <| sT 27 75 8 rfl <| e1 83 rfl <| keep [0, 3, 4, 27] rfl ?_
 refine q1 rfl (fun hc1 => ?_) (fun hc1 => ?_)
 simp at hc1; omega
 try simp only [cs, ne_eq] at hc1
 refine W_skip <| tn <| r1 <| sT 29 83 1 rfl <| sT 30 91 2 rfl <| sO 31 99 3 rfl ?_
 refine c1 (line_nil (Z := []) (fileB E) d.nm) [0, 1, 2] [0, 1, 2] 32 107 4 rfl rfl rfl rfl rfl rfl rfl rfl Tryd.func14 rfl rfl rfl rfl ⟨rfl, rfl, rfl, trivial⟩ rfl rfl ?_
 refine sT 5 115 5 rfl <| e1 123 rfl <| keep [0, 3, 4, 5] rfl <| W_seq <| r1 <| sT 33 123 1 rfl <| sO 34 131 2 rfl <| sO 35 139 3 rfl <| e1 147 rfl <| keep [0, 3, 4, 5, 35] rfl ?_
 refine q1 rfl (fun hc4 => ?_) (fun hc4 => ?_)
 try simp only [cs, ne_eq] at hc4
 refine W_seq <| r1 <| sT 36 147 1 rfl <| sO 37 155 2 rfl ?_
 refine c1 (good_any d.nm hd.nm) [] [] 38 163 3 rfl rfl rfl rfl rfl rfl rfl rfl Tryd.func15 rfl rfl rfl rfl trivial rfl rfl ?_
 refine sT 39 171 4 rfl <| e1 179 rfl <| keep [0, 3, 4, 5, 39] rfl ?_
 refine q1 rfl (fun hc5 => ?_) (fun hc5 => ?_)
 exact absurd hnb (by simpa using hc5)
 try simp only [cs, ne_eq] at hc5
 refine W_skip <| tn <| W_seq <| r1 <| sT 41 179 1 rfl ?_
 refine sNeP true 42 187 2 rfl rfl rfl rfl rfl rfl Tryd.underlying56 rfl ?_
 refine e1 195 rfl <| keep [0, 3, 4, 42] rfl ?_
 refine q1 rfl (fun hc7 => ?_) (fun hc7 => ?_)
 exact absurd hc7 (by simp)
 try simp only [cs, ne_eq] at hc7
 refine W_skip <| tn <| W_seq <| r1 <| sT 44 195 1 rfl <| sT 45 203 2 rfl <| sT 46 211 3 rfl <| sO 47 219 4 rfl <| sO 48 227 5 rfl <| sO 49 235 6 rfl <| sT 50 243 7 rfl ?_
 refine ask 50 rfl (fun hg9_50 => ?_) (fun hg9_50 => ?_)
 try simp only [cs, ne_eq] at hg9_50
 exfalso; simp at hg9_50
 try simp only [cs, ne_eq] at hg9_50
 refine gT 6 false 50 8 rfl rfl <| sT 51 251 8 rfl <| gT 6 false 50 9 rfl rfl <| sT 52 259 9 rfl <| gT 6 false 50 10 rfl rfl <| sT 53 267 10 rfl <| gT 6 false 50 11 rfl rfl <| sO 54 275 11 rfl <| gT 6 false 50 12 rfl rfl <| sO 55 283 12 rfl <| gT 6 false 50 13 rfl rfl <| sO 56 291 13 rfl <| sT 57 299 14 rfl <| e1 307 rfl <| keep [0, 3, 4, 57] rfl ?_
 refine q1 rfl (fun hc9 => ?_) (fun hc9 => ?_)
 simp at hc9; omega
 try simp only [cs, ne_eq] at hc9
 refine W_skip <| tn <| r1 <| sT 59 307 1 rfl <| sO 60 315 2 rfl <| sT 61 323 3 rfl <| sT 6 331 4 rfl <| s0O 339 5 rfl rfl rfl rfl rfl <| e1 347 rfl <| keep [0, 4, 6] rfl <| r1 <| sT 62 347 1 rfl <| sO 63 355 2 rfl ?_
 refine c1 (write1N d.nm hns.2 E (by omega) (by omega)) [0, 1, 2] [0, 1, 2, 363, 364] 64 363 3 rfl rfl rfl rfl rfl rfl rfl rfl Tryd.func16 rfl rfl rfl rfl ⟨rfl, rfl, rfl, trivial⟩ rfl rfl ?_
 refine e1 371 rfl <| keep [0, 4, 6] rfl <| r1 <| sT 65 371 1 rfl <| sO 66 379 2 rfl ?_
 refine cQ (apply1N (fileB (E ++ [Ev.mk 1 d.nm [] 0])) d.nm 0) [0, 363, 364] 67 387 3 rfl rfl rfl rfl rfl rfl rfl Tryd.func17 rfl rfl rfl ⟨rfl, rfl, rfl, trivial⟩ ?_
 rintro _ _ ⟨Z3, rfl, rfl⟩
 refine val 67 (.tup []) rfl rfl ?_
 refine hval 0 _ rfl (.cells 49 3 [.sl 387 0 [newL d.nm].length, .sl 363 0 (E ++ [Ev.mk 1 d.nm [] 0]).length, .sl 364 0 (fileB (E ++ [Ev.mk 1 d.nm [] 0])).length]) rfl ?_
 refine hval 387 _ rfl (.fam Z3 ⟨linL [newL d.nm], [], some (66, 3)⟩) rfl ?_
 refine hval 363 _ rfl (evB (E ++ [Ev.mk 1 d.nm [] 0])) rfl ?_
 refine hval 364 _ rfl (u8B (fileB (E ++ [Ev.mk 1 d.nm [] 0]))) rfl ?_
 refine e1 395 rfl <| keep [4] rfl <| r1 <| sT 68 395 1 rfl <| s0O 403 2 rfl rfl rfl rfl rfl <| e1 411 rfl <| keep [4] rfl ?_
 refine cellW 11 1 (.d (.vec 2 0 (smpF []))) rfl rfl (nil_vec0 2 _) ?_
 refine W_ret <| tr ?_
 exact outN (fdV (errF 0)) (π := [0, 1, 2, 387, 363, 364]) (hout := [some (.cells 49 3 [.sl 3 0 [newL d.nm].length, .sl 4 0 (E ++ [Ev.mk 1 d.nm [] 0]).length, .sl 5 0 (fileB (E ++ [Ev.mk 1 d.nm [] 0])).length]), none, none, some (.fam Z3 ⟨linL [newL d.nm], [], some (66, 3)⟩), some (evB (E ++ [Ev.mk 1 d.nm [] 0])), some (u8B (fileB (E ++ [Ev.mk 1 d.nm [] 0])))]) Tryd.results9 rfl (by trivial) rfl rfl rfl ⟨rfl, rfl, rfl, rfl, trivial⟩ ⟨Z3, rfl, rfl⟩
 simp at hc4; omega
theorem dcreate_formL {Z : List Nat} (L : List Ln) (h6 : L.length ≤ 100) (d : Dd) (hd : DdIn d) (E : List Ev) (hE : E.length ≤ 200) (hF : (fileB E).length ≤ 800000) (hk1 : d.k = 1) (hnb : nameB d.nm = false) : Spec Tryd.prog GF 9 [.ptr 0 0 0, ddV d] [.cells 49 3 [.sl 1 0 L.length, .sl 2 0 E.length, .sl 3 0 (fileB E).length], .fam Z ⟨linL L, [], some (66, 3)⟩, evB E, u8B (fileB E)] (fun r ho => r = fdV (errF 4) ∧ ho = [some (.cells 49 3 [.sl 4 0 L.length, .sl 5 0 E.length, .sl 6 0 (fileB E).length]), none, none, none, some (.fam Z ⟨linL L, [], some (66, 3)⟩), some (evB E), some (u8B (fileB E))]) := by
 refine start 254 4 Tryd.func9 rfl rfl rfl rfl ?_
 refine r1 <| sT 3 4 1 rfl <| sT 4 12 2 rfl <| e1 20 rfl <| keep [0, 3, 4] rfl <| W_seq <| r1 <| sT 20 20 1 rfl <| sO 21 28 2 rfl <| sO 22 36 3 rfl <| sT 23 44 4 rfl ?_
 refine ask 23 rfl (fun hg1_23 => ?_) (fun hg1_23 => ?_)
 try simp only [cs, ne_eq] at hg1_23
 exfalso; omega
 try simp only [cs, ne_eq] at hg1_23
 refine gT 3 false 23 5 rfl rfl <| sT 24 52 5 rfl <| gT 3 false 23 6 rfl rfl <| sO 25 60 6 rfl <| gT 3 false 23 7 rfl rfl <| sO 26 68 7 rfl <| sT 27 76 8 rfl <| e1 84 rfl <| keep [0, 3, 4, 27] rfl ?_
 refine q1 rfl (fun hc1 => ?_) (fun hc1 => ?_)
 simp at hc1; omega
 try simp only [cs, ne_eq] at hc1
 refine W_skip <| tn <| r1 <| sT 29 84 1 rfl <| sT 30 92 2 rfl <| sO 31 100 3 rfl ?_
 refine c1 (line_blur (fileB E) d.nm L h6) [0, 1, 2, 3] [0, 1, 2, 3] 32 108 4 rfl rfl rfl rfl rfl rfl rfl rfl Tryd.func14 rfl rfl rfl rfl ⟨rfl, rfl, rfl, rfl, trivial⟩ rfl rfl ?_
 refine sT 5 116 5 rfl <| e1 124 rfl <| keep [0, 3, 4, 5] rfl <| W_seq <| r1 <| sT 33 124 1 rfl <| sO 34 132 2 rfl <| sO 35 140 3 rfl <| e1 148 rfl <| keep [0, 3, 4, 5, 35] rfl ?_
 refine q1 rfl (fun hc4 => ?_) (fun hc4 => ?_)
 try simp only [cs, ne_eq] at hc4
 refine W_seq <| r1 <| sT 36 148 1 rfl <| sO 37 156 2 rfl ?_
 refine c1 (good_any d.nm hd.nm) [] [] 38 164 3 rfl rfl rfl rfl rfl rfl rfl rfl Tryd.func15 rfl rfl rfl rfl trivial rfl rfl ?_
 refine sT 39 172 4 rfl <| e1 180 rfl <| keep [0, 3, 4, 5, 39] rfl ?_
 refine q1 rfl (fun hc5 => ?_) (fun hc5 => ?_)
 try simp only [cs, ne_eq] at hc5
 refine r1 <| sT 40 180 1 rfl <| s0O 188 2 rfl rfl rfl rfl rfl <| e1 196 rfl <| keep [4] rfl ?_
 refine cellW 12 1 (.d (.vec 2 0 (smpF []))) rfl rfl (nil_vec0 2 _) ?_
 refine rename 1 rfl rfl <| rename 2 rfl rfl <| rename 3 rfl rfl <| W_ret <| tr <| tr ?_
 exact outN (fdV (errF 4)) (π := [0, 1, 2, 3, 196, 204, 212]) (hout := [some (.cells 49 3 [.sl 4 0 L.length, .sl 5 0 E.length, .sl 6 0 (fileB E).length]), none, none, none, some (.fam Z ⟨linL L, [], some (66, 3)⟩), some (evB E), some (u8B (fileB E))]) Tryd.results9 rfl (by trivial) rfl rfl rfl ⟨rfl, rfl, rfl, rfl, trivial⟩ ⟨rfl, rfl⟩
 exact absurd hnb (by simpa using hc5)
 simp at hc4; omega
theorem dcreate_fullL {Z : List Nat} (L : List Ln) (h6 : L.length ≤ 100) (d : Dd) (hd : DdIn d) (E : List Ev) (hE : E.length ≤ 200) (hF : (fileB E).length ≤ 800000) (hk1 : d.k = 1) (hnb : nameB d.nm = true) (hful : 6 ≤ L.length ∨ 200 ≤ E.length) (hk : idxN d.nm L = none) : Spec Tryd.prog GF 9 [.ptr 0 0 0, ddV d] [.cells 49 3 [.sl 1 0 L.length, .sl 2 0 E.length, .sl 3 0 (fileB E).length], .fam Z ⟨linL L, [], some (66, 3)⟩, evB E, u8B (fileB E)] (fun r ho => r = fdV (errF 8) ∧ ho = [some (.cells 49 3 [.sl 4 0 L.length, .sl 5 0 E.length, .sl 6 0 (fileB E).length]), none, none, none, some (.fam Z ⟨linL L, [], some (66, 3)⟩), some (evB E), some (u8B (fileB E))]) := by
 have hns := name_size hnb
 refine start 254 4 Tryd.func9 rfl rfl rfl rfl ?_
 refine r1 <| sT 3 4 1 rfl <| sT 4 12 2 rfl <| e1 20 rfl <| keep [0, 3, 4] rfl <| W_seq <| r1 <| sT 20 20 1 rfl <| sO 21 28 2 rfl <| sO 22 36 3 rfl <| sT 23 44 4 rfl ?_
 refine ask 23 rfl (fun hg1_23 => ?_) (fun hg1_23 => ?_)
 try simp only [cs, ne_eq] at hg1_23
 exfalso; omega
 try simp only [cs, ne_eq] at hg1_23
 refine gT 3 false 23 5 rfl rfl <| sT 24 52 5 rfl <| gT 3 false 23 6 rfl rfl <| sO 25 60 6 rfl <| gT 3 false 23 7 rfl rfl <| sO 26 68 7 rfl <| sT 27 76 8 rfl <| e1 84 rfl <| keep [0, 3, 4, 27] rfl ?_
 refine q1 rfl (fun hc1 => ?_) (fun hc1 => ?_)
 simp at hc1; omega
 try simp only [cs, ne_eq] at hc1
 refine W_skip <| tn <| r1 <| sT 29 84 1 rfl <| sT 30 92 2 rfl <| sO 31 100 3 rfl ?_
 refine c1 (line_none (fileB E) d.nm L h6 hk) [0, 1, 2, 3] [0, 1, 2, 3] 32 108 4 rfl rfl rfl rfl rfl rfl rfl rfl Tryd.func14 rfl rfl rfl rfl ⟨rfl, rfl, rfl, rfl, trivial⟩ rfl rfl ?_
 refine sT 5 116 5 rfl <| e1 124 rfl <| keep [0, 3, 4, 5] rfl <| W_seq <| r1 <| sT 33 124 1 rfl <| sO 34 132 2 rfl <| sO 35 140 3 rfl <| e1 148 rfl <| keep [0, 3, 4, 5, 35] rfl ?_
 refine q1 rfl (fun hc4 => ?_) (fun hc4 => ?_)
 try simp only [cs, ne_eq] at hc4
 refine W_seq <| r1 <| sT 36 148 1 rfl <| sO 37 156 2 rfl ?_
 refine c1 (good_any d.nm hd.nm) [] [] 38 164 3 rfl rfl rfl rfl rfl rfl rfl rfl Tryd.func15 rfl rfl rfl rfl trivial rfl rfl ?_
 refine sT 39 172 4 rfl <| e1 180 rfl <| keep [0, 3, 4, 5, 39] rfl ?_
 refine q1 rfl (fun hc5 => ?_) (fun hc5 => ?_)
 exact absurd hnb (by simpa using hc5)
 try simp only [cs, ne_eq] at hc5
 refine W_skip <| tn <| W_seq <| r1 <| sT 41 180 1 rfl ?_
 refine sNeP true 42 188 2 rfl rfl rfl rfl rfl rfl Tryd.underlying56 rfl ?_
 refine e1 196 rfl <| keep [0, 3, 4, 42] rfl ?_
 refine q1 rfl (fun hc7 => ?_) (fun hc7 => ?_)
 exact absurd hc7 (by simp)
 try simp only [cs, ne_eq] at hc7
 refine W_skip <| tn <| W_seq <| r1 <| sT 44 196 1 rfl <| sT 45 204 2 rfl <| sT 46 212 3 rfl <| sO 47 220 4 rfl <| sO 48 228 5 rfl <| sO 49 236 6 rfl <| sT 50 244 7 rfl ?_
 refine ask 50 rfl (fun hg9_50 => ?_) (fun hg9_50 => ?_)
 try simp only [cs, ne_eq] at hg9_50
 refine gF 6 false 50 51 8 rfl rfl <| gF 6 false 50 52 9 rfl rfl <| gF 6 false 50 53 10 rfl rfl <| gF 6 false 50 54 11 rfl rfl <| gF 6 false 50 55 12 rfl rfl <| gF 6 false 50 56 13 rfl rfl <| sT 57 300 14 rfl <| e1 308 rfl <| keep [0, 3, 4, 57] rfl ?_
 refine q1 rfl (fun hc9 => ?_) (fun hc9 => ?_)
 try simp only [cs, ne_eq] at hc9
 refine r1 <| sT 58 308 1 rfl <| s0O 316 2 rfl rfl rfl rfl rfl <| e1 324 rfl <| keep [4] rfl ?_
 refine cellW 12 1 (.d (.vec 2 0 (smpF []))) rfl rfl (nil_vec0 2 _) ?_
 refine rename 1 rfl rfl <| rename 2 rfl rfl <| rename 3 rfl rfl <| W_ret <| tr <| tr ?_
 exact outN (fdV (errF 8)) (π := [0, 1, 2, 3, 324, 332, 340]) (hout := [some (.cells 49 3 [.sl 4 0 L.length, .sl 5 0 E.length, .sl 6 0 (fileB E).length]), none, none, none, some (.fam Z ⟨linL L, [], some (66, 3)⟩), some (evB E), some (u8B (fileB E))]) Tryd.results9 rfl (by trivial) rfl rfl rfl ⟨rfl, rfl, rfl, rfl, trivial⟩ ⟨rfl, rfl⟩
 exact absurd hc9 (by decide)
 try simp only [cs, ne_eq] at hg9_50
 refine gT 6 false 50 8 rfl rfl <| sT 51 252 8 rfl <| gT 6 false 50 9 rfl rfl <| sT 52 260 9 rfl <| gT 6 false 50 10 rfl rfl <| sT 53 268 10 rfl <| gT 6 false 50 11 rfl rfl <| sO 54 276 11 rfl <| gT 6 false 50 12 rfl rfl <| sO 55 284 12 rfl <| gT 6 false 50 13 rfl rfl <| sO 56 292 13 rfl <| sT 57 300 14 rfl <| e1 308 rfl <| keep [0, 3, 4, 57] rfl ?_
 refine q1 rfl (fun hc9 => ?_) (fun hc9 => ?_)
 try simp only [cs, ne_eq] at hc9
 refine r1 <| sT 58 308 1 rfl <| s0O 316 2 rfl rfl rfl rfl rfl <| e1 324 rfl <| keep [4] rfl ?_
 refine cellW 12 1 (.d (.vec 2 0 (smpF []))) rfl rfl (nil_vec0 2 _) ?_
 refine rename 1 rfl rfl <| rename 2 rfl rfl <| rename 3 rfl rfl <| W_ret <| tr <| tr ?_
 exact outN (fdV (errF 8)) (π := [0, 1, 2, 3, 324, 332, 340]) (hout := [some (.cells 49 3 [.sl 4 0 L.length, .sl 5 0 E.length, .sl 6 0 (fileB E).length]), none, none, none, some (.fam Z ⟨linL L, [], some (66, 3)⟩), some (evB E), some (u8B (fileB E))]) Tryd.results9 rfl (by trivial) rfl rfl rfl ⟨rfl, rfl, rfl, rfl, trivial⟩ ⟨rfl, rfl⟩
 simp at hc9; omega
 simp at hc4; omega
theorem dcreate_newL {Z : List Nat} (L : List Ln) (h6 : L.length ≤ 100) (d : Dd) (hd : DdIn d) (E : List Ev) (hE : E.length ≤ 200) (hF : (fileB E).length ≤ 800000) (hk1 : d.k = 1) (hnb : nameB d.nm = true) (hnf : ¬ 200 ≤ E.length) (hl6 : ¬ 6 ≤ L.length) (h0 : 0 < L.length) (hk : idxN d.nm L = none) : Spec Tryd.prog GF 9 [.ptr 0 0 0, ddV d] [.cells 49 3 [.sl 1 0 L.length, .sl 2 0 E.length, .sl 3 0 (fileB E).length], .fam Z ⟨linL L, [], some (66, 3)⟩, evB E, u8B (fileB E)] (fun r ho => ∃ Z3, r = fdV (errF 0) ∧ ho = [some (.cells 49 3 [.sl 4 0 (L ++ [newL d.nm]).length, .sl 5 0 (E ++ [Ev.mk 1 d.nm [] 0]).length, .sl 6 0 (fileB (E ++ [Ev.mk 1 d.nm [] 0])).length]), none, none, none, some (.fam Z3 ⟨linL (L ++ [newL d.nm]), [], some (66, 3)⟩), some (evB (E ++ [Ev.mk 1 d.nm [] 0])), some (u8B (fileB (E ++ [Ev.mk 1 d.nm [] 0])))]) := by
 have hns := name_size hnb
 refine start 254 4 Tryd.func9 rfl rfl rfl rfl ?_
 refine r1 <| sT 3 4 1 rfl <| sT 4 12 2 rfl <| e1 20 rfl <| keep [0, 3, 4] rfl <| W_seq <| r1 <| sT 20 20 1 rfl <| sO 21 28 2 rfl <| sO 22 36 3 rfl <| sT 23 44 4 rfl ?_
 refine ask 23 rfl (fun hg1_23 => ?_) (fun hg1_23 => ?_)
 try simp only [cs, ne_eq] at hg1_23
 exfalso; omega
 try simp only [cs, ne_eq] at hg1_23
 refine gT 3 false 23 5 rfl rfl <| sT 24 52 5 rfl <| gT 3 false 23 6 rfl rfl <| sO 25 60 6 rfl <| gT 3 false 23 7 rfl rfl <| sO 26 68 7 rfl <| sT 27 76 8 rfl <| e1 84 rfl <| keep [0, 3, 4, 27] rfl ?_
 refine q1 rfl (fun hc1 => ?_) (fun hc1 => ?_)
 simp at hc1; omega
 try simp only [cs, ne_eq] at hc1
 refine W_skip <| tn <| r1 <| sT 29 84 1 rfl <| sT 30 92 2 rfl <| sO 31 100 3 rfl ?_
 refine c1 (line_none (fileB E) d.nm L h6 hk) [0, 1, 2, 3] [0, 1, 2, 3] 32 108 4 rfl rfl rfl rfl rfl rfl rfl rfl Tryd.func14 rfl rfl rfl rfl ⟨rfl, rfl, rfl, rfl, trivial⟩ rfl rfl ?_
 refine sT 5 116 5 rfl <| e1 124 rfl <| keep [0, 3, 4, 5] rfl <| W_seq <| r1 <| sT 33 124 1 rfl <| sO 34 132 2 rfl <| sO 35 140 3 rfl <| e1 148 rfl <| keep [0, 3, 4, 5, 35] rfl ?_
 refine q1 rfl (fun hc4 => ?_) (fun hc4 => ?_)
 try simp only [cs, ne_eq] at hc4
 refine W_seq <| r1 <| sT 36 148 1 rfl <| sO 37 156 2 rfl ?_
 refine c1 (good_any d.nm hd.nm) [] [] 38 164 3 rfl rfl rfl rfl rfl rfl rfl rfl Tryd.func15 rfl rfl rfl rfl trivial rfl rfl ?_
 refine sT 39 172 4 rfl <| e1 180 rfl <| keep [0, 3, 4, 5, 39] rfl ?_
 refine q1 rfl (fun hc5 => ?_) (fun hc5 => ?_)
 exact absurd hnb (by simpa using hc5)
 try simp only [cs, ne_eq] at hc5
 refine W_skip <| tn <| W_seq <| r1 <| sT 41 180 1 rfl ?_
 refine sNeP true 42 188 2 rfl rfl rfl rfl rfl rfl Tryd.underlying56 rfl ?_
 refine e1 196 rfl <| keep [0, 3, 4, 42] rfl ?_
 refine q1 rfl (fun hc7 => ?_) (fun hc7 => ?_)
 exact absurd hc7 (by simp)
 try simp only [cs, ne_eq] at hc7
 refine W_skip <| tn <| W_seq <| r1 <| sT 44 196 1 rfl <| sT 45 204 2 rfl <| sT 46 212 3 rfl <| sO 47 220 4 rfl <| sO 48 228 5 rfl <| sO 49 236 6 rfl <| sT 50 244 7 rfl ?_
 refine ask 50 rfl (fun hg9_50 => ?_) (fun hg9_50 => ?_)
 try simp only [cs, ne_eq] at hg9_50
 exfalso; omega
 try simp only [cs, ne_eq] at hg9_50
 refine gT 6 false 50 8 rfl rfl <| sT 51 252 8 rfl <| gT 6 false 50 9 rfl rfl <| sT 52 260 9 rfl <| gT 6 false 50 10 rfl rfl <| sT 53 268 10 rfl <| gT 6 false 50 11 rfl rfl <| sO 54 276 11 rfl <| gT 6 false 50 12 rfl rfl <| sO 55 284 12 rfl <| gT 6 false 50 13 rfl rfl <| sO 56 292 13 rfl <| sT 57 300 14 rfl <| e1 308 rfl <| keep [0, 3, 4, 57] rfl ?_
 refine q1 rfl (fun hc9 => ?_) (fun hc9 => ?_)
 simp at hc9; omega
 try simp only [cs, ne_eq] at hc9
 refine W_skip <| tn <| r1 <| sT 59 308 1 rfl <| sO 60 316 2 rfl <| sT 61 324 3 rfl <| sT 6 332 4 rfl <| s0O 340 5 rfl rfl rfl rfl rfl <| e1 348 rfl <| keep [0, 4, 6] rfl <| r1 <| sT 62 348 1 rfl <| sO 63 356 2 rfl ?_
 refine c1 (write1L L d.nm hns.2 E (by omega) (by omega)) [0, 1, 2, 3] [0, 1, 2, 3, 364, 365] 64 364 3 rfl rfl rfl rfl rfl rfl rfl rfl Tryd.func16 rfl rfl rfl rfl ⟨rfl, rfl, rfl, rfl, trivial⟩ rfl rfl ?_
 refine e1 372 rfl <| keep [0, 4, 6] rfl <| r1 <| sT 65 372 1 rfl <| sO 66 380 2 rfl ?_
 refine c1 (apply1L (fileB (E ++ [Ev.mk 1 d.nm [] 0])) d.nm 0 L h0 h6 hk) [0, 1, 364, 365] [0, 1, 364, 365, 388] 67 388 3 rfl rfl rfl rfl rfl rfl rfl rfl Tryd.func17 rfl rfl rfl rfl ⟨rfl, rfl, rfl, rfl, trivial⟩ rfl rfl ?_
 refine e1 396 rfl <| keep [4] rfl <| r1 <| sT 68 396 1 rfl <| s0O 404 2 rfl rfl rfl rfl rfl <| e1 412 rfl <| keep [4] rfl ?_
 refine cellW 12 1 (.d (.vec 2 0 (smpF []))) rfl rfl (nil_vec0 2 _) ?_
 refine W_ret <| tr ?_
 exact outN (fdV (errF 0)) (π := [0, 1, 2, 3, 388, 364, 365]) (hout := [some (.cells 49 3 [.sl 4 0 (L ++ [newL d.nm]).length, .sl 5 0 (E ++ [Ev.mk 1 d.nm [] 0]).length, .sl 6 0 (fileB (E ++ [Ev.mk 1 d.nm [] 0])).length]), none, none, none, some (.fam Z ⟨linL (L ++ [newL d.nm]), [], some (66, 3)⟩), some (evB (E ++ [Ev.mk 1 d.nm [] 0])), some (u8B (fileB (E ++ [Ev.mk 1 d.nm [] 0])))]) Tryd.results9 rfl (by trivial) rfl rfl rfl ⟨rfl, rfl, rfl, rfl, trivial⟩ ⟨Z, rfl, rfl⟩
 simp at hc4; omega
theorem dcreate_twiceLF {Z : List Nat} (L : List Ln) (h6 : L.length ≤ 100) (d : Dd) (hd : DdIn d) (E : List Ev) (hE : E.length ≤ 200) (hF : (fileB E).length ≤ 800000) (hk1 : d.k = 1) (hnb : nameB d.nm = true) {j : Nat} (hk : idxN d.nm L = some j) : Spec Tryd.prog GF 9 [.ptr 0 0 0, ddV d] [.cells 49 3 [.sl 1 0 L.length, .sl 2 0 E.length, .sl 3 0 (fileB E).length], .fam Z ⟨linL L, [], some (66, 3)⟩, evB E, u8B (fileB E)] (fun r ho => r = fdV (errF 7) ∧ ho = [some (.cells 49 3 [.sl 4 0 L.length, .sl 5 0 E.length, .sl 6 0 (fileB E).length]), none, none, none, some (.fam Z ⟨linL L, [], some (66, 3)⟩), some (evB E), some (u8B (fileB E))]) := by
 have hns := name_size hnb
 refine start 254 4 Tryd.func9 rfl rfl rfl rfl ?_
 refine r1 <| sT 3 4 1 rfl <| sT 4 12 2 rfl <| e1 20 rfl <| keep [0, 3, 4] rfl <| W_seq <| r1 <| sT 20 20 1 rfl <| sO 21 28 2 rfl <| sO 22 36 3 rfl <| sT 23 44 4 rfl ?_
 refine ask 23 rfl (fun hg1_23 => ?_) (fun hg1_23 => ?_)
 try simp only [cs, ne_eq] at hg1_23
 exfalso; omega
 try simp only [cs, ne_eq] at hg1_23
 refine gT 3 false 23 5 rfl rfl <| sT 24 52 5 rfl <| gT 3 false 23 6 rfl rfl <| sO 25 60 6 rfl <| gT 3 false 23 7 rfl rfl <| sO 26 68 7 rfl <| sT 27 76 8 rfl <| e1 84 rfl <| keep [0, 3, 4, 27] rfl ?_
 refine q1 rfl (fun hc1 => ?_) (fun hc1 => ?_)
 simp at hc1; omega
 try simp only [cs, ne_eq] at hc1
 refine W_skip <| tn <| r1 <| sT 29 84 1 rfl <| sT 30 92 2 rfl <| sO 31 100 3 rfl ?_
 refine c1 (line_found (fileB E) d.nm L h6 hk) [0, 1, 2, 3] [0, 1, 2, 3] 32 108 4 rfl rfl rfl rfl rfl rfl rfl rfl Tryd.func14 rfl rfl rfl rfl ⟨rfl, rfl, rfl, rfl, trivial⟩ rfl rfl ?_
 refine sT 5 116 5 rfl <| e1 124 rfl <| keep [0, 3, 4, 5] rfl <| W_seq <| r1 <| sT 33 124 1 rfl <| sO 34 132 2 rfl <| sO 35 140 3 rfl <| e1 148 rfl <| keep [0, 3, 4, 5, 35] rfl ?_
 refine q1 rfl (fun hc4 => ?_) (fun hc4 => ?_)
 try simp only [cs, ne_eq] at hc4
 refine W_seq <| r1 <| sT 36 148 1 rfl <| sO 37 156 2 rfl ?_
 refine c1 (good_any d.nm hd.nm) [] [] 38 164 3 rfl rfl rfl rfl rfl rfl rfl rfl Tryd.func15 rfl rfl rfl rfl trivial rfl rfl ?_
 refine sT 39 172 4 rfl <| e1 180 rfl <| keep [0, 3, 4, 5, 39] rfl ?_
 refine q1 rfl (fun hc5 => ?_) (fun hc5 => ?_)
 exact absurd hnb (by simpa using hc5)
 try simp only [cs, ne_eq] at hc5
 refine W_skip <| tn <| W_seq <| r1 <| sT 41 180 1 rfl ?_
 refine sNeP false 42 188 2 rfl rfl rfl rfl rfl rfl Tryd.underlying56 rfl ?_
 refine e1 196 rfl <| keep [0, 3, 4, 42] rfl ?_
 refine q1 rfl (fun hc7 => ?_) (fun hc7 => ?_)
 try simp only [cs, ne_eq] at hc7
 refine r1 <| sT 43 196 1 rfl <| s0O 204 2 rfl rfl rfl rfl rfl <| e1 212 rfl <| keep [4] rfl ?_
 refine cellW 12 1 (.d (.vec 2 0 (smpF []))) rfl rfl (nil_vec0 2 _) ?_
 refine rename 1 rfl rfl <| rename 2 rfl rfl <| rename 3 rfl rfl <| W_ret <| tr <| tr ?_
 exact outN (fdV (errF 7)) (π := [0, 1, 2, 3, 212, 220, 228]) (hout := [some (.cells 49 3 [.sl 4 0 L.length, .sl 5 0 E.length, .sl 6 0 (fileB E).length]), none, none, none, some (.fam Z ⟨linL L, [], some (66, 3)⟩), some (evB E), some (u8B (fileB E))]) Tryd.results9 rfl (by trivial) rfl rfl rfl ⟨rfl, rfl, rfl, rfl, trivial⟩ ⟨rfl, rfl⟩
 exact absurd hc7 (by simp)
 simp at hc4; omega
end Go.Proofs.YtalhangpahffeaaDoor.Nice
namespace Go.Proofs.YtalhangpahffeaaDoor.Nice
open Go Go.Proofs
set_option linter.unusedVariables false
set_option linter.unusedSimpArgs false
set_option maxRecDepth 100000
set_option maxHeartbeats 1000000
theorem u_val {M : Imm} {ρ : Names} {N : Imm} {x : D} (hM : M.le N) : ∀ u, VR M ρ (.d x) u → DR N x u := by
 intro u h
 cases h with | d _ _ h => exact h.mono hM
theorem filt_succ {p : Smp → Bool} {l : List Smp} {n : Nat} (h : n < l.length) : (l.take (n + 1)).filter p = (l.take n).filter p ++ (if p (l.getD n default) then [l.getD n default] else []) := by
 rw [take_succ' h, List.filter_append, getD_eq h]
 congr 1
 cases hb : p l[n] <;> simp [hb]
theorem int_one {A : List Int} {b : Int} (i c : Nat) (hi : i < A.length + 1) (hc : c < 1) : catR (intF A) A.length (litR 1 [.val (.int .i64 b)]) i c = intF (A ++ [b]) i c := cat_one rfl i c hi hc
theorem dapp_over {Z : List Nat} (L : List Ln) (h6 : L.length ≤ 100) (d : Dd) (hd : DdIn d) (E : List Ev) (hE : E.length ≤ 200) (hF : (fileB E).length ≤ 800000) (j : Nat) (x : Ln) (hln : LnIn x) (hk : idxN d.nm L = some j) (hj : L[j]? = some x) (hxn : x.nm = d.nm) (hk1 : d.k = 2) (hb : ¬ (inB d.s.t ∧ inB d.s.v)) : Spec Tryd.prog GF 9 [.ptr 0 0 0, ddV d] [.cells 49 3 [.sl 1 0 L.length, .sl 2 0 E.length, .sl 3 0 (fileB E).length], .fam Z ⟨linL L, [], some (66, 3)⟩, evB E, u8B (fileB E)] (fun r ho => ∃ Z2, r = fdV (errF 11) ∧ ho = [some (.cells 49 3 [.sl 4 0 L.length, .sl 5 0 E.length, .sl 6 0 (fileB E).length]), none, none, none, some (.fam Z2 ⟨linL L, [], some (66, 3)⟩), some (evB E), some (u8B (fileB E))]) := by
 have hall := hln.len
 have hopl := hln.o
 have hxc := hln.c
 refine start 254 4 Tryd.func9 rfl rfl rfl rfl ?_
 refine r1 <| sT 3 4 1 rfl <| sT 4 12 2 rfl <| e1 20 rfl <| keep [0, 3, 4] rfl <| W_seq <| r1 <| sT 20 20 1 rfl <| sO 21 28 2 rfl <| sO 22 36 3 rfl <| sT 23 44 4 rfl ?_
 refine ask 23 rfl (fun hg1_23 => ?_) (fun hg1_23 => ?_)
 try simp only [cs, ne_eq] at hg1_23
 exfalso; omega
 try simp only [cs, ne_eq] at hg1_23
 refine gT 3 false 23 5 rfl rfl <| sT 24 52 5 rfl <| gT 3 false 23 6 rfl rfl <| sO 25 60 6 rfl <| gT 3 false 23 7 rfl rfl <| sO 26 68 7 rfl <| sT 27 76 8 rfl <| e1 84 rfl <| keep [0, 3, 4, 27] rfl ?_
 refine q1 rfl (fun hc1 => ?_) (fun hc1 => ?_)
 simp at hc1; omega
 try simp only [cs, ne_eq] at hc1
 refine W_skip <| tn <| r1 <| sT 29 84 1 rfl <| sT 30 92 2 rfl <| sO 31 100 3 rfl ?_
 refine c1 (line_found (fileB E) d.nm L h6 hk) [0, 1, 2, 3] [0, 1, 2, 3] 32 108 4 rfl rfl rfl rfl rfl rfl rfl rfl Tryd.func14 rfl rfl rfl rfl ⟨rfl, rfl, rfl, rfl, trivial⟩ rfl rfl ?_
 refine sT 5 116 5 rfl <| e1 124 rfl <| keep [0, 3, 4, 5] rfl <| W_seq <| r1 <| sT 33 124 1 rfl <| sO 34 132 2 rfl <| sO 35 140 3 rfl <| e1 148 rfl <| keep [0, 3, 4, 5, 35] rfl ?_
 refine q1 rfl (fun hc4 => ?_) (fun hc4 => ?_)
 simp at hc4; omega
 try simp only [cs, ne_eq] at hc4
 refine W_skip <| tn <| W_seq <| r1 <| sT 69 148 1 rfl <| sO 70 156 2 rfl <| sO 71 164 3 rfl <| e1 172 rfl <| keep [0, 3, 4, 5, 71] rfl ?_
 refine q1 rfl (fun hc15 => ?_) (fun hc15 => ?_)
 simp at hc15; omega
 try simp only [cs, ne_eq] at hc15
 refine W_skip <| tn <| W_seq <| r1 <| sT 121 172 1 rfl ?_
 refine sNilP 122 180 2 rfl rfl rfl rfl rfl rfl Tryd.underlying56 rfl ?_
 refine e1 188 rfl <| keep [0, 3, 4, 5, 122] rfl ?_
 refine q1 rfl (fun hc34 => ?_) (fun hc34 => ?_)
 exact absurd hc34 (by simp)
 try simp only [cs, ne_eq] at hc34
 refine W_skip <| tn <| r1 <| sT 13 188 1 rfl <| e1 196 rfl <| keep [0, 3, 4, 5, 13] rfl <| W_seq <| r1 <| sT 124 196 1 rfl <| sO 125 204 2 rfl <| e1 212 rfl <| keep [0, 3, 4, 5, 13, 125] rfl <| W_block <| r1 <| sO 164 212 1 rfl <| sT 163 220 2 rfl ?_
 refine e1 228 rfl <| keep [0, 3, 4, 5, 13, 125, 163] rfl ?_
 refine q1 rfl (fun hc50 => ?_) (fun hc50 => ?_)
 try simp only [cs, ne_eq] at hc50
 refine famOpen 1 j rfl (linL_at hj) rfl rfl (fun Z1 => ?_)
 refine r1 <| sT 165 236 1 rfl ?_
 refine sLend (allOf_any x.nm x.ch x.op hln.ok) (smp_flat _) [(1, .fam Z1 ⟨linL L, [(j, .agg (linO x 228))], some (66, 3)⟩), (228, chsB x.ch)] 166 244 2 rfl rfl rfl rfl rfl rfl rfl Tryd.func18 rfl rfl ⟨rfl, rfl, trivial⟩ (by intro M F ρ a h w hv hH hbs i y hy; match i, hy with | 0, hy => (cases hy; refine ⟨_, rfl, fam_all hH (show h 1 = some _ from hbs (1, _) (List.mem_cons_self ..)) rfl (List.mem_singleton.2 rfl) (hv (.tmp 165) (by simp [Op.operands, Call.operands])) fun c dd hc => ?_⟩; match c, hc with | 0, hc => (cases hc; exact ⟨_, rfl, u_val fun b o e => hH.imm b o e⟩) | 1, hc => (cases hc; exact ⟨_, rfl, fun u hu => sl_all hH (show h 228 = some _ from hbs (228, chsB x.ch) (List.mem_cons_of_mem _ (List.mem_singleton.2 rfl))) (Nat.le_refl _) hu⟩) | 2, hc => (cases hc; exact ⟨_, rfl, u_val fun b o e => hH.imm b o e⟩) | c + 3, hc => simp at hc) | i + 1, hy => simp at hy) ?_
 refine sT 14 252 3 rfl <| e1 260 rfl <| keep [0, 3, 4, 5, 13, 14] rfl <| W_block <| r1 <| sT 191 260 1 rfl <| sT 192 268 2 rfl <| sO 193 276 3 rfl ?_
 refine c1 (inb_any d.s.t) [] [] 194 284 4 rfl rfl rfl rfl rfl rfl rfl rfl Tryd.func19 rfl rfl rfl rfl trivial rfl rfl ?_
 refine sT 195 292 5 rfl <| sT 196 300 6 rfl ?_
 refine ask 196 rfl (fun hg56_196 => ?_) (fun hg56_196 => ?_)
 try simp only [cs, ne_eq] at hg56_196
 refine gF 5 false 196 197 7 rfl rfl <| gF 5 false 196 198 8 rfl rfl <| gF 5 false 196 199 9 rfl rfl <| gF 5 false 196 200 10 rfl rfl <| gF 5 false 196 201 11 rfl rfl <| sT 202 348 12 rfl <| sT 190 356 13 rfl <| e1 364 rfl <| keep [0, 3, 4, 5, 13, 14, 190] rfl ?_
 refine q1 rfl (fun hc56 => ?_) (fun hc56 => ?_)
 try simp only [cs, ne_eq] at hc56
 refine r0 ?_
 refine sT 13 364 1 rfl <| e1 372 rfl <| bn <| bn <| tn <| W_seq <| r1 <| sT 244 372 1 rfl <| sO 245 380 2 rfl <| e1 388 rfl <| keep [4, 5, 13, 245] rfl ?_
 refine q1 rfl (fun hc68 => ?_) (fun hc68 => ?_)
 try simp only [cs, ne_eq] at hc68
 refine r1 <| sT 246 388 1 rfl <| sT 247 396 2 rfl <| s0O 404 3 rfl rfl rfl rfl rfl <| e1 412 rfl <| keep [4] rfl ?_
 refine cellW 12 1 (.d (.vec 2 0 (smpF []))) rfl rfl (nil_vec0 2 _) ?_
 refine famShut 1 j [228] (.agg (linC x)) (linB x) rfl (linL_at hj) rfl ⟨rfl, trivial⟩ rfl (fun Z2 => ?_)
 refine chval 1 (.fam Z2 ⟨linL L, [], some (66, 3)⟩) rfl (congrArg (fun q => Blk.fam Z2 ⟨q, [], some (66, 3)⟩) (linL_self hj)) ?_
 refine rename 1 rfl rfl <| rename 2 rfl rfl <| rename 3 rfl rfl <| W_ret <| tr ?_
 exact outN (fdV (errF 11)) (π := [0, 1, 2, 3, 412, 420, 428]) (hout := [some (.cells 49 3 [.sl 4 0 L.length, .sl 5 0 E.length, .sl 6 0 (fileB E).length]), none, none, none, some (.fam Z2 ⟨linL L, [], some (66, 3)⟩), some (evB E), some (u8B (fileB E))]) Tryd.results9 rfl (by trivial) rfl rfl rfl ⟨rfl, rfl, rfl, rfl, trivial⟩ ⟨Z2, rfl, rfl⟩
 exact absurd hc68 (by decide)
 exact absurd hc56 (by decide)
 try simp only [cs, ne_eq] at hg56_196
 have hb1 : inB d.s.t := (by simpa using hg56_196)
 refine gT 5 false 196 7 rfl rfl <| sT 197 308 7 rfl <| gT 5 false 196 8 rfl rfl <| sT 198 316 8 rfl <| gT 5 false 196 9 rfl rfl <| sO 199 324 9 rfl <| gT 5 false 196 10 rfl rfl ?_
 refine c1 (inb_any d.s.v) [] [] 200 332 10 rfl rfl rfl rfl rfl rfl rfl rfl Tryd.func19 rfl rfl rfl rfl trivial rfl rfl ?_
 refine gT 5 false 196 11 rfl rfl <| sT 201 340 11 rfl <| sT 202 348 12 rfl <| sT 190 356 13 rfl <| e1 364 rfl <| keep [0, 3, 4, 5, 13, 14, 190] rfl ?_
 refine q1 rfl (fun hc56 => ?_) (fun hc56 => ?_)
 try simp only [cs, ne_eq] at hc56
 refine r0 ?_
 refine sT 13 364 1 rfl <| e1 372 rfl <| bn <| bn <| tn <| W_seq <| r1 <| sT 244 372 1 rfl <| sO 245 380 2 rfl <| e1 388 rfl <| keep [4, 5, 13, 245] rfl ?_
 refine q1 rfl (fun hc68 => ?_) (fun hc68 => ?_)
 try simp only [cs, ne_eq] at hc68
 refine r1 <| sT 246 388 1 rfl <| sT 247 396 2 rfl <| s0O 404 3 rfl rfl rfl rfl rfl <| e1 412 rfl <| keep [4] rfl ?_
 refine cellW 12 1 (.d (.vec 2 0 (smpF []))) rfl rfl (nil_vec0 2 _) ?_
 refine famShut 1 j [228] (.agg (linC x)) (linB x) rfl (linL_at hj) rfl ⟨rfl, trivial⟩ rfl (fun Z2 => ?_)
 refine chval 1 (.fam Z2 ⟨linL L, [], some (66, 3)⟩) rfl (congrArg (fun q => Blk.fam Z2 ⟨q, [], some (66, 3)⟩) (linL_self hj)) ?_
 refine rename 1 rfl rfl <| rename 2 rfl rfl <| rename 3 rfl rfl <| W_ret <| tr ?_
 exact outN (fdV (errF 11)) (π := [0, 1, 2, 3, 412, 420, 428]) (hout := [some (.cells 49 3 [.sl 4 0 L.length, .sl 5 0 E.length, .sl 6 0 (fileB E).length]), none, none, none, some (.fam Z2 ⟨linL L, [], some (66, 3)⟩), some (evB E), some (u8B (fileB E))]) Tryd.results9 rfl (by trivial) rfl rfl rfl ⟨rfl, rfl, rfl, rfl, trivial⟩ ⟨Z2, rfl, rfl⟩
 exact absurd hc68 (by decide)
 exfalso; simp at hc56; exact hb ⟨hb1, hc56⟩
 simp at hc50; omega
theorem dapp_old {Z : List Nat} (L : List Ln) (h6 : L.length ≤ 100) (d : Dd) (hd : DdIn d) (E : List Ev) (hE : E.length ≤ 200) (hF : (fileB E).length ≤ 800000) (j : Nat) (x : Ln) (hln : LnIn x) (hk : idxN d.nm L = some j) (hj : L[j]? = some x) (hxn : x.nm = d.nm) (hk1 : d.k = 2) (hb : inB d.s.t ∧ inB d.s.v) (h0 : 0 < (allS x.ch x.op).length) (hold : d.s.t ≤ lastT (allS x.ch x.op)) : Spec Tryd.prog GF 9 [.ptr 0 0 0, ddV d] [.cells 49 3 [.sl 1 0 L.length, .sl 2 0 E.length, .sl 3 0 (fileB E).length], .fam Z ⟨linL L, [], some (66, 3)⟩, evB E, u8B (fileB E)] (fun r ho => ∃ Z2, r = fdV (errF 9) ∧ ho = [some (.cells 49 3 [.sl 4 0 L.length, .sl 5 0 E.length, .sl 6 0 (fileB E).length]), none, none, none, some (.fam Z2 ⟨linL L, [], some (66, 3)⟩), some (evB E), some (u8B (fileB E))]) := by
 have hall := hln.len
 have hopl := hln.o
 have hxc := hln.c
 refine start 254 4 Tryd.func9 rfl rfl rfl rfl ?_
 refine r1 <| sT 3 4 1 rfl <| sT 4 12 2 rfl <| e1 20 rfl <| keep [0, 3, 4] rfl <| W_seq <| r1 <| sT 20 20 1 rfl <| sO 21 28 2 rfl <| sO 22 36 3 rfl <| sT 23 44 4 rfl ?_
 refine ask 23 rfl (fun hg1_23 => ?_) (fun hg1_23 => ?_)
 try simp only [cs, ne_eq] at hg1_23
 exfalso; omega
 try simp only [cs, ne_eq] at hg1_23
 refine gT 3 false 23 5 rfl rfl <| sT 24 52 5 rfl <| gT 3 false 23 6 rfl rfl <| sO 25 60 6 rfl <| gT 3 false 23 7 rfl rfl <| sO 26 68 7 rfl <| sT 27 76 8 rfl <| e1 84 rfl <| keep [0, 3, 4, 27] rfl ?_
 refine q1 rfl (fun hc1 => ?_) (fun hc1 => ?_)
 simp at hc1; omega
 try simp only [cs, ne_eq] at hc1
 refine W_skip <| tn <| r1 <| sT 29 84 1 rfl <| sT 30 92 2 rfl <| sO 31 100 3 rfl ?_
 refine c1 (line_found (fileB E) d.nm L h6 hk) [0, 1, 2, 3] [0, 1, 2, 3] 32 108 4 rfl rfl rfl rfl rfl rfl rfl rfl Tryd.func14 rfl rfl rfl rfl ⟨rfl, rfl, rfl, rfl, trivial⟩ rfl rfl ?_
 refine sT 5 116 5 rfl <| e1 124 rfl <| keep [0, 3, 4, 5] rfl <| W_seq <| r1 <| sT 33 124 1 rfl <| sO 34 132 2 rfl <| sO 35 140 3 rfl <| e1 148 rfl <| keep [0, 3, 4, 5, 35] rfl ?_
 refine q1 rfl (fun hc4 => ?_) (fun hc4 => ?_)
 simp at hc4; omega
 try simp only [cs, ne_eq] at hc4
 refine W_skip <| tn <| W_seq <| r1 <| sT 69 148 1 rfl <| sO 70 156 2 rfl <| sO 71 164 3 rfl <| e1 172 rfl <| keep [0, 3, 4, 5, 71] rfl ?_
 refine q1 rfl (fun hc15 => ?_) (fun hc15 => ?_)
 simp at hc15; omega
 try simp only [cs, ne_eq] at hc15
 refine W_skip <| tn <| W_seq <| r1 <| sT 121 172 1 rfl ?_
 refine sNilP 122 180 2 rfl rfl rfl rfl rfl rfl Tryd.underlying56 rfl ?_
 refine e1 188 rfl <| keep [0, 3, 4, 5, 122] rfl ?_
 refine q1 rfl (fun hc34 => ?_) (fun hc34 => ?_)
 exact absurd hc34 (by simp)
 try simp only [cs, ne_eq] at hc34
 refine W_skip <| tn <| r1 <| sT 13 188 1 rfl <| e1 196 rfl <| keep [0, 3, 4, 5, 13] rfl <| W_seq <| r1 <| sT 124 196 1 rfl <| sO 125 204 2 rfl <| e1 212 rfl <| keep [0, 3, 4, 5, 13, 125] rfl <| W_block <| r1 <| sO 164 212 1 rfl <| sT 163 220 2 rfl ?_
 refine e1 228 rfl <| keep [0, 3, 4, 5, 13, 125, 163] rfl ?_
 refine q1 rfl (fun hc50 => ?_) (fun hc50 => ?_)
 try simp only [cs, ne_eq] at hc50
 refine famOpen 1 j rfl (linL_at hj) rfl rfl (fun Z1 => ?_)
 refine r1 <| sT 165 236 1 rfl ?_
 refine sLend (allOf_any x.nm x.ch x.op hln.ok) (smp_flat _) [(1, .fam Z1 ⟨linL L, [(j, .agg (linO x 228))], some (66, 3)⟩), (228, chsB x.ch)] 166 244 2 rfl rfl rfl rfl rfl rfl rfl Tryd.func18 rfl rfl ⟨rfl, rfl, trivial⟩ (by intro M F ρ a h w hv hH hbs i y hy; match i, hy with | 0, hy => (cases hy; refine ⟨_, rfl, fam_all hH (show h 1 = some _ from hbs (1, _) (List.mem_cons_self ..)) rfl (List.mem_singleton.2 rfl) (hv (.tmp 165) (by simp [Op.operands, Call.operands])) fun c dd hc => ?_⟩; match c, hc with | 0, hc => (cases hc; exact ⟨_, rfl, u_val fun b o e => hH.imm b o e⟩) | 1, hc => (cases hc; exact ⟨_, rfl, fun u hu => sl_all hH (show h 228 = some _ from hbs (228, chsB x.ch) (List.mem_cons_of_mem _ (List.mem_singleton.2 rfl))) (Nat.le_refl _) hu⟩) | 2, hc => (cases hc; exact ⟨_, rfl, u_val fun b o e => hH.imm b o e⟩) | c + 3, hc => simp at hc) | i + 1, hy => simp at hy) ?_
 refine sT 14 252 3 rfl <| e1 260 rfl <| keep [0, 3, 4, 5, 13, 14] rfl <| W_block <| r1 <| sT 191 260 1 rfl <| sT 192 268 2 rfl <| sO 193 276 3 rfl ?_
 refine c1 (inb_any d.s.t) [] [] 194 284 4 rfl rfl rfl rfl rfl rfl rfl rfl Tryd.func19 rfl rfl rfl rfl trivial rfl rfl ?_
 refine sT 195 292 5 rfl <| sT 196 300 6 rfl ?_
 refine ask 196 rfl (fun hg56_196 => ?_) (fun hg56_196 => ?_)
 try simp only [cs, ne_eq] at hg56_196
 exfalso; exact absurd hb.1 (by simpa using hg56_196)
 try simp only [cs, ne_eq] at hg56_196
 refine gT 5 false 196 7 rfl rfl <| sT 197 308 7 rfl <| gT 5 false 196 8 rfl rfl <| sT 198 316 8 rfl <| gT 5 false 196 9 rfl rfl <| sO 199 324 9 rfl <| gT 5 false 196 10 rfl rfl ?_
 refine c1 (inb_any d.s.v) [] [] 200 332 10 rfl rfl rfl rfl rfl rfl rfl rfl Tryd.func19 rfl rfl rfl rfl trivial rfl rfl ?_
 refine gT 5 false 196 11 rfl rfl <| sT 201 340 11 rfl <| sT 202 348 12 rfl <| sT 190 356 13 rfl <| e1 364 rfl <| keep [0, 3, 4, 5, 13, 14, 190] rfl ?_
 refine q1 rfl (fun hc56 => ?_) (fun hc56 => ?_)
 exfalso; simp at hc56; first | exact hc56 hb.1 | exact hc56 hb.2
 try simp only [cs, ne_eq] at hc56
 refine rd1 rfl ?_
 refine dT 204 364 1 rfl <| dO 205 372 2 rfl <| dO 206 380 3 rfl <| dT 207 388 4 rfl ?_
 refine ask 207 rfl (fun hg58_207 => ?_) (fun hg58_207 => ?_)
 try simp only [cs, ne_eq] at hg58_207
 refine gT 3 true 207 5 rfl rfl <| dT 208 396 5 rfl <| gT 3 true 207 6 rfl rfl <| dT 209 404 6 rfl <| gT 3 true 207 7 rfl rfl <| dO 210 412 7 rfl <| gT 3 true 207 8 rfl rfl <| dAO 211 420 8 rfl <| gT 3 true 207 9 rfl rfl ?_
 refine dV 212 428 9 rfl ⟨⟨by omega, by omega⟩, by omega⟩ ?_
 refine gT 3 true 207 10 rfl rfl <| dT 213 436 10 rfl <| gT 3 true 207 11 rfl rfl <| dO 214 444 11 rfl ?_
 refine val 214 (SV.i (lastT (allS x.ch x.op))) rfl (congrArg SV.i (congrArg (fun n => ((allS x.ch x.op).getD n default).t) (by omega))) ?_
 refine gT 3 true 207 12 rfl rfl <| dT 215 452 12 rfl <| gT 3 true 207 13 rfl rfl <| dT 216 460 13 rfl <| gT 3 true 207 14 rfl rfl <| dO 217 468 14 rfl <| gT 3 true 207 15 rfl rfl <| dO 218 476 15 rfl <| dT 219 484 16 rfl <| dT 203 492 17 rfl <| de1 500 rfl (by kernel_rfl) <| keep [0, 3, 4, 5, 13, 203] rfl ?_
 refine q1 rfl (fun hc58 => ?_) (fun hc58 => ?_)
 try simp only [cs, ne_eq] at hc58
 refine r0 ?_
 refine sT 13 500 1 rfl <| e1 508 rfl <| bn <| bn <| tn <| W_seq <| r1 <| sT 244 508 1 rfl <| sO 245 516 2 rfl <| e1 524 rfl <| keep [4, 5, 13, 245] rfl ?_
 refine q1 rfl (fun hc68 => ?_) (fun hc68 => ?_)
 try simp only [cs, ne_eq] at hc68
 refine r1 <| sT 246 524 1 rfl <| sT 247 532 2 rfl <| s0O 540 3 rfl rfl rfl rfl rfl <| e1 548 rfl <| keep [4] rfl ?_
 refine cellW 12 1 (.d (.vec 2 0 (smpF []))) rfl rfl (nil_vec0 2 _) ?_
 refine famShut 1 j [228] (.agg (linC x)) (linB x) rfl (linL_at hj) rfl ⟨rfl, trivial⟩ rfl (fun Z2 => ?_)
 refine chval 1 (.fam Z2 ⟨linL L, [], some (66, 3)⟩) rfl (congrArg (fun q => Blk.fam Z2 ⟨q, [], some (66, 3)⟩) (linL_self hj)) ?_
 refine rename 1 rfl rfl <| rename 2 rfl rfl <| rename 3 rfl rfl <| W_ret <| tr ?_
 exact outN (fdV (errF 9)) (π := [0, 1, 2, 3, 548, 556, 564]) (hout := [some (.cells 49 3 [.sl 4 0 L.length, .sl 5 0 E.length, .sl 6 0 (fileB E).length]), none, none, none, some (.fam Z2 ⟨linL L, [], some (66, 3)⟩), some (evB E), some (u8B (fileB E))]) Tryd.results9 rfl (by trivial) rfl rfl rfl ⟨rfl, rfl, rfl, rfl, trivial⟩ ⟨Z2, rfl, rfl⟩
 exact absurd hc68 (by decide)
 exfalso; simp at hc58; omega
 try simp only [cs, ne_eq] at hg58_207
 exfalso; omega
 simp at hc50; omega
theorem dapp_plain {Z : List Nat} (L : List Ln) (h6 : L.length ≤ 100) (d : Dd) (hd : DdIn d) (E : List Ev) (hE : E.length ≤ 200) (hF : (fileB E).length ≤ 800000) (j : Nat) (x : Ln) (hln : LnIn x) (hk : idxN d.nm L = some j) (hj : L[j]? = some x) (hxn : x.nm = d.nm) (hk1 : d.k = 2) (hb : inB d.s.t ∧ inB d.s.v) (hnold : ¬ (0 < (allS x.ch x.op).length ∧ d.s.t ≤ lastT (allS x.ch x.op))) (h8 : ¬ 8 ≤ x.op.length) : Spec Tryd.prog GF 9 [.ptr 0 0 0, ddV d] [.cells 49 3 [.sl 1 0 L.length, .sl 2 0 E.length, .sl 3 0 (fileB E).length], .fam Z ⟨linL L, [], some (66, 3)⟩, evB E, u8B (fileB E)] (fun r ho => ∃ Z2, r = fdV (goodF x.ch.length) ∧ ho = [some (.cells 49 3 [.sl 4 0 (L.set j (Ln.mk x.nm x.ch (x.op ++ [d.s]))).length, .sl 5 0 E.length, .sl 6 0 (fileB E).length]), none, none, none, some (.fam Z2 ⟨linL (L.set j (Ln.mk x.nm x.ch (x.op ++ [d.s]))), [], some (66, 3)⟩), some (evB E), some (u8B (fileB E))]) := by
 have hall := hln.len
 have hopl := hln.o
 have hxc := hln.c
 refine start 254 4 Tryd.func9 rfl rfl rfl rfl ?_
 refine r1 <| sT 3 4 1 rfl <| sT 4 12 2 rfl <| e1 20 rfl <| keep [0, 3, 4] rfl <| W_seq <| r1 <| sT 20 20 1 rfl <| sO 21 28 2 rfl <| sO 22 36 3 rfl <| sT 23 44 4 rfl ?_
 refine ask 23 rfl (fun hg1_23 => ?_) (fun hg1_23 => ?_)
 try simp only [cs, ne_eq] at hg1_23
 exfalso; omega
 try simp only [cs, ne_eq] at hg1_23
 refine gT 3 false 23 5 rfl rfl <| sT 24 52 5 rfl <| gT 3 false 23 6 rfl rfl <| sO 25 60 6 rfl <| gT 3 false 23 7 rfl rfl <| sO 26 68 7 rfl <| sT 27 76 8 rfl <| e1 84 rfl <| keep [0, 3, 4, 27] rfl ?_
 refine q1 rfl (fun hc1 => ?_) (fun hc1 => ?_)
 simp at hc1; omega
 try simp only [cs, ne_eq] at hc1
 refine W_skip <| tn <| r1 <| sT 29 84 1 rfl <| sT 30 92 2 rfl <| sO 31 100 3 rfl ?_
 refine c1 (line_found (fileB E) d.nm L h6 hk) [0, 1, 2, 3] [0, 1, 2, 3] 32 108 4 rfl rfl rfl rfl rfl rfl rfl rfl Tryd.func14 rfl rfl rfl rfl ⟨rfl, rfl, rfl, rfl, trivial⟩ rfl rfl ?_
 refine sT 5 116 5 rfl <| e1 124 rfl <| keep [0, 3, 4, 5] rfl <| W_seq <| r1 <| sT 33 124 1 rfl <| sO 34 132 2 rfl <| sO 35 140 3 rfl <| e1 148 rfl <| keep [0, 3, 4, 5, 35] rfl ?_
 refine q1 rfl (fun hc4 => ?_) (fun hc4 => ?_)
 simp at hc4; omega
 try simp only [cs, ne_eq] at hc4
 refine W_skip <| tn <| W_seq <| r1 <| sT 69 148 1 rfl <| sO 70 156 2 rfl <| sO 71 164 3 rfl <| e1 172 rfl <| keep [0, 3, 4, 5, 71] rfl ?_
 refine q1 rfl (fun hc15 => ?_) (fun hc15 => ?_)
 simp at hc15; omega
 try simp only [cs, ne_eq] at hc15
 refine W_skip <| tn <| W_seq <| r1 <| sT 121 172 1 rfl ?_
 refine sNilP 122 180 2 rfl rfl rfl rfl rfl rfl Tryd.underlying56 rfl ?_
 refine e1 188 rfl <| keep [0, 3, 4, 5, 122] rfl ?_
 refine q1 rfl (fun hc34 => ?_) (fun hc34 => ?_)
 exact absurd hc34 (by simp)
 try simp only [cs, ne_eq] at hc34
 refine W_skip <| tn <| r1 <| sT 13 188 1 rfl <| e1 196 rfl <| keep [0, 3, 4, 5, 13] rfl <| W_seq <| r1 <| sT 124 196 1 rfl <| sO 125 204 2 rfl <| e1 212 rfl <| keep [0, 3, 4, 5, 13, 125] rfl <| W_block <| r1 <| sO 164 212 1 rfl <| sT 163 220 2 rfl ?_
 refine e1 228 rfl <| keep [0, 3, 4, 5, 13, 125, 163] rfl ?_
 refine q1 rfl (fun hc50 => ?_) (fun hc50 => ?_)
 try simp only [cs, ne_eq] at hc50
 refine famOpen 1 j rfl (linL_at hj) rfl rfl (fun Z1 => ?_)
 refine r1 <| sT 165 236 1 rfl ?_
 refine sLend (allOf_any x.nm x.ch x.op hln.ok) (smp_flat _) [(1, .fam Z1 ⟨linL L, [(j, .agg (linO x 228))], some (66, 3)⟩), (228, chsB x.ch)] 166 244 2 rfl rfl rfl rfl rfl rfl rfl Tryd.func18 rfl rfl ⟨rfl, rfl, trivial⟩ (by intro M F ρ a h w hv hH hbs i y hy; match i, hy with | 0, hy => (cases hy; refine ⟨_, rfl, fam_all hH (show h 1 = some _ from hbs (1, _) (List.mem_cons_self ..)) rfl (List.mem_singleton.2 rfl) (hv (.tmp 165) (by simp [Op.operands, Call.operands])) fun c dd hc => ?_⟩; match c, hc with | 0, hc => (cases hc; exact ⟨_, rfl, u_val fun b o e => hH.imm b o e⟩) | 1, hc => (cases hc; exact ⟨_, rfl, fun u hu => sl_all hH (show h 228 = some _ from hbs (228, chsB x.ch) (List.mem_cons_of_mem _ (List.mem_singleton.2 rfl))) (Nat.le_refl _) hu⟩) | 2, hc => (cases hc; exact ⟨_, rfl, u_val fun b o e => hH.imm b o e⟩) | c + 3, hc => simp at hc) | i + 1, hy => simp at hy) ?_
 refine sT 14 252 3 rfl <| e1 260 rfl <| keep [0, 3, 4, 5, 13, 14] rfl <| W_block <| r1 <| sT 191 260 1 rfl <| sT 192 268 2 rfl <| sO 193 276 3 rfl ?_
 refine c1 (inb_any d.s.t) [] [] 194 284 4 rfl rfl rfl rfl rfl rfl rfl rfl Tryd.func19 rfl rfl rfl rfl trivial rfl rfl ?_
 refine sT 195 292 5 rfl <| sT 196 300 6 rfl ?_
 refine ask 196 rfl (fun hg56_196 => ?_) (fun hg56_196 => ?_)
 try simp only [cs, ne_eq] at hg56_196
 exfalso; exact absurd hb.1 (by simpa using hg56_196)
 try simp only [cs, ne_eq] at hg56_196
 refine gT 5 false 196 7 rfl rfl <| sT 197 308 7 rfl <| gT 5 false 196 8 rfl rfl <| sT 198 316 8 rfl <| gT 5 false 196 9 rfl rfl <| sO 199 324 9 rfl <| gT 5 false 196 10 rfl rfl ?_
 refine c1 (inb_any d.s.v) [] [] 200 332 10 rfl rfl rfl rfl rfl rfl rfl rfl Tryd.func19 rfl rfl rfl rfl trivial rfl rfl ?_
 refine gT 5 false 196 11 rfl rfl <| sT 201 340 11 rfl <| sT 202 348 12 rfl <| sT 190 356 13 rfl <| e1 364 rfl <| keep [0, 3, 4, 5, 13, 14, 190] rfl ?_
 refine q1 rfl (fun hc56 => ?_) (fun hc56 => ?_)
 exfalso; simp at hc56; first | exact hc56 hb.1 | exact hc56 hb.2
 try simp only [cs, ne_eq] at hc56
 refine rd1 rfl ?_
 refine dT 204 364 1 rfl <| dO 205 372 2 rfl <| dO 206 380 3 rfl <| dT 207 388 4 rfl ?_
 refine ask 207 rfl (fun hg58_207 => ?_) (fun hg58_207 => ?_)
 try simp only [cs, ne_eq] at hg58_207
 refine gT 3 true 207 5 rfl rfl <| dT 208 396 5 rfl <| gT 3 true 207 6 rfl rfl <| dT 209 404 6 rfl <| gT 3 true 207 7 rfl rfl <| dO 210 412 7 rfl <| gT 3 true 207 8 rfl rfl <| dAO 211 420 8 rfl <| gT 3 true 207 9 rfl rfl ?_
 refine dV 212 428 9 rfl ⟨⟨by omega, by omega⟩, by omega⟩ ?_
 refine gT 3 true 207 10 rfl rfl <| dT 213 436 10 rfl <| gT 3 true 207 11 rfl rfl <| dO 214 444 11 rfl ?_
 refine val 214 (SV.i (lastT (allS x.ch x.op))) rfl (congrArg SV.i (congrArg (fun n => ((allS x.ch x.op).getD n default).t) (by omega))) ?_
 refine gT 3 true 207 12 rfl rfl <| dT 215 452 12 rfl <| gT 3 true 207 13 rfl rfl <| dT 216 460 13 rfl <| gT 3 true 207 14 rfl rfl <| dO 217 468 14 rfl <| gT 3 true 207 15 rfl rfl <| dO 218 476 15 rfl <| dT 219 484 16 rfl <| dT 203 492 17 rfl <| de1 500 rfl (by kernel_rfl) <| keep [0, 3, 4, 5, 13, 203] rfl ?_
 refine q1 rfl (fun hc58 => ?_) (fun hc58 => ?_)
 exfalso; simp at hc58; omega
 try simp only [cs, ne_eq] at hc58
 refine W_seq <| r1 <| sT 167 500 1 rfl <| sT 168 508 2 rfl <| sT 169 516 3 rfl ?_
 refine sLoadF (linO x 228) (.d (.vec 2 x.op.length (smpF x.op))) 170 524 4 rfl rfl rfl rfl rfl rfl rfl rfl rfl rfl (.inl (List.mem_singleton.2 rfl)) rfl ?_
 refine sO 171 532 5 rfl <| sO 172 540 6 rfl <| e1 548 rfl <| keep [0, 3, 4, 5, 13, 172] rfl ?_
 refine q1 rfl (fun hc52 => ?_) (fun hc52 => ?_)
 simp at hc52; omega
 try simp only [cs, ne_eq] at hc52
 refine W_skip <| tn <| r1 <| sT 176 548 1 rfl <| sO 177 556 2 rfl <| e1 564 rfl <| keep [3, 4, 5, 13, 177] rfl ?_
 refine q1 rfl (fun hc54 => ?_) (fun hc54 => ?_)
 try simp only [cs, ne_eq] at hc54
 refine rd0n rfl ?_
 refine dT 178 564 1 rfl <| dT 179 572 2 rfl <| dT 180 580 3 rfl <| dT 181 588 4 rfl ?_
 refine sLoadF (linO x 228) (.d (.vec 2 x.op.length (smpF x.op))) 182 596 5 rfl rfl rfl rfl rfl rfl rfl rfl rfl rfl (.inl (List.mem_singleton.2 rfl)) rfl ?_
 refine dV 183 604 6 rfl ⟨trivial, (by show _ * 16 ≤ 140737488355328; omega), (by simp only [maxLen]; omega)⟩ ?_
 refine dT 184 612 7 rfl <| dO 185 620 8 rfl <| dT 186 628 9 rfl ?_
 refine dV 187 636 10 rfl ⟨Nat.le_refl _, trivial, (by show (_ + 1) * 16 ≤ 140737488355328; omega), (by simp only [maxLen]; omega)⟩ ?_
 refine dT 188 644 11 rfl <| dT 189 652 12 rfl ?_
 refine sStoreF 660 13 rfl rfl rfl rfl rfl rfl rfl rfl rfl rfl rfl lt23 ?_
 refine de1 668 rfl (by kernel_rfl) ?_
 refine rowscn 636 (x.op ++ [d.s]).length (smpF (x.op ++ [d.s])) rfl (sm_len _ _) (fun i c hi hc => sm_one i c hi hc) ?_
 refine famCFreezen 1 j 2 636 (x.op.length + 1) rfl rfl rfl (by simp) rfl ?_
 refine wn ?_
 refine bn <| bn <| tn <| W_seq <| r1 <| sT 244 668 1 rfl <| sO 245 676 2 rfl <| e1 684 rfl <| keep [4, 5, 13, 245] rfl ?_
 refine q1 rfl (fun hc68 => ?_) (fun hc68 => ?_)
 exact absurd hc68 (by decide)
 try simp only [cs, ne_eq] at hc68
 refine W_skip <| tn <| r1 <| sT 248 684 1 rfl <| sT 249 692 2 rfl <| sT 250 700 3 rfl ?_
 refine sLoadF [.d (.val (.string x.nm)), .sl 228 0 x.ch.length, .d (.vec 2 (x.op.length + 1) (smpF (x.op ++ [d.s])))] (.sl 228 0 x.ch.length) 251 708 4 rfl rfl rfl rfl rfl rfl rfl rfl rfl rfl (.inl (List.mem_singleton.2 rfl)) rfl ?_
 refine sO 252 716 5 rfl <| sT 253 724 6 rfl <| s0O 732 7 rfl rfl rfl rfl rfl <| e1 740 rfl <| keep [4] rfl ?_
 refine cellW 12 1 (.d (.vec 2 0 (smpF []))) rfl rfl (nil_vec0 2 _) ?_
 refine famShut 1 j [228] (.agg (linC (Ln.mk x.nm x.ch (x.op ++ [d.s])))) (linB (Ln.mk x.nm x.ch (x.op ++ [d.s]))) rfl (linL_at hj) (congrArg (fun q => SV.agg [.d (.val (.string x.nm)), .sl 228 0 x.ch.length, .d (.vec 2 q (smpF (x.op ++ [d.s])))]) (show x.op.length + 1 = (x.op ++ [d.s]).length by simp)) ⟨rfl, trivial⟩ rfl (fun Z2 => ?_)
 refine chval 1 (.fam Z2 ⟨linL (L.set j (Ln.mk x.nm x.ch (x.op ++ [d.s]))), [], some (66, 3)⟩) rfl (congrArg (fun q => Blk.fam Z2 ⟨q, [], some (66, 3)⟩) (linL_set L j (Ln.mk x.nm x.ch (x.op ++ [d.s])))) ?_
 refine chval 0 (.cells 49 3 [.sl 1 0 (L.set j (Ln.mk x.nm x.ch (x.op ++ [d.s]))).length, .sl 2 0 E.length, .sl 3 0 (fileB E).length]) rfl (congrArg (fun n1 => Blk.cells 49 3 [.sl 1 0 n1, .sl 2 0 E.length, .sl 3 0 (fileB E).length]) (show L.length = (L.set j (Ln.mk x.nm x.ch (x.op ++ [d.s]))).length by simp)) ?_
 refine rename 1 rfl rfl <| rename 2 rfl rfl <| rename 3 rfl rfl <| W_ret ?_
 exact outN (fdV (goodF x.ch.length)) (π := [0, 1, 2, 3, 740, 748, 756]) (hout := [some (.cells 49 3 [.sl 4 0 (L.set j (Ln.mk x.nm x.ch (x.op ++ [d.s]))).length, .sl 5 0 E.length, .sl 6 0 (fileB E).length]), none, none, none, some (.fam Z2 ⟨linL (L.set j (Ln.mk x.nm x.ch (x.op ++ [d.s]))), [], some (66, 3)⟩), some (evB E), some (u8B (fileB E))]) Tryd.results9 rfl (by trivial) rfl rfl rfl ⟨rfl, rfl, rfl, rfl, trivial⟩ ⟨Z2, rfl, rfl⟩
 exact absurd hc54 (by decide)
 try simp only [cs, ne_eq] at hg58_207
 refine gF 3 true 207 208 5 rfl rfl <| gF 3 true 207 209 6 rfl rfl <| gF 3 true 207 210 7 rfl rfl <| gF 3 true 207 211 8 rfl rfl <| gF 3 true 207 212 9 rfl rfl <| gF 3 true 207 213 10 rfl rfl <| gF 3 true 207 214 11 rfl rfl <| gF 3 true 207 215 12 rfl rfl <| gF 3 true 207 216 13 rfl rfl <| gF 3 true 207 217 14 rfl rfl <| gF 3 true 207 218 15 rfl rfl <| dT 219 484 16 rfl <| dT 203 492 17 rfl <| de1 500 rfl (by kernel_rfl) <| keep [0, 3, 4, 5, 13, 203] rfl ?_
 refine q1 rfl (fun hc58 => ?_) (fun hc58 => ?_)
 exact absurd hc58 (by decide)
 try simp only [cs, ne_eq] at hc58
 refine W_seq <| r1 <| sT 167 500 1 rfl <| sT 168 508 2 rfl <| sT 169 516 3 rfl ?_
 refine sLoadF (linO x 228) (.d (.vec 2 x.op.length (smpF x.op))) 170 524 4 rfl rfl rfl rfl rfl rfl rfl rfl rfl rfl (.inl (List.mem_singleton.2 rfl)) rfl ?_
 refine sO 171 532 5 rfl <| sO 172 540 6 rfl <| e1 548 rfl <| keep [0, 3, 4, 5, 13, 172] rfl ?_
 refine q1 rfl (fun hc52 => ?_) (fun hc52 => ?_)
 simp at hc52; omega
 try simp only [cs, ne_eq] at hc52
 refine W_skip <| tn <| r1 <| sT 176 548 1 rfl <| sO 177 556 2 rfl <| e1 564 rfl <| keep [3, 4, 5, 13, 177] rfl ?_
 refine q1 rfl (fun hc54 => ?_) (fun hc54 => ?_)
 try simp only [cs, ne_eq] at hc54
 refine rd0n rfl ?_
 refine dT 178 564 1 rfl <| dT 179 572 2 rfl <| dT 180 580 3 rfl <| dT 181 588 4 rfl ?_
 refine sLoadF (linO x 228) (.d (.vec 2 x.op.length (smpF x.op))) 182 596 5 rfl rfl rfl rfl rfl rfl rfl rfl rfl rfl (.inl (List.mem_singleton.2 rfl)) rfl ?_
 refine dV 183 604 6 rfl ⟨trivial, (by show _ * 16 ≤ 140737488355328; omega), (by simp only [maxLen]; omega)⟩ ?_
 refine dT 184 612 7 rfl <| dO 185 620 8 rfl <| dT 186 628 9 rfl ?_
 refine dV 187 636 10 rfl ⟨Nat.le_refl _, trivial, (by show (_ + 1) * 16 ≤ 140737488355328; omega), (by simp only [maxLen]; omega)⟩ ?_
 refine dT 188 644 11 rfl <| dT 189 652 12 rfl ?_
 refine sStoreF 660 13 rfl rfl rfl rfl rfl rfl rfl rfl rfl rfl rfl lt23 ?_
 refine de1 668 rfl (by kernel_rfl) ?_
 refine rowscn 636 (x.op ++ [d.s]).length (smpF (x.op ++ [d.s])) rfl (sm_len _ _) (fun i c hi hc => sm_one i c hi hc) ?_
 refine famCFreezen 1 j 2 636 (x.op.length + 1) rfl rfl rfl (by simp) rfl ?_
 refine wn ?_
 refine bn <| bn <| tn <| W_seq <| r1 <| sT 244 668 1 rfl <| sO 245 676 2 rfl <| e1 684 rfl <| keep [4, 5, 13, 245] rfl ?_
 refine q1 rfl (fun hc68 => ?_) (fun hc68 => ?_)
 exact absurd hc68 (by decide)
 try simp only [cs, ne_eq] at hc68
 refine W_skip <| tn <| r1 <| sT 248 684 1 rfl <| sT 249 692 2 rfl <| sT 250 700 3 rfl ?_
 refine sLoadF [.d (.val (.string x.nm)), .sl 228 0 x.ch.length, .d (.vec 2 (x.op.length + 1) (smpF (x.op ++ [d.s])))] (.sl 228 0 x.ch.length) 251 708 4 rfl rfl rfl rfl rfl rfl rfl rfl rfl rfl (.inl (List.mem_singleton.2 rfl)) rfl ?_
 refine sO 252 716 5 rfl <| sT 253 724 6 rfl <| s0O 732 7 rfl rfl rfl rfl rfl <| e1 740 rfl <| keep [4] rfl ?_
 refine cellW 12 1 (.d (.vec 2 0 (smpF []))) rfl rfl (nil_vec0 2 _) ?_
 refine famShut 1 j [228] (.agg (linC (Ln.mk x.nm x.ch (x.op ++ [d.s])))) (linB (Ln.mk x.nm x.ch (x.op ++ [d.s]))) rfl (linL_at hj) (congrArg (fun q => SV.agg [.d (.val (.string x.nm)), .sl 228 0 x.ch.length, .d (.vec 2 q (smpF (x.op ++ [d.s])))]) (show x.op.length + 1 = (x.op ++ [d.s]).length by simp)) ⟨rfl, trivial⟩ rfl (fun Z2 => ?_)
 refine chval 1 (.fam Z2 ⟨linL (L.set j (Ln.mk x.nm x.ch (x.op ++ [d.s]))), [], some (66, 3)⟩) rfl (congrArg (fun q => Blk.fam Z2 ⟨q, [], some (66, 3)⟩) (linL_set L j (Ln.mk x.nm x.ch (x.op ++ [d.s])))) ?_
 refine chval 0 (.cells 49 3 [.sl 1 0 (L.set j (Ln.mk x.nm x.ch (x.op ++ [d.s]))).length, .sl 2 0 E.length, .sl 3 0 (fileB E).length]) rfl (congrArg (fun n1 => Blk.cells 49 3 [.sl 1 0 n1, .sl 2 0 E.length, .sl 3 0 (fileB E).length]) (show L.length = (L.set j (Ln.mk x.nm x.ch (x.op ++ [d.s]))).length by simp)) ?_
 refine rename 1 rfl rfl <| rename 2 rfl rfl <| rename 3 rfl rfl <| W_ret ?_
 exact outN (fdV (goodF x.ch.length)) (π := [0, 1, 2, 3, 740, 748, 756]) (hout := [some (.cells 49 3 [.sl 4 0 (L.set j (Ln.mk x.nm x.ch (x.op ++ [d.s]))).length, .sl 5 0 E.length, .sl 6 0 (fileB E).length]), none, none, none, some (.fam Z2 ⟨linL (L.set j (Ln.mk x.nm x.ch (x.op ++ [d.s]))), [], some (66, 3)⟩), some (evB E), some (u8B (fileB E))]) Tryd.results9 rfl (by trivial) rfl rfl rfl ⟨rfl, rfl, rfl, rfl, trivial⟩ ⟨Z2, rfl, rfl⟩
 exact absurd hc54 (by decide)
 simp at hc50; omega
theorem dapp_full {Z : List Nat} (L : List Ln) (h6 : L.length ≤ 100) (d : Dd) (hd : DdIn d) (E : List Ev) (hE : E.length ≤ 200) (hF : (fileB E).length ≤ 800000) (j : Nat) (x : Ln) (hln : LnIn x) (hk : idxN d.nm L = some j) (hj : L[j]? = some x) (hxn : x.nm = d.nm) (hk1 : d.k = 2) (hb : inB d.s.t ∧ inB d.s.v) (hnold : ¬ (0 < (allS x.ch x.op).length ∧ d.s.t ≤ lastT (allS x.ch x.op))) (h8 : 8 ≤ x.op.length) (q : KR) (hq : sealK j x L E = q) (hqe : ¬ q.e = 0) : Spec Tryd.prog GF 9 [.ptr 0 0 0, ddV d] [.cells 49 3 [.sl 1 0 L.length, .sl 2 0 E.length, .sl 3 0 (fileB E).length], .fam Z ⟨linL L, [], some (66, 3)⟩, evB E, u8B (fileB E)] (fun r ho => ∃ Z2, r = fdV (errF q.e) ∧ ho = [some (.cells 49 3 [.sl 4 0 q.L.length, .sl 5 0 q.E.length, .sl 6 0 (fileB q.E).length]), none, none, none, some (.fam Z2 ⟨linL q.L, [], some (66, 3)⟩), some (evB q.E), some (u8B (fileB q.E))]) := by
 have hall := hln.len
 have hopl := hln.o
 have hxc := hln.c
 refine start 254 4 Tryd.func9 rfl rfl rfl rfl ?_
 refine r1 <| sT 3 4 1 rfl <| sT 4 12 2 rfl <| e1 20 rfl <| keep [0, 3, 4] rfl <| W_seq <| r1 <| sT 20 20 1 rfl <| sO 21 28 2 rfl <| sO 22 36 3 rfl <| sT 23 44 4 rfl ?_
 refine ask 23 rfl (fun hg1_23 => ?_) (fun hg1_23 => ?_)
 try simp only [cs, ne_eq] at hg1_23
 exfalso; omega
 try simp only [cs, ne_eq] at hg1_23
 refine gT 3 false 23 5 rfl rfl <| sT 24 52 5 rfl <| gT 3 false 23 6 rfl rfl <| sO 25 60 6 rfl <| gT 3 false 23 7 rfl rfl <| sO 26 68 7 rfl <| sT 27 76 8 rfl <| e1 84 rfl <| keep [0, 3, 4, 27] rfl ?_
 refine q1 rfl (fun hc1 => ?_) (fun hc1 => ?_)
 simp at hc1; omega
 try simp only [cs, ne_eq] at hc1
 refine W_skip <| tn <| r1 <| sT 29 84 1 rfl <| sT 30 92 2 rfl <| sO 31 100 3 rfl ?_
 refine c1 (line_found (fileB E) d.nm L h6 hk) [0, 1, 2, 3] [0, 1, 2, 3] 32 108 4 rfl rfl rfl rfl rfl rfl rfl rfl Tryd.func14 rfl rfl rfl rfl ⟨rfl, rfl, rfl, rfl, trivial⟩ rfl rfl ?_
 refine sT 5 116 5 rfl <| e1 124 rfl <| keep [0, 3, 4, 5] rfl <| W_seq <| r1 <| sT 33 124 1 rfl <| sO 34 132 2 rfl <| sO 35 140 3 rfl <| e1 148 rfl <| keep [0, 3, 4, 5, 35] rfl ?_
 refine q1 rfl (fun hc4 => ?_) (fun hc4 => ?_)
 simp at hc4; omega
 try simp only [cs, ne_eq] at hc4
 refine W_skip <| tn <| W_seq <| r1 <| sT 69 148 1 rfl <| sO 70 156 2 rfl <| sO 71 164 3 rfl <| e1 172 rfl <| keep [0, 3, 4, 5, 71] rfl ?_
 refine q1 rfl (fun hc15 => ?_) (fun hc15 => ?_)
 simp at hc15; omega
 try simp only [cs, ne_eq] at hc15
 refine W_skip <| tn <| W_seq <| r1 <| sT 121 172 1 rfl ?_
 refine sNilP 122 180 2 rfl rfl rfl rfl rfl rfl Tryd.underlying56 rfl ?_
 refine e1 188 rfl <| keep [0, 3, 4, 5, 122] rfl ?_
 refine q1 rfl (fun hc34 => ?_) (fun hc34 => ?_)
 exact absurd hc34 (by simp)
 try simp only [cs, ne_eq] at hc34
 refine W_skip <| tn <| r1 <| sT 13 188 1 rfl <| e1 196 rfl <| keep [0, 3, 4, 5, 13] rfl <| W_seq <| r1 <| sT 124 196 1 rfl <| sO 125 204 2 rfl <| e1 212 rfl <| keep [0, 3, 4, 5, 13, 125] rfl <| W_block <| r1 <| sO 164 212 1 rfl <| sT 163 220 2 rfl ?_
 refine e1 228 rfl <| keep [0, 3, 4, 5, 13, 125, 163] rfl ?_
 refine q1 rfl (fun hc50 => ?_) (fun hc50 => ?_)
 try simp only [cs, ne_eq] at hc50
 refine famOpen 1 j rfl (linL_at hj) rfl rfl (fun Z1 => ?_)
 refine r1 <| sT 165 236 1 rfl ?_
 refine sLend (allOf_any x.nm x.ch x.op hln.ok) (smp_flat _) [(1, .fam Z1 ⟨linL L, [(j, .agg (linO x 228))], some (66, 3)⟩), (228, chsB x.ch)] 166 244 2 rfl rfl rfl rfl rfl rfl rfl Tryd.func18 rfl rfl ⟨rfl, rfl, trivial⟩ (by intro M F ρ a h w hv hH hbs i y hy; match i, hy with | 0, hy => (cases hy; refine ⟨_, rfl, fam_all hH (show h 1 = some _ from hbs (1, _) (List.mem_cons_self ..)) rfl (List.mem_singleton.2 rfl) (hv (.tmp 165) (by simp [Op.operands, Call.operands])) fun c dd hc => ?_⟩; match c, hc with | 0, hc => (cases hc; exact ⟨_, rfl, u_val fun b o e => hH.imm b o e⟩) | 1, hc => (cases hc; exact ⟨_, rfl, fun u hu => sl_all hH (show h 228 = some _ from hbs (228, chsB x.ch) (List.mem_cons_of_mem _ (List.mem_singleton.2 rfl))) (Nat.le_refl _) hu⟩) | 2, hc => (cases hc; exact ⟨_, rfl, u_val fun b o e => hH.imm b o e⟩) | c + 3, hc => simp at hc) | i + 1, hy => simp at hy) ?_
 refine sT 14 252 3 rfl <| e1 260 rfl <| keep [0, 3, 4, 5, 13, 14] rfl <| W_block <| r1 <| sT 191 260 1 rfl <| sT 192 268 2 rfl <| sO 193 276 3 rfl ?_
 refine c1 (inb_any d.s.t) [] [] 194 284 4 rfl rfl rfl rfl rfl rfl rfl rfl Tryd.func19 rfl rfl rfl rfl trivial rfl rfl ?_
 refine sT 195 292 5 rfl <| sT 196 300 6 rfl ?_
 refine ask 196 rfl (fun hg56_196 => ?_) (fun hg56_196 => ?_)
 try simp only [cs, ne_eq] at hg56_196
 exfalso; exact absurd hb.1 (by simpa using hg56_196)
 try simp only [cs, ne_eq] at hg56_196
 refine gT 5 false 196 7 rfl rfl <| sT 197 308 7 rfl <| gT 5 false 196 8 rfl rfl <| sT 198 316 8 rfl <| gT 5 false 196 9 rfl rfl <| sO 199 324 9 rfl <| gT 5 false 196 10 rfl rfl ?_
 refine c1 (inb_any d.s.v) [] [] 200 332 10 rfl rfl rfl rfl rfl rfl rfl rfl Tryd.func19 rfl rfl rfl rfl trivial rfl rfl ?_
 refine gT 5 false 196 11 rfl rfl <| sT 201 340 11 rfl <| sT 202 348 12 rfl <| sT 190 356 13 rfl <| e1 364 rfl <| keep [0, 3, 4, 5, 13, 14, 190] rfl ?_
 refine q1 rfl (fun hc56 => ?_) (fun hc56 => ?_)
 exfalso; simp at hc56; first | exact hc56 hb.1 | exact hc56 hb.2
 try simp only [cs, ne_eq] at hc56
 refine rd1 rfl ?_
 refine dT 204 364 1 rfl <| dO 205 372 2 rfl <| dO 206 380 3 rfl <| dT 207 388 4 rfl ?_
 refine ask 207 rfl (fun hg58_207 => ?_) (fun hg58_207 => ?_)
 try simp only [cs, ne_eq] at hg58_207
 refine gT 3 true 207 5 rfl rfl <| dT 208 396 5 rfl <| gT 3 true 207 6 rfl rfl <| dT 209 404 6 rfl <| gT 3 true 207 7 rfl rfl <| dO 210 412 7 rfl <| gT 3 true 207 8 rfl rfl <| dAO 211 420 8 rfl <| gT 3 true 207 9 rfl rfl ?_
 refine dV 212 428 9 rfl ⟨⟨by omega, by omega⟩, by omega⟩ ?_
 refine gT 3 true 207 10 rfl rfl <| dT 213 436 10 rfl <| gT 3 true 207 11 rfl rfl <| dO 214 444 11 rfl ?_
 refine val 214 (SV.i (lastT (allS x.ch x.op))) rfl (congrArg SV.i (congrArg (fun n => ((allS x.ch x.op).getD n default).t) (by omega))) ?_
 refine gT 3 true 207 12 rfl rfl <| dT 215 452 12 rfl <| gT 3 true 207 13 rfl rfl <| dT 216 460 13 rfl <| gT 3 true 207 14 rfl rfl <| dO 217 468 14 rfl <| gT 3 true 207 15 rfl rfl <| dO 218 476 15 rfl <| dT 219 484 16 rfl <| dT 203 492 17 rfl <| de1 500 rfl (by kernel_rfl) <| keep [0, 3, 4, 5, 13, 203] rfl ?_
 refine q1 rfl (fun hc58 => ?_) (fun hc58 => ?_)
 exfalso; simp at hc58; omega
 try simp only [cs, ne_eq] at hc58
 refine W_seq <| r1 <| sT 167 500 1 rfl <| sT 168 508 2 rfl <| sT 169 516 3 rfl ?_
 refine sLoadF (linO x 228) (.d (.vec 2 x.op.length (smpF x.op))) 170 524 4 rfl rfl rfl rfl rfl rfl rfl rfl rfl rfl (.inl (List.mem_singleton.2 rfl)) rfl ?_
 refine sO 171 532 5 rfl <| sO 172 540 6 rfl <| e1 548 rfl <| keep [0, 3, 4, 5, 13, 172] rfl ?_
 refine q1 rfl (fun hc52 => ?_) (fun hc52 => ?_)
 try simp only [cs, ne_eq] at hc52
 refine famShut 1 j [228] (.agg (linC x)) (linB x) rfl (linL_at hj) rfl ⟨rfl, trivial⟩ rfl (fun Z3 => ?_)
 refine chval 1 (.fam Z3 ⟨linL L, [], some (66, 3)⟩) rfl (congrArg (fun q => Blk.fam Z3 ⟨q, [], some (66, 3)⟩) (linL_self hj)) ?_
 refine r0 ?_
 refine sT 173 548 1 rfl <| sT 174 556 2 rfl ?_
 refine cQ (seals_any L h6 E (by omega) hF hln (hxn ▸ hk) hj q hq) [0, 1, 2, 3] 175 564 3 rfl rfl rfl rfl rfl rfl rfl Tryd.func20 rfl rfl rfl ⟨rfl, rfl, rfl, rfl, trivial⟩ ?_
 rintro _ _ ⟨Z4, rfl, rfl⟩
 refine val 175 (SV.i q.e) rfl rfl ?_
 refine hval 0 _ rfl (.cells 49 3 [.sl 1 0 q.L.length, .sl 564 0 q.E.length, .sl 565 0 (fileB q.E).length]) rfl ?_
 refine hval 1 _ rfl (.fam Z4 ⟨linL q.L, [], some (66, 3)⟩) rfl ?_
 refine hval 564 _ rfl (evB q.E) rfl ?_
 refine hval 565 _ rfl (u8B (fileB q.E)) rfl ?_
 refine sT 13 572 4 rfl <| e1 580 rfl <| tn <| r1 <| sT 176 580 1 rfl <| sO 177 588 2 rfl <| e1 596 rfl <| keep [3, 4, 5, 13, 177] rfl ?_
 refine q1 rfl (fun hc54 => ?_) (fun hc54 => ?_)
 exact absurd hc54 (by simpa using hqe)
 try simp only [cs, ne_eq] at hc54
 refine W_skip <| bn <| bn <| tn <| W_seq <| r1 <| sT 244 596 1 rfl <| sO 245 604 2 rfl <| e1 612 rfl <| keep [4, 5, 13, 245] rfl ?_
 refine q1 rfl (fun hc68 => ?_) (fun hc68 => ?_)
 try simp only [cs, ne_eq] at hc68
 refine r1 <| sT 246 612 1 rfl <| sT 247 620 2 rfl <| s0O 628 3 rfl rfl rfl rfl rfl <| e1 636 rfl <| keep [4] rfl ?_
 refine cellW 12 1 (.d (.vec 2 0 (smpF []))) rfl rfl (nil_vec0 2 _) ?_
 refine rename 1 rfl rfl <| W_ret <| tr ?_
 exact outN (fdV (errF q.e)) (π := [0, 1, 2, 3, 636, 564, 565]) (hout := [some (.cells 49 3 [.sl 4 0 q.L.length, .sl 5 0 q.E.length, .sl 6 0 (fileB q.E).length]), none, none, none, some (.fam Z4 ⟨linL q.L, [], some (66, 3)⟩), some (evB q.E), some (u8B (fileB q.E))]) Tryd.results9 rfl (by trivial) rfl rfl rfl ⟨rfl, rfl, rfl, rfl, trivial⟩ ⟨Z4, rfl, rfl⟩
 exact absurd hqe (by simpa using hc68)
 simp at hc52; omega
 try simp only [cs, ne_eq] at hg58_207
 refine gF 3 true 207 208 5 rfl rfl <| gF 3 true 207 209 6 rfl rfl <| gF 3 true 207 210 7 rfl rfl <| gF 3 true 207 211 8 rfl rfl <| gF 3 true 207 212 9 rfl rfl <| gF 3 true 207 213 10 rfl rfl <| gF 3 true 207 214 11 rfl rfl <| gF 3 true 207 215 12 rfl rfl <| gF 3 true 207 216 13 rfl rfl <| gF 3 true 207 217 14 rfl rfl <| gF 3 true 207 218 15 rfl rfl <| dT 219 484 16 rfl <| dT 203 492 17 rfl <| de1 500 rfl (by kernel_rfl) <| keep [0, 3, 4, 5, 13, 203] rfl ?_
 refine q1 rfl (fun hc58 => ?_) (fun hc58 => ?_)
 exact absurd hc58 (by decide)
 try simp only [cs, ne_eq] at hc58
 refine W_seq <| r1 <| sT 167 500 1 rfl <| sT 168 508 2 rfl <| sT 169 516 3 rfl ?_
 refine sLoadF (linO x 228) (.d (.vec 2 x.op.length (smpF x.op))) 170 524 4 rfl rfl rfl rfl rfl rfl rfl rfl rfl rfl (.inl (List.mem_singleton.2 rfl)) rfl ?_
 refine sO 171 532 5 rfl <| sO 172 540 6 rfl <| e1 548 rfl <| keep [0, 3, 4, 5, 13, 172] rfl ?_
 refine q1 rfl (fun hc52 => ?_) (fun hc52 => ?_)
 try simp only [cs, ne_eq] at hc52
 refine famShut 1 j [228] (.agg (linC x)) (linB x) rfl (linL_at hj) rfl ⟨rfl, trivial⟩ rfl (fun Z3 => ?_)
 refine chval 1 (.fam Z3 ⟨linL L, [], some (66, 3)⟩) rfl (congrArg (fun q => Blk.fam Z3 ⟨q, [], some (66, 3)⟩) (linL_self hj)) ?_
 refine r0 ?_
 refine sT 173 548 1 rfl <| sT 174 556 2 rfl ?_
 refine cQ (seals_any L h6 E (by omega) hF hln (hxn ▸ hk) hj q hq) [0, 1, 2, 3] 175 564 3 rfl rfl rfl rfl rfl rfl rfl Tryd.func20 rfl rfl rfl ⟨rfl, rfl, rfl, rfl, trivial⟩ ?_
 rintro _ _ ⟨Z4, rfl, rfl⟩
 refine val 175 (SV.i q.e) rfl rfl ?_
 refine hval 0 _ rfl (.cells 49 3 [.sl 1 0 q.L.length, .sl 564 0 q.E.length, .sl 565 0 (fileB q.E).length]) rfl ?_
 refine hval 1 _ rfl (.fam Z4 ⟨linL q.L, [], some (66, 3)⟩) rfl ?_
 refine hval 564 _ rfl (evB q.E) rfl ?_
 refine hval 565 _ rfl (u8B (fileB q.E)) rfl ?_
 refine sT 13 572 4 rfl <| e1 580 rfl <| tn <| r1 <| sT 176 580 1 rfl <| sO 177 588 2 rfl <| e1 596 rfl <| keep [3, 4, 5, 13, 177] rfl ?_
 refine q1 rfl (fun hc54 => ?_) (fun hc54 => ?_)
 exact absurd hc54 (by simpa using hqe)
 try simp only [cs, ne_eq] at hc54
 refine W_skip <| bn <| bn <| tn <| W_seq <| r1 <| sT 244 596 1 rfl <| sO 245 604 2 rfl <| e1 612 rfl <| keep [4, 5, 13, 245] rfl ?_
 refine q1 rfl (fun hc68 => ?_) (fun hc68 => ?_)
 try simp only [cs, ne_eq] at hc68
 refine r1 <| sT 246 612 1 rfl <| sT 247 620 2 rfl <| s0O 628 3 rfl rfl rfl rfl rfl <| e1 636 rfl <| keep [4] rfl ?_
 refine cellW 12 1 (.d (.vec 2 0 (smpF []))) rfl rfl (nil_vec0 2 _) ?_
 refine rename 1 rfl rfl <| W_ret <| tr ?_
 exact outN (fdV (errF q.e)) (π := [0, 1, 2, 3, 636, 564, 565]) (hout := [some (.cells 49 3 [.sl 4 0 q.L.length, .sl 5 0 q.E.length, .sl 6 0 (fileB q.E).length]), none, none, none, some (.fam Z4 ⟨linL q.L, [], some (66, 3)⟩), some (evB q.E), some (u8B (fileB q.E))]) Tryd.results9 rfl (by trivial) rfl rfl rfl ⟨rfl, rfl, rfl, rfl, trivial⟩ ⟨Z4, rfl, rfl⟩
 exact absurd hqe (by simpa using hc68)
 simp at hc52; omega
 simp at hc50; omega
theorem dapp_sealed {Z : List Nat} (L : List Ln) (h6 : L.length ≤ 100) (d : Dd) (hd : DdIn d) (E : List Ev) (hE : E.length ≤ 200) (hF : (fileB E).length ≤ 800000) (j : Nat) (x : Ln) (hln : LnIn x) (hk : idxN d.nm L = some j) (hj : L[j]? = some x) (hxn : x.nm = d.nm) (hk1 : d.k = 2) (hb : inB d.s.t ∧ inB d.s.v) (hnold : ¬ (0 < (allS x.ch x.op).length ∧ d.s.t ≤ lastT (allS x.ch x.op))) (h8 : 8 ≤ x.op.length) (q : KR) (hq : sealK j x L E = q) (hqe : q.e = 0) (x2 : Ln) (hj2 : q.L[j]? = some x2) (hx2n : x2.nm = x.nm) (ho2 : x2.op.length ≤ 120) (hc2 : x2.ch.length ≤ 200)  : Spec Tryd.prog GF 9 [.ptr 0 0 0, ddV d] [.cells 49 3 [.sl 1 0 L.length, .sl 2 0 E.length, .sl 3 0 (fileB E).length], .fam Z ⟨linL L, [], some (66, 3)⟩, evB E, u8B (fileB E)] (fun r ho => ∃ Z2, r = fdV (goodF x2.ch.length) ∧ ho = [some (.cells 49 3 [.sl 4 0 (q.L.set j (Ln.mk x2.nm x2.ch (x2.op ++ [d.s]))).length, .sl 5 0 q.E.length, .sl 6 0 (fileB q.E).length]), none, none, none, some (.fam Z2 ⟨linL (q.L.set j (Ln.mk x2.nm x2.ch (x2.op ++ [d.s]))), [], some (66, 3)⟩), some (evB q.E), some (u8B (fileB q.E))]) := by
 have hall := hln.len
 have hopl := hln.o
 have hxc := hln.c
 refine start 254 4 Tryd.func9 rfl rfl rfl rfl ?_
 refine r1 <| sT 3 4 1 rfl <| sT 4 12 2 rfl <| e1 20 rfl <| keep [0, 3, 4] rfl <| W_seq <| r1 <| sT 20 20 1 rfl <| sO 21 28 2 rfl <| sO 22 36 3 rfl <| sT 23 44 4 rfl ?_
 refine ask 23 rfl (fun hg1_23 => ?_) (fun hg1_23 => ?_)
 try simp only [cs, ne_eq] at hg1_23
 exfalso; omega
 try simp only [cs, ne_eq] at hg1_23
 refine gT 3 false 23 5 rfl rfl <| sT 24 52 5 rfl <| gT 3 false 23 6 rfl rfl <| sO 25 60 6 rfl <| gT 3 false 23 7 rfl rfl <| sO 26 68 7 rfl <| sT 27 76 8 rfl <| e1 84 rfl <| keep [0, 3, 4, 27] rfl ?_
 refine q1 rfl (fun hc1 => ?_) (fun hc1 => ?_)
 simp at hc1; omega
 try simp only [cs, ne_eq] at hc1
 refine W_skip <| tn <| r1 <| sT 29 84 1 rfl <| sT 30 92 2 rfl <| sO 31 100 3 rfl ?_
 refine c1 (line_found (fileB E) d.nm L h6 hk) [0, 1, 2, 3] [0, 1, 2, 3] 32 108 4 rfl rfl rfl rfl rfl rfl rfl rfl Tryd.func14 rfl rfl rfl rfl ⟨rfl, rfl, rfl, rfl, trivial⟩ rfl rfl ?_
 refine sT 5 116 5 rfl <| e1 124 rfl <| keep [0, 3, 4, 5] rfl <| W_seq <| r1 <| sT 33 124 1 rfl <| sO 34 132 2 rfl <| sO 35 140 3 rfl <| e1 148 rfl <| keep [0, 3, 4, 5, 35] rfl ?_
 refine q1 rfl (fun hc4 => ?_) (fun hc4 => ?_)
 simp at hc4; omega
 try simp only [cs, ne_eq] at hc4
 refine W_skip <| tn <| W_seq <| r1 <| sT 69 148 1 rfl <| sO 70 156 2 rfl <| sO 71 164 3 rfl <| e1 172 rfl <| keep [0, 3, 4, 5, 71] rfl ?_
 refine q1 rfl (fun hc15 => ?_) (fun hc15 => ?_)
 simp at hc15; omega
 try simp only [cs, ne_eq] at hc15
 refine W_skip <| tn <| W_seq <| r1 <| sT 121 172 1 rfl ?_
 refine sNilP 122 180 2 rfl rfl rfl rfl rfl rfl Tryd.underlying56 rfl ?_
 refine e1 188 rfl <| keep [0, 3, 4, 5, 122] rfl ?_
 refine q1 rfl (fun hc34 => ?_) (fun hc34 => ?_)
 exact absurd hc34 (by simp)
 try simp only [cs, ne_eq] at hc34
 refine W_skip <| tn <| r1 <| sT 13 188 1 rfl <| e1 196 rfl <| keep [0, 3, 4, 5, 13] rfl <| W_seq <| r1 <| sT 124 196 1 rfl <| sO 125 204 2 rfl <| e1 212 rfl <| keep [0, 3, 4, 5, 13, 125] rfl <| W_block <| r1 <| sO 164 212 1 rfl <| sT 163 220 2 rfl ?_
 refine e1 228 rfl <| keep [0, 3, 4, 5, 13, 125, 163] rfl ?_
 refine q1 rfl (fun hc50 => ?_) (fun hc50 => ?_)
 try simp only [cs, ne_eq] at hc50
 refine famOpen 1 j rfl (linL_at hj) rfl rfl (fun Z1 => ?_)
 refine r1 <| sT 165 236 1 rfl ?_
 refine sLend (allOf_any x.nm x.ch x.op hln.ok) (smp_flat _) [(1, .fam Z1 ⟨linL L, [(j, .agg (linO x 228))], some (66, 3)⟩), (228, chsB x.ch)] 166 244 2 rfl rfl rfl rfl rfl rfl rfl Tryd.func18 rfl rfl ⟨rfl, rfl, trivial⟩ (by intro M F ρ a h w hv hH hbs i y hy; match i, hy with | 0, hy => (cases hy; refine ⟨_, rfl, fam_all hH (show h 1 = some _ from hbs (1, _) (List.mem_cons_self ..)) rfl (List.mem_singleton.2 rfl) (hv (.tmp 165) (by simp [Op.operands, Call.operands])) fun c dd hc => ?_⟩; match c, hc with | 0, hc => (cases hc; exact ⟨_, rfl, u_val fun b o e => hH.imm b o e⟩) | 1, hc => (cases hc; exact ⟨_, rfl, fun u hu => sl_all hH (show h 228 = some _ from hbs (228, chsB x.ch) (List.mem_cons_of_mem _ (List.mem_singleton.2 rfl))) (Nat.le_refl _) hu⟩) | 2, hc => (cases hc; exact ⟨_, rfl, u_val fun b o e => hH.imm b o e⟩) | c + 3, hc => simp at hc) | i + 1, hy => simp at hy) ?_
 refine sT 14 252 3 rfl <| e1 260 rfl <| keep [0, 3, 4, 5, 13, 14] rfl <| W_block <| r1 <| sT 191 260 1 rfl <| sT 192 268 2 rfl <| sO 193 276 3 rfl ?_
 refine c1 (inb_any d.s.t) [] [] 194 284 4 rfl rfl rfl rfl rfl rfl rfl rfl Tryd.func19 rfl rfl rfl rfl trivial rfl rfl ?_
 refine sT 195 292 5 rfl <| sT 196 300 6 rfl ?_
 refine ask 196 rfl (fun hg56_196 => ?_) (fun hg56_196 => ?_)
 try simp only [cs, ne_eq] at hg56_196
 exfalso; exact absurd hb.1 (by simpa using hg56_196)
 try simp only [cs, ne_eq] at hg56_196
 refine gT 5 false 196 7 rfl rfl <| sT 197 308 7 rfl <| gT 5 false 196 8 rfl rfl <| sT 198 316 8 rfl <| gT 5 false 196 9 rfl rfl <| sO 199 324 9 rfl <| gT 5 false 196 10 rfl rfl ?_
 refine c1 (inb_any d.s.v) [] [] 200 332 10 rfl rfl rfl rfl rfl rfl rfl rfl Tryd.func19 rfl rfl rfl rfl trivial rfl rfl ?_
 refine gT 5 false 196 11 rfl rfl <| sT 201 340 11 rfl <| sT 202 348 12 rfl <| sT 190 356 13 rfl <| e1 364 rfl <| keep [0, 3, 4, 5, 13, 14, 190] rfl ?_
 refine q1 rfl (fun hc56 => ?_) (fun hc56 => ?_)
 exfalso; simp at hc56; first | exact hc56 hb.1 | exact hc56 hb.2
 try simp only [cs, ne_eq] at hc56
 refine rd1 rfl ?_
 refine dT 204 364 1 rfl <| dO 205 372 2 rfl <| dO 206 380 3 rfl <| dT 207 388 4 rfl ?_
 refine ask 207 rfl (fun hg58_207 => ?_) (fun hg58_207 => ?_)
 try simp only [cs, ne_eq] at hg58_207
 refine gT 3 true 207 5 rfl rfl <| dT 208 396 5 rfl <| gT 3 true 207 6 rfl rfl <| dT 209 404 6 rfl <| gT 3 true 207 7 rfl rfl <| dO 210 412 7 rfl <| gT 3 true 207 8 rfl rfl <| dAO 211 420 8 rfl <| gT 3 true 207 9 rfl rfl ?_
 refine dV 212 428 9 rfl ⟨⟨by omega, by omega⟩, by omega⟩ ?_
 refine gT 3 true 207 10 rfl rfl <| dT 213 436 10 rfl <| gT 3 true 207 11 rfl rfl <| dO 214 444 11 rfl ?_
 refine val 214 (SV.i (lastT (allS x.ch x.op))) rfl (congrArg SV.i (congrArg (fun n => ((allS x.ch x.op).getD n default).t) (by omega))) ?_
 refine gT 3 true 207 12 rfl rfl <| dT 215 452 12 rfl <| gT 3 true 207 13 rfl rfl <| dT 216 460 13 rfl <| gT 3 true 207 14 rfl rfl <| dO 217 468 14 rfl <| gT 3 true 207 15 rfl rfl <| dO 218 476 15 rfl <| dT 219 484 16 rfl <| dT 203 492 17 rfl <| de1 500 rfl (by kernel_rfl) <| keep [0, 3, 4, 5, 13, 203] rfl ?_
 refine q1 rfl (fun hc58 => ?_) (fun hc58 => ?_)
 exfalso; simp at hc58; omega
 try simp only [cs, ne_eq] at hc58
 refine W_seq <| r1 <| sT 167 500 1 rfl <| sT 168 508 2 rfl <| sT 169 516 3 rfl ?_
 refine sLoadF (linO x 228) (.d (.vec 2 x.op.length (smpF x.op))) 170 524 4 rfl rfl rfl rfl rfl rfl rfl rfl rfl rfl (.inl (List.mem_singleton.2 rfl)) rfl ?_
 refine sO 171 532 5 rfl <| sO 172 540 6 rfl <| e1 548 rfl <| keep [0, 3, 4, 5, 13, 172] rfl ?_
 refine q1 rfl (fun hc52 => ?_) (fun hc52 => ?_)
 try simp only [cs, ne_eq] at hc52
 refine famShut 1 j [228] (.agg (linC x)) (linB x) rfl (linL_at hj) rfl ⟨rfl, trivial⟩ rfl (fun Z3 => ?_)
 refine chval 1 (.fam Z3 ⟨linL L, [], some (66, 3)⟩) rfl (congrArg (fun q => Blk.fam Z3 ⟨q, [], some (66, 3)⟩) (linL_self hj)) ?_
 refine r0 ?_
 refine sT 173 548 1 rfl <| sT 174 556 2 rfl ?_
 refine cQ (seals_any L h6 E (by omega) hF hln (hxn ▸ hk) hj q hq) [0, 1, 2, 3] 175 564 3 rfl rfl rfl rfl rfl rfl rfl Tryd.func20 rfl rfl rfl ⟨rfl, rfl, rfl, rfl, trivial⟩ ?_
 rintro _ _ ⟨Z4, rfl, rfl⟩
 refine val 175 (SV.i q.e) rfl rfl ?_
 refine hval 0 _ rfl (.cells 49 3 [.sl 1 0 q.L.length, .sl 564 0 q.E.length, .sl 565 0 (fileB q.E).length]) rfl ?_
 refine hval 1 _ rfl (.fam Z4 ⟨linL q.L, [], some (66, 3)⟩) rfl ?_
 refine hval 564 _ rfl (evB q.E) rfl ?_
 refine hval 565 _ rfl (u8B (fileB q.E)) rfl ?_
 refine sT 13 572 4 rfl <| e1 580 rfl <| tn <| r1 <| sT 176 580 1 rfl <| sO 177 588 2 rfl <| e1 596 rfl <| keep [3, 4, 5, 13, 177] rfl ?_
 refine q1 rfl (fun hc54 => ?_) (fun hc54 => ?_)
 try simp only [cs, ne_eq] at hc54
 refine famOpen 1 j rfl (linL_at hj2) rfl rfl (fun Z5 => ?_)
 refine rd0n rfl ?_
 refine dT 178 604 1 rfl <| dT 179 612 2 rfl <| dT 180 620 3 rfl <| dT 181 628 4 rfl ?_
 refine sLoadF (linO x2 596) (.d (.vec 2 x2.op.length (smpF x2.op))) 182 636 5 rfl rfl rfl rfl rfl rfl rfl rfl rfl rfl (.inl (List.mem_singleton.2 rfl)) rfl ?_
 refine dV 183 644 6 rfl ⟨trivial, (by show _ * 16 ≤ 140737488355328; omega), (by simp only [maxLen]; omega)⟩ ?_
 refine dT 184 652 7 rfl <| dO 185 660 8 rfl <| dT 186 668 9 rfl ?_
 refine dV 187 676 10 rfl ⟨Nat.le_refl _, trivial, (by show (_ + 1) * 16 ≤ 140737488355328; omega), (by simp only [maxLen]; omega)⟩ ?_
 refine dT 188 684 11 rfl <| dT 189 692 12 rfl ?_
 refine sStoreF 700 13 rfl rfl rfl rfl rfl rfl rfl rfl rfl rfl rfl lt23 ?_
 refine de1 708 rfl (by kernel_rfl) ?_
 refine rowscn 676 (x2.op ++ [d.s]).length (smpF (x2.op ++ [d.s])) rfl (sm_len _ _) (fun i c hi hc => sm_one i c hi hc) ?_
 refine famCFreezen 1 j 2 676 (x2.op.length + 1) rfl rfl rfl (by simp) rfl ?_
 refine wn ?_
 refine bn <| bn <| tn <| W_seq <| r1 <| sT 244 708 1 rfl <| sO 245 716 2 rfl <| e1 724 rfl <| keep [4, 5, 13, 245] rfl ?_
 refine q1 rfl (fun hc68 => ?_) (fun hc68 => ?_)
 exact absurd hc68 (by simpa using hqe)
 try simp only [cs, ne_eq] at hc68
 refine W_skip <| tn <| r1 <| sT 248 724 1 rfl <| sT 249 732 2 rfl <| sT 250 740 3 rfl ?_
 refine sLoadF [.d (.val (.string x2.nm)), .sl 596 0 x2.ch.length, .d (.vec 2 (x2.op.length + 1) (smpF (x2.op ++ [d.s])))] (.sl 596 0 x2.ch.length) 251 748 4 rfl rfl rfl rfl rfl rfl rfl rfl rfl rfl (.inl (List.mem_singleton.2 rfl)) rfl ?_
 refine sO 252 756 5 rfl <| sT 253 764 6 rfl <| s0O 772 7 rfl rfl rfl rfl rfl <| e1 780 rfl <| keep [4] rfl ?_
 refine cellW 12 1 (.d (.vec 2 0 (smpF []))) rfl rfl (nil_vec0 2 _) ?_
 refine famShut 1 j [596] (.agg (linC (Ln.mk x2.nm x2.ch (x2.op ++ [d.s])))) (linB (Ln.mk x2.nm x2.ch (x2.op ++ [d.s]))) rfl (linL_at hj2) (congrArg (fun q => SV.agg [.d (.val (.string x2.nm)), .sl 596 0 x2.ch.length, .d (.vec 2 q (smpF (x2.op ++ [d.s])))]) (show x2.op.length + 1 = (x2.op ++ [d.s]).length by simp)) ⟨rfl, trivial⟩ rfl (fun Z2 => ?_)
 refine chval 1 (.fam Z2 ⟨linL (q.L.set j (Ln.mk x2.nm x2.ch (x2.op ++ [d.s]))), [], some (66, 3)⟩) rfl (congrArg (fun q => Blk.fam Z2 ⟨q, [], some (66, 3)⟩) (linL_set q.L j (Ln.mk x2.nm x2.ch (x2.op ++ [d.s])))) ?_
 refine chval 0 (.cells 49 3 [.sl 1 0 (q.L.set j (Ln.mk x2.nm x2.ch (x2.op ++ [d.s]))).length, .sl 564 0 q.E.length, .sl 565 0 (fileB q.E).length]) rfl (congrArg (fun n1 => Blk.cells 49 3 [.sl 1 0 n1, .sl 564 0 q.E.length, .sl 565 0 (fileB q.E).length]) (show q.L.length = (q.L.set j (Ln.mk x2.nm x2.ch (x2.op ++ [d.s]))).length by simp)) ?_
 refine rename 1 rfl rfl <| W_ret ?_
 exact outN (fdV (goodF x2.ch.length)) (π := [0, 1, 2, 3, 780, 564, 565]) (hout := [some (.cells 49 3 [.sl 4 0 (q.L.set j (Ln.mk x2.nm x2.ch (x2.op ++ [d.s]))).length, .sl 5 0 q.E.length, .sl 6 0 (fileB q.E).length]), none, none, none, some (.fam Z2 ⟨linL (q.L.set j (Ln.mk x2.nm x2.ch (x2.op ++ [d.s]))), [], some (66, 3)⟩), some (evB q.E), some (u8B (fileB q.E))]) Tryd.results9 rfl (by trivial) rfl rfl rfl ⟨rfl, rfl, rfl, rfl, trivial⟩ ⟨Z2, rfl, rfl⟩
 exact absurd hqe (by simpa using hc54)
 simp at hc52; omega
 try simp only [cs, ne_eq] at hg58_207
 refine gF 3 true 207 208 5 rfl rfl <| gF 3 true 207 209 6 rfl rfl <| gF 3 true 207 210 7 rfl rfl <| gF 3 true 207 211 8 rfl rfl <| gF 3 true 207 212 9 rfl rfl <| gF 3 true 207 213 10 rfl rfl <| gF 3 true 207 214 11 rfl rfl <| gF 3 true 207 215 12 rfl rfl <| gF 3 true 207 216 13 rfl rfl <| gF 3 true 207 217 14 rfl rfl <| gF 3 true 207 218 15 rfl rfl <| dT 219 484 16 rfl <| dT 203 492 17 rfl <| de1 500 rfl (by kernel_rfl) <| keep [0, 3, 4, 5, 13, 203] rfl ?_
 refine q1 rfl (fun hc58 => ?_) (fun hc58 => ?_)
 exact absurd hc58 (by decide)
 try simp only [cs, ne_eq] at hc58
 refine W_seq <| r1 <| sT 167 500 1 rfl <| sT 168 508 2 rfl <| sT 169 516 3 rfl ?_
 refine sLoadF (linO x 228) (.d (.vec 2 x.op.length (smpF x.op))) 170 524 4 rfl rfl rfl rfl rfl rfl rfl rfl rfl rfl (.inl (List.mem_singleton.2 rfl)) rfl ?_
 refine sO 171 532 5 rfl <| sO 172 540 6 rfl <| e1 548 rfl <| keep [0, 3, 4, 5, 13, 172] rfl ?_
 refine q1 rfl (fun hc52 => ?_) (fun hc52 => ?_)
 try simp only [cs, ne_eq] at hc52
 refine famShut 1 j [228] (.agg (linC x)) (linB x) rfl (linL_at hj) rfl ⟨rfl, trivial⟩ rfl (fun Z3 => ?_)
 refine chval 1 (.fam Z3 ⟨linL L, [], some (66, 3)⟩) rfl (congrArg (fun q => Blk.fam Z3 ⟨q, [], some (66, 3)⟩) (linL_self hj)) ?_
 refine r0 ?_
 refine sT 173 548 1 rfl <| sT 174 556 2 rfl ?_
 refine cQ (seals_any L h6 E (by omega) hF hln (hxn ▸ hk) hj q hq) [0, 1, 2, 3] 175 564 3 rfl rfl rfl rfl rfl rfl rfl Tryd.func20 rfl rfl rfl ⟨rfl, rfl, rfl, rfl, trivial⟩ ?_
 rintro _ _ ⟨Z4, rfl, rfl⟩
 refine val 175 (SV.i q.e) rfl rfl ?_
 refine hval 0 _ rfl (.cells 49 3 [.sl 1 0 q.L.length, .sl 564 0 q.E.length, .sl 565 0 (fileB q.E).length]) rfl ?_
 refine hval 1 _ rfl (.fam Z4 ⟨linL q.L, [], some (66, 3)⟩) rfl ?_
 refine hval 564 _ rfl (evB q.E) rfl ?_
 refine hval 565 _ rfl (u8B (fileB q.E)) rfl ?_
 refine sT 13 572 4 rfl <| e1 580 rfl <| tn <| r1 <| sT 176 580 1 rfl <| sO 177 588 2 rfl <| e1 596 rfl <| keep [3, 4, 5, 13, 177] rfl ?_
 refine q1 rfl (fun hc54 => ?_) (fun hc54 => ?_)
 try simp only [cs, ne_eq] at hc54
 refine famOpen 1 j rfl (linL_at hj2) rfl rfl (fun Z5 => ?_)
 refine rd0n rfl ?_
 refine dT 178 604 1 rfl <| dT 179 612 2 rfl <| dT 180 620 3 rfl <| dT 181 628 4 rfl ?_
 refine sLoadF (linO x2 596) (.d (.vec 2 x2.op.length (smpF x2.op))) 182 636 5 rfl rfl rfl rfl rfl rfl rfl rfl rfl rfl (.inl (List.mem_singleton.2 rfl)) rfl ?_
 refine dV 183 644 6 rfl ⟨trivial, (by show _ * 16 ≤ 140737488355328; omega), (by simp only [maxLen]; omega)⟩ ?_
 refine dT 184 652 7 rfl <| dO 185 660 8 rfl <| dT 186 668 9 rfl ?_
 refine dV 187 676 10 rfl ⟨Nat.le_refl _, trivial, (by show (_ + 1) * 16 ≤ 140737488355328; omega), (by simp only [maxLen]; omega)⟩ ?_
 refine dT 188 684 11 rfl <| dT 189 692 12 rfl ?_
 refine sStoreF 700 13 rfl rfl rfl rfl rfl rfl rfl rfl rfl rfl rfl lt23 ?_
 refine de1 708 rfl (by kernel_rfl) ?_
 refine rowscn 676 (x2.op ++ [d.s]).length (smpF (x2.op ++ [d.s])) rfl (sm_len _ _) (fun i c hi hc => sm_one i c hi hc) ?_
 refine famCFreezen 1 j 2 676 (x2.op.length + 1) rfl rfl rfl (by simp) rfl ?_
 refine wn ?_
 refine bn <| bn <| tn <| W_seq <| r1 <| sT 244 708 1 rfl <| sO 245 716 2 rfl <| e1 724 rfl <| keep [4, 5, 13, 245] rfl ?_
 refine q1 rfl (fun hc68 => ?_) (fun hc68 => ?_)
 exact absurd hc68 (by simpa using hqe)
 try simp only [cs, ne_eq] at hc68
 refine W_skip <| tn <| r1 <| sT 248 724 1 rfl <| sT 249 732 2 rfl <| sT 250 740 3 rfl ?_
 refine sLoadF [.d (.val (.string x2.nm)), .sl 596 0 x2.ch.length, .d (.vec 2 (x2.op.length + 1) (smpF (x2.op ++ [d.s])))] (.sl 596 0 x2.ch.length) 251 748 4 rfl rfl rfl rfl rfl rfl rfl rfl rfl rfl (.inl (List.mem_singleton.2 rfl)) rfl ?_
 refine sO 252 756 5 rfl <| sT 253 764 6 rfl <| s0O 772 7 rfl rfl rfl rfl rfl <| e1 780 rfl <| keep [4] rfl ?_
 refine cellW 12 1 (.d (.vec 2 0 (smpF []))) rfl rfl (nil_vec0 2 _) ?_
 refine famShut 1 j [596] (.agg (linC (Ln.mk x2.nm x2.ch (x2.op ++ [d.s])))) (linB (Ln.mk x2.nm x2.ch (x2.op ++ [d.s]))) rfl (linL_at hj2) (congrArg (fun q => SV.agg [.d (.val (.string x2.nm)), .sl 596 0 x2.ch.length, .d (.vec 2 q (smpF (x2.op ++ [d.s])))]) (show x2.op.length + 1 = (x2.op ++ [d.s]).length by simp)) ⟨rfl, trivial⟩ rfl (fun Z2 => ?_)
 refine chval 1 (.fam Z2 ⟨linL (q.L.set j (Ln.mk x2.nm x2.ch (x2.op ++ [d.s]))), [], some (66, 3)⟩) rfl (congrArg (fun q => Blk.fam Z2 ⟨q, [], some (66, 3)⟩) (linL_set q.L j (Ln.mk x2.nm x2.ch (x2.op ++ [d.s])))) ?_
 refine chval 0 (.cells 49 3 [.sl 1 0 (q.L.set j (Ln.mk x2.nm x2.ch (x2.op ++ [d.s]))).length, .sl 564 0 q.E.length, .sl 565 0 (fileB q.E).length]) rfl (congrArg (fun n1 => Blk.cells 49 3 [.sl 1 0 n1, .sl 564 0 q.E.length, .sl 565 0 (fileB q.E).length]) (show q.L.length = (q.L.set j (Ln.mk x2.nm x2.ch (x2.op ++ [d.s]))).length by simp)) ?_
 refine rename 1 rfl rfl <| W_ret ?_
 exact outN (fdV (goodF x2.ch.length)) (π := [0, 1, 2, 3, 780, 564, 565]) (hout := [some (.cells 49 3 [.sl 4 0 (q.L.set j (Ln.mk x2.nm x2.ch (x2.op ++ [d.s]))).length, .sl 5 0 q.E.length, .sl 6 0 (fileB q.E).length]), none, none, none, some (.fam Z2 ⟨linL (q.L.set j (Ln.mk x2.nm x2.ch (x2.op ++ [d.s]))), [], some (66, 3)⟩), some (evB q.E), some (u8B (fileB q.E))]) Tryd.results9 rfl (by trivial) rfl rfl rfl ⟨rfl, rfl, rfl, rfl, trivial⟩ ⟨Z2, rfl, rfl⟩
 exact absurd hqe (by simpa using hc54)
 simp at hc52; omega
 simp at hc50; omega
theorem dseal_err {Z : List Nat} (L : List Ln) (h6 : L.length ≤ 100) (d : Dd) (hd : DdIn d) (E : List Ev) (hE : E.length ≤ 200) (hF : (fileB E).length ≤ 800000) (j : Nat) (x : Ln) (hln : LnIn x) (hk : idxN d.nm L = some j) (hj : L[j]? = some x) (hxn : x.nm = d.nm) (hk1 : d.k = 6) (q : KR) (hq : sealK j x L E = q) (hqe : ¬ q.e = 0) : Spec Tryd.prog GF 9 [.ptr 0 0 0, ddV d] [.cells 49 3 [.sl 1 0 L.length, .sl 2 0 E.length, .sl 3 0 (fileB E).length], .fam Z ⟨linL L, [], some (66, 3)⟩, evB E, u8B (fileB E)] (fun r ho => ∃ Z2, r = fdV (errF q.e) ∧ ho = [some (.cells 49 3 [.sl 4 0 q.L.length, .sl 5 0 q.E.length, .sl 6 0 (fileB q.E).length]), none, none, none, some (.fam Z2 ⟨linL q.L, [], some (66, 3)⟩), some (evB q.E), some (u8B (fileB q.E))]) := by
 refine start 254 4 Tryd.func9 rfl rfl rfl rfl ?_
 refine r1 <| sT 3 4 1 rfl <| sT 4 12 2 rfl <| e1 20 rfl <| keep [0, 3, 4] rfl <| W_seq <| r1 <| sT 20 20 1 rfl <| sO 21 28 2 rfl <| sO 22 36 3 rfl <| sT 23 44 4 rfl ?_
 refine ask 23 rfl (fun hg1_23 => ?_) (fun hg1_23 => ?_)
 try simp only [cs, ne_eq] at hg1_23
 exfalso; omega
 try simp only [cs, ne_eq] at hg1_23
 refine gT 3 false 23 5 rfl rfl <| sT 24 52 5 rfl <| gT 3 false 23 6 rfl rfl <| sO 25 60 6 rfl <| gT 3 false 23 7 rfl rfl <| sO 26 68 7 rfl <| sT 27 76 8 rfl <| e1 84 rfl <| keep [0, 3, 4, 27] rfl ?_
 refine q1 rfl (fun hc1 => ?_) (fun hc1 => ?_)
 simp at hc1; omega
 try simp only [cs, ne_eq] at hc1
 refine W_skip <| tn <| r1 <| sT 29 84 1 rfl <| sT 30 92 2 rfl <| sO 31 100 3 rfl ?_
 refine c1 (line_found (fileB E) d.nm L h6 hk) [0, 1, 2, 3] [0, 1, 2, 3] 32 108 4 rfl rfl rfl rfl rfl rfl rfl rfl Tryd.func14 rfl rfl rfl rfl ⟨rfl, rfl, rfl, rfl, trivial⟩ rfl rfl ?_
 refine sT 5 116 5 rfl <| e1 124 rfl <| keep [0, 3, 4, 5] rfl <| W_seq <| r1 <| sT 33 124 1 rfl <| sO 34 132 2 rfl <| sO 35 140 3 rfl <| e1 148 rfl <| keep [0, 3, 4, 5, 35] rfl ?_
 refine q1 rfl (fun hc4 => ?_) (fun hc4 => ?_)
 simp at hc4; omega
 try simp only [cs, ne_eq] at hc4
 refine W_skip <| tn <| W_seq <| r1 <| sT 69 148 1 rfl <| sO 70 156 2 rfl <| sO 71 164 3 rfl <| e1 172 rfl <| keep [0, 3, 4, 5, 71] rfl ?_
 refine q1 rfl (fun hc15 => ?_) (fun hc15 => ?_)
 simp at hc15; omega
 try simp only [cs, ne_eq] at hc15
 refine W_skip <| tn <| W_seq <| r1 <| sT 121 172 1 rfl ?_
 refine sNilP 122 180 2 rfl rfl rfl rfl rfl rfl Tryd.underlying56 rfl ?_
 refine e1 188 rfl <| keep [0, 3, 4, 5, 122] rfl ?_
 refine q1 rfl (fun hc34 => ?_) (fun hc34 => ?_)
 exact absurd hc34 (by simp)
 try simp only [cs, ne_eq] at hc34
 refine W_skip <| tn <| r1 <| sT 13 188 1 rfl <| e1 196 rfl <| keep [0, 3, 4, 5, 13] rfl <| W_seq <| r1 <| sT 124 196 1 rfl <| sO 125 204 2 rfl <| e1 212 rfl <| keep [0, 3, 4, 5, 13, 125] rfl <| W_block <| r1 <| sO 164 212 1 rfl <| sT 163 220 2 rfl ?_
 refine e1 228 rfl <| keep [0, 3, 4, 5, 13, 125, 163] rfl ?_
 refine q1 rfl (fun hc50 => ?_) (fun hc50 => ?_)
 simp at hc50; omega
 try simp only [cs, ne_eq] at hc50
 refine r1 <| sO 221 228 1 rfl <| sT 220 236 2 rfl <| e1 244 rfl <| keep [0, 3, 4, 5, 13, 125, 220] rfl ?_
 refine q1 rfl (fun hc60 => ?_) (fun hc60 => ?_)
 try simp only [cs, ne_eq] at hc60
 refine r0 ?_
 refine sT 222 244 1 rfl <| sT 223 252 2 rfl ?_
 refine cQ (seals_any L h6 E (by omega) hF hln (hxn ▸ hk) hj q hq) [0, 1, 2, 3] 224 260 3 rfl rfl rfl rfl rfl rfl rfl Tryd.func20 rfl rfl rfl ⟨rfl, rfl, rfl, rfl, trivial⟩ ?_
 rintro _ _ ⟨Z4, rfl, rfl⟩
 refine val 224 (SV.i q.e) rfl rfl ?_
 refine hval 0 _ rfl (.cells 49 3 [.sl 1 0 q.L.length, .sl 260 0 q.E.length, .sl 261 0 (fileB q.E).length]) rfl ?_
 refine hval 1 _ rfl (.fam Z4 ⟨linL q.L, [], some (66, 3)⟩) rfl ?_
 refine hval 260 _ rfl (evB q.E) rfl ?_
 refine hval 261 _ rfl (u8B (fileB q.E)) rfl ?_
 refine sT 13 268 4 rfl <| e1 276 rfl <| bn <| tn <| W_seq <| r1 <| sT 244 276 1 rfl <| sO 245 284 2 rfl <| e1 292 rfl <| keep [4, 5, 13, 245] rfl ?_
 refine q1 rfl (fun hc68 => ?_) (fun hc68 => ?_)
 try simp only [cs, ne_eq] at hc68
 refine r1 <| sT 246 292 1 rfl <| sT 247 300 2 rfl <| s0O 308 3 rfl rfl rfl rfl rfl <| e1 316 rfl <| keep [4] rfl ?_
 refine cellW 12 1 (.d (.vec 2 0 (smpF []))) rfl rfl (nil_vec0 2 _) ?_
 refine rename 1 rfl rfl <| W_ret <| tr ?_
 exact outN (fdV (errF q.e)) (π := [0, 1, 2, 3, 316, 260, 261]) (hout := [some (.cells 49 3 [.sl 4 0 q.L.length, .sl 5 0 q.E.length, .sl 6 0 (fileB q.E).length]), none, none, none, some (.fam Z4 ⟨linL q.L, [], some (66, 3)⟩), some (evB q.E), some (u8B (fileB q.E))]) Tryd.results9 rfl (by trivial) rfl rfl rfl ⟨rfl, rfl, rfl, rfl, trivial⟩ ⟨Z4, rfl, rfl⟩
 exact absurd hqe (by simpa using hc68)
 simp at hc60; omega
theorem dseal_ok {Z : List Nat} (L : List Ln) (h6 : L.length ≤ 100) (d : Dd) (hd : DdIn d) (E : List Ev) (hE : E.length ≤ 200) (hF : (fileB E).length ≤ 800000) (j : Nat) (x : Ln) (hln : LnIn x) (hk : idxN d.nm L = some j) (hj : L[j]? = some x) (hxn : x.nm = d.nm) (hk1 : d.k = 6) (q : KR) (hq : sealK j x L E = q) (hqe : q.e = 0) (x2 : Ln) (hj2 : q.L[j]? = some x2) (hx2n : x2.nm = x.nm) (ho2 : x2.op.length ≤ 120) (hc2 : x2.ch.length ≤ 200)  : Spec Tryd.prog GF 9 [.ptr 0 0 0, ddV d] [.cells 49 3 [.sl 1 0 L.length, .sl 2 0 E.length, .sl 3 0 (fileB E).length], .fam Z ⟨linL L, [], some (66, 3)⟩, evB E, u8B (fileB E)] (fun r ho => ∃ Z2, r = fdV (goodF x2.ch.length) ∧ ho = [some (.cells 49 3 [.sl 4 0 q.L.length, .sl 5 0 q.E.length, .sl 6 0 (fileB q.E).length]), none, none, none, some (.fam Z2 ⟨linL q.L, [], some (66, 3)⟩), some (evB q.E), some (u8B (fileB q.E))]) := by
 refine start 254 4 Tryd.func9 rfl rfl rfl rfl ?_
 refine r1 <| sT 3 4 1 rfl <| sT 4 12 2 rfl <| e1 20 rfl <| keep [0, 3, 4] rfl <| W_seq <| r1 <| sT 20 20 1 rfl <| sO 21 28 2 rfl <| sO 22 36 3 rfl <| sT 23 44 4 rfl ?_
 refine ask 23 rfl (fun hg1_23 => ?_) (fun hg1_23 => ?_)
 try simp only [cs, ne_eq] at hg1_23
 exfalso; omega
 try simp only [cs, ne_eq] at hg1_23
 refine gT 3 false 23 5 rfl rfl <| sT 24 52 5 rfl <| gT 3 false 23 6 rfl rfl <| sO 25 60 6 rfl <| gT 3 false 23 7 rfl rfl <| sO 26 68 7 rfl <| sT 27 76 8 rfl <| e1 84 rfl <| keep [0, 3, 4, 27] rfl ?_
 refine q1 rfl (fun hc1 => ?_) (fun hc1 => ?_)
 simp at hc1; omega
 try simp only [cs, ne_eq] at hc1
 refine W_skip <| tn <| r1 <| sT 29 84 1 rfl <| sT 30 92 2 rfl <| sO 31 100 3 rfl ?_
 refine c1 (line_found (fileB E) d.nm L h6 hk) [0, 1, 2, 3] [0, 1, 2, 3] 32 108 4 rfl rfl rfl rfl rfl rfl rfl rfl Tryd.func14 rfl rfl rfl rfl ⟨rfl, rfl, rfl, rfl, trivial⟩ rfl rfl ?_
 refine sT 5 116 5 rfl <| e1 124 rfl <| keep [0, 3, 4, 5] rfl <| W_seq <| r1 <| sT 33 124 1 rfl <| sO 34 132 2 rfl <| sO 35 140 3 rfl <| e1 148 rfl <| keep [0, 3, 4, 5, 35] rfl ?_
 refine q1 rfl (fun hc4 => ?_) (fun hc4 => ?_)
 simp at hc4; omega
 try simp only [cs, ne_eq] at hc4
 refine W_skip <| tn <| W_seq <| r1 <| sT 69 148 1 rfl <| sO 70 156 2 rfl <| sO 71 164 3 rfl <| e1 172 rfl <| keep [0, 3, 4, 5, 71] rfl ?_
 refine q1 rfl (fun hc15 => ?_) (fun hc15 => ?_)
 simp at hc15; omega
 try simp only [cs, ne_eq] at hc15
 refine W_skip <| tn <| W_seq <| r1 <| sT 121 172 1 rfl ?_
 refine sNilP 122 180 2 rfl rfl rfl rfl rfl rfl Tryd.underlying56 rfl ?_
 refine e1 188 rfl <| keep [0, 3, 4, 5, 122] rfl ?_
 refine q1 rfl (fun hc34 => ?_) (fun hc34 => ?_)
 exact absurd hc34 (by simp)
 try simp only [cs, ne_eq] at hc34
 refine W_skip <| tn <| r1 <| sT 13 188 1 rfl <| e1 196 rfl <| keep [0, 3, 4, 5, 13] rfl <| W_seq <| r1 <| sT 124 196 1 rfl <| sO 125 204 2 rfl <| e1 212 rfl <| keep [0, 3, 4, 5, 13, 125] rfl <| W_block <| r1 <| sO 164 212 1 rfl <| sT 163 220 2 rfl ?_
 refine e1 228 rfl <| keep [0, 3, 4, 5, 13, 125, 163] rfl ?_
 refine q1 rfl (fun hc50 => ?_) (fun hc50 => ?_)
 simp at hc50; omega
 try simp only [cs, ne_eq] at hc50
 refine r1 <| sO 221 228 1 rfl <| sT 220 236 2 rfl <| e1 244 rfl <| keep [0, 3, 4, 5, 13, 125, 220] rfl ?_
 refine q1 rfl (fun hc60 => ?_) (fun hc60 => ?_)
 try simp only [cs, ne_eq] at hc60
 refine r0 ?_
 refine sT 222 244 1 rfl <| sT 223 252 2 rfl ?_
 refine cQ (seals_any L h6 E (by omega) hF hln (hxn ▸ hk) hj q hq) [0, 1, 2, 3] 224 260 3 rfl rfl rfl rfl rfl rfl rfl Tryd.func20 rfl rfl rfl ⟨rfl, rfl, rfl, rfl, trivial⟩ ?_
 rintro _ _ ⟨Z4, rfl, rfl⟩
 refine val 224 (SV.i q.e) rfl rfl ?_
 refine hval 0 _ rfl (.cells 49 3 [.sl 1 0 q.L.length, .sl 260 0 q.E.length, .sl 261 0 (fileB q.E).length]) rfl ?_
 refine hval 1 _ rfl (.fam Z4 ⟨linL q.L, [], some (66, 3)⟩) rfl ?_
 refine hval 260 _ rfl (evB q.E) rfl ?_
 refine hval 261 _ rfl (u8B (fileB q.E)) rfl ?_
 refine sT 13 268 4 rfl <| e1 276 rfl <| bn <| tn <| W_seq <| r1 <| sT 244 276 1 rfl <| sO 245 284 2 rfl <| e1 292 rfl <| keep [4, 5, 13, 245] rfl ?_
 refine q1 rfl (fun hc68 => ?_) (fun hc68 => ?_)
 exact absurd hc68 (by simpa using hqe)
 try simp only [cs, ne_eq] at hc68
 refine W_skip <| tn ?_
 refine famOpen 1 j rfl (linL_at hj2) rfl rfl (fun Z5 => ?_)
 refine r1 <| sT 248 300 1 rfl <| sT 249 308 2 rfl <| sT 250 316 3 rfl ?_
 refine sLoadF (linO x2 292) (.sl 292 0 x2.ch.length) 251 324 4 rfl rfl rfl rfl rfl rfl rfl rfl rfl rfl (.inl (List.mem_singleton.2 rfl)) rfl ?_
 refine sO 252 332 5 rfl <| sT 253 340 6 rfl <| s0O 348 7 rfl rfl rfl rfl rfl <| e1 356 rfl <| keep [4] rfl ?_
 refine cellW 12 1 (.d (.vec 2 0 (smpF []))) rfl rfl (nil_vec0 2 _) ?_
 refine famShut 1 j [292] (.agg (linC x2)) (linB x2) rfl (linL_at hj2) rfl ⟨rfl, trivial⟩ rfl (fun Z2 => ?_)
 refine chval 1 (.fam Z2 ⟨linL q.L, [], some (66, 3)⟩) rfl (congrArg (fun q => Blk.fam Z2 ⟨q, [], some (66, 3)⟩) (linL_self hj2)) ?_
 refine rename 1 rfl rfl <| W_ret ?_
 exact outN (fdV (goodF x2.ch.length)) (π := [0, 1, 2, 3, 356, 260, 261]) (hout := [some (.cells 49 3 [.sl 4 0 q.L.length, .sl 5 0 q.E.length, .sl 6 0 (fileB q.E).length]), none, none, none, some (.fam Z2 ⟨linL q.L, [], some (66, 3)⟩), some (evB q.E), some (u8B (fileB q.E))]) Tryd.results9 rfl (by trivial) rfl rfl rfl ⟨rfl, rfl, rfl, rfl, trivial⟩ ⟨Z2, rfl, rfl⟩
 simp at hc60; omega
theorem dtrim_full {Z : List Nat} (L : List Ln) (h6 : L.length ≤ 100) (d : Dd) (hd : DdIn d) (E : List Ev) (hE : E.length ≤ 200) (hF : (fileB E).length ≤ 800000) (j : Nat) (x : Ln) (hln : LnIn x) (hk : idxN d.nm L = some j) (hj : L[j]? = some x) (hxn : x.nm = d.nm) (hk1 : d.k = 5) (hful : 200 ≤ E.length) : Spec Tryd.prog GF 9 [.ptr 0 0 0, ddV d] [.cells 49 3 [.sl 1 0 L.length, .sl 2 0 E.length, .sl 3 0 (fileB E).length], .fam Z ⟨linL L, [], some (66, 3)⟩, evB E, u8B (fileB E)] (fun r ho => ∃ Z2, r = fdV (errF 8) ∧ ho = [some (.cells 49 3 [.sl 4 0 L.length, .sl 5 0 E.length, .sl 6 0 (fileB E).length]), none, none, none, some (.fam Z2 ⟨linL L, [], some (66, 3)⟩), some (evB E), some (u8B (fileB E))]) := by
 refine start 254 4 Tryd.func9 rfl rfl rfl rfl ?_
 refine r1 <| sT 3 4 1 rfl <| sT 4 12 2 rfl <| e1 20 rfl <| keep [0, 3, 4] rfl <| W_seq <| r1 <| sT 20 20 1 rfl <| sO 21 28 2 rfl <| sO 22 36 3 rfl <| sT 23 44 4 rfl ?_
 refine ask 23 rfl (fun hg1_23 => ?_) (fun hg1_23 => ?_)
 try simp only [cs, ne_eq] at hg1_23
 exfalso; omega
 try simp only [cs, ne_eq] at hg1_23
 refine gT 3 false 23 5 rfl rfl <| sT 24 52 5 rfl <| gT 3 false 23 6 rfl rfl <| sO 25 60 6 rfl <| gT 3 false 23 7 rfl rfl <| sO 26 68 7 rfl <| sT 27 76 8 rfl <| e1 84 rfl <| keep [0, 3, 4, 27] rfl ?_
 refine q1 rfl (fun hc1 => ?_) (fun hc1 => ?_)
 simp at hc1; omega
 try simp only [cs, ne_eq] at hc1
 refine W_skip <| tn <| r1 <| sT 29 84 1 rfl <| sT 30 92 2 rfl <| sO 31 100 3 rfl ?_
 refine c1 (line_found (fileB E) d.nm L h6 hk) [0, 1, 2, 3] [0, 1, 2, 3] 32 108 4 rfl rfl rfl rfl rfl rfl rfl rfl Tryd.func14 rfl rfl rfl rfl ⟨rfl, rfl, rfl, rfl, trivial⟩ rfl rfl ?_
 refine sT 5 116 5 rfl <| e1 124 rfl <| keep [0, 3, 4, 5] rfl <| W_seq <| r1 <| sT 33 124 1 rfl <| sO 34 132 2 rfl <| sO 35 140 3 rfl <| e1 148 rfl <| keep [0, 3, 4, 5, 35] rfl ?_
 refine q1 rfl (fun hc4 => ?_) (fun hc4 => ?_)
 simp at hc4; omega
 try simp only [cs, ne_eq] at hc4
 refine W_skip <| tn <| W_seq <| r1 <| sT 69 148 1 rfl <| sO 70 156 2 rfl <| sO 71 164 3 rfl <| e1 172 rfl <| keep [0, 3, 4, 5, 71] rfl ?_
 refine q1 rfl (fun hc15 => ?_) (fun hc15 => ?_)
 simp at hc15; omega
 try simp only [cs, ne_eq] at hc15
 refine W_skip <| tn <| W_seq <| r1 <| sT 121 172 1 rfl ?_
 refine sNilP 122 180 2 rfl rfl rfl rfl rfl rfl Tryd.underlying56 rfl ?_
 refine e1 188 rfl <| keep [0, 3, 4, 5, 122] rfl ?_
 refine q1 rfl (fun hc34 => ?_) (fun hc34 => ?_)
 exact absurd hc34 (by simp)
 try simp only [cs, ne_eq] at hc34
 refine W_skip <| tn <| r1 <| sT 13 188 1 rfl <| e1 196 rfl <| keep [0, 3, 4, 5, 13] rfl <| W_seq <| r1 <| sT 124 196 1 rfl <| sO 125 204 2 rfl <| e1 212 rfl <| keep [0, 3, 4, 5, 13, 125] rfl <| W_block <| r1 <| sO 164 212 1 rfl <| sT 163 220 2 rfl ?_
 refine e1 228 rfl <| keep [0, 3, 4, 5, 13, 125, 163] rfl ?_
 refine q1 rfl (fun hc50 => ?_) (fun hc50 => ?_)
 simp at hc50; omega
 try simp only [cs, ne_eq] at hc50
 refine r1 <| sO 221 228 1 rfl <| sT 220 236 2 rfl <| e1 244 rfl <| keep [0, 3, 4, 5, 13, 125, 220] rfl ?_
 refine q1 rfl (fun hc60 => ?_) (fun hc60 => ?_)
 simp at hc60; omega
 try simp only [cs, ne_eq] at hc60
 refine r1 <| sO 226 244 1 rfl <| sT 225 252 2 rfl <| e1 260 rfl <| keep [0, 3, 4, 5, 13, 225] rfl ?_
 refine q1 rfl (fun hc62 => ?_) (fun hc62 => ?_)
 try simp only [cs, ne_eq] at hc62
 refine r1 <| sT 227 260 1 rfl <| sT 228 268 2 rfl <| sT 229 276 3 rfl <| sO 230 284 4 rfl <| sO 231 292 5 rfl <| sO 232 300 6 rfl <| e1 308 rfl <| keep [0, 3, 4, 5, 13, 232] rfl ?_
 refine q1 rfl (fun hc63 => ?_) (fun hc63 => ?_)
 try simp only [cs, ne_eq] at hc63
 refine r0 ?_
 refine sT 13 308 1 rfl <| e1 316 rfl <| bn <| tn <| W_seq <| r1 <| sT 244 316 1 rfl <| sO 245 324 2 rfl <| e1 332 rfl <| keep [4, 5, 13, 245] rfl ?_
 refine q1 rfl (fun hc68 => ?_) (fun hc68 => ?_)
 try simp only [cs, ne_eq] at hc68
 refine r1 <| sT 246 332 1 rfl <| sT 247 340 2 rfl <| s0O 348 3 rfl rfl rfl rfl rfl <| e1 356 rfl <| keep [4] rfl ?_
 refine cellW 12 1 (.d (.vec 2 0 (smpF []))) rfl rfl (nil_vec0 2 _) ?_
 refine rename 1 rfl rfl <| rename 2 rfl rfl <| rename 3 rfl rfl <| W_ret <| tr ?_
 exact outN (fdV (errF 8)) (π := [0, 1, 2, 3, 356, 364, 372]) (hout := [some (.cells 49 3 [.sl 4 0 L.length, .sl 5 0 E.length, .sl 6 0 (fileB E).length]), none, none, none, some (.fam Z ⟨linL L, [], some (66, 3)⟩), some (evB E), some (u8B (fileB E))]) Tryd.results9 rfl (by trivial) rfl rfl rfl ⟨rfl, rfl, rfl, rfl, trivial⟩ ⟨Z, rfl, rfl⟩
 exact absurd hc68 (by decide)
 simp at hc63; omega
 simp at hc62; omega
theorem dtrim_ok {Z : List Nat} (L : List Ln) (h6 : L.length ≤ 100) (d : Dd) (hd : DdIn d) (E : List Ev) (hE : E.length ≤ 200) (hF : (fileB E).length ≤ 800000) (j : Nat) (x : Ln) (hln : LnIn x) (hk : idxN d.nm L = some j) (hj : L[j]? = some x) (hxn : x.nm = d.nm) (hk1 : d.k = 5) (hful : ¬ 200 ≤ E.length) : Spec Tryd.prog GF 9 [.ptr 0 0 0, ddV d] [.cells 49 3 [.sl 1 0 L.length, .sl 2 0 E.length, .sl 3 0 (fileB E).length], .fam Z ⟨linL L, [], some (66, 3)⟩, evB E, u8B (fileB E)] (fun r ho => ∃ Z2, r = fdV (goodF (x.ch.filter (keepC d.kp)).length) ∧ ho = [some (.cells 49 3 [.sl 4 0 (L.set j (trimL d.kp x)).length, .sl 5 0 (E ++ [Ev.mk 3 d.nm [] d.kp]).length, .sl 6 0 (fileB (E ++ [Ev.mk 3 d.nm [] d.kp])).length]), none, none, none, some (.fam Z2 ⟨linL (L.set j (trimL d.kp x)), [], some (66, 3)⟩), some (evB (E ++ [Ev.mk 3 d.nm [] d.kp])), some (u8B (fileB (E ++ [Ev.mk 3 d.nm [] d.kp])))]) := by
 have hj2 : (L.set j (trimL d.kp x))[j]? = some (trimL d.kp x) := (by have := (List.getElem?_eq_some_iff.1 hj).1; simp [this])
 refine start 254 4 Tryd.func9 rfl rfl rfl rfl ?_
 refine r1 <| sT 3 4 1 rfl <| sT 4 12 2 rfl <| e1 20 rfl <| keep [0, 3, 4] rfl <| W_seq <| r1 <| sT 20 20 1 rfl <| sO 21 28 2 rfl <| sO 22 36 3 rfl <| sT 23 44 4 rfl ?_
 refine ask 23 rfl (fun hg1_23 => ?_) (fun hg1_23 => ?_)
 try simp only [cs, ne_eq] at hg1_23
 exfalso; omega
 try simp only [cs, ne_eq] at hg1_23
 refine gT 3 false 23 5 rfl rfl <| sT 24 52 5 rfl <| gT 3 false 23 6 rfl rfl <| sO 25 60 6 rfl <| gT 3 false 23 7 rfl rfl <| sO 26 68 7 rfl <| sT 27 76 8 rfl <| e1 84 rfl <| keep [0, 3, 4, 27] rfl ?_
 refine q1 rfl (fun hc1 => ?_) (fun hc1 => ?_)
 simp at hc1; omega
 try simp only [cs, ne_eq] at hc1
 refine W_skip <| tn <| r1 <| sT 29 84 1 rfl <| sT 30 92 2 rfl <| sO 31 100 3 rfl ?_
 refine c1 (line_found (fileB E) d.nm L h6 hk) [0, 1, 2, 3] [0, 1, 2, 3] 32 108 4 rfl rfl rfl rfl rfl rfl rfl rfl Tryd.func14 rfl rfl rfl rfl ⟨rfl, rfl, rfl, rfl, trivial⟩ rfl rfl ?_
 refine sT 5 116 5 rfl <| e1 124 rfl <| keep [0, 3, 4, 5] rfl <| W_seq <| r1 <| sT 33 124 1 rfl <| sO 34 132 2 rfl <| sO 35 140 3 rfl <| e1 148 rfl <| keep [0, 3, 4, 5, 35] rfl ?_
 refine q1 rfl (fun hc4 => ?_) (fun hc4 => ?_)
 simp at hc4; omega
 try simp only [cs, ne_eq] at hc4
 refine W_skip <| tn <| W_seq <| r1 <| sT 69 148 1 rfl <| sO 70 156 2 rfl <| sO 71 164 3 rfl <| e1 172 rfl <| keep [0, 3, 4, 5, 71] rfl ?_
 refine q1 rfl (fun hc15 => ?_) (fun hc15 => ?_)
 simp at hc15; omega
 try simp only [cs, ne_eq] at hc15
 refine W_skip <| tn <| W_seq <| r1 <| sT 121 172 1 rfl ?_
 refine sNilP 122 180 2 rfl rfl rfl rfl rfl rfl Tryd.underlying56 rfl ?_
 refine e1 188 rfl <| keep [0, 3, 4, 5, 122] rfl ?_
 refine q1 rfl (fun hc34 => ?_) (fun hc34 => ?_)
 exact absurd hc34 (by simp)
 try simp only [cs, ne_eq] at hc34
 refine W_skip <| tn <| r1 <| sT 13 188 1 rfl <| e1 196 rfl <| keep [0, 3, 4, 5, 13] rfl <| W_seq <| r1 <| sT 124 196 1 rfl <| sO 125 204 2 rfl <| e1 212 rfl <| keep [0, 3, 4, 5, 13, 125] rfl <| W_block <| r1 <| sO 164 212 1 rfl <| sT 163 220 2 rfl ?_
 refine e1 228 rfl <| keep [0, 3, 4, 5, 13, 125, 163] rfl ?_
 refine q1 rfl (fun hc50 => ?_) (fun hc50 => ?_)
 simp at hc50; omega
 try simp only [cs, ne_eq] at hc50
 refine r1 <| sO 221 228 1 rfl <| sT 220 236 2 rfl <| e1 244 rfl <| keep [0, 3, 4, 5, 13, 125, 220] rfl ?_
 refine q1 rfl (fun hc60 => ?_) (fun hc60 => ?_)
 simp at hc60; omega
 try simp only [cs, ne_eq] at hc60
 refine r1 <| sO 226 244 1 rfl <| sT 225 252 2 rfl <| e1 260 rfl <| keep [0, 3, 4, 5, 13, 225] rfl ?_
 refine q1 rfl (fun hc62 => ?_) (fun hc62 => ?_)
 try simp only [cs, ne_eq] at hc62
 refine r1 <| sT 227 260 1 rfl <| sT 228 268 2 rfl <| sT 229 276 3 rfl <| sO 230 284 4 rfl <| sO 231 292 5 rfl <| sO 232 300 6 rfl <| e1 308 rfl <| keep [0, 3, 4, 5, 13, 232] rfl ?_
 refine q1 rfl (fun hc63 => ?_) (fun hc63 => ?_)
 simp at hc63; omega
 try simp only [cs, ne_eq] at hc63
 refine r1 <| sT 233 308 1 rfl <| sO 234 316 2 rfl <| sT 235 324 3 rfl <| sO 236 332 4 rfl <| sT 237 340 5 rfl <| sT 15 348 6 rfl <| s0O 356 7 rfl rfl rfl rfl rfl <| e1 364 rfl <| keep [0, 4, 5, 13, 15] rfl <| r1 <| sT 238 364 1 rfl <| sO 239 372 2 rfl ?_
 refine c1 (write3L L d.nm (hxn ▸ hln.nm) d.kp hd.kp E (by omega) (by omega)) [0, 1, 2, 3] [0, 1, 2, 3, 380, 381] 240 380 3 rfl rfl rfl rfl rfl rfl rfl rfl Tryd.func16 rfl rfl rfl rfl ⟨rfl, rfl, rfl, rfl, trivial⟩ rfl rfl ?_
 refine e1 388 rfl <| keep [0, 4, 5, 13, 15] rfl ?_
 refine r0 ?_
 refine sT 241 388 1 rfl <| sO 242 396 2 rfl ?_
 refine cQ (apply3 (fileB (E ++ [Ev.mk 3 d.nm [] d.kp])) d.nm 0 L h6 hln hk hj d.kp) [0, 1, 380, 381] 243 404 3 rfl rfl rfl rfl rfl rfl rfl Tryd.func17 rfl rfl rfl ⟨rfl, rfl, rfl, rfl, trivial⟩ ?_
 rintro _ _ ⟨Z4, rfl, rfl⟩
 refine val 243 (.tup []) rfl rfl ?_
 refine hval 0 _ rfl (.cells 49 3 [.sl 1 0 (L.set j (trimL d.kp x)).length, .sl 380 0 (E ++ [Ev.mk 3 d.nm [] d.kp]).length, .sl 381 0 (fileB (E ++ [Ev.mk 3 d.nm [] d.kp])).length]) rfl ?_
 refine hval 1 _ rfl (.fam Z4 ⟨linL (L.set j (trimL d.kp x)), [], some (66, 3)⟩) rfl ?_
 refine hval 380 _ rfl (evB (E ++ [Ev.mk 3 d.nm [] d.kp])) rfl ?_
 refine hval 381 _ rfl (u8B (fileB (E ++ [Ev.mk 3 d.nm [] d.kp]))) rfl ?_
 refine e1 412 rfl <| bn <| tn <| W_seq <| r1 <| sT 244 412 1 rfl <| sO 245 420 2 rfl <| e1 428 rfl <| keep [4, 5, 13, 245] rfl ?_
 refine q1 rfl (fun hc68 => ?_) (fun hc68 => ?_)
 exact absurd hc68 (by decide)
 try simp only [cs, ne_eq] at hc68
 refine W_skip <| tn ?_
 refine famOpen 1 j rfl (linL_at hj2) rfl rfl (fun Z5 => ?_)
 refine r1 <| sT 248 436 1 rfl <| sT 249 444 2 rfl <| sT 250 452 3 rfl ?_
 refine sLoadF (linO (trimL d.kp x) 428) (.sl 428 0 (trimL d.kp x).ch.length) 251 460 4 rfl rfl rfl rfl rfl rfl rfl rfl rfl rfl (.inl (List.mem_singleton.2 rfl)) rfl ?_
 refine sO 252 468 5 rfl <| sT 253 476 6 rfl <| s0O 484 7 rfl rfl rfl rfl rfl <| e1 492 rfl <| keep [4] rfl ?_
 refine cellW 12 1 (.d (.vec 2 0 (smpF []))) rfl rfl (nil_vec0 2 _) ?_
 refine famShut 1 j [428] (.agg (linC (trimL d.kp x))) (linB (trimL d.kp x)) rfl (linL_at hj2) rfl ⟨rfl, trivial⟩ rfl (fun Z2 => ?_)
 refine chval 1 (.fam Z2 ⟨linL (L.set j (trimL d.kp x)), [], some (66, 3)⟩) rfl (congrArg (fun q => Blk.fam Z2 ⟨q, [], some (66, 3)⟩) (linL_self hj2)) ?_
 refine rename 1 rfl rfl <| W_ret ?_
 exact outN (fdV (goodF (x.ch.filter (keepC d.kp)).length)) (π := [0, 1, 2, 3, 492, 380, 381]) (hout := [some (.cells 49 3 [.sl 4 0 (L.set j (trimL d.kp x)).length, .sl 5 0 (E ++ [Ev.mk 3 d.nm [] d.kp]).length, .sl 6 0 (fileB (E ++ [Ev.mk 3 d.nm [] d.kp])).length]), none, none, none, some (.fam Z2 ⟨linL (L.set j (trimL d.kp x)), [], some (66, 3)⟩), some (evB (E ++ [Ev.mk 3 d.nm [] d.kp])), some (u8B (fileB (E ++ [Ev.mk 3 d.nm [] d.kp])))]) Tryd.results9 rfl (by trivial) rfl rfl rfl ⟨rfl, rfl, rfl, rfl, trivial⟩ ⟨Z2, rfl, rfl⟩
 simp at hc62; omega
end Go.Proofs.YtalhangpahffeaaDoor.Nice
