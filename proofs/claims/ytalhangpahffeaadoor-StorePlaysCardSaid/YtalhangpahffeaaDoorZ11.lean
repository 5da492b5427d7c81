/- Part 11 of the proof of StorePlays: DocG, DocH, ChunkRt, StoP, StoQ, StoL, StoM, DocI. -/
import Derived.Test.YtalhangpahffeaaDoorZ10
namespace Go.Proofs.YtalhangpahffeaaDoor.Nice
open Go Go.Proofs
set_option linter.unusedVariables false
set_option linter.unusedSimpArgs false
set_option maxRecDepth 100000
set_option maxHeartbeats 1000000
theorem filt_y {p : Smp → Bool} {l : List Smp} {n : Nat} (h : n < l.length) (hp : p (l.getD n default) = true) : (l.take (n + 1)).filter p = (l.take n).filter p ++ [l.getD n default] := by
 rw [filt_succ h, if_pos hp]
theorem filt_n {p : Smp → Bool} {l : List Smp} {n : Nat} (h : n < l.length) (hp : p (l.getD n default) = false) : (l.take (n + 1)).filter p = (l.take n).filter p := by
 rw [filt_succ h, hp]; simp
theorem vals_app (a b : List Smp) : vals (a ++ b) = vals a ++ vals b := by simp [vals]
theorem inR_y {a b : Int} {s : Smp} (h1 : a ≤ s.t) (h2 : s.t < b) : inR a b s = true := by
 unfold inR; rw [decide_eq_false (by omega), decide_eq_false (by omega)]; rfl
theorem inR_n {a b : Int} {s : Smp} (h : ¬ (a ≤ s.t ∧ s.t < b)) : inR a b s = false := by
 unfold inR
 by_cases h1 : s.t < a
 · rw [decide_eq_true h1]; rfl
 · rw [decide_eq_false h1, decide_eq_true (by omega)]; rfl
theorem refOf_vals (l : List Smp) (hl : l.length ≤ 250) (hv : ∀ i, i < (vals l).length → inV ((vals l).getD i 0)) : Spec Tryd.prog GF 21 [intV (vals l)] [] (fun r ho => r = rollS (rollL l) ∧ ho = []) := by
 have h := refOf_any (vals l) (by have := vals_len l; omega) (fun n hn => by have := fold_s hv n hn; have := vals_len l; unfold inRange; omega)
 have e : (vals l).length = l.length := vals_len l
 rw [e] at h
 exact h
def intB (l : List Int) : Blk := .rows 3 1 l.length (intF l)
theorem drange {Z : List Nat} (L : List Ln) (h6 : L.length ≤ 100) (d : Dd) (hd : DdIn d) (E : List Ev) (hE : E.length ≤ 200) (hF : (fileB E).length ≤ 800000) (j : Nat) (x : Ln) (hln : LnIn x) (hk : idxN d.nm L = some j) (hj : L[j]? = some x) (hxn : x.nm = d.nm) (hk1 : d.k = 3) (al : List Smp) (hal : allS x.ch x.op = al) (h250 : al.length ≤ 250) : Spec Tryd.prog GF 9 [.ptr 0 0 0, ddV d] [.cells 49 3 [.sl 1 0 L.length, .sl 2 0 E.length, .sl 3 0 (fileB E).length], .fam Z ⟨linL L, [], some (66, 3)⟩, evB E, u8B (fileB E)] (fun r ho => ∃ Z2, r = fdV ⟨0, (al.filter (inR d.fr d.to)), roll0, 0⟩ ∧ ho = [some (.cells 49 3 [.sl 4 0 L.length, .sl 5 0 E.length, .sl 6 0 (fileB E).length]), none, none, none, some (.fam Z2 ⟨linL L, [], some (66, 3)⟩), some (evB E), some (u8B (fileB E))]) := by
 refine start 254 4 Tryd.func9 rfl rfl rfl rfl ?_
 refine r1 <| sT 3 4 1 rfl <| sT 4 12 2 rfl <| e1 20 rfl <| keep [0, 3, 4] rfl <| W_seq <| r1 <| sT 20 20 1 rfl <| sO 21 28 2 rfl <| sO 22 36 3 rfl <| sT 23 44 4 rfl ?_
 refine ask 23 rfl (fun hg1_23 => ?_) (fun hg1_23 => ?_)
 try simp only [cs, ne_eq] at hg1_23
 exfalso; omega
 try simp only [cs, ne_eq] at hg1_23
 refine gT 3 false 23 5 rfl rfl <| sT 24 52 5 rfl <| gT 3 false 23 6 rfl rfl <| sO 25 60 6 rfl <| gT 3 false 23 7 rfl rfl <| sO 26 68 7 rfl <| sT 27 76 8 rfl <| e1 84 rfl <| keep [0, 3, 4, 27] rfl ?_
 refine q1 rfl (fun hc1 => ?_) (fun hc1 => ?_)
 simp at hc1; omega
 try simp only [cs, ne_eq] at hc1
 refine W_skip <| tn <| r1 <| sT 29 84 1 rfl <| sT 30 92 2 rfl <| sO 31 100 3 rfl ?_
 refine c1 (line_found (fileB E) d.nm L h6 hk) [0, 1, 2, 3] [0, 1, 2, 3] 32 108 4 rfl rfl rfl rfl rfl rfl rfl rfl Tryd.func14 rfl rfl rfl rfl ⟨rfl, rfl, rfl, rfl, trivial⟩ rfl rfl ?_
 refine sT 5 116 5 rfl <| e1 124 rfl <| keep [0, 3, 4, 5] rfl <| W_seq <| r1 <| sT 33 124 1 rfl <| sO 34 132 2 rfl <| sO 35 140 3 rfl <| e1 148 rfl <| keep [0, 3, 4, 5, 35] rfl ?_
 refine q1 rfl (fun hc4 => ?_) (fun hc4 => ?_)
 simp at hc4; omega
 try simp only [cs, ne_eq] at hc4
 refine W_skip <| tn <| W_seq <| r1 <| sT 69 148 1 rfl <| sO 70 156 2 rfl <| sO 71 164 3 rfl <| e1 172 rfl <| keep [0, 3, 4, 5, 71] rfl ?_
 refine q1 rfl (fun hc15 => ?_) (fun hc15 => ?_)
 simp at hc15; omega
 try simp only [cs, ne_eq] at hc15
 refine W_skip <| tn <| W_seq <| r1 <| sT 121 172 1 rfl ?_
 refine sNilP 122 180 2 rfl rfl rfl rfl rfl rfl Tryd.underlying56 rfl ?_
 refine e1 188 rfl <| keep [0, 3, 4, 5, 122] rfl ?_
 refine q1 rfl (fun hc34 => ?_) (fun hc34 => ?_)
 exact absurd hc34 (by simp)
 try simp only [cs, ne_eq] at hc34
 refine W_skip <| tn <| r1 <| sT 13 188 1 rfl <| e1 196 rfl <| keep [0, 3, 4, 5, 13] rfl <| W_seq <| r1 <| sT 124 196 1 rfl <| sO 125 204 2 rfl <| e1 212 rfl <| keep [0, 3, 4, 5, 13, 125] rfl <| W_block <| r1 <| sO 164 212 1 rfl <| sT 163 220 2 rfl ?_
 refine e1 228 rfl <| keep [0, 3, 4, 5, 13, 125, 163] rfl ?_
 refine q1 rfl (fun hc50 => ?_) (fun hc50 => ?_)
 simp at hc50; omega
 try simp only [cs, ne_eq] at hc50
 refine r1 <| sO 221 228 1 rfl <| sT 220 236 2 rfl <| e1 244 rfl <| keep [0, 3, 4, 5, 13, 125, 220] rfl ?_
 refine q1 rfl (fun hc60 => ?_) (fun hc60 => ?_)
 simp at hc60; omega
 try simp only [cs, ne_eq] at hc60
 refine r1 <| sO 226 244 1 rfl <| sT 225 252 2 rfl <| e1 260 rfl <| keep [0, 3, 4, 5, 13, 225] rfl ?_
 refine q1 rfl (fun hc62 => ?_) (fun hc62 => ?_)
 simp at hc62; omega
 try simp only [cs, ne_eq] at hc62
 refine r1 <| sT 16 260 1 rfl <| e1 268 rfl <| keep [3, 4, 5, 16] rfl <| r1 <| sT 17 268 1 rfl <| e1 276 rfl <| keep [3, 4, 5, 16, 17] rfl <| W_seq ?_
 refine famOpen 1 j rfl (linL_at hj) rfl rfl (fun Z1 => ?_)
 refine r1 <| sT 126 284 1 rfl ?_
 refine sLend (allOf_any x.nm x.ch x.op hln.ok) (smp_flat _) [(1, .fam Z1 ⟨linL L, [(j, .agg (linO x 276))], some (66, 3)⟩), (276, chsB x.ch)] 127 292 2 rfl rfl rfl rfl rfl rfl rfl Tryd.func18 rfl rfl ⟨rfl, rfl, trivial⟩ (by intro M F ρ a h w hv hH hbs i y hy; match i, hy with | 0, hy => (cases hy; refine ⟨_, rfl, fam_all hH (show h 1 = some _ from hbs (1, _) (List.mem_cons_self ..)) rfl (List.mem_singleton.2 rfl) (hv (.tmp 126) (by simp [Op.operands, Call.operands])) fun c dd hc => ?_⟩; match c, hc with | 0, hc => (cases hc; exact ⟨_, rfl, u_val fun b o e => hH.imm b o e⟩) | 1, hc => (cases hc; exact ⟨_, rfl, fun u hu => sl_all hH (show h 276 = some _ from hbs (276, chsB x.ch) (List.mem_cons_of_mem _ (List.mem_singleton.2 rfl))) (Nat.le_refl _) hu⟩) | 2, hc => (cases hc; exact ⟨_, rfl, u_val fun b o e => hH.imm b o e⟩) | c + 3, hc => simp at hc) | i + 1, hy => simp at hy) ?_
 refine sO 128 300 3 rfl <| sT 129 308 4 rfl <| e1 316 rfl <| keep [3, 4, 16, 17, 127, 128, 129] rfl ?_
 refine freeze 127 292 (allS x.ch x.op).length rfl rfl (Nat.le_refl _) ?_
 refine cval 127 (smpV al) rfl (by rw [hal]; rfl) ?_
 refine cval 128 (SV.i al.length) rfl (by rw [hal]) ?_
 refine ghostly 16 41 2 (smpF []) rfl ?_
 refine ghostly 17 3 1 (intF []) rfl ?_
 refine W_block ?_
 refine loop (α := Nat) 9 (fun n => [(3, .ptr 4 0 0), (4, .ptr 5 0 0), (16, .sl 7 0 ((al.take (n)).filter (inR d.fr d.to)).length), (17, .sl 8 0 (vals ((al.take (n)).filter (inR d.fr d.to))).length), (127, smpV al), (128, SV.i al.length), (129, SV.i (n))]) (fun n => [some (.cells 49 3 [.sl 1 0 L.length, .sl 2 0 E.length, .sl 3 0 (fileB E).length]), some (.fam Z1 ⟨linL L, [(j, .agg (linO x 6))], some (66, 3)⟩), some (evB E), some (u8B (fileB E)), some (.cells 43 7 (ddX d)), some (.cells 33 7 [SV.i 0, .d .nils, SV.i 0, SV.i 0, SV.i 0, SV.i 0, SV.i 0]), some (chsB x.ch), some (smB ((al.take (n)).filter (inR d.fr d.to))), some (intB (vals ((al.take (n)).filter (inR d.fr d.to))))]) (fun n => (n) ≤ al.length) (fun n => al.length - (n)) (((0) : Nat)) [0, 1, 2, 3, 4, 12, 276, 316, 324] (fun _ => rfl) (show (0) ≤ al.length from (Nat.zero_le _)) rfl ⟨rfl, rfl, rfl, rfl, rfl, rfl, rfl, trivial⟩ ⟨rfl, rfl, rfl, rfl, rfl, rfl, rfl, rfl, rfl, trivial⟩ (fun n hx => ?_)
 show W _ _ _ ⟨tOf [(3, .ptr 4 0 0), (4, .ptr 5 0 0), (16, .sl 7 0 ((al.take n).filter (inR d.fr d.to)).length), (17, .sl 8 0 (vals ((al.take n).filter (inR d.fr d.to))).length), (127, smpV al), (128, SV.i al.length), (129, SV.i n)], hOf [some (.cells 49 3 [.sl 1 0 L.length, .sl 2 0 E.length, .sl 3 0 (fileB E).length]), some (.fam Z1 ⟨linL L, [(j, .agg (linO x 6))], some (66, 3)⟩), some (evB E), some (u8B (fileB E)), some (.cells 43 7 (ddX d)), some (.cells 33 7 [SV.i 0, .d .nils, SV.i 0, SV.i 0, SV.i 0, SV.i 0, SV.i 0]), some (chsB x.ch), some (smB ((al.take n).filter (inR d.fr d.to))), some (intB (vals ((al.take n).filter (inR d.fr d.to))))], 9⟩
 have hx : n ≤ al.length := hx
 have hfl := List.length_filter_le (inR d.fr d.to) (al.take n)
 rw [List.length_take] at hfl
 have hvl := vals_len ((al.take n).filter (inR d.fr d.to))
 refine r1 <| sO 130 9 1 rfl <| e1 17 rfl <| keep [3, 4, 16, 17, 127, 128, 129, 130] rfl <| W_seq ?_
 refine q1 rfl (fun hc41 => ?_) (fun hc41 => ?_)
 try simp only [cs, ne_eq] at hc41
 refine W_skip <| tn <| W_seq <| W_block <| r1 ?_
 refine sV 131 17 1 rfl ⟨by omega, by omega⟩ ?_
 refine sV 132 25 2 rfl (by simp only [Int.toNat_natCast]; omega) ?_
 refine val 132 (smpS (al.getD n default)) rfl (by first | rfl | (simp only [Nat.zero_add, Int.toNat_natCast]; rfl)) ?_
 refine sT 19 33 3 rfl <| s0O 41 4 rfl rfl rfl rfl rfl <| e1 49 rfl <| keep [3, 4, 16, 17, 19, 127, 128, 129] rfl <| r1 <| sT 133 49 1 rfl <| sO 134 57 2 rfl <| sT 135 65 3 rfl <| sO 136 73 4 rfl <| sO 137 81 5 rfl <| sT 138 89 6 rfl ?_
 refine ask 138 rfl (fun hg43_138 => ?_) (fun hg43_138 => ?_)
 try simp only [cs, ne_eq] at hg43_138
 refine gT 5 true 138 7 rfl rfl <| sT 139 97 7 rfl <| gT 5 true 138 8 rfl rfl <| sO 140 105 8 rfl <| gT 5 true 138 9 rfl rfl <| sT 141 113 9 rfl <| gT 5 true 138 10 rfl rfl <| sO 142 121 10 rfl <| gT 5 true 138 11 rfl rfl <| sO 143 129 11 rfl <| sT 144 137 12 rfl <| e1 145 rfl <| keep [3, 4, 16, 17, 19, 127, 128, 129, 144] rfl ?_
 refine q1 rfl (fun hc43 => ?_) (fun hc43 => ?_)
 try simp only [cs, ne_eq] at hc43
 refine r1 <| sT 145 145 1 rfl <| sO 146 153 2 rfl <| sT 147 161 3 rfl ?_
 refine sV 148 169 4 rfl ⟨Nat.le_refl _, trivial, (by show (_ + 1) * 16 ≤ 140737488355328; omega), (by simp only [maxLen]; omega)⟩ ?_
 refine sT 16 177 5 rfl <| e1 185 rfl <| keep [3, 4, 16, 17, 19, 127, 128, 129] rfl ?_
 refine r0 ?_
 refine sT 149 185 1 rfl <| sT 150 193 2 rfl <| sO 151 201 3 rfl <| sT 152 209 4 rfl ?_
 refine sV 153 217 5 rfl ⟨Nat.le_refl _, trivial, (by show (_ + 1) * 8 ≤ 140737488355328; omega), (by simp only [maxLen]; omega)⟩ ?_
 refine sT 17 225 6 rfl <| e1 233 rfl <| bn <| tn ?_
 have hyk := filt_y (p := (inR d.fr d.to)) (l := al) (n := n) (by omega) (inR_y (by omega) (by omega))
 refine rowsc 169 ((al.take (n + 1)).filter (inR d.fr d.to)).length (smpF ((al.take (n + 1)).filter (inR d.fr d.to))) rfl (by rw [hyk]; exact sm_len _ _) (fun i c hi hc => by rw [hyk]; exact sm_one i c hi hc) ?_
 refine cval 16 (.sl 169 0 ((al.take (n + 1)).filter (inR d.fr d.to)).length) rfl (by rw [hyk]; exact congrArg (fun q => SV.sl 169 0 q) (sm_len _ _)) ?_
 refine rowsc 217 (vals ((al.take (n + 1)).filter (inR d.fr d.to))).length (intF (vals ((al.take (n + 1)).filter (inR d.fr d.to)))) rfl (by rw [hyk, vals_app, List.length_append]; rfl) (fun i c hi hc => by rw [hyk, vals_app]; exact int_one i c hi hc) ?_
 refine cval 17 (.sl 217 0 (vals ((al.take (n + 1)).filter (inR d.fr d.to))).length) rfl (by rw [hyk, vals_app, List.length_append]; rfl) ?_
 refine r0 ?_
 refine sAO 154 233 1 rfl <| sT 129 241 2 rfl <| e1 249 rfl <| tn ?_
 exact again ((n + 1 : Nat)) [0, 1, 2, 3, 4, 5, 6, 169, 217] (show (n + 1) ≤ al.length from (by omega)) (show al.length - (n + 1) < al.length - n from (by omega)) rfl ⟨rfl, rfl, rfl, rfl, rfl, rfl, rfl, trivial⟩ ⟨rfl, rfl, rfl, rfl, rfl, rfl, rfl, rfl, rfl, trivial⟩
 try simp only [cs, ne_eq] at hc43
 refine W_skip <| bn <| tn ?_
 have hnk := filt_n (p := (inR d.fr d.to)) (l := al) (n := n) (by omega) (inR_n (by omega))
 refine chval 7 (smB ((al.take (n + 1)).filter (inR d.fr d.to))) rfl (by rw [hnk]) ?_
 refine chval 8 (intB (vals ((al.take (n + 1)).filter (inR d.fr d.to)))) rfl (by rw [hnk]) ?_
 refine cval 16 (.sl 7 0 ((al.take (n + 1)).filter (inR d.fr d.to)).length) rfl (by rw [hnk]) ?_
 refine cval 17 (.sl 8 0 (vals ((al.take (n + 1)).filter (inR d.fr d.to))).length) rfl (by rw [hnk]) ?_
 refine r0 ?_
 refine sAO 154 145 1 rfl <| sT 129 153 2 rfl <| e1 161 rfl <| tn ?_
 exact again ((n + 1 : Nat)) [0, 1, 2, 3, 4, 5, 6, 7, 8] (show (n + 1) ≤ al.length from (by omega)) (show al.length - (n + 1) < al.length - n from (by omega)) rfl ⟨rfl, rfl, rfl, rfl, rfl, rfl, rfl, trivial⟩ ⟨rfl, rfl, rfl, rfl, rfl, rfl, rfl, rfl, rfl, trivial⟩
 try simp only [cs, ne_eq] at hg43_138
 refine gF 5 true 138 139 7 rfl rfl <| gF 5 true 138 140 8 rfl rfl <| gF 5 true 138 141 9 rfl rfl <| gF 5 true 138 142 10 rfl rfl <| gF 5 true 138 143 11 rfl rfl <| sT 144 137 12 rfl <| e1 145 rfl <| keep [3, 4, 16, 17, 19, 127, 128, 129, 144] rfl ?_
 refine q1 rfl (fun hc43 => ?_) (fun hc43 => ?_)
 exact absurd hc43 (by decide)
 try simp only [cs, ne_eq] at hc43
 refine W_skip <| bn <| tn ?_
 have hnk := filt_n (p := (inR d.fr d.to)) (l := al) (n := n) (by omega) (inR_n (by omega))
 refine chval 7 (smB ((al.take (n + 1)).filter (inR d.fr d.to))) rfl (by rw [hnk]) ?_
 refine chval 8 (intB (vals ((al.take (n + 1)).filter (inR d.fr d.to)))) rfl (by rw [hnk]) ?_
 refine cval 16 (.sl 7 0 ((al.take (n + 1)).filter (inR d.fr d.to)).length) rfl (by rw [hnk]) ?_
 refine cval 17 (.sl 8 0 (vals ((al.take (n + 1)).filter (inR d.fr d.to))).length) rfl (by rw [hnk]) ?_
 refine r0 ?_
 refine sAO 154 145 1 rfl <| sT 129 153 2 rfl <| e1 161 rfl <| tn ?_
 exact again ((n + 1 : Nat)) [0, 1, 2, 3, 4, 5, 6, 7, 8] (show (n + 1) ≤ al.length from (by omega)) (show al.length - (n + 1) < al.length - n from (by omega)) rfl ⟨rfl, rfl, rfl, rfl, rfl, rfl, rfl, trivial⟩ ⟨rfl, rfl, rfl, rfl, rfl, rfl, rfl, rfl, rfl, trivial⟩
 try simp only [cs, ne_eq] at hc41
 refine W_exit <| tx <| tx <| bx <| tn <| W_seq ?_
 have hne : n = al.length := (by omega)
 subst hne
 rw [List.take_length] at *
 refine r1 <| sT 155 17 1 rfl <| sO 156 25 2 rfl <| sO 157 33 3 rfl <| e1 41 rfl <| keep [4, 16, 17, 157] rfl ?_
 refine q1 rfl (fun hc47 => ?_) (fun hc47 => ?_)
 try simp only [cs, ne_eq] at hc47
 refine freeze 16 7 (al.filter (inR d.fr d.to)).length rfl rfl (Nat.le_refl _) ?_
 refine r1 <| sT 158 41 1 rfl <| sT 159 49 2 rfl <| s0O 57 3 rfl rfl rfl rfl rfl <| e1 65 rfl <| keep [4] rfl ?_
 refine famShut 1 j [6] (.agg (linC x)) (linB x) rfl (linL_at hj) rfl ⟨rfl, trivial⟩ rfl (fun Z2 => ?_)
 refine chval 1 (.fam Z2 ⟨linL L, [], some (66, 3)⟩) rfl (congrArg (fun q => Blk.fam Z2 ⟨q, [], some (66, 3)⟩) (linL_self hj)) ?_
 refine rename 1 rfl rfl <| rename 2 rfl rfl <| rename 3 rfl rfl <| W_ret <| tr <| br <| tr ?_
 exact outN (fdV ⟨0, (al.filter (inR d.fr d.to)), roll0, 0⟩) (π := [0, 1, 2, 3, 65, 73, 81]) (hout := [some (.cells 49 3 [.sl 4 0 L.length, .sl 5 0 E.length, .sl 6 0 (fileB E).length]), none, none, none, some (.fam Z2 ⟨linL L, [], some (66, 3)⟩), some (evB E), some (u8B (fileB E))]) Tryd.results9 rfl (by trivial) rfl rfl rfl ⟨rfl, rfl, rfl, rfl, trivial⟩ ⟨Z2, rfl, rfl⟩
 simp at hc47; omega
theorem dtotal {Z : List Nat} (L : List Ln) (h6 : L.length ≤ 100) (d : Dd) (hd : DdIn d) (E : List Ev) (hE : E.length ≤ 200) (hF : (fileB E).length ≤ 800000) (j : Nat) (x : Ln) (hln : LnIn x) (hk : idxN d.nm L = some j) (hj : L[j]? = some x) (hxn : x.nm = d.nm) (hk1 : d.k = 4) (al : List Smp) (hal : allS x.ch x.op = al) (h250 : al.length ≤ 250) (hv : ∀ i, i < (vals (al.filter (inR d.fr d.to))).length → inV ((vals (al.filter (inR d.fr d.to))).getD i 0)) : Spec Tryd.prog GF 9 [.ptr 0 0 0, ddV d] [.cells 49 3 [.sl 1 0 L.length, .sl 2 0 E.length, .sl 3 0 (fileB E).length], .fam Z ⟨linL L, [], some (66, 3)⟩, evB E, u8B (fileB E)] (fun r ho => ∃ Z2, r = fdV ⟨0, [], rollL (al.filter (inR d.fr d.to)), 0⟩ ∧ ho = [some (.cells 49 3 [.sl 4 0 L.length, .sl 5 0 E.length, .sl 6 0 (fileB E).length]), none, none, none, some (.fam Z2 ⟨linL L, [], some (66, 3)⟩), some (evB E), some (u8B (fileB E))]) := by
 refine start 254 4 Tryd.func9 rfl rfl rfl rfl ?_
 refine r1 <| sT 3 4 1 rfl <| sT 4 12 2 rfl <| e1 20 rfl <| keep [0, 3, 4] rfl <| W_seq <| r1 <| sT 20 20 1 rfl <| sO 21 28 2 rfl <| sO 22 36 3 rfl <| sT 23 44 4 rfl ?_
 refine ask 23 rfl (fun hg1_23 => ?_) (fun hg1_23 => ?_)
 try simp only [cs, ne_eq] at hg1_23
 exfalso; omega
 try simp only [cs, ne_eq] at hg1_23
 refine gT 3 false 23 5 rfl rfl <| sT 24 52 5 rfl <| gT 3 false 23 6 rfl rfl <| sO 25 60 6 rfl <| gT 3 false 23 7 rfl rfl <| sO 26 68 7 rfl <| sT 27 76 8 rfl <| e1 84 rfl <| keep [0, 3, 4, 27] rfl ?_
 refine q1 rfl (fun hc1 => ?_) (fun hc1 => ?_)
 simp at hc1; omega
 try simp only [cs, ne_eq] at hc1
 refine W_skip <| tn <| r1 <| sT 29 84 1 rfl <| sT 30 92 2 rfl <| sO 31 100 3 rfl ?_
 refine c1 (line_found (fileB E) d.nm L h6 hk) [0, 1, 2, 3] [0, 1, 2, 3] 32 108 4 rfl rfl rfl rfl rfl rfl rfl rfl Tryd.func14 rfl rfl rfl rfl ⟨rfl, rfl, rfl, rfl, trivial⟩ rfl rfl ?_
 refine sT 5 116 5 rfl <| e1 124 rfl <| keep [0, 3, 4, 5] rfl <| W_seq <| r1 <| sT 33 124 1 rfl <| sO 34 132 2 rfl <| sO 35 140 3 rfl <| e1 148 rfl <| keep [0, 3, 4, 5, 35] rfl ?_
 refine q1 rfl (fun hc4 => ?_) (fun hc4 => ?_)
 simp at hc4; omega
 try simp only [cs, ne_eq] at hc4
 refine W_skip <| tn <| W_seq <| r1 <| sT 69 148 1 rfl <| sO 70 156 2 rfl <| sO 71 164 3 rfl <| e1 172 rfl <| keep [0, 3, 4, 5, 71] rfl ?_
 refine q1 rfl (fun hc15 => ?_) (fun hc15 => ?_)
 simp at hc15; omega
 try simp only [cs, ne_eq] at hc15
 refine W_skip <| tn <| W_seq <| r1 <| sT 121 172 1 rfl ?_
 refine sNilP 122 180 2 rfl rfl rfl rfl rfl rfl Tryd.underlying56 rfl ?_
 refine e1 188 rfl <| keep [0, 3, 4, 5, 122] rfl ?_
 refine q1 rfl (fun hc34 => ?_) (fun hc34 => ?_)
 exact absurd hc34 (by simp)
 try simp only [cs, ne_eq] at hc34
 refine W_skip <| tn <| r1 <| sT 13 188 1 rfl <| e1 196 rfl <| keep [0, 3, 4, 5, 13] rfl <| W_seq <| r1 <| sT 124 196 1 rfl <| sO 125 204 2 rfl <| e1 212 rfl <| keep [0, 3, 4, 5, 13, 125] rfl <| W_block <| r1 <| sO 164 212 1 rfl <| sT 163 220 2 rfl ?_
 refine e1 228 rfl <| keep [0, 3, 4, 5, 13, 125, 163] rfl ?_
 refine q1 rfl (fun hc50 => ?_) (fun hc50 => ?_)
 simp at hc50; omega
 try simp only [cs, ne_eq] at hc50
 refine r1 <| sO 221 228 1 rfl <| sT 220 236 2 rfl <| e1 244 rfl <| keep [0, 3, 4, 5, 13, 125, 220] rfl ?_
 refine q1 rfl (fun hc60 => ?_) (fun hc60 => ?_)
 simp at hc60; omega
 try simp only [cs, ne_eq] at hc60
 refine r1 <| sO 226 244 1 rfl <| sT 225 252 2 rfl <| e1 260 rfl <| keep [0, 3, 4, 5, 13, 225] rfl ?_
 refine q1 rfl (fun hc62 => ?_) (fun hc62 => ?_)
 simp at hc62; omega
 try simp only [cs, ne_eq] at hc62
 refine r1 <| sT 16 260 1 rfl <| e1 268 rfl <| keep [3, 4, 5, 16] rfl <| r1 <| sT 17 268 1 rfl <| e1 276 rfl <| keep [3, 4, 5, 16, 17] rfl <| W_seq ?_
 refine famOpen 1 j rfl (linL_at hj) rfl rfl (fun Z1 => ?_)
 refine r1 <| sT 126 284 1 rfl ?_
 refine sLend (allOf_any x.nm x.ch x.op hln.ok) (smp_flat _) [(1, .fam Z1 ⟨linL L, [(j, .agg (linO x 276))], some (66, 3)⟩), (276, chsB x.ch)] 127 292 2 rfl rfl rfl rfl rfl rfl rfl Tryd.func18 rfl rfl ⟨rfl, rfl, trivial⟩ (by intro M F ρ a h w hv hH hbs i y hy; match i, hy with | 0, hy => (cases hy; refine ⟨_, rfl, fam_all hH (show h 1 = some _ from hbs (1, _) (List.mem_cons_self ..)) rfl (List.mem_singleton.2 rfl) (hv (.tmp 126) (by simp [Op.operands, Call.operands])) fun c dd hc => ?_⟩; match c, hc with | 0, hc => (cases hc; exact ⟨_, rfl, u_val fun b o e => hH.imm b o e⟩) | 1, hc => (cases hc; exact ⟨_, rfl, fun u hu => sl_all hH (show h 276 = some _ from hbs (276, chsB x.ch) (List.mem_cons_of_mem _ (List.mem_singleton.2 rfl))) (Nat.le_refl _) hu⟩) | 2, hc => (cases hc; exact ⟨_, rfl, u_val fun b o e => hH.imm b o e⟩) | c + 3, hc => simp at hc) | i + 1, hy => simp at hy) ?_
 refine sO 128 300 3 rfl <| sT 129 308 4 rfl <| e1 316 rfl <| keep [3, 4, 16, 17, 127, 128, 129] rfl ?_
 refine freeze 127 292 (allS x.ch x.op).length rfl rfl (Nat.le_refl _) ?_
 refine cval 127 (smpV al) rfl (by rw [hal]; rfl) ?_
 refine cval 128 (SV.i al.length) rfl (by rw [hal]) ?_
 refine ghostly 16 41 2 (smpF []) rfl ?_
 refine ghostly 17 3 1 (intF []) rfl ?_
 refine W_block ?_
 refine loop (α := Nat) 9 (fun n => [(3, .ptr 4 0 0), (4, .ptr 5 0 0), (16, .sl 7 0 ((al.take (n)).filter (inR d.fr d.to)).length), (17, .sl 8 0 (vals ((al.take (n)).filter (inR d.fr d.to))).length), (127, smpV al), (128, SV.i al.length), (129, SV.i (n))]) (fun n => [some (.cells 49 3 [.sl 1 0 L.length, .sl 2 0 E.length, .sl 3 0 (fileB E).length]), some (.fam Z1 ⟨linL L, [(j, .agg (linO x 6))], some (66, 3)⟩), some (evB E), some (u8B (fileB E)), some (.cells 43 7 (ddX d)), some (.cells 33 7 [SV.i 0, .d .nils, SV.i 0, SV.i 0, SV.i 0, SV.i 0, SV.i 0]), some (chsB x.ch), some (smB ((al.take (n)).filter (inR d.fr d.to))), some (intB (vals ((al.take (n)).filter (inR d.fr d.to))))]) (fun n => (n) ≤ al.length) (fun n => al.length - (n)) (((0) : Nat)) [0, 1, 2, 3, 4, 12, 276, 316, 324] (fun _ => rfl) (show (0) ≤ al.length from (Nat.zero_le _)) rfl ⟨rfl, rfl, rfl, rfl, rfl, rfl, rfl, trivial⟩ ⟨rfl, rfl, rfl, rfl, rfl, rfl, rfl, rfl, rfl, trivial⟩ (fun n hx => ?_)
 show W _ _ _ ⟨tOf [(3, .ptr 4 0 0), (4, .ptr 5 0 0), (16, .sl 7 0 ((al.take n).filter (inR d.fr d.to)).length), (17, .sl 8 0 (vals ((al.take n).filter (inR d.fr d.to))).length), (127, smpV al), (128, SV.i al.length), (129, SV.i n)], hOf [some (.cells 49 3 [.sl 1 0 L.length, .sl 2 0 E.length, .sl 3 0 (fileB E).length]), some (.fam Z1 ⟨linL L, [(j, .agg (linO x 6))], some (66, 3)⟩), some (evB E), some (u8B (fileB E)), some (.cells 43 7 (ddX d)), some (.cells 33 7 [SV.i 0, .d .nils, SV.i 0, SV.i 0, SV.i 0, SV.i 0, SV.i 0]), some (chsB x.ch), some (smB ((al.take n).filter (inR d.fr d.to))), some (intB (vals ((al.take n).filter (inR d.fr d.to))))], 9⟩
 have hx : n ≤ al.length := hx
 have hfl := List.length_filter_le (inR d.fr d.to) (al.take n)
 rw [List.length_take] at hfl
 have hvl := vals_len ((al.take n).filter (inR d.fr d.to))
 refine r1 <| sO 130 9 1 rfl <| e1 17 rfl <| keep [3, 4, 16, 17, 127, 128, 129, 130] rfl <| W_seq ?_
 refine q1 rfl (fun hc41 => ?_) (fun hc41 => ?_)
 try simp only [cs, ne_eq] at hc41
 refine W_skip <| tn <| W_seq <| W_block <| r1 ?_
 refine sV 131 17 1 rfl ⟨by omega, by omega⟩ ?_
 refine sV 132 25 2 rfl (by simp only [Int.toNat_natCast]; omega) ?_
 refine val 132 (smpS (al.getD n default)) rfl (by first | rfl | (simp only [Nat.zero_add, Int.toNat_natCast]; rfl)) ?_
 refine sT 19 33 3 rfl <| s0O 41 4 rfl rfl rfl rfl rfl <| e1 49 rfl <| keep [3, 4, 16, 17, 19, 127, 128, 129] rfl <| r1 <| sT 133 49 1 rfl <| sO 134 57 2 rfl <| sT 135 65 3 rfl <| sO 136 73 4 rfl <| sO 137 81 5 rfl <| sT 138 89 6 rfl ?_
 refine ask 138 rfl (fun hg43_138 => ?_) (fun hg43_138 => ?_)
 try simp only [cs, ne_eq] at hg43_138
 refine gT 5 true 138 7 rfl rfl <| sT 139 97 7 rfl <| gT 5 true 138 8 rfl rfl <| sO 140 105 8 rfl <| gT 5 true 138 9 rfl rfl <| sT 141 113 9 rfl <| gT 5 true 138 10 rfl rfl <| sO 142 121 10 rfl <| gT 5 true 138 11 rfl rfl <| sO 143 129 11 rfl <| sT 144 137 12 rfl <| e1 145 rfl <| keep [3, 4, 16, 17, 19, 127, 128, 129, 144] rfl ?_
 refine q1 rfl (fun hc43 => ?_) (fun hc43 => ?_)
 try simp only [cs, ne_eq] at hc43
 refine r1 <| sT 145 145 1 rfl <| sO 146 153 2 rfl <| sT 147 161 3 rfl ?_
 refine sV 148 169 4 rfl ⟨Nat.le_refl _, trivial, (by show (_ + 1) * 16 ≤ 140737488355328; omega), (by simp only [maxLen]; omega)⟩ ?_
 refine sT 16 177 5 rfl <| e1 185 rfl <| keep [3, 4, 16, 17, 19, 127, 128, 129] rfl ?_
 refine r0 ?_
 refine sT 149 185 1 rfl <| sT 150 193 2 rfl <| sO 151 201 3 rfl <| sT 152 209 4 rfl ?_
 refine sV 153 217 5 rfl ⟨Nat.le_refl _, trivial, (by show (_ + 1) * 8 ≤ 140737488355328; omega), (by simp only [maxLen]; omega)⟩ ?_
 refine sT 17 225 6 rfl <| e1 233 rfl <| bn <| tn ?_
 have hyk := filt_y (p := (inR d.fr d.to)) (l := al) (n := n) (by omega) (inR_y (by omega) (by omega))
 refine rowsc 169 ((al.take (n + 1)).filter (inR d.fr d.to)).length (smpF ((al.take (n + 1)).filter (inR d.fr d.to))) rfl (by rw [hyk]; exact sm_len _ _) (fun i c hi hc => by rw [hyk]; exact sm_one i c hi hc) ?_
 refine cval 16 (.sl 169 0 ((al.take (n + 1)).filter (inR d.fr d.to)).length) rfl (by rw [hyk]; exact congrArg (fun q => SV.sl 169 0 q) (sm_len _ _)) ?_
 refine rowsc 217 (vals ((al.take (n + 1)).filter (inR d.fr d.to))).length (intF (vals ((al.take (n + 1)).filter (inR d.fr d.to)))) rfl (by rw [hyk, vals_app, List.length_append]; rfl) (fun i c hi hc => by rw [hyk, vals_app]; exact int_one i c hi hc) ?_
 refine cval 17 (.sl 217 0 (vals ((al.take (n + 1)).filter (inR d.fr d.to))).length) rfl (by rw [hyk, vals_app, List.length_append]; rfl) ?_
 refine r0 ?_
 refine sAO 154 233 1 rfl <| sT 129 241 2 rfl <| e1 249 rfl <| tn ?_
 exact again ((n + 1 : Nat)) [0, 1, 2, 3, 4, 5, 6, 169, 217] (show (n + 1) ≤ al.length from (by omega)) (show al.length - (n + 1) < al.length - n from (by omega)) rfl ⟨rfl, rfl, rfl, rfl, rfl, rfl, rfl, trivial⟩ ⟨rfl, rfl, rfl, rfl, rfl, rfl, rfl, rfl, rfl, trivial⟩
 try simp only [cs, ne_eq] at hc43
 refine W_skip <| bn <| tn ?_
 have hnk := filt_n (p := (inR d.fr d.to)) (l := al) (n := n) (by omega) (inR_n (by omega))
 refine chval 7 (smB ((al.take (n + 1)).filter (inR d.fr d.to))) rfl (by rw [hnk]) ?_
 refine chval 8 (intB (vals ((al.take (n + 1)).filter (inR d.fr d.to)))) rfl (by rw [hnk]) ?_
 refine cval 16 (.sl 7 0 ((al.take (n + 1)).filter (inR d.fr d.to)).length) rfl (by rw [hnk]) ?_
 refine cval 17 (.sl 8 0 (vals ((al.take (n + 1)).filter (inR d.fr d.to))).length) rfl (by rw [hnk]) ?_
 refine r0 ?_
 refine sAO 154 145 1 rfl <| sT 129 153 2 rfl <| e1 161 rfl <| tn ?_
 exact again ((n + 1 : Nat)) [0, 1, 2, 3, 4, 5, 6, 7, 8] (show (n + 1) ≤ al.length from (by omega)) (show al.length - (n + 1) < al.length - n from (by omega)) rfl ⟨rfl, rfl, rfl, rfl, rfl, rfl, rfl, trivial⟩ ⟨rfl, rfl, rfl, rfl, rfl, rfl, rfl, rfl, rfl, trivial⟩
 try simp only [cs, ne_eq] at hg43_138
 refine gF 5 true 138 139 7 rfl rfl <| gF 5 true 138 140 8 rfl rfl <| gF 5 true 138 141 9 rfl rfl <| gF 5 true 138 142 10 rfl rfl <| gF 5 true 138 143 11 rfl rfl <| sT 144 137 12 rfl <| e1 145 rfl <| keep [3, 4, 16, 17, 19, 127, 128, 129, 144] rfl ?_
 refine q1 rfl (fun hc43 => ?_) (fun hc43 => ?_)
 exact absurd hc43 (by decide)
 try simp only [cs, ne_eq] at hc43
 refine W_skip <| bn <| tn ?_
 have hnk := filt_n (p := (inR d.fr d.to)) (l := al) (n := n) (by omega) (inR_n (by omega))
 refine chval 7 (smB ((al.take (n + 1)).filter (inR d.fr d.to))) rfl (by rw [hnk]) ?_
 refine chval 8 (intB (vals ((al.take (n + 1)).filter (inR d.fr d.to)))) rfl (by rw [hnk]) ?_
 refine cval 16 (.sl 7 0 ((al.take (n + 1)).filter (inR d.fr d.to)).length) rfl (by rw [hnk]) ?_
 refine cval 17 (.sl 8 0 (vals ((al.take (n + 1)).filter (inR d.fr d.to))).length) rfl (by rw [hnk]) ?_
 refine r0 ?_
 refine sAO 154 145 1 rfl <| sT 129 153 2 rfl <| e1 161 rfl <| tn ?_
 exact again ((n + 1 : Nat)) [0, 1, 2, 3, 4, 5, 6, 7, 8] (show (n + 1) ≤ al.length from (by omega)) (show al.length - (n + 1) < al.length - n from (by omega)) rfl ⟨rfl, rfl, rfl, rfl, rfl, rfl, rfl, trivial⟩ ⟨rfl, rfl, rfl, rfl, rfl, rfl, rfl, rfl, rfl, trivial⟩
 try simp only [cs, ne_eq] at hc41
 refine W_exit <| tx <| tx <| bx <| tn <| W_seq ?_
 have hne : n = al.length := (by omega)
 subst hne
 rw [List.take_length] at *
 refine r1 <| sT 155 17 1 rfl <| sO 156 25 2 rfl <| sO 157 33 3 rfl <| e1 41 rfl <| keep [4, 16, 17, 157] rfl ?_
 refine q1 rfl (fun hc47 => ?_) (fun hc47 => ?_)
 simp at hc47; omega
 try simp only [cs, ne_eq] at hc47
 refine W_skip <| tn ?_
 refine freeze 17 8 (vals (al.filter (inR d.fr d.to))).length rfl rfl (Nat.le_refl _) ?_
 refine cval 17 (intV (vals (al.filter (inR d.fr d.to)))) rfl rfl ?_
 refine r1 <| sT 160 41 1 rfl ?_
 refine c1 (refOf_vals (al.filter (inR d.fr d.to)) (by have := List.length_filter_le (inR d.fr d.to) al; omega) hv) [] [] 161 49 2 rfl rfl rfl rfl rfl rfl rfl rfl Tryd.func21 rfl rfl rfl rfl trivial rfl rfl ?_
 refine sT 162 57 3 rfl <| s0O 65 4 rfl rfl rfl rfl rfl <| e1 73 rfl <| keep [4] rfl ?_
 refine cellW 5 1 (.d (.vec 2 0 (smpF []))) rfl rfl (nil_vec0 2 _) ?_
 refine famShut 1 j [6] (.agg (linC x)) (linB x) rfl (linL_at hj) rfl ⟨rfl, trivial⟩ rfl (fun Z2 => ?_)
 refine chval 1 (.fam Z2 ⟨linL L, [], some (66, 3)⟩) rfl (congrArg (fun q => Blk.fam Z2 ⟨q, [], some (66, 3)⟩) (linL_self hj)) ?_
 refine rename 1 rfl rfl <| rename 2 rfl rfl <| rename 3 rfl rfl <| W_ret <| br <| tr ?_
 exact outN (fdV ⟨0, [], rollL (al.filter (inR d.fr d.to)), 0⟩) (π := [0, 1, 2, 3, 73, 81, 89]) (hout := [some (.cells 49 3 [.sl 4 0 L.length, .sl 5 0 E.length, .sl 6 0 (fileB E).length]), none, none, none, some (.fam Z2 ⟨linL L, [], some (66, 3)⟩), some (evB E), some (u8B (fileB E))]) Tryd.results9 rfl (by trivial) rfl rfl rfl ⟨rfl, rfl, rfl, rfl, trivial⟩ ⟨Z2, rfl, rfl⟩
end Go.Proofs.YtalhangpahffeaaDoor.Nice
namespace Go.Proofs.YtalhangpahffeaaDoor.Nice
open Go Go.Proofs
set_option linter.unusedVariables false
set_option linter.unusedSimpArgs false
set_option maxRecDepth 100000
set_option maxHeartbeats 1000000
theorem fileB_app (A B : List Ev) : fileB (A ++ B) = fileB A ++ fileB B := by simp [fileB]
theorem fileB_take (E : List Ev) (m : Nat) : (fileB E).take (fileB (E.take m)).length = fileB (E.take m) := by
 have h := fileB_app (E.take m) (E.drop m)
 rw [List.take_append_drop] at h
 rw [h, List.take_left]
theorem fileB_le (E : List Ev) (m : Nat) : (fileB (E.take m)).length ≤ (fileB E).length := by
 have h := fileB_app (E.take m) (E.drop m)
 rw [List.take_append_drop] at h
 rw [h, List.length_append]; omega
def EvK (L : List Ln) (e : Ev) : Prop :=
 (∃ nm, e = ⟨1, nm, [], 0⟩ ∧ nm.size ≤ 8 ∧ idxN nm L = none) ∨
 (∃ nm l j x, e = ⟨2, nm, l, 0⟩ ∧ nm.size ≤ 8 ∧ l.length ≤ 8 ∧ sfault l = 0 ∧ idxN nm L = some j ∧ L[j]? = some x ∧ LnIn x ∧ x.op = []) ∨
 (∃ nm kp j x, e = ⟨3, nm, [], kp⟩ ∧ nm.size ≤ 8 ∧ inRange kp ∧ idxN nm L = some j ∧ L[j]? = some x ∧ LnIn x)
theorem againE1 {L : List Ln} {nm : ByteArray} : againE L ⟨1, nm, [], 0⟩ = L ++ [newL nm] := rfl
theorem againE2 {L : List Ln} {nm : ByteArray} {l : List Smp} {j : Nat} {x : Ln} (hk : idxN nm L = some j) (hj : L[j]? = some x) (ho : x.op = []) : againE L ⟨2, nm, l, 0⟩ = L.set j (sealL l x) := by
 have h : againE L ⟨2, nm, l, 0⟩ = L.set j (againL l x) := onL_at hk hj
 rw [h]; unfold againL sealL; rw [ho]
theorem againE3 {L : List Ln} {nm : ByteArray} {kp : Int} {j : Nat} {x : Ln} (hk : idxN nm L = some j) (hj : L[j]? = some x) : againE L ⟨3, nm, [], kp⟩ = L.set j (trimL kp x) := onL_at hk hj
theorem cons_of {L : List Ln} (h : 0 < L.length) : ∃ y Y, L = y :: Y := by
 cases L with
 | nil => simp at h
 | cons y Y => exact ⟨y, Y, rfl⟩
theorem idxN_pos {nm : ByteArray} {L : List Ln} {j : Nat} (h : idxN nm L = some j) : 0 < L.length := by
 cases L with
 | nil => simp [idxN] at h
 | cons y Y => simp
theorem again_pos {L : List Ln} {e : Ev} (h : EvK L e) : 0 < (againE L e).length := by
 rcases h with ⟨nm, rfl, _, _⟩ | ⟨nm, l, j, x, rfl, _, _, _, hk, hj, _, ho⟩ | ⟨nm, kp, j, x, rfl, _, _, hk, hj, _⟩
 · rw [againE1]; simp
 · rw [againE2 hk hj ho]; have := idxN_pos hk; simpa using this
 · rw [againE3 hk hj]; have := idxN_pos hk; simpa using this
theorem replay_pos {bs : List Ev} (hvl : ∀ i, i < bs.length → EvK (replayA (bs.take i)) (bs.getD i default)) : ∀ i, 0 < i → i ≤ bs.length → 0 < (replayA (bs.take i)).length
 | 0, h, _ => by omega
 | i + 1, _, h => by rw [replayA_succ (by omega)]; exact again_pos (hvl i (by omega))
theorem fall_cases {bs : List Ev} {i : Nat} {L1 : List Ln} (hvl : ∀ i, i < bs.length → EvK (replayA (bs.take i)) (bs.getD i default)) (h0 : 0 < bs.length) (hi : i ≤ bs.length) (hL : L1 = replayA (bs.take i)) :
   (i = bs.length ∧ ∃ y Y, L1 = y :: Y) ∨
   (i < bs.length ∧ L1 = [] ∧ ∃ nm, bs.getD i default = ⟨1, nm, [], 0⟩ ∧ replayA (bs.take (i + 1)) = [newL nm]) ∨
   (i < bs.length ∧ ∃ y Y nm, L1 = y :: Y ∧ bs.getD i default = ⟨1, nm, [], 0⟩ ∧ idxN nm L1 = none ∧ replayA (bs.take (i + 1)) = y :: (Y ++ [newL nm])) ∨
   (i < bs.length ∧ ∃ y Y nm l j x y2 Y2, L1 = y :: Y ∧ bs.getD i default = ⟨2, nm, l, 0⟩ ∧ LnIn x ∧ idxN nm L1 = some j ∧ L1[j]? = some x ∧ replayA (bs.take (i + 1)) = y2 :: Y2 ∧ L1.set j (sealL l x) = y2 :: Y2) ∨
   (i < bs.length ∧ ∃ y Y nm kp j x y2 Y2, L1 = y :: Y ∧ bs.getD i default = ⟨3, nm, [], kp⟩ ∧ LnIn x ∧ idxN nm L1 = some j ∧ L1[j]? = some x ∧ replayA (bs.take (i + 1)) = y2 :: Y2 ∧ L1.set j (trimL kp x) = y2 :: Y2) := by
 subst hL
 rcases Nat.lt_or_ge i bs.length with h | h
 · refine .inr ?_
   have hr := replayA_succ h
   rcases hvl i h with ⟨nm, he, _, hk⟩ | ⟨nm, l, j, x, he, _, _, _, hk, hj, hx, ho⟩ | ⟨nm, kp, j, x, he, _, _, hk, hj, hx⟩
   · rw [he, againE1] at hr
     cases hL : replayA (bs.take i) with
     | nil => rw [hL] at hr; exact .inl ⟨h, rfl, nm, he, hr⟩
     | cons y Y => rw [hL] at hr hk; exact .inr (.inl ⟨h, y, Y, nm, rfl, he, hk, hr⟩)
   · rw [he, againE2 hk hj ho] at hr
     obtain ⟨y, Y, e1⟩ := cons_of (idxN_pos hk)
     obtain ⟨y2, Y2, e2⟩ := cons_of (L := (replayA (bs.take i)).set j (sealL l x)) (by have := idxN_pos hk; simpa using this)
     exact .inr (.inr (.inl ⟨h, y, Y, nm, l, j, x, y2, Y2, e1, he, hx, hk, hj, hr.trans e2, e2⟩))
   · rw [he, againE3 hk hj] at hr
     obtain ⟨y, Y, e1⟩ := cons_of (idxN_pos hk)
     obtain ⟨y2, Y2, e2⟩ := cons_of (L := (replayA (bs.take i)).set j (trimL kp x)) (by have := idxN_pos hk; simpa using this)
     exact .inr (.inr (.inr ⟨h, y, Y, nm, kp, j, x, y2, Y2, e1, he, hx, hk, hj, hr.trans e2, e2⟩))
 · have : i = bs.length := by omega
   subst this
   exact .inl ⟨rfl, cons_of (replay_pos hvl _ h0 (Nat.le_refl _))⟩
abbrev lnsV : List Ln → SV
 | [] => .d .nils
 | x :: r => .sl 5 0 (x :: r).length
abbrev lnsB (Z : List Nat) : List Ln → Option Blk
 | [] => none
 | x :: r => some (.fam Z ⟨linL (x :: r), [], some (66, 3)⟩)
theorem take_at {E : List Ev} {n m : Nat} (hn : n < E.length) (h : n < m) : E.take (min (n + 1) m) = E.take (min n m) ++ [E.getD n default] := by
 rw [show min (n + 1) m = n + 1 by omega, show min n m = n by omega, take_succ' hn, getD_eq hn]
theorem end_at {E : List Ev} {n m : Nat} (h : n < m) : endE E n = ((fileB (E.take (min (n + 1) m))).length : Int) := by
 unfold endE; rw [show min (n + 1) m = n + 1 by omega]
theorem dfallN (d : Dd) (hd : DdIn d) (hk1 : d.k = 7) : Spec Tryd.prog GF 9 [.ptr 0 0 0, ddV d] [.cells 49 3 [.d .nils, .sl 1 0 ([] : List Ev).length, .sl 2 0 (fileB ([] : List Ev)).length], evB ([] : List Ev), u8B (fileB ([] : List Ev))] (fun r ho => r = fdV (errF 0) ∧ ho = [some (.cells 49 3 [.d .nils, .sl 3 0 ([] : List Ev).length, .sl 4 0 (fileB ([] : List Ev)).length]), none, none, some (evB ([] : List Ev)), some (u8B (fileB ([] : List Ev)))]) := by
 have E : List Ev := []
 refine start 254 3 Tryd.func9 rfl rfl rfl rfl ?_
 refine r1 <| sT 3 3 1 rfl <| sT 4 11 2 rfl <| e1 19 rfl <| keep [0, 3, 4] rfl <| W_seq <| r1 <| sT 20 19 1 rfl <| sO 21 27 2 rfl <| sO 22 35 3 rfl <| sT 23 43 4 rfl ?_
 refine ask 23 rfl (fun hg1_23 => ?_) (fun hg1_23 => ?_)
 try simp only [cs, ne_eq] at hg1_23
 exfalso; omega
 try simp only [cs, ne_eq] at hg1_23
 refine gT 3 false 23 5 rfl rfl <| sT 24 51 5 rfl <| gT 3 false 23 6 rfl rfl <| sO 25 59 6 rfl <| gT 3 false 23 7 rfl rfl <| sO 26 67 7 rfl <| sT 27 75 8 rfl <| e1 83 rfl <| keep [0, 3, 4, 27] rfl ?_
 refine q1 rfl (fun hc1 => ?_) (fun hc1 => ?_)
 simp at hc1; omega
 try simp only [cs, ne_eq] at hc1
 refine W_skip <| tn <| r1 <| sT 29 83 1 rfl <| sT 30 91 2 rfl <| sO 31 99 3 rfl ?_
 refine c1 (line_nil (Z := []) (fileB ([] : List Ev)) d.nm) [0, 1, 2] [0, 1, 2] 32 107 4 rfl rfl rfl rfl rfl rfl rfl rfl Tryd.func14 rfl rfl rfl rfl ⟨rfl, rfl, rfl, trivial⟩ rfl rfl ?_
 refine sT 5 115 5 rfl <| e1 123 rfl <| keep [0, 3, 4, 5] rfl <| W_seq <| r1 <| sT 33 123 1 rfl <| sO 34 131 2 rfl <| sO 35 139 3 rfl <| e1 147 rfl <| keep [0, 3, 4, 5, 35] rfl ?_
 refine q1 rfl (fun hc4 => ?_) (fun hc4 => ?_)
 simp at hc4; omega
 try simp only [cs, ne_eq] at hc4
 refine W_skip <| tn <| W_seq <| r1 <| sT 69 147 1 rfl <| sO 70 155 2 rfl <| sO 71 163 3 rfl <| e1 171 rfl <| keep [0, 3, 4, 5, 71] rfl ?_
 refine q1 rfl (fun hc15 => ?_) (fun hc15 => ?_)
 try simp only [cs, ne_eq] at hc15
 refine r1 <| sT 7 171 1 rfl <| e1 179 rfl <| keep [0, 3, 4, 7] rfl <| r1 <| sT 8 179 1 rfl <| e1 187 rfl <| keep [0, 3, 4, 7, 8] rfl <| W_seq <| r1 <| sT 72 187 1 rfl <| sT 73 195 2 rfl <| sT 74 203 3 rfl <| sO 75 211 4 rfl <| sO 76 219 5 rfl <| sT 77 227 6 rfl ?_
 refine e1 235 rfl <| keep [0, 3, 4, 7, 8, 75, 76, 77] rfl <| W_block ?_
 refine W_unroll 1 ?_
 refine unr ?_
 refine r1 <| sO 78 235 1 rfl <| e1 243 rfl <| keep [0, 3, 4, 7, 8, 75, 76, 77, 78] rfl <| W_seq ?_
 refine q1 rfl (fun hc19 => ?_) (fun hc19 => ?_)
 exfalso; simp at hc19
 try simp only [cs, ne_eq] at hc19
 refine W_exit <| tx <| tx <| bx <| tn ?_
 refine cfreeze 0 2 2 (fileB ([] : List Ev)).length rfl rfl rfl (Nat.le_refl _) rfl ?_
 refine ghostly 7 60 5 (evF []) rfl ?_
 refine r1 <| sT 93 251 1 rfl <| sT 94 259 2 rfl <| sT 95 267 3 rfl <| sT 96 275 4 rfl <| sO 97 283 5 rfl <| sT 98 291 6 rfl ?_
 refine s1w (u8V (fileB ([] : List Ev))) 99 299 7 rfl rfl rfl rfl rfl rfl ⟨by omega, by omega, by simp⟩ (fun M ρ z h => h) ?_
 refine sV 100 307 8 rfl ⟨trivial, (by decide), (by decide)⟩ ?_
 refine sT 101 315 9 rfl <| sT 102 323 10 rfl <| s0O 331 11 rfl rfl rfl rfl rfl <| e1 339 rfl <| keep [0, 4, 7] rfl <| r1 <| sT 103 339 1 rfl <| sT 104 347 2 rfl <| sT 105 355 3 rfl <| sT 106 363 4 rfl <| s0O 371 5 rfl rfl rfl rfl rfl <| e1 379 rfl <| keep [0, 4, 7] rfl <| r1 <| sT 107 379 1 rfl <| sT 108 387 2 rfl ?_
 refine sT 109 395 3 rfl <| s0O 403 4 rfl rfl rfl rfl rfl <| e1 411 rfl <| keep [0, 4, 7] rfl <| W_seq <| r1 <| sT 110 411 1 rfl <| sO 111 419 2 rfl <| sT 112 427 3 rfl <| e1 435 rfl <| keep [0, 4, 110, 111, 112] rfl <| W_block ?_
 refine W_unroll 1 ?_
 refine unr ?_
 refine r1 <| sO 113 435 1 rfl <| e1 443 rfl <| keep [0, 4, 110, 111, 112, 113] rfl <| W_seq ?_
 refine q1 rfl (fun hc29 => ?_) (fun hc29 => ?_)
 exfalso; simp at hc29
 try simp only [cs, ne_eq] at hc29
 refine W_exit <| tx <| tx <| bx <| tn <| r1 <| sT 120 443 1 rfl <| s0O 451 2 rfl rfl rfl rfl rfl <| e1 459 rfl <| keep [4] rfl ?_
 refine cellW 11 1 (.d (.vec 2 0 (smpF []))) rfl rfl (nil_vec0 2 _) ?_
 refine W_ret <| tr ?_
 exact outN (fdV (errF 0)) (π := [0, 1, 2, 243, 307]) (hout := [some (.cells 49 3 [.d .nils, .sl 3 0 ([] : List Ev).length, .sl 4 0 (fileB ([] : List Ev)).length]), none, none, some (evB ([] : List Ev)), some (u8B (fileB ([] : List Ev)))]) Tryd.results9 rfl (by trivial) rfl rfl rfl ⟨rfl, rfl, rfl, trivial⟩ ⟨rfl, rfl⟩
 simp at hc15; omega
theorem dfall_none {Z : List Nat} (L : List Ln) (h6 : L.length ≤ 100) (d : Dd) (hd : DdIn d) (E : List Ev) (hE : E.length ≤ 200) (hF : (fileB E).length ≤ 800000) (hk1 : d.k = 7) (m : Nat) (hm1 : m ≤ E.length) (hm2 : ∀ i, i < m → endE E i ≤ d.kp) (hm3 : ∀ i, m ≤ i → i < E.length → d.kp < endE E i) (hm0 : m = 0) : Spec Tryd.prog GF 9 [.ptr 0 0 0, ddV d] [.cells 49 3 [.sl 1 0 L.length, .sl 2 0 E.length, .sl 3 0 (fileB E).length], .fam Z ⟨linL L, [], some (66, 3)⟩, evB E, u8B (fileB E)] (fun r ho => r = fdV (errF 0) ∧ ho = [some (.cells 49 3 [.d .nils, .sl 4 0 ([] : List Ev).length, .sl 5 0 (fileB ([] : List Ev)).length]), none, none, none, some (evB ([] : List Ev)), some (u8B (fileB ([] : List Ev)))]) := by
 have hF3 := fileB_take E m
 have hF4 := fileB_le E m
 have hbl : (E.take m).length = m := (by rw [List.length_take]; omega)
 refine start 254 4 Tryd.func9 rfl rfl rfl rfl ?_
 refine r1 <| sT 3 4 1 rfl <| sT 4 12 2 rfl <| e1 20 rfl <| keep [0, 3, 4] rfl <| W_seq <| r1 <| sT 20 20 1 rfl <| sO 21 28 2 rfl <| sO 22 36 3 rfl <| sT 23 44 4 rfl ?_
 refine ask 23 rfl (fun hg1_23 => ?_) (fun hg1_23 => ?_)
 try simp only [cs, ne_eq] at hg1_23
 exfalso; omega
 try simp only [cs, ne_eq] at hg1_23
 refine gT 3 false 23 5 rfl rfl <| sT 24 52 5 rfl <| gT 3 false 23 6 rfl rfl <| sO 25 60 6 rfl <| gT 3 false 23 7 rfl rfl <| sO 26 68 7 rfl <| sT 27 76 8 rfl <| e1 84 rfl <| keep [0, 3, 4, 27] rfl ?_
 refine q1 rfl (fun hc1 => ?_) (fun hc1 => ?_)
 simp at hc1; omega
 try simp only [cs, ne_eq] at hc1
 refine W_skip <| tn <| r1 <| sT 29 84 1 rfl <| sT 30 92 2 rfl <| sO 31 100 3 rfl ?_
 refine c1 (line_blur (fileB E) d.nm L h6) [0, 1, 2, 3] [0, 1, 2, 3] 32 108 4 rfl rfl rfl rfl rfl rfl rfl rfl Tryd.func14 rfl rfl rfl rfl ⟨rfl, rfl, rfl, rfl, trivial⟩ rfl rfl ?_
 refine sT 5 116 5 rfl <| e1 124 rfl <| keep [0, 3, 4, 5] rfl <| W_seq <| r1 <| sT 33 124 1 rfl <| sO 34 132 2 rfl <| sO 35 140 3 rfl <| e1 148 rfl <| keep [0, 3, 4, 5, 35] rfl ?_
 refine q1 rfl (fun hc4 => ?_) (fun hc4 => ?_)
 simp at hc4; omega
 try simp only [cs, ne_eq] at hc4
 refine W_skip <| tn <| W_seq <| r1 <| sT 69 148 1 rfl <| sO 70 156 2 rfl <| sO 71 164 3 rfl <| e1 172 rfl <| keep [0, 3, 4, 5, 71] rfl ?_
 refine q1 rfl (fun hc15 => ?_) (fun hc15 => ?_)
 try simp only [cs, ne_eq] at hc15
 refine r1 <| sT 7 172 1 rfl <| e1 180 rfl <| keep [0, 3, 4, 7] rfl <| r1 <| sT 8 180 1 rfl <| e1 188 rfl <| keep [0, 3, 4, 7, 8] rfl <| W_seq <| r1 <| sT 72 188 1 rfl <| sT 73 196 2 rfl <| sT 74 204 3 rfl <| sO 75 212 4 rfl <| sO 76 220 5 rfl <| sT 77 228 6 rfl ?_
 refine e1 236 rfl <| keep [0, 3, 4, 7, 8, 75, 76, 77] rfl <| W_block ?_
 refine ghostly 7 60 5 (evF []) rfl ?_
 refine loop (α := Nat) 7 (fun n => [(0, .ptr 0 0 0), (3, .ptr 4 0 0), (4, .ptr 5 0 0), (7, .sl 6 0 (E.take (min (n) m)).length), (8, SV.i (fileB (E.take (min (n) m))).length), (75, .sl 2 0 E.length), (76, SV.i E.length), (77, SV.i (n))]) (fun n => [some (.cells 49 3 [.sl 1 0 L.length, .sl 2 0 E.length, .sl 3 0 (fileB E).length]), some (.fam Z ⟨linL L, [], some (66, 3)⟩), some (evB E), some (u8B (fileB E)), some (.cells 43 7 (ddX d)), some (.cells 33 7 [SV.i 0, .d .nils, SV.i 0, SV.i 0, SV.i 0, SV.i 0, SV.i 0]), some (evB (E.take (min (n) m)))]) (fun n => (n) ≤ E.length) (fun n => E.length - (n)) (((0) : Nat)) [0, 1, 2, 3, 4, 12, 236] (fun _ => rfl) (show (0) ≤ E.length from (Nat.zero_le _)) rfl ⟨rfl, rfl, rfl, rfl, rfl, rfl, rfl, rfl, trivial⟩ ⟨rfl, rfl, rfl, rfl, rfl, rfl, rfl, trivial⟩ (fun n hx => ?_)
 show W _ _ _ ⟨tOf [(0, .ptr 0 0 0), (3, .ptr 4 0 0), (4, .ptr 5 0 0), (7, .sl 6 0 (E.take (min n m)).length), (8, SV.i (fileB (E.take (min n m))).length), (75, .sl 2 0 E.length), (76, SV.i E.length), (77, SV.i n)], hOf [some (.cells 49 3 [.sl 1 0 L.length, .sl 2 0 E.length, .sl 3 0 (fileB E).length]), some (.fam Z ⟨linL L, [], some (66, 3)⟩), some (evB E), some (u8B (fileB E)), some (.cells 43 7 (ddX d)), some (.cells 33 7 [SV.i 0, .d .nils, SV.i 0, SV.i 0, SV.i 0, SV.i 0, SV.i 0]), some (evB (E.take (min n m)))], 7⟩
 have hx : n ≤ E.length := hx
 have hlt : (E.take (min n m)).length ≤ n := (by rw [List.length_take]; omega)
 refine r1 <| sO 78 7 1 rfl <| e1 15 rfl <| keep [0, 3, 4, 7, 8, 75, 76, 77, 78] rfl <| W_seq ?_
 refine q1 rfl (fun hc19 => ?_) (fun hc19 => ?_)
 try simp only [cs, ne_eq] at hc19
 refine W_skip <| tn <| W_seq <| W_block <| r1 ?_
 refine sV 79 15 1 rfl ⟨by omega, by omega⟩ ?_
 refine sO 80 23 2 rfl ?_
 refine val 80 (.agg [SV.i (endE E n), SV.i (E.getD n default).k, .d (.val (.string (E.getD n default).nm)), .d (evD (E.getD n default)), SV.i (E.getD n default).kp]) rfl (by simp only [Int.toNat_natCast, Nat.zero_add]; rfl) ?_
 refine sT 10 31 3 rfl <| s0O 39 4 rfl rfl rfl rfl rfl <| e1 47 rfl <| keep [0, 3, 4, 7, 8, 10, 75, 76, 77] rfl <| r1 <| sT 81 47 1 rfl <| sO 82 55 2 rfl <| sT 83 63 3 rfl <| sO 84 71 4 rfl <| sO 85 79 5 rfl <| e1 87 rfl <| keep [0, 3, 4, 7, 8, 10, 75, 76, 77, 85] rfl ?_
 refine q1 rfl (fun hc21 => ?_) (fun hc21 => ?_)
 try simp only [cs, ne_eq] at hc21
 refine r1 <| sT 86 87 1 rfl <| sO 87 95 2 rfl <| sT 88 103 3 rfl ?_
 refine sV 89 111 4 rfl ⟨Nat.le_refl _, trivial, (by show (_ + 1) * 64 ≤ 140737488355328; omega), (by simp only [maxLen]; omega)⟩ ?_
 refine sT 7 119 5 rfl <| e1 127 rfl <| keep [0, 3, 4, 7, 10, 75, 76, 77] rfl ?_
 refine r0 ?_
 refine sT 90 127 1 rfl <| sO 91 135 2 rfl <| sT 8 143 3 rfl <| e1 151 rfl <| bn <| tn ?_
 have hnm : n < m := (by rcases Nat.lt_or_ge n m with h | h; exact h; exact absurd hc21 (by have := hm3 n h (by omega); omega))
 have htk := take_at (E := E) (n := n) (m := m) (by omega) hnm
 have hen := end_at (E := E) (n := n) (m := m) hnm
 refine rowsc 111 (E.take (min (n + 1) m)).length (evF (E.take (min (n + 1) m))) rfl (by rw [htk]; simp) (fun i c hi hc => by rw [htk]; exact ev_cat (e := (E.getD n default)) (by rw [hen, htk]) i c hi hc) ?_
 refine cval 7 (.sl 111 0 (E.take (min (n + 1) m)).length) rfl (by rw [htk]; simp) ?_
 refine cval 8 (SV.i (fileB (E.take (min (n + 1) m))).length) rfl (by rw [← hen]) ?_
 refine r0 ?_
 refine sAO 92 151 1 rfl <| sT 77 159 2 rfl <| e1 167 rfl <| tn ?_
 exact again ((n + 1 : Nat)) [0, 1, 2, 3, 4, 5, 111] (show (n + 1) ≤ E.length from (by omega)) (show E.length - (n + 1) < E.length - n from (by omega)) rfl ⟨rfl, rfl, rfl, rfl, rfl, rfl, rfl, rfl, trivial⟩ ⟨rfl, rfl, rfl, rfl, rfl, rfl, rfl, trivial⟩
 try simp only [cs, ne_eq] at hc21
 refine W_skip <| bn <| tn ?_
 have hnm : min (n + 1) m = min n m := (by rcases Nat.lt_or_ge n m with h | h; exact absurd (hm2 n h) (by omega); omega)
 refine chval 6 (evB (E.take (min (n + 1) m))) rfl (by rw [hnm]) ?_
 refine cval 7 (.sl 6 0 (E.take (min (n + 1) m)).length) rfl (by rw [hnm]) ?_
 refine cval 8 (SV.i (fileB (E.take (min (n + 1) m))).length) rfl (by rw [hnm]) ?_
 refine r0 ?_
 refine sAO 92 87 1 rfl <| sT 77 95 2 rfl <| e1 103 rfl <| tn ?_
 exact again ((n + 1 : Nat)) [0, 1, 2, 3, 4, 5, 6] (show (n + 1) ≤ E.length from (by omega)) (show E.length - (n + 1) < E.length - n from (by omega)) rfl ⟨rfl, rfl, rfl, rfl, rfl, rfl, rfl, rfl, trivial⟩ ⟨rfl, rfl, rfl, rfl, rfl, rfl, rfl, trivial⟩
 try simp only [cs, ne_eq] at hc19
 refine W_exit <| tx <| tx <| bx <| tn ?_
 have hne : n = E.length := (by omega)
 subst hne
 have hmm : min E.length m = m := (by omega)
 rw [hmm]
 refine cfreeze 0 2 3 (fileB E).length rfl rfl rfl (Nat.le_refl _) rfl ?_
 refine r1 <| sT 93 15 1 rfl <| sT 94 23 2 rfl <| sT 95 31 3 rfl <| sT 96 39 4 rfl <| sO 97 47 5 rfl <| sT 98 55 6 rfl ?_
 refine s1w (u8V (fileB (E.take m))) 99 63 7 rfl rfl rfl rfl rfl rfl ⟨by omega, by omega, by omega⟩ (fun M ρ z h => by have := piece0_w (l := fileB E) (n := (fileB (E.take m)).length) (by omega) (by omega) h; rwa [hF3] at this) ?_
 refine sV 100 71 8 rfl ⟨trivial, (by show _ * 1 ≤ 140737488355328; omega), (by simp only [maxLen]; omega)⟩ ?_
 refine sT 101 79 9 rfl <| sT 102 87 10 rfl <| s0O 95 11 rfl rfl rfl rfl rfl <| e1 103 rfl <| keep [0, 4, 7] rfl <| r1 <| sT 103 103 1 rfl <| sT 104 111 2 rfl <| sT 105 119 3 rfl <| sT 106 127 4 rfl <| s0O 135 5 rfl rfl rfl rfl rfl <| e1 143 rfl <| keep [0, 4, 7] rfl <| r1 <| sT 107 143 1 rfl <| sT 108 151 2 rfl ?_
 refine sT 109 159 3 rfl <| s0O 167 4 rfl rfl rfl rfl rfl <| e1 175 rfl <| keep [0, 4, 7] rfl <| W_seq <| r1 <| sT 110 175 1 rfl <| sO 111 183 2 rfl <| sT 112 191 3 rfl <| e1 199 rfl <| keep [0, 4, 110, 111, 112] rfl <| W_block ?_
 refine W_unroll 1 ?_
 refine unr ?_
 refine r1 <| sO 113 199 1 rfl <| e1 207 rfl <| keep [0, 4, 110, 111, 112, 113] rfl <| W_seq ?_
 refine q1 rfl (fun hc29 => ?_) (fun hc29 => ?_)
 exfalso; simp at hc29; omega
 try simp only [cs, ne_eq] at hc29
 refine W_exit <| tx <| tx <| bx <| tn <| r1 <| sT 120 207 1 rfl <| s0O 215 2 rfl rfl rfl rfl rfl <| e1 223 rfl <| keep [4] rfl ?_
 refine cellW 5 1 (.d (.vec 2 0 (smpF []))) rfl rfl (nil_vec0 2 _) ?_
 refine W_ret <| tr ?_
 subst hm0
 exact outN (fdV (errF 0)) (π := [0, 1, 2, 3, 6, 71]) (hout := [some (.cells 49 3 [.d .nils, .sl 4 0 ([] : List Ev).length, .sl 5 0 (fileB ([] : List Ev)).length]), none, none, none, some (evB ([] : List Ev)), some (u8B (fileB ([] : List Ev)))]) Tryd.results9 rfl (by trivial) rfl rfl rfl ⟨rfl, rfl, rfl, trivial⟩ ⟨rfl, rfl⟩
 simp at hc15; omega
theorem dfall_some {Z : List Nat} (L : List Ln) (h6 : L.length ≤ 100) (d : Dd) (hd : DdIn d) (E : List Ev) (hE : E.length ≤ 200) (hF : (fileB E).length ≤ 800000) (hk1 : d.k = 7) (m : Nat) (hm1 : m ≤ E.length) (hm2 : ∀ i, i < m → endE E i ≤ d.kp) (hm3 : ∀ i, m ≤ i → i < E.length → d.kp < endE E i) (hb0 : 0 < (E.take m).length) (hvl : ∀ i, i < (E.take m).length → EvK (replayA ((E.take m).take i)) ((E.take m).getD i default)) (hl6 : ∀ i, i ≤ (E.take m).length → (replayA ((E.take m).take i)).length ≤ 100) : Spec Tryd.prog GF 9 [.ptr 0 0 0, ddV d] [.cells 49 3 [.sl 1 0 L.length, .sl 2 0 E.length, .sl 3 0 (fileB E).length], .fam Z ⟨linL L, [], some (66, 3)⟩, evB E, u8B (fileB E)] (fun r ho => ∃ Z2, r = fdV (errF 0) ∧ ho = [some (.cells 49 3 [.sl 4 0 (replayA (E.take m)).length, .sl 5 0 (E.take m).length, .sl 6 0 (fileB (E.take m)).length]), none, none, none, some (.fam Z2 ⟨linL (replayA (E.take m)), [], some (66, 3)⟩), some (evB (E.take m)), some (u8B (fileB (E.take m)))]) := by
 have hF3 := fileB_take E m
 have hF4 := fileB_le E m
 have hbl : (E.take m).length = m := (by rw [List.length_take]; omega)
 refine start 254 4 Tryd.func9 rfl rfl rfl rfl ?_
 refine r1 <| sT 3 4 1 rfl <| sT 4 12 2 rfl <| e1 20 rfl <| keep [0, 3, 4] rfl <| W_seq <| r1 <| sT 20 20 1 rfl <| sO 21 28 2 rfl <| sO 22 36 3 rfl <| sT 23 44 4 rfl ?_
 refine ask 23 rfl (fun hg1_23 => ?_) (fun hg1_23 => ?_)
 try simp only [cs, ne_eq] at hg1_23
 exfalso; omega
 try simp only [cs, ne_eq] at hg1_23
 refine gT 3 false 23 5 rfl rfl <| sT 24 52 5 rfl <| gT 3 false 23 6 rfl rfl <| sO 25 60 6 rfl <| gT 3 false 23 7 rfl rfl <| sO 26 68 7 rfl <| sT 27 76 8 rfl <| e1 84 rfl <| keep [0, 3, 4, 27] rfl ?_
 refine q1 rfl (fun hc1 => ?_) (fun hc1 => ?_)
 simp at hc1; omega
 try simp only [cs, ne_eq] at hc1
 refine W_skip <| tn <| r1 <| sT 29 84 1 rfl <| sT 30 92 2 rfl <| sO 31 100 3 rfl ?_
 refine c1 (line_blur (fileB E) d.nm L h6) [0, 1, 2, 3] [0, 1, 2, 3] 32 108 4 rfl rfl rfl rfl rfl rfl rfl rfl Tryd.func14 rfl rfl rfl rfl ⟨rfl, rfl, rfl, rfl, trivial⟩ rfl rfl ?_
 refine sT 5 116 5 rfl <| e1 124 rfl <| keep [0, 3, 4, 5] rfl <| W_seq <| r1 <| sT 33 124 1 rfl <| sO 34 132 2 rfl <| sO 35 140 3 rfl <| e1 148 rfl <| keep [0, 3, 4, 5, 35] rfl ?_
 refine q1 rfl (fun hc4 => ?_) (fun hc4 => ?_)
 simp at hc4; omega
 try simp only [cs, ne_eq] at hc4
 refine W_skip <| tn <| W_seq <| r1 <| sT 69 148 1 rfl <| sO 70 156 2 rfl <| sO 71 164 3 rfl <| e1 172 rfl <| keep [0, 3, 4, 5, 71] rfl ?_
 refine q1 rfl (fun hc15 => ?_) (fun hc15 => ?_)
 try simp only [cs, ne_eq] at hc15
 refine r1 <| sT 7 172 1 rfl <| e1 180 rfl <| keep [0, 3, 4, 7] rfl <| r1 <| sT 8 180 1 rfl <| e1 188 rfl <| keep [0, 3, 4, 7, 8] rfl <| W_seq <| r1 <| sT 72 188 1 rfl <| sT 73 196 2 rfl <| sT 74 204 3 rfl <| sO 75 212 4 rfl <| sO 76 220 5 rfl <| sT 77 228 6 rfl ?_
 refine e1 236 rfl <| keep [0, 3, 4, 7, 8, 75, 76, 77] rfl <| W_block ?_
 refine ghostly 7 60 5 (evF []) rfl ?_
 refine loop (α := Nat) 7 (fun n => [(0, .ptr 0 0 0), (3, .ptr 4 0 0), (4, .ptr 5 0 0), (7, .sl 6 0 (E.take (min (n) m)).length), (8, SV.i (fileB (E.take (min (n) m))).length), (75, .sl 2 0 E.length), (76, SV.i E.length), (77, SV.i (n))]) (fun n => [some (.cells 49 3 [.sl 1 0 L.length, .sl 2 0 E.length, .sl 3 0 (fileB E).length]), some (.fam Z ⟨linL L, [], some (66, 3)⟩), some (evB E), some (u8B (fileB E)), some (.cells 43 7 (ddX d)), some (.cells 33 7 [SV.i 0, .d .nils, SV.i 0, SV.i 0, SV.i 0, SV.i 0, SV.i 0]), some (evB (E.take (min (n) m)))]) (fun n => (n) ≤ E.length) (fun n => E.length - (n)) (((0) : Nat)) [0, 1, 2, 3, 4, 12, 236] (fun _ => rfl) (show (0) ≤ E.length from (Nat.zero_le _)) rfl ⟨rfl, rfl, rfl, rfl, rfl, rfl, rfl, rfl, trivial⟩ ⟨rfl, rfl, rfl, rfl, rfl, rfl, rfl, trivial⟩ (fun n hx => ?_)
 show W _ _ _ ⟨tOf [(0, .ptr 0 0 0), (3, .ptr 4 0 0), (4, .ptr 5 0 0), (7, .sl 6 0 (E.take (min n m)).length), (8, SV.i (fileB (E.take (min n m))).length), (75, .sl 2 0 E.length), (76, SV.i E.length), (77, SV.i n)], hOf [some (.cells 49 3 [.sl 1 0 L.length, .sl 2 0 E.length, .sl 3 0 (fileB E).length]), some (.fam Z ⟨linL L, [], some (66, 3)⟩), some (evB E), some (u8B (fileB E)), some (.cells 43 7 (ddX d)), some (.cells 33 7 [SV.i 0, .d .nils, SV.i 0, SV.i 0, SV.i 0, SV.i 0, SV.i 0]), some (evB (E.take (min n m)))], 7⟩
 have hx : n ≤ E.length := hx
 have hlt : (E.take (min n m)).length ≤ n := (by rw [List.length_take]; omega)
 refine r1 <| sO 78 7 1 rfl <| e1 15 rfl <| keep [0, 3, 4, 7, 8, 75, 76, 77, 78] rfl <| W_seq ?_
 refine q1 rfl (fun hc19 => ?_) (fun hc19 => ?_)
 try simp only [cs, ne_eq] at hc19
 refine W_skip <| tn <| W_seq <| W_block <| r1 ?_
 refine sV 79 15 1 rfl ⟨by omega, by omega⟩ ?_
 refine sO 80 23 2 rfl ?_
 refine val 80 (.agg [SV.i (endE E n), SV.i (E.getD n default).k, .d (.val (.string (E.getD n default).nm)), .d (evD (E.getD n default)), SV.i (E.getD n default).kp]) rfl (by simp only [Int.toNat_natCast, Nat.zero_add]; rfl) ?_
 refine sT 10 31 3 rfl <| s0O 39 4 rfl rfl rfl rfl rfl <| e1 47 rfl <| keep [0, 3, 4, 7, 8, 10, 75, 76, 77] rfl <| r1 <| sT 81 47 1 rfl <| sO 82 55 2 rfl <| sT 83 63 3 rfl <| sO 84 71 4 rfl <| sO 85 79 5 rfl <| e1 87 rfl <| keep [0, 3, 4, 7, 8, 10, 75, 76, 77, 85] rfl ?_
 refine q1 rfl (fun hc21 => ?_) (fun hc21 => ?_)
 try simp only [cs, ne_eq] at hc21
 refine r1 <| sT 86 87 1 rfl <| sO 87 95 2 rfl <| sT 88 103 3 rfl ?_
 refine sV 89 111 4 rfl ⟨Nat.le_refl _, trivial, (by show (_ + 1) * 64 ≤ 140737488355328; omega), (by simp only [maxLen]; omega)⟩ ?_
 refine sT 7 119 5 rfl <| e1 127 rfl <| keep [0, 3, 4, 7, 10, 75, 76, 77] rfl ?_
 refine r0 ?_
 refine sT 90 127 1 rfl <| sO 91 135 2 rfl <| sT 8 143 3 rfl <| e1 151 rfl <| bn <| tn ?_
 have hnm : n < m := (by rcases Nat.lt_or_ge n m with h | h; exact h; exact absurd hc21 (by have := hm3 n h (by omega); omega))
 have htk := take_at (E := E) (n := n) (m := m) (by omega) hnm
 have hen := end_at (E := E) (n := n) (m := m) hnm
 refine rowsc 111 (E.take (min (n + 1) m)).length (evF (E.take (min (n + 1) m))) rfl (by rw [htk]; simp) (fun i c hi hc => by rw [htk]; exact ev_cat (e := (E.getD n default)) (by rw [hen, htk]) i c hi hc) ?_
 refine cval 7 (.sl 111 0 (E.take (min (n + 1) m)).length) rfl (by rw [htk]; simp) ?_
 refine cval 8 (SV.i (fileB (E.take (min (n + 1) m))).length) rfl (by rw [← hen]) ?_
 refine r0 ?_
 refine sAO 92 151 1 rfl <| sT 77 159 2 rfl <| e1 167 rfl <| tn ?_
 exact again ((n + 1 : Nat)) [0, 1, 2, 3, 4, 5, 111] (show (n + 1) ≤ E.length from (by omega)) (show E.length - (n + 1) < E.length - n from (by omega)) rfl ⟨rfl, rfl, rfl, rfl, rfl, rfl, rfl, rfl, trivial⟩ ⟨rfl, rfl, rfl, rfl, rfl, rfl, rfl, trivial⟩
 try simp only [cs, ne_eq] at hc21
 refine W_skip <| bn <| tn ?_
 have hnm : min (n + 1) m = min n m := (by rcases Nat.lt_or_ge n m with h | h; exact absurd (hm2 n h) (by omega); omega)
 refine chval 6 (evB (E.take (min (n + 1) m))) rfl (by rw [hnm]) ?_
 refine cval 7 (.sl 6 0 (E.take (min (n + 1) m)).length) rfl (by rw [hnm]) ?_
 refine cval 8 (SV.i (fileB (E.take (min (n + 1) m))).length) rfl (by rw [hnm]) ?_
 refine r0 ?_
 refine sAO 92 87 1 rfl <| sT 77 95 2 rfl <| e1 103 rfl <| tn ?_
 exact again ((n + 1 : Nat)) [0, 1, 2, 3, 4, 5, 6] (show (n + 1) ≤ E.length from (by omega)) (show E.length - (n + 1) < E.length - n from (by omega)) rfl ⟨rfl, rfl, rfl, rfl, rfl, rfl, rfl, rfl, trivial⟩ ⟨rfl, rfl, rfl, rfl, rfl, rfl, rfl, trivial⟩
 try simp only [cs, ne_eq] at hc19
 refine W_exit <| tx <| tx <| bx <| tn ?_
 have hne : n = E.length := (by omega)
 subst hne
 have hmm : min E.length m = m := (by omega)
 rw [hmm]
 refine cfreeze 0 2 3 (fileB E).length rfl rfl rfl (Nat.le_refl _) rfl ?_
 refine r1 <| sT 93 15 1 rfl <| sT 94 23 2 rfl <| sT 95 31 3 rfl <| sT 96 39 4 rfl <| sO 97 47 5 rfl <| sT 98 55 6 rfl ?_
 refine s1w (u8V (fileB (E.take m))) 99 63 7 rfl rfl rfl rfl rfl rfl ⟨by omega, by omega, by omega⟩ (fun M ρ z h => by have := piece0_w (l := fileB E) (n := (fileB (E.take m)).length) (by omega) (by omega) h; rwa [hF3] at this) ?_
 refine sV 100 71 8 rfl ⟨trivial, (by show _ * 1 ≤ 140737488355328; omega), (by simp only [maxLen]; omega)⟩ ?_
 refine sT 101 79 9 rfl <| sT 102 87 10 rfl <| s0O 95 11 rfl rfl rfl rfl rfl <| e1 103 rfl <| keep [0, 4, 7] rfl <| r1 <| sT 103 103 1 rfl <| sT 104 111 2 rfl <| sT 105 119 3 rfl <| sT 106 127 4 rfl <| s0O 135 5 rfl rfl rfl rfl rfl <| e1 143 rfl <| keep [0, 4, 7] rfl <| r1 <| sT 107 143 1 rfl <| sT 108 151 2 rfl ?_
 refine sT 109 159 3 rfl <| s0O 167 4 rfl rfl rfl rfl rfl <| e1 175 rfl <| keep [0, 4, 7] rfl <| W_seq <| r1 <| sT 110 175 1 rfl <| sO 111 183 2 rfl <| sT 112 191 3 rfl <| e1 199 rfl <| keep [0, 4, 110, 111, 112] rfl <| W_block ?_
 refine loop (α := Nat × (List Nat) × (List Ln)) 8 (fun z => [(0, .ptr 0 0 0), (4, .ptr 4 0 0), (110, .sl 6 0 (E.take m).length), (111, SV.i (E.take m).length), (112, SV.i (z.1))]) (fun z => [some (.cells 49 3 [lnsV (z.2.2), .sl 6 0 (E.take m).length, .sl 7 0 (fileB (E.take m)).length]), none, none, none, some (.cells 33 7 [SV.i 0, .d .nils, SV.i 0, SV.i 0, SV.i 0, SV.i 0, SV.i 0]), lnsB (z.2.1) (z.2.2), some (evB (E.take m)), some (u8B (fileB (E.take m)))]) (fun z => (z.1) ≤ (E.take m).length ∧ (z.2.2) = replayA ((E.take m).take (z.1))) (fun z => (E.take m).length - (z.1)) (((0, [], []) : Nat × (List Nat) × (List Ln))) [0, 1, 2, 3, 5, 7, 6, 71] (fun _ => rfl) (show (0) ≤ (E.take m).length ∧ ([]) = replayA ((E.take m).take (0)) from ⟨Nat.zero_le _, rfl⟩) rfl ⟨rfl, rfl, rfl, rfl, rfl, trivial⟩ ⟨rfl, rfl, rfl, rfl, trivial⟩ (fun z hx => ?_)
 obtain ⟨i, Z1, L1⟩ := z
 show W _ _ _ ⟨tOf [(0, .ptr 0 0 0), (4, .ptr 4 0 0), (110, .sl 6 0 (E.take m).length), (111, SV.i (E.take m).length), (112, SV.i i)], hOf [some (.cells 49 3 [lnsV L1, .sl 6 0 (E.take m).length, .sl 7 0 (fileB (E.take m)).length]), none, none, none, some (.cells 33 7 [SV.i 0, .d .nils, SV.i 0, SV.i 0, SV.i 0, SV.i 0, SV.i 0]), lnsB Z1 L1, some (evB (E.take m)), some (u8B (fileB (E.take m)))], 8⟩
 have hx : i ≤ (E.take m).length ∧ L1 = replayA ((E.take m).take i) := hx
 rcases fall_cases hvl hb0 hx.1 hx.2 with ⟨hlt, y, Y, rfl⟩ | ⟨hlt, rfl, nm, he, hr⟩ | ⟨hlt, y, Y, nm, rfl, he, hk, hr⟩ | ⟨hlt, y, Y, nm, l, j, x, y2, Y2, rfl, he, hln, hk, hj, hr, e2⟩ | ⟨hlt, y, Y, nm, kp, j, x, y2, Y2, rfl, he, hln, hk, hj, hr, e2⟩
 have hLe := hx.2
 show W _ _ _ ⟨tOf [(0, .ptr 0 0 0), (4, .ptr 4 0 0), (110, .sl 6 0 (E.take m).length), (111, SV.i (E.take m).length), (112, SV.i i)], hOf [some (.cells 49 3 [.sl 5 0 (y :: Y).length, .sl 6 0 (E.take m).length, .sl 7 0 (fileB (E.take m)).length]), none, none, none, some (.cells 33 7 [SV.i 0, .d .nils, SV.i 0, SV.i 0, SV.i 0, SV.i 0, SV.i 0]), some (.fam Z1 ⟨linL (y :: Y), [], some (66, 3)⟩), some (evB (E.take m)), some (u8B (fileB (E.take m)))], 8⟩
 refine r1 <| sO 113 8 1 rfl <| e1 16 rfl <| keep [0, 4, 110, 111, 112, 113] rfl <| W_seq ?_
 refine q1 rfl (fun hc29 => ?_) (fun hc29 => ?_)
 exfalso; simp at hc29; omega
 try simp only [cs, ne_eq] at hc29
 refine W_exit <| tx <| tx <| bx <| tn <| r1 <| sT 120 16 1 rfl <| s0O 24 2 rfl rfl rfl rfl rfl <| e1 32 rfl <| keep [4] rfl ?_
 refine cellW 4 1 (.d (.vec 2 0 (smpF []))) rfl rfl (nil_vec0 2 _) ?_
 refine W_ret <| tr ?_
 exact outN (fdV (errF 0)) (π := [0, 1, 2, 3, 5, 6, 7]) (hout := [some (.cells 49 3 [.sl 4 0 (y :: Y).length, .sl 5 0 (E.take m).length, .sl 6 0 (fileB (E.take m)).length]), none, none, none, some (.fam Z1 ⟨linL (y :: Y), [], some (66, 3)⟩), some (evB (E.take m)), some (u8B (fileB (E.take m)))]) Tryd.results9 rfl (by trivial) rfl rfl rfl ⟨rfl, rfl, rfl, rfl, trivial⟩ ⟨Z1, rfl, (by have e3 : y :: Y = replayA (E.take m) := (by rw [hLe, hlt, List.take_length]); rw [e3])⟩
 show W _ _ _ ⟨tOf [(0, .ptr 0 0 0), (4, .ptr 4 0 0), (110, .sl 6 0 (E.take m).length), (111, SV.i (E.take m).length), (112, SV.i i)], hOf [some (.cells 49 3 [.d .nils, .sl 6 0 (E.take m).length, .sl 7 0 (fileB (E.take m)).length]), none, none, none, some (.cells 33 7 [SV.i 0, .d .nils, SV.i 0, SV.i 0, SV.i 0, SV.i 0, SV.i 0]), none, some (evB (E.take m)), some (u8B (fileB (E.take m)))], 8⟩
 refine r1 <| sO 113 8 1 rfl <| e1 16 rfl <| keep [0, 4, 110, 111, 112, 113] rfl <| W_seq ?_
 refine q1 rfl (fun hc29 => ?_) (fun hc29 => ?_)
 try simp only [cs, ne_eq] at hc29
 refine W_skip <| tn <| W_seq <| W_block <| r1 ?_
 refine sV 114 16 1 rfl ⟨by omega, by omega⟩ ?_
 refine sO 115 24 2 rfl ?_
 refine val 115 (evArg1 (endE (E.take m) i) nm) rfl (by have ee : ∀ c, evF (E.take m) i c = (evC (endE (E.take m) i) ⟨1, nm, [], 0⟩).getD c .any := (fun c => by unfold evF; rw [he]); simp only [Int.toNat_natCast, Nat.zero_add]; show SV.agg [.d (evF (E.take m) i 0), .d (evF (E.take m) i 1), .d (evF (E.take m) i 2), .d (evF (E.take m) i 3), .d (evF (E.take m) i 4)] = _; rw [ee 0, ee 1, ee 2, ee 3, ee 4]; rfl) ?_
 refine sT 12 32 3 rfl <| s0O 40 4 rfl rfl rfl rfl rfl <| e1 48 rfl <| keep [0, 4, 12, 110, 111, 112] rfl ?_
 refine r0 ?_
 refine sT 116 48 1 rfl <| sO 117 56 2 rfl ?_
 refine cQ (apply1N (fileB (E.take m)) nm (endE (E.take m) i)) [0, 6, 7] 118 64 3 rfl rfl rfl rfl rfl rfl rfl Tryd.func17 rfl rfl rfl ⟨rfl, rfl, rfl, trivial⟩ ?_
 rintro _ _ ⟨Z3, rfl, rfl⟩
 refine val 118 (.tup []) rfl rfl ?_
 refine hval 0 _ rfl (.cells 49 3 [.sl 64 0 [newL nm].length, .sl 6 0 (E.take m).length, .sl 7 0 (fileB (E.take m)).length]) rfl ?_
 refine hval 64 _ rfl (.fam Z3 ⟨linL [newL nm], [], some (66, 3)⟩) rfl ?_
 refine e1 72 rfl <| bn <| tn ?_
 refine r0 ?_
 refine sAO 119 72 1 rfl <| sT 112 80 2 rfl <| e1 88 rfl <| tn ?_
 exact again (((i + 1, Z3, [newL nm]) : Nat × (List Nat) × (List Ln))) [0, 1, 2, 3, 4, 64, 6, 7] (show (i + 1) ≤ (E.take m).length ∧ ([newL nm]) = replayA ((E.take m).take (i + 1)) from ⟨by omega, hr.symm⟩) (show (E.take m).length - (i + 1) < (E.take m).length - i from (by omega)) rfl ⟨rfl, rfl, rfl, rfl, rfl, trivial⟩ ⟨rfl, rfl, rfl, rfl, rfl, trivial⟩
 exfalso; simp at hc29; omega
 have hLe := hx.2
 show W _ _ _ ⟨tOf [(0, .ptr 0 0 0), (4, .ptr 4 0 0), (110, .sl 6 0 (E.take m).length), (111, SV.i (E.take m).length), (112, SV.i i)], hOf [some (.cells 49 3 [.sl 5 0 (y :: Y).length, .sl 6 0 (E.take m).length, .sl 7 0 (fileB (E.take m)).length]), none, none, none, some (.cells 33 7 [SV.i 0, .d .nils, SV.i 0, SV.i 0, SV.i 0, SV.i 0, SV.i 0]), some (.fam Z1 ⟨linL (y :: Y), [], some (66, 3)⟩), some (evB (E.take m)), some (u8B (fileB (E.take m)))], 8⟩
 refine r1 <| sO 113 8 1 rfl <| e1 16 rfl <| keep [0, 4, 110, 111, 112, 113] rfl <| W_seq ?_
 refine q1 rfl (fun hc29 => ?_) (fun hc29 => ?_)
 try simp only [cs, ne_eq] at hc29
 refine W_skip <| tn <| W_seq <| W_block <| r1 ?_
 refine sV 114 16 1 rfl ⟨by omega, by omega⟩ ?_
 refine sO 115 24 2 rfl ?_
 refine val 115 (evArg1 (endE (E.take m) i) nm) rfl (by have ee : ∀ c, evF (E.take m) i c = (evC (endE (E.take m) i) ⟨1, nm, [], 0⟩).getD c .any := (fun c => by unfold evF; rw [he]); simp only [Int.toNat_natCast, Nat.zero_add]; show SV.agg [.d (evF (E.take m) i 0), .d (evF (E.take m) i 1), .d (evF (E.take m) i 2), .d (evF (E.take m) i 3), .d (evF (E.take m) i 4)] = _; rw [ee 0, ee 1, ee 2, ee 3, ee 4]; rfl) ?_
 refine sT 12 32 3 rfl <| s0O 40 4 rfl rfl rfl rfl rfl <| e1 48 rfl <| keep [0, 4, 12, 110, 111, 112] rfl ?_
 refine r0 ?_
 refine sT 116 48 1 rfl <| sO 117 56 2 rfl ?_
 refine c1 (apply1L (fileB (E.take m)) nm (endE (E.take m) i) (y :: Y) (by simp) (by rw [hLe]; exact hl6 i (by omega)) hk) [0, 5, 6, 7] [0, 5, 6, 7, 64] 118 64 3 rfl rfl rfl rfl rfl rfl rfl rfl Tryd.func17 rfl rfl rfl rfl ⟨rfl, rfl, rfl, rfl, trivial⟩ rfl rfl ?_
 refine e1 72 rfl <| bn <| tn ?_
 refine r0 ?_
 refine sAO 119 72 1 rfl <| sT 112 80 2 rfl <| e1 88 rfl <| tn ?_
 exact again (((i + 1, Z1, y :: (Y ++ [newL nm])) : Nat × (List Nat) × (List Ln))) [0, 1, 2, 3, 4, 64, 6, 7] (show (i + 1) ≤ (E.take m).length ∧ (y :: (Y ++ [newL nm])) = replayA ((E.take m).take (i + 1)) from ⟨by omega, hr.symm⟩) (show (E.take m).length - (i + 1) < (E.take m).length - i from (by omega)) rfl ⟨rfl, rfl, rfl, rfl, rfl, trivial⟩ ⟨rfl, rfl, rfl, rfl, rfl, trivial⟩
 exfalso; simp at hc29; omega
 have hLe := hx.2
 show W _ _ _ ⟨tOf [(0, .ptr 0 0 0), (4, .ptr 4 0 0), (110, .sl 6 0 (E.take m).length), (111, SV.i (E.take m).length), (112, SV.i i)], hOf [some (.cells 49 3 [.sl 5 0 (y :: Y).length, .sl 6 0 (E.take m).length, .sl 7 0 (fileB (E.take m)).length]), none, none, none, some (.cells 33 7 [SV.i 0, .d .nils, SV.i 0, SV.i 0, SV.i 0, SV.i 0, SV.i 0]), some (.fam Z1 ⟨linL (y :: Y), [], some (66, 3)⟩), some (evB (E.take m)), some (u8B (fileB (E.take m)))], 8⟩
 refine r1 <| sO 113 8 1 rfl <| e1 16 rfl <| keep [0, 4, 110, 111, 112, 113] rfl <| W_seq ?_
 refine q1 rfl (fun hc29 => ?_) (fun hc29 => ?_)
 try simp only [cs, ne_eq] at hc29
 refine W_skip <| tn <| W_seq <| W_block <| r1 ?_
 refine sV 114 16 1 rfl ⟨by omega, by omega⟩ ?_
 refine sO 115 24 2 rfl ?_
 refine val 115 (evArg2 (endE (E.take m) i) nm l) rfl (by have ee : ∀ c, evF (E.take m) i c = (evC (endE (E.take m) i) ⟨2, nm, l, 0⟩).getD c .any := (fun c => by unfold evF; rw [he]); simp only [Int.toNat_natCast, Nat.zero_add]; show SV.agg [.d (evF (E.take m) i 0), .d (evF (E.take m) i 1), .d (evF (E.take m) i 2), .d (evF (E.take m) i 3), .d (evF (E.take m) i 4)] = _; rw [ee 0, ee 1, ee 2, ee 3, ee 4]; rfl) ?_
 refine sT 12 32 3 rfl <| s0O 40 4 rfl rfl rfl rfl rfl <| e1 48 rfl <| keep [0, 4, 12, 110, 111, 112] rfl ?_
 refine r0 ?_
 refine sT 116 48 1 rfl <| sO 117 56 2 rfl ?_
 refine cQ (apply2 (fileB (E.take m)) nm (endE (E.take m) i) (y :: Y) (by rw [hLe]; exact hl6 i (by omega)) hln hk hj l) [0, 5, 6, 7] 118 64 3 rfl rfl rfl rfl rfl rfl rfl Tryd.func17 rfl rfl rfl ⟨rfl, rfl, rfl, rfl, trivial⟩ ?_
 rintro _ _ ⟨Z3, rfl, rfl⟩
 refine val 118 (.tup []) rfl rfl ?_
 refine hval 0 _ rfl (.cells 49 3 [.sl 5 0 (y2 :: Y2).length, .sl 6 0 (E.take m).length, .sl 7 0 (fileB (E.take m)).length]) (congrArg (fun q : List Ln => Blk.cells 49 3 [.sl 5 0 q.length, .sl 6 0 (E.take m).length, .sl 7 0 (fileB (E.take m)).length]) e2) ?_
 refine hval 5 _ rfl (.fam Z3 ⟨linL (y2 :: Y2), [], some (66, 3)⟩) (congrArg (fun q : List Ln => Blk.fam Z3 ⟨linL q, [], some (66, 3)⟩) e2) ?_
 refine e1 72 rfl <| bn <| tn ?_
 refine r0 ?_
 refine sAO 119 72 1 rfl <| sT 112 80 2 rfl <| e1 88 rfl <| tn ?_
 exact again (((i + 1, Z3, y2 :: Y2) : Nat × (List Nat) × (List Ln))) [0, 1, 2, 3, 4, 5, 6, 7] (show (i + 1) ≤ (E.take m).length ∧ (y2 :: Y2) = replayA ((E.take m).take (i + 1)) from ⟨by omega, hr.symm⟩) (show (E.take m).length - (i + 1) < (E.take m).length - i from (by omega)) rfl ⟨rfl, rfl, rfl, rfl, rfl, trivial⟩ ⟨rfl, rfl, rfl, rfl, rfl, trivial⟩
 exfalso; simp at hc29; omega
 have hLe := hx.2
 show W _ _ _ ⟨tOf [(0, .ptr 0 0 0), (4, .ptr 4 0 0), (110, .sl 6 0 (E.take m).length), (111, SV.i (E.take m).length), (112, SV.i i)], hOf [some (.cells 49 3 [.sl 5 0 (y :: Y).length, .sl 6 0 (E.take m).length, .sl 7 0 (fileB (E.take m)).length]), none, none, none, some (.cells 33 7 [SV.i 0, .d .nils, SV.i 0, SV.i 0, SV.i 0, SV.i 0, SV.i 0]), some (.fam Z1 ⟨linL (y :: Y), [], some (66, 3)⟩), some (evB (E.take m)), some (u8B (fileB (E.take m)))], 8⟩
 refine r1 <| sO 113 8 1 rfl <| e1 16 rfl <| keep [0, 4, 110, 111, 112, 113] rfl <| W_seq ?_
 refine q1 rfl (fun hc29 => ?_) (fun hc29 => ?_)
 try simp only [cs, ne_eq] at hc29
 refine W_skip <| tn <| W_seq <| W_block <| r1 ?_
 refine sV 114 16 1 rfl ⟨by omega, by omega⟩ ?_
 refine sO 115 24 2 rfl ?_
 refine val 115 (evArg3 (endE (E.take m) i) nm kp) rfl (by have ee : ∀ c, evF (E.take m) i c = (evC (endE (E.take m) i) ⟨3, nm, [], kp⟩).getD c .any := (fun c => by unfold evF; rw [he]); simp only [Int.toNat_natCast, Nat.zero_add]; show SV.agg [.d (evF (E.take m) i 0), .d (evF (E.take m) i 1), .d (evF (E.take m) i 2), .d (evF (E.take m) i 3), .d (evF (E.take m) i 4)] = _; rw [ee 0, ee 1, ee 2, ee 3, ee 4]; rfl) ?_
 refine sT 12 32 3 rfl <| s0O 40 4 rfl rfl rfl rfl rfl <| e1 48 rfl <| keep [0, 4, 12, 110, 111, 112] rfl ?_
 refine r0 ?_
 refine sT 116 48 1 rfl <| sO 117 56 2 rfl ?_
 refine cQ (apply3 (fileB (E.take m)) nm (endE (E.take m) i) (y :: Y) (by rw [hLe]; exact hl6 i (by omega)) hln hk hj kp) [0, 5, 6, 7] 118 64 3 rfl rfl rfl rfl rfl rfl rfl Tryd.func17 rfl rfl rfl ⟨rfl, rfl, rfl, rfl, trivial⟩ ?_
 rintro _ _ ⟨Z3, rfl, rfl⟩
 refine val 118 (.tup []) rfl rfl ?_
 refine hval 0 _ rfl (.cells 49 3 [.sl 5 0 (y2 :: Y2).length, .sl 6 0 (E.take m).length, .sl 7 0 (fileB (E.take m)).length]) (congrArg (fun q : List Ln => Blk.cells 49 3 [.sl 5 0 q.length, .sl 6 0 (E.take m).length, .sl 7 0 (fileB (E.take m)).length]) e2) ?_
 refine hval 5 _ rfl (.fam Z3 ⟨linL (y2 :: Y2), [], some (66, 3)⟩) (congrArg (fun q : List Ln => Blk.fam Z3 ⟨linL q, [], some (66, 3)⟩) e2) ?_
 refine e1 72 rfl <| bn <| tn ?_
 refine r0 ?_
 refine sAO 119 72 1 rfl <| sT 112 80 2 rfl <| e1 88 rfl <| tn ?_
 exact again (((i + 1, Z3, y2 :: Y2) : Nat × (List Nat) × (List Ln))) [0, 1, 2, 3, 4, 5, 6, 7] (show (i + 1) ≤ (E.take m).length ∧ (y2 :: Y2) = replayA ((E.take m).take (i + 1)) from ⟨by omega, hr.symm⟩) (show (E.take m).length - (i + 1) < (E.take m).length - i from (by omega)) rfl ⟨rfl, rfl, rfl, rfl, rfl, trivial⟩ ⟨rfl, rfl, rfl, rfl, rfl, trivial⟩
 exfalso; simp at hc29; omega
 simp at hc15; omega
end Go.Proofs.YtalhangpahffeaaDoor.Nice
namespace Go.Proofs.YtalhangpahffeaaDoor.Nice
open Go
set_option linter.unusedVariables false
set_option linter.unusedSimpArgs false
set_option maxRecDepth 100000
set_option maxHeartbeats 1000000
theorem pack_bit {L : List Int} (hL : AllBits L) (j r : Nat) (hr : r < 8) : packByte L j / 2 ^ (7 - r) % 2 = L.getD (8 * j + r) 0 := by
 have h0 := hL.getD (8 * j); have h1 := hL.getD (8 * j + 1); have h2 := hL.getD (8 * j + 2); have h3 := hL.getD (8 * j + 3)
 have h4 := hL.getD (8 * j + 4); have h5 := hL.getD (8 * j + 5); have h6 := hL.getD (8 * j + 6); have h7 := hL.getD (8 * j + 7)
 have e7 : (2 : Int) ^ 7 = 128 := by decide
 have e6 : (2 : Int) ^ 6 = 64 := by decide
 have e5 : (2 : Int) ^ 5 = 32 := by decide
 have e4 : (2 : Int) ^ 4 = 16 := by decide
 have e3 : (2 : Int) ^ 3 = 8 := by decide
 have e2 : (2 : Int) ^ 2 = 4 := by decide
 have e1 : (2 : Int) ^ 1 = 2 := by decide
 have e0 : (2 : Int) ^ 0 = 1 := by decide
 unfold packByte
 rcases (show r = 0 ∨ r = 1 ∨ r = 2 ∨ r = 3 ∨ r = 4 ∨ r = 5 ∨ r = 6 ∨ r = 7 by omega) with rfl | rfl | rfl | rfl | rfl | rfl | rfl | rfl
 · show _ / 2 ^ 7 % 2 = _; rw [e7]; show _ = L.getD (8 * j) 0; omega
 · show _ / 2 ^ 6 % 2 = _; rw [e6]; omega
 · show _ / 2 ^ 5 % 2 = _; rw [e5]; omega
 · show _ / 2 ^ 4 % 2 = _; rw [e4]; omega
 · show _ / 2 ^ 3 % 2 = _; rw [e3]; omega
 · show _ / 2 ^ 2 % 2 = _; rw [e2]; omega
 · show _ / 2 ^ 1 % 2 = _; rw [e1]; omega
 · show _ / 2 ^ 0 % 2 = _; rw [e0]; omega
theorem num_zero {l : List Int} {n : Nat} : ∀ w, numB l n w = 0 ↔ ∀ i, i < w → bitB l (n + i) = 0
 | 0 => ⟨fun _ i h => by omega, fun _ => rfl⟩
 | w + 1 => by
   have h1 := (numB_bd l n w).1
   have h2 := bitB_bd l (n + w)
   have ih := num_zero (l := l) (n := n) w
   constructor
   · intro h i hi
     have h' : 2 * numB l n w + bitB l (n + w) = 0 := h
     by_cases e : i = w
     · subst e; omega
     · exact ih.1 (by omega) i (by omega)
   · intro h
     have a := ih.2 fun i hi => h i (by omega)
     have b := h w (by omega)
     show 2 * numB l n w + bitB l (n + w) = 0
     omega
theorem pack_getD (L : List Int) (j : Nat) (h : j < (pack L).length) : (pack L).getD j 0 = packByte L j := by
 rw [pack_length] at h
 have := pack_get L j
 rw [if_pos (by omega)] at this
 simp [List.getD, this]
theorem bit_pack {L : List Int} (hL : AllBits L) (i : Nat) (h : i < 8 * (pack L).length) : bitB (pack L) i = L.getD i 0 := by
 unfold bitB
 rw [pack_getD L _ (by omega), pack_bit hL _ _ (by omega)]
 congr 1; omega
def At (L : List Int) (n : Nat) (B : List Int) : Prop := ∃ A R, L = A ++ B ++ R ∧ A.length = n
theorem At.len {L B : List Int} {n : Nat} (h : At L n B) : n + B.length ≤ L.length := by
 obtain ⟨A, R, rfl, rfl⟩ := h; simp
theorem At.get {L B : List Int} {n : Nat} (h : At L n B) {i : Nat} (hi : i < B.length) : L.getD (n + i) 0 = B.getD i 0 := by
 obtain ⟨A, R, rfl, rfl⟩ := h
 simp only [List.getD]
 rw [List.append_assoc, List.getElem?_append_right (by omega), show A.length + i - A.length = i by omega, List.getElem?_append_left hi]
theorem At.left {L B C : List Int} {n : Nat} (h : At L n (B ++ C)) : At L n B := by
 obtain ⟨A, R, rfl, rfl⟩ := h
 exact ⟨A, C ++ R, by simp, rfl⟩
theorem At.right {L B C : List Int} {n : Nat} (h : At L n (B ++ C)) : At L (n + B.length) C := by
 obtain ⟨A, R, rfl, rfl⟩ := h
 exact ⟨A ++ B, R, by simp, by simp⟩
theorem pack_len8 (L : List Int) : L.length ≤ 8 * (pack L).length ∧ 8 * (pack L).length < L.length + 8 := by rw [pack_length]; omega
theorem num_at {L : List Int} (hL : AllBits L) {n w : Nat} {x : Int} (h : At L n (bitsOf w x)) (h0 : 0 ≤ x) (h1 : x < 2 ^ w) : numB (pack L) n w = x := by
 have hl := h.len
 rw [bitsOf_length] at hl
 have h8 := (pack_len8 L).1
 have key : ∀ k, k ≤ w → numB (pack L) n k = x / 2 ^ (w - k) := by
   intro k
   induction k with
   | zero => intro _; rw [Nat.sub_zero, Int.ediv_eq_zero_of_lt h0 h1]; rfl
   | succ k ih =>
     intro hk
     have hb : bitB (pack L) (n + k) = x / 2 ^ (w - 1 - k) % 2 := by
       rw [bit_pack hL _ (by omega), h.get (by rw [bitsOf_length]; omega)]
       simp only [List.getD]
       rw [bitsOf_get w k x (by omega)]; rfl
     show 2 * numB (pack L) n k + bitB (pack L) (n + k) = _
     rw [ih (by omega), hb, show w - k = (w - 1 - k) + 1 by omega, Int.pow_succ, ← Int.ediv_ediv_of_nonneg (Int.le_of_lt (Int.pow_pos (by decide))), show w - (k + 1) = w - 1 - k by omega]
     generalize x / 2 ^ (w - 1 - k) = y
     omega
 have := key w (Nat.le_refl _)
 rw [Nat.sub_self, Int.pow_zero, Int.ediv_one] at this
 exact this
theorem unf_fold (v : Int) : zUnf (zFold v) = v := by
 unfold zUnf zFold
 by_cases h : v < 0
 · rw [if_pos h, if_pos (by omega)]; omega
 · rw [if_neg h, if_neg (by omega)]; omega
theorem cls_le (x : Int) : cls x ≤ 4 := by
 unfold cls
 repeat' split
 all_goals omega
theorem cls_bd {x : Int} (h0 : 0 ≤ x) (h1 : x < 576460752303423488) : x < 2 ^ clB (cls x) := by
 unfold cls
 by_cases a : x = 0
 · rw [if_pos a]; subst a; decide
 · rw [if_neg a]
   by_cases b : x < 64
   · rw [if_pos b]; exact b
   · rw [if_neg b]
     by_cases c : x < 4096
     · rw [if_pos c]; exact c
     · rw [if_neg c]
       by_cases d : x < 16777216
       · rw [if_pos d]; exact d
       · rw [if_neg d]; exact h1
theorem fold_bd {v : Int} (h : isSm v) : 0 ≤ zFold v ∧ zFold v < 576460752303423488 := by
 obtain ⟨a, b⟩ := h
 unfold zFold
 split <;> omega
theorem bit_at {L B : List Int} (hL : AllBits L) {n : Nat} (h : At L n B) {i : Nat} (hi : i < B.length) : bitB (pack L) (n + i) = B.getD i 0 := by
 have := h.len
 have h8 := (pack_len8 L).1
 rw [bit_pack hL _ (by omega), h.get hi]
theorem pre_at {L : List Int} (hL : AllBits L) {n q : Nat} (hq : q ≤ 4) (h : At L n (bitsOf (clW q) (clH q))) : zpre (pack L) 4 n 0 = (true, q, n + clW q) := by
 have hl := h.len
 rw [bitsOf_length] at hl
 have h8 := (pack_len8 L).1
 have hb := fun i => bit_at hL h (i := i)
 match q, hq with
 | 0, _ =>
   have b0 : bitB (pack L) n = 0 := hb 0 (by decide)
   have hl' : n + 1 ≤ L.length := hl
   simp only [zpre]
   rw [if_neg (by omega), if_pos b0]; rfl
 | 1, _ =>
   have b0 : bitB (pack L) n = 1 := hb 0 (by decide)
   have b1 : bitB (pack L) (n + 1) = 0 := hb 1 (by decide)
   have hl' : n + 2 ≤ L.length := hl
   simp only [zpre]
   rw [if_neg (by omega), if_neg (by omega), if_neg (by omega), if_pos b1]; rfl
 | 2, _ =>
   have b0 : bitB (pack L) n = 1 := hb 0 (by decide)
   have b1 : bitB (pack L) (n + 1) = 1 := hb 1 (by decide)
   have b2 : bitB (pack L) (n + 1 + 1) = 0 := hb 2 (by decide)
   have hl' : n + 3 ≤ L.length := hl
   simp only [zpre]
   rw [if_neg (by omega), if_neg (by omega), if_neg (by omega), if_neg (by omega), if_neg (by omega), if_pos b2]; rfl
 | 3, _ =>
   have b0 : bitB (pack L) n = 1 := hb 0 (by decide)
   have b1 : bitB (pack L) (n + 1) = 1 := hb 1 (by decide)
   have b2 : bitB (pack L) (n + 1 + 1) = 1 := hb 2 (by decide)
   have b3 : bitB (pack L) (n + 1 + 1 + 1) = 0 := hb 3 (by decide)
   have hl' : n + 4 ≤ L.length := hl
   simp only [zpre]
   rw [if_neg (by omega), if_neg (by omega), if_neg (by omega), if_neg (by omega), if_neg (by omega), if_neg (by omega), if_neg (by omega), if_pos b3]; rfl
 | 4, _ =>
   have b0 : bitB (pack L) n = 1 := hb 0 (by decide)
   have b1 : bitB (pack L) (n + 1) = 1 := hb 1 (by decide)
   have b2 : bitB (pack L) (n + 1 + 1) = 1 := hb 2 (by decide)
   have b3 : bitB (pack L) (n + 1 + 1 + 1) = 1 := hb 3 (by decide)
   have hl' : n + 4 ≤ L.length := hl
   simp only [zpre]
   rw [if_neg (by omega), if_neg (by omega), if_neg (by omega), if_neg (by omega), if_neg (by omega), if_neg (by omega), if_neg (by omega), if_neg (by omega)]; rfl
theorem zgt_at {L : List Int} (hL : AllBits L) {n : Nat} {v : Int} (hv : isSm v) (h : At L n (zbits v)) : zgt (pack L) n = ⟨v, n + (zbits v).length, 0⟩ := by
 have hb := fold_bd hv
 unfold zbits at h
 have h1 := pre_at hL (cls_le _) h.left
 have h2 := h.right
 rw [bitsOf_length] at h2
 have hn := num_at hL h2 hb.1 (cls_bd hb.1 hb.2)
 have hl := h2.len
 rw [bitsOf_length] at hl
 have h8 := (pack_len8 L).1
 rw [zgt_ok h1 (by omega) (by rw [hn]), hn, unf_fold]
 have : (zbits v).length = clW (cls (zFold v)) + clB (cls (zFold v)) := by unfold zbits; rw [List.length_append, bitsOf_length, bitsOf_length]
 rw [this, Nat.add_assoc]
theorem encL_pre (l : List Smp) (k : Nat) : ∀ n, k ≤ n → ∃ R, encL l n = encL l k ++ R
 | 0, h => by obtain rfl : k = 0 := by omega
              exact ⟨[], by simp⟩
 | n + 1, h => by
   rcases Nat.lt_or_ge n k with h1 | h1
   · obtain rfl : k = n + 1 := by omega
     exact ⟨[], by simp⟩
   · obtain ⟨R, hR⟩ := encL_pre l k n h1
     refine ⟨R ++ zbits (cT (lstN l n) (l.getD n default)) ++ zbits (cV (lstN l n) (l.getD n default)), ?_⟩
     show zput (zput (encL l n) _) _ = _
     rw [zput_eq, zput_eq, hR]; simp
theorem sample_c (a : Lst) (s : Smp) : sampleOf a (cT a s) (cV a s) = s := by
 obtain ⟨t, v⟩ := s
 unfold sampleOf cT cV
 by_cases h : a.n = 0
 · rw [if_pos h, if_pos h, if_pos h]
 · rw [if_neg h, if_neg h, if_neg h]
   simp only [Smp.mk.injEq]; constructor <;> omega
theorem lstN_take (l : List Smp) (m : Nat) : ∀ k, k ≤ m → lstN (l.take m) k = lstN l k
 | 0, _ => rfl
 | k + 1, h => by
   show nxt (lstN (l.take m) k) ((l.take m).getD k default) = nxt (lstN l k) (l.getD k default)
   rw [lstN_take l m k (by omega)]
   have : (l.take m).getD k default = l.getD k default := by simp only [List.getD]; rw [List.getElem?_take, if_pos (by omega)]
   rw [this]
theorem dec_at {l : List Smp} (hf : faultTo l l.length = 0) (hl : l.length ≤ 120) : ∀ k, k ≤ l.length → decS (encB l) k = ⟨l.take k, (encL l k).length, 0⟩
 | 0, _ => rfl
 | k + 1, hk => by
   have ih := dec_at hf hl k (by omega)
   have hs := smp_at hf (show k < l.length by omega)
   have hsm : isSm (cT (lstN l k) (l.getD k default)) ∧ isSm (cV (lstN l k) (l.getD k default)) := by
     have hm := nums_sm hf hl
     refine ⟨hm _ ?_, hm _ ?_⟩ <;>
     · unfold nums numsN
       exact List.mem_flatMap.2 ⟨k, List.mem_range.2 (by omega), by simp⟩
   obtain ⟨R, hR⟩ := encL_pre l (k + 1) l.length hk
   have hz : encL l (k + 1) = encL l k ++ zbits (cT (lstN l k) (l.getD k default)) ++ zbits (cV (lstN l k) (l.getD k default)) := by
     show zput (zput (encL l k) _) _ = _
     rw [zput_eq, zput_eq]
   have hat : At (encL l l.length) (encL l k).length (zbits (cT (lstN l k) (l.getD k default)) ++ zbits (cV (lstN l k) (l.getD k default))) := ⟨encL l k, R, by rw [hR, hz]; simp, rfl⟩
   have z1 := zgt_at (encL_bits l l.length) hsm.1 hat.left
   have z2 := zgt_at (encL_bits l l.length) hsm.2 hat.right
   have z1' : zgt (encB l) (encL l k).length = _ := z1
   have z2' : zgt (encB l) ((encL l k).length + (zbits (cT (lstN l k) (l.getD k default))).length) = _ := z2
   have hlf := (faultTo_down (faultTo_le hk hf)).2
   have hlt : lstN (l.take k) k = lstN l k := lstN_take l k k (Nat.le_refl _)
   have hd := dec_e4 ih (by rw [z1']) (by rw [z1']; show (zgt (encB l) ((encL l k).length + _)).e = 0; rw [z2']) (by
     rw [z1']; show lfault _ (sampleOf _ _ (zgt (encB l) ((encL l k).length + _)).x) = 0; rw [z2', hlt]; show lfault _ (sampleOf _ _ _) = 0; rw [sample_c]; exact hlf)
   rw [hd, z1']
   show DecS.mk (_ ++ [sampleOf _ _ (zgt (encB l) ((encL l k).length + _)).x]) (zgt (encB l) ((encL l k).length + _)).at' 0 = _
   rw [z2', hlt]
   show DecS.mk (_ ++ [sampleOf _ (cT _ _) (cV _ _)]) _ 0 = _
   rw [sample_c, hz]
   congr 1
   · rw [List.take_add_one]; simp [List.getD, List.getElem?_eq_getElem (show k < l.length by omega)]
   · simp; omega
theorem round_trip {l : List Smp} (hz : sfault l = 0) : Rt l := by
 obtain ⟨hl, hf⟩ := sf_parts hz
 have hb := encL_bits l l.length
 have h8 := pack_len8 (encL l l.length)
 obtain ⟨R, hR⟩ := encL_pre l 0 l.length (Nat.zero_le _)
 have h0 : encL l 0 = bitsOf 8 l.length := rfl
 have hlen : 8 ≤ (encL l l.length).length := by rw [hR, h0, List.length_append, bitsOf_length]; omega
 have hN : numB (encB l) 0 8 = l.length := num_at hb (x := (l.length : Int)) ⟨[], R, by rw [hR, h0]; rfl, rfl⟩ (by omega) (by show (l.length : Int) < 256; omega)
 have hN' : decN (encB l) = l.length := by unfold decN; rw [hN]; omega
 have hd := dec_at hf hl l.length (Nat.le_refl _)
 rw [List.take_length] at hd
 have hb0 : (encB l).length = (pack (encL l l.length)).length := rfl
 refine ⟨?_, by unfold decM; rw [hN', hd]⟩
 unfold decE
 rw [if_neg (by omega), if_neg (by rw [hN]; omega), hN', hd, if_neg (by simp), if_pos]
 refine ⟨(num_zero _).2 fun i hi => ?_, ?_⟩
 · show bitB (pack (encL l l.length)) _ = 0
   rw [bit_pack hb _ (by show (encL l l.length).length + i < _; rw [hb0] at hi; simp only [] at hi; omega)]
   simp only [List.getD]
   rw [List.getElem?_eq_none (by simp)]; rfl
 · show 8 * (encB l).length - (encL l l.length).length < 8
   omega
end Go.Proofs.YtalhangpahffeaaDoor.Nice
namespace Go.Proofs.YtalhangpahffeaaDoor.Nice
open Go
set_option linter.unusedVariables false
set_option linter.unusedSimpArgs false
set_option maxRecDepth 100000
set_option maxHeartbeats 1000000
theorem fileB_succ {E : List Ev} {i : Nat} (h : i < E.length) : fileB (E.take (i + 1)) = fileB (E.take i) ++ recB (bodyE (E.getD i default)) := by
 rw [take_succ' h, fileB_snoc, getD_eq h]
theorem endE_eq (E : List Ev) (i : Nat) : endE E i = ((fileB (E.take (i + 1))).length : Int) := rfl
theorem fileB_up {E : List Ev} {i : Nat} (h : i < E.length) : (fileB (E.take (i + 1))).length = (fileB (E.take i)).length + (6 + (bodyE (E.getD i default)).length) := by
 rw [fileB_succ h, List.length_append, recB_len]
theorem fileB_mono (E : List Ev) {i j : Nat} (h : i ≤ j) : (fileB (E.take i)).length ≤ (fileB (E.take j)).length := by
 have := fileB_le (E.take j) i
 rwa [List.take_take, Nat.min_eq_left h] at this
theorem cut_ex (E : List Ev) (kp : Int) : ∃ m, m ≤ E.length ∧ (∀ i, i < m → endE E i ≤ kp) ∧ (∀ i, m ≤ i → i < E.length → kp < endE E i) := by
 have key : ∀ n, n ≤ E.length → ∃ m, m ≤ n ∧ (∀ i, i < m → endE E i ≤ kp) ∧ (∀ i, m ≤ i → i < n → kp < endE E i) := by
   intro n
   induction n with
   | zero => intro _; exact ⟨0, Nat.le_refl _, fun i hi => by omega, fun i _ hi => by omega⟩
   | succ n ih =>
     intro hn
     by_cases h : endE E n ≤ kp
     · refine ⟨n + 1, Nat.le_refl _, fun i hi => ?_, fun i h1 h2 => by omega⟩
       have : endE E i ≤ endE E n := by
         have := fileB_mono E (show i + 1 ≤ n + 1 by omega)
         rw [endE_eq, endE_eq]; omega
       omega
     · obtain ⟨m, h1, h2, h3⟩ := ih (by omega)
       refine ⟨m, by omega, h2, fun i a b => ?_⟩
       by_cases e : i = n
       · subst e; omega
       · exact h3 i a (by omega)
 exact key E.length (Nat.le_refl _)
theorem fst_rec {b : List Int} (hb : b.length ≤ 4000) (R : List Int) : fstR (recB b ++ R) = ⟨0, b⟩ := by
 have hs := adO_bd b
 have hN : fstN (recB b ++ R) = b.length := by
   show ((0 * 256 + (b.length : Int) / 256 % 256) * 256 + (b.length : Int) % 256).toNat = _
   omega
 have hB : fstB (recB b ++ R) = b := by
   unfold fstB; rw [hN]
   show (b ++ R).take b.length = b
   exact List.take_left
 have hl : (recB b ++ R).length = 6 + b.length + R.length := by rw [List.length_append, recB_len]
 rw [fst_yes (by omega) (by omega) (by omega), hB]
 rw [hB]
 show adO b = (((0 * 256 + adO b / 16777216 % 256) * 256 + adO b / 65536 % 256) * 256 + adO b / 256 % 256) * 256 + adO b % 256
 omega
theorem fst_cut {b : List Int} (hb : b.length ≤ 4000) (R : List Int) {v : Nat} (hv : v < 6 + b.length) : (fstR ((recB b ++ R).take v)).e ≠ 0 := by
 have hl : (recB b ++ R).length = 6 + b.length + R.length := by rw [List.length_append, recB_len]
 have hl2 : ((recB b ++ R).take v).length = v := by rw [List.length_take]; omega
 by_cases h6 : v < 6
 · rw [fst_short (by omega)]; show ¬ (5 : Int) = 0; decide
 · have hN : fstN ((recB b ++ R).take v) = b.length := by
     unfold fstN
     rw [List.take_take, Nat.min_eq_left (by omega)]
     show ((0 * 256 + (b.length : Int) / 256 % 256) * 256 + (b.length : Int) % 256).toNat = _
     omega
   rw [fst_short2 (by omega) (by omega) (by omega)]; show ¬ (5 : Int) = 0; decide
theorem drop_at {E : List Ev} {i : Nat} (h : i < E.length) : (fileB E).drop (fileB (E.take i)).length = recB (bodyE (E.getD i default)) ++ fileB (E.drop (i + 1)) := by
 have h1 : fileB E = fileB (E.take i) ++ (recB (bodyE (E.getD i default)) ++ fileB (E.drop (i + 1))) := by
   rw [← List.append_assoc, ← fileB_succ h, ← fileB_app, List.take_append_drop]
 have h2 : (fileB E).drop (fileB (E.take i)).length = (fileB (E.take i) ++ (recB (bodyE (E.getD i default)) ++ fileB (E.drop (i + 1)))).drop (fileB (E.take i)).length := by rw [← h1]
 rw [h2, List.drop_left]
theorem opened_cut {E : List Ev} (hE : E.length ≤ 200) (hb : ∀ i, i < E.length → (bodyE (E.getD i default)).length ≤ 4000) {u m : Nat} (hm : m ≤ E.length) (hu : u ≤ (fileB E).length) (h1 : (fileB (E.take m)).length ≤ u) (h2 : m < E.length → u < (fileB (E.take (m + 1))).length) :
   (opened ((fileB E).take u)).L = (E.take m).map bodyE ∧ (opened ((fileB E).take u)).n = (fileB (E.take m)).length := by
 have hT : ((fileB E).take u).length = u := by rw [List.length_take]; omega
 have key : ∀ i, i ≤ m → opened ((fileB E).take u) = opn ((fileB E).take u) (201 - i) (fileB (E.take i)).length ((E.take i).map bodyE) := by
   intro i
   induction i with
   | zero => intro _; rfl
   | succ i ih =>
     intro hi
     have hup := fileB_up (E := E) (i := i) (by omega)
     have hmo := fileB_mono E (show i + 1 ≤ m by omega)
     have hd : ((fileB E).take u).drop (fileB (E.take i)).length = recB (bodyE (E.getD i default)) ++ (fileB (E.drop (i + 1))).take (u - (fileB (E.take i)).length - (recB (bodyE (E.getD i default))).length) := by
       rw [List.drop_take, drop_at (by omega), List.take_append]
       rw [List.take_of_length_le (by rw [recB_len]; omega)]
     have hf := fst_rec (hb i (by omega)) ((fileB (E.drop (i + 1))).take (u - (fileB (E.take i)).length - (recB (bodyE (E.getD i default))).length))
     rw [← hd] at hf
     have hl : ((E.take i).map bodyE).length = i := by rw [List.length_map, List.length_take]; omega
     rw [ih (by omega), opn_go (by omega) (by rw [hT]; omega) (by omega) (by rw [hf]), hf]
     rw [show 201 - i - 1 = 201 - (i + 1) by omega, ← hup]
     congr 1
     rw [take_succ' (by omega), List.map_append, getD_eq (by omega)]; rfl
 rw [key m (Nat.le_refl _)]
 by_cases hum : u = (fileB (E.take m)).length
 · rw [opn_end (by rw [hT]; omega)]; exact ⟨rfl, rfl⟩
 · have hlt : m < E.length := by
     rcases Nat.lt_or_ge m E.length with h | h
     · exact h
     · rw [List.take_of_length_le h] at h1 hum; omega
   have h3 := h2 hlt
   have hup := fileB_up hlt
   have hd : ((fileB E).take u).drop (fileB (E.take m)).length = (recB (bodyE (E.getD m default)) ++ fileB (E.drop (m + 1))).take (u - (fileB (E.take m)).length) := by
     rw [List.drop_take, drop_at hlt]
   have hf := fst_cut (hb m hlt) (fileB (E.drop (m + 1))) (v := u - (fileB (E.take m)).length) (by omega)
   rw [← hd] at hf
   have hl : ((E.take m).map bodyE).length = m := by rw [List.length_map, List.length_take]; omega
   rw [opn_bad (by omega) (by rw [hT]; omega) (by omega) rfl hf]; exact ⟨rfl, rfl⟩
end Go.Proofs.YtalhangpahffeaaDoor.Nice
namespace Go.Proofs.YtalhangpahffeaaDoor.Nice
open Go
set_option linter.unusedVariables false
set_option linter.unusedSimpArgs false
set_option maxRecDepth 100000
set_option maxHeartbeats 1000000
structure LOk (L : List Ln) : Prop where
 n : L.length ≤ 6
 ln : ∀ x, x ∈ L → LnIn x
structure Good (E : List Ev) : Prop where
 n : E.length ≤ 200
 l : ∀ i, i ≤ E.length → LOk (replayA (E.take i))
 e : ∀ i, i < E.length → EvK (replayA (E.take i)) (E.getD i default)
def strip (x : Ln) : Ln := ⟨x.nm, x.ch, []⟩
structure KOk (L : List Ln) (E : List Ev) : Prop where
 g : Good E
 s : L.map strip = replayA E
 ln : ∀ x, x ∈ L → LnIn x
theorem Good.take {E : List Ev} (h : Good E) (m : Nat) : Good (E.take m) := by
 have hl : (E.take m).length = min m E.length := List.length_take
 refine ⟨by have := h.n; omega, fun i hi => ?_, fun i hi => ?_⟩
 · rw [List.take_take]; exact h.l _ (by omega)
 · rw [List.take_take, Nat.min_eq_left (by omega)]
   have : (E.take m).getD i default = E.getD i default := by simp only [List.getD]; rw [List.getElem?_take, if_pos (by omega)]
   rw [this]; exact h.e i (by omega)
theorem replayA_snoc (E : List Ev) (e : Ev) : replayA (E ++ [e]) = againE (replayA E) e := by unfold replayA; rw [List.foldl_append]; rfl
theorem Good.snoc {E : List Ev} (h : Good E) (hn : E.length < 200) {e : Ev} (he : EvK (replayA E) e) (hl : LOk (againE (replayA E) e)) : Good (E ++ [e]) := by
 refine ⟨by rw [List.length_append]; simp; omega, fun i hi => ?_, fun i hi => ?_⟩
 · by_cases h1 : i ≤ E.length
   · rw [List.take_append_of_le_length h1]; exact h.l i h1
   · rw [List.take_of_length_le (by rw [List.length_append] at *; simp at *; omega), replayA_snoc]; exact hl
 · rw [List.length_append] at hi
   simp at hi
   rw [List.take_append_of_le_length (by omega)]
   by_cases h1 : i < E.length
   · have : (E ++ [e]).getD i default = E.getD i default := by simp only [List.getD]; rw [List.getElem?_append_left h1]
     rw [this]; exact h.e i h1
   · obtain rfl : i = E.length := by omega
     rw [show (E ++ [e]).getD E.length default = e by simp [List.getD], List.take_length]; exact he
theorem Good.nil : Good [] := ⟨by simp, fun i hi => by simp [replayA]; exact ⟨by simp, fun x hx => by simp at hx⟩, fun i hi => by simp at hi⟩
theorem KOk.nil : KOk [] [] := ⟨Good.nil, rfl, fun x hx => by simp at hx⟩
theorem onL_op {L : List Ln} {nm : ByteArray} {f : Ln → Ln} (hL : ∀ x, x ∈ L → x.op = []) (hf : ∀ x, (f x).op = x.op) : ∀ x, x ∈ onL L nm f → x.op = [] := by
 intro x hx
 unfold onL at hx
 cases hk : idxN nm L with
 | none => rw [hk] at hx; exact hL x hx
 | some j =>
   rw [hk] at hx
   obtain ⟨y, hy, _⟩ := idxN_some hk
   rcases List.mem_or_eq_of_mem_set hx with h | h
   · exact hL x h
   · rw [h, hf]
     have : L.getD j default = y := by simp [List.getD, hy]
     rw [this]; exact hL y (List.mem_of_getElem? hy)
theorem replay_op (E : List Ev) : ∀ x, x ∈ replayA E → x.op = [] := by
 have key : ∀ (E : List Ev) (L : List Ln), (∀ x, x ∈ L → x.op = []) → ∀ x, x ∈ E.foldl againE L → x.op = [] := by
   intro E
   induction E with
   | nil => intro L hL; exact hL
   | cons e E ih =>
     intro L hL
     refine ih _ ?_
     unfold againE
     split
     · intro x hx
       rcases List.mem_append.1 hx with h | h
       · exact hL x h
       · rw [List.mem_singleton.1 h]
     · split
       · exact onL_op hL fun x => rfl
       · exact onL_op hL fun x => rfl
 exact key E [] (fun x hx => by simp at hx)
theorem strip_self {L : List Ln} (h : ∀ x, x ∈ L → x.op = []) : L.map strip = L := by
 have : ∀ x, x ∈ L → strip x = x := fun x hx => by
   have := h x hx
   obtain ⟨a, b, c⟩ := x
   have : c = [] := this
   subst this; rfl
 calc L.map strip = L.map id := List.map_congr_left this
   _ = L := List.map_id L
theorem idxN_strip (nm : ByteArray) : ∀ L : List Ln, idxN nm (L.map strip) = idxN nm L
 | [] => rfl
 | x :: r => by
   show (if nm = (strip x).nm then some 0 else (idxN nm (r.map strip)).map (· + 1)) = _
   rw [idxN_strip nm r]; rfl
theorem KOk.len {L : List Ln} {E : List Ev} (h : KOk L E) : L.length ≤ 6 := by
 have h1 := (h.g.l E.length (Nat.le_refl _)).n
 rw [List.take_length, ← h.s, List.length_map] at h1
 exact h1
theorem KOk.idx {L : List Ln} {E : List Ev} (h : KOk L E) (nm : ByteArray) : idxN nm (replayA E) = idxN nm L := by rw [← h.s, idxN_strip]
theorem KOk.at {L : List Ln} {E : List Ev} (h : KOk L E) {j : Nat} {x : Ln} (hj : L[j]? = some x) : (replayA E)[j]? = some (strip x) := by rw [← h.s, List.getElem?_map, hj]; rfl
theorem Good.ev {E : List Ev} (h : Good E) {i : Nat} (hi : i < E.length) : (E.getD i default).nm.size ≤ 8 ∧ (E.getD i default).l.length ≤ 8 ∧ EvIn (E.getD i default) := by
 rcases h.e i hi with ⟨nm, he, hn, _⟩ | ⟨nm, l, j, x, he, hn, hl, _⟩ | ⟨nm, kp, j, x, he, hn, _⟩
 · rw [he]; exact ⟨hn, by show (0 : Nat) ≤ 8; decide, hn, by show (0 : Nat) ≤ 120; decide, .inl rfl⟩
 · rw [he]; exact ⟨hn, hl, hn, by show l.length ≤ 120; omega, .inr (.inl rfl)⟩
 · rw [he]; exact ⟨hn, by show (0 : Nat) ≤ 8; decide, hn, by show (0 : Nat) ≤ 120; decide, .inr (.inr rfl)⟩
theorem body_300 {e : Ev} (h1 : e.nm.size ≤ 8) (h2 : e.l.length ≤ 8) : (bodyE e).length ≤ 300 := by
 have hn := nmL_len e.nm
 have h3 := encB_len e.l
 have h4 : (putB 8 (xorL e.kp)).length = 8 := by unfold putB; rw [putT_len]
 rw [body_len]
 unfold tailE
 split
 · omega
 · split
   · simp [hn]; omega
   · simp [hn]; omega
theorem Good.file {E : List Ev} (h : Good E) : ∀ i, i ≤ E.length → (fileB (E.take i)).length ≤ 306 * i ∧ Bytes (fileB (E.take i))
 | 0, _ => ⟨by simp [fileB], by simp only [List.take_zero, fileB]; exact bytes_of (by simp) (fun x hx => by simp at hx)⟩
 | i + 1, hi => by
   obtain ⟨h1, h2⟩ := h.file i (by omega)
   obtain ⟨e1, e2, e3⟩ := h.ev (i := i) (by omega)
   have hb := body_bytes e3
   have h3 := body_300 e1 e2
   have hn := h.n
   have hup := fileB_up (E := E) (i := i) (by omega)
   refine ⟨by omega, ?_⟩
   rw [fileB_succ (by omega)]
   have hr : Bytes (recB (bodyE (E.getD i default))) := by
     unfold recB
     refine bytes_app (bytes_of (by simp [recH]) fun x hx => ?_) hb.1 (by show 6 + _ ≤ _; omega)
     simp only [recH, List.mem_cons, List.mem_nil_iff, or_false] at hx
     omega
   exact bytes_app h2 hr (by rw [recB_len]; omega)
theorem Good.fileN {E : List Ev} (h : Good E) : (fileB E).length ≤ 62000 ∧ Bytes (fileB E) := by
 have := h.file E.length (Nat.le_refl _)
 rw [List.take_length] at this
 have hn := h.n
 exact ⟨by omega, this.2⟩
theorem sf_snoc {l : List Smp} {s : Smp} (h : sfault l = 0) (h8 : l.length < 120) (hb : inB s.t ∧ inB s.v) (hn : 0 < l.length → lastT l < s.t) : sfault (l ++ [s]) = 0 := by
 have hf := (sf_parts h).2
 unfold sfault
 rw [if_neg (by simp; omega), List.length_append, List.length_singleton, faultTo_snoc l s hf]
 unfold lfault
 rw [if_pos hb, if_neg]
 rintro ⟨h1, h2⟩
 rw [lstN_n] at h1
 have h0 : 0 < l.length := by omega
 have := hn h0
 rw [(lstN_t l h0).1] at h2
 unfold lastT at this
 omega
theorem last_all {ch : List (List Smp)} {op : List Smp} (h : 0 < op.length) : lastT (allS ch op) = lastT op := by
 unfold lastT allS
 rw [List.length_append]
 simp only [List.getD]
 rw [List.getElem?_append_right (by omega), show ch.flatten.length + op.length - 1 - ch.flatten.length = op.length - 1 by omega]
theorem set_self {L : List Ln} {j : Nat} {x : Ln} (h : L[j]? = some x) : L.set j x = L := by
 obtain ⟨hj, e⟩ := List.getElem?_eq_some_iff.1 h
 rw [← e, List.set_getElem_self]
theorem mem_set_ln {L : List Ln} {j : Nat} {y : Ln} (hL : ∀ x, x ∈ L → LnIn x) (hy : LnIn y) : ∀ x, x ∈ L.set j y → LnIn x := by
 intro x hx
 rcases List.mem_or_eq_of_mem_set hx with h | h
 · exact hL x h
 · rw [h]; exact hy
inductive StepK (d : Dd) (L : List Ln) (E : List Ev) : Fd → List Ln → List Ev → Prop
 | kind (h : d.k < 1 ∨ 7 < d.k) : StepK d L E (errF 3) L E
 | cform (hk : d.k = 1) (h : nameB d.nm = false) : StepK d L E (errF 4) L E
 | ctwice (hk : d.k = 1) (h : nameB d.nm = true) (j : Nat) (hi : idxN d.nm L = some j) : StepK d L E (errF 7) L E
 | cfull (hk : d.k = 1) (h : nameB d.nm = true) (hi : idxN d.nm L = none) (hf : L.length = 6 ∨ E.length = 200) : StepK d L E (errF 8) L E
 | cnew (hk : d.k = 1) (h : nameB d.nm = true) (hi : idxN d.nm L = none) (h6 : ¬ L.length = 6) (h2 : ¬ E.length = 200) : StepK d L E (errF 0) (L ++ [newL d.nm]) (E ++ [⟨1, d.nm, [], 0⟩])
 | fall (hk : d.k = 7) (m : Nat) (h1 : m ≤ E.length) (h2 : ∀ i, i < m → endE E i ≤ d.kp) (h3 : ∀ i, m ≤ i → i < E.length → d.kp < endE E i) : StepK d L E (errF 0) (replayA (E.take m)) (E.take m)
 | gone (hk : 2 ≤ d.k ∧ d.k ≤ 6) (hi : idxN d.nm L = none) : StepK d L E (errF 6) L E
 | over (hk : d.k = 2) (j : Nat) (x : Ln) (hi : idxN d.nm L = some j) (hj : L[j]? = some x) (hx : x.nm = d.nm) (hb : ¬ (inB d.s.t ∧ inB d.s.v)) : StepK d L E (errF 11) L E
 | old (hk : d.k = 2) (j : Nat) (x : Ln) (hi : idxN d.nm L = some j) (hj : L[j]? = some x) (hx : x.nm = d.nm) (hb : inB d.s.t ∧ inB d.s.v) (h0 : 0 < (allS x.ch x.op).length) (ho : d.s.t ≤ lastT (allS x.ch x.op)) : StepK d L E (errF 9) L E
 | plain (hk : d.k = 2) (j : Nat) (x : Ln) (hi : idxN d.nm L = some j) (hj : L[j]? = some x) (hx : x.nm = d.nm) (hb : inB d.s.t ∧ inB d.s.v) (hn : ¬ (0 < (allS x.ch x.op).length ∧ d.s.t ≤ lastT (allS x.ch x.op))) (h8 : ¬ 8 ≤ x.op.length) : StepK d L E (goodF x.ch.length) (L.set j ⟨x.nm, x.ch, x.op ++ [d.s]⟩) E
 | afull (hk : d.k = 2) (j : Nat) (x : Ln) (hi : idxN d.nm L = some j) (hj : L[j]? = some x) (hx : x.nm = d.nm) (hb : inB d.s.t ∧ inB d.s.v) (hn : ¬ (0 < (allS x.ch x.op).length ∧ d.s.t ≤ lastT (allS x.ch x.op))) (h8 : 8 ≤ x.op.length) (hf : 30 ≤ x.ch.length ∨ 200 ≤ E.length) : StepK d L E (errF 8) L E
 | aseal (hk : d.k = 2) (j : Nat) (x : Ln) (hi : idxN d.nm L = some j) (hj : L[j]? = some x) (hx : x.nm = d.nm) (hb : inB d.s.t ∧ inB d.s.v) (hn : ¬ (0 < (allS x.ch x.op).length ∧ d.s.t ≤ lastT (allS x.ch x.op))) (h8 : 8 ≤ x.op.length) (h30 : ¬ 30 ≤ x.ch.length) (h2 : ¬ 200 ≤ E.length) : StepK d L E (goodF (x.ch ++ [x.op]).length) (L.set j ⟨x.nm, x.ch ++ [x.op], [d.s]⟩) (E ++ [⟨2, x.nm, x.op, 0⟩])
 | snil (hk : d.k = 6) (j : Nat) (x : Ln) (hi : idxN d.nm L = some j) (hj : L[j]? = some x) (hx : x.nm = d.nm) (h0 : x.op.length = 0) : StepK d L E (goodF x.ch.length) L E
 | sfull (hk : d.k = 6) (j : Nat) (x : Ln) (hi : idxN d.nm L = some j) (hj : L[j]? = some x) (hx : x.nm = d.nm) (h0 : ¬ x.op.length = 0) (hf : 30 ≤ x.ch.length ∨ 200 ≤ E.length) : StepK d L E (errF 8) L E
 | syes (hk : d.k = 6) (j : Nat) (x : Ln) (hi : idxN d.nm L = some j) (hj : L[j]? = some x) (hx : x.nm = d.nm) (h0 : ¬ x.op.length = 0) (h30 : ¬ 30 ≤ x.ch.length) (h2 : ¬ 200 ≤ E.length) : StepK d L E (goodF (x.ch ++ [x.op]).length) (L.set j (sealL x.op x)) (E ++ [⟨2, x.nm, x.op, 0⟩])
 | tfull (hk : d.k = 5) (j : Nat) (x : Ln) (hi : idxN d.nm L = some j) (hj : L[j]? = some x) (hx : x.nm = d.nm) (hf : 200 ≤ E.length) : StepK d L E (errF 8) L E
 | tyes (hk : d.k = 5) (j : Nat) (x : Ln) (hi : idxN d.nm L = some j) (hj : L[j]? = some x) (hx : x.nm = d.nm) (hf : ¬ 200 ≤ E.length) : StepK d L E (goodF (x.ch.filter (keepC d.kp)).length) (L.set j (trimL d.kp x)) (E ++ [⟨3, d.nm, [], d.kp⟩])
 | range (hk : d.k = 3) (j : Nat) (x : Ln) (hi : idxN d.nm L = some j) (hj : L[j]? = some x) (hx : x.nm = d.nm) : StepK d L E ⟨0, (allS x.ch x.op).filter (inR d.fr d.to), roll0, 0⟩ L E
 | total (hk : d.k = 4) (j : Nat) (x : Ln) (hi : idxN d.nm L = some j) (hj : L[j]? = some x) (hx : x.nm = d.nm) : StepK d L E ⟨0, [], rollL ((allS x.ch x.op).filter (inR d.fr d.to)), 0⟩ L E
theorem step_ex (d : Dd) (L : List Ln) (E : List Ev) : ∃ q : Fd × List Ln × List Ev, StepK d L E q.1 q.2.1 q.2.2 := by
 by_cases hk : d.k < 1 ∨ 7 < d.k
 · exact ⟨(_, _, _), .kind hk⟩
 by_cases h1 : d.k = 1
 · cases hn : nameB d.nm with
   | false => exact ⟨(_, _, _), .cform h1 hn⟩
   | true =>
     cases hi : idxN d.nm L with
     | some j => exact ⟨(_, _, _), .ctwice h1 hn j hi⟩
     | none =>
       by_cases hf : L.length = 6 ∨ E.length = 200
       · exact ⟨(_, _, _), .cfull h1 hn hi hf⟩
       · exact ⟨(_, _, _), .cnew h1 hn hi (fun e => hf (.inl e)) (fun e => hf (.inr e))⟩
 by_cases h7 : d.k = 7
 · obtain ⟨m, a, b, c⟩ := cut_ex E d.kp
   exact ⟨(_, _, _), .fall h7 m a b c⟩
 cases hi : idxN d.nm L with
 | none => exact ⟨(_, _, _), .gone (by omega) hi⟩
 | some j =>
   obtain ⟨x, hj, hx⟩ := idxN_some hi
   have hks : d.k = 2 ∨ d.k = 3 ∨ d.k = 4 ∨ d.k = 5 ∨ d.k = 6 := by omega
   rcases hks with h | h | h | h | h
   · by_cases hb : inB d.s.t ∧ inB d.s.v
     · by_cases hn : 0 < (allS x.ch x.op).length ∧ d.s.t ≤ lastT (allS x.ch x.op)
       · exact ⟨(_, _, _), .old h j x hi hj hx hb hn.1 hn.2⟩
       · by_cases h8 : 8 ≤ x.op.length
         · by_cases hf : 30 ≤ x.ch.length ∨ 200 ≤ E.length
           · exact ⟨(_, _, _), .afull h j x hi hj hx hb hn h8 hf⟩
           · exact ⟨(_, _, _), .aseal h j x hi hj hx hb hn h8 (fun e => hf (.inl e)) (fun e => hf (.inr e))⟩
         · exact ⟨(_, _, _), .plain h j x hi hj hx hb hn h8⟩
     · exact ⟨(_, _, _), .over h j x hi hj hx hb⟩
   · exact ⟨(_, _, _), .range h j x hi hj hx⟩
   · exact ⟨(_, _, _), .total h j x hi hj hx⟩
   · by_cases hf : 200 ≤ E.length
     · exact ⟨(_, _, _), .tfull h j x hi hj hx hf⟩
     · exact ⟨(_, _, _), .tyes h j x hi hj hx hf⟩
   · by_cases h0 : x.op.length = 0
     · exact ⟨(_, _, _), .snil h j x hi hj hx h0⟩
     · by_cases hf : 30 ≤ x.ch.length ∨ 200 ≤ E.length
       · exact ⟨(_, _, _), .sfull h j x hi hj hx h0 hf⟩
       · exact ⟨(_, _, _), .syes h j x hi hj hx h0 (fun e => hf (.inl e)) (fun e => hf (.inr e))⟩
theorem strip_set {L : List Ln} {j : Nat} {y : Ln} : (L.set j y).map strip = (L.map strip).set j (strip y) := List.map_set ..
theorem LOk.set {L : List Ln} {j : Nat} {y : Ln} (h : LOk L) (hy : LnIn y) : LOk (L.set j y) := ⟨by rw [List.length_set]; exact h.n, mem_set_ln h.ln hy⟩
theorem strip_in {x : Ln} (h : LnIn x) : LnIn (strip x) := ⟨h.nm, h.c, h.ne, by show (0 : Nat) ≤ 8; decide, rfl⟩
theorem seal_in {x : Ln} (h : LnIn x) (h0 : ¬ x.op.length = 0) (h30 : ¬ 30 ≤ x.ch.length) {op : List Smp} (h8 : op.length ≤ 8) (ho : sfault op = 0) : LnIn ⟨x.nm, x.ch ++ [x.op], op⟩ := by
 have hh := h.o
 refine ⟨h.nm, by show (x.ch ++ [x.op]).length ≤ 30; rw [List.length_append]; simp; omega, fun c hc => ?_, h8, ho⟩
 rcases List.mem_append.1 hc with hc | hc
 · exact h.ne c hc
 · rw [List.mem_singleton.1 hc]; exact ⟨by omega, h.o, h.so⟩
theorem trim_in {x : Ln} (h : LnIn x) (kp : Int) : LnIn (trimL kp x) :=
 ⟨h.nm, Nat.le_trans (List.length_filter_le _ _) h.c, fun c hc => h.ne c (List.mem_filter.1 hc).1, h.o, h.so⟩
theorem sealed_ok {L : List Ln} {E : List Ev} (h : KOk L E) {d : Dd} {j : Nat} {x : Ln} (hi : idxN d.nm L = some j) (hj : L[j]? = some x) (hx : x.nm = d.nm) (h0 : ¬ x.op.length = 0) (h30 : ¬ 30 ≤ x.ch.length) (h2 : ¬ 200 ≤ E.length) {op : List Smp} (h8 : op.length ≤ 8) (ho : sfault op = 0) :
   KOk (L.set j ⟨x.nm, x.ch ++ [x.op], op⟩) (E ++ [⟨2, x.nm, x.op, 0⟩]) := by
 have hln := h.ln x (List.mem_of_getElem? hj)
 have hi2 : idxN x.nm (replayA E) = some j := by rw [h.idx, hx]; exact hi
 have hj2 := h.at hj
 have hr : againE (replayA E) ⟨2, x.nm, x.op, 0⟩ = (replayA E).set j (sealL x.op (strip x)) := againE2 hi2 hj2 rfl
 have hE : LOk (replayA E) := by have := h.g.l E.length (Nat.le_refl _); rwa [List.take_length] at this
 have hnew : LnIn (sealL x.op (strip x)) := by
   have := seal_in hln h0 h30 (op := []) (by show (0 : Nat) ≤ 8; decide) rfl
   exact this
 refine ⟨h.g.snoc (by omega) (.inr (.inl ⟨x.nm, x.op, j, strip x, rfl, hln.nm, hln.o, hln.so, hi2, hj2, strip_in hln, rfl⟩)) ?_, ?_, mem_set_ln h.ln (seal_in hln h0 h30 h8 ho)⟩
 · rw [hr]; exact hE.set hnew
 · rw [replayA_snoc, hr, strip_set, h.s]; rfl
theorem step_ok {d : Dd} {L : List Ln} {E : List Ev} (h : KOk L E) (hd : DdIn d) {f : Fd} {L2 : List Ln} {E2 : List Ev} (hs : StepK d L E f L2 E2) : KOk L2 E2 := by
 have hE : LOk (replayA E) := by have := h.g.l E.length (Nat.le_refl _); rwa [List.take_length] at this
 have hEn := h.g.n
 have hLn := h.len
 cases hs with
 | kind | cform | ctwice | cfull | gone | over | old | afull | snil | sfull | tfull | range | total => exact h
 | cnew hk hn hi h6 h2 =>
   have hsz := name_size hn
   have hi2 : idxN d.nm (replayA E) = none := by rw [h.idx]; exact hi
   have hnew : LnIn (newL d.nm) := ⟨hsz.2, by show (0 : Nat) ≤ 30; decide, fun c hc => by simp [newL] at hc, by show (0 : Nat) ≤ 8; decide, rfl⟩
   refine ⟨h.g.snoc (by omega) (.inl ⟨d.nm, rfl, hsz.2, hi2⟩) ?_, ?_, fun x hx => ?_⟩
   · rw [againE1, ← h.s]
     refine ⟨by rw [List.length_append, List.length_map]; simp; omega, fun x hx => ?_⟩
     rcases List.mem_append.1 hx with hx | hx
     · rw [h.s] at hx; exact hE.ln x hx
     · rw [List.mem_singleton.1 hx]; exact hnew
   · rw [replayA_snoc, againE1, List.map_append, h.s]; rfl
   · rcases List.mem_append.1 hx with hx | hx
     · exact h.ln x hx
     · rw [List.mem_singleton.1 hx]; exact hnew
 | fall hk m h1 h2 h3 =>
   have hg := h.g.take m
   exact ⟨hg, strip_self (replay_op _), (h.g.l m h1).ln⟩
 | plain hk j x hi hj hx hb hn h8 =>
   have hln := h.ln x (List.mem_of_getElem? hj)
   have hs2 : sfault (x.op ++ [d.s]) = 0 := sf_snoc hln.so (by omega) hb fun h0 => by
     rw [← last_all (ch := x.ch) h0]
     rcases Int.lt_or_le (lastT (allS x.ch x.op)) d.s.t with h | h
     · exact h
     · exact absurd ⟨by unfold allS; rw [List.length_append]; omega, h⟩ hn
   refine ⟨h.g, ?_, mem_set_ln h.ln ⟨hln.nm, hln.c, hln.ne, by show (x.op ++ [d.s]).length ≤ 8; rw [List.length_append]; simp; omega, hs2⟩⟩
   rw [strip_set, h.s]
   have hj2 := h.at hj
   have e := List.getElem?_eq_some_iff.1 hj2
   obtain ⟨a, b⟩ := e
   show (replayA E).set j (strip x) = _
   exact set_self hj2
 | aseal hk j x hi hj hx hb hn h8 h30 h2 =>
   exact sealed_ok h hi hj hx (by omega) h30 h2 (by show (1 : Nat) ≤ 8; decide) (by
     have := sf_snoc (l := []) (s := d.s) rfl (by decide) hb (fun h => by simp at h)
     exact this)
 | syes hk j x hi hj hx h0 h30 h2 => exact sealed_ok h hi hj hx h0 h30 h2 (by show (0 : Nat) ≤ 8; decide) rfl
 | tyes hk j x hi hj hx hf =>
   have hln := h.ln x (List.mem_of_getElem? hj)
   have hi2 : idxN d.nm (replayA E) = some j := by rw [h.idx]; exact hi
   have hj2 := h.at hj
   have hr : againE (replayA E) ⟨3, d.nm, [], d.kp⟩ = (replayA E).set j (trimL d.kp (strip x)) := againE3 hi2 hj2
   refine ⟨h.g.snoc (by omega) (.inr (.inr ⟨d.nm, d.kp, j, strip x, rfl, by rw [← hx]; exact hln.nm, hd.kp, hi2, hj2, strip_in hln⟩)) ?_, ?_, mem_set_ln h.ln (trim_in hln _)⟩
   · rw [hr]; exact hE.set (trim_in (strip_in hln) _)
   · rw [replayA_snoc, hr, strip_set, h.s]; rfl
noncomputable def stepC (d : Dd) (L : List Ln) (E : List Ev) : Fd × List Ln × List Ev := Classical.choose (step_ex d L E)
theorem stepC_ok (d : Dd) (L : List Ln) (E : List Ev) : StepK d L E (stepC d L E).1 (stepC d L E).2.1 (stepC d L E).2.2 := Classical.choose_spec (step_ex d L E)
noncomputable def runC (ds : List Dd) : Nat → List Fd × List Ln × List Ev
 | 0 => ([], [], [])
 | n + 1 => ((runC ds n).1 ++ [(stepC (ds.getD n default) (runC ds n).2.1 (runC ds n).2.2).1], (stepC (ds.getD n default) (runC ds n).2.1 (runC ds n).2.2).2.1, (stepC (ds.getD n default) (runC ds n).2.1 (runC ds n).2.2).2.2)
theorem runC_ok {ds : List Dd} (hd : ∀ i, i < ds.length → DdIn (ds.getD i default)) : ∀ n, n ≤ ds.length → KOk (runC ds n).2.1 (runC ds n).2.2
 | 0, _ => KOk.nil
 | n + 1, h => step_ok (runC_ok hd n (by omega)) (hd n (by omega)) (stepC_ok _ _ _)
theorem runC_len (ds : List Dd) : ∀ n, (runC ds n).1.length = n
 | 0 => rfl
 | n + 1 => by show ((runC ds n).1 ++ [_]).length = _; rw [List.length_append, runC_len ds n]; rfl
end Go.Proofs.YtalhangpahffeaaDoor.Nice
namespace Go.Proofs.YtalhangpahffeaaDoor.Nice
open Go Go.Proofs
set_option linter.unusedVariables false
set_option linter.unusedSimpArgs false
set_option maxRecDepth 100000
set_option maxHeartbeats 1000000
theorem EvK.at {L : List Ln} {e : Ev} (h : EvK L e) : EvAt L e := by
 rcases h with ⟨nm, rfl, hn, hk⟩ | ⟨nm, l, j, x, rfl, hn, hl, hz, hk, hj, hx, _⟩ | ⟨nm, kp, j, x, rfl, hn, hkp, hk, hj, hx⟩
 · exact ⟨hn, .inl ⟨rfl, hk⟩⟩
 · exact ⟨hn, .inr (.inl ⟨rfl, by show l.length ≤ 120; omega, round_trip hz, j, x, hk, hj, hx⟩)⟩
 · exact ⟨hn, .inr (.inr ⟨rfl, hkp, j, x, hk, hj, hx⟩)⟩
theorem sf_one {s : Smp} : sfault [s] = if inB s.t ∧ inB s.v then 0 else 11 := by
 show (if (0 : Int) = 0 then lfault ⟨0, 0, 0, 0⟩ s else 0) = _
 rw [if_pos rfl]
 unfold lfault
 split
 · rw [if_neg (fun h => by have h1 := h.1; exact absurd h1 (show ¬ (0 : Int) < 0 by decide))]
 · rfl
theorem fileB_1 (E : List Ev) (nm : ByteArray) : fileB (E ++ [⟨1, nm, [], 0⟩]) = fileB E ++ recB ([1] ++ nmL nm) := by rw [fileB_snoc, body1]
theorem fileB_2 (E : List Ev) (nm : ByteArray) (l : List Smp) : fileB (E ++ [⟨2, nm, l, 0⟩]) = fileB E ++ recB (namedL 2 nm ++ encB l) := by rw [fileB_snoc, body2]
theorem fileB_3 (E : List Ev) (nm : ByteArray) (kp : Int) : fileB (E ++ [⟨3, nm, [], kp⟩]) = fileB E ++ recB (namedL 3 nm ++ putB 8 (xorL kp)) := by rw [fileB_snoc, body3]
theorem len_snoc {α : Type} (l : List α) (x : α) : (l ++ [x]).length = l.length + 1 := by simp
def stoOf (L : List Ln) (E : List Ev) : Sto := ⟨L, fileB E, E.length⟩
theorem stoOf_ok {L : List Ln} {E : List Ev} (h : KOk L E) : StoOk (stoOf L E) := ⟨by have := h.g.fileN.1; show (fileB E).length ≤ _; omega, h.g.n, h.len, h.ln⟩
theorem deed_fall {Z : List Nat} (d : Dd) (hd : DdIn d) (s : Sto) (hs : StoOk s) (hk1 : d.k = 7) (hb : Bytes s.F) (u : Nat) (hu : (u : Int) = min (max 0 d.kp) s.F.length) (q : OpenR) (hq : opened (s.F.take u) = q) (bs : List Ev) (hbs : q.L = bs.map bodyE) (hb2 : bs.length ≤ 200) (F2 : List Int) (hn : (F2.length : Int) = q.n) (hn2 : F2.length ≤ u) (hF2 : s.F.take F2.length = F2) (hvl : ∀ i, i < bs.length → EvAt (replayA (bs.take i)) (bs.getD i default)) : Spec Tryd.prog GF 8 [.ptr 0 0 0, ddV d] [.cells 39 3 [.map 1, .sl 2 0 s.F.length, SV.i s.cnt], .fam Z ⟨famL s.L, [], none⟩, u8B s.F] (fun r ho => ∃ Z2, r = fdV (errF 0) ∧ ho = [some (.cells 39 3 [.map 3, .sl 4 0 (Sto.mk (replayA bs) F2 bs.length).F.length, SV.i (Sto.mk (replayA bs) F2 bs.length).cnt]), none, none, some (.fam Z2 ⟨famL (Sto.mk (replayA bs) F2 bs.length).L, [], none⟩), some (u8B (Sto.mk (replayA bs) F2 bs.length).F)]) := by
 refine start 47 3 Tryd.func8 rfl rfl rfl rfl ?_
 refine r1 <| sT 3 3 1 rfl <| sT 4 11 2 rfl <| e1 19 rfl <| keep [0, 3, 4] rfl <| W_seq <| r1 <| sT 7 19 1 rfl <| sO 8 27 2 rfl <| e1 35 rfl <| keep [0, 3, 4, 8] rfl <| W_block <| r1 <| sO 10 35 1 rfl <| sT 9 43 2 rfl <| e1 51 rfl ?_
 refine keep [0, 3, 4, 8, 9] rfl ?_
 refine q1 rfl (fun hc2 => ?_) (fun hc2 => ?_)
 simp at hc2; omega
 try simp only [cs, ne_eq] at hc2
 refine r1 <| sO 17 51 1 rfl <| sT 16 59 2 rfl <| e1 67 rfl <| keep [0, 3, 4, 8, 16] rfl ?_
 refine q1 rfl (fun hc4 => ?_) (fun hc4 => ?_)
 try simp only [cs, ne_eq] at hc4
 refine r1 <| sT 18 67 1 rfl <| sT 19 75 2 rfl <| sO 20 83 3 rfl ?_
 refine cQ (fall_any d.kp s hb hs.F u hu q hq bs hbs hb2 F2 hn hn2 hF2 hvl) [0, 1, 2] 21 91 4 rfl rfl rfl rfl rfl rfl rfl Tryd.func12 rfl rfl rfl ⟨rfl, rfl, rfl, trivial⟩ ?_
 rintro _ _ ⟨Z3, rfl, rfl⟩
 refine val 21 (.tup []) rfl rfl ?_
 refine hval 91 _ rfl (.fam Z3 ⟨famL (replayA bs), [], none⟩) rfl ?_
 refine e1 99 rfl <| keep [4] rfl <| r1 <| sT 22 99 1 rfl <| s0O 107 2 rfl rfl rfl rfl rfl <| e1 115 rfl <| keep [4] rfl ?_
 refine cellW 11 1 (.d (.vec 2 0 (smpF []))) rfl rfl (nil_vec0 2 _) ?_
 refine W_ret <| br <| tr ?_
 exact outN (fdV (errF 0)) (π := [0, 1, 2, 91, 92]) (hout := [some (.cells 39 3 [.map 3, .sl 4 0 (Sto.mk (replayA bs) F2 bs.length).F.length, SV.i (Sto.mk (replayA bs) F2 bs.length).cnt]), none, none, some (.fam Z3 ⟨famL (Sto.mk (replayA bs) F2 bs.length).L, [], none⟩), some (u8B (Sto.mk (replayA bs) F2 bs.length).F)]) Tryd.results8 rfl (by trivial) rfl rfl rfl ⟨rfl, rfl, rfl, trivial⟩ ⟨Z3, rfl, rfl⟩
 simp at hc4; omega
theorem prog_step {Z : List Nat} (d : Dd) (hd : DdIn d) {L : List Ln} {E : List Ev} (h : KOk L E) {f : Fd} {L2 : List Ln} {E2 : List Ev} (hs : StepK d L E f L2 E2) : Spec Tryd.prog GF 8 [.ptr 0 0 0, ddV d] [.cells 39 3 [.map 1, .sl 2 0 (fileB E).length, SV.i E.length], .fam Z ⟨famL L, [], none⟩, u8B (fileB E)] (fun r ho => ∃ Z2, r = fdV f ∧ ho = [some (.cells 39 3 [.map 3, .sl 4 0 (fileB E2).length, SV.i E2.length]), none, none, some (.fam Z2 ⟨famL L2, [], none⟩), some (u8B (fileB E2))]) := by
 have hso := stoOf_ok h
 have hEn := h.g.n
 have hLn := h.len
 -- a deed upon a series
 have found : ∀ (j : Nat) (x : Ln) (hk : 2 ≤ d.k ∧ d.k ≤ 6) (hi : idxN d.nm L = some j) (hj : L[j]? = some x) (hx : x.nm = d.nm) (q : SeR) (hq : ofF d x (fileB E) E.length = (q, f)) (h1 : L.set j ⟨x.nm, q.ch, q.op⟩ = L2) (h2 : q.F = fileB E2) (h3 : q.cnt = E2.length),
     Spec Tryd.prog GF 8 [.ptr 0 0 0, ddV d] [.cells 39 3 [.map 1, .sl 2 0 (fileB E).length, SV.i E.length], .fam Z ⟨famL L, [], none⟩, u8B (fileB E)] (fun r ho => ∃ Z2, r = fdV f ∧ ho = [some (.cells 39 3 [.map 3, .sl 4 0 (fileB E2).length, SV.i E2.length]), none, none, some (.fam Z2 ⟨famL L2, [], none⟩), some (u8B (fileB E2))]) := by
   intro j x hk hi hj hx q hq h1 h2 h3
   have := deed_found (Z := Z) d hd (stoOf L E) hso hk j x hi hj hx q f hq
   obtain ⟨e, ch, op, F, cnt⟩ := q
   have h1 : L.set j ⟨x.nm, ch, op⟩ = L2 := h1
   have h2 : F = fileB E2 := h2
   have h3 : cnt = E2.length := h3
   subst h1 h2 h3
   exact this
 have k2 : d.k = 2 → ∀ (x : Ln), ofF d x (fileB E) E.length = (appF x.nm d.s x.ch x.op (fileB E) E.length, codeF (appF x.nm d.s x.ch x.op (fileB E) E.length).e (appF x.nm d.s x.ch x.op (fileB E) E.length).ch.length) := fun hk x => by unfold ofF; rw [if_pos hk]
 have k6 : d.k = 6 → ∀ (x : Ln), ofF d x (fileB E) E.length = (sealF x.nm x.ch x.op (fileB E) E.length, codeF (sealF x.nm x.ch x.op (fileB E) E.length).e (sealF x.nm x.ch x.op (fileB E) E.length).ch.length) := fun hk x => by unfold ofF; rw [if_neg (by omega), if_pos hk]
 have k5 : d.k = 5 → ∀ (x : Ln), ofF d x (fileB E) E.length = (trimF x.nm d.kp x.ch x.op (fileB E) E.length, codeF (trimF x.nm d.kp x.ch x.op (fileB E) E.length).e (trimF x.nm d.kp x.ch x.op (fileB E) E.length).ch.length) := fun hk x => by unfold ofF; rw [if_neg (by omega), if_neg (by omega), if_pos hk]
 have sfb : inB d.s.t ∧ inB d.s.v → sfault [d.s] = 0 := fun hb => by rw [sf_one, if_pos hb]
 cases hs with
 | kind hk => exact deed_kind (Z := Z) d hd (stoOf L E) hso hk
 | cform hk hn => exact deed_create (Z := Z) d hd (stoOf L E) hso hk _ (create_form hn)
 | ctwice hk hn j hi => exact deed_create (Z := Z) d hd (stoOf L E) hso hk _ (create_twice (s := stoOf L E) hn hi)
 | cfull hk hn hi hf => exact deed_create (Z := Z) d hd (stoOf L E) hso hk _ (create_full (s := stoOf L E) hn hi hf)
 | cnew hk hn hi h6 h2 =>
   have := deed_create (Z := Z) d hd (stoOf L E) hso hk _ (create_yes (s := stoOf L E) hn hi h6 h2)
   rw [fileB_1, len_snoc]
   exact this
 | gone hk hi => exact deed_none (Z := Z) d hd (stoOf L E) hso hk hi
 | fall hk m h1 h2 h3 =>
   have hfn := h.g.fileN
   have hle := fileB_le E m
   have hu : ((min (max 0 d.kp) (fileB E).length).toNat : Int) = min (max 0 d.kp) (fileB E).length := Int.toNat_of_nonneg (by omega)
   generalize hU : (min (max 0 d.kp) (fileB E).length).toNat = u at hu
   have hul : u ≤ (fileB E).length := by omega
   have hmu : (fileB (E.take m)).length ≤ u := by
     by_cases e : m = 0
     · subst e; simp [fileB]
     · have := h2 (m - 1) (by omega)
       rw [endE_eq, show m - 1 + 1 = m by omega] at this
       omega
   have hmu2 : m < E.length → u < (fileB (E.take (m + 1))).length := fun hlt => by
     have := h3 m (Nat.le_refl _) hlt
     rw [endE_eq] at this
     have hup := fileB_up hlt
     omega
   obtain ⟨o1, o2⟩ := opened_cut hEn (fun i hi => (body_bytes (h.g.ev hi).2.2).2) h1 hul hmu hmu2
   have hg := h.g.take m
   have hbl : (E.take m).length = m := by rw [List.length_take]; omega
   exact deed_fall (Z := Z) d hd (stoOf L E) hso hk hfn.2 u hu _ rfl (E.take m) o1 (by omega) (fileB (E.take m)) o2.symm hmu (fileB_take E m) (fun i hi => (hg.e i hi).at)
 | over hk j x hi hj hx hb =>
   have e : sfault [d.s] = 11 := by rw [sf_one, if_neg hb]
   have hne : sfault [d.s] ≠ 0 := by rw [e]; decide
   refine found j x (by omega) hi hj hx ⟨11, x.ch, x.op, fileB E, E.length⟩ ?_ (set_self hj) rfl rfl
   rw [k2 hk, app_over hne, e]; rfl
 | old hk j x hi hj hx hb h0 ho =>
   refine found j x (by omega) hi hj hx ⟨9, x.ch, x.op, fileB E, E.length⟩ ?_ (set_self hj) rfl rfl
   rw [k2 hk, app_old (sfb hb) h0 ho]; rfl
 | plain hk j x hi hj hx hb hn h8 =>
   refine found j x (by omega) hi hj hx ⟨0, x.ch, x.op ++ [d.s], fileB E, E.length⟩ ?_ rfl rfl rfl
   rw [k2 hk, app_yes (sfb hb) hn (by omega)]; rfl
 | afull hk j x hi hj hx hb hn h8 hf =>
   have hln := h.ln x (List.mem_of_getElem? hj)
   have ho := hln.o
   have hc := hln.c
   have hq : sealF x.nm x.ch x.op (fileB E) E.length = _ := seal_full (by omega) (by omega)
   refine found j x (by omega) hi hj hx ⟨8, x.ch, x.op, fileB E, E.length⟩ ?_ (set_self hj) rfl rfl
   rw [k2 hk, app_seal (sfb hb) hn (by omega) hq (show ¬ (8 : Int) = 0 by decide)]; rfl
 | aseal hk j x hi hj hx hb hn h8 h30 h2 =>
   have hln := h.ln x (List.mem_of_getElem? hj)
   have ho := hln.o
   have hq : sealF x.nm x.ch x.op (fileB E) E.length = _ := seal_yes (by omega) (by omega) (by omega)
   refine found j x (by omega) hi hj hx ⟨0, x.ch ++ [x.op], [] ++ [d.s], fileB E ++ recB (namedL 2 x.nm ++ encB x.op), E.length + 1⟩ ?_ rfl (fileB_2 E x.nm x.op).symm (len_snoc _ _).symm
   rw [k2 hk, app_sealed (sfb hb) hn (by omega) hq rfl]; rfl
 | snil hk j x hi hj hx h0 =>
   refine found j x (by omega) hi hj hx ⟨0, x.ch, x.op, fileB E, E.length⟩ ?_ (set_self hj) rfl rfl
   rw [k6 hk, seal_nil h0]; rfl
 | sfull hk j x hi hj hx h0 hf =>
   have hln := h.ln x (List.mem_of_getElem? hj)
   have hc := hln.c
   refine found j x (by omega) hi hj hx ⟨8, x.ch, x.op, fileB E, E.length⟩ ?_ (set_self hj) rfl rfl
   rw [k6 hk, seal_full h0 (by omega)]; rfl
 | syes hk j x hi hj hx h0 h30 h2 =>
   refine found j x (by omega) hi hj hx ⟨0, x.ch ++ [x.op], [], fileB E ++ recB (namedL 2 x.nm ++ encB x.op), E.length + 1⟩ ?_ rfl (fileB_2 E x.nm x.op).symm (len_snoc _ _).symm
   rw [k6 hk, seal_yes h0 (by omega) (by omega)]; rfl
 | tfull hk j x hi hj hx hf =>
   refine found j x (by omega) hi hj hx ⟨8, x.ch, x.op, fileB E, E.length⟩ ?_ (set_self hj) rfl rfl
   rw [k5 hk]; unfold trimF; rw [if_pos (by omega)]; rfl
 | tyes hk j x hi hj hx hf =>
   refine found j x (by omega) hi hj hx ⟨0, x.ch.filter (keepC d.kp), x.op, fileB E ++ recB (namedL 3 x.nm ++ putB 8 (xorL d.kp)), E.length + 1⟩ ?_ rfl (by rw [hx]; exact (fileB_3 E d.nm d.kp).symm) (len_snoc _ _).symm
   rw [k5 hk]; unfold trimF; rw [if_neg (by omega)]; rfl
 | range hk j x hi hj hx =>
   refine found j x (by omega) hi hj hx ⟨0, x.ch, x.op, fileB E, E.length⟩ ?_ (set_self hj) rfl rfl
   unfold ofF; rw [if_neg (by omega), if_neg (by omega), if_neg (by omega), if_pos hk]
 | total hk j x hi hj hx =>
   refine found j x (by omega) hi hj hx ⟨0, x.ch, x.op, fileB E, E.length⟩ ?_ (set_self hj) rfl rfl
   unfold ofF; rw [if_neg (by omega), if_neg (by omega), if_neg (by omega), if_neg (by omega)]
end Go.Proofs.YtalhangpahffeaaDoor.Nice
namespace Go.Proofs.YtalhangpahffeaaDoor.Nice
open Go Go.Proofs
set_option linter.unusedVariables false
set_option linter.unusedSimpArgs false
set_option maxRecDepth 100000
set_option maxHeartbeats 1000000
def ddC (d : Dd) : List D := [.val (.int .i64 d.k), .val (.string d.nm), .val (.int .i64 d.s.t), .val (.int .i64 d.s.v), .val (.int .i64 d.fr), .val (.int .i64 d.to), .val (.int .i64 d.kp)]
def ddF (ds : List Dd) : Nat → Nat → D := fun i c => (ddC (ds.getD i default)).getD c .any
def ddsV (ds : List Dd) : SV := .d (.vec 7 ds.length (ddF ds))
def fdC (f : Fd) : List D := [.val (.int .i64 f.code), .vec 2 f.l.length (smpF f.l), .val (.int .i64 f.ro.c), .val (.int .i64 f.ro.lo), .val (.int .i64 f.ro.hi), .val (.int .i64 f.ro.s), .val (.int .i64 f.n)]
def fdF (fs : List Fd) : Nat → Nat → D := fun i c => (fdC (fs.getD i (errF 0))).getD c .any
def fdsB (fs : List Fd) : Blk := .rows 33 7 fs.length (fdF fs)
def fdsV (fs : List Fd) : SV := .d (.vec 7 fs.length (fdF fs))
theorem fd_cat (fs : List Fd) (f : Fd) (i c : Nat) (hi : i < fs.length + 1) (hc : c < 7) : catR (fdF fs) fs.length (litR 7 (fdC f)) i c = fdF (fs ++ [f]) i c := by
 unfold catR
 by_cases hl : i < fs.length
 · rw [if_pos hl]
   unfold fdF
   congr 2
   simp [List.getD, List.getElem?_append_left hl]
 · rw [if_neg hl]
   have : i = fs.length := by omega
   subst this
   unfold fdF litR
   rw [Nat.sub_self, Nat.zero_mul, Nat.zero_add, show (fs ++ [f]).getD fs.length (errF 0) = f by simp [List.getD]]
noncomputable def fdR (ds : List Dd) (n : Nat) : List Fd := (runC ds n).1
noncomputable def lnR (ds : List Dd) (n : Nat) : List Ln := (runC ds n).2.1
noncomputable def evR (ds : List Dd) (n : Nat) : List Ev := (runC ds n).2.2
noncomputable def fR (ds : List Dd) (n : Nat) : Fd := (stepC (ds.getD n default) (lnR ds n) (evR ds n)).1
theorem run_step (ds : List Dd) (n : Nat) : StepK (ds.getD n default) (lnR ds n) (evR ds n) (fR ds n) (lnR ds (n + 1)) (evR ds (n + 1)) := stepC_ok _ _ _
theorem fdR_succ (ds : List Dd) (n : Nat) : fdR ds (n + 1) = fdR ds n ++ [fR ds n] := rfl
theorem fdR_len (ds : List Dd) (n : Nat) : (fdR ds n).length = n := runC_len ds n
theorem run_at {ds : List Dd} (hd : ∀ i, i < ds.length → DdIn (ds.getD i default)) {n : Nat} (h : n ≤ ds.length) : KOk (lnR ds n) (evR ds n) := runC_ok hd n h
noncomputable def outF (ds : List Dd) : List Fd := if 300 < ds.length then [] else fdR ds ds.length
noncomputable def outB (ds : List Dd) : List Int := if 300 < ds.length then [] else fileB (evR ds ds.length)
def outE (ds : List Dd) : Int := if 300 < ds.length then 1 else 0
theorem play_big (ds : List Dd) (hl : ds.length ≤ 9223372036854775807) (hb : 300 < ds.length) : Spec Tryd.prog GF 4 [ddsV ds] [] (fun r ho => r = SV.tup [fdsV (outF ds), u8V (outB ds), SV.i (outE ds)] ∧ ho = []) := by
 have he1 : outF ds = [] := if_pos hb
 have he2 : outB ds = [] := if_pos hb
 have he3 : outE ds = 1 := if_pos hb
 rw [he1, he2, he3]
 refine start 33 0 Tryd.func4 rfl rfl rfl rfl ?_
 refine r1 <| sT 2 0 1 rfl <| sT 3 8 2 rfl <| sT 4 16 3 rfl <| e1 24 rfl <| keep [0] rfl <| W_seq <| r1 <| sT 9 24 1 rfl <| sO 10 32 2 rfl <| sO 11 40 3 rfl <| e1 48 rfl <| keep [0, 11] rfl ?_
 refine q1 rfl (fun hc1 => ?_) (fun hc1 => ?_)
 try simp only [cs, ne_eq] at hc1
 refine r1 <| sT 2 48 1 rfl <| sT 3 56 2 rfl <| sT 4 64 3 rfl <| e1 72 rfl <| keep [2, 3, 4] rfl ?_
 refine slotc 2 (fdsV []) rfl (nil_vec0 7 _) ?_
 refine slotc 3 (u8V []) rfl (nil_vec0 1 _) ?_
 refine W_ret <| tr ?_
 exact out3 2 3 4 (fdsV []) (u8V []) (SV.i 1) (π := []) (hout := []) Tryd.results4 rfl rfl rfl rfl rfl rfl rfl rfl trivial ⟨rfl, rfl⟩
 simp at hc1; omega
theorem play_ok (ds : List Dd) (hd : ∀ i, i < ds.length → DdIn (ds.getD i default)) (hs : ds.length ≤ 300) : Spec Tryd.prog GF 4 [ddsV ds] [] (fun r ho => r = SV.tup [fdsV (outF ds), u8V (outB ds), SV.i (outE ds)] ∧ ho = []) := by
 have he1 : outF ds = fdR ds ds.length := if_neg (by omega)
 have he2 : outB ds = fileB (evR ds ds.length) := if_neg (by omega)
 have he3 : outE ds = 0 := if_neg (by omega)
 rw [he1, he2, he3]
 refine start 33 0 Tryd.func4 rfl rfl rfl rfl ?_
 refine r1 <| sT 2 0 1 rfl <| sT 3 8 2 rfl <| sT 4 16 3 rfl <| e1 24 rfl <| keep [0] rfl <| W_seq <| r1 <| sT 9 24 1 rfl <| sO 10 32 2 rfl <| sO 11 40 3 rfl <| e1 48 rfl <| keep [0, 11] rfl ?_
 refine q1 rfl (fun hc1 => ?_) (fun hc1 => ?_)
 simp at hc1; omega
 try simp only [cs, ne_eq] at hc1
 refine W_skip <| tn <| r1 <| sT 12 48 1 rfl <| sT 13 56 2 rfl <| sT 14 64 3 rfl <| sT 5 72 4 rfl <| e1 80 rfl <| keep [0, 5] rfl ?_
 refine tofam 48 rfl ?_
 refine cghostly 64 1 5 1 (u8F []) rfl rfl rfl ?_
 refine r1 <| sT 6 88 1 rfl <| e1 96 rfl <| keep [0, 5, 6] rfl ?_
 refine ghostly 6 33 7 (fdF []) rfl ?_
 refine W_seq <| r1 <| sT 15 104 1 rfl <| sO 16 112 2 rfl <| sT 17 120 3 rfl <| e1 128 rfl <| keep [5, 6, 15, 16, 17] rfl <| W_block ?_
 refine loop (α := Nat × (List Nat)) 4 (fun z => [(5, .ptr 0 0 0), (6, .sl 3 0 (fdR ds (z.1)).length), (15, ddsV ds), (16, SV.i ds.length), (17, SV.i (z.1))]) (fun z => [some (.cells 39 3 [.map 1, .sl 2 0 (fileB (evR ds (z.1))).length, SV.i (evR ds (z.1)).length]), some (.fam (z.2) ⟨famL (lnR ds (z.1)), [], none⟩), some (u8B (fileB (evR ds (z.1)))), some (fdsB (fdR ds (z.1)))]) (fun z => (z.1) ≤ ds.length) (fun z => ds.length - (z.1)) (((0, []) : Nat × (List Nat))) [64, 48, 80, 96] (fun _ => rfl) (show (0) ≤ ds.length from (Nat.zero_le _)) rfl ⟨rfl, rfl, rfl, rfl, rfl, trivial⟩ ⟨rfl, rfl, rfl, rfl, trivial⟩ (fun z hx => ?_)
 obtain ⟨n, Z1⟩ := z
 show W _ _ _ ⟨tOf [(5, .ptr 0 0 0), (6, .sl 3 0 (fdR ds n).length), (15, ddsV ds), (16, SV.i ds.length), (17, SV.i n)], hOf [some (.cells 39 3 [.map 1, .sl 2 0 (fileB (evR ds n)).length, SV.i (evR ds n).length]), some (.fam Z1 ⟨famL (lnR ds n), [], none⟩), some (u8B (fileB (evR ds n))), some (fdsB (fdR ds n))], 4⟩
 have hx : n ≤ ds.length := hx
 have hfl := fdR_len ds n
 refine r1 <| sO 18 4 1 rfl <| e1 12 rfl <| keep [5, 6, 15, 16, 17, 18] rfl <| W_seq ?_
 refine q1 rfl (fun hc6 => ?_) (fun hc6 => ?_)
 try simp only [cs, ne_eq] at hc6
 refine W_skip <| tn <| W_seq <| W_block <| r1 ?_
 refine sV 19 12 1 rfl ⟨by omega, by omega⟩ ?_
 refine sV 20 20 2 rfl (by simp only [Int.toNat_natCast]; omega) ?_
 refine val 20 (ddV (ds.getD n default)) rfl (by first | rfl | (simp only [Nat.zero_add, Int.toNat_natCast]; rfl)) ?_
 refine sT 8 28 3 rfl <| s0O 36 4 rfl rfl rfl rfl rfl <| e1 44 rfl <| keep [5, 6, 8, 15, 16, 17] rfl ?_
 refine r0 ?_
 refine sT 21 44 1 rfl <| sT 22 52 2 rfl <| sO 23 60 3 rfl ?_
 refine cQ (prog_step (ds.getD n default) (hd n (by omega)) (run_at hd (n := n) (by omega)) (run_step ds n)) [0, 1, 2] 24 68 4 rfl rfl rfl rfl rfl rfl rfl Tryd.func8 rfl rfl rfl ⟨rfl, rfl, rfl, trivial⟩ ?_
 rintro _ _ ⟨Z2, rfl, rfl⟩
 refine val 24 (fdV (fR ds n)) rfl rfl ?_
 refine hval 68 _ rfl (.fam Z2 ⟨famL (lnR ds (n + 1)), [], none⟩) rfl ?_
 refine sT 25 76 5 rfl ?_
 refine sV 26 84 6 rfl ⟨Nat.le_refl _, trivial, (by show (_ + 1) * 72 ≤ 140737488355328; omega), (by simp only [maxLen]; omega)⟩ ?_
 refine sT 6 92 7 rfl <| e1 100 rfl <| bn <| tn ?_
 refine rowsc 84 (fdR ds (n + 1)).length (fdF (fdR ds (n + 1))) rfl (by rw [fdR_succ, len_snoc]) (fun i c hi hc => by rw [fdR_succ]; exact fd_cat _ _ i c hi hc) ?_
 refine cval 6 (.sl 84 0 (fdR ds (n + 1)).length) rfl (by rw [fdR_succ, len_snoc]) ?_
 refine r0 ?_
 refine sAO 27 100 1 rfl <| sT 17 108 2 rfl <| e1 116 rfl <| tn ?_
 exact again (((n + 1, Z2) : Nat × (List Nat))) [0, 68, 69, 84] (show (n + 1) ≤ ds.length from (by omega)) (show ds.length - (n + 1) < ds.length - n from (by omega)) rfl ⟨rfl, rfl, rfl, rfl, rfl, trivial⟩ ⟨rfl, rfl, rfl, rfl, trivial⟩
 try simp only [cs, ne_eq] at hc6
 refine W_exit <| tx <| tx <| bx <| tn ?_
 have hne : n = ds.length := (by omega)
 subst hne
 refine rd1 rfl ?_
 refine dT 28 12 1 rfl <| dT 29 20 2 rfl <| dT 30 28 3 rfl <| dT 31 36 4 rfl <| dO 32 44 5 rfl <| dT 2 52 6 rfl <| dT 3 60 7 rfl <| dT 4 68 8 rfl <| de1 76 rfl (by kernel_rfl) <| keep [2, 3, 4] rfl ?_
 refine freeze 2 3 (fdR ds ds.length).length rfl rfl (Nat.le_refl _) ?_
 refine freeze 3 2 (fileB (evR ds ds.length)).length rfl rfl (Nat.le_refl _) ?_
 refine W_ret ?_
 exact out3 2 3 4 (fdsV (fdR ds ds.length)) (u8V (fileB (evR ds ds.length))) (SV.i 0) (π := []) (hout := []) Tryd.results4 rfl rfl rfl rfl rfl rfl rfl rfl trivial ⟨rfl, rfl⟩
end Go.Proofs.YtalhangpahffeaaDoor.Nice
namespace Go.Proofs.YtalhangpahffeaaDoor.Nice
open Go Go.Proofs
set_option linter.unusedVariables false
set_option linter.unusedSimpArgs false
set_option maxRecDepth 100000
set_option maxHeartbeats 1000000
theorem no_ev {E : List Ev} (h : Good E) (h0 : replayA E = []) : E = [] := by
 cases E with
 | nil => rfl
 | cons e r =>
   have := replay_pos h.e (e :: r).length (by simp) (Nat.le_refl _)
   rw [List.take_length, h0] at this
   simp at this
theorem doc_NN (d : Dd) (hd : DdIn d) {f : Fd} {L2 : List Ln} {E2 : List Ev} (hs : StepK d [] [] f L2 E2) (h2 : L2 = []) : Spec Tryd.prog GF 9 [.ptr 0 0 0, ddV d] [.cells 49 3 [.d .nils, .sl 1 0 ([] : List Ev).length, .sl 2 0 (fileB ([] : List Ev)).length], evB ([] : List Ev), u8B (fileB ([] : List Ev))] (fun r ho => r = fdV f ∧ ho = [some (.cells 49 3 [.d .nils, .sl 3 0 E2.length, .sl 4 0 (fileB E2).length]), none, none, some (evB E2), some (u8B (fileB E2))]) := by
 have hE : ([] : List Ev).length ≤ 200 := Nat.zero_le _
 have hF : (fileB []).length ≤ 800000 := Nat.zero_le _
 cases hs with
 | kind hk => exact dkindN d hd [] hE hF hk
 | cform hk hn => exact dcreate_formN d hd [] hE hF hk hn
 | ctwice hk hn j hi => cases hi
 | cfull hk hn hi hf => exact absurd hf (by simp)
 | cnew hk hn hi h6 h2' => exact absurd h2 (by simp)
 | gone hk hi => exact dnoneN d hd [] hE hF hk
 | fall hk m h1 h2 h3 => rw [List.take_nil]; exact dfallN d hd hk
 | over hk j x hi | old hk j x hi | plain hk j x hi | afull hk j x hi | aseal hk j x hi | snil hk j x hi | sfull hk j x hi | syes hk j x hi | tfull hk j x hi | tyes hk j x hi | range hk j x hi | total hk j x hi => cases hi
theorem doc_NL (d : Dd) (hd : DdIn d) {f : Fd} {L2 : List Ln} {E2 : List Ev} (hs : StepK d [] [] f L2 E2) (h2 : 0 < L2.length) : Spec Tryd.prog GF 9 [.ptr 0 0 0, ddV d] [.cells 49 3 [.d .nils, .sl 1 0 ([] : List Ev).length, .sl 2 0 (fileB ([] : List Ev)).length], evB ([] : List Ev), u8B (fileB ([] : List Ev))] (fun r ho => ∃ Z2, r = fdV f ∧ ho = [some (.cells 49 3 [.sl 3 0 L2.length, .sl 4 0 E2.length, .sl 5 0 (fileB E2).length]), none, none, some (.fam Z2 ⟨linL L2, [], some (66, 3)⟩), some (evB E2), some (u8B (fileB E2))]) := by
 have hE : ([] : List Ev).length ≤ 200 := Nat.zero_le _
 have hF : (fileB []).length ≤ 800000 := Nat.zero_le _
 cases hs with
 | cnew hk hn hi h6 h2' => exact dcreate_newN d hd [] hE hF hk hn (by simp)
 | kind hk | cform hk hn | gone hk hi | ctwice hk hn j hi | cfull hk hn hi hf => exact absurd h2 (by simp)
 | fall hk m h1 h2' h3 => exact absurd h2 (by simp [replayA])
 | over hk j x hi | old hk j x hi | plain hk j x hi | afull hk j x hi | aseal hk j x hi | snil hk j x hi | sfull hk j x hi | syes hk j x hi | tfull hk j x hi | tyes hk j x hi | range hk j x hi | total hk j x hi => cases hi
theorem doc_LN {Z : List Nat} (d : Dd) (hd : DdIn d) {L : List Ln} {E : List Ev} (h : KOk L E) (h0 : 0 < L.length) {f : Fd} {L2 : List Ln} {E2 : List Ev} (hs : StepK d L E f L2 E2) (h2 : L2 = []) : Spec Tryd.prog GF 9 [.ptr 0 0 0, ddV d] [.cells 49 3 [.sl 1 0 L.length, .sl 2 0 E.length, .sl 3 0 (fileB E).length], .fam Z ⟨linL L, [], some (66, 3)⟩, evB E, u8B (fileB E)] (fun r ho => r = fdV f ∧ ho = [some (.cells 49 3 [.d .nils, .sl 4 0 E2.length, .sl 5 0 (fileB E2).length]), none, none, none, some (evB E2), some (u8B (fileB E2))]) := by
 have hE := h.g.n
 have hF : (fileB E).length ≤ 800000 := Nat.le_trans h.g.fileN.1 (by decide)
 have h6 : L.length ≤ 100 := Nat.le_trans h.len (by decide)
 cases hs with
 | fall hk m h1 h2' h3 =>
   have e0 := no_ev (h.g.take m) h2
   have hm0 : m = 0 := by
     have := congrArg List.length e0
     rw [List.length_take] at this
     simp at this
     rcases this with e | e
     · exact e
     · subst e; simpa using h1
   rw [e0]
   exact dfall_none L h6 d hd E hE hF hk m h1 h2' h3 hm0
 | kind | cform | ctwice | cfull | gone | over | old | afull | snil | sfull | tfull | range | total => subst h2; simp at h0
 | cnew => simp at h2
 | plain | aseal | syes | tyes => have := congrArg List.length h2; rw [List.length_set] at this; simp at this; subst this; simp at h0
theorem doc_LL {Z : List Nat} (d : Dd) (hd : DdIn d) {L : List Ln} {E : List Ev} (h : KOk L E) (h0 : 0 < L.length) {f : Fd} {L2 : List Ln} {E2 : List Ev} (hs : StepK d L E f L2 E2) (h2 : 0 < L2.length) : Spec Tryd.prog GF 9 [.ptr 0 0 0, ddV d] [.cells 49 3 [.sl 1 0 L.length, .sl 2 0 E.length, .sl 3 0 (fileB E).length], .fam Z ⟨linL L, [], some (66, 3)⟩, evB E, u8B (fileB E)] (fun r ho => ∃ Z2, r = fdV f ∧ ho = [some (.cells 49 3 [.sl 4 0 L2.length, .sl 5 0 E2.length, .sl 6 0 (fileB E2).length]), none, none, none, some (.fam Z2 ⟨linL L2, [], some (66, 3)⟩), some (evB E2), some (u8B (fileB E2))]) := by
 have hE := h.g.n
 have hF : (fileB E).length ≤ 800000 := Nat.le_trans h.g.fileN.1 (by decide)
 have h6 : L.length ≤ 100 := Nat.le_trans h.len (by decide)
 have at' : ∀ {j : Nat} {x : Ln}, L[j]? = some x → LnIn x := fun hj => h.ln _ (List.mem_of_getElem? hj)
 cases hs with
 | kind hk => exact (dkindL L h6 d hd E hE hF hk).mono fun r ho h => ⟨Z, h⟩
 | cform hk hn =>
   exact (dcreate_formL L h6 d hd E hE hF hk hn).mono fun r ho h => ⟨Z, h⟩
 | ctwice hk hn j hi => exact (dcreate_twiceLF L h6 d hd E hE hF hk hn hi).mono fun r ho h => ⟨Z, h⟩
 | cfull hk hn hi hf => exact (dcreate_fullL L h6 d hd E hE hF hk hn (by omega) hi).mono fun r ho h => ⟨Z, h⟩
 | cnew hk hn hi hl6 hn2 => exact dcreate_newL L h6 d hd E hE hF hk hn (by omega) (by have := h.len; omega) h0 hi
 | gone hk hi => exact (dnoneL L h6 d hd E hE hF hk hi).mono fun r ho h => ⟨Z, h⟩
 | fall hk m h1 h2' h3 =>
   have hg := h.g.take m
   have hb0 : 0 < (E.take m).length := by
     cases hm : E.take m with
     | nil => rw [hm] at h2; simp [replayA] at h2
     | cons a b => simp
   have hl6 : ∀ i, i ≤ (E.take m).length → (replayA ((E.take m).take i)).length ≤ 100 := fun i hi => Nat.le_trans (hg.l i hi).n (by decide)
   exact dfall_some L h6 d hd E hE hF hk m h1 h2' h3 hb0 hg.e hl6
 | over hk j x hi hj hx hb => exact dapp_over L h6 d hd E hE hF j x (at' hj) hi hj hx hk hb
 | old hk j x hi hj hx hb h0' ho => exact dapp_old L h6 d hd E hE hF j x (at' hj) hi hj hx hk hb h0' ho
 | plain hk j x hi hj hx hb hn h8 => exact dapp_plain L h6 d hd E hE hF j x (at' hj) hi hj hx hk hb hn h8
 | afull hk j x hi hj hx hb hn h8 hf =>
   exact dapp_full L h6 d hd E hE hF j x (at' hj) hi hj hx hk hb hn h8 ⟨8, L, E⟩ (sealK_full (by omega) hf) (show ¬ (8 : Int) = 0 by decide)
 | aseal hk j x hi hj hx hb hn h8 h30 hn2 =>
   have hln := at' hj
   have hc := hln.c
   have hlt : j < L.length := (List.getElem?_eq_some_iff.1 hj).1
   have := dapp_sealed (Z := Z) L h6 d hd E hE hF j x hln hi hj hx hk hb hn h8 ⟨0, L.set j (sealL x.op x), E ++ [⟨2, x.nm, x.op, 0⟩]⟩ (sealK_yes (by omega) h30 hn2) rfl (sealL x.op x) (by show (L.set j (sealL x.op x))[j]? = _; simp [hlt]) rfl (by show (0 : Nat) ≤ 120; decide) (by show (x.ch ++ [x.op]).length ≤ 200; simp; omega)
   have e : (L.set j (sealL x.op x)).set j ⟨(sealL x.op x).nm, (sealL x.op x).ch, (sealL x.op x).op ++ [d.s]⟩ = L.set j ⟨x.nm, x.ch ++ [x.op], [d.s]⟩ := List.set_set _
   rw [← e]
   exact this
 | snil hk j x hi hj hx h0' =>
   have hln := at' hj
   exact dseal_ok (Z := Z) L h6 d hd E hE hF j x hln hi hj hx hk ⟨0, L, E⟩ (sealK_nil h0') rfl x hj rfl (Nat.le_trans hln.o (by decide)) (Nat.le_trans hln.c (by decide))
 | sfull hk j x hi hj hx h0' hf =>
   exact dseal_err L h6 d hd E hE hF j x (at' hj) hi hj hx hk ⟨8, L, E⟩ (sealK_full h0' hf) (show ¬ (8 : Int) = 0 by decide)
 | syes hk j x hi hj hx h0' h30 hn2 =>
   have hln := at' hj
   have hc := hln.c
   have hlt : j < L.length := (List.getElem?_eq_some_iff.1 hj).1
   exact dseal_ok (Z := Z) L h6 d hd E hE hF j x hln hi hj hx hk ⟨0, L.set j (sealL x.op x), E ++ [⟨2, x.nm, x.op, 0⟩]⟩ (sealK_yes h0' h30 hn2) rfl (sealL x.op x) (by show (L.set j (sealL x.op x))[j]? = _; simp [hlt]) rfl (by show (0 : Nat) ≤ 120; decide) (by show (x.ch ++ [x.op]).length ≤ 200; simp; omega)
 | tfull hk j x hi hj hx hf => exact dtrim_full L h6 d hd E hE hF j x (at' hj) hi hj hx hk hf
 | tyes hk j x hi hj hx hf => exact dtrim_ok L h6 d hd E hE hF j x (at' hj) hi hj hx hk hf
 | range hk j x hi hj hx => exact drange L h6 d hd E hE hF j x (at' hj) hi hj hx hk _ rfl (Nat.le_trans (at' hj).len (by decide))
 | total hk j x hi hj hx => exact dtotal L h6 d hd E hE hF j x (at' hj) hi hj hx hk _ rfl (Nat.le_trans (at' hj).len (by decide)) (vals_inV fun y hy => ((at' hj).val ((List.mem_filter.1 hy).1)).2)
end Go.Proofs.YtalhangpahffeaaDoor.Nice
