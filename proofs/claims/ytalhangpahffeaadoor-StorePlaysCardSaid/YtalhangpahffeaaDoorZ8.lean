/- Part 8 of the proof of StorePlays: StoB, StoC, StoD, StoE, StoF, StoG, StoH. -/
import Derived.Test.YtalhangpahffeaaDoorZ7
namespace Go.Proofs.YtalhangpahffeaaDoor.Nice
open Go Go.Proofs
set_option linter.unusedVariables false
set_option linter.unusedSimpArgs false
set_option maxRecDepth 100000
set_option maxHeartbeats 4000000
def chF (ch : List (List Smp)) : Nat → Nat → D := fun i _ => .vec 2 (ch.getD i []).length (smpF (ch.getD i []))
def chV (ch : List (List Smp)) : SV := .d (.vec 1 ch.length (chF ch))
def chsB (ch : List (List Smp)) : Blk := .rows 29 1 ch.length (chF ch)
def smB (l : List Smp) : Blk := .rows 41 2 l.length (smpF l)
theorem ch_cat {A B : List (List Smp)} (i c : Nat) (hi : i < A.length + B.length) (hc : c < 1) : catR (chF A) A.length (chF B) i c = chF (A ++ B) i c := by
 unfold catR chF
 by_cases h : i < A.length
 · rw [if_pos h]; simp [List.getD, List.getElem?_append_left h]
 · rw [if_neg h]; simp [List.getD, List.getElem?_append_right (by omega : A.length ≤ i)]
theorem ch_one {A : List (List Smp)} {b : List Smp} {d : D} (hd : d = .vec 2 b.length (smpF b)) (i c : Nat) (hi : i < A.length + 1) (hc : c < 1) : catR (chF A) A.length (litR 1 [d]) i c = chF (A ++ [b]) i c := by
 subst hd
 rw [← ch_cat i c hi hc]
 unfold catR
 split
 · rfl
 · obtain rfl : c = 0 := by omega
   have : i - A.length = 0 := by omega
   rw [this]; rfl
theorem sm_cat {A B : List Smp} (i c : Nat) (hi : i < A.length + B.length) (hc : c < 2) : catR (smpF A) A.length (smpF B) i c = smpF (A ++ B) i c := by
 unfold catR smpF
 by_cases h : i < A.length
 · rw [if_pos h]; simp [List.getD, List.getElem?_append_left h]
 · rw [if_neg h]; simp [List.getD, List.getElem?_append_right (by omega : A.length ≤ i)]
theorem ch_set {l : List (List Smp)} {p : Nat} {b : List Smp} {d : D} (hd : d = .vec 2 b.length (smpF b)) (hp : p < l.length) (i c : Nat) (hi : i < l.length) (hc : c < 1) : updR (chF l) p 0 [d] i c = chF (l.set p b) i c := by
 subst hd
 obtain rfl : c = 0 := by omega
 unfold updR chF
 by_cases h : i = p
 · subst h; simp [List.getD, hp]
 · simp [h, List.getD, List.getElem?_set_ne (Ne.symm h)]
theorem sm_set {l : List Smp} {p : Nat} {b : Smp} (hp : p < l.length) (i c : Nat) (hi : i < l.length) (hc : c < 2) : updR (smpF l) p 0 [.val (.int .i64 b.t), .val (.int .i64 b.v)] i c = smpF (l.set p b) i c := by
 unfold updR
 by_cases h : i = p
 · subst h
   match c, hc with
   | 0, _ => simp [smpF, List.getD, hp]
   | 1, _ => simp [smpF, List.getD, hp]
 · simp only [h, false_and, if_false]
   unfold smpF
   rw [show (l.set p b).getD i default = l.getD i default by simp [List.getD, List.getElem?_set_ne (Ne.symm h)]]
def namedL (k : Int) (s : ByteArray) : List Int := [k, s.size] ++ nmL s
theorem named_cat {k : Int} {s : ByteArray} (i c : Nat) (hi : i < 2 + s.size) (hc : c < 1) : catR (litR 1 [.val (.int .u8 k), .val (.int .u8 s.size)]) 2 (strBytesF s) i c = u8F (namedL k s) i c := by
 unfold namedL
 rw [← u8_str (A := [k, (s.size : Int)]) i c hi hc]
 unfold catR
 split
 · obtain rfl : c = 0 := by omega
   have : i = 0 ∨ i = 1 := by omega
   rcases this with rfl | rfl <;> rfl
 · next h => rw [if_neg (by simpa using h)]; rfl
theorem namedL_len (k : Int) (s : ByteArray) : (namedL k s).length = 2 + s.size := by simp [namedL, nmL_len]; omega
def sumL (cs : List (List Smp)) (n : Nat) : Nat := (cs.take n).flatten.length
theorem take_succ' {α : Type} {l : List α} {k : Nat} (h : k < l.length) : l.take (k + 1) = l.take k ++ [l[k]] := by
 rw [List.take_add_one, List.getElem?_eq_getElem h]; rfl
theorem flat_succ {cs : List (List Smp)} {n : Nat} (h : n < cs.length) : (cs.take (n + 1)).flatten = (cs.take n).flatten ++ cs.getD n [] := by
 rw [take_succ' h, List.flatten_append]
 simp [List.getD, h]
theorem sumL_succ {cs : List (List Smp)} {n : Nat} (h : n < cs.length) : sumL cs (n + 1) = sumL cs n + (cs.getD n []).length := by
 unfold sumL
 rw [flat_succ h, List.length_append]
theorem sumL_le (cs : List (List Smp)) (n : Nat) : sumL cs n ≤ cs.flatten.length := by
 unfold sumL
 conv => rhs; rw [← List.take_append_drop n cs]
 rw [List.flatten_append, List.length_append]; omega
/- what DeleteFunc leaves, with k seen -/
def delL {α : Type} (p : α → Bool) (l : List α) (k : Nat) : List α := (l.take k).filter p ++ l.drop ((l.take k).filter p).length
def keptN {α : Type} (p : α → Bool) (l : List α) (k : Nat) : Nat := ((l.take k).filter p).length
theorem keptN_le {α : Type} (p : α → Bool) (l : List α) (k : Nat) : keptN p l k ≤ k ∧ keptN p l k ≤ l.length := by
 unfold keptN
 have h := List.length_filter_le p (l.take k)
 rw [List.length_take] at h
 omega
theorem delL_len {α : Type} (p : α → Bool) (l : List α) (k : Nat) : (delL p l k).length = l.length := by
 have h := (keptN_le p l k).2
 unfold keptN at h
 unfold delL
 rw [List.length_append, List.length_drop]; omega
theorem delL_get {α : Type} (p : α → Bool) {l : List α} {k j : Nat} (h : k ≤ j) : (delL p l k)[j]? = l[j]? := by
 have h2 := (keptN_le p l k).1
 unfold keptN at h2
 unfold delL
 rw [List.getElem?_append_right (by omega), List.getElem?_drop]; congr 1; omega
theorem delL_no {α : Type} (p : α → Bool) {l : List α} {k : Nat} (h : k < l.length) (hp : p l[k] = false) : delL p l (k + 1) = delL p l k ∧ keptN p l (k + 1) = keptN p l k := by
 unfold delL keptN
 rw [take_succ' h, List.filter_append]
 simp [hp]
theorem delL_yes {α : Type} (p : α → Bool) {l : List α} {k : Nat} (h : k < l.length) (hp : p l[k] = true) : delL p l (k + 1) = (delL p l k).set (keptN p l k) l[k] ∧ keptN p l (k + 1) = keptN p l k + 1 := by
 have hk := (keptN_le p l k).1
 unfold delL keptN at *
 have e : (l.take (k + 1)).filter p = (l.take k).filter p ++ [l[k]] := by rw [take_succ' h, List.filter_append]; simp [hp]
 rw [e]
 refine ⟨?_, by simp⟩
 rw [List.set_append_right _ _ (Nat.le_refl _), Nat.sub_self, List.append_assoc]
 congr 1
 rw [List.length_append, List.length_singleton]
 generalize ((l.take k).filter p).length = q at *
 rw [show l.drop q = l[q] :: l.drop (q + 1) from (List.drop_eq_getElem_cons (by omega))]
 rfl
theorem delL_end {α : Type} (p : α → Bool) (l : List α) : (delL p l l.length).take (keptN p l l.length) = l.filter p ∧ keptN p l l.length = (l.filter p).length := by
 unfold delL keptN
 rw [List.take_length]
 exact ⟨List.take_left, rfl⟩
theorem del_start {α : Type} (p : α → Bool) {l : List α} {k : Nat} (hk : k < l.length) (h : ∀ (i : Nat) (hi : i < k), p (l[i]'(by omega)) = true) (hk2 : p l[k] = false) : delL p l (k + 1) = l ∧ keptN p l (k + 1) = k := by
 have e : (l.take k).filter p = l.take k := by
   rw [List.filter_eq_self]
   intro x hx
   obtain ⟨i, hi, rfl⟩ := List.mem_iff_getElem.1 hx
   rw [List.length_take] at hi
   rw [List.getElem_take]
   exact h i (by omega)
 have hl : (l.take k).length = k := by rw [List.length_take]; omega
 obtain ⟨h1, h2⟩ := delL_no p hk hk2
 rw [h1, h2]
 unfold delL keptN
 rw [e, hl]
 exact ⟨List.take_append_drop k l, rfl⟩
theorem del_none {α : Type} (p : α → Bool) {l : List α} (h : ∀ (i : Nat) (hi : i < l.length), p l[i] = true) : l.filter p = l := by
 rw [List.filter_eq_self]
 intro x hx
 obtain ⟨i, hi, rfl⟩ := List.mem_iff_getElem.1 hx
 exact h i hi
theorem tw_no {α : Type} (p : α → Bool) : ∀ {l : List α} {n : Nat} (h : n < l.length), n ≤ (l.takeWhile p).length → p l[n] = false → (l.takeWhile p).length = n
 | x :: l, 0, h, _, hp => by simp only [List.getElem_cons_zero] at hp; rw [List.takeWhile_cons]; simp [hp]
 | x :: l, n + 1, h, hn, hp => by
   have h' : n < l.length := by simpa using h
   rw [List.takeWhile_cons] at *
   split at hn
   · next e =>
     rw [if_pos e]
     have hn' : n ≤ (l.takeWhile p).length := by simpa using hn
     rw [List.length_cons, tw_no p h' hn' (by simpa using hp)]
   · simp at hn
theorem tw_yes {α : Type} (p : α → Bool) : ∀ {l : List α} {n : Nat} (h : n < l.length), n ≤ (l.takeWhile p).length → p l[n] = true → n + 1 ≤ (l.takeWhile p).length
 | x :: l, 0, h, _, hp => by simp only [List.getElem_cons_zero] at hp; rw [List.takeWhile_cons]; simp [hp]
 | x :: l, n + 1, h, hn, hp => by
   have h' : n < l.length := by simpa using h
   rw [List.takeWhile_cons] at *
   split at hn
   · next e =>
     rw [if_pos e]
     have hn' : n ≤ (l.takeWhile p).length := by simpa using hn
     have := tw_yes p h' hn' (by simpa using hp)
     rw [List.length_cons]; omega
   · simp at hn
theorem tw_all {α : Type} (p : α → Bool) : ∀ {l : List α} {i : Nat} (h : i < (l.takeWhile p).length) (hl : i < l.length), p l[i] = true
 | x :: l, i, h, hl => by
   rw [List.takeWhile_cons] at h
   split at h
   · next e =>
     match i, h, hl with
     | 0, _, _ => simpa using e
     | i + 1, h, hl =>
       have := tw_all p (l := l) (i := i) (by simpa using h) (by simpa using hl)
       simpa using this
   · simp at h
theorem tw_in {α : Type} (p : α → Bool) {l : List α} {i : Nat} (h : i < (l.takeWhile p).length) : ∃ hl : i < l.length, p l[i] = true := by
 have hle := (List.takeWhile_prefix p (l := l)).length_le
 exact ⟨by omega, tw_all p h (by omega)⟩
def idxP {α : Type} (p : α → Bool) (l : List α) : Int := if (l.takeWhile p).length < l.length then ((l.takeWhile p).length : Int) else -1
theorem idxP_at {α : Type} (p : α → Bool) {l : List α} {n : Nat} (h : n < l.length) (hn : n ≤ (l.takeWhile p).length) (hp : p l[n] = false) : idxP p l = (n : Int) := by
 unfold idxP; rw [tw_no p h hn hp, if_pos h]
theorem idxP_none {α : Type} (p : α → Bool) {l : List α} (hn : l.length ≤ (l.takeWhile p).length) : idxP p l = -1 := by
 unfold idxP; rw [if_neg (by omega)]
theorem idxP_m1 {α : Type} (p : α → Bool) {l : List α} (h : idxP p l = -1) : l.filter p = l := by
 unfold idxP at h
 split at h
 · omega
 · exact del_none p fun i hi => (tw_in p (by omega)).2
theorem idxP_pos {α : Type} (p : α → Bool) {l : List α} (h : ¬ idxP p l = -1) : ∃ k, idxP p l = (k : Nat) ∧ k < l.length ∧ delL p l (k + 1) = l ∧ keptN p l (k + 1) = k := by
 unfold idxP at h ⊢
 split at h
 · next e =>
   rw [if_pos e]
   refine ⟨_, rfl, e, del_start p e (fun i hi => (tw_in p hi).2) ?_⟩
   cases hb : p l[(l.takeWhile p).length]
   · rfl
   · have := tw_yes p e (Nat.le_refl _) hb
     omega
 · exact absurd rfl h
theorem getD_eq {α : Type} [Inhabited α] {l : List α} {n : Nat} (h : n < l.length) : l.getD n default = l[n] := by simp [List.getD, h]
theorem del_getD {α : Type} [Inhabited α] (p : α → Bool) {l : List α} {k j : Nat} (h : k ≤ j) : (delL p l k).getD j default = l.getD j default := by
 simp only [List.getD]; rw [delL_get p h]
theorem del_take {α : Type} [Inhabited α] (p : α → Bool) (l : List α) {i : Nat} (h : i < keptN p l l.length) : (delL p l l.length).getD i default = (l.filter p).getD i default := by
 obtain ⟨h1, h2⟩ := delL_end p l
 rw [← h1]; simp only [List.getD]; rw [List.getElem?_take, if_pos h]
def inR (a b : Int) (s : Smp) : Bool := !(decide (s.t < a) || decide (b ≤ s.t))
def lastT (c : List Smp) : Int := (c.getD (c.length - 1) default).t
def keepC (k : Int) (c : List Smp) : Bool := !(decide (lastT c < k))
theorem named_any (k : Int) (s : ByteArray) (hs : s.size ≤ 200) : Spec Tryd.prog GF 31 [.d (.val (.int .u8 k)), .d (.val (.string s))] [] (fun r ho => r = .sl 0 0 (namedL k s).length ∧ ho = [some (u8B (namedL k s))]) := by
 refine start 12 0 Tryd.func31 rfl rfl rfl rfl ?_
 refine r1 <| sT 4 0 1 rfl <| e1 8 rfl <| keep [0, 1] rfl <| r1 <| sT 5 8 1 rfl <| sT 6 16 2 rfl <| sO 7 24 3 rfl <| sT 8 32 4 rfl ?_
 refine val 8 (.d (.val (.int .u8 s.size))) rfl (congrArg (fun x => SV.d (D.val (Value.int .u8 x))) (show (s.size : Int) % 256 = s.size by omega)) ?_
 refine sT 9 40 5 rfl <| sT 10 48 6 rfl ?_
 refine sApS 11 56 7 rfl rfl rfl rfl rfl rfl Tryd.underlying24 Tryd.underlying9 rfl rfl rfl rfl rfl rfl rfl rfl rfl (by omega) (by show (2 + s.size) * 1 ≤ 140737488355328; omega) (by simp only [maxLen]; omega) ?_
 refine sT 4 64 8 rfl <| e1 72 rfl <| keep [4] rfl ?_
 refine rowsc 56 (namedL k s).length (u8F (namedL k s)) rfl (namedL_len k s).symm (fun i c hi hc => named_cat i c hi hc) ?_
 refine cval 4 (.sl 56 0 (namedL k s).length) rfl (by rw [namedL_len]) ?_
 refine W_ret ?_
 exact out1 4 (.sl 0 0 (namedL k s).length) (π := [56]) (hout := [some (u8B (namedL k s))]) Tryd.results31 rfl rfl rfl rfl ⟨rfl, trivial⟩ ⟨rfl, rfl⟩
theorem cloneC_any (ch : List (List Smp)) (hl : ch.length ≤ 100000) : Spec Tryd.prog GF 43 [chV ch] [] (fun r ho => r = .sl 0 0 ch.length ∧ ho = [some (chsB ch)]) := by
 refine start 8 0 Tryd.func43 rfl rfl rfl rfl ?_
 refine r1 <| sT 2 0 1 rfl <| e1 8 rfl <| keep [0] rfl <| W_seq <| r1 <| sT 3 8 1 rfl ?_
 refine sNilQ 4 16 2 rfl rfl rfl rfl rfl rfl rfl rfl (fun b hb => ?_)
 refine e1 24 rfl <| keep [0, 4] rfl ?_
 refine q1 rfl (fun hc1 => ?_) (fun hc1 => ?_)
 try simp only [cs, ne_eq] at hc1
 obtain rfl : ch = [] := List.length_eq_zero_iff.1 (hb hc1)
 refine r1 <| sT 2 24 1 rfl <| e1 32 rfl <| keep [2] rfl ?_
 refine ghostly 2 29 1 (chF []) rfl ?_
 refine W_ret <| tr ?_
 exact out1 2 (.sl 0 0 0) (π := [32]) (hout := [some (chsB [])]) Tryd.results43 rfl rfl rfl rfl ⟨rfl, trivial⟩ ⟨rfl, rfl⟩
 try simp only [cs, ne_eq] at hc1
 refine W_skip <| tn <| r1 <| sT 5 24 1 rfl <| sT 6 32 2 rfl ?_
 refine sV 7 40 3 rfl ⟨trivial, (by show ch.length * 24 ≤ 140737488355328; omega), (by simp only [maxLen]; omega)⟩ ?_
 refine sT 2 48 4 rfl <| e1 56 rfl <| keep [2] rfl <| W_ret ?_
 exact out1 2 (.sl 0 0 ch.length) (π := [40]) (hout := [some (chsB ch)]) Tryd.results43 rfl rfl rfl rfl ⟨rfl, trivial⟩ ⟨rfl, rfl⟩
theorem grow_any (n : Nat) (hn : n ≤ 100000) : Spec Tryd.prog GF 76 [.d .nils, SV.i n] [] (fun r ho => r = .sl 0 0 0 ∧ ho = [some (smB [])]) := by
 refine start 27 0 Tryd.func76 rfl rfl rfl rfl ?_
 refine r1 <| sT 4 0 1 rfl <| e1 8 rfl <| keep [0, 1] rfl <| W_seq <| r1 <| sT 5 8 1 rfl <| sO 6 16 2 rfl <| e1 24 rfl <| keep [0, 1, 6] rfl ?_
 refine q1 rfl (fun hc1 => ?_) (fun hc1 => ?_)
 exfalso; simp at hc1; omega
 try simp only [cs, ne_eq] at hc1
 refine W_skip <| tn <| W_seq <| r1 <| sT 8 24 1 rfl <| sT 9 32 2 rfl ?_
 refine sCapNil 10 40 3 rfl rfl rfl rfl rfl rfl Tryd.underlying29 rfl ?_
 refine sT 11 48 4 rfl <| sO 12 56 5 rfl <| sAO 13 64 6 rfl <| sAO 14 72 7 rfl ?_
 refine val 14 (SV.i n) rfl (congrArg SV.i (by omega)) ?_
 refine sT 1 80 8 rfl <| e1 88 rfl <| keep [0, 1] rfl <| r1 <| sT 15 88 1 rfl <| sO 16 96 2 rfl <| e1 104 rfl <| keep [0, 1, 16] rfl ?_
 refine q1 rfl (fun hc4 => ?_) (fun hc4 => ?_)
 try simp only [cs, ne_eq] at hc4
 refine r0 ?_
 refine sT 17 104 1 rfl <| sT 18 112 2 rfl ?_
 refine sCapNil 19 120 3 rfl rfl rfl rfl rfl rfl Tryd.underlying29 rfl ?_
 refine sSlNil 20 128 4 rfl rfl rfl rfl rfl rfl Tryd.underlying29 rfl rfl rfl ?_
 refine sT 21 136 5 rfl ?_
 refine sApZ (fun _ _ => D.val (Value.int .i64 0)) 22 144 6 rfl rfl rfl rfl rfl rfl Tryd.underlying29 Tryd.underlying3 rfl rfl rfl (by decide) rfl rfl (by omega) (fun M j c hc => (match c, hc with | 0, _ => ⟨_, rfl, .val _ rfl⟩ | 1, _ => ⟨_, rfl, .val _ rfl⟩)) (by show n * 16 ≤ 140737488355328; omega) (by simp only [maxLen]; omega) ?_
 refine sT 23 152 7 rfl <| sO 24 160 8 rfl <| sO 25 168 9 rfl <| sT 0 176 10 rfl <| e1 184 rfl <| tn ?_
 refine rowsLess 144 0 (smpF []) rfl (Nat.zero_le _) (fun i c hi => by omega) ?_
 refine r1 <| sT 26 184 1 rfl <| sT 4 192 2 rfl <| e1 200 rfl <| keep [4] rfl <| W_ret ?_
 exact out1 4 (.sl 0 0 0) (π := [144]) (hout := [some (smB [])]) Tryd.results76 rfl rfl rfl rfl ⟨rfl, trivial⟩ ⟨rfl, rfl⟩
 try simp only [cs, ne_eq] at hc4
 refine W_skip <| tn ?_
 refine ghostly 0 41 2 (smpF []) rfl ?_
 refine r1 <| sT 26 112 1 rfl <| sT 4 120 2 rfl <| e1 128 rfl <| keep [4] rfl <| W_ret ?_
 exact out1 4 (.sl 0 0 0) (π := [104]) (hout := [some (smB [])]) Tryd.results76 rfl rfl rfl rfl ⟨rfl, trivial⟩ ⟨rfl, rfl⟩
end Go.Proofs.YtalhangpahffeaaDoor.Nice
namespace Go.Proofs.YtalhangpahffeaaDoor.Nice
open Go Go.Proofs
set_option linter.unusedVariables false
set_option linter.unusedSimpArgs false
set_option maxRecDepth 100000
set_option maxHeartbeats 4000000
theorem concat_any (gs : List (List Smp)) (hl : gs.length ≤ 1000) (hf : gs.flatten.length ≤ 100000) : Spec Tryd.prog GF 67 [.sl 0 0 gs.length] [chsB gs] (fun r ho => r = .sl 1 0 gs.flatten.length ∧ ho = [some (chsB gs), some (smB gs.flatten)]) := by
 refine start 36 1 Tryd.func67 rfl rfl rfl rfl ?_
 refine r1 <| sT 2 1 1 rfl <| e1 9 rfl <| keep [0] rfl <| r1 <| sT 3 9 1 rfl <| e1 17 rfl <| keep [0, 3] rfl <| W_seq <| r1 <| sT 9 17 1 rfl <| sO 10 25 2 rfl <| sT 11 33 3 rfl <| e1 41 rfl <| keep [0, 3, 9, 10, 11] rfl <| W_block ?_
 refine loop (α := Nat) 1 (fun n => [(0, .sl 0 0 gs.length), (3, SV.i (sumL gs (n))), (9, .sl 0 0 gs.length), (10, SV.i gs.length), (11, SV.i (n))]) (fun n => [some (chsB gs)]) (fun n => (n) ≤ gs.length) (fun n => gs.length - (n)) (((0) : Nat)) [0] (fun _ => rfl) (show (0) ≤ gs.length from (Nat.zero_le _)) rfl ⟨rfl, rfl, rfl, rfl, rfl, trivial⟩ ⟨rfl, trivial⟩ (fun n hx => ?_)
 show W _ _ _ ⟨tOf [(0, .sl 0 0 gs.length), (3, SV.i (sumL gs n)), (9, .sl 0 0 gs.length), (10, SV.i gs.length), (11, SV.i n)], hOf [some (chsB gs)], 1⟩
 have hx : n ≤ gs.length := hx
 refine r1 <| sO 12 1 1 rfl <| e1 9 rfl <| keep [0, 3, 9, 10, 11, 12] rfl <| W_seq ?_
 refine q1 rfl (fun hc3 => ?_) (fun hc3 => ?_)
 try simp only [cs, ne_eq] at hc3
 have hs1 := sumL_le gs (n + 1)
 have hs2 := sumL_succ (cs := gs) (n := n) (by omega)
 refine W_skip <| tn <| W_seq <| W_block <| r1 ?_
 refine sV 13 9 1 rfl ⟨⟨by omega, by omega⟩, by omega⟩ ?_
 refine sV 14 17 2 rfl (by simp only [Int.toNat_natCast]; omega) ?_
 refine val 14 (.d (.vec 2 (gs.getD n []).length (smpF (gs.getD n [])))) rfl (by first | (simp only [Int.toNat_natCast, Nat.zero_add]; done) | (simp only [Int.toNat_natCast, Nat.zero_add]; rfl)) ?_
 refine sT 5 25 3 rfl <| e1 33 rfl <| keep [0, 3, 5, 9, 10, 11] rfl <| r1 <| sT 15 33 1 rfl <| sT 16 41 2 rfl <| sO 17 49 3 rfl <| sAO 18 57 4 rfl ?_
 refine val 18 (SV.i (sumL gs (n + 1))) rfl (congrArg SV.i (by omega)) ?_
 refine sT 3 65 5 rfl <| e1 73 rfl <| keep [0, 3, 9, 10, 11] rfl <| r1 <| sT 19 73 1 rfl <| sO 20 81 2 rfl <| e1 89 rfl <| keep [0, 3, 9, 10, 11, 20] rfl ?_
 refine q1 rfl (fun hc6 => ?_) (fun hc6 => ?_)
 exfalso; simp at hc6; omega
 try simp only [cs, ne_eq] at hc6
 refine W_skip <| bn <| tn ?_
 refine r0 ?_
 refine sAO 22 89 1 rfl <| sT 11 97 2 rfl <| e1 105 rfl <| tn ?_
 exact again ((n + 1 : Nat)) [0] (show (n + 1) ≤ gs.length from (by omega)) (show gs.length - (n + 1) < gs.length - n from (by omega)) rfl ⟨rfl, rfl, rfl, rfl, rfl, trivial⟩ ⟨rfl, trivial⟩
 try simp only [cs, ne_eq] at hc3
 refine W_exit <| tx <| tx <| bx <| tn ?_
 obtain rfl : n = gs.length := (by omega)
 refine r1 <| sT 23 9 1 rfl ?_
 refine c1 (grow_any (sumL gs gs.length) (by have := sumL_le gs gs.length; omega)) [] [17] 24 17 2 rfl rfl rfl rfl rfl rfl rfl rfl Tryd.func76 rfl rfl rfl rfl trivial rfl rfl ?_
 refine sT 6 25 3 rfl <| e1 33 rfl <| keep [0, 6] rfl <| W_seq <| r1 <| sT 25 33 1 rfl <| sO 26 41 2 rfl <| sT 27 49 3 rfl <| e1 57 rfl <| keep [6, 25, 26, 27] rfl <| W_block ?_
 refine loop (α := Nat) 2 (fun n => [(6, .sl 1 0 (gs.take (n)).flatten.length), (25, .sl 0 0 gs.length), (26, SV.i gs.length), (27, SV.i (n))]) (fun n => [some (chsB gs), some (smB (gs.take (n)).flatten)]) (fun n => (n) ≤ gs.length) (fun n => gs.length - (n)) (((0) : Nat)) [0, 17] (fun _ => rfl) (show (0) ≤ gs.length from (Nat.zero_le _)) rfl ⟨rfl, rfl, rfl, rfl, trivial⟩ ⟨rfl, rfl, trivial⟩ (fun n hx => ?_)
 show W _ _ _ ⟨tOf [(6, .sl 1 0 (gs.take n).flatten.length), (25, .sl 0 0 gs.length), (26, SV.i gs.length), (27, SV.i n)], hOf [some (chsB gs), some (smB (gs.take n).flatten)], 2⟩
 have hx : n ≤ gs.length := hx
 refine r1 <| sO 28 2 1 rfl <| e1 10 rfl <| keep [6, 25, 26, 27, 28] rfl <| W_seq ?_
 refine q1 rfl (fun hc11 => ?_) (fun hc11 => ?_)
 try simp only [cs, ne_eq] at hc11
 have hs1 := sumL_le gs (n + 1)
 have hs2 := sumL_succ (cs := gs) (n := n) (by omega)
 unfold sumL at hs1 hs2
 refine W_skip <| tn <| W_seq <| W_block <| r1 ?_
 refine sV 29 10 1 rfl ⟨⟨by omega, by omega⟩, by omega⟩ ?_
 refine sV 30 18 2 rfl (by simp only [Int.toNat_natCast]; omega) ?_
 refine val 30 (.d (.vec 2 (gs.getD n []).length (smpF (gs.getD n [])))) rfl (by first | (simp only [Int.toNat_natCast, Nat.zero_add]; done) | (simp only [Int.toNat_natCast, Nat.zero_add]; rfl)) ?_
 refine sT 8 26 3 rfl <| e1 34 rfl <| keep [6, 8, 25, 26, 27] rfl ?_
 refine r0 ?_
 refine sT 31 34 1 rfl <| sT 32 42 2 rfl ?_
 refine sV 33 50 3 rfl ⟨Nat.le_refl _, trivial, (by show (_ + _) * 16 ≤ 140737488355328; omega), (by simp only [maxLen]; omega)⟩ ?_
 refine sT 6 58 4 rfl <| e1 66 rfl <| bn <| tn ?_
 refine rowsc 50 (gs.take (n + 1)).flatten.length (smpF (gs.take (n + 1)).flatten) rfl (by rw [flat_succ (by omega), List.length_append]) (fun i c hi hc => by rw [flat_succ (by omega)]; exact sm_cat i c hi hc) ?_
 refine cval 6 (.sl 50 0 (gs.take (n + 1)).flatten.length) rfl (by rw [flat_succ (by omega), List.length_append]) ?_
 refine r0 ?_
 refine sAO 34 66 1 rfl <| sT 27 74 2 rfl <| e1 82 rfl <| tn ?_
 exact again ((n + 1 : Nat)) [0, 50] (show (n + 1) ≤ gs.length from (by omega)) (show gs.length - (n + 1) < gs.length - n from (by omega)) rfl ⟨rfl, rfl, rfl, rfl, trivial⟩ ⟨rfl, rfl, trivial⟩
 try simp only [cs, ne_eq] at hc11
 refine W_exit <| tx <| tx <| bx <| tn <| r1 <| sT 35 10 1 rfl <| sT 2 18 2 rfl <| e1 26 rfl <| keep [2] rfl <| W_ret ?_
 obtain rfl : n = gs.length := (by omega)
 exact out1 2 (.sl 1 0 gs.flatten.length) (π := [0, 1]) (hout := [some (chsB gs), some (smB gs.flatten)]) Tryd.results67 rfl (by rw [List.take_length]; rfl) rfl rfl ⟨rfl, (by rw [List.take_length]; rfl), trivial⟩ ⟨rfl, rfl⟩
theorem within1_any (s : Smp) (a b : Int) : Spec Tryd.prog GF 46 [smpS s, .ptr 0 0 0, .ptr 1 0 0] [.cells 3 1 [SV.i a], .cells 3 1 [SV.i b]] (fun r ho => r = SV.b (!(inR a b s)) ∧ ho = [some (.cells 3 1 [SV.i a]), some (.cells 3 1 [SV.i b])]) := by
 refine start 15 2 Tryd.func46 rfl rfl rfl rfl ?_
 refine r1 <| sT 3 2 1 rfl <| sT 4 10 2 rfl <| e1 18 rfl <| keep [1, 2, 3] rfl <| r1 <| sT 5 18 1 rfl <| sO 6 26 2 rfl <| sO 7 34 3 rfl <| sO 8 42 4 rfl <| sT 9 50 5 rfl ?_
 refine ask 9 rfl (fun hg1_9 => ?_) (fun hg1_9 => ?_)
 · skip
   try simp only [cs, ne_eq] at hg1_9
   refine gF 4 false 9 10 6 rfl rfl <| gF 4 false 9 11 7 rfl rfl <| gF 4 false 9 12 8 rfl rfl <| gF 4 false 9 13 9 rfl rfl <| sT 14 90 10 rfl <| sT 4 98 11 rfl <| e1 106 rfl <| keep [4] rfl <| W_ret ?_
   exact out1 4 (SV.b (!(inR a b s))) (π := [0, 1]) (hout := [some (.cells 3 1 [SV.i a]), some (.cells 3 1 [SV.i b])]) Tryd.results46 rfl (show SV.b _ = SV.b _ from congrArg SV.b (by unfold inR; rw [Bool.not_not]; by_cases hh : s.t < a <;> simp [hh] <;> omega)) rfl rfl ⟨rfl, rfl, trivial⟩ ⟨rfl, rfl⟩
 try simp only [cs, ne_eq] at hg1_9
 refine gT 4 false 9 6 rfl rfl <| sT 10 58 6 rfl <| gT 4 false 9 7 rfl rfl <| sO 11 66 7 rfl <| gT 4 false 9 8 rfl rfl <| sO 12 74 8 rfl <| gT 4 false 9 9 rfl rfl <| sO 13 82 9 rfl <| sT 14 90 10 rfl <| sT 4 98 11 rfl <| e1 106 rfl <| keep [4] rfl <| W_ret ?_
 exact out1 4 (SV.b (!(inR a b s))) (π := [0, 1]) (hout := [some (.cells 3 1 [SV.i a]), some (.cells 3 1 [SV.i b])]) Tryd.results46 rfl (show SV.b _ = SV.b _ from congrArg SV.b (by unfold inR; rw [Bool.not_not]; by_cases hh : s.t < a <;> simp [hh] <;> omega)) rfl rfl ⟨rfl, rfl, trivial⟩ ⟨rfl, rfl⟩
theorem trim1_any (c : List Smp) (k : Int) (h0 : 0 < c.length) (hl : c.length ≤ 100000) : Spec Tryd.prog GF 44 [smpV c, .ptr 0 0 0] [.cells 3 1 [SV.i k]] (fun r ho => r = SV.b (!(keepC k c)) ∧ ho = [some (.cells 3 1 [SV.i k])]) := by
 refine start 13 1 Tryd.func44 rfl rfl rfl rfl ?_
 refine r1 <| sT 3 1 1 rfl <| e1 9 rfl <| keep [0, 1] rfl ?_
 refine rd1 rfl ?_
 refine dT 4 9 1 rfl <| dT 5 17 2 rfl <| dO 6 25 3 rfl <| dAO 7 33 4 rfl ?_
 refine dV 8 41 5 rfl ⟨by omega, by omega⟩ ?_
 refine dT 9 49 6 rfl <| dO 10 57 7 rfl <| dO 11 65 8 rfl <| dO 12 73 9 rfl <| dT 3 81 10 rfl <| de1 89 rfl (by kernel_rfl) <| keep [3] rfl <| W_ret ?_
 exact out1 3 (SV.b (!(keepC k c))) (π := [0]) (hout := [some (.cells 3 1 [SV.i k])]) Tryd.results44 rfl (by unfold keepC lastT; rw [Bool.not_not]; exact congrArg SV.b (congrArg (fun n => decide ((c.getD n default).t < k)) (by omega))) rfl rfl ⟨rfl, trivial⟩ ⟨rfl, rfl⟩
theorem indexS_any (l : List Smp) (hl : l.length ≤ 100000) (a b : Int) : Spec Tryd.prog GF 69 [.sl 0 0 l.length, .fn 46 [.ptr 1 0 0, .ptr 2 0 0]] [smB l, .cells 3 1 [SV.i a], .cells 3 1 [SV.i b]] (fun r ho => r = SV.i (idxP (inR a b) l) ∧ ho = [some (smB l), some (.cells 3 1 [SV.i a]), some (.cells 3 1 [SV.i b])]) := by
 refine start 19 3 Tryd.func69 rfl rfl rfl rfl ?_
 refine r1 <| sT 4 3 1 rfl <| e1 11 rfl <| keep [0, 1] rfl <| W_seq <| r1 <| sT 6 11 1 rfl <| sO 7 19 2 rfl <| sT 8 27 3 rfl <| e1 35 rfl <| keep [0, 1, 7, 8] rfl <| W_block ?_
 refine loop (α := Nat) 3 (fun n => [(0, .sl 0 0 l.length), (1, .fn 46 [.ptr 1 0 0, .ptr 2 0 0]), (7, SV.i l.length), (8, SV.i (n))]) (fun n => [some (smB l), some (.cells 3 1 [SV.i a]), some (.cells 3 1 [SV.i b])]) (fun n => (n) ≤ l.length ∧ (n) ≤ (l.takeWhile (inR a b)).length) (fun n => l.length - (n)) (((0) : Nat)) [0, 1, 2] (fun _ => rfl) (show (0) ≤ l.length ∧ (0) ≤ (l.takeWhile (inR a b)).length from ⟨Nat.zero_le _, Nat.zero_le _⟩) rfl ⟨rfl, rfl, rfl, rfl, trivial⟩ ⟨rfl, rfl, rfl, trivial⟩ (fun n hx => ?_)
 show W _ _ _ ⟨tOf [(0, .sl 0 0 l.length), (1, .fn 46 [.ptr 1 0 0, .ptr 2 0 0]), (7, SV.i l.length), (8, SV.i n)], hOf [some (smB l), some (.cells 3 1 [SV.i a]), some (.cells 3 1 [SV.i b])], 3⟩
 have hx : n ≤ l.length ∧ n ≤ (l.takeWhile (inR a b)).length := hx
 obtain ⟨hn, htw⟩ := hx
 refine r1 <| sO 9 3 1 rfl <| e1 11 rfl <| keep [0, 1, 7, 8, 9] rfl <| W_seq ?_
 refine q1 rfl (fun hc2 => ?_) (fun hc2 => ?_)
 try simp only [cs, ne_eq] at hc2
 refine W_skip <| tn <| W_seq <| W_block <| r1 <| sT 10 11 1 rfl <| sT 5 19 2 rfl <| e1 27 rfl <| keep [0, 1, 5, 7, 8] rfl <| r1 <| sT 11 27 1 rfl <| sT 12 35 2 rfl <| sT 13 43 3 rfl ?_
 refine sV 14 51 4 rfl ⟨⟨by omega, by omega⟩, by omega⟩ ?_
 refine sV 15 59 5 rfl (by simp only [Int.toNat_natCast]; omega) ?_
 refine val 15 (smpS (l.getD n default)) rfl (by simp only [Int.toNat_natCast, Nat.zero_add]; rfl) ?_
 refine c1 (within1_any (l.getD n default) a b) [1, 2] [1, 2] 16 67 6 rfl rfl rfl rfl rfl rfl rfl rfl Tryd.func46 rfl rfl rfl rfl ⟨rfl, rfl, trivial⟩ rfl rfl ?_
 refine e1 75 rfl <| keep [0, 1, 5, 7, 8, 16] rfl ?_
 refine q1 rfl (fun hc4 => ?_) (fun hc4 => ?_)
 try simp only [cs, ne_eq] at hc4
 have hp : (inR a b) (l.getD n default) = false := (by simpa using hc4)
 rw [getD_eq (by omega)] at hp
 refine r1 <| sT 17 75 1 rfl <| sT 4 83 2 rfl <| e1 91 rfl <| keep [4] rfl <| W_ret <| br <| tr <| tr <| br <| tr ?_
 exact out1 4 (SV.i (idxP (inR a b) l)) (π := [0, 1, 2]) (hout := [some (smB l), some (.cells 3 1 [SV.i a]), some (.cells 3 1 [SV.i b])]) Tryd.results69 rfl (congrArg SV.i (idxP_at (inR a b) (by omega) htw hp).symm) rfl rfl ⟨rfl, rfl, rfl, trivial⟩ ⟨rfl, rfl⟩
 try simp only [cs, ne_eq] at hc4
 have hp : (inR a b) (l.getD n default) = true := (by simpa using hc4)
 rw [getD_eq (by omega)] at hp
 refine W_skip <| bn <| tn ?_
 refine r0 ?_
 refine sAO 18 75 1 rfl <| sT 8 83 2 rfl <| e1 91 rfl <| tn ?_
 exact again ((n + 1 : Nat)) [0, 1, 2] (show (n + 1) ≤ l.length ∧ (n + 1) ≤ (l.takeWhile (inR a b)).length from ⟨by omega, tw_yes (inR a b) (by omega) htw hp⟩) (show l.length - (n + 1) < l.length - n from (by omega)) rfl ⟨rfl, rfl, rfl, rfl, trivial⟩ ⟨rfl, rfl, rfl, trivial⟩
 try simp only [cs, ne_eq] at hc2
 refine W_exit <| tx <| tx <| bx <| tn <| r1 <| sT 4 11 1 rfl <| e1 19 rfl <| keep [4] rfl <| W_ret ?_
 exact out1 4 (SV.i (idxP (inR a b) l)) (π := [0, 1, 2]) (hout := [some (smB l), some (.cells 3 1 [SV.i a]), some (.cells 3 1 [SV.i b])]) Tryd.results69 rfl (congrArg SV.i (idxP_none (inR a b) (by omega)).symm) rfl rfl ⟨rfl, rfl, rfl, trivial⟩ ⟨rfl, rfl⟩
theorem deleteS_any (l : List Smp) (hl : l.length ≤ 100000) (a b : Int) : Spec Tryd.prog GF 45 [.sl 0 0 l.length, .fn 46 [.ptr 1 0 0, .ptr 2 0 0]] [smB l, .cells 3 1 [SV.i a], .cells 3 1 [SV.i b]] (fun r ho => r = .sl 0 0 (l.filter (inR a b)).length ∧ ho = [some (smB (l.filter (inR a b))), some (.cells 3 1 [SV.i a]), some (.cells 3 1 [SV.i b])]) := by
 refine start 42 3 Tryd.func45 rfl rfl rfl rfl ?_
 refine r1 <| sT 4 3 1 rfl <| e1 11 rfl <| keep [0, 1] rfl <| r1 <| sT 8 11 1 rfl <| sT 9 19 2 rfl ?_
 refine c1 (indexS_any l hl a b) [0, 1, 2] [0, 1, 2] 10 27 3 rfl rfl rfl rfl rfl rfl rfl rfl Tryd.func69 rfl rfl rfl rfl ⟨rfl, rfl, rfl, trivial⟩ rfl rfl ?_
 refine sT 5 35 4 rfl <| e1 43 rfl <| keep [0, 1, 5] rfl <| W_seq <| r1 <| sT 11 43 1 rfl <| sO 12 51 2 rfl <| e1 59 rfl <| keep [0, 1, 5, 12] rfl ?_
 refine q1 rfl (fun hc2 => ?_) (fun hc2 => ?_)
 try simp only [cs, ne_eq] at hc2
 have hfl := idxP_m1 (inR a b) hc2
 refine cval 0 (.sl 0 0 (l.filter (inR a b)).length) rfl (by rw [hfl]) ?_
 refine chval 0 (smB (l.filter (inR a b))) rfl (by first | (rw [hfl]; done) | (rw [hfl]; rfl)) ?_
 refine r1 <| sT 13 59 1 rfl <| sT 4 67 2 rfl <| e1 75 rfl <| keep [4] rfl <| W_ret <| tr ?_
 exact out1 4 (.sl 0 0 (l.filter (inR a b)).length) (π := [0, 1, 2]) (hout := [some (smB (l.filter (inR a b))), some (.cells 3 1 [SV.i a]), some (.cells 3 1 [SV.i b])]) Tryd.results45 rfl rfl rfl rfl ⟨rfl, rfl, rfl, trivial⟩ ⟨rfl, rfl⟩
 try simp only [cs, ne_eq] at hc2
 obtain ⟨q, hq, hql, hd1, hd2⟩ := idxP_pos (inR a b) hc2
 refine cval 5 (SV.i (q : Nat)) rfl (congrArg SV.i hq) ?_
 refine W_skip <| tn <| W_seq <| r1 <| sT 14 59 1 rfl <| sAO 15 67 2 rfl <| sT 6 75 3 rfl <| e1 83 rfl <| keep [0, 1, 5, 6] rfl <| W_block ?_
 refine cval 5 (SV.i (keptN (inR a b) l (q + 1) : Nat)) rfl (by rw [hd2]) ?_
 refine chval 0 (smB (delL (inR a b) l (q + 1))) rfl (by first | (rw [hd1]; done) | (rw [hd1]; rfl)) ?_
 refine loop (α := Nat) 3 (fun j => [(0, .sl 0 0 l.length), (1, .fn 46 [.ptr 1 0 0, .ptr 2 0 0]), (5, SV.i ((keptN (inR a b) l (j)) : Nat)), (6, SV.i (j))]) (fun j => [some (smB (delL (inR a b) l (j))), some (.cells 3 1 [SV.i a]), some (.cells 3 1 [SV.i b])]) (fun j => (j) ≤ l.length) (fun j => l.length - (j)) (((q + 1) : Nat)) [0, 1, 2] (fun _ => rfl) (show (q + 1) ≤ l.length from (show q + 1 ≤ l.length from hql)) rfl ⟨rfl, rfl, rfl, rfl, trivial⟩ ⟨rfl, rfl, rfl, trivial⟩ (fun j hx => ?_)
 show W _ _ _ ⟨tOf [(0, .sl 0 0 l.length), (1, .fn 46 [.ptr 1 0 0, .ptr 2 0 0]), (5, SV.i ((keptN (inR a b) l j) : Nat)), (6, SV.i j)], hOf [some (smB (delL (inR a b) l j)), some (.cells 3 1 [SV.i a]), some (.cells 3 1 [SV.i b])], 3⟩
 have hx : j ≤ l.length := hx
 have hdl := delL_len (inR a b) l j
 have hkn := keptN_le (inR a b) l j
 refine W_seq <| r1 <| sT 16 3 1 rfl <| sT 17 11 2 rfl <| sO 18 19 3 rfl <| sO 19 27 4 rfl <| e1 35 rfl <| keep [0, 1, 5, 6, 19] rfl ?_
 refine q1 rfl (fun hc5 => ?_) (fun hc5 => ?_)
 try simp only [cs, ne_eq] at hc5
 refine W_skip <| tn <| W_seq <| W_block <| r1 <| sT 22 35 1 rfl <| sT 23 43 2 rfl ?_
 refine sV 24 51 3 rfl ⟨⟨by omega, by omega⟩, by omega⟩ ?_
 refine sV 25 59 4 rfl (by simp only [Int.toNat_natCast]; omega) ?_
 refine val 25 (smpS (l.getD j default)) rfl (by simp only [Int.toNat_natCast, Nat.zero_add]; unfold smpS smpF; rw [← del_getD (inR a b) (Nat.le_refl j)]; rfl) ?_
 refine sT 7 67 5 rfl <| s0O 75 6 rfl rfl rfl rfl rfl <| e1 83 rfl <| keep [0, 1, 5, 6, 7] rfl <| r1 <| sT 26 83 1 rfl <| sO 27 91 2 rfl ?_
 refine c1 (within1_any (l.getD j default) a b) [1, 2] [1, 2] 28 99 3 rfl rfl rfl rfl rfl rfl rfl rfl Tryd.func46 rfl rfl rfl rfl ⟨rfl, rfl, trivial⟩ rfl rfl ?_
 refine sT 29 107 4 rfl <| e1 115 rfl <| keep [0, 1, 5, 6, 7, 29] rfl ?_
 refine q1 rfl (fun hc8 => ?_) (fun hc8 => ?_)
 try simp only [cs, ne_eq] at hc8
 have hp : (inR a b) (l.getD j default) = true := (by simpa using hc8)
 rw [getD_eq (by omega)] at hp
 have hy := delL_yes (inR a b) (by omega) hp
 refine r1 <| sT 30 115 1 rfl <| sT 31 123 2 rfl <| sO 32 131 3 rfl ?_
 refine sV 33 139 4 rfl ⟨⟨by omega, by omega⟩, by omega⟩ ?_
 refine s0 147 5 rfl rfl rfl rfl rfl (by simp only [Int.toNat_natCast]; omega) ?_
 refine e1 155 rfl <| keep [0, 1, 5, 6] rfl ?_
 refine r0 ?_
 refine sT 34 155 1 rfl <| sAO 35 163 2 rfl ?_
 refine val 35 (SV.i ((keptN (inR a b) l j) + 1 : Nat)) rfl (congrArg SV.i (by omega)) ?_
 refine sT 5 171 3 rfl <| e1 179 rfl <| bn <| tn ?_
 refine rowsc 0 (delL (inR a b) l (j + 1)).length (smpF (delL (inR a b) l (j + 1))) rfl (by rw [delL_len, delL_len]) (fun i c hi hc => by rw [hy.1, ← getD_eq (by omega)]; simp only [Int.toNat_natCast, Nat.zero_add]; exact sm_set (p := (keptN (inR a b) l j)) (b := l.getD j default) (by rw [delL_len]; omega) i c hi hc) ?_
 refine cval 5 (SV.i ((keptN (inR a b) l (j + 1)) : Nat)) rfl (by rw [hy.2]) ?_
 refine r0 ?_
 refine sT 20 179 1 rfl <| sAO 21 187 2 rfl <| sT 6 195 3 rfl <| e1 203 rfl <| tn ?_
 exact again ((j + 1 : Nat)) [0, 1, 2] (show (j + 1) ≤ l.length from (by omega)) (show l.length - (j + 1) < l.length - j from (by omega)) rfl ⟨rfl, rfl, rfl, rfl, trivial⟩ ⟨rfl, rfl, rfl, trivial⟩
 try simp only [cs, ne_eq] at hc8
 have hp : (inR a b) (l.getD j default) = false := (by simpa using hc8)
 rw [getD_eq (by omega)] at hp
 have hy := delL_no (inR a b) (by omega) hp
 refine W_skip <| bn <| tn ?_
 refine chval 0 (smB (delL (inR a b) l (j + 1))) rfl (by rw [hy.1]) ?_
 refine cval 5 (SV.i ((keptN (inR a b) l (j + 1)) : Nat)) rfl (by rw [hy.2]) ?_
 refine r0 ?_
 refine sT 20 115 1 rfl <| sAO 21 123 2 rfl <| sT 6 131 3 rfl <| e1 139 rfl <| tn ?_
 exact again ((j + 1 : Nat)) [0, 1, 2] (show (j + 1) ≤ l.length from (by omega)) (show l.length - (j + 1) < l.length - j from (by omega)) rfl ⟨rfl, rfl, rfl, rfl, trivial⟩ ⟨rfl, rfl, rfl, trivial⟩
 try simp only [cs, ne_eq] at hc5
 refine W_exit <| tx <| tx <| bx <| tn ?_
 obtain rfl : j = l.length := (by omega)
 refine r1 <| sT 36 35 1 rfl <| sT 37 43 2 rfl ?_
 refine sV 38 51 3 rfl ⟨by omega, by omega, by omega, by omega⟩ ?_
 refine sClr (zs := [.int .i64 0, .int .i64 0]) 59 4 rfl rfl rfl rfl rfl Tryd.underlying29 rfl rfl rfl rfl (by have h1 := hkn.2; rw [hdl, Int.toNat_natCast, Int.toNat_natCast, Nat.zero_add, Nat.add_sub_of_le h1]; exact Nat.le_refl _) ?_
 refine e1 67 rfl <| keep [0, 5] rfl <| r1 <| sT 39 67 1 rfl <| sT 40 75 2 rfl ?_
 refine sSlTo 41 83 3 rfl rfl rfl rfl rfl rfl Tryd.underlying29 rfl rfl rfl ⟨by omega, by omega⟩ ?_
 refine val 41 (.sl 0 0 (l.filter (inR a b)).length) rfl (by rw [← (delL_end (inR a b) l).2]; simp) ?_
 refine sT 4 91 4 rfl <| e1 99 rfl <| keep [4] rfl ?_
 refine rowsc 0 (l.filter (inR a b)).length (smpF (l.filter (inR a b))) rfl (by rw [← (delL_end (inR a b) l).2]; simp) (fun i c hi hc => ?_) ?_
 · have hi2 : i < (keptN (inR a b) l l.length) := (by simpa using hi)
   unfold smpF
   rw [del_take (inR a b) l hi2]
 refine W_ret ?_
 exact out1 4 (.sl 0 0 (l.filter (inR a b)).length) (π := [0, 1, 2]) (hout := [some (smB (l.filter (inR a b))), some (.cells 3 1 [SV.i a]), some (.cells 3 1 [SV.i b])]) Tryd.results45 rfl rfl rfl rfl ⟨rfl, rfl, rfl, trivial⟩ ⟨rfl, rfl⟩
theorem indexC_any (l : List (List Smp)) (hl : l.length ≤ 100000) (hne : ∀ i, i < l.length → 0 < (l.getD i default).length ∧ (l.getD i default).length ≤ 100000) (k : Int) : Spec Tryd.prog GF 68 [.sl 0 0 l.length, .fn 44 [.ptr 1 0 0]] [chsB l, .cells 3 1 [SV.i k]] (fun r ho => r = SV.i (idxP (keepC k) l) ∧ ho = [some (chsB l), some (.cells 3 1 [SV.i k])]) := by
 refine start 19 2 Tryd.func68 rfl rfl rfl rfl ?_
 refine r1 <| sT 4 2 1 rfl <| e1 10 rfl <| keep [0, 1] rfl <| W_seq <| r1 <| sT 6 10 1 rfl <| sO 7 18 2 rfl <| sT 8 26 3 rfl <| e1 34 rfl <| keep [0, 1, 7, 8] rfl <| W_block ?_
 refine loop (α := Nat) 2 (fun n => [(0, .sl 0 0 l.length), (1, .fn 44 [.ptr 1 0 0]), (7, SV.i l.length), (8, SV.i (n))]) (fun n => [some (chsB l), some (.cells 3 1 [SV.i k])]) (fun n => (n) ≤ l.length ∧ (n) ≤ (l.takeWhile (keepC k)).length) (fun n => l.length - (n)) (((0) : Nat)) [0, 1] (fun _ => rfl) (show (0) ≤ l.length ∧ (0) ≤ (l.takeWhile (keepC k)).length from ⟨Nat.zero_le _, Nat.zero_le _⟩) rfl ⟨rfl, rfl, rfl, rfl, trivial⟩ ⟨rfl, rfl, trivial⟩ (fun n hx => ?_)
 show W _ _ _ ⟨tOf [(0, .sl 0 0 l.length), (1, .fn 44 [.ptr 1 0 0]), (7, SV.i l.length), (8, SV.i n)], hOf [some (chsB l), some (.cells 3 1 [SV.i k])], 2⟩
 have hx : n ≤ l.length ∧ n ≤ (l.takeWhile (keepC k)).length := hx
 obtain ⟨hn, htw⟩ := hx
 refine r1 <| sO 9 2 1 rfl <| e1 10 rfl <| keep [0, 1, 7, 8, 9] rfl <| W_seq ?_
 refine q1 rfl (fun hc2 => ?_) (fun hc2 => ?_)
 try simp only [cs, ne_eq] at hc2
 refine W_skip <| tn <| W_seq <| W_block <| r1 <| sT 10 10 1 rfl <| sT 5 18 2 rfl <| e1 26 rfl <| keep [0, 1, 5, 7, 8] rfl <| r1 <| sT 11 26 1 rfl <| sT 12 34 2 rfl <| sT 13 42 3 rfl ?_
 refine sV 14 50 4 rfl ⟨⟨by omega, by omega⟩, by omega⟩ ?_
 refine sV 15 58 5 rfl (by simp only [Int.toNat_natCast]; omega) ?_
 refine val 15 (.d (.vec 2 (l.getD n default).length (smpF (l.getD n default)))) rfl (by simp only [Int.toNat_natCast, Nat.zero_add]; rfl) ?_
 refine c1 (trim1_any (l.getD n default) k (hne n (by omega)).1 (hne n (by omega)).2) [1] [1] 16 66 6 rfl rfl rfl rfl rfl rfl rfl rfl Tryd.func44 rfl rfl rfl rfl ⟨rfl, trivial⟩ rfl rfl ?_
 refine e1 74 rfl <| keep [0, 1, 5, 7, 8, 16] rfl ?_
 refine q1 rfl (fun hc4 => ?_) (fun hc4 => ?_)
 try simp only [cs, ne_eq] at hc4
 have hp : (keepC k) (l.getD n default) = false := (by simpa using hc4)
 rw [getD_eq (by omega)] at hp
 refine r1 <| sT 17 74 1 rfl <| sT 4 82 2 rfl <| e1 90 rfl <| keep [4] rfl <| W_ret <| br <| tr <| tr <| br <| tr ?_
 exact out1 4 (SV.i (idxP (keepC k) l)) (π := [0, 1]) (hout := [some (chsB l), some (.cells 3 1 [SV.i k])]) Tryd.results68 rfl (congrArg SV.i (idxP_at (keepC k) (by omega) htw hp).symm) rfl rfl ⟨rfl, rfl, trivial⟩ ⟨rfl, rfl⟩
 try simp only [cs, ne_eq] at hc4
 have hp : (keepC k) (l.getD n default) = true := (by simpa using hc4)
 rw [getD_eq (by omega)] at hp
 refine W_skip <| bn <| tn ?_
 refine r0 ?_
 refine sAO 18 74 1 rfl <| sT 8 82 2 rfl <| e1 90 rfl <| tn ?_
 exact again ((n + 1 : Nat)) [0, 1] (show (n + 1) ≤ l.length ∧ (n + 1) ≤ (l.takeWhile (keepC k)).length from ⟨by omega, tw_yes (keepC k) (by omega) htw hp⟩) (show l.length - (n + 1) < l.length - n from (by omega)) rfl ⟨rfl, rfl, rfl, rfl, trivial⟩ ⟨rfl, rfl, trivial⟩
 try simp only [cs, ne_eq] at hc2
 refine W_exit <| tx <| tx <| bx <| tn <| r1 <| sT 4 10 1 rfl <| e1 18 rfl <| keep [4] rfl <| W_ret ?_
 exact out1 4 (SV.i (idxP (keepC k) l)) (π := [0, 1]) (hout := [some (chsB l), some (.cells 3 1 [SV.i k])]) Tryd.results68 rfl (congrArg SV.i (idxP_none (keepC k) (by omega)).symm) rfl rfl ⟨rfl, rfl, trivial⟩ ⟨rfl, rfl⟩
theorem deleteC_any (l : List (List Smp)) (hl : l.length ≤ 100000) (hne : ∀ i, i < l.length → 0 < (l.getD i default).length ∧ (l.getD i default).length ≤ 100000) (k : Int) : Spec Tryd.prog GF 42 [.sl 0 0 l.length, .fn 44 [.ptr 1 0 0]] [chsB l, .cells 3 1 [SV.i k]] (fun r ho => r = .sl 0 0 (l.filter (keepC k)).length ∧ ho = [some (chsB (l.filter (keepC k))), some (.cells 3 1 [SV.i k])]) := by
 refine start 42 2 Tryd.func42 rfl rfl rfl rfl ?_
 refine r1 <| sT 4 2 1 rfl <| e1 10 rfl <| keep [0, 1] rfl <| r1 <| sT 8 10 1 rfl <| sT 9 18 2 rfl ?_
 refine c1 (indexC_any l hl hne k) [0, 1] [0, 1] 10 26 3 rfl rfl rfl rfl rfl rfl rfl rfl Tryd.func68 rfl rfl rfl rfl ⟨rfl, rfl, trivial⟩ rfl rfl ?_
 refine sT 5 34 4 rfl <| e1 42 rfl <| keep [0, 1, 5] rfl <| W_seq <| r1 <| sT 11 42 1 rfl <| sO 12 50 2 rfl <| e1 58 rfl <| keep [0, 1, 5, 12] rfl ?_
 refine q1 rfl (fun hc2 => ?_) (fun hc2 => ?_)
 try simp only [cs, ne_eq] at hc2
 have hfl := idxP_m1 (keepC k) hc2
 refine cval 0 (.sl 0 0 (l.filter (keepC k)).length) rfl (by rw [hfl]) ?_
 refine chval 0 (chsB (l.filter (keepC k))) rfl (by first | (rw [hfl]; done) | (rw [hfl]; rfl)) ?_
 refine r1 <| sT 13 58 1 rfl <| sT 4 66 2 rfl <| e1 74 rfl <| keep [4] rfl <| W_ret <| tr ?_
 exact out1 4 (.sl 0 0 (l.filter (keepC k)).length) (π := [0, 1]) (hout := [some (chsB (l.filter (keepC k))), some (.cells 3 1 [SV.i k])]) Tryd.results42 rfl rfl rfl rfl ⟨rfl, rfl, trivial⟩ ⟨rfl, rfl⟩
 try simp only [cs, ne_eq] at hc2
 obtain ⟨q, hq, hql, hd1, hd2⟩ := idxP_pos (keepC k) hc2
 refine cval 5 (SV.i (q : Nat)) rfl (congrArg SV.i hq) ?_
 refine W_skip <| tn <| W_seq <| r1 <| sT 14 58 1 rfl <| sAO 15 66 2 rfl <| sT 6 74 3 rfl <| e1 82 rfl <| keep [0, 1, 5, 6] rfl <| W_block ?_
 refine cval 5 (SV.i (keptN (keepC k) l (q + 1) : Nat)) rfl (by rw [hd2]) ?_
 refine chval 0 (chsB (delL (keepC k) l (q + 1))) rfl (by first | (rw [hd1]; done) | (rw [hd1]; rfl)) ?_
 refine loop (α := Nat) 2 (fun j => [(0, .sl 0 0 l.length), (1, .fn 44 [.ptr 1 0 0]), (5, SV.i ((keptN (keepC k) l (j)) : Nat)), (6, SV.i (j))]) (fun j => [some (chsB (delL (keepC k) l (j))), some (.cells 3 1 [SV.i k])]) (fun j => (j) ≤ l.length) (fun j => l.length - (j)) (((q + 1) : Nat)) [0, 1] (fun _ => rfl) (show (q + 1) ≤ l.length from (show q + 1 ≤ l.length from hql)) rfl ⟨rfl, rfl, rfl, rfl, trivial⟩ ⟨rfl, rfl, trivial⟩ (fun j hx => ?_)
 show W _ _ _ ⟨tOf [(0, .sl 0 0 l.length), (1, .fn 44 [.ptr 1 0 0]), (5, SV.i ((keptN (keepC k) l j) : Nat)), (6, SV.i j)], hOf [some (chsB (delL (keepC k) l j)), some (.cells 3 1 [SV.i k])], 2⟩
 have hx : j ≤ l.length := hx
 have hdl := delL_len (keepC k) l j
 have hkn := keptN_le (keepC k) l j
 refine W_seq <| r1 <| sT 16 2 1 rfl <| sT 17 10 2 rfl <| sO 18 18 3 rfl <| sO 19 26 4 rfl <| e1 34 rfl <| keep [0, 1, 5, 6, 19] rfl ?_
 refine q1 rfl (fun hc5 => ?_) (fun hc5 => ?_)
 try simp only [cs, ne_eq] at hc5
 refine W_skip <| tn <| W_seq <| W_block <| r1 <| sT 22 34 1 rfl <| sT 23 42 2 rfl ?_
 refine sV 24 50 3 rfl ⟨⟨by omega, by omega⟩, by omega⟩ ?_
 refine sV 25 58 4 rfl (by simp only [Int.toNat_natCast]; omega) ?_
 refine val 25 (.d (.vec 2 (l.getD j default).length (smpF (l.getD j default)))) rfl (by simp only [Int.toNat_natCast, Nat.zero_add]; rw [show (delL (keepC k) l j).getD j [] = l.getD j default from del_getD (keepC k) (Nat.le_refl j)]) ?_
 refine sT 7 66 5 rfl <| e1 74 rfl <| keep [0, 1, 5, 6, 7] rfl <| r1 <| sT 26 74 1 rfl <| sT 27 82 2 rfl ?_
 refine c1 (trim1_any (l.getD j default) k (hne j (by omega)).1 (hne j (by omega)).2) [1] [1] 28 90 3 rfl rfl rfl rfl rfl rfl rfl rfl Tryd.func44 rfl rfl rfl rfl ⟨rfl, trivial⟩ rfl rfl ?_
 refine sT 29 98 4 rfl <| e1 106 rfl <| keep [0, 1, 5, 6, 7, 29] rfl ?_
 refine q1 rfl (fun hc8 => ?_) (fun hc8 => ?_)
 try simp only [cs, ne_eq] at hc8
 have hp : (keepC k) (l.getD j default) = true := (by simpa using hc8)
 rw [getD_eq (by omega)] at hp
 have hy := delL_yes (keepC k) (by omega) hp
 refine r1 <| sT 30 106 1 rfl <| sT 31 114 2 rfl <| sT 32 122 3 rfl ?_
 refine sV 33 130 4 rfl ⟨⟨by omega, by omega⟩, by omega⟩ ?_
 refine s0 138 5 rfl rfl rfl rfl rfl (by simp only [Int.toNat_natCast]; omega) ?_
 refine e1 146 rfl <| keep [0, 1, 5, 6] rfl ?_
 refine r0 ?_
 refine sT 34 146 1 rfl <| sAO 35 154 2 rfl ?_
 refine val 35 (SV.i ((keptN (keepC k) l j) + 1 : Nat)) rfl (congrArg SV.i (by omega)) ?_
 refine sT 5 162 3 rfl <| e1 170 rfl <| bn <| tn ?_
 refine rowsc 0 (delL (keepC k) l (j + 1)).length (chF (delL (keepC k) l (j + 1))) rfl (by rw [delL_len, delL_len]) (fun i c hi hc => by rw [hy.1, ← getD_eq (by omega)]; simp only [Int.toNat_natCast, Nat.zero_add]; exact ch_set (p := (keptN (keepC k) l j)) (b := l.getD j default) rfl (by rw [delL_len]; omega) i c hi hc) ?_
 refine cval 5 (SV.i ((keptN (keepC k) l (j + 1)) : Nat)) rfl (by rw [hy.2]) ?_
 refine r0 ?_
 refine sT 20 170 1 rfl <| sAO 21 178 2 rfl <| sT 6 186 3 rfl <| e1 194 rfl <| tn ?_
 exact again ((j + 1 : Nat)) [0, 1] (show (j + 1) ≤ l.length from (by omega)) (show l.length - (j + 1) < l.length - j from (by omega)) rfl ⟨rfl, rfl, rfl, rfl, trivial⟩ ⟨rfl, rfl, trivial⟩
 try simp only [cs, ne_eq] at hc8
 have hp : (keepC k) (l.getD j default) = false := (by simpa using hc8)
 rw [getD_eq (by omega)] at hp
 have hy := delL_no (keepC k) (by omega) hp
 refine W_skip <| bn <| tn ?_
 refine chval 0 (chsB (delL (keepC k) l (j + 1))) rfl (by rw [hy.1]) ?_
 refine cval 5 (SV.i ((keptN (keepC k) l (j + 1)) : Nat)) rfl (by rw [hy.2]) ?_
 refine r0 ?_
 refine sT 20 106 1 rfl <| sAO 21 114 2 rfl <| sT 6 122 3 rfl <| e1 130 rfl <| tn ?_
 exact again ((j + 1 : Nat)) [0, 1] (show (j + 1) ≤ l.length from (by omega)) (show l.length - (j + 1) < l.length - j from (by omega)) rfl ⟨rfl, rfl, rfl, rfl, trivial⟩ ⟨rfl, rfl, trivial⟩
 try simp only [cs, ne_eq] at hc5
 refine W_exit <| tx <| tx <| bx <| tn ?_
 obtain rfl : j = l.length := (by omega)
 refine r1 <| sT 36 34 1 rfl <| sT 37 42 2 rfl ?_
 refine sV 38 50 3 rfl ⟨by omega, by omega, by omega, by omega⟩ ?_
 refine sClr (zs := [.slice none 0 0]) 58 4 rfl rfl rfl rfl rfl Tryd.underlying64 rfl rfl rfl rfl (by have h1 := hkn.2; rw [hdl, Int.toNat_natCast, Int.toNat_natCast, Nat.zero_add, Nat.add_sub_of_le h1]; exact Nat.le_refl _) ?_
 refine e1 66 rfl <| keep [0, 5] rfl <| r1 <| sT 39 66 1 rfl <| sT 40 74 2 rfl ?_
 refine sSlTo 41 82 3 rfl rfl rfl rfl rfl rfl Tryd.underlying64 rfl rfl rfl ⟨by omega, by omega⟩ ?_
 refine val 41 (.sl 0 0 (l.filter (keepC k)).length) rfl (by rw [← (delL_end (keepC k) l).2]; simp) ?_
 refine sT 4 90 4 rfl <| e1 98 rfl <| keep [4] rfl ?_
 refine rowsc 0 (l.filter (keepC k)).length (chF (l.filter (keepC k))) rfl (by rw [← (delL_end (keepC k) l).2]; simp) (fun i c hi hc => ?_) ?_
 · have hi2 : i < (keptN (keepC k) l l.length) := (by simpa using hi)
   unfold chF
   rw [show (delL (keepC k) l l.length).getD i [] = (l.filter (keepC k)).getD i [] from del_take (keepC k) l hi2]
 refine W_ret ?_
 exact out1 4 (.sl 0 0 (l.filter (keepC k)).length) (π := [0, 1]) (hout := [some (chsB (l.filter (keepC k))), some (.cells 3 1 [SV.i k])]) Tryd.results42 rfl rfl rfl rfl ⟨rfl, rfl, trivial⟩ ⟨rfl, rfl⟩
end Go.Proofs.YtalhangpahffeaaDoor.Nice
namespace Go.Proofs.YtalhangpahffeaaDoor.Nice
open Go Go.Proofs
set_option linter.unusedVariables false
set_option linter.unusedSimpArgs false
set_option maxRecDepth 100000
set_option maxHeartbeats 4000000
structure Ln where
 nm : ByteArray
 ch : List (List Smp)
 op : List Smp
 deriving Inhabited
def allS (ch : List (List Smp)) (op : List Smp) : List Smp := ch.flatten ++ op
theorem smp_flat (l : List Smp) : ∀ i c, c < 2 → ∃ u, smpF l i c = .val u := by
 intro i c hc
 match c, hc with
 | 0, _ => exact ⟨_, rfl⟩
 | 1, _ => exact ⟨_, rfl⟩
structure LnOk (ch : List (List Smp)) (op : List Smp) : Prop where
 c : ch.length ≤ 200
 ne : ∀ i, i < ch.length → 0 < (ch.getD i default).length ∧ (ch.getD i default).length ≤ 120
 o : op.length ≤ 120
theorem flat_le : ∀ {gs : List (List Smp)} {k : Nat}, (∀ i, i < gs.length → (gs.getD i default).length ≤ k) → gs.flatten.length ≤ gs.length * k
 | [], _, _ => by simp
 | g :: gs, k, h => by
   have h0 := h 0 (by simp)
   have := flat_le (gs := gs) (k := k) (fun i hi => by have := h (i + 1) (by simpa using hi); simpa using this)
   simp only [List.flatten_cons, List.length_append, List.length_cons, Nat.succ_mul] at *
   have h0 : g.length ≤ k := by simpa using h0
   omega
theorem LnOk.all {ch : List (List Smp)} {op : List Smp} (h : LnOk ch op) : ch.flatten.length ≤ 24000 := by
 have := flat_le (gs := ch) (k := 120) fun i hi => (h.ne i hi).2
 have := h.c
 omega
theorem concat2 (ch : List (List Smp)) (op : List Smp) (h : LnOk ch op) : Spec Tryd.prog GF 67 [.sl 0 0 (ch.length + 1)] [.rows 29 1 (ch.length + 1) (catR (chF ch) ch.length (litR 1 [.vec 2 op.length (smpF op)]))] (fun r ho => r = .sl 1 0 (allS ch op).length ∧ ho = [some (chsB (ch ++ [op])), some (smB (allS ch op))]) := by
 have h1 := h.c
 have h2 := h.all
 have h3 := h.o
 have e : (ch ++ [op]).flatten = allS ch op := by simp [allS]
 have := concat_any (ch ++ [op]) (by simp; omega) (by rw [e]; unfold allS; rw [List.length_append]; omega)
 rw [e] at this
 refine Spec.rowsc (g := chF (ch ++ [op])) ?_ (fun i c hi hc => ch_one rfl i c hi hc)
 have e2 : (ch ++ [op]).length = ch.length + 1 := by simp
 unfold chsB at this ⊢
 rw [e2] at this ⊢
 exact this
theorem all_any (ch : List (List Smp)) (op : List Smp) (hok : LnOk ch op) : Spec Tryd.prog GF 41 [stV 71 [.vec 1 ch.length (chF ch), .vec 2 op.length (smpF op)]] [] (fun r ho => r = .sl 0 0 (allS ch op).length ∧ ho = [some (smB (allS ch op))]) := by
 have hcl := hok.c
 refine start 15 0 Tryd.func41 rfl rfl rfl rfl ?_
 refine r1 <| sT 2 0 1 rfl <| e1 8 rfl <| keep [0] rfl ?_
 refine rd1 rfl ?_
 refine dT 3 8 1 rfl ?_
 refine sStNil 4 16 2 rfl rfl rfl rfl rfl rfl rfl ?_
 refine sStField 5 24 3 rfl rfl rfl rfl rfl rfl rfl Tryd.underlying71 rfl rfl (by decide) rfl ?_
 refine sStLoad 6 32 4 rfl rfl rfl rfl rfl rfl rfl rfl ?_
 refine dc1 (cloneC_any ch (by omega)) [] [40] 7 40 5 rfl rfl rfl rfl rfl rfl rfl rfl Tryd.func43 rfl rfl rfl rfl trivial rfl rfl ?_
 refine dT 8 48 6 rfl ?_
 refine sStNil 9 56 7 rfl rfl rfl rfl rfl rfl rfl ?_
 refine sStField 10 64 8 rfl rfl rfl rfl rfl rfl rfl Tryd.underlying71 rfl rfl (by decide) rfl ?_
 refine sStLoad 11 72 9 rfl rfl rfl rfl rfl rfl rfl rfl ?_
 refine dT 12 80 10 rfl ?_
 refine dV 13 88 11 rfl ⟨Nat.le_refl _, trivial, (by show (_ + 1) * 24 ≤ 140737488355328; omega), (by simp only [maxLen]; omega)⟩ ?_
 refine dc1 (concat2 ch op hok) [88] [88, 96] 14 96 12 rfl rfl rfl rfl rfl rfl rfl rfl Tryd.func67 rfl rfl rfl rfl ⟨rfl, trivial⟩ rfl rfl ?_
 refine dT 2 104 13 rfl <| de1 112 rfl (by kernel_rfl) <| keep [2] rfl <| W_ret ?_
 exact out1 2 (.sl 0 0 (allS ch op).length) (π := [96]) (hout := [some (smB (allS ch op))]) Tryd.results41 rfl rfl rfl rfl ⟨rfl, trivial⟩ ⟨rfl, rfl⟩
theorem within_any (ch : List (List Smp)) (op : List Smp) (hok : LnOk ch op) (a b : Int) : Spec Tryd.prog GF 32 [.ptr 0 0 0, SV.i a, SV.i b] [.cells 71 2 [.sl 1 0 ch.length, .sl 2 0 op.length], chsB ch, smB op] (fun r ho => r = .sl 3 0 ((allS ch op).filter (inR a b)).length ∧ ho = [some (.cells 71 2 [.sl 1 0 ch.length, .sl 2 0 op.length]), some (chsB ch), some (smB op), some (smB ((allS ch op).filter (inR a b)))]) := by
 have hall := hok.all
 have hopl := hok.o
 refine start 11 3 Tryd.func32 rfl rfl rfl rfl ?_
 refine r1 <| sT 4 3 1 rfl <| sT 5 11 2 rfl <| sT 6 19 3 rfl <| e1 27 rfl <| keep [0, 4, 5] rfl <| r1 <| sT 7 27 1 rfl ?_
 refine sLend (all_any ch op hok) (smp_flat _) [(0, .cells 71 2 [.sl 1 0 ch.length, .sl 2 0 op.length]), (1, chsB ch), (2, smB op)] 8 35 2 rfl rfl rfl rfl rfl rfl rfl Tryd.func41 rfl rfl ⟨rfl, rfl, rfl, trivial⟩ (by intro M F ρ a h w hv hH hbs i y hy; match i, hy with | 0, hy => (cases hy; refine ⟨_, rfl, st_all hH (show h 0 = some _ from hbs (0, .cells 71 2 [.sl 1 0 ch.length, .sl 2 0 op.length]) (by simp)) (hv (.tmp 7) (by simp [Op.operands, Call.operands])) fun j d hd => ?_⟩; match j, hd with | 0, hd => (cases hd; exact ⟨_, rfl, fun u hu => sl_all hH (show h 1 = some _ from hbs (1, chsB ch) (by simp)) (Nat.le_refl _) hu⟩) | 1, hd => (cases hd; exact ⟨_, rfl, fun u hu => sl_all hH (show h 2 = some _ from hbs (2, smB op) (by simp)) (Nat.le_refl _) hu⟩) | j + 2, hd => simp at hd) | i + 1, hy => simp at hy) ?_
 refine sT 9 43 3 rfl ?_
 refine c1 (deleteS_any (allS ch op) (by unfold allS; rw [List.length_append]; omega) a b) [35, 3, 11] [35, 3, 11] 10 51 4 rfl rfl rfl rfl rfl rfl rfl rfl Tryd.func45 rfl rfl rfl rfl ⟨rfl, rfl, rfl, trivial⟩ rfl rfl ?_
 refine sT 6 59 5 rfl <| e1 67 rfl <| keep [6] rfl <| W_ret ?_
 exact out1 6 (.sl 3 0 ((allS ch op).filter (inR a b)).length) (π := [0, 1, 2, 35]) (hout := [some (.cells 71 2 [.sl 1 0 ch.length, .sl 2 0 op.length]), some (chsB ch), some (smB op), some (smB ((allS ch op).filter (inR a b)))]) Tryd.results32 rfl rfl rfl rfl ⟨rfl, rfl, rfl, rfl, trivial⟩ ⟨rfl, rfl⟩
theorem trim_any (ch : List (List Smp)) (op : List Smp) (hok : LnOk ch op) (k : Int) : Spec Tryd.prog GF 29 [.ptr 0 0 0, SV.i k] [.cells 71 2 [.sl 1 0 ch.length, .sl 2 0 op.length], chsB ch, smB op] (fun r ho => r = SV.tup [] ∧ ho = [some (.cells 71 2 [.sl 3 0 (ch.filter (keepC k)).length, .sl 2 0 op.length]), none, some (smB op), some (chsB (ch.filter (keepC k)))]) := by
 have hcl := hok.c
 refine start 14 3 Tryd.func29 rfl rfl rfl rfl ?_
 refine r1 <| sT 3 3 1 rfl <| e1 11 rfl <| keep [0, 3] rfl ?_
 refine cfreeze 0 0 1 ch.length rfl rfl rfl (Nat.le_refl _) rfl ?_
 refine r0 ?_
 refine sT 4 11 1 rfl <| sT 5 19 2 rfl <| sT 6 27 3 rfl <| sT 7 35 4 rfl <| sO 8 43 5 rfl ?_
 refine c1 (cloneC_any ch (by omega)) [] [51] 9 51 6 rfl rfl rfl rfl rfl rfl rfl rfl Tryd.func43 rfl rfl rfl rfl trivial rfl rfl ?_
 refine sT 10 59 7 rfl ?_
 refine c1 (deleteC_any ch (by omega) (fun i hi => ⟨(hok.ne i hi).1, Nat.le_trans (hok.ne i hi).2 (by decide)⟩) k) [51, 3] [51, 3] 11 67 8 rfl rfl rfl rfl rfl rfl rfl rfl Tryd.func42 rfl rfl rfl rfl ⟨rfl, rfl, trivial⟩ rfl rfl ?_
 refine sT 12 75 9 rfl <| sT 13 83 10 rfl <| s0O 91 11 rfl rfl rfl rfl rfl <| e1 99 rfl ?_
 exact out0 (π := [0, 1, 2, 51]) (hout := [some (.cells 71 2 [.sl 3 0 (ch.filter (keepC k)).length, .sl 2 0 op.length]), none, some (smB op), some (chsB (ch.filter (keepC k)))]) Tryd.results29 rfl rfl ⟨rfl, rfl, rfl, trivial⟩ ⟨rfl, rfl⟩
end Go.Proofs.YtalhangpahffeaaDoor.Nice
namespace Go.Proofs.YtalhangpahffeaaDoor.Nice
open Go Go.Proofs
set_option linter.unusedVariables false
set_option linter.unusedSimpArgs false
set_option maxRecDepth 100000
set_option maxHeartbeats 4000000
structure SeR where
 e : Int
 ch : List (List Smp)
 op : List Smp
 F : List Int
 cnt : Nat
def sealF (nm : ByteArray) (ch : List (List Smp)) (op : List Smp) (F : List Int) (cnt : Nat) : SeR :=
 if op.length = 0 then ⟨0, ch, op, F, cnt⟩ else if ch.length = 30 ∨ cnt = 200 then ⟨8, ch, op, F, cnt⟩ else ⟨0, ch ++ [op], [], F ++ recB (namedL 2 nm ++ encB op), cnt + 1⟩
theorem seal_nil {nm : ByteArray} {ch : List (List Smp)} {op : List Smp} {F : List Int} {cnt : Nat} (h : op.length = 0) : sealF nm ch op F cnt = ⟨0, ch, op, F, cnt⟩ := by unfold sealF; rw [if_pos h]
theorem seal_full {nm : ByteArray} {ch : List (List Smp)} {op : List Smp} {F : List Int} {cnt : Nat} (h : ¬ op.length = 0) (h2 : ch.length = 30 ∨ cnt = 200) : sealF nm ch op F cnt = ⟨8, ch, op, F, cnt⟩ := by unfold sealF; rw [if_neg h, if_pos h2]
theorem seal_yes {nm : ByteArray} {ch : List (List Smp)} {op : List Smp} {F : List Int} {cnt : Nat} (h : ¬ op.length = 0) (h2 : ¬ ch.length = 30) (h3 : ¬ cnt = 200) : sealF nm ch op F cnt = ⟨0, ch ++ [op], [], F ++ recB (namedL 2 nm ++ encB op), cnt + 1⟩ := by unfold sealF; rw [if_neg h, if_neg (by omega)]
theorem app_len (x y : List Int) : x.length + y.length = (x ++ y).length := List.length_append.symm
theorem encB_len (l : List Smp) : (encB l).length ≤ 1 + 30 * l.length + 1 := by
 have := encL_len l l.length
 unfold encB
 rw [pack_length]; omega
theorem pack_bytes' (M : List Int) (h : AllBits M) (hn : M.length ≤ 1000000) : Bytes (pack M) := by
 exact bytes_of (by rw [pack_length]; omega) (pack_bd M h)
theorem recS_any {Z : List Nat} {es : List (Value × SV × List InB)} (F b : List Int) (hF : F.length ≤ 1000000) (hb : Bytes b) (h4 : b.length ≤ 4000) (cnt : Nat) (hr : cnt ≤ 1000) {N : Nat} {f : Nat → Nat → D} (hN : N = b.length) (hf : ∀ i c, i < N → c < 1 → f i c = u8F b i c) : Spec Tryd.prog GF 23 [.ptr 0 0 0, .sl 3 0 N] [.cells 39 3 [.map 1, .sl 2 0 F.length, SV.i cnt], .fam Z ⟨es, [], none⟩, u8B F, .rows 5 1 N f] (fun r ho => r = SV.tup [] ∧ ho = [some (.cells 39 3 [.map 1, .sl 4 0 (F ++ recB b).length, SV.i (cnt + 1 : Nat)]), some (.fam Z ⟨es, [], none⟩), none, none, some (u8B (F ++ recB b))]) := by
 subst hN
 have hrl := recB_len b
 refine start 27 4 Tryd.func23 rfl rfl rfl rfl ?_
 refine rowsc 3 b.length (u8F b) rfl rfl hf ?_
 refine freeze 1 3 b.length rfl rfl (Nat.le_refl _) ?_
 refine r1 <| sT 7 4 1 rfl ?_
 refine c1 (frec_any b hb h4) [] [12] 8 12 2 rfl rfl rfl rfl rfl rfl rfl rfl Tryd.func36 rfl rfl rfl rfl trivial rfl rfl ?_
 refine sT 6 20 3 rfl <| sT 9 28 4 rfl <| sT 10 36 5 rfl <| sT 4 44 6 rfl <| sT 5 52 7 rfl <| e1 60 rfl <| keep [0, 4] rfl <| r1 <| sT 11 60 1 rfl <| sT 12 68 2 rfl <| sT 13 76 3 rfl <| sT 14 84 4 rfl <| sO 15 92 5 rfl <| sT 16 100 6 rfl ?_
 refine sV 17 108 7 rfl ⟨Nat.le_refl _, (by omega), (by show (_ + _) * 1 ≤ 140737488355328; omega), (by simp only [maxLen]; omega)⟩ ?_
 refine sT 18 116 8 rfl <| sT 19 124 9 rfl <| s0O 132 10 rfl rfl rfl rfl rfl <| e1 140 rfl <| keep [0] rfl ?_
 refine rowsc 108 (F ++ recB b).length (u8F (F ++ recB b)) rfl (by rw [List.length_append]) (fun i c hi hc => u8_cat i c hi hc) ?_
 refine chval 0 (.cells 39 3 [.map 1, .sl 108 0 (F ++ recB b).length, SV.i cnt]) rfl (congrArg (fun n => Blk.cells 39 3 [.map 1, .sl 108 0 n, SV.i cnt]) (app_len F (recB b))) ?_
 refine r0 ?_
 refine sT 20 140 1 rfl <| sT 21 148 2 rfl <| sT 22 156 3 rfl <| sO 23 164 4 rfl <| sAO 24 172 5 rfl ?_
 refine val 24 (SV.i (cnt + 1 : Nat)) rfl (congrArg SV.i (by omega)) ?_
 refine sT 25 180 6 rfl <| sT 26 188 7 rfl <| s0O 196 8 rfl rfl rfl rfl rfl <| e1 204 rfl ?_
 exact out0 (π := [0, 1, 2, 3, 108]) (hout := [some (.cells 39 3 [.map 1, .sl 4 0 (F ++ recB b).length, SV.i (cnt + 1 : Nat)]), some (.fam Z ⟨es, [], none⟩), none, none, some (u8B (F ++ recB b))]) Tryd.results23 rfl rfl ⟨rfl, rfl, rfl, trivial⟩ ⟨rfl, rfl⟩
theorem recO_any {Z : List Nat} {es : List (Value × SV × List InB)} {j n1 n2 : Nat} {f1 f2 : Nat → Nat → D} (F b : List Int) (hF : F.length ≤ 1000000) (hb : Bytes b) (h4 : b.length ≤ 4000) (cnt : Nat) (hr : cnt ≤ 1000) {N : Nat} {f : Nat → Nat → D} (hN : N = b.length) (hf : ∀ i c, i < N → c < 1 → f i c = u8F b i c) : Spec Tryd.prog GF 23 [.ptr 0 0 0, .sl 3 0 N] [.cells 39 3 [.map 1, .sl 2 0 F.length, SV.i cnt], .fam Z ⟨es, [(j, .ptr 4 0 0)], none⟩, u8B F, .rows 5 1 N f, .cells 71 2 [.sl 5 0 n1, .sl 6 0 n2], .rows 29 1 n1 f1, .rows 41 2 n2 f2] (fun r ho => r = SV.tup [] ∧ ho = [some (.cells 39 3 [.map 1, .sl 7 0 (F ++ recB b).length, SV.i (cnt + 1 : Nat)]), some (.fam Z ⟨es, [(j, .ptr 4 0 0)], none⟩), none, none, some (.cells 71 2 [.sl 5 0 n1, .sl 6 0 n2]), some (.rows 29 1 n1 f1), some (.rows 41 2 n2 f2), some (u8B (F ++ recB b))]) := by
 subst hN
 have hrl := recB_len b
 refine start 27 7 Tryd.func23 rfl rfl rfl rfl ?_
 refine rowsc 3 b.length (u8F b) rfl rfl hf ?_
 refine freeze 1 3 b.length rfl rfl (Nat.le_refl _) ?_
 refine r1 <| sT 7 7 1 rfl ?_
 refine c1 (frec_any b hb h4) [] [15] 8 15 2 rfl rfl rfl rfl rfl rfl rfl rfl Tryd.func36 rfl rfl rfl rfl trivial rfl rfl ?_
 refine sT 6 23 3 rfl <| sT 9 31 4 rfl <| sT 10 39 5 rfl <| sT 4 47 6 rfl <| sT 5 55 7 rfl <| e1 63 rfl <| keep [0, 4] rfl <| r1 <| sT 11 63 1 rfl <| sT 12 71 2 rfl <| sT 13 79 3 rfl <| sT 14 87 4 rfl <| sO 15 95 5 rfl <| sT 16 103 6 rfl ?_
 refine sV 17 111 7 rfl ⟨Nat.le_refl _, (by omega), (by show (_ + _) * 1 ≤ 140737488355328; omega), (by simp only [maxLen]; omega)⟩ ?_
 refine sT 18 119 8 rfl <| sT 19 127 9 rfl <| s0O 135 10 rfl rfl rfl rfl rfl <| e1 143 rfl <| keep [0] rfl ?_
 refine rowsc 111 (F ++ recB b).length (u8F (F ++ recB b)) rfl (by rw [List.length_append]) (fun i c hi hc => u8_cat i c hi hc) ?_
 refine chval 0 (.cells 39 3 [.map 1, .sl 111 0 (F ++ recB b).length, SV.i cnt]) rfl (congrArg (fun n => Blk.cells 39 3 [.map 1, .sl 111 0 n, SV.i cnt]) (app_len F (recB b))) ?_
 refine r0 ?_
 refine sT 20 143 1 rfl <| sT 21 151 2 rfl <| sT 22 159 3 rfl <| sO 23 167 4 rfl <| sAO 24 175 5 rfl ?_
 refine val 24 (SV.i (cnt + 1 : Nat)) rfl (congrArg SV.i (by omega)) ?_
 refine sT 25 183 6 rfl <| sT 26 191 7 rfl <| s0O 199 8 rfl rfl rfl rfl rfl <| e1 207 rfl ?_
 exact out0 (π := [0, 1, 2, 3, 4, 5, 6, 111]) (hout := [some (.cells 39 3 [.map 1, .sl 7 0 (F ++ recB b).length, SV.i (cnt + 1 : Nat)]), some (.fam Z ⟨es, [(j, .ptr 4 0 0)], none⟩), none, none, some (.cells 71 2 [.sl 5 0 n1, .sl 6 0 n2]), some (.rows 29 1 n1 f1), some (.rows 41 2 n2 f2), some (u8B (F ++ recB b))]) Tryd.results23 rfl rfl ⟨rfl, rfl, rfl, rfl, rfl, rfl, trivial⟩ ⟨rfl, rfl⟩
theorem recF_any {Z : List Nat} {es : List (Value × SV × List InB)} {j n1 : Nat} {f1 : Nat → Nat → D} {d2 : D} (F b : List Int) (hF : F.length ≤ 1000000) (hb : Bytes b) (h4 : b.length ≤ 4000) (cnt : Nat) (hr : cnt ≤ 1000) {N : Nat} {f : Nat → Nat → D} (hN : N = b.length) (hf : ∀ i c, i < N → c < 1 → f i c = u8F b i c) : Spec Tryd.prog GF 23 [.ptr 0 0 0, .sl 3 0 N] [.cells 39 3 [.map 1, .sl 2 0 F.length, SV.i cnt], .fam Z ⟨es, [(j, .ptr 4 0 0)], none⟩, u8B F, .rows 5 1 N f, .cells 71 2 [.sl 5 0 n1, .d d2], .rows 29 1 n1 f1] (fun r ho => r = SV.tup [] ∧ ho = [some (.cells 39 3 [.map 1, .sl 6 0 (F ++ recB b).length, SV.i (cnt + 1 : Nat)]), some (.fam Z ⟨es, [(j, .ptr 4 0 0)], none⟩), none, none, some (.cells 71 2 [.sl 5 0 n1, .d d2]), some (.rows 29 1 n1 f1), some (u8B (F ++ recB b))]) := by
 subst hN
 have hrl := recB_len b
 refine start 27 6 Tryd.func23 rfl rfl rfl rfl ?_
 refine rowsc 3 b.length (u8F b) rfl rfl hf ?_
 refine freeze 1 3 b.length rfl rfl (Nat.le_refl _) ?_
 refine r1 <| sT 7 6 1 rfl ?_
 refine c1 (frec_any b hb h4) [] [14] 8 14 2 rfl rfl rfl rfl rfl rfl rfl rfl Tryd.func36 rfl rfl rfl rfl trivial rfl rfl ?_
 refine sT 6 22 3 rfl <| sT 9 30 4 rfl <| sT 10 38 5 rfl <| sT 4 46 6 rfl <| sT 5 54 7 rfl <| e1 62 rfl <| keep [0, 4] rfl <| r1 <| sT 11 62 1 rfl <| sT 12 70 2 rfl <| sT 13 78 3 rfl <| sT 14 86 4 rfl <| sO 15 94 5 rfl <| sT 16 102 6 rfl ?_
 refine sV 17 110 7 rfl ⟨Nat.le_refl _, (by omega), (by show (_ + _) * 1 ≤ 140737488355328; omega), (by simp only [maxLen]; omega)⟩ ?_
 refine sT 18 118 8 rfl <| sT 19 126 9 rfl <| s0O 134 10 rfl rfl rfl rfl rfl <| e1 142 rfl <| keep [0] rfl ?_
 refine rowsc 110 (F ++ recB b).length (u8F (F ++ recB b)) rfl (by rw [List.length_append]) (fun i c hi hc => u8_cat i c hi hc) ?_
 refine chval 0 (.cells 39 3 [.map 1, .sl 110 0 (F ++ recB b).length, SV.i cnt]) rfl (congrArg (fun n => Blk.cells 39 3 [.map 1, .sl 110 0 n, SV.i cnt]) (app_len F (recB b))) ?_
 refine r0 ?_
 refine sT 20 142 1 rfl <| sT 21 150 2 rfl <| sT 22 158 3 rfl <| sO 23 166 4 rfl <| sAO 24 174 5 rfl ?_
 refine val 24 (SV.i (cnt + 1 : Nat)) rfl (congrArg SV.i (by omega)) ?_
 refine sT 25 182 6 rfl <| sT 26 190 7 rfl <| s0O 198 8 rfl rfl rfl rfl rfl <| e1 206 rfl ?_
 exact out0 (π := [0, 1, 2, 3, 4, 5, 110]) (hout := [some (.cells 39 3 [.map 1, .sl 6 0 (F ++ recB b).length, SV.i (cnt + 1 : Nat)]), some (.fam Z ⟨es, [(j, .ptr 4 0 0)], none⟩), none, none, some (.cells 71 2 [.sl 5 0 n1, .d d2]), some (.rows 29 1 n1 f1), some (u8B (F ++ recB b))]) Tryd.results23 rfl rfl ⟨rfl, rfl, rfl, rfl, rfl, trivial⟩ ⟨rfl, rfl⟩
end Go.Proofs.YtalhangpahffeaaDoor.Nice
namespace Go.Proofs.YtalhangpahffeaaDoor.Nice
open Go Go.Proofs
set_option linter.unusedVariables false
set_option linter.unusedSimpArgs false
set_option maxRecDepth 100000
set_option maxHeartbeats 4000000
theorem smpIn_of {l : List Smp} (h : sfault l = 0) : SmpIn l := by
 obtain ⟨h1, h2⟩ := sf_parts h
 have key : ∀ k, inRange (l.getD k default).t ∧ inRange (l.getD k default).v := by
   intro k
   by_cases hk : k < l.length
   · obtain ⟨a, b, _⟩ := smp_at h2 hk
     unfold inB at a b
     unfold inRange
     exact ⟨by omega, by omega⟩
   · rw [show l.getD k default = default from by simp [List.getD, hk]]
     exact ⟨by unfold inRange; constructor <;> decide, by unfold inRange; constructor <;> decide⟩
 exact ⟨by omega, fun k => (key k).1, fun k => (key k).2⟩
theorem smpIn_one {s : Smp} (h : inRange s.t ∧ inRange s.v) : SmpIn [s] := by
 refine ⟨by simp, fun k => ?_, fun k => ?_⟩
 · cases k with
   | zero => exact h.1
   | succ k => show inRange (default : Smp).t; unfold inRange; constructor <;> decide
 · cases k with
   | zero => exact h.2
   | succ k => show inRange (default : Smp).v; unfold inRange; constructor <;> decide
theorem encB_bytes (l : List Smp) (h : l.length ≤ 120) : Bytes (encB l) := by
 refine pack_bytes' _ (encL_bits l _) ?_
 have := encL_len l l.length
 omega
theorem namedL_bytes (k : Int) (s : ByteArray) (h0 : 0 ≤ k) (h1 : k ≤ 255) (hs : s.size ≤ 200) : Bytes (namedL k s) := by
 refine bytes_app (bytes_of (by simp) fun x hx => ?_) (nmL_bytes s (by omega)) (by simp [nmL_len]; omega)
 simp at hx
 rcases hx with rfl | rfl <;> omega
theorem sealB_ok (nm : ByteArray) (hs : nm.size ≤ 8) (l : List Smp) (h : l.length ≤ 120) : Bytes (namedL 2 nm ++ encB l) ∧ (namedL 2 nm ++ encB l).length ≤ 4000 := by
 have h1 := encB_len l
 have h2 := namedL_len 2 nm
 refine ⟨bytes_app (namedL_bytes 2 nm (by omega) (by omega) (by omega)) (encB_bytes l h) (by omega), by rw [List.length_append]; omega⟩
def appF (nm : ByteArray) (s : Smp) (ch : List (List Smp)) (op : List Smp) (F : List Int) (cnt : Nat) : SeR :=
 if sfault [s] ≠ 0 then ⟨sfault [s], ch, op, F, cnt⟩
 else if 0 < (allS ch op).length ∧ s.t ≤ lastT (allS ch op) then ⟨9, ch, op, F, cnt⟩
 else if op.length = 8 then (if (sealF nm ch op F cnt).e ≠ 0 then sealF nm ch op F cnt else ⟨0, (sealF nm ch op F cnt).ch, (sealF nm ch op F cnt).op ++ [s], (sealF nm ch op F cnt).F, (sealF nm ch op F cnt).cnt⟩)
 else ⟨0, ch, op ++ [s], F, cnt⟩
section
variable {nm : ByteArray} {s : Smp} {ch : List (List Smp)} {op : List Smp} {F : List Int} {cnt : Nat}
theorem app_over (h : sfault [s] ≠ 0) : appF nm s ch op F cnt = ⟨sfault [s], ch, op, F, cnt⟩ := by unfold appF; rw [if_pos h]
theorem app_old (h : sfault [s] = 0) (h2 : 0 < (allS ch op).length) (h3 : s.t ≤ lastT (allS ch op)) : appF nm s ch op F cnt = ⟨9, ch, op, F, cnt⟩ := by unfold appF; rw [if_neg (by rw [h]; simp), if_pos ⟨h2, h3⟩]
theorem app_seal {q : SeR} (h : sfault [s] = 0) (h2 : ¬ (0 < (allS ch op).length ∧ s.t ≤ lastT (allS ch op))) (h3 : op.length = 8) (hq : sealF nm ch op F cnt = q) (h4 : q.e ≠ 0) : appF nm s ch op F cnt = q := by unfold appF; rw [if_neg (by rw [h]; simp), if_neg h2, if_pos h3, hq, if_pos h4]
theorem app_sealed {q : SeR} (h : sfault [s] = 0) (h2 : ¬ (0 < (allS ch op).length ∧ s.t ≤ lastT (allS ch op))) (h3 : op.length = 8) (hq : sealF nm ch op F cnt = q) (h4 : q.e = 0) : appF nm s ch op F cnt = ⟨0, q.ch, q.op ++ [s], q.F, q.cnt⟩ := by unfold appF; rw [if_neg (by rw [h]; simp), if_neg h2, if_pos h3, hq, if_neg (by rw [h4]; simp)]
theorem app_yes (h : sfault [s] = 0) (h2 : ¬ (0 < (allS ch op).length ∧ s.t ≤ lastT (allS ch op))) (h3 : ¬ op.length = 8) : appF nm s ch op F cnt = ⟨0, ch, op ++ [s], F, cnt⟩ := by unfold appF; rw [if_neg (by rw [h]; simp), if_neg h2, if_neg h3]
end
theorem sm_one {A : List Smp} {s : Smp} (i c : Nat) (hi : i < A.length + 1) (hc : c < 2) : catR (smpF A) A.length (litR 2 [.val (.int .i64 s.t), .val (.int .i64 s.v)]) i c = smpF (A ++ [s]) i c := cat_smp' i c hi hc
theorem sm_len (A : List Smp) (s : Smp) : A.length + 1 = (A ++ [s]).length := by simp
theorem seal_cnt {nm : ByteArray} {ch : List (List Smp)} {op : List Smp} {F : List Int} {cnt : Nat} (hs : nm.size ≤ 8) (hop : op.length ≤ 120) : (sealF nm ch op F cnt).op.length ≤ op.length ∧ (sealF nm ch op F cnt).ch.length ≤ ch.length + 1 ∧ (sealF nm ch op F cnt).F.length ≤ F.length + 4006 := by
 unfold sealF
 have := (sealB_ok nm hs op hop).2
 have h2 := recB_len (namedL 2 nm ++ encB op)
 split
 · exact ⟨Nat.le_refl _, Nat.le_succ _, by simp⟩
 · split
   · exact ⟨Nat.le_refl _, Nat.le_succ _, by simp⟩
   · refine ⟨Nat.zero_le _, by simp, ?_⟩
     simp only [List.length_append] at *; omega
theorem seal_any {Z : List Nat} {es : List (Value × SV × List InB)} {j : Nat} (nm : ByteArray) (hnm : nm.size ≤ 8) (ch : List (List Smp)) (op : List Smp) (hok : LnOk ch op) (hso : sfault op = 0) (hc30 : ch.length ≤ 30) (ho8 : op.length ≤ 8) (F : List Int) (hF : F.length ≤ 900000) (cnt : Nat) (hr : cnt ≤ 200) (q : SeR) (hq : sealF nm ch op F cnt = q) : Spec Tryd.prog GF 28 [.ptr 0 0 0, .ptr 3 0 0, .d (.val (.string nm))] [.cells 39 3 [.map 1, .sl 2 0 F.length, SV.i cnt], .fam Z ⟨es, [(j, .ptr 3 0 0)], none⟩, u8B F, .cells 71 2 [.sl 4 0 ch.length, .sl 5 0 op.length], chsB ch, smB op] (fun r ho => r = SV.i q.e ∧ ho = [some (.cells 39 3 [.map 1, .sl 6 0 q.F.length, SV.i q.cnt]), some (.fam Z ⟨es, [(j, .ptr 3 0 0)], none⟩), none, some (.cells 71 2 [.sl 7 0 q.ch.length, .sl 8 0 q.op.length]), none, none, some (u8B q.F), some (chsB q.ch), some (smB q.op)]) := by
 have hsb := sealB_ok nm hnm op hok.o
 refine start 60 6 Tryd.func28 rfl rfl rfl rfl ?_
 refine r1 <| sT 6 6 1 rfl <| e1 14 rfl <| keep [0, 1, 2] rfl <| W_seq <| W_block <| r1 <| sT 10 14 1 rfl <| sT 11 22 2 rfl <| sT 12 30 3 rfl <| sO 13 38 4 rfl <| sO 14 46 5 rfl <| sO 15 54 6 rfl <| sT 9 62 7 rfl <| e1 70 rfl <| keep [0, 1, 2, 9] rfl ?_
 refine q1 rfl (fun hc1 => ?_) (fun hc1 => ?_)
 try simp only [cs, ne_eq] at hc1
 refine r1 <| sT 6 70 1 rfl <| e1 78 rfl <| keep [6] rfl <| rename 2 rfl rfl <| rename 4 rfl rfl <| rename 5 rfl rfl <| W_ret <| br <| tr ?_
 obtain rfl := hq.symm.trans (seal_nil (by omega))
 exact out1 6 (SV.i 0) (π := [0, 1, 2, 3, 4, 5, 78, 86, 94]) (hout := [some (.cells 39 3 [.map 1, .sl 6 0 (SeR.mk 0 ch op F cnt).F.length, SV.i (SeR.mk 0 ch op F cnt).cnt]), some (.fam Z ⟨es, [(j, .ptr 3 0 0)], none⟩), none, some (.cells 71 2 [.sl 7 0 (SeR.mk 0 ch op F cnt).ch.length, .sl 8 0 (SeR.mk 0 ch op F cnt).op.length]), none, none, some (u8B (SeR.mk 0 ch op F cnt).F), some (chsB (SeR.mk 0 ch op F cnt).ch), some (smB (SeR.mk 0 ch op F cnt).op)]) Tryd.results28 rfl rfl rfl rfl ⟨rfl, rfl, rfl, rfl, rfl, rfl, trivial⟩ ⟨rfl, rfl⟩
 try simp only [cs, ne_eq] at hc1
 refine r1 <| sT 17 70 1 rfl <| sT 18 78 2 rfl <| sT 19 86 3 rfl <| sO 20 94 4 rfl <| sO 21 102 5 rfl <| sO 22 110 6 rfl <| sT 23 118 7 rfl ?_
 refine ask 23 rfl (fun hg3_23 => ?_) (fun hg3_23 => ?_)
 try simp only [cs, ne_eq] at hg3_23
 refine gF 6 false 23 24 8 rfl rfl <| gF 6 false 23 25 9 rfl rfl <| gF 6 false 23 26 10 rfl rfl <| gF 6 false 23 27 11 rfl rfl <| gF 6 false 23 28 12 rfl rfl <| sT 29 166 13 rfl <| sT 16 174 14 rfl <| e1 182 rfl <| keep [0, 1, 2, 16] rfl ?_
 refine q1 rfl (fun hc3 => ?_) (fun hc3 => ?_)
 try simp only [cs, ne_eq] at hc3
 refine r1 <| sT 6 182 1 rfl <| e1 190 rfl <| keep [6] rfl <| rename 2 rfl rfl <| rename 4 rfl rfl <| rename 5 rfl rfl <| W_ret <| br <| tr ?_
 obtain rfl := hq.symm.trans (seal_full (by omega) (by omega))
 exact out1 6 (SV.i 8) (π := [0, 1, 2, 3, 4, 5, 190, 198, 206]) (hout := [some (.cells 39 3 [.map 1, .sl 6 0 (SeR.mk 8 ch op F cnt).F.length, SV.i (SeR.mk 8 ch op F cnt).cnt]), some (.fam Z ⟨es, [(j, .ptr 3 0 0)], none⟩), none, some (.cells 71 2 [.sl 7 0 (SeR.mk 8 ch op F cnt).ch.length, .sl 8 0 (SeR.mk 8 ch op F cnt).op.length]), none, none, some (u8B (SeR.mk 8 ch op F cnt).F), some (chsB (SeR.mk 8 ch op F cnt).ch), some (smB (SeR.mk 8 ch op F cnt).op)]) Tryd.results28 rfl rfl rfl rfl ⟨rfl, rfl, rfl, rfl, rfl, rfl, trivial⟩ ⟨rfl, rfl⟩
 exact absurd hc3 (by decide)
 try simp only [cs, ne_eq] at hg3_23
 refine gT 6 false 23 8 rfl rfl <| sT 24 126 8 rfl <| gT 6 false 23 9 rfl rfl <| sT 25 134 9 rfl <| gT 6 false 23 10 rfl rfl <| sT 26 142 10 rfl <| gT 6 false 23 11 rfl rfl <| sO 27 150 11 rfl <| gT 6 false 23 12 rfl rfl <| sO 28 158 12 rfl <| sT 29 166 13 rfl <| sT 16 174 14 rfl <| e1 182 rfl <| keep [0, 1, 2, 16] rfl ?_
 refine q1 rfl (fun hc3 => ?_) (fun hc3 => ?_)
 try simp only [cs, ne_eq] at hc3
 refine r1 <| sT 6 182 1 rfl <| e1 190 rfl <| keep [6] rfl <| rename 2 rfl rfl <| rename 4 rfl rfl <| rename 5 rfl rfl <| W_ret <| br <| tr ?_
 obtain rfl := hq.symm.trans (seal_full (by omega) (by omega))
 exact out1 6 (SV.i 8) (π := [0, 1, 2, 3, 4, 5, 190, 198, 206]) (hout := [some (.cells 39 3 [.map 1, .sl 6 0 (SeR.mk 8 ch op F cnt).F.length, SV.i (SeR.mk 8 ch op F cnt).cnt]), some (.fam Z ⟨es, [(j, .ptr 3 0 0)], none⟩), none, some (.cells 71 2 [.sl 7 0 (SeR.mk 8 ch op F cnt).ch.length, .sl 8 0 (SeR.mk 8 ch op F cnt).op.length]), none, none, some (u8B (SeR.mk 8 ch op F cnt).F), some (chsB (SeR.mk 8 ch op F cnt).ch), some (smB (SeR.mk 8 ch op F cnt).op)]) Tryd.results28 rfl rfl rfl rfl ⟨rfl, rfl, rfl, rfl, rfl, rfl, trivial⟩ ⟨rfl, rfl⟩
 try simp only [cs, ne_eq] at hc3
 refine W_skip <| bn <| tn ?_
 refine cfreeze 3 1 5 op.length rfl rfl rfl (Nat.le_refl _) rfl ?_
 refine r1 <| sT 31 182 1 rfl <| sT 32 190 2 rfl <| sT 33 198 3 rfl <| sO 34 206 4 rfl ?_
 refine c1 (encode_ok op (smpIn_of hso) hso) [] [214] 35 214 5 rfl rfl rfl rfl rfl rfl rfl rfl Tryd.func40 rfl rfl rfl rfl trivial rfl rfl ?_
 refine sT 30 222 6 rfl <| sT 36 230 7 rfl <| sT 37 238 8 rfl <| sT 7 246 9 rfl <| sT 8 254 10 rfl <| e1 262 rfl <| keep [0, 1, 2, 7] rfl <| r1 <| sT 38 262 1 rfl <| sT 39 270 2 rfl ?_
 refine c1 (named_any 2 nm (by omega)) [] [278] 40 278 3 rfl rfl rfl rfl rfl rfl rfl rfl Tryd.func31 rfl rfl rfl rfl trivial rfl rfl ?_
 refine sT 41 286 4 rfl ?_
 refine sV 42 294 5 rfl ⟨Nat.le_refl _, (by omega), (by have := hsb.2; rw [List.length_append] at this; show (_ + _) * 1 ≤ 140737488355328; omega), (by have := hsb.2; rw [List.length_append] at this; simp only [maxLen]; omega)⟩ ?_
 refine c1 (recF_any F (namedL 2 nm ++ encB op) (by omega) hsb.1 hsb.2 cnt (by omega) (app_len _ _) (fun i c hi hc => u8_cat i c hi hc)) [0, 1, 2, 294, 3, 4] [0, 1, 2, 294, 3, 4, 302] 43 302 6 rfl rfl rfl rfl rfl rfl rfl rfl Tryd.func23 rfl rfl rfl rfl ⟨rfl, rfl, rfl, rfl, rfl, rfl, trivial⟩ rfl rfl ?_
 refine e1 310 rfl <| keep [1] rfl ?_
 refine rd1 rfl ?_
 refine dT 44 310 1 rfl <| dT 45 318 2 rfl <| dT 46 326 3 rfl <| dT 47 334 4 rfl <| dT 48 342 5 rfl <| dO 49 350 6 rfl <| dT 50 358 7 rfl <| dT 51 366 8 rfl <| dT 52 374 9 rfl <| dO 53 382 10 rfl <| dT 54 390 11 rfl ?_
 refine dV 55 398 12 rfl ⟨Nat.le_refl _, trivial, (by show (_ + 1) * 24 ≤ 140737488355328; omega), (by simp only [maxLen]; omega)⟩ ?_
 refine dT 56 406 13 rfl <| dT 57 414 14 rfl ?_
 refine d0 422 15 rfl rfl rfl rfl rfl (by first | trivial | omega) ?_
 refine dT 58 430 16 rfl <| dT 59 438 17 rfl ?_
 refine d0 446 18 rfl rfl rfl rfl rfl (by first | trivial | omega) ?_
 refine de1 454 rfl (by kernel_rfl) <| keep [] rfl ?_
 refine rowsc 398 (ch ++ [op]).length (chF (ch ++ [op])) rfl (by simp) (fun i c hi hc => ch_one rfl i c hi hc) ?_
 refine cghostly 3 1 41 2 (smpF []) rfl rfl rfl ?_
 refine chval 3 (.cells 71 2 [.sl 398 0 (ch ++ [op]).length, .sl 454 0 0]) rfl (congrArg (fun n => Blk.cells 71 2 [.sl 398 0 n, .sl 454 0 0]) (show ch.length + 1 = (ch ++ [op]).length by simp)) ?_
 refine r1 <| sT 6 462 1 rfl <| e1 470 rfl <| keep [6] rfl <| W_ret ?_
 obtain rfl := hq.symm.trans (seal_yes (by omega) (by omega) (by omega))
 exact out1 6 (SV.i 0) (π := [0, 1, 2, 3, 4, 5, 302, 398, 454]) (hout := [some (.cells 39 3 [.map 1, .sl 6 0 (SeR.mk 0 (ch ++ [op]) [] (F ++ recB (namedL 2 nm ++ encB op)) (cnt + 1)).F.length, SV.i (SeR.mk 0 (ch ++ [op]) [] (F ++ recB (namedL 2 nm ++ encB op)) (cnt + 1)).cnt]), some (.fam Z ⟨es, [(j, .ptr 3 0 0)], none⟩), none, some (.cells 71 2 [.sl 7 0 (SeR.mk 0 (ch ++ [op]) [] (F ++ recB (namedL 2 nm ++ encB op)) (cnt + 1)).ch.length, .sl 8 0 (SeR.mk 0 (ch ++ [op]) [] (F ++ recB (namedL 2 nm ++ encB op)) (cnt + 1)).op.length]), none, none, some (u8B (SeR.mk 0 (ch ++ [op]) [] (F ++ recB (namedL 2 nm ++ encB op)) (cnt + 1)).F), some (chsB (SeR.mk 0 (ch ++ [op]) [] (F ++ recB (namedL 2 nm ++ encB op)) (cnt + 1)).ch), some (smB (SeR.mk 0 (ch ++ [op]) [] (F ++ recB (namedL 2 nm ++ encB op)) (cnt + 1)).op)]) Tryd.results28 rfl rfl rfl rfl ⟨rfl, rfl, rfl, rfl, rfl, rfl, trivial⟩ ⟨rfl, rfl⟩
theorem append_bad {Z : List Nat} {es : List (Value × SV × List InB)} {j : Nat} (nm : ByteArray) (hnm : nm.size ≤ 8) (s : Smp) (k fr to kp : Int) (hs : inRange s.t ∧ inRange s.v) (ch : List (List Smp)) (op : List Smp) (hok : LnOk ch op) (hso : sfault op = 0) (hc30 : ch.length ≤ 30) (ho8 : op.length ≤ 8) (F : List Int) (hF : F.length ≤ 900000) (cnt : Nat) (hr : cnt ≤ 200) (q0 : SeR) (hq0 : appF nm s ch op F cnt = q0) (hz : sfault [s] ≠ 0) : Spec Tryd.prog GF 27 [.ptr 0 0 0, .ptr 3 0 0, .agg [SV.i k, .d (.val (.string nm)), SV.i s.t, SV.i s.v, SV.i fr, SV.i to, SV.i kp]] [.cells 39 3 [.map 1, .sl 2 0 F.length, SV.i cnt], .fam Z ⟨es, [(j, .ptr 3 0 0)], none⟩, u8B F, .cells 71 2 [.sl 4 0 ch.length, .sl 5 0 op.length], chsB ch, smB op] (fun r ho => r = SV.i q0.e ∧ ho = [some (.cells 39 3 [.map 1, .sl 6 0 q0.F.length, SV.i q0.cnt]), some (.fam Z ⟨es, [(j, .ptr 3 0 0)], none⟩), none, some (.cells 71 2 [.sl 7 0 q0.ch.length, .sl 8 0 q0.op.length]), none, none, some (u8B q0.F), some (chsB q0.ch), some (smB q0.op)]) := by
 refine start 64 6 Tryd.func27 rfl rfl rfl rfl ?_
 refine r1 <| sT 5 6 1 rfl <| sT 6 14 2 rfl <| e1 22 rfl <| keep [0, 1, 5] rfl <| W_seq <| r1 <| sT 12 22 1 rfl <| sO 13 30 2 rfl ?_
 refine sLit 2 (smpF [s]) 14 38 3 rfl rfl rfl rfl rfl rfl rfl rfl rfl (by intro i c hi hc; obtain rfl : i = 0 := (by omega); match c, hc with | 0, _ => rfl | 1, _ => rfl) ?_
 refine c1 (encode_bad [s] (show SmpIn [s] from smpIn_one hs) hz) [] [] 15 46 4 rfl rfl rfl rfl rfl rfl rfl rfl Tryd.func40 rfl rfl rfl rfl trivial rfl rfl ?_
 refine sT 11 54 5 rfl <| sT 16 62 6 rfl <| sT 17 70 7 rfl <| sT 7 78 8 rfl <| sT 8 86 9 rfl <| e1 94 rfl <| keep [0, 1, 5, 8] rfl <| r1 <| sT 18 94 1 rfl <| sO 19 102 2 rfl <| e1 110 rfl <| keep [0, 1, 5, 8, 19] rfl ?_
 refine q1 rfl (fun hc2 => ?_) (fun hc2 => ?_)
 try simp only [cs, ne_eq] at hc2
 refine r1 <| sT 20 110 1 rfl <| sT 6 118 2 rfl <| e1 126 rfl <| keep [6] rfl <| rename 2 rfl rfl <| rename 4 rfl rfl <| rename 5 rfl rfl <| W_ret <| tr ?_
 obtain rfl := hq0.symm.trans (app_over hz)
 exact out1 6 (SV.i (sfault [s])) (π := [0, 1, 2, 3, 4, 5, 126, 134, 142]) (hout := [some (.cells 39 3 [.map 1, .sl 6 0 (SeR.mk (sfault [s]) ch op F cnt).F.length, SV.i (SeR.mk (sfault [s]) ch op F cnt).cnt]), some (.fam Z ⟨es, [(j, .ptr 3 0 0)], none⟩), none, some (.cells 71 2 [.sl 7 0 (SeR.mk (sfault [s]) ch op F cnt).ch.length, .sl 8 0 (SeR.mk (sfault [s]) ch op F cnt).op.length]), none, none, some (u8B (SeR.mk (sfault [s]) ch op F cnt).F), some (chsB (SeR.mk (sfault [s]) ch op F cnt).ch), some (smB (SeR.mk (sfault [s]) ch op F cnt).op)]) Tryd.results27 rfl rfl rfl rfl ⟨rfl, rfl, rfl, rfl, rfl, rfl, trivial⟩ ⟨rfl, rfl⟩
 exact absurd hz (by simpa using hc2)
theorem append_go {Z : List Nat} {es : List (Value × SV × List InB)} {j : Nat} (nm : ByteArray) (hnm : nm.size ≤ 8) (s : Smp) (k fr to kp : Int) (hs : inRange s.t ∧ inRange s.v) (ch : List (List Smp)) (op : List Smp) (hok : LnOk ch op) (hso : sfault op = 0) (hc30 : ch.length ≤ 30) (ho8 : op.length ≤ 8) (F : List Int) (hF : F.length ≤ 900000) (cnt : Nat) (hr : cnt ≤ 200) (q0 : SeR) (hq0 : appF nm s ch op F cnt = q0) (hz : sfault [s] = 0) : Spec Tryd.prog GF 27 [.ptr 0 0 0, .ptr 3 0 0, .agg [SV.i k, .d (.val (.string nm)), SV.i s.t, SV.i s.v, SV.i fr, SV.i to, SV.i kp]] [.cells 39 3 [.map 1, .sl 2 0 F.length, SV.i cnt], .fam Z ⟨es, [(j, .ptr 3 0 0)], none⟩, u8B F, .cells 71 2 [.sl 4 0 ch.length, .sl 5 0 op.length], chsB ch, smB op] (fun r ho => r = SV.i q0.e ∧ ho = [some (.cells 39 3 [.map 1, .sl 6 0 q0.F.length, SV.i q0.cnt]), some (.fam Z ⟨es, [(j, .ptr 3 0 0)], none⟩), none, some (.cells 71 2 [.sl 7 0 q0.ch.length, .sl 8 0 q0.op.length]), none, none, some (u8B q0.F), some (chsB q0.ch), some (smB q0.op)]) := by
 have hall := hok.all
 have hopl := hok.o
 have hal : (allS ch op).length = ch.flatten.length + op.length := (by unfold allS; rw [List.length_append])
 have hsc := seal_cnt (nm := nm) (ch := ch) (F := F) (cnt := cnt) hnm hok.o
 refine start 64 6 Tryd.func27 rfl rfl rfl rfl ?_
 refine r1 <| sT 5 6 1 rfl <| sT 6 14 2 rfl <| e1 22 rfl <| keep [0, 1, 5] rfl <| W_seq <| r1 <| sT 12 22 1 rfl <| sO 13 30 2 rfl ?_
 refine sLit 2 (smpF [s]) 14 38 3 rfl rfl rfl rfl rfl rfl rfl rfl rfl (by intro i c hi hc; obtain rfl : i = 0 := (by omega); match c, hc with | 0, _ => rfl | 1, _ => rfl) ?_
 refine c1 (encode_ok [s] (show SmpIn [s] from smpIn_one hs) hz) [] [46] 15 46 4 rfl rfl rfl rfl rfl rfl rfl rfl Tryd.func40 rfl rfl rfl rfl trivial rfl rfl ?_
 refine sT 11 54 5 rfl <| sT 16 62 6 rfl <| sT 17 70 7 rfl <| sT 7 78 8 rfl <| sT 8 86 9 rfl <| e1 94 rfl <| keep [0, 1, 5, 8] rfl <| r1 <| sT 18 94 1 rfl <| sO 19 102 2 rfl <| e1 110 rfl <| keep [0, 1, 5, 8, 19] rfl ?_
 refine q1 rfl (fun hc2 => ?_) (fun hc2 => ?_)
 exact absurd hc2 (by decide)
 try simp only [cs, ne_eq] at hc2
 refine W_skip <| tn <| W_seq <| r1 <| sT 21 110 1 rfl ?_
 refine sLend (all_any ch op hok) (smp_flat _) [(3, .cells 71 2 [.sl 4 0 ch.length, .sl 5 0 op.length]), (4, chsB ch), (5, smB op)] 22 118 2 rfl rfl rfl rfl rfl rfl rfl Tryd.func41 rfl rfl ⟨rfl, rfl, rfl, trivial⟩ (by intro M F ρ a h w hv hH hbs i y hy; match i, hy with | 0, hy => (cases hy; refine ⟨_, rfl, st_all hH (show h 3 = some _ from hbs (3, .cells 71 2 [.sl 4 0 ch.length, .sl 5 0 op.length]) (by simp)) (hv (.tmp 21) (by simp [Op.operands, Call.operands])) fun j d hd => ?_⟩; match j, hd with | 0, hd => (cases hd; exact ⟨_, rfl, fun u hu => sl_all hH (show h 4 = some _ from hbs (4, chsB ch) (by simp)) (Nat.le_refl _) hu⟩) | 1, hd => (cases hd; exact ⟨_, rfl, fun u hu => sl_all hH (show h 5 = some _ from hbs (5, smB op) (by simp)) (Nat.le_refl _) hu⟩) | j + 2, hd => simp at hd) | i + 1, hy => simp at hy) ?_
 refine sT 9 126 3 rfl <| e1 134 rfl <| keep [0, 1, 5, 9] rfl ?_
 refine rd1 rfl ?_
 refine dT 23 134 1 rfl <| dO 24 142 2 rfl <| dO 25 150 3 rfl <| dT 26 158 4 rfl ?_
 refine ask 26 rfl (fun hg5_26 => ?_) (fun hg5_26 => ?_)
 try simp only [cs, ne_eq] at hg5_26
 refine gT 3 true 26 5 rfl rfl <| dT 27 166 5 rfl <| gT 3 true 26 6 rfl rfl <| dT 28 174 6 rfl <| gT 3 true 26 7 rfl rfl <| dO 29 182 7 rfl <| gT 3 true 26 8 rfl rfl <| dAO 30 190 8 rfl <| gT 3 true 26 9 rfl rfl ?_
 refine dV 31 198 9 rfl ⟨⟨by omega, by omega⟩, by omega⟩ ?_
 refine gT 3 true 26 10 rfl rfl <| dT 32 206 10 rfl <| gT 3 true 26 11 rfl rfl <| dO 33 214 11 rfl ?_
 refine val 33 (SV.i (lastT (allS ch op))) rfl (congrArg SV.i (congrArg (fun n => ((allS ch op).getD n default).t) (by omega))) ?_
 refine gT 3 true 26 12 rfl rfl <| dT 34 222 12 rfl <| gT 3 true 26 13 rfl rfl <| dT 35 230 13 rfl <| gT 3 true 26 14 rfl rfl <| dO 36 238 14 rfl <| gT 3 true 26 15 rfl rfl <| dO 37 246 15 rfl <| dT 38 254 16 rfl <| de1 262 rfl (by kernel_rfl) <| keep [0, 1, 5, 38] rfl ?_
 refine q1 rfl (fun hc5 => ?_) (fun hc5 => ?_)
 try simp only [cs, ne_eq] at hc5
 refine r1 <| sT 6 262 1 rfl <| e1 270 rfl <| keep [6] rfl <| rename 2 rfl rfl <| rename 4 rfl rfl <| rename 5 rfl rfl <| W_ret <| tr ?_
 obtain rfl := hq0.symm.trans (app_old hz (by omega) (by omega))
 exact out1 6 (SV.i 9) (π := [0, 1, 2, 3, 4, 5, 270, 278, 286]) (hout := [some (.cells 39 3 [.map 1, .sl 6 0 (SeR.mk 9 ch op F cnt).F.length, SV.i (SeR.mk 9 ch op F cnt).cnt]), some (.fam Z ⟨es, [(j, .ptr 3 0 0)], none⟩), none, some (.cells 71 2 [.sl 7 0 (SeR.mk 9 ch op F cnt).ch.length, .sl 8 0 (SeR.mk 9 ch op F cnt).op.length]), none, none, some (u8B (SeR.mk 9 ch op F cnt).F), some (chsB (SeR.mk 9 ch op F cnt).ch), some (smB (SeR.mk 9 ch op F cnt).op)]) Tryd.results27 rfl rfl rfl rfl ⟨rfl, rfl, rfl, rfl, rfl, rfl, trivial⟩ ⟨rfl, rfl⟩
 try simp only [cs, ne_eq] at hc5
 have hnold : ¬ (0 < (allS ch op).length ∧ s.t ≤ lastT (allS ch op)) := (fun h => by have h1 := h.1; have h2 := h.2; omega)
 refine W_skip <| tn <| W_seq <| r1 <| sT 39 262 1 rfl <| sT 40 270 2 rfl <| sT 41 278 3 rfl <| sO 42 286 4 rfl <| sO 43 294 5 rfl <| sO 44 302 6 rfl <| e1 310 rfl <| keep [0, 1, 5, 44] rfl ?_
 refine q1 rfl (fun hc7 => ?_) (fun hc7 => ?_)
 try simp only [cs, ne_eq] at hc7
 obtain ⟨q, hq⟩ : ∃ q, sealF nm ch op F cnt = q := ⟨_, rfl⟩
 rw [hq] at hsc
 refine r1 <| sT 45 310 1 rfl <| sT 46 318 2 rfl <| sT 47 326 3 rfl <| sO 48 334 4 rfl ?_
 refine c1 (seal_any nm hnm ch op hok hso hc30 ho8 F hF cnt hr q hq) [0, 1, 2, 3, 4, 5] [0, 1, 2, 3, 4, 5, 342, 343, 344] 49 342 5 rfl rfl rfl rfl rfl rfl rfl rfl Tryd.func28 rfl rfl rfl rfl ⟨rfl, rfl, rfl, rfl, rfl, rfl, trivial⟩ rfl rfl ?_
 refine sT 10 350 6 rfl <| e1 358 rfl <| keep [1, 5, 10] rfl <| r1 <| sT 50 358 1 rfl <| sO 51 366 2 rfl <| e1 374 rfl <| keep [1, 5, 10, 51] rfl ?_
 refine q1 rfl (fun hc9 => ?_) (fun hc9 => ?_)
 try simp only [cs, ne_eq] at hc9
 refine r1 <| sT 52 374 1 rfl <| sT 6 382 2 rfl <| e1 390 rfl <| keep [6] rfl <| W_ret <| tr ?_
 have e0 : q0 = q := hq0.symm.trans (app_seal hz hnold (by omega) hq hc9)
 subst e0
 exact out1 6 (SV.i q0.e) (π := [0, 1, 2, 3, 4, 5, 342, 343, 344]) (hout := [some (.cells 39 3 [.map 1, .sl 6 0 q0.F.length, SV.i q0.cnt]), some (.fam Z ⟨es, [(j, .ptr 3 0 0)], none⟩), none, some (.cells 71 2 [.sl 7 0 q0.ch.length, .sl 8 0 q0.op.length]), none, none, some (u8B q0.F), some (chsB q0.ch), some (smB q0.op)]) Tryd.results27 rfl rfl rfl rfl ⟨rfl, rfl, rfl, rfl, rfl, rfl, trivial⟩ ⟨rfl, rfl⟩
 try simp only [cs, ne_eq] at hc9
 refine W_skip <| tn ?_
 refine rd1 rfl ?_
 refine dT 53 374 1 rfl <| dT 54 382 2 rfl <| dT 55 390 3 rfl <| dT 56 398 4 rfl <| dO 57 406 5 rfl <| dT 58 414 6 rfl <| dO 59 422 7 rfl <| dT 60 430 8 rfl ?_
 refine dV 61 438 9 rfl ⟨Nat.le_refl _, trivial, (by show (_ + 1) * 16 ≤ 140737488355328; omega), (by simp only [maxLen]; omega)⟩ ?_
 refine dT 62 446 10 rfl <| dT 63 454 11 rfl ?_
 refine d0 462 12 rfl rfl rfl rfl rfl (by first | trivial | omega) ?_
 refine de1 470 rfl (by kernel_rfl) <| keep [] rfl ?_
 refine rowsc 438 (q.op ++ [s]).length (smpF (q.op ++ [s])) rfl (sm_len _ _) (fun i c hi hc => sm_one i c hi hc) ?_
 refine chval 3 (.cells 71 2 [.sl 343 0 q.ch.length, .sl 438 0 (q.op ++ [s]).length]) rfl (congrArg (fun n => Blk.cells 71 2 [.sl 343 0 q.ch.length, .sl 438 0 n]) (sm_len q.op s)) ?_
 refine r1 <| sT 6 470 1 rfl <| e1 478 rfl <| keep [6] rfl <| W_ret ?_
 obtain rfl := hq0.symm.trans (app_sealed hz hnold (by omega) hq hc9)
 exact out1 6 (SV.i 0) (π := [0, 1, 2, 3, 4, 5, 342, 343, 438]) (hout := [some (.cells 39 3 [.map 1, .sl 6 0 (SeR.mk 0 q.ch (q.op ++ [s]) q.F q.cnt).F.length, SV.i (SeR.mk 0 q.ch (q.op ++ [s]) q.F q.cnt).cnt]), some (.fam Z ⟨es, [(j, .ptr 3 0 0)], none⟩), none, some (.cells 71 2 [.sl 7 0 (SeR.mk 0 q.ch (q.op ++ [s]) q.F q.cnt).ch.length, .sl 8 0 (SeR.mk 0 q.ch (q.op ++ [s]) q.F q.cnt).op.length]), none, none, some (u8B (SeR.mk 0 q.ch (q.op ++ [s]) q.F q.cnt).F), some (chsB (SeR.mk 0 q.ch (q.op ++ [s]) q.F q.cnt).ch), some (smB (SeR.mk 0 q.ch (q.op ++ [s]) q.F q.cnt).op)]) Tryd.results27 rfl rfl rfl rfl ⟨rfl, rfl, rfl, rfl, rfl, rfl, trivial⟩ ⟨rfl, rfl⟩
 try simp only [cs, ne_eq] at hc7
 refine W_skip <| tn ?_
 refine rd1 rfl ?_
 refine dT 53 310 1 rfl <| dT 54 318 2 rfl <| dT 55 326 3 rfl <| dT 56 334 4 rfl <| dO 57 342 5 rfl <| dT 58 350 6 rfl <| dO 59 358 7 rfl <| dT 60 366 8 rfl ?_
 refine dV 61 374 9 rfl ⟨Nat.le_refl _, trivial, (by show (_ + 1) * 16 ≤ 140737488355328; omega), (by simp only [maxLen]; omega)⟩ ?_
 refine dT 62 382 10 rfl <| dT 63 390 11 rfl ?_
 refine d0 398 12 rfl rfl rfl rfl rfl (by first | trivial | omega) ?_
 refine de1 406 rfl (by kernel_rfl) <| keep [] rfl ?_
 refine rowsc 374 (op ++ [s]).length (smpF (op ++ [s])) rfl (sm_len _ _) (fun i c hi hc => sm_one i c hi hc) ?_
 refine chval 3 (.cells 71 2 [.sl 4 0 ch.length, .sl 374 0 (op ++ [s]).length]) rfl (congrArg (fun n => Blk.cells 71 2 [.sl 4 0 ch.length, .sl 374 0 n]) (sm_len op s)) ?_
 refine r1 <| sT 6 406 1 rfl <| e1 414 rfl <| keep [6] rfl <| rename 2 rfl rfl <| rename 4 rfl rfl <| W_ret ?_
 obtain rfl := hq0.symm.trans (app_yes hz hnold (by omega))
 exact out1 6 (SV.i 0) (π := [0, 1, 2, 3, 4, 5, 414, 422, 374]) (hout := [some (.cells 39 3 [.map 1, .sl 6 0 (SeR.mk 0 ch (op ++ [s]) F cnt).F.length, SV.i (SeR.mk 0 ch (op ++ [s]) F cnt).cnt]), some (.fam Z ⟨es, [(j, .ptr 3 0 0)], none⟩), none, some (.cells 71 2 [.sl 7 0 (SeR.mk 0 ch (op ++ [s]) F cnt).ch.length, .sl 8 0 (SeR.mk 0 ch (op ++ [s]) F cnt).op.length]), none, none, some (u8B (SeR.mk 0 ch (op ++ [s]) F cnt).F), some (chsB (SeR.mk 0 ch (op ++ [s]) F cnt).ch), some (smB (SeR.mk 0 ch (op ++ [s]) F cnt).op)]) Tryd.results27 rfl rfl rfl rfl ⟨rfl, rfl, rfl, rfl, rfl, rfl, trivial⟩ ⟨rfl, rfl⟩
 try simp only [cs, ne_eq] at hg5_26
 have hnold : ¬ (0 < (allS ch op).length ∧ s.t ≤ lastT (allS ch op)) := (fun h => by have h1 := h.1; omega)
 refine gF 3 true 26 27 5 rfl rfl <| gF 3 true 26 28 6 rfl rfl <| gF 3 true 26 29 7 rfl rfl <| gF 3 true 26 30 8 rfl rfl <| gF 3 true 26 31 9 rfl rfl <| gF 3 true 26 32 10 rfl rfl <| gF 3 true 26 33 11 rfl rfl <| gF 3 true 26 34 12 rfl rfl <| gF 3 true 26 35 13 rfl rfl <| gF 3 true 26 36 14 rfl rfl <| gF 3 true 26 37 15 rfl rfl <| dT 38 254 16 rfl <| de1 262 rfl (by kernel_rfl) <| keep [0, 1, 5, 38] rfl ?_
 refine q1 rfl (fun hc5 => ?_) (fun hc5 => ?_)
 exact absurd hc5 (by decide)
 try simp only [cs, ne_eq] at hc5
 have hnold : ¬ (0 < (allS ch op).length ∧ s.t ≤ lastT (allS ch op)) := (fun h => by have h1 := h.1; have h2 := h.2; omega)
 refine W_skip <| tn <| W_seq <| r1 <| sT 39 262 1 rfl <| sT 40 270 2 rfl <| sT 41 278 3 rfl <| sO 42 286 4 rfl <| sO 43 294 5 rfl <| sO 44 302 6 rfl <| e1 310 rfl <| keep [0, 1, 5, 44] rfl ?_
 refine q1 rfl (fun hc7 => ?_) (fun hc7 => ?_)
 try simp only [cs, ne_eq] at hc7
 obtain ⟨q, hq⟩ : ∃ q, sealF nm ch op F cnt = q := ⟨_, rfl⟩
 rw [hq] at hsc
 refine r1 <| sT 45 310 1 rfl <| sT 46 318 2 rfl <| sT 47 326 3 rfl <| sO 48 334 4 rfl ?_
 refine c1 (seal_any nm hnm ch op hok hso hc30 ho8 F hF cnt hr q hq) [0, 1, 2, 3, 4, 5] [0, 1, 2, 3, 4, 5, 342, 343, 344] 49 342 5 rfl rfl rfl rfl rfl rfl rfl rfl Tryd.func28 rfl rfl rfl rfl ⟨rfl, rfl, rfl, rfl, rfl, rfl, trivial⟩ rfl rfl ?_
 refine sT 10 350 6 rfl <| e1 358 rfl <| keep [1, 5, 10] rfl <| r1 <| sT 50 358 1 rfl <| sO 51 366 2 rfl <| e1 374 rfl <| keep [1, 5, 10, 51] rfl ?_
 refine q1 rfl (fun hc9 => ?_) (fun hc9 => ?_)
 try simp only [cs, ne_eq] at hc9
 refine r1 <| sT 52 374 1 rfl <| sT 6 382 2 rfl <| e1 390 rfl <| keep [6] rfl <| W_ret <| tr ?_
 have e0 : q0 = q := hq0.symm.trans (app_seal hz hnold (by omega) hq hc9)
 subst e0
 exact out1 6 (SV.i q0.e) (π := [0, 1, 2, 3, 4, 5, 342, 343, 344]) (hout := [some (.cells 39 3 [.map 1, .sl 6 0 q0.F.length, SV.i q0.cnt]), some (.fam Z ⟨es, [(j, .ptr 3 0 0)], none⟩), none, some (.cells 71 2 [.sl 7 0 q0.ch.length, .sl 8 0 q0.op.length]), none, none, some (u8B q0.F), some (chsB q0.ch), some (smB q0.op)]) Tryd.results27 rfl rfl rfl rfl ⟨rfl, rfl, rfl, rfl, rfl, rfl, trivial⟩ ⟨rfl, rfl⟩
 try simp only [cs, ne_eq] at hc9
 refine W_skip <| tn ?_
 refine rd1 rfl ?_
 refine dT 53 374 1 rfl <| dT 54 382 2 rfl <| dT 55 390 3 rfl <| dT 56 398 4 rfl <| dO 57 406 5 rfl <| dT 58 414 6 rfl <| dO 59 422 7 rfl <| dT 60 430 8 rfl ?_
 refine dV 61 438 9 rfl ⟨Nat.le_refl _, trivial, (by show (_ + 1) * 16 ≤ 140737488355328; omega), (by simp only [maxLen]; omega)⟩ ?_
 refine dT 62 446 10 rfl <| dT 63 454 11 rfl ?_
 refine d0 462 12 rfl rfl rfl rfl rfl (by first | trivial | omega) ?_
 refine de1 470 rfl (by kernel_rfl) <| keep [] rfl ?_
 refine rowsc 438 (q.op ++ [s]).length (smpF (q.op ++ [s])) rfl (sm_len _ _) (fun i c hi hc => sm_one i c hi hc) ?_
 refine chval 3 (.cells 71 2 [.sl 343 0 q.ch.length, .sl 438 0 (q.op ++ [s]).length]) rfl (congrArg (fun n => Blk.cells 71 2 [.sl 343 0 q.ch.length, .sl 438 0 n]) (sm_len q.op s)) ?_
 refine r1 <| sT 6 470 1 rfl <| e1 478 rfl <| keep [6] rfl <| W_ret ?_
 obtain rfl := hq0.symm.trans (app_sealed hz hnold (by omega) hq hc9)
 exact out1 6 (SV.i 0) (π := [0, 1, 2, 3, 4, 5, 342, 343, 438]) (hout := [some (.cells 39 3 [.map 1, .sl 6 0 (SeR.mk 0 q.ch (q.op ++ [s]) q.F q.cnt).F.length, SV.i (SeR.mk 0 q.ch (q.op ++ [s]) q.F q.cnt).cnt]), some (.fam Z ⟨es, [(j, .ptr 3 0 0)], none⟩), none, some (.cells 71 2 [.sl 7 0 (SeR.mk 0 q.ch (q.op ++ [s]) q.F q.cnt).ch.length, .sl 8 0 (SeR.mk 0 q.ch (q.op ++ [s]) q.F q.cnt).op.length]), none, none, some (u8B (SeR.mk 0 q.ch (q.op ++ [s]) q.F q.cnt).F), some (chsB (SeR.mk 0 q.ch (q.op ++ [s]) q.F q.cnt).ch), some (smB (SeR.mk 0 q.ch (q.op ++ [s]) q.F q.cnt).op)]) Tryd.results27 rfl rfl rfl rfl ⟨rfl, rfl, rfl, rfl, rfl, rfl, trivial⟩ ⟨rfl, rfl⟩
 try simp only [cs, ne_eq] at hc7
 refine W_skip <| tn ?_
 refine rd1 rfl ?_
 refine dT 53 310 1 rfl <| dT 54 318 2 rfl <| dT 55 326 3 rfl <| dT 56 334 4 rfl <| dO 57 342 5 rfl <| dT 58 350 6 rfl <| dO 59 358 7 rfl <| dT 60 366 8 rfl ?_
 refine dV 61 374 9 rfl ⟨Nat.le_refl _, trivial, (by show (_ + 1) * 16 ≤ 140737488355328; omega), (by simp only [maxLen]; omega)⟩ ?_
 refine dT 62 382 10 rfl <| dT 63 390 11 rfl ?_
 refine d0 398 12 rfl rfl rfl rfl rfl (by first | trivial | omega) ?_
 refine de1 406 rfl (by kernel_rfl) <| keep [] rfl ?_
 refine rowsc 374 (op ++ [s]).length (smpF (op ++ [s])) rfl (sm_len _ _) (fun i c hi hc => sm_one i c hi hc) ?_
 refine chval 3 (.cells 71 2 [.sl 4 0 ch.length, .sl 374 0 (op ++ [s]).length]) rfl (congrArg (fun n => Blk.cells 71 2 [.sl 4 0 ch.length, .sl 374 0 n]) (sm_len op s)) ?_
 refine r1 <| sT 6 406 1 rfl <| e1 414 rfl <| keep [6] rfl <| rename 2 rfl rfl <| rename 4 rfl rfl <| W_ret ?_
 obtain rfl := hq0.symm.trans (app_yes hz hnold (by omega))
 exact out1 6 (SV.i 0) (π := [0, 1, 2, 3, 4, 5, 414, 422, 374]) (hout := [some (.cells 39 3 [.map 1, .sl 6 0 (SeR.mk 0 ch (op ++ [s]) F cnt).F.length, SV.i (SeR.mk 0 ch (op ++ [s]) F cnt).cnt]), some (.fam Z ⟨es, [(j, .ptr 3 0 0)], none⟩), none, some (.cells 71 2 [.sl 7 0 (SeR.mk 0 ch (op ++ [s]) F cnt).ch.length, .sl 8 0 (SeR.mk 0 ch (op ++ [s]) F cnt).op.length]), none, none, some (u8B (SeR.mk 0 ch (op ++ [s]) F cnt).F), some (chsB (SeR.mk 0 ch (op ++ [s]) F cnt).ch), some (smB (SeR.mk 0 ch (op ++ [s]) F cnt).op)]) Tryd.results27 rfl rfl rfl rfl ⟨rfl, rfl, rfl, rfl, rfl, rfl, trivial⟩ ⟨rfl, rfl⟩
theorem append_any {Z : List Nat} {es : List (Value × SV × List InB)} {j : Nat} (nm : ByteArray) (hnm : nm.size ≤ 8) (s : Smp) (k fr to kp : Int) (hs : inRange s.t ∧ inRange s.v) (ch : List (List Smp)) (op : List Smp) (hok : LnOk ch op) (hso : sfault op = 0) (hc30 : ch.length ≤ 30) (ho8 : op.length ≤ 8) (F : List Int) (hF : F.length ≤ 900000) (cnt : Nat) (hr : cnt ≤ 200) (q0 : SeR) (hq0 : appF nm s ch op F cnt = q0) : Spec Tryd.prog GF 27 [.ptr 0 0 0, .ptr 3 0 0, .agg [SV.i k, .d (.val (.string nm)), SV.i s.t, SV.i s.v, SV.i fr, SV.i to, SV.i kp]] [.cells 39 3 [.map 1, .sl 2 0 F.length, SV.i cnt], .fam Z ⟨es, [(j, .ptr 3 0 0)], none⟩, u8B F, .cells 71 2 [.sl 4 0 ch.length, .sl 5 0 op.length], chsB ch, smB op] (fun r ho => r = SV.i q0.e ∧ ho = [some (.cells 39 3 [.map 1, .sl 6 0 q0.F.length, SV.i q0.cnt]), some (.fam Z ⟨es, [(j, .ptr 3 0 0)], none⟩), none, some (.cells 71 2 [.sl 7 0 q0.ch.length, .sl 8 0 q0.op.length]), none, none, some (u8B q0.F), some (chsB q0.ch), some (smB q0.op)]) := by
 by_cases hz : sfault [s] = 0
 · exact append_go nm hnm s k fr to kp hs ch op hok hso hc30 ho8 F hF cnt hr q0 hq0 hz
 · exact append_bad nm hnm s k fr to kp hs ch op hok hso hc30 ho8 F hF cnt hr q0 hq0 hz
end Go.Proofs.YtalhangpahffeaaDoor.Nice
namespace Go.Proofs.YtalhangpahffeaaDoor.Nice
open Go Go.Proofs
set_option linter.unusedVariables false
set_option linter.unusedSimpArgs false
set_option maxRecDepth 100000
set_option maxHeartbeats 4000000
structure Fd where
 code : Int
 l : List Smp
 ro : Roll
 n : Int
def roll0 : Roll := ⟨0, 0, 0, 0⟩
def fdX (f : Fd) : List SV := [SV.i f.code, .d (.vec 2 f.l.length (smpF f.l)), SV.i f.ro.c, SV.i f.ro.lo, SV.i f.ro.hi, SV.i f.ro.s, SV.i f.n]
def fdV (f : Fd) : SV := .agg (fdX f)
def errF (e : Int) : Fd := ⟨e, [], roll0, 0⟩
def goodF (n : Int) : Fd := ⟨0, [], roll0, n⟩
def codeF (e : Int) (n : Nat) : Fd := if e = 0 then goodF n else errF e
theorem code_ok {e : Int} {n : Nat} (h : e = 0) : codeF e n = goodF n := by unfold codeF; rw [if_pos h]
theorem code_err {e : Int} {n : Nat} (h : ¬ e = 0) : codeF e n = errF e := by unfold codeF; rw [if_neg h]
def trimF (nm : ByteArray) (kp : Int) (ch : List (List Smp)) (op : List Smp) (F : List Int) (cnt : Nat) : SeR :=
 if cnt = 200 then ⟨8, ch, op, F, cnt⟩ else ⟨0, ch.filter (keepC kp), op, F ++ recB (namedL 3 nm ++ putB 8 (xorL kp)), cnt + 1⟩
def rollL (l : List Smp) : Roll := foldTo (vals l) l.length
theorem trimB_ok (nm : ByteArray) (hs : nm.size ≤ 8) (v : Int) : Bytes (namedL 3 nm ++ putB 8 v) ∧ (namedL 3 nm ++ putB 8 v).length ≤ 4000 := by
 have h2 := namedL_len 3 nm
 have h3 : (putB 8 v).length = 8 := by unfold putB; rw [putT_len]
 refine ⟨bytes_app (namedL_bytes 3 nm (by omega) (by omega) (by omega)) (putB_bytes 8 v (by omega)) (by omega), by rw [List.length_append]; omega⟩
theorem xorL_in {x : Int} (h : inRange x) : inRange (xorL x) := by unfold inRange at *; unfold xorL; split <;> omega
theorem no_any (e : Int) : Spec Tryd.prog GF 10 [SV.i e] [] (fun r ho => r = fdV (errF e) ∧ ho = []) := by
 refine start 5 0 Tryd.func10 rfl rfl rfl rfl ?_
 refine r1 <| sT 2 0 1 rfl <| e1 8 rfl <| keep [0, 2] rfl <| r1 <| sT 3 8 1 rfl <| sT 4 16 2 rfl <| s0O 24 3 rfl rfl rfl rfl rfl <| e1 32 rfl <| keep [2] rfl ?_
 refine cellW 0 1 (.d (.vec 2 0 (smpF []))) rfl rfl (nil_vec0 2 _) ?_
 refine W_ret ?_
 exact outN (fdV (errF e)) (π := []) (hout := []) Tryd.results10 rfl (by trivial) rfl rfl rfl trivial ⟨rfl, rfl⟩
theorem of_app {Z : List Nat} {es : List (Value × SV × List InB)} {j : Nat} (nm : ByteArray) (hnm : nm.size ≤ 8) (s : Smp) (fr to kp : Int) (hs : inRange s.t ∧ inRange s.v) (hkp : inRange kp) (ch : List (List Smp)) (op : List Smp) (hok : LnOk ch op) (hso : sfault op = 0) (hc30 : ch.length ≤ 30) (ho8 : op.length ≤ 8) (F : List Int) (hF : F.length ≤ 900000) (cnt : Nat) (hr : cnt ≤ 200) (q : SeR) (hq : appF nm s ch op F cnt = q) : Spec Tryd.prog GF 13 [.ptr 0 0 0, .ptr 3 0 0, .agg [SV.i 2, .d (.val (.string nm)), SV.i s.t, SV.i s.v, SV.i fr, SV.i to, SV.i kp]] [.cells 39 3 [.map 1, .sl 2 0 F.length, SV.i cnt], .fam Z ⟨es, [(j, .ptr 3 0 0)], none⟩, u8B F, .cells 71 2 [.sl 4 0 ch.length, .sl 5 0 op.length], chsB ch, smB op] (fun r ho => r = fdV (codeF q.e q.ch.length) ∧ ho = [some (.cells 39 3 [.map 1, .sl 6 0 q.F.length, SV.i q.cnt]), some (.fam Z ⟨es, [(j, .ptr 3 0 0)], none⟩), none, some (.cells 71 2 [.sl 7 0 q.ch.length, .sl 8 0 q.op.length]), none, none, some (u8B q.F), some (chsB q.ch), some (smB q.op)]) := by
 refine start 82 6 Tryd.func13 rfl rfl rfl rfl ?_
 refine r1 <| sT 5 6 1 rfl <| sT 6 14 2 rfl <| e1 22 rfl <| keep [0, 1, 5, 6] rfl <| r1 <| sT 7 22 1 rfl <| e1 30 rfl <| keep [0, 1, 5, 6, 7] rfl <| W_seq <| r1 <| sT 12 30 1 rfl <| sO 13 38 2 rfl <| e1 46 rfl <| keep [0, 1, 5, 6, 7, 13] rfl <| W_block ?_
 refine r1 <| sO 39 46 1 rfl <| sT 38 54 2 rfl <| e1 62 rfl <| keep [0, 1, 5, 6, 7, 13, 38] rfl ?_
 refine q1 rfl (fun hc13 => ?_) (fun hc13 => ?_)
 try simp only [cs, ne_eq] at hc13
 refine r0 ?_
 refine sT 40 62 1 rfl <| sT 41 70 2 rfl <| sO 42 78 3 rfl ?_
 refine c1 (append_any nm hnm s 2 fr to kp hs ch op hok hso hc30 ho8 F hF cnt hr q hq) [0, 1, 2, 3, 4, 5] [0, 1, 2, 3, 4, 5, 86, 87, 88] 43 86 4 rfl rfl rfl rfl rfl rfl rfl rfl Tryd.func27 rfl rfl rfl rfl ⟨rfl, rfl, rfl, rfl, rfl, rfl, trivial⟩ rfl rfl ?_
 refine sT 7 94 5 rfl <| e1 102 rfl <| bn <| tn <| W_seq <| r1 <| sT 72 102 1 rfl <| sO 73 110 2 rfl <| e1 118 rfl <| keep [1, 6, 7, 73] rfl ?_
 refine q1 rfl (fun hc22 => ?_) (fun hc22 => ?_)
 try simp only [cs, ne_eq] at hc22
 refine r1 <| sT 74 118 1 rfl ?_
 refine c1 (no_any q.e) [] [] 75 126 2 rfl rfl rfl rfl rfl rfl rfl rfl Tryd.func10 rfl rfl rfl rfl trivial rfl rfl ?_
 refine s0O 134 3 rfl rfl rfl rfl rfl <| e1 142 rfl <| keep [6] rfl <| W_ret <| tr ?_
 exact outN (fdV (codeF q.e q.ch.length)) (π := [0, 1, 2, 3, 4, 5, 86, 87, 88]) (hout := [some (.cells 39 3 [.map 1, .sl 6 0 q.F.length, SV.i q.cnt]), some (.fam Z ⟨es, [(j, .ptr 3 0 0)], none⟩), none, some (.cells 71 2 [.sl 7 0 q.ch.length, .sl 8 0 q.op.length]), none, none, some (u8B q.F), some (chsB q.ch), some (smB q.op)]) Tryd.results13 rfl (by trivial) (by rw [code_err hc22]; rfl) rfl rfl ⟨rfl, rfl, rfl, rfl, rfl, rfl, trivial⟩ ⟨rfl, rfl⟩
 try simp only [cs, ne_eq] at hc22
 refine W_skip <| tn <| r1 <| sT 76 118 1 rfl <| sT 77 126 2 rfl <| sT 78 134 3 rfl <| sO 79 142 4 rfl <| sO 80 150 5 rfl <| sT 81 158 6 rfl <| s0O 166 7 rfl rfl rfl rfl rfl <| e1 174 rfl <| keep [6] rfl ?_
 refine cellW 14 1 (.d (.vec 2 0 (smpF []))) rfl rfl (nil_vec0 2 _) ?_
 refine W_ret ?_
 exact outN (fdV (codeF q.e q.ch.length)) (π := [0, 1, 2, 3, 4, 5, 86, 87, 88]) (hout := [some (.cells 39 3 [.map 1, .sl 6 0 q.F.length, SV.i q.cnt]), some (.fam Z ⟨es, [(j, .ptr 3 0 0)], none⟩), none, some (.cells 71 2 [.sl 7 0 q.ch.length, .sl 8 0 q.op.length]), none, none, some (u8B q.F), some (chsB q.ch), some (smB q.op)]) Tryd.results13 rfl (by trivial) (by rw [code_ok hc22]; rfl) rfl rfl ⟨rfl, rfl, rfl, rfl, rfl, rfl, trivial⟩ ⟨rfl, rfl⟩
 exact absurd hc13 (by decide)
theorem of_seal {Z : List Nat} {es : List (Value × SV × List InB)} {j : Nat} (nm : ByteArray) (hnm : nm.size ≤ 8) (s : Smp) (fr to kp : Int) (hs : inRange s.t ∧ inRange s.v) (hkp : inRange kp) (ch : List (List Smp)) (op : List Smp) (hok : LnOk ch op) (hso : sfault op = 0) (hc30 : ch.length ≤ 30) (ho8 : op.length ≤ 8) (F : List Int) (hF : F.length ≤ 900000) (cnt : Nat) (hr : cnt ≤ 200) (q : SeR) (hq : sealF nm ch op F cnt = q) : Spec Tryd.prog GF 13 [.ptr 0 0 0, .ptr 3 0 0, .agg [SV.i 6, .d (.val (.string nm)), SV.i s.t, SV.i s.v, SV.i fr, SV.i to, SV.i kp]] [.cells 39 3 [.map 1, .sl 2 0 F.length, SV.i cnt], .fam Z ⟨es, [(j, .ptr 3 0 0)], none⟩, u8B F, .cells 71 2 [.sl 4 0 ch.length, .sl 5 0 op.length], chsB ch, smB op] (fun r ho => r = fdV (codeF q.e q.ch.length) ∧ ho = [some (.cells 39 3 [.map 1, .sl 6 0 q.F.length, SV.i q.cnt]), some (.fam Z ⟨es, [(j, .ptr 3 0 0)], none⟩), none, some (.cells 71 2 [.sl 7 0 q.ch.length, .sl 8 0 q.op.length]), none, none, some (u8B q.F), some (chsB q.ch), some (smB q.op)]) := by
 refine start 82 6 Tryd.func13 rfl rfl rfl rfl ?_
 refine r1 <| sT 5 6 1 rfl <| sT 6 14 2 rfl <| e1 22 rfl <| keep [0, 1, 5, 6] rfl <| r1 <| sT 7 22 1 rfl <| e1 30 rfl <| keep [0, 1, 5, 6, 7] rfl <| W_seq <| r1 <| sT 12 30 1 rfl <| sO 13 38 2 rfl <| e1 46 rfl <| keep [0, 1, 5, 6, 7, 13] rfl <| W_block ?_
 refine r1 <| sO 39 46 1 rfl <| sT 38 54 2 rfl <| e1 62 rfl <| keep [0, 1, 5, 6, 7, 13, 38] rfl ?_
 refine q1 rfl (fun hc13 => ?_) (fun hc13 => ?_)
 exact absurd hc13 (by decide)
 try simp only [cs, ne_eq] at hc13
 refine r1 <| sO 45 62 1 rfl <| sT 44 70 2 rfl <| e1 78 rfl <| keep [0, 1, 5, 6, 7, 13, 44] rfl ?_
 refine q1 rfl (fun hc15 => ?_) (fun hc15 => ?_)
 try simp only [cs, ne_eq] at hc15
 refine r0 ?_
 refine sT 46 78 1 rfl <| sT 47 86 2 rfl <| sT 48 94 3 rfl <| sO 49 102 4 rfl ?_
 refine c1 (seal_any nm hnm ch op hok hso hc30 ho8 F hF cnt hr q hq) [0, 1, 2, 3, 4, 5] [0, 1, 2, 3, 4, 5, 110, 111, 112] 50 110 5 rfl rfl rfl rfl rfl rfl rfl rfl Tryd.func28 rfl rfl rfl rfl ⟨rfl, rfl, rfl, rfl, rfl, rfl, trivial⟩ rfl rfl ?_
 refine sT 7 118 6 rfl <| e1 126 rfl <| bn <| tn <| W_seq <| r1 <| sT 72 126 1 rfl <| sO 73 134 2 rfl <| e1 142 rfl <| keep [1, 6, 7, 73] rfl ?_
 refine q1 rfl (fun hc22 => ?_) (fun hc22 => ?_)
 try simp only [cs, ne_eq] at hc22
 refine r1 <| sT 74 142 1 rfl ?_
 refine c1 (no_any q.e) [] [] 75 150 2 rfl rfl rfl rfl rfl rfl rfl rfl Tryd.func10 rfl rfl rfl rfl trivial rfl rfl ?_
 refine s0O 158 3 rfl rfl rfl rfl rfl <| e1 166 rfl <| keep [6] rfl <| W_ret <| tr ?_
 exact outN (fdV (codeF q.e q.ch.length)) (π := [0, 1, 2, 3, 4, 5, 110, 111, 112]) (hout := [some (.cells 39 3 [.map 1, .sl 6 0 q.F.length, SV.i q.cnt]), some (.fam Z ⟨es, [(j, .ptr 3 0 0)], none⟩), none, some (.cells 71 2 [.sl 7 0 q.ch.length, .sl 8 0 q.op.length]), none, none, some (u8B q.F), some (chsB q.ch), some (smB q.op)]) Tryd.results13 rfl (by trivial) (by rw [code_err hc22]; rfl) rfl rfl ⟨rfl, rfl, rfl, rfl, rfl, rfl, trivial⟩ ⟨rfl, rfl⟩
 try simp only [cs, ne_eq] at hc22
 refine W_skip <| tn <| r1 <| sT 76 142 1 rfl <| sT 77 150 2 rfl <| sT 78 158 3 rfl <| sO 79 166 4 rfl <| sO 80 174 5 rfl <| sT 81 182 6 rfl <| s0O 190 7 rfl rfl rfl rfl rfl <| e1 198 rfl <| keep [6] rfl ?_
 refine cellW 14 1 (.d (.vec 2 0 (smpF []))) rfl rfl (nil_vec0 2 _) ?_
 refine W_ret ?_
 exact outN (fdV (codeF q.e q.ch.length)) (π := [0, 1, 2, 3, 4, 5, 110, 111, 112]) (hout := [some (.cells 39 3 [.map 1, .sl 6 0 q.F.length, SV.i q.cnt]), some (.fam Z ⟨es, [(j, .ptr 3 0 0)], none⟩), none, some (.cells 71 2 [.sl 7 0 q.ch.length, .sl 8 0 q.op.length]), none, none, some (u8B q.F), some (chsB q.ch), some (smB q.op)]) Tryd.results13 rfl (by trivial) (by rw [code_ok hc22]; rfl) rfl rfl ⟨rfl, rfl, rfl, rfl, rfl, rfl, trivial⟩ ⟨rfl, rfl⟩
 exact absurd hc15 (by decide)
theorem of_trim {Z : List Nat} {es : List (Value × SV × List InB)} {j : Nat} (nm : ByteArray) (hnm : nm.size ≤ 8) (s : Smp) (fr to kp : Int) (hs : inRange s.t ∧ inRange s.v) (hkp : inRange kp) (ch : List (List Smp)) (op : List Smp) (hok : LnOk ch op) (hso : sfault op = 0) (hc30 : ch.length ≤ 30) (ho8 : op.length ≤ 8) (F : List Int) (hF : F.length ≤ 900000) (cnt : Nat) (hr : cnt ≤ 200) (q : SeR) (hq : trimF nm kp ch op F cnt = q) : Spec Tryd.prog GF 13 [.ptr 0 0 0, .ptr 3 0 0, .agg [SV.i 5, .d (.val (.string nm)), SV.i s.t, SV.i s.v, SV.i fr, SV.i to, SV.i kp]] [.cells 39 3 [.map 1, .sl 2 0 F.length, SV.i cnt], .fam Z ⟨es, [(j, .ptr 3 0 0)], none⟩, u8B F, .cells 71 2 [.sl 4 0 ch.length, .sl 5 0 op.length], chsB ch, smB op] (fun r ho => r = fdV (codeF q.e q.ch.length) ∧ ho = [some (.cells 39 3 [.map 1, .sl 6 0 q.F.length, SV.i q.cnt]), some (.fam Z ⟨es, [(j, .ptr 3 0 0)], none⟩), none, some (.cells 71 2 [.sl 7 0 q.ch.length, .sl 8 0 q.op.length]), none, none, some (u8B q.F), some (chsB q.ch), some (smB q.op)]) := by
 have htb := trimB_ok nm hnm (xorL kp)
 have hxl := xorL_in hkp
 refine start 82 6 Tryd.func13 rfl rfl rfl rfl ?_
 refine r1 <| sT 5 6 1 rfl <| sT 6 14 2 rfl <| e1 22 rfl <| keep [0, 1, 5, 6] rfl <| r1 <| sT 7 22 1 rfl <| e1 30 rfl <| keep [0, 1, 5, 6, 7] rfl <| W_seq <| r1 <| sT 12 30 1 rfl <| sO 13 38 2 rfl <| e1 46 rfl <| keep [0, 1, 5, 6, 7, 13] rfl <| W_block ?_
 refine r1 <| sO 39 46 1 rfl <| sT 38 54 2 rfl <| e1 62 rfl <| keep [0, 1, 5, 6, 7, 13, 38] rfl ?_
 refine q1 rfl (fun hc13 => ?_) (fun hc13 => ?_)
 exact absurd hc13 (by decide)
 try simp only [cs, ne_eq] at hc13
 refine r1 <| sO 45 62 1 rfl <| sT 44 70 2 rfl <| e1 78 rfl <| keep [0, 1, 5, 6, 7, 13, 44] rfl ?_
 refine q1 rfl (fun hc15 => ?_) (fun hc15 => ?_)
 exact absurd hc15 (by decide)
 try simp only [cs, ne_eq] at hc15
 refine r1 <| sO 52 78 1 rfl <| sT 51 86 2 rfl <| e1 94 rfl <| keep [0, 1, 5, 6, 7, 51] rfl ?_
 refine q1 rfl (fun hc17 => ?_) (fun hc17 => ?_)
 try simp only [cs, ne_eq] at hc17
 refine W_seq <| r1 <| sT 53 94 1 rfl <| sT 54 102 2 rfl <| sT 55 110 3 rfl <| sO 56 118 4 rfl <| sO 57 126 5 rfl <| e1 134 rfl <| keep [0, 1, 5, 6, 7, 57] rfl ?_
 refine q1 rfl (fun hc18 => ?_) (fun hc18 => ?_)
 try simp only [cs, ne_eq] at hc18
 refine r1 ?_
 refine c1 (no_any 8) [] [] 58 134 1 rfl rfl rfl rfl rfl rfl rfl rfl Tryd.func10 rfl rfl rfl rfl trivial rfl rfl ?_
 refine s0O 142 2 rfl rfl rfl rfl rfl <| e1 150 rfl <| keep [6] rfl <| rename 2 rfl rfl <| rename 4 rfl rfl <| rename 5 rfl rfl <| W_ret <| tr <| br <| tr ?_
 have e0 : trimF nm kp ch op F cnt = ⟨8, ch, op, F, cnt⟩ := (by unfold trimF; rw [if_pos (by omega)])
 obtain rfl := hq.symm.trans e0
 exact outN (fdV (errF 8)) (π := [0, 1, 2, 3, 4, 5, 150, 158, 166]) (hout := [some (.cells 39 3 [.map 1, .sl 6 0 (SeR.mk 8 ch op F cnt).F.length, SV.i (SeR.mk 8 ch op F cnt).cnt]), some (.fam Z ⟨es, [(j, .ptr 3 0 0)], none⟩), none, some (.cells 71 2 [.sl 7 0 (SeR.mk 8 ch op F cnt).ch.length, .sl 8 0 (SeR.mk 8 ch op F cnt).op.length]), none, none, some (u8B (SeR.mk 8 ch op F cnt).F), some (chsB (SeR.mk 8 ch op F cnt).ch), some (smB (SeR.mk 8 ch op F cnt).op)]) Tryd.results13 rfl (by trivial) rfl rfl rfl ⟨rfl, rfl, rfl, rfl, rfl, rfl, trivial⟩ ⟨rfl, rfl⟩
 try simp only [cs, ne_eq] at hc18
 refine W_skip <| tn <| r1 <| sT 59 134 1 rfl <| sT 60 142 2 rfl <| sO 61 150 3 rfl ?_
 refine c1 (trim_any ch op hok kp) [3, 4, 5] [3, 4, 5, 158] 62 158 4 rfl rfl rfl rfl rfl rfl rfl rfl Tryd.func29 rfl rfl rfl rfl ⟨rfl, rfl, rfl, trivial⟩ rfl rfl ?_
 refine e1 166 rfl <| keep [0, 1, 5, 6, 7] rfl ?_
 refine rd0 rfl ?_
 refine dT 63 166 1 rfl <| dT 64 174 2 rfl <| dO 65 182 3 rfl ?_
 refine dc1 (named_any 3 nm (by omega)) [] [190] 66 190 4 rfl rfl rfl rfl rfl rfl rfl rfl Tryd.func31 rfl rfl rfl rfl trivial rfl rfl ?_
 refine dT 67 198 5 rfl <| dO 68 206 6 rfl <| dO 69 214 7 rfl ?_
 refine val 69 (SV.i (xorL kp)) rfl (congrArg SV.i (xor_least (by unfold inRange at hkp; omega) (by unfold inRange at hkp; omega))) ?_
 refine dc1 (put_own (namedL 3 nm) (by have := namedL_len 3 nm; omega) 8 (by omega) (xorL kp) hxl) [190] [190, 222] 70 222 8 rfl rfl rfl rfl rfl rfl rfl rfl Tryd.func30 rfl rfl rfl rfl ⟨rfl, trivial⟩ rfl rfl ?_
 refine dc1 (recO_any F (namedL 3 nm ++ putB 8 (xorL kp)) (by omega) htb.1 htb.2 cnt (by omega) rfl (fun i c hi hc => rfl)) [0, 1, 2, 222, 3, 158, 5] [0, 1, 2, 222, 3, 158, 5, 230] 71 230 9 rfl rfl rfl rfl rfl rfl rfl rfl Tryd.func23 rfl rfl rfl rfl ⟨rfl, rfl, rfl, rfl, rfl, rfl, rfl, trivial⟩ rfl rfl ?_
 refine de1 238 rfl (by kernel_rfl) <| bn <| tn <| W_seq <| r1 <| sT 72 238 1 rfl <| sO 73 246 2 rfl <| e1 254 rfl <| keep [1, 6, 7, 73] rfl ?_
 refine q1 rfl (fun hc22 => ?_) (fun hc22 => ?_)
 exact absurd hc22 (by decide)
 try simp only [cs, ne_eq] at hc22
 refine W_skip <| tn <| r1 <| sT 76 254 1 rfl <| sT 77 262 2 rfl <| sT 78 270 3 rfl <| sO 79 278 4 rfl <| sO 80 286 5 rfl <| sT 81 294 6 rfl <| s0O 302 7 rfl rfl rfl rfl rfl <| e1 310 rfl <| keep [6] rfl ?_
 refine cellW 14 1 (.d (.vec 2 0 (smpF []))) rfl rfl (nil_vec0 2 _) ?_
 refine rename 5 rfl rfl <| W_ret ?_
 have e0 : trimF nm kp ch op F cnt = ⟨0, ch.filter (keepC kp), op, F ++ recB (namedL 3 nm ++ putB 8 (xorL kp)), cnt + 1⟩ := (by unfold trimF; rw [if_neg (by omega)])
 obtain rfl := hq.symm.trans e0
 exact outN (fdV (goodF (ch.filter (keepC kp)).length)) (π := [0, 1, 2, 3, 4, 5, 230, 158, 310]) (hout := [some (.cells 39 3 [.map 1, .sl 6 0 (SeR.mk 0 (ch.filter (keepC kp)) op (F ++ recB (namedL 3 nm ++ putB 8 (xorL kp))) (cnt + 1)).F.length, SV.i (SeR.mk 0 (ch.filter (keepC kp)) op (F ++ recB (namedL 3 nm ++ putB 8 (xorL kp))) (cnt + 1)).cnt]), some (.fam Z ⟨es, [(j, .ptr 3 0 0)], none⟩), none, some (.cells 71 2 [.sl 7 0 (SeR.mk 0 (ch.filter (keepC kp)) op (F ++ recB (namedL 3 nm ++ putB 8 (xorL kp))) (cnt + 1)).ch.length, .sl 8 0 (SeR.mk 0 (ch.filter (keepC kp)) op (F ++ recB (namedL 3 nm ++ putB 8 (xorL kp))) (cnt + 1)).op.length]), none, none, some (u8B (SeR.mk 0 (ch.filter (keepC kp)) op (F ++ recB (namedL 3 nm ++ putB 8 (xorL kp))) (cnt + 1)).F), some (chsB (SeR.mk 0 (ch.filter (keepC kp)) op (F ++ recB (namedL 3 nm ++ putB 8 (xorL kp))) (cnt + 1)).ch), some (smB (SeR.mk 0 (ch.filter (keepC kp)) op (F ++ recB (namedL 3 nm ++ putB 8 (xorL kp))) (cnt + 1)).op)]) Tryd.results13 rfl (by trivial) rfl rfl rfl ⟨rfl, rfl, rfl, rfl, rfl, rfl, trivial⟩ ⟨rfl, rfl⟩
 exact absurd hc17 (by decide)
theorem of_range {Z : List Nat} {es : List (Value × SV × List InB)} {j : Nat} (nm : ByteArray) (hnm : nm.size ≤ 8) (s : Smp) (fr to kp : Int) (hs : inRange s.t ∧ inRange s.v) (hkp : inRange kp) (ch : List (List Smp)) (op : List Smp) (hok : LnOk ch op) (hso : sfault op = 0) (hc30 : ch.length ≤ 30) (ho8 : op.length ≤ 8) (F : List Int) (hF : F.length ≤ 900000) (cnt : Nat) (hr : cnt ≤ 200)  : Spec Tryd.prog GF 13 [.ptr 0 0 0, .ptr 3 0 0, .agg [SV.i 3, .d (.val (.string nm)), SV.i s.t, SV.i s.v, SV.i fr, SV.i to, SV.i kp]] [.cells 39 3 [.map 1, .sl 2 0 F.length, SV.i cnt], .fam Z ⟨es, [(j, .ptr 3 0 0)], none⟩, u8B F, .cells 71 2 [.sl 4 0 ch.length, .sl 5 0 op.length], chsB ch, smB op] (fun r ho => r = fdV ⟨0, ((allS ch op).filter (inR fr to)), roll0, 0⟩ ∧ ho = [some (.cells 39 3 [.map 1, .sl 6 0 (SeR.mk 0 ch op F cnt).F.length, SV.i (SeR.mk 0 ch op F cnt).cnt]), some (.fam Z ⟨es, [(j, .ptr 3 0 0)], none⟩), none, some (.cells 71 2 [.sl 7 0 (SeR.mk 0 ch op F cnt).ch.length, .sl 8 0 (SeR.mk 0 ch op F cnt).op.length]), none, none, some (u8B (SeR.mk 0 ch op F cnt).F), some (chsB (SeR.mk 0 ch op F cnt).ch), some (smB (SeR.mk 0 ch op F cnt).op)]) := by
 refine start 82 6 Tryd.func13 rfl rfl rfl rfl ?_
 refine r1 <| sT 5 6 1 rfl <| sT 6 14 2 rfl <| e1 22 rfl <| keep [0, 1, 5, 6] rfl <| r1 <| sT 7 22 1 rfl <| e1 30 rfl <| keep [0, 1, 5, 6, 7] rfl <| W_seq <| r1 <| sT 12 30 1 rfl <| sO 13 38 2 rfl <| e1 46 rfl <| keep [0, 1, 5, 6, 7, 13] rfl <| W_block ?_
 refine r1 <| sO 39 46 1 rfl <| sT 38 54 2 rfl <| e1 62 rfl <| keep [0, 1, 5, 6, 7, 13, 38] rfl ?_
 refine q1 rfl (fun hc13 => ?_) (fun hc13 => ?_)
 exact absurd hc13 (by decide)
 try simp only [cs, ne_eq] at hc13
 refine r1 <| sO 45 62 1 rfl <| sT 44 70 2 rfl <| e1 78 rfl <| keep [0, 1, 5, 6, 7, 13, 44] rfl ?_
 refine q1 rfl (fun hc15 => ?_) (fun hc15 => ?_)
 exact absurd hc15 (by decide)
 try simp only [cs, ne_eq] at hc15
 refine r1 <| sO 52 78 1 rfl <| sT 51 86 2 rfl <| e1 94 rfl <| keep [0, 1, 5, 6, 7, 51] rfl ?_
 refine q1 rfl (fun hc17 => ?_) (fun hc17 => ?_)
 exact absurd hc17 (by decide)
 try simp only [cs, ne_eq] at hc17
 refine r1 <| sT 14 94 1 rfl <| sT 15 102 2 rfl <| sO 16 110 3 rfl <| sT 17 118 4 rfl <| sO 18 126 5 rfl ?_
 refine c1 (within_any ch op hok fr to) [3, 4, 5] [3, 4, 5, 134] 19 134 6 rfl rfl rfl rfl rfl rfl rfl rfl Tryd.func32 rfl rfl rfl rfl ⟨rfl, rfl, rfl, trivial⟩ rfl rfl ?_
 refine sT 8 142 7 rfl <| e1 150 rfl <| keep [5, 6, 8] rfl ?_
 refine freeze 8 134 ((allS ch op).filter (inR fr to)).length rfl rfl (Nat.le_refl _) ?_
 refine W_seq <| r1 <| sT 20 150 1 rfl <| sO 21 158 2 rfl <| sO 22 166 3 rfl <| e1 174 rfl <| keep [6, 8, 22] rfl ?_
 refine q1 rfl (fun hc4 => ?_) (fun hc4 => ?_)
 try simp only [cs, ne_eq] at hc4
 refine r1 <| sT 23 174 1 rfl <| sT 24 182 2 rfl <| s0O 190 3 rfl rfl rfl rfl rfl <| e1 198 rfl <| keep [6] rfl <| rename 2 rfl rfl <| rename 4 rfl rfl <| rename 5 rfl rfl <| W_ret <| tr <| br <| tr ?_
 exact outN (fdV ⟨0, ((allS ch op).filter (inR fr to)), roll0, 0⟩) (π := [0, 1, 2, 3, 4, 5, 198, 206, 214]) (hout := [some (.cells 39 3 [.map 1, .sl 6 0 (SeR.mk 0 ch op F cnt).F.length, SV.i (SeR.mk 0 ch op F cnt).cnt]), some (.fam Z ⟨es, [(j, .ptr 3 0 0)], none⟩), none, some (.cells 71 2 [.sl 7 0 (SeR.mk 0 ch op F cnt).ch.length, .sl 8 0 (SeR.mk 0 ch op F cnt).op.length]), none, none, some (u8B (SeR.mk 0 ch op F cnt).F), some (chsB (SeR.mk 0 ch op F cnt).ch), some (smB (SeR.mk 0 ch op F cnt).op)]) Tryd.results13 rfl (by trivial) rfl rfl rfl ⟨rfl, rfl, rfl, rfl, rfl, rfl, trivial⟩ ⟨rfl, rfl⟩
 exact absurd hc4 (by decide)
theorem of_total {Z : List Nat} {es : List (Value × SV × List InB)} {j : Nat} (nm : ByteArray) (hnm : nm.size ≤ 8) (s : Smp) (fr to kp : Int) (hs : inRange s.t ∧ inRange s.v) (hkp : inRange kp) (ch : List (List Smp)) (op : List Smp) (hok : LnOk ch op) (hso : sfault op = 0) (hc30 : ch.length ≤ 30) (ho8 : op.length ≤ 8) (F : List Int) (hF : F.length ≤ 900000) (cnt : Nat) (hr : cnt ≤ 200) (l : List Smp) (hl : ((allS ch op).filter (inR fr to)) = l) (h250 : l.length ≤ 250) (hv : ∀ i, i < (vals l).length → inV ((vals l).getD i 0)) : Spec Tryd.prog GF 13 [.ptr 0 0 0, .ptr 3 0 0, .agg [SV.i 4, .d (.val (.string nm)), SV.i s.t, SV.i s.v, SV.i fr, SV.i to, SV.i kp]] [.cells 39 3 [.map 1, .sl 2 0 F.length, SV.i cnt], .fam Z ⟨es, [(j, .ptr 3 0 0)], none⟩, u8B F, .cells 71 2 [.sl 4 0 ch.length, .sl 5 0 op.length], chsB ch, smB op] (fun r ho => r = fdV ⟨0, [], rollL l, 0⟩ ∧ ho = [some (.cells 39 3 [.map 1, .sl 6 0 (SeR.mk 0 ch op F cnt).F.length, SV.i (SeR.mk 0 ch op F cnt).cnt]), some (.fam Z ⟨es, [(j, .ptr 3 0 0)], none⟩), none, some (.cells 71 2 [.sl 7 0 (SeR.mk 0 ch op F cnt).ch.length, .sl 8 0 (SeR.mk 0 ch op F cnt).op.length]), none, none, some (u8B (SeR.mk 0 ch op F cnt).F), some (chsB (SeR.mk 0 ch op F cnt).ch), some (smB (SeR.mk 0 ch op F cnt).op)]) := by
 have hall := hok.all
 have hal : (allS ch op).length = ch.flatten.length + op.length := (by unfold allS; rw [List.length_append])
 have hopl := hok.o
 have hfl := List.length_filter_le (inR fr to) (allS ch op)
 rw [hl] at hfl
 refine start 82 6 Tryd.func13 rfl rfl rfl rfl ?_
 refine r1 <| sT 5 6 1 rfl <| sT 6 14 2 rfl <| e1 22 rfl <| keep [0, 1, 5, 6] rfl <| r1 <| sT 7 22 1 rfl <| e1 30 rfl <| keep [0, 1, 5, 6, 7] rfl <| W_seq <| r1 <| sT 12 30 1 rfl <| sO 13 38 2 rfl <| e1 46 rfl <| keep [0, 1, 5, 6, 7, 13] rfl <| W_block ?_
 refine r1 <| sO 39 46 1 rfl <| sT 38 54 2 rfl <| e1 62 rfl <| keep [0, 1, 5, 6, 7, 13, 38] rfl ?_
 refine q1 rfl (fun hc13 => ?_) (fun hc13 => ?_)
 exact absurd hc13 (by decide)
 try simp only [cs, ne_eq] at hc13
 refine r1 <| sO 45 62 1 rfl <| sT 44 70 2 rfl <| e1 78 rfl <| keep [0, 1, 5, 6, 7, 13, 44] rfl ?_
 refine q1 rfl (fun hc15 => ?_) (fun hc15 => ?_)
 exact absurd hc15 (by decide)
 try simp only [cs, ne_eq] at hc15
 refine r1 <| sO 52 78 1 rfl <| sT 51 86 2 rfl <| e1 94 rfl <| keep [0, 1, 5, 6, 7, 51] rfl ?_
 refine q1 rfl (fun hc17 => ?_) (fun hc17 => ?_)
 exact absurd hc17 (by decide)
 try simp only [cs, ne_eq] at hc17
 refine r1 <| sT 14 94 1 rfl <| sT 15 102 2 rfl <| sO 16 110 3 rfl <| sT 17 118 4 rfl <| sO 18 126 5 rfl ?_
 refine c1 (within_any ch op hok fr to) [3, 4, 5] [3, 4, 5, 134] 19 134 6 rfl rfl rfl rfl rfl rfl rfl rfl Tryd.func32 rfl rfl rfl rfl ⟨rfl, rfl, rfl, trivial⟩ rfl rfl ?_
 refine sT 8 142 7 rfl <| e1 150 rfl <| keep [5, 6, 8] rfl ?_
 refine freeze 8 134 ((allS ch op).filter (inR fr to)).length rfl rfl (Nat.le_refl _) ?_
 refine cval 8 (smpV l) rfl (by rw [hl]; rfl) ?_
 refine W_seq <| r1 <| sT 20 150 1 rfl <| sO 21 158 2 rfl <| sO 22 166 3 rfl <| e1 174 rfl <| keep [6, 8, 22] rfl ?_
 refine q1 rfl (fun hc4 => ?_) (fun hc4 => ?_)
 exact absurd hc4 (by decide)
 try simp only [cs, ne_eq] at hc4
 refine W_skip <| tn <| r1 <| sT 9 174 1 rfl <| e1 182 rfl <| keep [6, 8, 9] rfl <| W_seq <| r1 <| sT 25 182 1 rfl <| sO 26 190 2 rfl <| sT 27 198 3 rfl <| e1 206 rfl <| keep [6, 9, 25, 26, 27] rfl <| W_block ?_
 refine chval 174 (rollBlk (foldTo (vals l) 0)) rfl rfl ?_
 refine loop (α := Nat) 8 (fun n => [(6, .ptr 6 0 0), (9, .ptr 7 0 0), (25, smpV l), (26, SV.i l.length), (27, SV.i (n))]) (fun n => [some (.cells 39 3 [.map 1, .sl 2 0 F.length, SV.i cnt]), some (.fam Z ⟨es, [(j, .ptr 3 0 0)], none⟩), some (u8B F), some (.cells 71 2 [.sl 4 0 ch.length, .sl 5 0 op.length]), some (chsB ch), some (smB op), some (.cells 33 7 [SV.i 0, .d .nils, SV.i 0, SV.i 0, SV.i 0, SV.i 0, SV.i 0]), some (rollBlk (foldTo (vals l) (n)))]) (fun n => (n) ≤ l.length) (fun n => l.length - (n)) (((0) : Nat)) [0, 1, 2, 3, 4, 5, 14, 174] (fun _ => rfl) (show (0) ≤ l.length from (Nat.zero_le _)) rfl ⟨rfl, rfl, rfl, rfl, rfl, trivial⟩ ⟨rfl, rfl, rfl, rfl, rfl, rfl, rfl, rfl, trivial⟩ (fun n hx => ?_)
 show W _ _ _ ⟨tOf [(6, .ptr 6 0 0), (9, .ptr 7 0 0), (25, smpV l), (26, SV.i l.length), (27, SV.i n)], hOf [some (.cells 39 3 [.map 1, .sl 2 0 F.length, SV.i cnt]), some (.fam Z ⟨es, [(j, .ptr 3 0 0)], none⟩), some (u8B F), some (.cells 71 2 [.sl 4 0 ch.length, .sl 5 0 op.length]), some (chsB ch), some (smB op), some (.cells 33 7 [SV.i 0, .d .nils, SV.i 0, SV.i 0, SV.i 0, SV.i 0, SV.i 0]), some (rollBlk (foldTo (vals l) n))], 8⟩
 have hx : n ≤ l.length := hx
 have hs2 := fold_s hv n (by rw [vals_len]; exact hx)
 have hcc := fold_c (vals l) n
 refine r1 <| sO 28 8 1 rfl <| e1 16 rfl <| keep [6, 9, 25, 26, 27, 28] rfl <| W_seq ?_
 refine q1 rfl (fun hc8 => ?_) (fun hc8 => ?_)
 try simp only [cs, ne_eq] at hc8
 have hvn := hv n (by rw [vals_len]; omega)
 rw [vals_get (by omega)] at hvn
 unfold inV at hvn
 refine W_skip <| tn <| W_seq <| W_block <| r1 <| sO 29 16 1 rfl <| sO 30 24 2 rfl ?_
 refine val 30 (smpS (l.getD n default)) rfl (by first | rfl | (simp only [Nat.zero_add, Int.toNat_natCast]; rfl)) ?_
 refine sT 11 32 3 rfl <| s0O 40 4 rfl rfl rfl rfl rfl <| e1 48 rfl <| keep [6, 9, 11, 25, 26, 27] rfl ?_
 refine r0 ?_
 refine sO 31 48 1 rfl <| sT 32 56 2 rfl <| sO 33 64 3 rfl ?_
 refine c1 (with_any (foldTo (vals l) n) (l.getD n default).v ⟨by omega, by omega⟩ ⟨by omega, by omega⟩) [] [] 34 72 4 rfl rfl rfl rfl rfl rfl rfl rfl Tryd.func33 rfl rfl rfl rfl trivial rfl rfl ?_
 refine s0O 80 5 rfl rfl rfl rfl rfl <| e1 88 rfl <| bn <| tn ?_
 refine chval 7 (rollBlk (foldTo (vals l) (n + 1))) rfl (by rw [fold_with, vals_get (by omega)]; rfl) ?_
 refine r0 ?_
 refine sAO 35 88 1 rfl <| sT 27 96 2 rfl <| e1 104 rfl <| tn ?_
 exact again ((n + 1 : Nat)) [0, 1, 2, 3, 4, 5, 6, 7] (show (n + 1) ≤ l.length from (by omega)) (show l.length - (n + 1) < l.length - n from (by omega)) rfl ⟨rfl, rfl, rfl, rfl, rfl, trivial⟩ ⟨rfl, rfl, rfl, rfl, rfl, rfl, rfl, rfl, trivial⟩
 try simp only [cs, ne_eq] at hc8
 refine W_exit <| tx <| tx <| bx <| tn ?_
 obtain rfl : n = l.length := (by omega)
 refine r1 <| sO 36 16 1 rfl <| sT 37 24 2 rfl <| s0O 32 3 rfl rfl rfl rfl rfl <| e1 40 rfl <| keep [6] rfl ?_
 refine cellW 6 1 (.d (.vec 2 0 (smpF []))) rfl rfl (nil_vec0 2 _) ?_
 refine rename 2 rfl rfl <| rename 4 rfl rfl <| rename 5 rfl rfl <| W_ret <| br <| tr ?_
 exact outN (fdV ⟨0, [], rollL l, 0⟩) (π := [0, 1, 2, 3, 4, 5, 40, 48, 56]) (hout := [some (.cells 39 3 [.map 1, .sl 6 0 (SeR.mk 0 ch op F cnt).F.length, SV.i (SeR.mk 0 ch op F cnt).cnt]), some (.fam Z ⟨es, [(j, .ptr 3 0 0)], none⟩), none, some (.cells 71 2 [.sl 7 0 (SeR.mk 0 ch op F cnt).ch.length, .sl 8 0 (SeR.mk 0 ch op F cnt).op.length]), none, none, some (u8B (SeR.mk 0 ch op F cnt).F), some (chsB (SeR.mk 0 ch op F cnt).ch), some (smB (SeR.mk 0 ch op F cnt).op)]) Tryd.results13 rfl (by trivial) rfl rfl rfl ⟨rfl, rfl, rfl, rfl, rfl, rfl, trivial⟩ ⟨rfl, rfl⟩
end Go.Proofs.YtalhangpahffeaaDoor.Nice
namespace Go.Proofs.YtalhangpahffeaaDoor.Nice
open Go Go.Proofs
set_option linter.unusedVariables false
set_option linter.unusedSimpArgs false
set_option maxRecDepth 100000
set_option maxHeartbeats 4000000
def serIn (x : Ln) : List InB := [.cells 71 2 [.sl 1 0 x.ch.length, .sl 2 0 x.op.length], .rows 29 1 x.ch.length (chF x.ch), .rows 41 2 x.op.length (smpF x.op)]
def entS (x : Ln) : Value × SV × List InB := (.string x.nm, .ptr 0 0 0, serIn x)
def famL (L : List Ln) : List (Value × SV × List InB) := L.map entS
def idxN (nm : ByteArray) : List Ln → Option Nat
 | [] => none
 | x :: r => if nm = x.nm then some 0 else (idxN nm r).map (· + 1)
theorem idxN_some {nm : ByteArray} : ∀ {L : List Ln} {j : Nat}, idxN nm L = some j → ∃ x, L[j]? = some x ∧ x.nm = nm
 | x :: r, j, h => by
   unfold idxN at h
   by_cases e : nm = x.nm
   · rw [if_pos e] at h; cases h; exact ⟨x, rfl, e.symm⟩
   · rw [if_neg e] at h
     obtain ⟨j', h1, rfl⟩ := Option.map_eq_some_iff.1 h
     simpa using idxN_some (L := r) h1
theorem beqB {a b : ByteArray} : (a == b) = true ↔ a = b := by
 rw [beq_toListBytes, beq_iff_eq]
 exact str_eq.symm
theorem kfindN (nm : ByteArray) : ∀ L : List Ln, kfind .string (.string nm) ((famL L).map (·.1)) = some (idxN nm L)
 | [] => rfl
 | x :: r => by
   have ih := kfindN nm r
   simp only [famL, List.map_cons, entS, kfind, Instr.sameNow, idxN] at ih ⊢
   by_cases e : nm = x.nm
   · rw [if_pos e, beqB.2 e]
   · rw [if_neg e, show (nm == x.nm) = false from by rw [← Bool.not_eq_true, beqB]; exact e]
     simp only [ih, Option.map_some]
theorem KN (nm : ByteArray) (L : List Ln) : KFind Tryd.prog 9 (.string nm) ((famL L).map (·.1)) (idxN nm L) := kfind_ok Tryd.underlying9 rfl (kfindN nm L)
theorem famL_at {L : List Ln} {j : Nat} {x : Ln} (h : L[j]? = some x) : (famL L)[j]? = some (.string x.nm, .ptr 0 0 0, serIn x) := by unfold famL; rw [List.getElem?_map, h]; rfl
theorem famL_set (L : List Ln) (j : Nat) (x : Ln) : (famL L).set j (.string x.nm, .ptr 0 0 0, serIn x) = famL (L.set j x) := by unfold famL; rw [List.map_set]; rfl
theorem famL_push (L : List Ln) (x : Ln) : (famL L ++ [(Value.string x.nm, SV.any, ([] : List InB))]).set (famL L).length (.string x.nm, .ptr 0 0 0, serIn x) = famL (L ++ [x]) := by
 rw [List.set_append_right _ _ (Nat.le_refl _), Nat.sub_self]
 unfold famL; simp [entS]
theorem push_atL (L : List Ln) (k : Value) : (famL L ++ [(k, SV.any, ([] : List InB))])[(famL L).length]? = some (k, .any, []) := by simp
theorem famL_len (L : List Ln) : (famL L).length = L.length := by simp [famL]
structure Sto where
 L : List Ln
 F : List Int
 cnt : Nat
structure CrR where
 e : Int
 s : Sto
def createF (nm : ByteArray) (s : Sto) : CrR :=
 if nameB nm = false then ⟨4, s⟩ else if (idxN nm s.L).isSome then ⟨7, s⟩ else if s.L.length = 6 ∨ s.cnt = 200 then ⟨8, s⟩ else ⟨0, ⟨s.L ++ [⟨nm, [], []⟩], s.F ++ recB ([1] ++ nmL nm), s.cnt + 1⟩⟩
theorem create_form {nm : ByteArray} {s : Sto} (h : nameB nm = false) : createF nm s = ⟨4, s⟩ := by unfold createF; rw [if_pos h]
theorem create_twice {nm : ByteArray} {s : Sto} {j : Nat} (h : nameB nm = true) (h2 : idxN nm s.L = some j) : createF nm s = ⟨7, s⟩ := by unfold createF; rw [if_neg (by rw [h]; simp), h2]; rfl
theorem create_full {nm : ByteArray} {s : Sto} (h : nameB nm = true) (h2 : idxN nm s.L = none) (h3 : s.L.length = 6 ∨ s.cnt = 200) : createF nm s = ⟨8, s⟩ := by unfold createF; rw [if_neg (by rw [h]; simp), h2, if_neg (by simp), if_pos h3]
theorem create_yes {nm : ByteArray} {s : Sto} (h : nameB nm = true) (h2 : idxN nm s.L = none) (h3 : ¬ s.L.length = 6) (h4 : ¬ s.cnt = 200) : createF nm s = ⟨0, ⟨s.L ++ [⟨nm, [], []⟩], s.F ++ recB ([1] ++ nmL nm), s.cnt + 1⟩⟩ := by unfold createF; rw [if_neg (by rw [h]; simp), h2, if_neg (by simp), if_neg (by omega)]
theorem creB_ok (nm : ByteArray) (hs : nm.size ≤ 8) : Bytes ([1] ++ nmL nm) ∧ ([1] ++ nmL nm).length ≤ 4000 := by
 refine ⟨bytes_app (bytes_of (by simp) fun x hx => ?_) (nmL_bytes nm (by omega)) (by simp [nmL_len]; omega), by simp [nmL_len]; omega⟩
 simp at hx; subst hx; omega
theorem cre_cat {nm : ByteArray} (i c : Nat) (hi : i < 1 + nm.size) (hc : c < 1) : catR (litR 1 [.val (.int .u8 1)]) 1 (strBytesF nm) i c = u8F ([1] ++ nmL nm) i c := by
 rw [← u8_str (A := [1]) i c hi hc]
 unfold catR
 split
 · obtain rfl : c = 0 := by omega
   have : i = 0 := by omega
   subst this; rfl
 · next h => rw [if_neg (by simpa using h)]; rfl
theorem create_had {Z : List Nat} (nm : ByteArray) (hnm : nm.size ≤ 9223372036854775807) (s : Sto) (hF : s.F.length ≤ 900000) (hr : s.cnt ≤ 200) (hL : s.L.length ≤ 6) (q : CrR) (hq : createF nm s = q) {j : Nat} (hk : idxN nm s.L = some j) : Spec Tryd.prog GF 11 [.ptr 0 0 0, .d (.val (.string nm))] [.cells 39 3 [.map 1, .sl 2 0 s.F.length, SV.i s.cnt], .fam Z ⟨famL s.L, [], none⟩, u8B s.F] (fun r ho => ∃ Z2, r = SV.i q.e ∧ ho = [some (.cells 39 3 [.map 3, .sl 4 0 q.s.F.length, SV.i q.s.cnt]), none, none, some (.fam Z2 ⟨famL q.s.L, [], none⟩), some (u8B q.s.F)]) := by
 refine start 48 3 Tryd.func11 rfl rfl rfl rfl ?_
 refine r1 <| sT 4 3 1 rfl <| e1 11 rfl <| keep [0, 1] rfl <| r1 <| sT 8 11 1 rfl <| sT 9 19 2 rfl <| sT 10 27 3 rfl <| sO 11 35 4 rfl <| sT 12 43 5 rfl ?_
 refine sLookA j (hk ▸ KN nm s.L) 13 51 6 rfl rfl rfl rfl rfl rfl Tryd.underlying37 rfl (fun M ρ u h => h.val) rfl rfl ?_
 refine sT 7 59 7 rfl <| sT 14 67 8 rfl <| sT 15 75 9 rfl <| sT 5 83 10 rfl <| sT 6 91 11 rfl <| e1 99 rfl <| keep [0, 1, 6] rfl <| W_seq <| W_block <| r1 <| sT 17 99 1 rfl ?_
 refine c1 (name_any nm hnm) [] [] 18 107 2 rfl rfl rfl rfl rfl rfl rfl rfl Tryd.func22 rfl rfl rfl rfl trivial rfl rfl ?_
 refine sT 19 115 3 rfl <| sT 16 123 4 rfl <| e1 131 rfl <| keep [0, 1, 6, 16] rfl ?_
 refine q1 rfl (fun hc2 => ?_) (fun hc2 => ?_)
 try simp only [cs, ne_eq] at hc2
 have hnb : nameB nm = false := (by simpa using hc2)
 refine r1 <| sT 4 131 1 rfl <| e1 139 rfl <| keep [4] rfl <| rename 1 rfl rfl <| rename 2 rfl rfl <| W_ret <| br <| tr ?_
 obtain rfl := hq.symm.trans (create_form hnb)
 exact out1 4 (SV.i 4) (π := [0, 1, 2, 139, 147]) (hout := [some (.cells 39 3 [.map 3, .sl 4 0 s.F.length, SV.i s.cnt]), none, none, some (.fam Z ⟨famL s.L, [], none⟩), some (u8B s.F)]) Tryd.results11 rfl rfl rfl rfl ⟨rfl, rfl, rfl, trivial⟩ ⟨Z, rfl, rfl⟩
 try simp only [cs, ne_eq] at hc2
 have hnb : nameB nm = true := (by simpa using hc2)
 have hns := name_size hnb
 have hcb := creB_ok nm hns.2
 refine r1 <| sT 21 131 1 rfl <| sT 20 139 2 rfl <| e1 147 rfl <| keep [0, 1, 20] rfl ?_
 refine q1 rfl (fun hc4 => ?_) (fun hc4 => ?_)
 try simp only [cs, ne_eq] at hc4
 refine r1 <| sT 4 147 1 rfl <| e1 155 rfl <| keep [4] rfl <| rename 1 rfl rfl <| rename 2 rfl rfl <| W_ret <| br <| tr ?_
 obtain rfl := hq.symm.trans (create_twice hnb hk)
 exact out1 4 (SV.i 7) (π := [0, 1, 2, 155, 163]) (hout := [some (.cells 39 3 [.map 3, .sl 4 0 s.F.length, SV.i s.cnt]), none, none, some (.fam Z ⟨famL s.L, [], none⟩), some (u8B s.F)]) Tryd.results11 rfl rfl rfl rfl ⟨rfl, rfl, rfl, trivial⟩ ⟨Z, rfl, rfl⟩
 exact absurd hc4 (by decide)
theorem create_new {Z : List Nat} (nm : ByteArray) (hnm : nm.size ≤ 9223372036854775807) (s : Sto) (hF : s.F.length ≤ 900000) (hr : s.cnt ≤ 200) (hL : s.L.length ≤ 6) (q : CrR) (hq : createF nm s = q) (hk : idxN nm s.L = none) : Spec Tryd.prog GF 11 [.ptr 0 0 0, .d (.val (.string nm))] [.cells 39 3 [.map 1, .sl 2 0 s.F.length, SV.i s.cnt], .fam Z ⟨famL s.L, [], none⟩, u8B s.F] (fun r ho => ∃ Z2, r = SV.i q.e ∧ ho = [some (.cells 39 3 [.map 3, .sl 4 0 q.s.F.length, SV.i q.s.cnt]), none, none, some (.fam Z2 ⟨famL q.s.L, [], none⟩), some (u8B q.s.F)]) := by
 refine start 48 3 Tryd.func11 rfl rfl rfl rfl ?_
 refine r1 <| sT 4 3 1 rfl <| e1 11 rfl <| keep [0, 1] rfl <| r1 <| sT 8 11 1 rfl <| sT 9 19 2 rfl <| sT 10 27 3 rfl <| sO 11 35 4 rfl <| sT 12 43 5 rfl ?_
 refine sLookF none (.d (.val (.pointer none))) (hk ▸ KN nm s.L) (.inl ⟨rfl, .pointer none, (by kernel_rfl), rfl, rfl⟩) 13 51 6 rfl rfl rfl rfl rfl rfl Tryd.underlying37 rfl (fun M ρ u h => h.val) rfl rfl ?_
 refine sT 7 59 7 rfl <| sT 14 67 8 rfl <| sT 15 75 9 rfl <| sT 5 83 10 rfl <| sT 6 91 11 rfl <| e1 99 rfl <| keep [0, 1, 6] rfl <| W_seq <| W_block <| r1 <| sT 17 99 1 rfl ?_
 refine c1 (name_any nm hnm) [] [] 18 107 2 rfl rfl rfl rfl rfl rfl rfl rfl Tryd.func22 rfl rfl rfl rfl trivial rfl rfl ?_
 refine sT 19 115 3 rfl <| sT 16 123 4 rfl <| e1 131 rfl <| keep [0, 1, 6, 16] rfl ?_
 refine q1 rfl (fun hc2 => ?_) (fun hc2 => ?_)
 try simp only [cs, ne_eq] at hc2
 have hnb : nameB nm = false := (by simpa using hc2)
 refine r1 <| sT 4 131 1 rfl <| e1 139 rfl <| keep [4] rfl <| rename 1 rfl rfl <| rename 2 rfl rfl <| W_ret <| br <| tr ?_
 obtain rfl := hq.symm.trans (create_form hnb)
 exact out1 4 (SV.i 4) (π := [0, 1, 2, 139, 147]) (hout := [some (.cells 39 3 [.map 3, .sl 4 0 s.F.length, SV.i s.cnt]), none, none, some (.fam Z ⟨famL s.L, [], none⟩), some (u8B s.F)]) Tryd.results11 rfl rfl rfl rfl ⟨rfl, rfl, rfl, trivial⟩ ⟨Z, rfl, rfl⟩
 try simp only [cs, ne_eq] at hc2
 have hnb : nameB nm = true := (by simpa using hc2)
 have hns := name_size hnb
 have hcb := creB_ok nm hns.2
 refine r1 <| sT 21 131 1 rfl <| sT 20 139 2 rfl <| e1 147 rfl <| keep [0, 1, 20] rfl ?_
 refine q1 rfl (fun hc4 => ?_) (fun hc4 => ?_)
 exact absurd hc4 (by decide)
 try simp only [cs, ne_eq] at hc4
 refine r1 <| sT 23 147 1 rfl <| sT 24 155 2 rfl <| sT 25 163 3 rfl <| sO 26 171 4 rfl ?_
 refine sLenF (L := s.L.length) 27 179 5 rfl rfl rfl rfl rfl rfl Tryd.underlying37 rfl rfl rfl (famL_len _) ?_
 refine sO 28 187 6 rfl <| sT 29 195 7 rfl ?_
 refine ask 29 rfl (fun hg6_29 => ?_) (fun hg6_29 => ?_)
 try simp only [cs, ne_eq] at hg6_29
 refine gF 6 false 29 30 8 rfl rfl <| gF 6 false 29 31 9 rfl rfl <| gF 6 false 29 32 10 rfl rfl <| gF 6 false 29 33 11 rfl rfl <| gF 6 false 29 34 12 rfl rfl <| sT 35 243 13 rfl <| sT 22 251 14 rfl <| e1 259 rfl <| keep [0, 1, 22] rfl ?_
 refine q1 rfl (fun hc6 => ?_) (fun hc6 => ?_)
 try simp only [cs, ne_eq] at hc6
 refine r1 <| sT 4 259 1 rfl <| e1 267 rfl <| keep [4] rfl <| rename 1 rfl rfl <| rename 2 rfl rfl <| W_ret <| br <| tr ?_
 obtain rfl := hq.symm.trans (create_full hnb hk (by omega))
 exact out1 4 (SV.i 8) (π := [0, 1, 2, 267, 275]) (hout := [some (.cells 39 3 [.map 3, .sl 4 0 s.F.length, SV.i s.cnt]), none, none, some (.fam Z ⟨famL s.L, [], none⟩), some (u8B s.F)]) Tryd.results11 rfl rfl rfl rfl ⟨rfl, rfl, rfl, trivial⟩ ⟨Z, rfl, rfl⟩
 exact absurd hc6 (by decide)
 try simp only [cs, ne_eq] at hg6_29
 refine gT 6 false 29 8 rfl rfl <| sT 30 203 8 rfl <| gT 6 false 29 9 rfl rfl <| sT 31 211 9 rfl <| gT 6 false 29 10 rfl rfl <| sT 32 219 10 rfl <| gT 6 false 29 11 rfl rfl <| sO 33 227 11 rfl <| gT 6 false 29 12 rfl rfl <| sO 34 235 12 rfl <| sT 35 243 13 rfl <| sT 22 251 14 rfl <| e1 259 rfl <| keep [0, 1, 22] rfl ?_
 refine q1 rfl (fun hc6 => ?_) (fun hc6 => ?_)
 try simp only [cs, ne_eq] at hc6
 refine r1 <| sT 4 259 1 rfl <| e1 267 rfl <| keep [4] rfl <| rename 1 rfl rfl <| rename 2 rfl rfl <| W_ret <| br <| tr ?_
 obtain rfl := hq.symm.trans (create_full hnb hk (by omega))
 exact out1 4 (SV.i 8) (π := [0, 1, 2, 267, 275]) (hout := [some (.cells 39 3 [.map 3, .sl 4 0 s.F.length, SV.i s.cnt]), none, none, some (.fam Z ⟨famL s.L, [], none⟩), some (u8B s.F)]) Tryd.results11 rfl rfl rfl rfl ⟨rfl, rfl, rfl, trivial⟩ ⟨Z, rfl, rfl⟩
 try simp only [cs, ne_eq] at hc6
 refine W_skip <| bn <| tn <| r1 <| sT 36 259 1 rfl <| sT 37 267 2 rfl <| sT 38 275 3 rfl <| sO 39 283 4 rfl <| sT 40 291 5 rfl <| sT 41 299 6 rfl <| sT 42 307 7 rfl ?_
 refine sMapF none (.ptr 307 0 0) (hk ▸ KN nm s.L) (fun p hp => by cases hp) 315 8 rfl rfl rfl rfl rfl Tryd.underlying37 rfl (fun M ρ u h => h.val) rfl rfl ?_
 refine e1 323 rfl <| keep [0, 1] rfl ?_
 refine cghostly 307 0 29 1 (chF []) rfl rfl rfl ?_
 refine cghostly 307 1 41 2 (smpF []) rfl rfl rfl ?_
 refine famShut 1 (famL s.L).length [307, 323, 331] (.ptr 0 0 0) (serIn (Ln.mk nm [] [])) rfl (push_atL s.L _) rfl ⟨rfl, rfl, rfl, trivial⟩ rfl (fun Z3 => ?_)
 refine chval 1 (.fam Z3 ⟨famL (s.L ++ [(Ln.mk nm [] [])]), [], none⟩) rfl (congrArg (fun l => Blk.fam Z3 ⟨l, [], none⟩) (famL_push s.L (Ln.mk nm [] []))) ?_
 refine r1 <| sT 43 339 1 rfl <| sT 44 347 2 rfl <| sT 45 355 3 rfl ?_
 refine sApS 46 363 4 rfl rfl rfl rfl rfl rfl Tryd.underlying24 Tryd.underlying9 rfl rfl rfl rfl rfl rfl rfl rfl rfl (by omega) (by show (1 + nm.size) * 1 ≤ 140737488355328; omega) (by simp only [maxLen]; omega) ?_
 refine c1 (recS_any s.F ([1] ++ nmL nm) (by omega) hcb.1 hcb.2 s.cnt (by omega) (by rw [List.length_append, nmL_len]; rfl) (fun i c hi hc => cre_cat i c hi hc)) [0, 1, 2, 363] [0, 1, 2, 363, 371] 47 371 5 rfl rfl rfl rfl rfl rfl rfl rfl Tryd.func23 rfl rfl rfl rfl ⟨rfl, rfl, rfl, rfl, trivial⟩ rfl rfl ?_
 refine e1 379 rfl <| keep [] rfl <| r1 <| sT 4 379 1 rfl <| e1 387 rfl <| keep [4] rfl <| rename 1 rfl rfl <| W_ret ?_
 obtain rfl := hq.symm.trans (create_yes hnb hk (by omega) (by omega))
 exact out1 4 (SV.i 0) (π := [0, 1, 2, 387, 371]) (hout := [some (.cells 39 3 [.map 3, .sl 4 0 (Sto.mk (s.L ++ [(Ln.mk nm [] [])]) (s.F ++ recB ([1] ++ nmL nm)) (s.cnt + 1)).F.length, SV.i (Sto.mk (s.L ++ [(Ln.mk nm [] [])]) (s.F ++ recB ([1] ++ nmL nm)) (s.cnt + 1)).cnt]), none, none, some (.fam Z3 ⟨famL (Sto.mk (s.L ++ [(Ln.mk nm [] [])]) (s.F ++ recB ([1] ++ nmL nm)) (s.cnt + 1)).L, [], none⟩), some (u8B (Sto.mk (s.L ++ [(Ln.mk nm [] [])]) (s.F ++ recB ([1] ++ nmL nm)) (s.cnt + 1)).F)]) Tryd.results11 rfl rfl rfl rfl ⟨rfl, rfl, rfl, trivial⟩ ⟨Z3, rfl, rfl⟩
theorem create_any {Z : List Nat} (nm : ByteArray) (hnm : nm.size ≤ 9223372036854775807) (s : Sto) (hF : s.F.length ≤ 900000) (hr : s.cnt ≤ 200) (hL : s.L.length ≤ 6) (q : CrR) (hq : createF nm s = q) : Spec Tryd.prog GF 11 [.ptr 0 0 0, .d (.val (.string nm))] [.cells 39 3 [.map 1, .sl 2 0 s.F.length, SV.i s.cnt], .fam Z ⟨famL s.L, [], none⟩, u8B s.F] (fun r ho => ∃ Z2, r = SV.i q.e ∧ ho = [some (.cells 39 3 [.map 3, .sl 4 0 q.s.F.length, SV.i q.s.cnt]), none, none, some (.fam Z2 ⟨famL q.s.L, [], none⟩), some (u8B q.s.F)]) := by
 cases hk : idxN nm s.L with
 | none => exact create_new nm hnm s hF hr hL q hq hk
 | some j => exact create_had nm hnm s hF hr hL q hq hk
end Go.Proofs.YtalhangpahffeaaDoor.Nice
