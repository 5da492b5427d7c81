/- Part 6 of the proof of CrewTotals: ChunkEnc, BitEye, ByteArgs, MkT, MkA, MkP, MkQ. -/
import Derived.Test.YtpdojmebloekgaaDoorZT5
import Derived.Conc.CrowdRun
import Derived.Conc.CrowdComm
import Derived.Conc.QuitsD
namespace Go.Proofs.YtpdojmebloekgaaDoor.Nice.Co
open Go
set_option linter.unusedVariables false
set_option linter.unusedSimpArgs false
set_option maxRecDepth 100000
set_option maxHeartbeats 4000000
structure Smp where
 t : Int
 v : Int
 deriving Inhabited, DecidableEq
def smpF (l : List Smp) : Nat → Nat → D := fun i c => match c with | 0 => .val (.int .i64 (l.getD i default).t) | 1 => .val (.int .i64 (l.getD i default).v) | _ => .any
def smpV (l : List Smp) : SV := .d (.vec 2 l.length (smpF l))
def smpS (s : Smp) : SV := .agg [SV.i s.t, SV.i s.v]
structure SmpIn (l : List Smp) : Prop where
 n : l.length ≤ 9223372036854775807
 t : ∀ k, inRange (l.getD k default).t
 v : ∀ k, inRange (l.getD k default).v
structure Lst where
 t : Int
 v : Int
 st : Int
 n : Int
def lstX (a : Lst) : List SV := [SV.i a.t, SV.i a.v, SV.i a.st, SV.i a.n]
def inB (x : Int) : Prop := -36028797018963968 ≤ x ∧ x < 36028797018963968
instance (x : Int) : Decidable (inB x) := inferInstanceAs (Decidable (_ ∧ _))
def lfault (a : Lst) (s : Smp) : Int := if inB s.t ∧ inB s.v then (if 0 < a.n ∧ s.t ≤ a.t then 9 else 0) else 11
def cT (a : Lst) (s : Smp) : Int := if a.n = 0 then s.t else s.t - a.t - a.st
def cV (a : Lst) (s : Smp) : Int := if a.n = 0 then s.v else s.v - a.v
def nxt (a : Lst) (s : Smp) : Lst := ⟨s.t, s.v, if 0 < a.n then s.t - a.t else a.st, a.n + 1⟩
structure LstIn (a : Lst) : Prop where
 t : inB a.t
 v : inB a.v
 st : -72057594037927936 ≤ a.st ∧ a.st ≤ 72057594037927936
 n : 0 ≤ a.n ∧ a.n ≤ 1000
def lstN (l : List Smp) : Nat → Lst
 | 0 => ⟨0, 0, 0, 0⟩
 | k + 1 => nxt (lstN l k) (l.getD k default)
def faultTo (l : List Smp) : Nat → Int
 | 0 => 0
 | k + 1 => if faultTo l k = 0 then lfault (lstN l k) (l.getD k default) else faultTo l k
def sfault (l : List Smp) : Int := if 120 < l.length then 1 else faultTo l l.length
def encL (l : List Smp) : Nat → List Int
 | 0 => [] ++ bitsOf 8 l.length
 | k + 1 => zput (zput (encL l k) (cT (lstN l k) (l.getD k default))) (cV (lstN l k) (l.getD k default))
def encB (l : List Smp) : List Int := pack (encL l l.length)
theorem lstN_n (l : List Smp) : ∀ k, (lstN l k).n = k
 | 0 => rfl
 | k + 1 => by show (lstN l k).n + 1 = _; rw [lstN_n l k]; omega
theorem lfault_zero {a : Lst} {s : Smp} (h : lfault a s = 0) : inB s.t ∧ inB s.v ∧ (0 < a.n → a.t < s.t) := by
 unfold lfault at h
 split at h
 · next hb =>
   split at h
   · cases h
   · next hn => exact ⟨hb.1, hb.2, fun h0 => by have : ¬ s.t ≤ a.t := fun e => hn ⟨h0, e⟩
                                                omega⟩
 · cases h
theorem faultTo_down {l : List Smp} {k : Nat} (h : faultTo l (k + 1) = 0) : faultTo l k = 0 ∧ lfault (lstN l k) (l.getD k default) = 0 := by
 unfold faultTo at h
 split at h
 · next h0 => exact ⟨h0, h⟩
 · next h0 => exact absurd h h0
theorem faultTo_le {l : List Smp} {k n : Nat} (hk : k ≤ n) (h : faultTo l n = 0) : faultTo l k = 0 := by
 induction n with
 | zero => obtain rfl : k = 0 := by omega
           exact h
 | succ n ih =>
   rcases Nat.lt_or_ge n k with hlt | hge
   · obtain rfl : k = n + 1 := by omega
     exact h
   · exact ih hge (faultTo_down h).1
theorem faultTo_stay {l : List Smp} {k n : Nat} (hk : k ≤ n) (h : faultTo l k ≠ 0) : faultTo l n = faultTo l k := by
 induction n with
 | zero => obtain rfl : k = 0 := by omega
           rfl
 | succ n ih =>
   rcases Nat.lt_or_ge n k with hlt | hge
   · obtain rfl : k = n + 1 := by omega
     rfl
   · have := ih hge
     show (if faultTo l n = 0 then _ else faultTo l n) = _
     rw [if_neg (by rw [this]; exact h), this]
theorem faultTo_at {l : List Smp} {k n : Nat} (hk : k < n) (h0 : faultTo l k = 0) (h : lfault (lstN l k) (l.getD k default) ≠ 0) : faultTo l n = lfault (lstN l k) (l.getD k default) := by
 have e : faultTo l (k + 1) = lfault (lstN l k) (l.getD k default) := by show (if _ then _ else _) = _; rw [if_pos h0]
 rw [faultTo_stay (k := k + 1) hk (by rw [e]; exact h), e]
theorem faultTo_step {l : List Smp} {k : Nat} (h0 : faultTo l k = 0) (h : lfault (lstN l k) (l.getD k default) = 0) : faultTo l (k + 1) = 0 := by show (if _ then _ else _) = _; rw [if_pos h0, h]
theorem smp_at {l : List Smp} {k n : Nat} (h : faultTo l n = 0) (hk : k < n) : inB (l.getD k default).t ∧ inB (l.getD k default).v ∧ (0 < k → (lstN l k).t < (l.getD k default).t) := by
 have := lfault_zero (faultTo_down (faultTo_le (show k + 1 ≤ n from hk) h)).2
 rw [lstN_n] at this
 exact ⟨this.1, this.2.1, fun hk => this.2.2 (by omega)⟩
theorem lstN_t (l : List Smp) {k : Nat} (hk : 0 < k) : (lstN l k).t = (l.getD (k - 1) default).t ∧ (lstN l k).v = (l.getD (k - 1) default).v := by
 obtain ⟨j, rfl⟩ : ∃ j, k = j + 1 := ⟨k - 1, by omega⟩
 exact ⟨rfl, rfl⟩
theorem lstN_st (l : List Smp) (k : Nat) : (lstN l k).st = if 2 ≤ k then (l.getD (k - 1) default).t - (l.getD (k - 2) default).t else 0 := by
 match k with
 | 0 => rfl
 | 1 => rfl
 | k + 2 =>
   rw [if_pos (by omega)]
   show (if 0 < (lstN l (k + 1)).n then _ else _) = _
   rw [if_pos (by rw [lstN_n]; omega)]
   rfl
theorem lst_in {l : List Smp} {k : Nat} (h : faultTo l k = 0) (hk : k ≤ 1000) : LstIn (lstN l k) := by
 refine ⟨?_, ?_, ?_, by rw [lstN_n]; omega⟩
 · rcases Nat.eq_zero_or_pos k with rfl | h0
   · show inB 0; exact ⟨by decide, by decide⟩
   · rw [(lstN_t l h0).1]; exact (smp_at h (show k - 1 < k by omega)).1
 · rcases Nat.eq_zero_or_pos k with rfl | h0
   · show inB 0; exact ⟨by decide, by decide⟩
   · rw [(lstN_t l h0).2]; exact (smp_at h (show k - 1 < k by omega)).2.1
 · rw [lstN_st]
   split
   · next h2 =>
     obtain ⟨a1, a2⟩ := (smp_at h (show k - 1 < k by omega)).1
     obtain ⟨b1, b2⟩ := (smp_at h (show k - 2 < k by omega)).1
     omega
   · omega
theorem encL_bits (l : List Smp) : ∀ k, AllBits (encL l k)
 | 0 => allBits_nil.append (bitsOf_bits _ _)
 | k + 1 => zput_bits (zput_bits (encL_bits l k) _) _
theorem encL_len (l : List Smp) : ∀ k, (encL l k).length ≤ 8 + 240 * k
 | 0 => by show ([] ++ bitsOf 8 _).length ≤ _; rw [List.nil_append, bitsOf_length]; omega
 | k + 1 => by
   have h1 := zput_len (zput (encL l k) (cT (lstN l k) (l.getD k default))) (cV (lstN l k) (l.getD k default))
   have h2 := zput_len (encL l k) (cT (lstN l k) (l.getD k default))
   have h3 := encL_len l k
   show (zput (zput _ _) _).length ≤ _
   omega
theorem c_small {a : Lst} {s : Smp} (h : LstIn a) (ht : inB s.t) (hv : inB s.v) : isSm (cT a s) ∧ isSm (cV a s) := by
 obtain ⟨⟨h1, h2⟩, ⟨h3, h4⟩, ⟨h5, h6⟩, _⟩ := h
 obtain ⟨g1, g2⟩ := ht
 obtain ⟨g3, g4⟩ := hv
 unfold cT cV isSm
 constructor <;> split <;> omega
theorem fault_any (a : Lst) (s : Smp) : Spec Tryd.prog GC 31 [.ptr 0 0 0, smpS s] [.cells 69 4 (lstX a)] (fun r ho => r = SV.i (lfault a s) ∧ ho = [some (.cells 69 4 (lstX a))]) := by
 refine start 40 1 Tryd.func31 rfl rfl rfl rfl ?_
 refine r1 <| sT 3 1 1 rfl <| sT 4 9 2 rfl <| e1 17 rfl <| keep [0, 3] rfl <| W_seq <| W_block <| r1 <| sT 6 17 1 rfl <| sO 7 25 2 rfl <| sO 8 33 3 rfl <| sT 9 41 4 rfl ?_
 refine ask 9 rfl (fun hg1_9 => ?_) (fun hg1_9 => ?_)
 try simp only [cs, ne_eq] at hg1_9
 refine gF 3 false 9 10 5 rfl rfl <| gF 3 false 9 11 6 rfl rfl <| gF 3 false 9 12 7 rfl rfl <| sT 13 73 8 rfl <| sT 14 81 9 rfl <| gF 8 false 14 15 10 rfl rfl <| gF 8 false 14 16 11 rfl rfl <| gF 8 false 14 17 12 rfl rfl <| sT 18 113 13 rfl <| sT 19 121 14 rfl <| gF 13 false 19 20 15 rfl rfl <| gF 13 false 19 21 16 rfl rfl <| gF 13 false 19 22 17 rfl rfl <| sT 23 153 18 rfl <| sT 5 161 19 rfl <| e1 169 rfl ?_
 refine keep [0, 3, 5] rfl ?_
 refine q1 rfl (fun hc1 => ?_) (fun hc1 => ?_)
 try simp only [cs, ne_eq] at hc1
 refine r1 <| sT 4 169 1 rfl <| e1 177 rfl <| keep [4] rfl <| W_ret <| br <| tr ?_
 exact out1 4 (SV.i (lfault a s)) (π := [0]) (hout := [some (.cells 69 4 (lstX a))]) Tryd.results31 rfl (by unfold lfault inB; rw [if_neg (by rintro ⟨⟨h1, h2⟩, h3, h4⟩; omega)]; rfl) rfl rfl ⟨rfl, trivial⟩ ⟨rfl, rfl⟩
 exact absurd hc1 (by decide)
 try simp only [cs, ne_eq] at hg1_9
 refine gT 3 false 9 5 rfl rfl <| sT 10 49 5 rfl <| gT 3 false 9 6 rfl rfl <| sO 11 57 6 rfl <| gT 3 false 9 7 rfl rfl <| sO 12 65 7 rfl <| sT 13 73 8 rfl <| sT 14 81 9 rfl ?_
 refine ask 14 rfl (fun hg1_14 => ?_) (fun hg1_14 => ?_)
 try simp only [cs, ne_eq] at hg1_14
 refine gF 8 false 14 15 10 rfl rfl <| gF 8 false 14 16 11 rfl rfl <| gF 8 false 14 17 12 rfl rfl <| sT 18 113 13 rfl <| sT 19 121 14 rfl <| gF 13 false 19 20 15 rfl rfl <| gF 13 false 19 21 16 rfl rfl <| gF 13 false 19 22 17 rfl rfl <| sT 23 153 18 rfl <| sT 5 161 19 rfl <| e1 169 rfl <| keep [0, 3, 5] rfl ?_
 refine q1 rfl (fun hc1 => ?_) (fun hc1 => ?_)
 try simp only [cs, ne_eq] at hc1
 refine r1 <| sT 4 169 1 rfl <| e1 177 rfl <| keep [4] rfl <| W_ret <| br <| tr ?_
 exact out1 4 (SV.i (lfault a s)) (π := [0]) (hout := [some (.cells 69 4 (lstX a))]) Tryd.results31 rfl (by unfold lfault inB; rw [if_neg (by rintro ⟨⟨h1, h2⟩, h3, h4⟩; omega)]; rfl) rfl rfl ⟨rfl, trivial⟩ ⟨rfl, rfl⟩
 exact absurd hc1 (by decide)
 try simp only [cs, ne_eq] at hg1_14
 refine gT 8 false 14 10 rfl rfl <| sT 15 89 10 rfl <| gT 8 false 14 11 rfl rfl <| sO 16 97 11 rfl <| gT 8 false 14 12 rfl rfl <| sO 17 105 12 rfl <| sT 18 113 13 rfl <| sT 19 121 14 rfl ?_
 refine ask 19 rfl (fun hg1_19 => ?_) (fun hg1_19 => ?_)
 try simp only [cs, ne_eq] at hg1_19
 refine gF 13 false 19 20 15 rfl rfl <| gF 13 false 19 21 16 rfl rfl <| gF 13 false 19 22 17 rfl rfl <| sT 23 153 18 rfl <| sT 5 161 19 rfl <| e1 169 rfl <| keep [0, 3, 5] rfl ?_
 refine q1 rfl (fun hc1 => ?_) (fun hc1 => ?_)
 try simp only [cs, ne_eq] at hc1
 refine r1 <| sT 4 169 1 rfl <| e1 177 rfl <| keep [4] rfl <| W_ret <| br <| tr ?_
 exact out1 4 (SV.i (lfault a s)) (π := [0]) (hout := [some (.cells 69 4 (lstX a))]) Tryd.results31 rfl (by unfold lfault inB; rw [if_neg (by rintro ⟨⟨h1, h2⟩, h3, h4⟩; omega)]; rfl) rfl rfl ⟨rfl, trivial⟩ ⟨rfl, rfl⟩
 exact absurd hc1 (by decide)
 try simp only [cs, ne_eq] at hg1_19
 refine gT 13 false 19 15 rfl rfl <| sT 20 129 15 rfl <| gT 13 false 19 16 rfl rfl <| sO 21 137 16 rfl <| gT 13 false 19 17 rfl rfl <| sO 22 145 17 rfl <| sT 23 153 18 rfl <| sT 5 161 19 rfl <| e1 169 rfl <| keep [0, 3, 5] rfl ?_
 refine q1 rfl (fun hc1 => ?_) (fun hc1 => ?_)
 try simp only [cs, ne_eq] at hc1
 refine r1 <| sT 4 169 1 rfl <| e1 177 rfl <| keep [4] rfl <| W_ret <| br <| tr ?_
 exact out1 4 (SV.i (lfault a s)) (π := [0]) (hout := [some (.cells 69 4 (lstX a))]) Tryd.results31 rfl (by unfold lfault inB; rw [if_neg (by rintro ⟨⟨h1, h2⟩, h3, h4⟩; omega)]; rfl) rfl rfl ⟨rfl, trivial⟩ ⟨rfl, rfl⟩
 try simp only [cs, ne_eq] at hc1
 refine rd1 rfl ?_
 refine dT 25 169 1 rfl <| dT 26 177 2 rfl <| dT 27 185 3 rfl <| dO 28 193 4 rfl <| dO 29 201 5 rfl <| dT 30 209 6 rfl ?_
 refine ask 30 rfl (fun hg3_30 => ?_) (fun hg3_30 => ?_)
 try simp only [cs, ne_eq] at hg3_30
 refine gT 5 true 30 7 rfl rfl <| dT 31 217 7 rfl <| gT 5 true 30 8 rfl rfl <| dO 32 225 8 rfl <| gT 5 true 30 9 rfl rfl <| dT 33 233 9 rfl <| gT 5 true 30 10 rfl rfl <| dT 34 241 10 rfl <| gT 5 true 30 11 rfl rfl <| dT 35 249 11 rfl <| gT 5 true 30 12 rfl rfl <| dT 36 257 12 rfl <| gT 5 true 30 13 rfl rfl <| dO 37 265 13 rfl <| gT 5 true 30 14 rfl rfl <| dO 38 273 14 rfl ?_
 refine dT 39 281 15 rfl <| dT 24 289 16 rfl <| de1 297 rfl (by kernel_rfl) <| keep [24] rfl ?_
 refine q1 rfl (fun hc3 => ?_) (fun hc3 => ?_)
 try simp only [cs, ne_eq] at hc3
 refine r1 <| sT 4 297 1 rfl <| e1 305 rfl <| keep [4] rfl <| W_ret <| br <| tr ?_
 exact out1 4 (SV.i (lfault a s)) (π := [0]) (hout := [some (.cells 69 4 (lstX a))]) Tryd.results31 rfl (by unfold lfault inB; rw [if_pos ⟨⟨by omega, by omega⟩, by omega, by omega⟩, if_pos ⟨by omega, by omega⟩]; rfl) rfl rfl ⟨rfl, trivial⟩ ⟨rfl, rfl⟩
 try simp only [cs, ne_eq] at hc3
 refine W_skip <| bn <| tn <| r1 <| sT 4 297 1 rfl <| e1 305 rfl <| keep [4] rfl <| W_ret ?_
 exact out1 4 (SV.i (lfault a s)) (π := [0]) (hout := [some (.cells 69 4 (lstX a))]) Tryd.results31 rfl (by unfold lfault inB; rw [if_pos ⟨⟨by omega, by omega⟩, by omega, by omega⟩, if_neg (by rintro ⟨h1, h2⟩; omega)]; rfl) rfl rfl ⟨rfl, trivial⟩ ⟨rfl, rfl⟩
 try simp only [cs, ne_eq] at hg3_30
 refine gF 5 true 30 31 7 rfl rfl <| gF 5 true 30 32 8 rfl rfl <| gF 5 true 30 33 9 rfl rfl <| gF 5 true 30 34 10 rfl rfl <| gF 5 true 30 35 11 rfl rfl <| gF 5 true 30 36 12 rfl rfl <| gF 5 true 30 37 13 rfl rfl <| gF 5 true 30 38 14 rfl rfl <| dT 39 281 15 rfl <| dT 24 289 16 rfl <| de1 297 rfl (by kernel_rfl) <| keep [24] rfl ?_
 refine q1 rfl (fun hc3 => ?_) (fun hc3 => ?_)
 exact absurd hc3 (by decide)
 try simp only [cs, ne_eq] at hc3
 refine W_skip <| bn <| tn <| r1 <| sT 4 297 1 rfl <| e1 305 rfl <| keep [4] rfl <| W_ret ?_
 exact out1 4 (SV.i (lfault a s)) (π := [0]) (hout := [some (.cells 69 4 (lstX a))]) Tryd.results31 rfl (by unfold lfault inB; rw [if_pos ⟨⟨by omega, by omega⟩, by omega, by omega⟩, if_neg (by rintro ⟨h1, h2⟩; omega)]; rfl) rfl rfl ⟨rfl, trivial⟩ ⟨rfl, rfl⟩
theorem codes_any (a : Lst) (s : Smp) (ha : LstIn a) (ht : inB s.t) (hv : inB s.v) : Spec Tryd.prog GC 32 [.ptr 0 0 0, smpS s] [.cells 69 4 (lstX a)] (fun r ho => r = SV.tup [SV.i (cT a s), SV.i (cV a s)] ∧ ho = [some (.cells 69 4 (lstX a))]) := by
 obtain ⟨⟨h1, h2⟩, ⟨h3, h4⟩, ⟨h5, h6⟩, h7, h8⟩ := ha
 obtain ⟨g1, g2⟩ := ht
 obtain ⟨g3, g4⟩ := hv
 refine start 36 1 Tryd.func32 rfl rfl rfl rfl ?_
 refine r1 <| sT 3 1 1 rfl <| sT 4 9 2 rfl <| sT 5 17 3 rfl <| e1 25 rfl <| keep [0, 3] rfl <| W_seq <| r1 <| sT 6 25 1 rfl <| sT 7 33 2 rfl <| sT 8 41 3 rfl <| sO 9 49 4 rfl <| sO 10 57 5 rfl <| e1 65 rfl <| keep [0, 3, 10] rfl ?_
 refine q1 rfl (fun hc1 => ?_) (fun hc1 => ?_)
 try simp only [cs, ne_eq] at hc1
 refine rd1 rfl ?_
 refine dT 11 65 1 rfl <| dO 12 73 2 rfl <| dT 13 81 3 rfl <| dO 14 89 4 rfl <| dT 4 97 5 rfl <| dT 5 105 6 rfl <| de1 113 rfl (by kernel_rfl) <| keep [4, 5] rfl <| W_ret <| tr ?_
 exact out2 4 5 (SV.i (cT a s)) (SV.i (cV a s)) (π := [0]) (hout := [some (.cells 69 4 (lstX a))]) Tryd.results32 rfl rfl (by unfold cT; rw [if_pos (by omega)]; rfl) (by unfold cV; rw [if_pos (by omega)]; rfl) rfl rfl ⟨rfl, trivial⟩ ⟨rfl, rfl⟩
 try simp only [cs, ne_eq] at hc1
 refine W_skip <| tn ?_
 refine rd1 rfl ?_
 refine dT 15 65 1 rfl <| dO 16 73 2 rfl <| dT 17 81 3 rfl <| dT 18 89 4 rfl <| dT 19 97 5 rfl <| dT 20 105 6 rfl <| dO 21 113 7 rfl <| dAO 22 121 8 rfl <| dT 23 129 9 rfl <| dT 24 137 10 rfl <| dT 25 145 11 rfl <| dO 26 153 12 rfl <| dAO 27 161 13 rfl <| dT 28 169 14 rfl <| dO 29 177 15 rfl <| dT 30 185 16 rfl ?_
 refine dT 31 193 17 rfl <| dT 32 201 18 rfl <| dT 33 209 19 rfl <| dO 34 217 20 rfl <| dAO 35 225 21 rfl <| dT 4 233 22 rfl <| dT 5 241 23 rfl <| de1 249 rfl (by kernel_rfl) <| keep [4, 5] rfl <| W_ret ?_
 exact out2 4 5 (SV.i (cT a s)) (SV.i (cV a s)) (π := [0]) (hout := [some (.cells 69 4 (lstX a))]) Tryd.results32 rfl rfl (by unfold cT; rw [if_neg (by omega)]; rfl) (by unfold cV; rw [if_neg (by omega)]; rfl) rfl rfl ⟨rfl, trivial⟩ ⟨rfl, rfl⟩
theorem next_any (a : Lst) (s : Smp) (ha : LstIn a) (ht : inB s.t) (hv : inB s.v) : Spec Tryd.prog GC 34 [.ptr 0 0 0, smpS s] [.cells 69 4 (lstX a)] (fun r ho => r = SV.tup [] ∧ ho = [some (.cells 69 4 (lstX (nxt a s)))]) := by
 obtain ⟨⟨h1, h2⟩, ⟨h3, h4⟩, ⟨h5, h6⟩, h7, h8⟩ := ha
 obtain ⟨g1, g2⟩ := ht
 obtain ⟨g3, g4⟩ := hv
 refine start 31 1 Tryd.func34 rfl rfl rfl rfl ?_
 refine r1 <| sT 3 1 1 rfl <| e1 9 rfl <| keep [0, 3] rfl <| W_seq <| r1 <| sT 4 9 1 rfl <| sT 5 17 2 rfl <| sT 6 25 3 rfl <| sO 7 33 4 rfl <| sO 8 41 5 rfl <| e1 49 rfl <| keep [0, 3, 8] rfl ?_
 refine q1 rfl (fun hc1 => ?_) (fun hc1 => ?_)
 try simp only [cs, ne_eq] at hc1
 refine rd0 rfl ?_
 refine dT 9 49 1 rfl <| dT 10 57 2 rfl <| dO 11 65 3 rfl <| dT 12 73 4 rfl <| dT 13 81 5 rfl <| dT 14 89 6 rfl <| dT 15 97 7 rfl <| dO 16 105 8 rfl <| dAO 17 113 9 rfl <| dT 18 121 10 rfl <| dT 19 129 11 rfl ?_
 refine d0 137 12 rfl rfl rfl rfl rfl (by first | trivial | omega) ?_
 refine de1 145 rfl (by kernel_rfl) <| tn <| r1 <| sT 20 145 1 rfl <| sO 21 153 2 rfl <| sT 22 161 3 rfl <| sT 23 169 4 rfl <| s0O 177 5 rfl rfl rfl rfl rfl <| e1 185 rfl <| keep [0] rfl ?_
 refine r0 ?_
 refine sT 24 185 1 rfl <| sT 25 193 2 rfl <| sT 26 201 3 rfl <| sO 27 209 4 rfl <| sAO 28 217 5 rfl <| sT 29 225 6 rfl <| sT 30 233 7 rfl <| s0O 241 8 rfl rfl rfl rfl rfl <| e1 249 rfl ?_
 exact out0 (π := [0]) (hout := [some (.cells 69 4 (lstX (nxt a s)))]) Tryd.results34 rfl rfl ⟨(by show some (Blk.cells _ _ _) = some (Blk.cells _ _ _); unfold nxt lstX; rw [if_pos (by omega)]; rfl), trivial⟩ ⟨rfl, rfl⟩
 try simp only [cs, ne_eq] at hc1
 refine W_skip <| tn <| r1 <| sT 20 49 1 rfl <| sO 21 57 2 rfl <| sT 22 65 3 rfl <| sT 23 73 4 rfl <| s0O 81 5 rfl rfl rfl rfl rfl <| e1 89 rfl <| keep [0] rfl ?_
 refine r0 ?_
 refine sT 24 89 1 rfl <| sT 25 97 2 rfl <| sT 26 105 3 rfl <| sO 27 113 4 rfl <| sAO 28 121 5 rfl <| sT 29 129 6 rfl <| sT 30 137 7 rfl <| s0O 145 8 rfl rfl rfl rfl rfl <| e1 153 rfl ?_
 exact out0 (π := [0]) (hout := [some (.cells 69 4 (lstX (nxt a s)))]) Tryd.results34 rfl rfl ⟨(by show some (Blk.cells _ _ _) = some (Blk.cells _ _ _); unfold nxt lstX; rw [if_neg (by omega)]; rfl), trivial⟩ ⟨rfl, rfl⟩
theorem encode_ok (l : List Smp) (hin : SmpIn l) (hz : sfault l = 0) : Spec Tryd.prog GC 14 [smpV l] [] (fun r ho => r = SV.tup [.sl 0 0 (encB l).length, SV.i 0] ∧ ho = [some (.rows 5 1 (encB l).length (u8F (encB l)))]) := by
 refine start 41 0 Tryd.func14 rfl rfl rfl rfl ?_
 refine r1 <| sT 2 0 1 rfl <| sT 3 8 2 rfl <| e1 16 rfl <| keep [0] rfl <| W_seq <| r1 <| sT 11 16 1 rfl <| sO 12 24 2 rfl <| sO 13 32 3 rfl <| e1 40 rfl <| keep [0, 13] rfl ?_
 refine q1 rfl (fun hc1 => ?_) (fun hc1 => ?_)
 exfalso; unfold sfault at hz; rw [if_pos (by simp at hc1; omega)] at hz; cases hz
 try simp only [cs, ne_eq] at hc1
 refine W_skip <| tn <| r1 <| sT 4 40 1 rfl <| e1 48 rfl <| keep [0, 4] rfl <| r1 <| sT 5 48 1 rfl <| e1 56 rfl <| keep [0, 4, 5] rfl ?_
 refine cghostly 40 0 5 1 (u8F (pack [])) rfl rfl rfl ?_
 refine r1 <| sT 14 64 1 rfl <| sO 15 72 2 rfl ?_
 refine c1 (put_any [] allBits_nil (by decide) 8 l.length (by decide) ⟨by omega, by omega⟩) [40, 56] [40, 56, 80] 16 80 3 rfl rfl rfl rfl rfl rfl rfl rfl Tryd.func30 rfl rfl rfl rfl ⟨rfl, rfl, trivial⟩ rfl rfl ?_
 refine e1 88 rfl <| keep [0, 4, 5] rfl <| W_seq <| r1 <| sT 17 88 1 rfl <| sO 18 96 2 rfl <| sT 19 104 3 rfl <| e1 112 rfl <| keep [4, 5, 17, 18, 19] rfl <| W_block ?_
 have hl := hin.n
 have hl2 : l.length ≤ 120 := (by omega)
 refine loop (α := Nat) 3 (fun k => [(4, .ptr 0 0 0), (5, .ptr 1 0 0), (17, smpV l), (18, SV.i l.length), (19, SV.i (k))]) (fun k => [some (.cells 65 2 [.sl 2 0 (pack (encL l (k))).length, SV.i (encL l (k)).length]), some (.cells 69 4 (lstX (lstN l (k)))), some (.rows 5 1 (pack (encL l (k))).length (u8F (pack (encL l (k)))))]) (fun k => (k) ≤ l.length ∧ faultTo l (k) = 0) (fun k => l.length - (k)) (((0) : Nat)) [40, 48, 80] (fun _ => rfl) (show (0) ≤ l.length ∧ faultTo l (0) = 0 from ⟨Nat.zero_le _, rfl⟩) rfl ⟨rfl, rfl, rfl, rfl, rfl, trivial⟩ ⟨rfl, rfl, rfl, trivial⟩ (fun k hx => ?_)
 show W _ _ _ ⟨tOf [(4, .ptr 0 0 0), (5, .ptr 1 0 0), (17, smpV l), (18, SV.i l.length), (19, SV.i k)], hOf [some (.cells 65 2 [.sl 2 0 (pack (encL l k)).length, SV.i (encL l k).length]), some (.cells 69 4 (lstX (lstN l k))), some (.rows 5 1 (pack (encL l k)).length (u8F (pack (encL l k))))], 3⟩
 have hx : k ≤ l.length ∧ faultTo l k = 0 := hx
 obtain ⟨hk, hf⟩ := hx
 have ha := lst_in hf (by omega)
 have hE := encL_bits l k
 have hEl := encL_len l k
 refine r1 <| sO 20 3 1 rfl <| e1 11 rfl <| keep [4, 5, 17, 18, 19, 20] rfl <| W_seq ?_
 refine q1 rfl (fun hc7 => ?_) (fun hc7 => ?_)
 try simp only [cs, ne_eq] at hc7
 refine W_skip <| tn <| W_seq <| W_block <| r1 <| sO 21 11 1 rfl <| sO 22 19 2 rfl ?_
 refine val 22 (smpS (l.getD k default)) rfl (by first | rfl | (simp only [Nat.zero_add, Int.toNat_natCast]; rfl)) ?_
 refine sT 7 27 3 rfl <| s0O 35 4 rfl rfl rfl rfl rfl <| e1 43 rfl <| keep [4, 5, 7, 17, 18, 19] rfl <| W_seq <| r1 <| sO 23 43 1 rfl ?_
 refine c1 (fault_any (lstN l k) (l.getD k default)) [1] [1] 24 51 2 rfl rfl rfl rfl rfl rfl rfl rfl Tryd.func31 rfl rfl rfl rfl ⟨rfl, trivial⟩ rfl rfl ?_
 refine sT 8 59 3 rfl <| e1 67 rfl <| keep [4, 5, 7, 8, 17, 18, 19] rfl <| r1 <| sT 25 67 1 rfl <| sO 26 75 2 rfl <| e1 83 rfl <| keep [4, 5, 7, 8, 17, 18, 19, 26] rfl ?_
 refine q1 rfl (fun hc10 => ?_) (fun hc10 => ?_)
 exfalso; unfold sfault at hz; rw [if_neg (by omega)] at hz; have := (faultTo_down (faultTo_le (show k + 1 ≤ l.length by omega) hz)).2; simp at hc10; exact hc10 this
 try simp only [cs, ne_eq] at hc10
 have hf1 : lfault (lstN l k) (l.getD k default) = 0 := (by first | exact hc10 | (simp at hc10; exact hc10))
 have hs := lfault_zero hf1
 have hc := c_small ha hs.1 hs.2.1
 refine W_skip <| tn <| r1 <| sO 29 83 1 rfl ?_
 refine c1 (codes_any (lstN l k) (l.getD k default) ha hs.1 hs.2.1) [1] [1] 30 91 2 rfl rfl rfl rfl rfl rfl rfl rfl Tryd.func32 rfl rfl rfl rfl ⟨rfl, trivial⟩ rfl rfl ?_
 refine sT 28 99 3 rfl <| sT 31 107 4 rfl <| sT 32 115 5 rfl <| sT 9 123 6 rfl <| sT 10 131 7 rfl <| e1 139 rfl <| keep [4, 5, 7, 9, 10, 17, 18, 19] rfl <| r1 <| sT 33 139 1 rfl ?_
 refine c1 (zput_any (encL l k) hE (by omega) (cT (lstN l k) (l.getD k default)) hc.1) [0, 2] [0, 2, 147] 34 147 2 rfl rfl rfl rfl rfl rfl rfl rfl Tryd.func33 rfl rfl rfl rfl ⟨rfl, rfl, trivial⟩ rfl rfl ?_
 refine e1 155 rfl <| keep [4, 5, 7, 10, 17, 18, 19] rfl <| r1 <| sT 35 155 1 rfl ?_
 refine c1 (zput_any (zput (encL l k) (cT (lstN l k) (l.getD k default))) (zput_bits hE _) (by have := zput_len (encL l k) (cT (lstN l k) (l.getD k default)); omega) (cV (lstN l k) (l.getD k default)) hc.2) [0, 147] [0, 147, 163] 36 163 2 rfl rfl rfl rfl rfl rfl rfl rfl Tryd.func33 rfl rfl rfl rfl ⟨rfl, rfl, trivial⟩ rfl rfl ?_
 refine e1 171 rfl <| keep [4, 5, 7, 17, 18, 19] rfl ?_
 refine r0 ?_
 refine sO 37 171 1 rfl ?_
 refine c1 (next_any (lstN l k) (l.getD k default) ha hs.1 hs.2.1) [1] [1] 38 179 2 rfl rfl rfl rfl rfl rfl rfl rfl Tryd.func34 rfl rfl rfl rfl ⟨rfl, trivial⟩ rfl rfl ?_
 refine e1 187 rfl <| bn <| tn ?_
 refine r0 ?_
 refine sAO 39 187 1 rfl <| sT 19 195 2 rfl <| e1 203 rfl <| tn ?_
 exact again ((k + 1 : Nat)) [0, 1, 163] (show (k + 1) ≤ l.length ∧ faultTo l (k + 1) = 0 from ⟨by omega, faultTo_step hf hf1⟩) (show l.length - (k + 1) < l.length - k from (by omega)) rfl ⟨rfl, rfl, rfl, rfl, rfl, trivial⟩ ⟨rfl, rfl, rfl, trivial⟩
 try simp only [cs, ne_eq] at hc7
 refine W_exit <| tx <| tx <| bx <| tn <| r1 ?_
 refine c1 (bytes_any (encL l k)) [0, 2] [0, 2] 40 11 1 rfl rfl rfl rfl rfl rfl rfl rfl Tryd.func35 rfl rfl rfl rfl ⟨rfl, rfl, trivial⟩ rfl rfl ?_
 refine sT 2 19 2 rfl <| sT 3 27 3 rfl <| e1 35 rfl <| keep [2, 3] rfl <| W_ret ?_
 obtain rfl : k = l.length := (by omega)
 exact out2 2 3 (.sl 0 0 (encB l).length) (SV.i 0) (π := [2]) (hout := [some (.rows 5 1 (encB l).length (u8F (encB l)))]) Tryd.results14 rfl rfl rfl rfl rfl rfl ⟨rfl, trivial⟩ ⟨rfl, rfl⟩
theorem encode_bad (l : List Smp) (hin : SmpIn l) (hz : sfault l ≠ 0) : Spec Tryd.prog GC 14 [smpV l] [] (fun r ho => r = SV.tup [.d .nils, SV.i (sfault l)] ∧ ho = []) := by
 refine start 41 0 Tryd.func14 rfl rfl rfl rfl ?_
 refine r1 <| sT 2 0 1 rfl <| sT 3 8 2 rfl <| e1 16 rfl <| keep [0] rfl <| W_seq <| r1 <| sT 11 16 1 rfl <| sO 12 24 2 rfl <| sO 13 32 3 rfl <| e1 40 rfl <| keep [0, 13] rfl ?_
 refine q1 rfl (fun hc1 => ?_) (fun hc1 => ?_)
 try simp only [cs, ne_eq] at hc1
 refine r1 <| sT 2 40 1 rfl <| sT 3 48 2 rfl <| e1 56 rfl <| keep [2, 3] rfl <| W_ret <| tr ?_
 exact out2 2 3 (.d .nils) (SV.i (sfault l)) (π := []) (hout := []) Tryd.results14 rfl rfl rfl (by unfold sfault; rw [if_pos (by omega)]; rfl) rfl rfl trivial ⟨rfl, rfl⟩
 try simp only [cs, ne_eq] at hc1
 refine W_skip <| tn <| r1 <| sT 4 40 1 rfl <| e1 48 rfl <| keep [0, 4] rfl <| r1 <| sT 5 48 1 rfl <| e1 56 rfl <| keep [0, 4, 5] rfl ?_
 refine cghostly 40 0 5 1 (u8F (pack [])) rfl rfl rfl ?_
 refine r1 <| sT 14 64 1 rfl <| sO 15 72 2 rfl ?_
 refine c1 (put_any [] allBits_nil (by decide) 8 l.length (by decide) ⟨by omega, by omega⟩) [40, 56] [40, 56, 80] 16 80 3 rfl rfl rfl rfl rfl rfl rfl rfl Tryd.func30 rfl rfl rfl rfl ⟨rfl, rfl, trivial⟩ rfl rfl ?_
 refine e1 88 rfl <| keep [0, 4, 5] rfl <| W_seq <| r1 <| sT 17 88 1 rfl <| sO 18 96 2 rfl <| sT 19 104 3 rfl <| e1 112 rfl <| keep [4, 5, 17, 18, 19] rfl <| W_block ?_
 have hl := hin.n
 have hl2 : l.length ≤ 120 := (by omega)
 refine loop (α := Nat) 3 (fun k => [(4, .ptr 0 0 0), (5, .ptr 1 0 0), (17, smpV l), (18, SV.i l.length), (19, SV.i (k))]) (fun k => [some (.cells 65 2 [.sl 2 0 (pack (encL l (k))).length, SV.i (encL l (k)).length]), some (.cells 69 4 (lstX (lstN l (k)))), some (.rows 5 1 (pack (encL l (k))).length (u8F (pack (encL l (k)))))]) (fun k => (k) ≤ l.length ∧ faultTo l (k) = 0) (fun k => l.length - (k)) (((0) : Nat)) [40, 48, 80] (fun _ => rfl) (show (0) ≤ l.length ∧ faultTo l (0) = 0 from ⟨Nat.zero_le _, rfl⟩) rfl ⟨rfl, rfl, rfl, rfl, rfl, trivial⟩ ⟨rfl, rfl, rfl, trivial⟩ (fun k hx => ?_)
 show W _ _ _ ⟨tOf [(4, .ptr 0 0 0), (5, .ptr 1 0 0), (17, smpV l), (18, SV.i l.length), (19, SV.i k)], hOf [some (.cells 65 2 [.sl 2 0 (pack (encL l k)).length, SV.i (encL l k).length]), some (.cells 69 4 (lstX (lstN l k))), some (.rows 5 1 (pack (encL l k)).length (u8F (pack (encL l k))))], 3⟩
 have hx : k ≤ l.length ∧ faultTo l k = 0 := hx
 obtain ⟨hk, hf⟩ := hx
 have ha := lst_in hf (by omega)
 have hE := encL_bits l k
 have hEl := encL_len l k
 refine r1 <| sO 20 3 1 rfl <| e1 11 rfl <| keep [4, 5, 17, 18, 19, 20] rfl <| W_seq ?_
 refine q1 rfl (fun hc7 => ?_) (fun hc7 => ?_)
 try simp only [cs, ne_eq] at hc7
 refine W_skip <| tn <| W_seq <| W_block <| r1 <| sO 21 11 1 rfl <| sO 22 19 2 rfl ?_
 refine val 22 (smpS (l.getD k default)) rfl (by first | rfl | (simp only [Nat.zero_add, Int.toNat_natCast]; rfl)) ?_
 refine sT 7 27 3 rfl <| s0O 35 4 rfl rfl rfl rfl rfl <| e1 43 rfl <| keep [4, 5, 7, 17, 18, 19] rfl <| W_seq <| r1 <| sO 23 43 1 rfl ?_
 refine c1 (fault_any (lstN l k) (l.getD k default)) [1] [1] 24 51 2 rfl rfl rfl rfl rfl rfl rfl rfl Tryd.func31 rfl rfl rfl rfl ⟨rfl, trivial⟩ rfl rfl ?_
 refine sT 8 59 3 rfl <| e1 67 rfl <| keep [4, 5, 7, 8, 17, 18, 19] rfl <| r1 <| sT 25 67 1 rfl <| sO 26 75 2 rfl <| e1 83 rfl <| keep [4, 5, 7, 8, 17, 18, 19, 26] rfl ?_
 refine q1 rfl (fun hc10 => ?_) (fun hc10 => ?_)
 try simp only [cs, ne_eq] at hc10
 refine r1 <| sT 27 83 1 rfl <| sT 2 91 2 rfl <| sT 3 99 3 rfl <| e1 107 rfl <| keep [2, 3] rfl <| W_ret <| tr <| br <| tr <| tr <| br <| tr ?_
 exact out2 2 3 (.d .nils) (SV.i (sfault l)) (π := []) (hout := []) Tryd.results14 rfl rfl rfl (by unfold sfault; rw [if_neg (by omega), faultTo_at (by omega) hf hc10]; rfl) rfl rfl trivial ⟨rfl, rfl⟩
 try simp only [cs, ne_eq] at hc10
 have hf1 : lfault (lstN l k) (l.getD k default) = 0 := (by first | exact hc10 | (simp at hc10; exact hc10))
 have hs := lfault_zero hf1
 have hc := c_small ha hs.1 hs.2.1
 refine W_skip <| tn <| r1 <| sO 29 83 1 rfl ?_
 refine c1 (codes_any (lstN l k) (l.getD k default) ha hs.1 hs.2.1) [1] [1] 30 91 2 rfl rfl rfl rfl rfl rfl rfl rfl Tryd.func32 rfl rfl rfl rfl ⟨rfl, trivial⟩ rfl rfl ?_
 refine sT 28 99 3 rfl <| sT 31 107 4 rfl <| sT 32 115 5 rfl <| sT 9 123 6 rfl <| sT 10 131 7 rfl <| e1 139 rfl <| keep [4, 5, 7, 9, 10, 17, 18, 19] rfl <| r1 <| sT 33 139 1 rfl ?_
 refine c1 (zput_any (encL l k) hE (by omega) (cT (lstN l k) (l.getD k default)) hc.1) [0, 2] [0, 2, 147] 34 147 2 rfl rfl rfl rfl rfl rfl rfl rfl Tryd.func33 rfl rfl rfl rfl ⟨rfl, rfl, trivial⟩ rfl rfl ?_
 refine e1 155 rfl <| keep [4, 5, 7, 10, 17, 18, 19] rfl <| r1 <| sT 35 155 1 rfl ?_
 refine c1 (zput_any (zput (encL l k) (cT (lstN l k) (l.getD k default))) (zput_bits hE _) (by have := zput_len (encL l k) (cT (lstN l k) (l.getD k default)); omega) (cV (lstN l k) (l.getD k default)) hc.2) [0, 147] [0, 147, 163] 36 163 2 rfl rfl rfl rfl rfl rfl rfl rfl Tryd.func33 rfl rfl rfl rfl ⟨rfl, rfl, trivial⟩ rfl rfl ?_
 refine e1 171 rfl <| keep [4, 5, 7, 17, 18, 19] rfl ?_
 refine r0 ?_
 refine sO 37 171 1 rfl ?_
 refine c1 (next_any (lstN l k) (l.getD k default) ha hs.1 hs.2.1) [1] [1] 38 179 2 rfl rfl rfl rfl rfl rfl rfl rfl Tryd.func34 rfl rfl rfl rfl ⟨rfl, trivial⟩ rfl rfl ?_
 refine e1 187 rfl <| bn <| tn ?_
 refine r0 ?_
 refine sAO 39 187 1 rfl <| sT 19 195 2 rfl <| e1 203 rfl <| tn ?_
 exact again ((k + 1 : Nat)) [0, 1, 163] (show (k + 1) ≤ l.length ∧ faultTo l (k + 1) = 0 from ⟨by omega, faultTo_step hf hf1⟩) (show l.length - (k + 1) < l.length - k from (by omega)) rfl ⟨rfl, rfl, rfl, rfl, rfl, trivial⟩ ⟨rfl, rfl, rfl, trivial⟩
 try simp only [cs, ne_eq] at hc7
 refine W_exit <| tx <| tx <| bx <| tn <| r1 ?_
 refine c1 (bytes_any (encL l k)) [0, 2] [0, 2] 40 11 1 rfl rfl rfl rfl rfl rfl rfl rfl Tryd.func35 rfl rfl rfl rfl ⟨rfl, rfl, trivial⟩ rfl rfl ?_
 refine sT 2 19 2 rfl <| sT 3 27 3 rfl <| e1 35 rfl <| keep [2, 3] rfl <| W_ret ?_
 exact absurd (show sfault l = 0 from (by unfold sfault; rw [if_neg (by omega), show l.length = k by omega]; exact hf)) hz
end Go.Proofs.YtpdojmebloekgaaDoor.Nice.Co
namespace Go.Proofs.YtpdojmebloekgaaDoor.Nice.Co
open Go
set_option linter.unusedVariables false
set_option linter.unusedSimpArgs false
set_option maxRecDepth 100000
set_option maxHeartbeats 4000000
def bitB (l : List Int) (i : Nat) : Int := l.getD (i / 8) 0 / 2 ^ (7 - i % 8) % 2
def numB (l : List Int) (n : Nat) : Nat → Int
 | 0 => 0
 | w + 1 => 2 * numB l n w + bitB l (n + w)
structure Bytes (l : List Int) : Prop where
 n : l.length ≤ 140737488351232
 b : ∀ k, 0 ≤ l.getD k 0 ∧ l.getD k 0 ≤ 255
theorem bitB_bd (l : List Int) (i : Nat) : bitB l i = 0 ∨ bitB l i = 1 := by
 unfold bitB; generalize l.getD (i / 8) 0 / 2 ^ (7 - i % 8) = u; omega
theorem numB_bd (l : List Int) (n w : Nat) : 0 ≤ numB l n w ∧ numB l n w < 2 ^ w := by
 induction w with
 | zero => simp [numB]
 | succ k ih =>
   have := bitB_bd l (n + k)
   rw [numB, Int.pow_succ]
   omega
theorem pow2_le {a b : Nat} (h : a ≤ b) : (2 : Int) ^ a ≤ 2 ^ b := by
 have h2 : 2 ^ a ≤ 2 ^ b := Nat.pow_le_pow_right (by decide) h
 have e : ((2 ^ a : Nat) : Int) = (2 : Int) ^ a := by simp
 have e2 : ((2 ^ b : Nat) : Int) = (2 : Int) ^ b := by simp
 omega
theorem numB_sm (l : List Int) (n : Nat) {j : Nat} (h : j ≤ 58) : isSm (numB l n j) := by
 have := numB_bd l n j
 have h2 := pow2_le h
 unfold isSm
 have : (2 : Int) ^ 58 = 288230376151711744 := by decide
 omega
theorem shr8 {k v : Int} {r : Nat} (h : k = 7 - r) (hr : r < 8) : v.fdiv (2 ^ (min k.toNat 8)) = v / 2 ^ (7 - r) := by
 subst h
 rw [show ((7 : Int) - r).toNat = 7 - r by omega, Nat.min_eq_left (by omega), Int.fdiv_eq_ediv_of_nonneg _ (Int.le_of_lt (Int.pow_pos (by decide)))]
theorem byte_div {x : Int} (h0 : 0 ≤ x) (h1 : x ≤ 255) (r : Nat) : 0 ≤ x / 2 ^ r ∧ x / 2 ^ r ≤ 255 := by
 have hp : (0 : Int) < 2 ^ r := Int.pow_pos (by decide)
 exact ⟨Int.ediv_nonneg h0 (by omega), Int.le_trans (Int.ediv_le_self _ h0) h1⟩
theorem and1 {x : Int} (h0 : 0 ≤ x) (h1 : x ≤ 255) : bits .and .i64 x 1 = x % 2 := i64_and_one x (by omega) (by omega)
theorem or_join {s b : Int} (h0 : 0 ≤ s) (h1 : s < 288230376151711744) (hb : b = 0 ∨ b = 1) : bits .or .i64 (s * 2) b = 2 * s + b := by
 obtain ⟨s, rfl⟩ := Int.eq_ofNat_of_zero_le h0
 obtain ⟨y, rfl⟩ := Int.eq_ofNat_of_zero_le (show 0 ≤ b by omega)
 rw [show (s : Int) * 2 = ((s * 2 : Nat) : Int) by omega, i64_or_nat _ _ (by omega) (by omega), nat_join 1 _ _ (by omega) (by omega)]
 omega
def gok (l : List Int) (n w : Nat) : Bool := decide (n + w ≤ 8 * l.length)
def gval (l : List Int) (n w : Nat) : Int := if n + w ≤ 8 * l.length then numB l n w else 0
def gpos (l : List Int) (n w : Nat) : Nat := if n + w ≤ 8 * l.length then n + w else n
theorem open_any (l : List Int) : Spec Tryd.prog GC 44 [u8V l] [] (fun r ho => r = .ptr 0 0 0 ∧ ho = [some (.cells 127 2 [u8V l, SV.i (0 : Nat)])]) := by
 refine start 6 0 Tryd.func44 rfl rfl rfl rfl ?_
 refine r1 <| sT 2 0 1 rfl <| e1 8 rfl <| keep [0] rfl <| r1 <| sT 3 8 1 rfl <| sT 4 16 2 rfl <| sT 5 24 3 rfl <| sT 2 32 4 rfl <| e1 40 rfl <| keep [2] rfl <| W_ret ?_
 exact out1 2 (.ptr 0 0 0) (π := [24]) (hout := [some (.cells 127 2 [u8V l, SV.i (0 : Nat)])]) Tryd.results44 rfl rfl rfl rfl ⟨rfl, trivial⟩ ⟨rfl, rfl⟩
theorem left_any (l : List Int) (hl : Bytes l) (n : Nat) (hn : n ≤ 8 * l.length) : Spec Tryd.prog GC 48 [.ptr 0 0 0] [.cells 127 2 [u8V l, SV.i (n : Nat)]] (fun r ho => r = SV.i (8 * l.length - n) ∧ ho = [some (.cells 127 2 [u8V l, SV.i (n : Nat)])]) := by
 obtain ⟨hl1, hl2⟩ := hl
 refine start 14 1 Tryd.func48 rfl rfl rfl rfl ?_
 refine r1 <| sT 2 1 1 rfl <| e1 9 rfl <| keep [0] rfl ?_
 refine rd1 rfl ?_
 refine dT 3 9 1 rfl <| dT 4 17 2 rfl <| dT 5 25 3 rfl <| dO 6 33 4 rfl <| dO 7 41 5 rfl <| dAO 8 49 6 rfl <| dT 9 57 7 rfl <| dT 10 65 8 rfl <| dT 11 73 9 rfl <| dO 12 81 10 rfl <| dAO 13 89 11 rfl <| dT 2 97 12 rfl <| de1 105 rfl (by kernel_rfl) <| keep [2] rfl <| W_ret ?_
 exact out1 2 (SV.i (8 * l.length - n)) (π := [0]) (hout := [some (.cells 127 2 [u8V l, SV.i (n : Nat)])]) Tryd.results48 rfl rfl rfl rfl ⟨rfl, trivial⟩ ⟨rfl, rfl⟩
theorem get_ok (l : List Int) (hl : Bytes l) (n : Nat) (hn : n ≤ 8 * l.length) (w : Nat) (hw : w ≤ 59) (hin : n + w ≤ 8 * l.length) : Spec Tryd.prog GC 45 [.ptr 0 0 0, SV.i w] [.cells 127 2 [u8V l, SV.i (n : Nat)]] (fun r ho => r = SV.tup [SV.i (numB l n w), SV.b true] ∧ ho = [some (.cells 127 2 [u8V l, SV.i (n + w : Nat)])]) := by
 have hlb := hl
 obtain ⟨hl1, hl2⟩ := hl
 refine start 46 1 Tryd.func45 rfl rfl rfl rfl ?_
 refine r1 <| sT 4 1 1 rfl <| sT 5 9 2 rfl <| e1 17 rfl <| keep [0, 1] rfl <| W_seq <| r1 <| sT 7 17 1 rfl <| sT 8 25 2 rfl ?_
 refine c1 (left_any l hlb n hn) [0] [0] 9 33 3 rfl rfl rfl rfl rfl rfl rfl rfl Tryd.func48 rfl rfl rfl rfl ⟨rfl, trivial⟩ rfl rfl ?_
 refine sO 10 41 4 rfl <| e1 49 rfl <| keep [0, 1, 10] rfl ?_
 refine q1 rfl (fun hc1 => ?_) (fun hc1 => ?_)
 exfalso; simp at hc1; omega
 try simp only [cs, ne_eq] at hc1
 refine W_skip <| tn <| r1 <| sT 6 49 1 rfl <| e1 57 rfl <| keep [0, 1, 6] rfl <| W_seq <| r1 <| sT 11 57 1 rfl <| sT 12 65 2 rfl <| e1 73 rfl <| keep [0, 6, 11, 12] rfl <| W_block ?_
 refine loop (α := Nat) 1 (fun j => [(0, .ptr 0 0 0), (6, SV.i (numB l n (j))), (11, SV.i w), (12, SV.i (j))]) (fun j => [some (.cells 127 2 [u8V l, SV.i (n + (j) : Nat)])]) (fun j => (j) ≤ w) (fun j => w - (j)) (((0) : Nat)) [0] (fun _ => rfl) (show (0) ≤ w from (Nat.zero_le _)) rfl ⟨rfl, rfl, rfl, rfl, trivial⟩ ⟨rfl, trivial⟩ (fun j hx => ?_)
 show W _ _ _ ⟨tOf [(0, .ptr 0 0 0), (6, SV.i (numB l n j)), (11, SV.i w), (12, SV.i j)], hOf [some (.cells 127 2 [u8V l, SV.i (n + j : Nat)])], 1⟩
 have hx : j ≤ w := hx
 refine r1 <| sO 13 1 1 rfl <| e1 9 rfl <| keep [0, 6, 11, 12, 13] rfl <| W_seq ?_
 refine q1 rfl (fun hc5 => ?_) (fun hc5 => ?_)
 · skip
   try simp only [cs, ne_eq] at hc5
   have hb := hl2 ((n + j) / 8)
   have hd := byte_div hb.1 hb.2 (7 - (n + j) % 8)
   have hs := numB_sm l n (show j ≤ 58 by omega)
   refine W_skip <| tn <| W_seq <| W_block ?_
   refine rd1 rfl ?_
   refine dT 14 9 1 rfl ?_
   refine dV 15 17 2 rfl (by decide) ?_
   refine val 15 (SV.i (numB l n j * 2)) rfl (congrArg (fun x => SV.d (D.val (Value.int .i64 x))) (shl1 hs)) ?_
   refine dT 16 25 3 rfl <| dT 17 33 4 rfl <| dT 18 41 5 rfl <| dO 19 49 6 rfl <| dT 20 57 7 rfl <| dT 21 65 8 rfl <| dT 22 73 9 rfl <| dO 23 81 10 rfl ?_
   refine dD 24 89 11 rfl rfl rfl rfl rfl rfl rfl rfl rfl (by omega) ?_
   refine dV 25 97 12 rfl (by constructor <;> omega) ?_
   refine dO 26 105 13 rfl ?_
   refine val 26 (.d (.val (.int .u8 (l.getD ((n + j) / 8) 0)))) rfl (by first | rfl | (rw [show (((n + j : Nat) : Int) / 8).toNat = (n + j) / 8 by omega])) ?_
   refine dT 27 113 14 rfl <| dT 28 121 15 rfl <| dT 29 129 16 rfl <| dO 30 137 17 rfl ?_
   refine dD 31 145 18 rfl rfl rfl rfl rfl rfl rfl rfl rfl (by omega) ?_
   refine dAO 32 153 19 rfl <| dO 33 161 20 rfl ?_
   refine val 33 (.d (.val (.int .u8 ((l.getD ((n + j) / 8) 0) / 2 ^ (7 - (n + j) % 8))))) rfl (congrArg (fun x => SV.d (D.val (Value.int .u8 x))) (shr8 (by omega) (by omega))) ?_
   refine dT 34 169 21 rfl ?_
   refine val 34 (SV.i ((l.getD ((n + j) / 8) 0) / 2 ^ (7 - (n + j) % 8))) rfl (congrArg (fun x => SV.d (D.val (Value.int .i64 x))) (wrap_in ⟨by omega, by omega⟩)) ?_
   refine dO 35 177 22 rfl ?_
   refine val 35 (SV.i (bitB l (n + j))) rfl (congrArg (fun x => SV.d (D.val (Value.int .i64 x))) (and1 hd.1 hd.2)) ?_
   refine dO 36 185 23 rfl ?_
   refine val 36 (SV.i (numB l n (j + 1))) rfl (congrArg (fun x => SV.d (D.val (Value.int .i64 x))) (or_join (numB_bd l n j).1 hs.2 (bitB_bd l _))) ?_
   refine dT 6 193 24 rfl <| de1 201 rfl (by kernel_rfl) <| keep [0, 6, 11, 12] rfl ?_
   refine r0 ?_
   refine sT 37 201 1 rfl <| sT 38 209 2 rfl <| sT 39 217 3 rfl <| sO 40 225 4 rfl <| sAO 41 233 5 rfl <| sT 42 241 6 rfl <| sT 43 249 7 rfl <| s0O 257 8 rfl rfl rfl rfl rfl <| e1 265 rfl <| bn <| tn ?_
   refine r0 ?_
   refine sAO 44 265 1 rfl <| sT 12 273 2 rfl <| e1 281 rfl <| tn ?_
   exact again ((j + 1 : Nat)) [0] (show (j + 1) ≤ w from (by omega)) (show w - (j + 1) < w - j from (by omega)) rfl ⟨rfl, rfl, rfl, rfl, trivial⟩ ⟨rfl, trivial⟩
 try simp only [cs, ne_eq] at hc5
 refine W_exit <| tx <| tx <| bx <| tn <| r1 <| sT 45 9 1 rfl <| sT 4 17 2 rfl <| sT 5 25 3 rfl <| e1 33 rfl <| keep [4, 5] rfl <| W_ret ?_
 obtain rfl : w = j := (by omega)
 exact out2 4 5 (SV.i (numB l n w)) (SV.b true) (π := [0]) (hout := [some (.cells 127 2 [u8V l, SV.i (n + w : Nat)])]) Tryd.results45 rfl rfl rfl rfl rfl rfl ⟨rfl, trivial⟩ ⟨rfl, rfl⟩
theorem get_short (l : List Int) (hl : Bytes l) (n : Nat) (hn : n ≤ 8 * l.length) (w : Nat) (hw : w ≤ 59) (hin : ¬ n + w ≤ 8 * l.length) : Spec Tryd.prog GC 45 [.ptr 0 0 0, SV.i w] [.cells 127 2 [u8V l, SV.i (n : Nat)]] (fun r ho => r = SV.tup [SV.i 0, SV.b false] ∧ ho = [some (.cells 127 2 [u8V l, SV.i (n : Nat)])]) := by
 have hlb := hl
 obtain ⟨hl1, hl2⟩ := hl
 refine start 46 1 Tryd.func45 rfl rfl rfl rfl ?_
 refine r1 <| sT 4 1 1 rfl <| sT 5 9 2 rfl <| e1 17 rfl <| keep [0, 1] rfl <| W_seq <| r1 <| sT 7 17 1 rfl <| sT 8 25 2 rfl ?_
 refine c1 (left_any l hlb n hn) [0] [0] 9 33 3 rfl rfl rfl rfl rfl rfl rfl rfl Tryd.func48 rfl rfl rfl rfl ⟨rfl, trivial⟩ rfl rfl ?_
 refine sO 10 41 4 rfl <| e1 49 rfl <| keep [0, 1, 10] rfl ?_
 refine q1 rfl (fun hc1 => ?_) (fun hc1 => ?_)
 try simp only [cs, ne_eq] at hc1
 refine r1 <| sT 4 49 1 rfl <| sT 5 57 2 rfl <| e1 65 rfl <| keep [4, 5] rfl <| W_ret <| tr ?_
 exact out2 4 5 (SV.i 0) (SV.b false) (π := [0]) (hout := [some (.cells 127 2 [u8V l, SV.i (n : Nat)])]) Tryd.results45 rfl rfl rfl rfl rfl rfl ⟨rfl, trivial⟩ ⟨rfl, rfl⟩
 exfalso; simp at hc1; omega
theorem get_any (l : List Int) (hl : Bytes l) (n : Nat) (hn : n ≤ 8 * l.length) (w : Nat) (hw : w ≤ 59) : Spec Tryd.prog GC 45 [.ptr 0 0 0, SV.i w] [.cells 127 2 [u8V l, SV.i (n : Nat)]] (fun r ho => r = SV.tup [SV.i (gval l n w), SV.b (gok l n w)] ∧ ho = [some (.cells 127 2 [u8V l, SV.i (gpos l n w : Nat)])]) := by
 by_cases h : n + w ≤ 8 * l.length
 · simp only [gval, gok, gpos, if_pos h, decide_eq_true h]; exact get_ok l hl n hn w hw h
 · simp only [gval, gok, gpos, if_neg h, decide_eq_false h]; exact get_short l hl n hn w hw h
def zpre (l : List Int) : Nat → Nat → Nat → Bool × Nat × Nat
 | 0, n, k => (true, k, n)
 | f + 1, n, k => if 8 * l.length ≤ n then (false, k, n) else if bitB l n = 0 then (true, k, n + 1) else zpre l f (n + 1) (k + 1)
structure ZG where
 x : Int
 at' : Nat
 e : Int
def zgt (l : List Int) (n : Nat) : ZG :=
 if (zpre l 4 n 0).1 = false then ⟨0, (zpre l 4 n 0).2.2, 5⟩
 else if 8 * l.length < (zpre l 4 n 0).2.2 + clB (zpre l 4 n 0).2.1 then ⟨0, (zpre l 4 n 0).2.2, 5⟩
 else if cls (numB l (zpre l 4 n 0).2.2 (clB (zpre l 4 n 0).2.1)) = (zpre l 4 n 0).2.1 then ⟨zUnf (numB l (zpre l 4 n 0).2.2 (clB (zpre l 4 n 0).2.1)), (zpre l 4 n 0).2.2 + clB (zpre l 4 n 0).2.1, 0⟩
 else ⟨0, (zpre l 4 n 0).2.2 + clB (zpre l 4 n 0).2.1, 4⟩
theorem zgt_short {l : List Int} {n q m : Nat} (h : zpre l 4 n 0 = (false, q, m)) : zgt l n = ⟨0, m, 5⟩ := by unfold zgt; rw [h]; rfl
theorem zgt_short2 {l : List Int} {n q m : Nat} (h : zpre l 4 n 0 = (true, q, m)) (h2 : 8 * l.length < m + clB q) : zgt l n = ⟨0, m, 5⟩ := by unfold zgt; rw [h]; simp only [Bool.true_eq_false, if_false]; rw [if_pos h2]
theorem zgt_form {l : List Int} {n q m : Nat} (h : zpre l 4 n 0 = (true, q, m)) (h2 : ¬ 8 * l.length < m + clB q) (h3 : cls (numB l m (clB q)) ≠ q) : zgt l n = ⟨0, m + clB q, 4⟩ := by unfold zgt; rw [h]; simp only [Bool.true_eq_false, if_false]; rw [if_neg h2, if_neg h3]
theorem zgt_ok {l : List Int} {n q m : Nat} (h : zpre l 4 n 0 = (true, q, m)) (h2 : ¬ 8 * l.length < m + clB q) (h3 : cls (numB l m (clB q)) = q) : zgt l n = ⟨zUnf (numB l m (clB q)), m + clB q, 0⟩ := by unfold zgt; rw [h]; simp only [Bool.true_eq_false, if_false]; rw [if_neg h2, if_pos h3]
theorem zpre_end (l : List Int) (k n : Nat) (h : k < 4) (h2 : 8 * l.length ≤ n) : zpre l (4 - k) n k = (false, k, n) := by
 rw [show 4 - k = (3 - k) + 1 by omega, zpre, if_pos h2]
theorem zpre_zero (l : List Int) (k n : Nat) (h : k < 4) (h2 : ¬ 8 * l.length ≤ n) (h3 : bitB l n = 0) : zpre l (4 - k) n k = (true, k, n + 1) := by
 rw [show 4 - k = (3 - k) + 1 by omega, zpre, if_neg h2, if_pos h3]
theorem zpre_one (l : List Int) (k n : Nat) (h : k < 4) (h2 : ¬ 8 * l.length ≤ n) (h3 : bitB l n ≠ 0) : zpre l (4 - k) n k = zpre l (4 - (k + 1)) (n + 1) (k + 1) := by
 rw [show 4 - k = (4 - (k + 1)) + 1 by omega, zpre, if_neg h2, if_neg h3]
theorem num1 (l : List Int) (n : Nat) : numB l n 1 = bitB l n := by show 2 * 0 + bitB l (n + 0) = _; rw [Nat.add_zero]; omega
def clG : Nat → Nat → D := fun i j => clF 0 (i * 3 + j)
theorem clL_0 {q : Nat} (h : q ≤ 4) : clL.getD (q * 3) 0 = clH q := by
 match q, h with
 | 0, _ | 1, _ | 2, _ | 3, _ | 4, _ => rfl
theorem clL_1 {q : Nat} (h : q ≤ 4) : clL.getD (q * 3 + 1) 0 = clW q := by
 match q, h with
 | 0, _ | 1, _ | 2, _ | 3, _ | 4, _ => rfl
theorem clL_2 {q : Nat} (h : q ≤ 4) : clL.getD (q * 3 + 2) 0 = clB q := by
 match q, h with
 | 0, _ | 1, _ | 2, _ | 3, _ | 4, _ => rfl
theorem clB_59 (q : Nat) : clB q ≤ 59 := by
 unfold clB
 match q with
 | 0 | 1 | 2 | 3 | 4 => decide
 | n + 5 => simp
theorem clH_inj {p q : Nat} (hp : p ≤ 4) (hq : q ≤ 4) (h : clH p = clH q) : p = q := by
 match p, hp, q, hq with
 | 0, _, 0, _ | 1, _, 1, _ | 2, _, 2, _ | 3, _, 3, _ | 4, _, 4, _ => rfl
 | 0, _, 1, _ | 0, _, 2, _ | 0, _, 3, _ | 0, _, 4, _ | 1, _, 0, _ | 1, _, 2, _ | 1, _, 3, _ | 1, _, 4, _ | 2, _, 0, _ | 2, _, 1, _ | 2, _, 3, _ | 2, _, 4, _ | 3, _, 0, _ | 3, _, 1, _ | 3, _, 2, _ | 3, _, 4, _ | 4, _, 0, _ | 4, _, 1, _ | 4, _, 2, _ | 4, _, 3, _ => exact absurd h (by decide)
theorem num59 (l : List Int) (n : Nat) {w : Nat} (h : w ≤ 59) : 0 ≤ numB l n w ∧ numB l n w < 576460752303423488 := by
 have := numB_bd l n w
 have h2 := pow2_le h
 have : (2 : Int) ^ 59 = 576460752303423488 := by decide
 omega
theorem unf_val {x : Int} (h0 : 0 ≤ x) (h1 : x < 576460752303423488) {a b : Int} (ha : a = x / 2) (hb : b = -(x % 2)) : bits .xor .i64 a b = zUnf x := by subst ha; subst hb; exact zUnf_xor x h0 h1
theorem zpre_le (l : List Int) : ∀ f n k, n ≤ 8 * l.length → (zpre l f n k).2.2 ≤ 8 * l.length
 | 0, n, k, h => h
 | f + 1, n, k, h => by
   unfold zpre
   split
   · exact h
   · split
     · show n + 1 ≤ _; omega
     · exact zpre_le l f (n + 1) (k + 1) (by omega)
theorem zgt_le (l : List Int) (n : Nat) (h : n ≤ 8 * l.length) : (zgt l n).at' ≤ 8 * l.length := by
 have := zpre_le l 4 n 0 h
 unfold zgt
 repeat' split
 all_goals (simp only []; omega)
theorem zgt_sm (l : List Int) (n : Nat) : isSm (zgt l n).x := by
 have hb := num59 l (zpre l 4 n 0).2.2 (clB_59 (zpre l 4 n 0).2.1)
 have := zUnf_bd _ hb.1 hb.2
 unfold zgt isSm
 repeat' split
 all_goals (simp only []; omega)
theorem unfold_any (x : Int) (h0 : 0 ≤ x) (h1 : x < 576460752303423488) : Spec Tryd.prog GC 78 [SV.i x] [] (fun r ho => r = SV.tup [SV.i (zUnf x), SV.i 0] ∧ ho = []) := by
 refine start 16 0 Tryd.func78 rfl rfl rfl rfl ?_
 refine r1 <| sT 2 0 1 rfl <| sT 3 8 2 rfl <| e1 16 rfl <| keep [0] rfl <| W_seq <| r1 <| sT 4 16 1 rfl <| sO 5 24 2 rfl <| sT 6 32 3 rfl ?_
 refine ask 6 rfl (fun hg1_6 => ?_) (fun hg1_6 => ?_)
 try simp only [cs, ne_eq] at hg1_6
 refine gF 2 false 6 7 4 rfl rfl <| gF 2 false 6 8 5 rfl rfl <| sT 9 56 6 rfl <| e1 64 rfl <| keep [0, 9] rfl ?_
 refine q1 rfl (fun hc1 => ?_) (fun hc1 => ?_)
 exfalso; simp at hc1; omega
 exact absurd hc1 (by decide)
 try simp only [cs, ne_eq] at hg1_6
 refine gT 2 false 6 4 rfl rfl <| sT 7 40 4 rfl <| gT 2 false 6 5 rfl rfl <| sO 8 48 5 rfl <| sT 9 56 6 rfl <| e1 64 rfl <| keep [0, 9] rfl ?_
 refine q1 rfl (fun hc1 => ?_) (fun hc1 => ?_)
 exfalso; simp at hc1; omega
 try simp only [cs, ne_eq] at hc1
 refine W_skip <| tn <| r1 <| sT 10 64 1 rfl ?_
 refine sV 11 72 2 rfl (by decide) ?_
 refine val 11 (SV.i (x / 2)) rfl (congrArg (fun x => SV.d (D.val (Value.int .i64 x))) (shr_val (k := 1) (q := 1) rfl (by decide))) ?_
 refine sT 12 80 3 rfl <| sO 13 88 4 rfl ?_
 refine val 13 (SV.i (x % 2)) rfl (congrArg (fun x => SV.d (D.val (Value.int .i64 x))) (i64_and_one x (by omega) (by omega))) ?_
 refine sT 14 96 5 rfl ?_
 refine val 14 (SV.i (-(x % 2))) rfl (congrArg (fun x => SV.d (D.val (Value.int .i64 x))) (show IntKind.i64.wrap (0 - x % 2) = _ from by rw [Int.zero_sub]; exact wrap_in ⟨by omega, by omega⟩)) ?_
 refine sO 15 104 6 rfl ?_
 refine val 15 (SV.i (zUnf x)) rfl (congrArg (fun x => SV.d (D.val (Value.int .i64 x))) (unf_val h0 h1 rfl rfl)) ?_
 refine sT 2 112 7 rfl <| sT 3 120 8 rfl <| e1 128 rfl <| keep [2, 3] rfl <| W_ret ?_
 exact out2 2 3 (SV.i (zUnf x)) (SV.i 0) (π := []) (hout := []) Tryd.results78 rfl rfl rfl rfl rfl rfl trivial ⟨rfl, rfl⟩
theorem zget_any (l : List Int) (hl : Bytes l) (n : Nat) (hn : n ≤ 8 * l.length) : Spec Tryd.prog GC 46 [.ptr 0 0 0] [.cells 127 2 [u8V l, SV.i (n : Nat)]] (fun r ho => r = SV.tup [SV.i (zgt l n).x, SV.i (zgt l n).e] ∧ ho = [some (.cells 127 2 [u8V l, SV.i ((zgt l n).at' : Nat)])]) := by
 have hlb := hl
 obtain ⟨hl1, hl2⟩ := hl
 refine start 43 1 Tryd.func46 rfl rfl rfl rfl ?_
 refine r1 <| sT 2 1 1 rfl <| sT 3 9 2 rfl <| e1 17 rfl <| keep [0] rfl <| r1 <| sT 4 17 1 rfl <| e1 25 rfl <| keep [0, 4] rfl <| W_seq <| W_block ?_
 refine loop (α := Nat) 1 (fun k => [(0, .ptr 0 0 0), (4, SV.i (k))]) (fun k => [some (.cells 127 2 [u8V l, SV.i (n + (k) : Nat)])]) (fun k => (k) ≤ 4 ∧ n + (k) ≤ 8 * l.length ∧ zpre l 4 n 0 = zpre l (4 - (k)) (n + (k)) (k)) (fun k => 4 - (k)) (((0) : Nat)) [0] (fun _ => rfl) (show (0) ≤ 4 ∧ n + (0) ≤ 8 * l.length ∧ zpre l 4 n 0 = zpre l (4 - (0)) (n + (0)) (0) from ⟨Nat.zero_le _, hn, rfl⟩) rfl ⟨rfl, rfl, trivial⟩ ⟨rfl, trivial⟩ (fun k hx => ?_)
 show W _ _ _ ⟨tOf [(0, .ptr 0 0 0), (4, SV.i k)], hOf [some (.cells 127 2 [u8V l, SV.i (n + k : Nat)])], 1⟩
 have hx : k ≤ 4 ∧ n + k ≤ 8 * l.length ∧ zpre l 4 n 0 = zpre l (4 - k) (n + k) k := hx
 obtain ⟨hk, hkn, hz⟩ := hx
 refine W_seq <| r1 <| sT 9 1 1 rfl <| sO 10 9 2 rfl <| e1 17 rfl <| keep [0, 4, 10] rfl ?_
 refine q1 rfl (fun hc2 => ?_) (fun hc2 => ?_)
 · skip
   try simp only [cs, ne_eq] at hc2
   refine W_skip <| tn <| W_block <| r1 <| sT 12 17 1 rfl ?_
   refine c1 (get_any l hlb (n + k) hkn 1 (by decide)) [0] [0] 13 25 2 rfl rfl rfl rfl rfl rfl rfl rfl Tryd.func45 rfl rfl rfl rfl ⟨rfl, trivial⟩ rfl rfl ?_
   refine sT 11 33 3 rfl <| sT 14 41 4 rfl <| sT 15 49 5 rfl <| sT 5 57 6 rfl <| sT 6 65 7 rfl <| e1 73 rfl <| keep [0, 4, 5, 6] rfl <| W_seq <| r1 <| sT 16 73 1 rfl <| sT 17 81 2 rfl <| e1 89 rfl <| keep [0, 4, 5, 17] rfl ?_
   refine q1 rfl (fun hc4 => ?_) (fun hc4 => ?_)
   try simp only [cs, ne_eq] at hc4
   refine r1 <| sT 2 89 1 rfl <| sT 3 97 2 rfl <| e1 105 rfl <| keep [2, 3] rfl <| W_ret <| tr <| br <| tr <| br <| tr ?_
   have hzz := zgt_short (hz.trans (zpre_end l k (n + k) (by omega) (by simp [gok] at hc4; omega)))
   have hp : gpos l (n + k) 1 = n + k := (by unfold gpos; rw [if_neg (by simp [gok] at hc4; omega)])
   exact out2 2 3 (SV.i (zgt l n).x) (SV.i (zgt l n).e) (π := [0]) (hout := [some (.cells 127 2 [u8V l, SV.i ((zgt l n).at' : Nat)])]) Tryd.results46 rfl rfl (by rw [hzz]; rfl) (by rw [hzz]; rfl) rfl rfl ⟨(by rw [hzz]; first | rfl | (simp only []; rw [← hp]; rfl) | (rw [hp]; rfl)), trivial⟩ ⟨rfl, rfl⟩
   try simp only [cs, ne_eq] at hc4
   have hok : n + k + 1 ≤ 8 * l.length := (by simp [gok] at hc4; exact hc4)
   have hgp : gpos l (n + k) 1 = n + k + 1 := if_pos hok
   have hgv : gval l (n + k) 1 = bitB l (n + k) := (by unfold gval; rw [if_pos hok, num1])
   refine W_skip <| tn <| W_seq <| r1 <| sT 18 89 1 rfl <| sO 19 97 2 rfl <| e1 105 rfl <| keep [0, 4, 19] rfl ?_
   refine q1 rfl (fun hc6 => ?_) (fun hc6 => ?_)
   · skip
     try simp only [cs, ne_eq] at hc6
     have hbit : bitB l (n + k) = 0 := (by rw [← hgv]; simpa using hc6)
     refine W_exit <| tx <| bo rfl <| tx <| bx <| tn ?_
     obtain ⟨q, m, hq, hz, hm, hek, hem⟩ : ∃ q m : Nat, q ≤ 4 ∧ zpre l 4 n 0 = (true, q, m) ∧ m ≤ 8 * l.length ∧ (k : Int) = q ∧ gpos l (n + k) 1 = m := ⟨k, n + k + 1, by omega, hz.trans (zpre_zero l k (n + k) (by omega) (by omega) hbit), hok, rfl, hgp⟩
     refine cval 4 (SV.i q) rfl (by rw [hek]) ?_
     refine chval 0 (.cells 127 2 [u8V l, SV.i (m : Nat)]) rfl (by first | (rw [hem]; done) | (rw [hem]; rfl)) ?_
     have h59 := clB_59 q
     refine r1 <| sT 23 105 1 rfl <| sT 24 113 2 rfl ?_
     refine s1w (.vp 3 5 clG q 0) 25 121 3 rfl rfl rfl rfl rfl rfl (by constructor <;> omega) (fun M ρ z h => h.rowed (by rw [Int.toNat_natCast, Nat.zero_add]; rfl) (by decide)) ?_
     refine sT 26 129 4 rfl <| sO 27 137 5 rfl ?_
     refine val 27 (SV.i (clB q)) rfl (congrArg (fun x => SV.d (D.val (Value.int .i64 x))) (clL_2 hq)) ?_
     refine c1 (get_any l hlb m hm (clB q) h59) [0] [0] 28 145 6 rfl rfl rfl rfl rfl rfl rfl rfl Tryd.func45 rfl rfl rfl rfl ⟨rfl, trivial⟩ rfl rfl ?_
     refine sT 22 153 7 rfl <| sT 29 161 8 rfl <| sT 30 169 9 rfl <| sT 7 177 10 rfl <| sT 8 185 11 rfl <| e1 193 rfl <| keep [4, 7, 8] rfl <| W_seq <| r1 <| sT 31 193 1 rfl <| sT 32 201 2 rfl <| e1 209 rfl <| keep [4, 7, 32] rfl ?_
     refine q1 rfl (fun hc9 => ?_) (fun hc9 => ?_)
     try simp only [cs, ne_eq] at hc9
     refine r1 <| sT 2 209 1 rfl <| sT 3 217 2 rfl <| e1 225 rfl <| keep [2, 3] rfl <| W_ret <| tr ?_
     have hzz := zgt_short2 hz (by simp [gok] at hc9; omega)
     have hp : gpos l m (clB q) = m := (by unfold gpos; rw [if_neg (by simp [gok] at hc9; omega)])
     exact out2 2 3 (SV.i (zgt l n).x) (SV.i (zgt l n).e) (π := [0]) (hout := [some (.cells 127 2 [u8V l, SV.i ((zgt l n).at' : Nat)])]) Tryd.results46 rfl rfl (by rw [hzz]; rfl) (by rw [hzz]; rfl) rfl rfl ⟨(by rw [hzz]; first | rfl | (simp only []; rw [← hp]; rfl) | (rw [hp]; rfl)), trivial⟩ ⟨rfl, rfl⟩
     try simp only [cs, ne_eq] at hc9
     have hok : m + clB q ≤ 8 * l.length := (by simp [gok] at hc9; exact hc9)
     have hp : gpos l m (clB q) = m + clB q := if_pos hok
     have hgv : gval l m (clB q) = (numB l m (clB q)) := if_pos hok
     have hX := num59 l m h59
     refine W_skip <| tn <| W_seq ?_
     refine cval 7 (SV.i (numB l m (clB q))) rfl (by rw [hgv]) ?_
     refine chval 0 (.cells 127 2 [u8V l, SV.i (m + clB q : Nat)]) rfl (by rw [hp]; rfl) ?_
     refine rd1 rfl ?_
     refine dT 33 209 1 rfl ?_
     refine dc1 (fit_any (numB l m (clB q)) hX.1) [] [] 34 217 2 rfl rfl rfl rfl rfl rfl rfl rfl Tryd.func75 rfl rfl rfl rfl trivial rfl rfl ?_
     refine dT 35 225 3 rfl ?_
     refine d1w (.vp 3 5 clG q 0) 36 233 4 rfl rfl rfl rfl rfl rfl (by constructor <;> omega) (fun M ρ z h => h.rowed (by rw [Int.toNat_natCast, Nat.zero_add]; rfl) (by decide)) ?_
     refine dO 37 241 5 rfl ?_
     refine val 37 (clsS q) rfl (by unfold clsS; rw [← clL_0 hq, ← clL_1 hq, ← clL_2 hq]; rfl) ?_
     refine dEq (op := .neq) 38 249 6 rfl rfl rfl rfl rfl rfl rfl rfl rfl (by kernel_rfl) (by kernel_rfl) rfl (.inr ⟨rfl, rfl⟩) ?_
     refine de1 257 rfl (by kernel_rfl) <| keep [7, 38] rfl ?_
     refine q1 rfl (fun hc11 => ?_) (fun hc11 => ?_)
     try simp only [cs, ne_eq] at hc11
     refine r1 <| sT 2 257 1 rfl <| sT 3 265 2 rfl <| e1 273 rfl <| keep [2, 3] rfl <| W_ret <| tr ?_
     have hzz := zgt_form hz (by omega) (fun e => by rw [e] at hc11; simp at hc11)
     exact out2 2 3 (SV.i (zgt l n).x) (SV.i (zgt l n).e) (π := [0]) (hout := [some (.cells 127 2 [u8V l, SV.i ((zgt l n).at' : Nat)])]) Tryd.results46 rfl rfl (by rw [hzz]; rfl) (by rw [hzz]; rfl) rfl rfl ⟨(by rw [hzz]; first | rfl | (simp only []; rw [← hp]; rfl) | (rw [hp]; rfl)), trivial⟩ ⟨rfl, rfl⟩
     try simp only [cs, ne_eq] at hc11
     have hcl : cls (numB l m (clB q)) = q := clH_inj (by have := cls_lt (numB l m (clB q)); omega) hq (by simp at hc11; exact hc11.1)
     refine W_skip <| tn <| r1 <| sT 39 257 1 rfl ?_
     refine c1 (unfold_any (numB l m (clB q)) hX.1 hX.2) [] [] 40 265 2 rfl rfl rfl rfl rfl rfl rfl rfl Tryd.func78 rfl rfl rfl rfl trivial rfl rfl ?_
     refine sT 41 273 3 rfl <| sT 42 281 4 rfl <| sT 2 289 5 rfl <| sT 3 297 6 rfl <| e1 305 rfl <| keep [2, 3] rfl <| W_ret ?_
     have hzz := zgt_ok hz (by omega) hcl
     exact out2 2 3 (SV.i (zgt l n).x) (SV.i (zgt l n).e) (π := [0]) (hout := [some (.cells 127 2 [u8V l, SV.i ((zgt l n).at' : Nat)])]) Tryd.results46 rfl rfl (by rw [hzz]; rfl) (by rw [hzz]; rfl) rfl rfl ⟨(by rw [hzz]; first | rfl | (simp only []; rw [← hp]; rfl) | (rw [hp]; rfl)), trivial⟩ ⟨rfl, rfl⟩
   try simp only [cs, ne_eq] at hc6
   have hbit : bitB l (n + k) ≠ 0 := (by rw [← hgv]; simpa using hc6)
   refine W_skip <| tn ?_
   refine chval 0 (.cells 127 2 [u8V l, SV.i (n + (k + 1) : Nat)]) rfl (by rw [hgp]; rfl) ?_
   refine r0 ?_
   refine sT 20 105 1 rfl <| sAO 21 113 2 rfl <| sT 4 121 3 rfl <| e1 129 rfl <| bn <| tn ?_
   exact again ((k + 1 : Nat)) [0] (show (k + 1) ≤ 4 ∧ n + (k + 1) ≤ 8 * l.length ∧ zpre l 4 n 0 = zpre l (4 - (k + 1)) (n + (k + 1)) (k + 1) from ⟨by omega, by omega, hz.trans (zpre_one l k (n + k) (by omega) (by omega) hbit)⟩) (show 4 - (k + 1) < 4 - k from (by omega)) rfl ⟨rfl, rfl, trivial⟩ ⟨rfl, trivial⟩
 try simp only [cs, ne_eq] at hc2
 refine W_exit <| tx <| tx <| bx <| tn ?_
 obtain ⟨q, m, hq, hz, hm, hek, hem⟩ : ∃ q m : Nat, q ≤ 4 ∧ zpre l 4 n 0 = (true, q, m) ∧ m ≤ 8 * l.length ∧ (k : Int) = q ∧ n + k = m := ⟨4, n + k, by omega, by rw [hz, show k = 4 by omega]; rfl, hkn, by omega, rfl⟩
 refine cval 4 (SV.i q) rfl (by rw [hek]) ?_
 refine chval 0 (.cells 127 2 [u8V l, SV.i (m : Nat)]) rfl (by first | (rw [hem]; done) | (rw [hem]; rfl)) ?_
 have h59 := clB_59 q
 refine r1 <| sT 23 17 1 rfl <| sT 24 25 2 rfl ?_
 refine s1w (.vp 3 5 clG q 0) 25 33 3 rfl rfl rfl rfl rfl rfl (by constructor <;> omega) (fun M ρ z h => h.rowed (by rw [Int.toNat_natCast, Nat.zero_add]; rfl) (by decide)) ?_
 refine sT 26 41 4 rfl <| sO 27 49 5 rfl ?_
 refine val 27 (SV.i (clB q)) rfl (congrArg (fun x => SV.d (D.val (Value.int .i64 x))) (clL_2 hq)) ?_
 refine c1 (get_any l hlb m hm (clB q) h59) [0] [0] 28 57 6 rfl rfl rfl rfl rfl rfl rfl rfl Tryd.func45 rfl rfl rfl rfl ⟨rfl, trivial⟩ rfl rfl ?_
 refine sT 22 65 7 rfl <| sT 29 73 8 rfl <| sT 30 81 9 rfl <| sT 7 89 10 rfl <| sT 8 97 11 rfl <| e1 105 rfl <| keep [4, 7, 8] rfl <| W_seq <| r1 <| sT 31 105 1 rfl <| sT 32 113 2 rfl <| e1 121 rfl <| keep [4, 7, 32] rfl ?_
 refine q1 rfl (fun hc9 => ?_) (fun hc9 => ?_)
 try simp only [cs, ne_eq] at hc9
 refine r1 <| sT 2 121 1 rfl <| sT 3 129 2 rfl <| e1 137 rfl <| keep [2, 3] rfl <| W_ret <| tr ?_
 have hzz := zgt_short2 hz (by simp [gok] at hc9; omega)
 have hp : gpos l m (clB q) = m := (by unfold gpos; rw [if_neg (by simp [gok] at hc9; omega)])
 exact out2 2 3 (SV.i (zgt l n).x) (SV.i (zgt l n).e) (π := [0]) (hout := [some (.cells 127 2 [u8V l, SV.i ((zgt l n).at' : Nat)])]) Tryd.results46 rfl rfl (by rw [hzz]; rfl) (by rw [hzz]; rfl) rfl rfl ⟨(by rw [hzz]; first | rfl | (simp only []; rw [← hp]; rfl) | (rw [hp]; rfl)), trivial⟩ ⟨rfl, rfl⟩
 try simp only [cs, ne_eq] at hc9
 have hok : m + clB q ≤ 8 * l.length := (by simp [gok] at hc9; exact hc9)
 have hp : gpos l m (clB q) = m + clB q := if_pos hok
 have hgv : gval l m (clB q) = (numB l m (clB q)) := if_pos hok
 have hX := num59 l m h59
 refine W_skip <| tn <| W_seq ?_
 refine cval 7 (SV.i (numB l m (clB q))) rfl (by rw [hgv]) ?_
 refine chval 0 (.cells 127 2 [u8V l, SV.i (m + clB q : Nat)]) rfl (by rw [hp]; rfl) ?_
 refine rd1 rfl ?_
 refine dT 33 121 1 rfl ?_
 refine dc1 (fit_any (numB l m (clB q)) hX.1) [] [] 34 129 2 rfl rfl rfl rfl rfl rfl rfl rfl Tryd.func75 rfl rfl rfl rfl trivial rfl rfl ?_
 refine dT 35 137 3 rfl ?_
 refine d1w (.vp 3 5 clG q 0) 36 145 4 rfl rfl rfl rfl rfl rfl (by constructor <;> omega) (fun M ρ z h => h.rowed (by rw [Int.toNat_natCast, Nat.zero_add]; rfl) (by decide)) ?_
 refine dO 37 153 5 rfl ?_
 refine val 37 (clsS q) rfl (by unfold clsS; rw [← clL_0 hq, ← clL_1 hq, ← clL_2 hq]; rfl) ?_
 refine dEq (op := .neq) 38 161 6 rfl rfl rfl rfl rfl rfl rfl rfl rfl (by kernel_rfl) (by kernel_rfl) rfl (.inr ⟨rfl, rfl⟩) ?_
 refine de1 169 rfl (by kernel_rfl) <| keep [7, 38] rfl ?_
 refine q1 rfl (fun hc11 => ?_) (fun hc11 => ?_)
 try simp only [cs, ne_eq] at hc11
 refine r1 <| sT 2 169 1 rfl <| sT 3 177 2 rfl <| e1 185 rfl <| keep [2, 3] rfl <| W_ret <| tr ?_
 have hzz := zgt_form hz (by omega) (fun e => by rw [e] at hc11; simp at hc11)
 exact out2 2 3 (SV.i (zgt l n).x) (SV.i (zgt l n).e) (π := [0]) (hout := [some (.cells 127 2 [u8V l, SV.i ((zgt l n).at' : Nat)])]) Tryd.results46 rfl rfl (by rw [hzz]; rfl) (by rw [hzz]; rfl) rfl rfl ⟨(by rw [hzz]; first | rfl | (simp only []; rw [← hp]; rfl) | (rw [hp]; rfl)), trivial⟩ ⟨rfl, rfl⟩
 try simp only [cs, ne_eq] at hc11
 have hcl : cls (numB l m (clB q)) = q := clH_inj (by have := cls_lt (numB l m (clB q)); omega) hq (by simp at hc11; exact hc11.1)
 refine W_skip <| tn <| r1 <| sT 39 169 1 rfl ?_
 refine c1 (unfold_any (numB l m (clB q)) hX.1 hX.2) [] [] 40 177 2 rfl rfl rfl rfl rfl rfl rfl rfl Tryd.func78 rfl rfl rfl rfl trivial rfl rfl ?_
 refine sT 41 185 3 rfl <| sT 42 193 4 rfl <| sT 2 201 5 rfl <| sT 3 209 6 rfl <| e1 217 rfl <| keep [2, 3] rfl <| W_ret ?_
 have hzz := zgt_ok hz (by omega) hcl
 exact out2 2 3 (SV.i (zgt l n).x) (SV.i (zgt l n).e) (π := [0]) (hout := [some (.cells 127 2 [u8V l, SV.i ((zgt l n).at' : Nat)])]) Tryd.results46 rfl rfl (by rw [hzz]; rfl) (by rw [hzz]; rfl) rfl rfl ⟨(by rw [hzz]; first | rfl | (simp only []; rw [← hp]; rfl) | (rw [hp]; rfl)), trivial⟩ ⟨rfl, rfl⟩
end Go.Proofs.YtpdojmebloekgaaDoor.Nice.Co
namespace Go.Proofs.YtpdojmebloekgaaDoor
open Go Nice Nice.Co
set_option linter.unusedVariables false
theorem dr_of {M : Imm} {ρ : Names} {x : D} {v : Value} (h : VR M ρ (.d x) v) : DR M x v := by cases h; assumption
def ofB (l : List UInt8) : List Int := l.map fun x => (x.toNat : Int)
theorem bytes_val {M : Imm} (l : List Sh.u8.T) {v : Value} (h : DR M ((Sh.slice .u8).cell l 0) v) : DR M (.vec 1 (ofB l).length (u8F (ofB l))) v := by
 have hlen : (ofB l).length = l.length := by simp [ofB]
 rw [hlen]
 refine DR.vec_congr h fun i c hi hc => ?_
 rw [List.getElem?_eq_getElem hi]
 have e : (ofB l).getD i 0 = (l[i].toNat : Int) := by simp [ofB, List.getD, hi]
 unfold u8F
 rw [e]; rfl
theorem bytes_sz {M : Imm} (l : List Sh.u8.T) {v : Value} (h : DR M ((Sh.slice .u8).cell l 0) v) (hs : ∀ a len cap, v = .slice a len cap → len * 1 ≤ 140737488351232) : Bytes (ofB l) := by
 have hlen : (ofB l).length = l.length := by simp [ofB]
 refine ⟨?_, fun k => ?_⟩
 · rw [hlen]
   have h' : DR M (.vec 1 l.length _) v := h
   generalize hL : l.length = n at h'
   cases h' with
   | vec0 => omega
   | vec _ _ _ b o cap => have := hs _ _ _ rfl; omega
 · by_cases hk : k < l.length
   · have e : (ofB l).getD k 0 = (l[k].toNat : Int) := by simp [ofB, List.getD, hk]
     have := l[k].toNat_lt
     rw [e]; omega
   · rw [List.getD_eq_getElem?_getD, List.getElem?_eq_none (by rw [hlen]; omega)]; exact ⟨by decide, by decide⟩
end Go.Proofs.YtpdojmebloekgaaDoor
namespace Go.Proofs.YtpdojmebloekgaaDoor.Nice.Co
open Go Go.Conc
open Go.ConcN (PermW fork_knows Deaf_absent)
set_option linter.unusedVariables false
set_option linter.unusedSimpArgs false
universe u
def up {α : Type u} (f : Nat → α) (i : Nat) (x : α) : Nat → α := fun a => if a = i then x else f a
theorem up_same {α : Type u} (f : Nat → α) (i : Nat) (x : α) : up f i x i = x := by simp [up]
theorem up_ne {α : Type u} (f : Nat → α) {i a : Nat} (x : α) (h : a ≠ i) : up f i x a = f a := by simp [up, h]
def blkOf : Loc → Option Nat
 | .cell a => some a.block
 | .obj r => some r
 | _ => none
def TOk (own rd : Blks) (Wg Ch : Nat) (say : Prop) (x : Touch) : Prop :=
 (∃ b, blkOf x.loc = some b ∧ own b ∧ x.kind ≠ .said) ∨ (∃ b, blkOf x.loc = some b ∧ rd b ∧ x.write = false ∧ x.kind ≠ .said) ∨ ((blkOf x.loc = some Wg ∨ blkOf x.loc = some Ch) ∧ x.kind = .atomic) ∨ (blkOf x.loc = some Wg ∧ x.kind = .said ∧ say)
structure Dj (N : Nat) (own rd : Nat → Blks) (size Wg Ch : Nat) : Prop where
 oo : ∀ i j b, i < N → j < N → i ≠ j → own i b → ¬ own j b
 ord : ∀ i j b, i < N → j < N → own i b → ¬ rd j b
 lto : ∀ i b, i < N → own i b → b < size ∧ b ≠ Wg ∧ b ≠ Ch
 ltr : ∀ i b, i < N → rd i b → b < size ∧ b ≠ Wg ∧ b ≠ Ch
 wg : Wg < size
 ch : Ch < size
 ne : Wg ≠ Ch
structure TI (N : Nat) (own rd : Nat → Blks) (deaf : Nat → Nat) (size Wg Ch sayer : Nat) (t : Trace) : Prop where
 lt : ∀ (p : Nat) (op : MemOp), t[p]? = some op → op.g < N
 ow : ∀ i l b, i < N → blkOf l = some b → own i b → Perm t i l
 rr : ∀ i l b, i < N → blkOf l = some b → rd i b → PermW t i l
 wg : ∀ p a, touchAt t p = some a → (blkOf a.loc = some Wg ∨ blkOf a.loc = some Ch) → a.kind ≠ .plain
 fresh : ∀ p a b, touchAt t p = some a → blkOf a.loc = some b → b < size
 sd : ∀ p a, touchAt t p = some a → a.kind = .said → Knows t sayer p
 nr : ∀ said, ¬ Race said t
 df : ∀ i, i < N → Deaf t i = deaf i
theorem touch_new {t u : Trace} {p : Nat} {a : Touch} (h : touchAt (t ++ u) p = some a) : (p < t.size ∧ touchAt t p = some a) ∨ (t.size ≤ p ∧ ∃ op, (t ++ u)[p]? = some op ∧ op ∈ u ∧ op.act.touch? = some a) := by
 obtain ⟨x, hx, hxa⟩ := touch_of h
 rcases getElem?_append_cases hx with ⟨hi, hx'⟩ | ⟨hi, hxu⟩
 · exact .inl ⟨hi, by rw [touchAt_of hx']; exact hxa⟩
 · exact .inr ⟨hi, x, hx, hxu, hxa⟩
section
variable {N : Nat} {own rd : Nat → Blks} {deaf : Nat → Nat} {size Wg Ch sayer : Nat} {t u : Trace}
theorem TI.app (h : TI N own rd deaf size Wg Ch sayer t) (D : Dj N own rd size Wg Ch) {i : Nat} (hi : i < N) (hg : ∀ op, op ∈ u → op.g = i) (hu : ∀ op, op ∈ u → ∀ x, op.act.touch? = some x → TOk (own i) (rd i) Wg Ch (i = sayer) x)
   {own' : Blks} {size' : Nat} (ho : ∀ b, own' b → own i b ∨ (size ≤ b ∧ b < size')) (hs : size ≤ size') {d' : Nat} (hd : Deaf (t ++ u) i = d') :
   TI N (up own i own') rd (up deaf i d') size' Wg Ch sayer (t ++ u) := by
 have mine : ∀ {q : Nat} {op : MemOp}, (t ++ u)[q]? = some op → op ∈ u → Knows (t ++ u) i q := fun hq hou => by
   have := knows_own hq
   rwa [hg _ hou] at this
 refine ⟨fun p op hp => ?_, fun j l b hj hl hb => ?_, fun j l b hj hl hb => ?_, fun p a ha hb => ?_, fun p a b ha hb => ?_, fun p a ha hk => ?_, fun said => ?_, fun j hj => ?_⟩
 · rcases getElem?_append_cases hp with ⟨_, hp'⟩ | ⟨_, hpu⟩
   · exact h.lt p op hp'
   · rw [hg op hpu]; exact hi
 · by_cases e : j = i
   · subst e
     rw [up_same] at hb
     intro p a ha hal
     rcases touch_new ha with ⟨hp, ha'⟩ | ⟨_, op, hop, hou, _⟩
     · rcases ho b hb with hb | hb
       · exact (h.ow j l b hj hl hb p a ha' hal).app u
       · have := h.fresh p a b ha' (by rw [hal]; exact hl)
         omega
     · exact mine hop hou
   · rw [up_ne _ _ e] at hb
     refine (h.ow j l b hj hl hb).app fun op hop x hx hxl => ?_
     exfalso
     rcases hu op hop x hx with ⟨c, hc, h1, _⟩ | ⟨c, hc, h1, _⟩ | ⟨hc | hc, _⟩ | ⟨hc, _⟩
     · rw [hxl, hl] at hc; cases hc; exact D.oo i j b hi hj (fun x => e x.symm) h1 hb
     · rw [hxl, hl] at hc; cases hc; exact D.ord j i b hj hi hb h1
     · rw [hxl, hl] at hc; cases hc; exact (D.lto j _ hj hb).2.1 rfl
     · rw [hxl, hl] at hc; cases hc; exact (D.lto j _ hj hb).2.2 rfl
     · rw [hxl, hl] at hc; cases hc; exact (D.lto j _ hj hb).2.1 rfl
 · refine (h.rr j l b hj hl hb).app fun op hop x hx hxl hw => ?_
   rcases hu op hop x hx with ⟨c, hc, h1, _⟩ | ⟨c, hc, h1, h2, _⟩ | ⟨hc | hc, _⟩ | ⟨hc, _⟩
   · rw [hxl, hl] at hc; cases hc
     by_cases e : j = i
     · rw [hg op hop, e]
     · exact absurd hb (D.ord i j b hi hj h1)
   · rw [h2] at hw; cases hw
   · rw [hxl, hl] at hc; cases hc; exact absurd rfl (D.ltr j _ hj hb).2.1
   · rw [hxl, hl] at hc; cases hc; exact absurd rfl (D.ltr j _ hj hb).2.2
   · rw [hxl, hl] at hc; cases hc; exact absurd rfl (D.ltr j _ hj hb).2.1
 · rcases touch_new ha with ⟨_, ha'⟩ | ⟨_, op, hop, hou, hx⟩
   · exact h.wg p a ha' hb
   · rcases hu op hou a hx with ⟨c, hc, h1, _⟩ | ⟨c, hc, h1, _⟩ | ⟨_, hk⟩ | ⟨_, hk, _⟩
     · rcases hb with hb | hb <;> rw [hb] at hc <;> cases hc
       · exact absurd rfl (D.lto i _ hi h1).2.1
       · exact absurd rfl (D.lto i _ hi h1).2.2
     · rcases hb with hb | hb <;> rw [hb] at hc <;> cases hc
       · exact absurd rfl (D.ltr i _ hi h1).2.1
       · exact absurd rfl (D.ltr i _ hi h1).2.2
     · rw [hk]; simp
     · rw [hk]; simp
 · rcases touch_new ha with ⟨_, ha'⟩ | ⟨_, op, hop, hou, hx⟩
   · exact Nat.lt_of_lt_of_le (h.fresh p a b ha' hb) hs
   · refine Nat.lt_of_lt_of_le ?_ hs
     rcases hu op hou a hx with ⟨c, hc, h1, _⟩ | ⟨c, hc, h1, _⟩ | ⟨hc | hc, _⟩ | ⟨hc, _⟩
     · rw [hb] at hc; cases hc; exact (D.lto i b hi h1).1
     · rw [hb] at hc; cases hc; exact (D.ltr i b hi h1).1
     · rw [hb] at hc; cases hc; exact D.wg
     · rw [hb] at hc; cases hc; exact D.ch
     · rw [hb] at hc; cases hc; exact D.wg
 · rcases touch_new ha with ⟨_, ha'⟩ | ⟨_, op, hop, hou, hx⟩
   · exact (h.sd p a ha' hk).app u
   · rcases hu op hou a hx with ⟨c, hc, _, h2⟩ | ⟨c, hc, _, _, h2⟩ | ⟨_, h2⟩ | ⟨_, _, h2⟩
     · exact absurd hk h2
     · exact absurd hk h2
     · rw [hk] at h2; cases h2
     · rw [← h2]; exact mine hop hou
 · refine noRace_append (h.nr said) hg fun p a ha op hop b hb hc => ?_
   obtain ⟨c1, _, c3, c4⟩ := hc
   rcases hu op hop b hb with ⟨c, hc, h1, _⟩ | ⟨c, hc, h1, h2, _⟩ | ⟨hc, hk⟩ | ⟨hc, hk, hsy⟩
   · exact h.ow i b.loc c hi hc h1 p a ha c1
   · exact h.rr i b.loc c hi hc h1 p a ha c1 (c3.resolve_right (by rw [h2]; simp))
   · have := h.wg p a ha (by rw [c1]; exact hc)
     rw [hk] at c4
     rcases c4 with c4 | c4 | ⟨_, _, c4⟩
     · exact absurd c4 this
     · cases c4
     · cases c4
   · have := h.wg p a ha (.inl (by rw [c1]; exact hc))
     rw [hk] at c4
     rcases c4 with c4 | c4 | ⟨_, c4, _⟩
     · exact absurd c4 this
     · cases c4
     · rw [hsy]; exact h.sd p a ha c4
 · by_cases e : j = i
   · subst e; rw [up_same]; exact hd
   · rw [up_ne _ _ e, Deaf_other t (fun x => e x.symm) u hg]
     exact h.df j hj
theorem TI.less (h : TI N own rd deaf size Wg Ch sayer t) {own' rd' : Nat → Blks} (ho : ∀ i b, i < N → own' i b → own i b) (hr : ∀ i b, i < N → rd' i b → rd i b ∨ own i b) : TI N own' rd' deaf size Wg Ch sayer t :=
 ⟨h.lt, fun i l b hi hl hb => h.ow i l b hi hl (ho i b hi hb), fun i l b hi hl hb => (hr i b hi hb).elim (h.rr i l b hi hl) fun hb => PermW.of (h.ow i l b hi hl hb), h.wg, h.fresh, h.sd, h.nr, h.df⟩
theorem TI.fork (h : TI N own rd deaf size Wg Ch sayer t) (hN : 0 < N) (h0 : deaf 0 = 0) {x y : MemOp} (hx : x.g = 0 ∧ x.act = .go N) (hy : y.g = N ∧ y.act = .start) {rdN : Blks} (hr : ∀ b, rdN b → rd 0 b) {sayer' : Nat} (hsy : sayer' = sayer ∨ (sayer = 0 ∧ sayer' = N)) :
   TI (N + 1) (up own N fun _ => False) (up rd N rdN) (up deaf N 0) size Wg Ch sayer' (t ++ #[x, y]) := by
 have d0 : Deaf t 0 = 0 := by rw [h.df 0 hN]; exact h0
 have dN : Deaf t N = 0 := Deaf_absent fun i op hi e => by have := h.lt i op hi; omega
 have hnt : ∀ op, op ∈ (#[x, y] : Trace) → ∀ b, op.act.touch? = some b → False := by
   intro op hop b hb
   simp only [List.mem_toArray, List.mem_cons, List.not_mem_nil, or_false] at hop
   rcases hop with rfl | rfl
   · rw [hx.2] at hb; cases hb
   · rw [hy.2] at hb; cases hb
 have old : ∀ {p : Nat} {a : Touch}, touchAt (t ++ #[x, y]) p = some a → touchAt t p = some a := by
   intro p a ha
   rcases touch_new ha with ⟨_, ha'⟩ | ⟨_, op, _, hou, hx⟩
   · exact ha'
   · exact (hnt op hou a hx).elim
 refine ⟨fun p op hp => ?_, fun j l b hj hl hb => ?_, fun j l b hj hl hb => ?_, fun p a ha hb => h.wg p a (old ha) hb, fun p a b ha hb => h.fresh p a b (old ha) hb, fun p a ha hk => ?_, fun said => ?_, fun j hj => ?_⟩
 · rcases getElem?_append_cases hp with ⟨_, hp'⟩ | ⟨_, hpu⟩
   · exact Nat.lt_succ_of_lt (h.lt p op hp')
   · simp only [List.mem_toArray, List.mem_cons, List.not_mem_nil, or_false] at hpu
     rcases hpu with rfl | rfl
     · rw [hx.1]; omega
     · rw [hy.1]; omega
 · by_cases e : j = N
   · subst e; rw [up_same] at hb; exact hb.elim
   · rw [up_ne _ _ e] at hb
     exact (h.ow j l b (by omega) hl hb).app fun op hop b hb _ => (hnt op hop b hb).elim
 · by_cases e : j = N
   · subst e
     rw [up_same] at hb
     exact fun p a ha hal hw => fork_knows hx hy d0 dN (h.rr 0 l b hN hl (hr b hb) p a (old ha) hal hw)
   · rw [up_ne _ _ e] at hb
     exact (h.rr j l b (by omega) hl hb).app fun op hop b hb _ _ => (hnt op hop b hb).elim
 · have hk' := h.sd p a (old ha) hk
   rcases hsy with rfl | ⟨rfl, rfl⟩
   · exact hk'.app _
   · exact fork_knows hx hy d0 dN hk'
 · have e : t ++ #[x, y] = (t ++ #[x]) ++ #[y] := by apply Array.ext'; simp
   rw [e]
   refine noRace_append (g := N) (noRace_append (g := 0) (h.nr said) (fun op hop => by simp at hop; rw [hop]; exact hx.1) (fun i a _ op hop b hb _ => (hnt op (by simp at hop ⊢; exact .inl hop) b hb).elim))
     (fun op hop => by simp at hop; rw [hop]; exact hy.1) (fun i a _ op hop b hb _ => (hnt op (by simp at hop ⊢; exact .inr hop) b hb).elim)
 · have e : t ++ #[x, y] = (t ++ #[x]) ++ #[y] := by apply Array.ext'; simp
   rw [e, Deaf_push, Deaf_push]
   have e1 : ∀ d, deafStep j d x = d := fun d => by simp [deafStep, hx.2]
   have e2 : ∀ d, deafStep j d y = d := fun d => by simp [deafStep, hy.2]
   rw [e1, e2]
   by_cases e : j = N
   · subst e; rw [up_same]; exact dN
   · rw [up_ne _ _ e]; exact h.df j (by omega)
def meetOps (i : Nat) (fi : FuncId) (pi : String) (fm : FuncId) (pm : String) (c k cap : Nat) : Trace :=
 #[{ g := i, fn := fi, pos := pi, act := .send c k }, { g := 0, fn := fm, pos := pm, act := .recv c k cap }, { g := i, fn := fi, pos := pi, act := .sendDone c k }, { g := 0, fn := fm, pos := pm, act := .recvDone c k }]
theorem meet_get (t : Trace) (i : Nat) (fi : FuncId) (pi : String) (fm : FuncId) (pm : String) (c k cap : Nat) :
   (t ++ meetOps i fi pi fm pm c k cap)[t.size]? = some { g := i, fn := fi, pos := pi, act := .send c k } ∧ (t ++ meetOps i fi pi fm pm c k cap)[t.size + 3]? = some { g := 0, fn := fm, pos := pm, act := .recvDone c k } := by
 constructor
 · rw [Array.getElem?_append_right (Nat.le_refl _)]; simp [meetOps]
 · rw [Array.getElem?_append_right (by omega)]; simp [meetOps]
theorem meet_still {i : Nat} {fi : FuncId} {pi : String} {fm : FuncId} {pm : String} {c k cap : Nat} : ∀ op, op ∈ meetOps i fi pi fm pm c k cap → op.act.touch? = none ∧ op.act ≠ .mark .disable ∧ op.act ≠ .mark .enable ∧ (op.g = i ∨ op.g = 0) := by
 intro op hop
 simp only [meetOps, List.mem_toArray, List.mem_cons, List.not_mem_nil, or_false] at hop
 rcases hop with rfl | rfl | rfl | rfl <;> simp [MemAct.touch?]
theorem meet_knows {i : Nat} {fi : FuncId} {pi : String} {fm : FuncId} {pm : String} {c k cap : Nat} (di : Deaf t i = 0) (d0 : Deaf t 0 = 0) {p : Nat} (h : Knows t i p) : Knows (t ++ meetOps i fi pi fm pm c k cap) 0 p := by
 obtain ⟨h1, h2⟩ := meet_get t i fi pi fm pm c k cap
 have hd : ∀ (j n : Nat), n ≤ (t ++ meetOps i fi pi fm pm c k cap).size → t.size ≤ n → (t ++ meetOps i fi pi fm pm c k cap).deaf j n = Deaf t j := by
   intro j n
   induction n with
   | zero => intro _ hn; have e0 : t.size = 0 := by omega
             simp [Trace.deaf, Deaf, e0]
   | succ n ih =>
     intro hn hn2
     rcases Nat.lt_or_ge n t.size with hlt | hge
     · have : n + 1 = t.size := by omega
       rw [this]; exact deaf_old (Nat.le_refl _)
     · obtain ⟨op, hop⟩ : ∃ op, (t ++ meetOps i fi pi fm pm c k cap)[n]? = some op := ⟨_, Array.getElem?_eq_getElem (by omega)⟩
       rw [deaf_succ hop, ih (by omega) hge]
       rcases getElem?_append_cases hop with ⟨hlt, _⟩ | ⟨_, hou⟩
       · omega
       · obtain ⟨_, a, b, _⟩ := meet_still op hou
         unfold deafStep
         split
         · rename_i e; exact absurd e a
         · rename_i e; exact absurd e b
         · rfl
 have hsz : (t ++ meetOps i fi pi fm pm c k cap).size = t.size + 4 := by simp [meetOps]
 have e0 : (t ++ meetOps i fi pi fm pm c k cap).heard t.size := ⟨i, by simp [Trace.g?, h1], by rw [hd i _ (by omega) (Nat.le_refl _)]; exact di⟩
 have e1 : (t ++ meetOps i fi pi fm pm c k cap).heard (t.size + 3) := ⟨0, by simp [Trace.g?, h2], by rw [hd 0 _ (by omega) (by omega)]; exact d0⟩
 have hb1 : HappensBefore (t ++ meetOps i fi pi fm pm c k cap) p t.size := h.hb_new (Nat.le_refl _) h1 rfl
 exact ⟨t.size + 3, _, h2, rfl, .inr (hb1.trans (.single (.inr ⟨.handOver (c := c) (k := k) (by rw [act?_of h1]) (by rw [act?_of h2]), e0, e1⟩)))⟩
theorem TI.meet (h : TI N own rd deaf size Wg Ch sayer t) {i : Nat} (hi : i < N) (hN : 0 < N) (d0 : deaf 0 = 0) (di : deaf i = 0) {fi : FuncId} {pi : String} {fm : FuncId} {pm : String} {c k cap : Nat} {rd0 : Blks} (hr : ∀ b, rd0 b → rd 0 b ∨ own i b ∨ rd i b) :
   TI N own (up rd 0 rd0) deaf size Wg Ch sayer (t ++ meetOps i fi pi fm pm c k cap) := by
 have e0 : Deaf t 0 = 0 := by rw [h.df 0 hN]; exact d0
 have ei : Deaf t i = 0 := by rw [h.df i hi]; exact di
 have old : ∀ {p : Nat} {a : Touch}, touchAt (t ++ meetOps i fi pi fm pm c k cap) p = some a → touchAt t p = some a := by
   intro p a ha
   rcases touch_new ha with ⟨_, ha'⟩ | ⟨_, op, _, hou, hx⟩
   · exact ha'
   · rw [(meet_still op hou).1] at hx; cases hx
 refine ⟨fun p op hp => ?_, fun j l b hj hl hb => ?_, fun j l b hj hl hb => ?_, fun p a ha hb => h.wg p a (old ha) hb, fun p a b ha hb => h.fresh p a b (old ha) hb, fun p a ha hk => (h.sd p a (old ha) hk).app _, fun said => ?_, fun j hj => ?_⟩
 · rcases getElem?_append_cases hp with ⟨_, hp'⟩ | ⟨_, hpu⟩
   · exact h.lt p op hp'
   · rcases (meet_still op hpu).2.2.2 with e | e <;> rw [e] <;> assumption
 · exact (h.ow j l b hj hl hb).app fun op hop b hb _ => by rw [(meet_still op hop).1] at hb; cases hb
 · have base : rd j b → PermW (t ++ meetOps i fi pi fm pm c k cap) j l := fun hb => (h.rr j l b hj hl hb).app fun op hop b hb _ _ => by rw [(meet_still op hop).1] at hb; cases hb
   by_cases e : j = 0
   · subst e
     rw [up_same] at hb
     rcases hr b hb with hb | hb | hb
     · exact base hb
     · exact fun p a ha hal hw => meet_knows ei e0 (h.ow i l b hi hl hb p a (old ha) hal)
     · exact fun p a ha hal hw => meet_knows ei e0 (h.rr i l b hi hl hb p a (old ha) hal hw)
   · rw [up_ne _ _ e] at hb
     exact base hb
 · rintro ⟨p, q, hpq, ⟨a, b, ha, hb, hc⟩, n1, n2⟩
   have ha' := old (show touchAt _ p = some a from ha)
   have hb' := old (show touchAt _ q = some b from hb)
   exact h.nr said ⟨p, q, hpq, ⟨a, b, ha', hb', hc⟩, fun e => n1 (hb_app _ e), fun e => n2 (hb_app _ e)⟩
 · have e : Deaf (t ++ meetOps i fi pi fm pm c k cap) j = Deaf t j := by
     have : ∀ (l : List MemOp) (t : Trace), (∀ op, op ∈ l → op.act ≠ .mark .disable ∧ op.act ≠ .mark .enable) → Deaf (t ++ l.toArray) j = Deaf t j := by
       intro l t hl
       rw [Deaf_append]
       generalize Deaf t j = d
       induction l with
       | nil => rfl
       | cons y l ih =>
         have hy : deafStep j d y = d := by
           obtain ⟨a, b⟩ := hl y (by simp)
           unfold deafStep
           split
           · rename_i e; exact absurd e a
           · rename_i e; exact absurd e b
           · rfl
         rw [List.foldl_cons, hy]
         exact ih fun op hop => hl op (by simp [hop])
     have := this (meetOps i fi pi fm pm c k cap).toList t fun op hop => ⟨(meet_still op (by simpa using hop)).2.1, (meet_still op (by simpa using hop)).2.2.1⟩
     simpa using this
   rw [e]; exact h.df j hj
end
end Go.Proofs.YtpdojmebloekgaaDoor.Nice.Co
namespace Go.Proofs.YtpdojmebloekgaaDoor.Nice.Co
open Go Go.Conc
open Go.ConcR (KK WgAt stA smA mk)
set_option linter.unusedVariables false
set_option linter.unusedSimpArgs false
inductive Lo where
 | spawn (j : Nat) (p : Bool)
 | recv (J : List Nat)
 | fin
 | wk (k : Nat)
 | told
 | l1
 | l2
 | l3
 | out
 | cw (B : Nat)
 | cc (v : Nat)
 | cr
 | cs
 deriving DecidableEq
def Lo.mute : Lo → Bool
 | .told | .l1 | .l2 | .l3 => true
 | _ => false
structure Gam where
 own : Blks
 rd : Blks
 deaf : Nat
 lo : Lo
structure Sst where
 v : Nat
 wt : Nat
 sm : Nat
 cl : Bool
structure Pr where
 n : Nat
 Wg : Nat
 Ch : Nat
 ty : TypeId
 Tell : Nat → Imm → Value → Prop
def WgLv (p : Pr) (w : World) : Prop := (∃ st sm, WgAt p.ty p.Wg w st sm) ∧ p.Ch < w.heap.size
structure Sh (p : Pr) (s : Sst) (w : World) : Prop where
 wg : WgAt p.ty p.Wg w ((s.v : Int) * KK + s.wt) s.sm
 ch : ∃ q, w.heap[p.Ch]? = some (.chan 0 #[] s.cl q q false)
theorem Sh.lv {p : Pr} {s : Sst} {w : World} (h : Sh p s w) : WgLv p w := ⟨⟨_, _, h.wg⟩, let ⟨_, h⟩ := h.ch; (Array.getElem?_eq_some_iff.1 h).1⟩
structure RelyP (p : Pr) (Γ : Gam) (w w₁ : World) : Prop where
 ry : Rely Γ.own Γ.rd w w₁
 wg : WgLv p w → WgLv p w₁
theorem RelyP.refl {p : Pr} {Γ : Gam} (w : World) : RelyP p Γ w w := ⟨.refl w, id⟩
theorem RelyP.trans {p : Pr} {Γ : Gam} {a b c : World} (h : RelyP p Γ a b) (k : RelyP p Γ b c) : RelyP p Γ a c := ⟨h.ry.trans k.ry, fun x => k.wg (h.wg x)⟩
structure Only (p : Pr) (w w' : World) : Prop where
 same : Same w w'
 size : w'.heap.size = w.heap.size
 keep : ∀ b, b ≠ p.Wg → b ≠ p.Ch → w'.heap[b]? = w.heap[b]?
def Poss (n : Nat) : Lo → Sst → Prop
 | .spawn j q, s => s = ⟨j + (if q then 1 else 0), 0, 0, false⟩
 | .told, s => 1 ≤ s.v ∧ s.v ≤ n ∧ s.wt ≤ 1 ∧ s.sm = 0 ∧ s.cl = false
 | .l1, s => s = ⟨0, 1, 0, false⟩
 | .l2, s => s = ⟨0, 1, 0, false⟩
 | .l3, s => s = ⟨0, 0, 0, false⟩
 | .cw B, s => s.v ≤ B ∧ s.wt = 0 ∧ s.sm = 0 ∧ s.cl = false
 | .cc v, s => s.v ≤ v ∧ s.wt = 0 ∧ s.sm = 0 ∧ s.cl = false
 | .cr, s => s.cl = false ∧ ((s.wt = 1 ∧ s.sm = 0) ∨ (s.v = 0 ∧ s.wt = 0 ∧ s.sm ≤ 1))
 | .cs, s => s = ⟨0, 0, 0, false⟩
 | _, _ => True
def MarkOk (m : Mark) : Prop := m = .disable ∨ m = .enable ∨ (∃ a, m = .acquire a) ∨ ∃ a, m = .releaseMerge a
def rdE (a : Addr) : Event := ⟨.cell a, false, true⟩
def wrE (a : Addr) : Event := ⟨.cell a, true, true⟩
inductive Tra (p : Pr) (d : Nat) : Lo → Sst → Array Event → Lo → Sst → Prop
 | mark {lo : Lo} {s : Sst} (m : Mark) (h : MarkOk m) : Tra p d lo s #[mk m] lo s
 | add {j : Nat} : j < p.n → Tra p d (.spawn j false) ⟨j, 0, 0, false⟩ #[rdE (stA p.Wg), wrE (stA p.Wg)] (.spawn j true) ⟨j + 1, 0, 0, false⟩
 | saidR {j : Nat} {s : Sst} : Tra p d (.spawn j true) s #[mk (.read (smA p.Wg))] (.spawn j true) s
 | done {v wt : Nat} (hd : 0 < d) : Tra p d .told ⟨v + 1, wt, 0, false⟩ #[rdE (stA p.Wg), wrE (stA p.Wg)] (if v = 0 ∧ wt = 1 then .l1 else .out) ⟨v, wt, 0, false⟩
 | ld1 (hd : 0 < d) : Tra p d .l1 ⟨0, 1, 0, false⟩ #[rdE (stA p.Wg)] .l2 ⟨0, 1, 0, false⟩
 | st2 (hd : 0 < d) : Tra p d .l2 ⟨0, 1, 0, false⟩ #[wrE (stA p.Wg)] .l3 ⟨0, 0, 0, false⟩
 | rel (hd : 0 < d) : Tra p d .l3 ⟨0, 0, 0, false⟩ (semEvents (smA p.Wg)) .out ⟨0, 0, 1, false⟩
 | ld0 {B : Nat} : Tra p d (.cw B) ⟨0, 0, 0, false⟩ #[rdE (stA p.Wg)] .cs ⟨0, 0, 0, false⟩
 | ldv {B v : Nat} (h : 0 < v) (hB : v ≤ B) : Tra p d (.cw B) ⟨v, 0, 0, false⟩ #[rdE (stA p.Wg)] (.cc v) ⟨v, 0, 0, false⟩
 | cas {v : Nat} (h : 0 < v) : Tra p d (.cc v) ⟨v, 0, 0, false⟩ #[rdE (stA p.Wg), wrE (stA p.Wg)] .cr ⟨v, 1, 0, false⟩
 | miss {v v' : Nat} (h : v' < v) : Tra p d (.cc v) ⟨v', 0, 0, false⟩ #[rdE (stA p.Wg)] (.cw v') ⟨v', 0, 0, false⟩
 | saidW {s : Sst} : Tra p d .cr s #[mk (.write (smA p.Wg))] .cr s
 | ld2 : Tra p d .cs ⟨0, 0, 0, false⟩ #[rdE (stA p.Wg)] .cs ⟨0, 0, 0, false⟩
 | close (h0 : d = 0) : Tra p d .cs ⟨0, 0, 0, false⟩ #[⟨.obj p.Ch, false, true⟩, ⟨.obj p.Ch, true, true⟩] .out ⟨0, 0, 0, true⟩
def Holds (M : Imm) (w : World) : Prop := ∀ b o, M b = some o → w.heap[b]? = some o
abbrev no : Blks := fun _ => False
abbrev Cont := Bool → Gam → Goroutine → World → Prop
structure Like (g h : Goroutine) : Prop where
 frame : g.frame = h.frame
 callers : g.callers = h.callers
 dying : g.dying = h.dying
theorem Like.refl (g : Goroutine) : Like g g := ⟨rfl, rfl, rfl⟩
theorem Like.step {P : Program} {main : Bool} {g h : Goroutine} (l : Like g h) (w : World) : stepG P main g w = stepG P main h w := stepG_same l.frame l.callers l.dying w
structure RecvN (P : Program) (p : Pr) (K : Cont) (Γ : Gam) (g : Goroutine) (w : World) (J : List Nat) (g₁ : Goroutine) (z : Value) : Prop where
 hs : g.status = .running
 hl : Γ.lo = .recv J
 hd : Γ.deaf = 0
 hg : Like g g₁
 h : ∀ w₁, RelyP p Γ w w₁ → stepG P true g w₁ = .comm g₁ #[rcase p.Ch z] true (.recv true) w₁ #[]
 hk : ∀ k M v w₁, RelyP p Γ w w₁ → k < p.n → k ∉ J → p.Tell k M v → Holds M w₁ → (∀ b, M b ≠ none → ¬ Γ.own b ∧ b ≠ p.Wg ∧ b ≠ p.Ch) → K true ⟨Γ.own, fun b => Γ.rd b ∨ M b ≠ none, 0, .recv (k :: J)⟩ (Go.Conc.served g₁ (recvd true v true)) w₁
 hc : ∀ w₁, RelyP p Γ w w₁ → (∀ k, k < p.n → k ∈ J) → K true ⟨Γ.own, Γ.rd, 0, .fin⟩ (Go.Conc.served g₁ (recvd true z false)) w₁
inductive Node (P : Program) (p : Pr) (Pst : Value → World → Prop) (K : Cont) (main : Bool) (Γ : Gam) (g : Goroutine) (w : World) : Prop
 | own (hs : g.status = .running) (hl : Γ.lo ≠ .out) (h : ∀ w₁, RelyP p Γ w w₁ → ∃ g' w' es, stepG P main g w₁ = .go g' w' es ∧ (Γ.lo.mute = true → es = #[]) ∧ Guar Γ.own Γ.rd w₁ w' es ∧ K main ⟨more Γ.own w₁ w', Γ.rd, Γ.deaf, Γ.lo⟩ g' w')
 | sync (hs : g.status = .running) (hl : Γ.lo ≠ .out) (h : ∀ w₁, RelyP p Γ w w₁ → ∀ s, Sh p s w₁ → Poss p.n Γ.lo s → ∃ g' w' es lo' s', stepG P main g w₁ = .go g' w' es ∧ Tra p Γ.deaf Γ.lo s es lo' s' ∧ Only p w₁ w' ∧ Sh p s' w' ∧ ((s'.sm = s.sm ∧ s'.cl = s.cl) ∨ mayWake P g = true) ∧ K main ⟨Γ.own, Γ.rd, deafBehind Γ.deaf es, lo'⟩ g' w')
 | wait (hs : g.status = .running) (ho : g.offers = none) (hl : Γ.lo = .cr) (h : ∀ w₁, RelyP p Γ w w₁ → ∀ s, Sh p s w₁ → Poss p.n .cr s → (s.sm = 0 → stepG P main g w₁ = .go { g with status := .blocked } w₁ #[]) ∧
     (s.sm = 1 → ∃ g' w', stepG P main g w₁ = .go g' w' (semEvents (smA p.Wg)) ∧ Only p w₁ w' ∧ Sh p ⟨0, 0, 0, false⟩ w' ∧ K main ⟨Γ.own, Γ.rd, Γ.deaf, .cs⟩ g' w'))
 | spawnW (hs : g.status = .running) (hm : main = true) (j : Nat) (hl : Γ.lo = .spawn j true) (hd : Γ.deaf = 0) (h : ∀ w₁, RelyP p Γ w w₁ → ∃ (X : Blks) (g' ch : Goroutine), (∀ b, X b → Γ.own b) ∧ stepG P true g w₁ = .spawn g' ch w₁ #[] ∧
     K true ⟨fun b => Γ.own b ∧ ¬ X b, fun b => Γ.rd b ∨ X b, 0, .spawn (j + 1) false⟩ g' w₁ ∧ K false ⟨no, fun b => Γ.rd b ∨ X b, 0, .wk j⟩ ch w₁)
 | spawnC (hs : g.status = .running) (hm : main = true) (hl : Γ.lo = .spawn p.n false) (hd : Γ.deaf = 0) (h : ∀ w₁, RelyP p Γ w w₁ → ∃ (X : Blks) (g' ch : Goroutine), (∀ b, X b → Γ.own b) ∧ stepG P true g w₁ = .spawn g' ch w₁ #[] ∧
     K true ⟨fun b => Γ.own b ∧ ¬ X b, fun b => Γ.rd b ∨ X b, 0, .recv []⟩ g' w₁ ∧ K false ⟨no, fun b => Γ.rd b ∨ X b, 0, .cw p.n⟩ ch w₁)
 | send (hs : g.status = .running) (hm : main = false) (k : Nat) (hl : Γ.lo = .wk k) (hd : Γ.deaf = 0) (g₁ : Goroutine) (v z : Value) (M : Imm) (hM : ∀ b, M b ≠ none → Γ.own b ∨ Γ.rd b) (hh : Holds M w) (ht : p.Tell k M v)
     (h : ∀ w₁, RelyP p Γ w w₁ → stepG P false g w₁ = .comm g₁ #[scase p.Ch v z] true .send w₁ #[]) (hk : ∀ w₁, WgLv p w₁ → K false ⟨no, no, 0, .told⟩ (Go.Conc.served g₁ undef) w₁)
 | recv (hm : main = true) (J : List Nat) (g₁ : Goroutine) (z : Value) (h : RecvN P p K Γ g w J g₁ z)
 | ret (hs : g.status = .running) (hm : main = true) (hl : Γ.lo = .fin) (h : ∀ w₁, RelyP p Γ w w₁ → ∃ v es, stepG P true g w₁ = .ended (.done v) w₁ es ∧ (∀ e, e ∈ es → EvOk Γ.own Γ.rd e) ∧ Pst v w₁)
 | quit (hm : main = false) (hl : Γ.lo = .out) (h : (g.status = .finished ∧ Γ.deaf = 0) ∨ (g.status = .running ∧ ∃ g' es, (∀ e, e ∈ es → Event.mute e = true) ∧ (∀ w₁, stepG P false g w₁ = .go g' w₁ es) ∧ K false ⟨Γ.own, Γ.rd, deafBehind Γ.deaf es, .out⟩ g' w))
section
variable {P : Program} {p : Pr} {Pst : Value → World → Prop} {K K' : Cont} {main : Bool} {Γ : Gam} {g : Goroutine} {w w₀ : World}
theorem RecvN.mono (h : ∀ m Γ g w, K m Γ g w → K' m Γ g w) {J : List Nat} {g₁ : Goroutine} {z : Value} (n : RecvN P p K Γ g w J g₁ z) : RecvN P p K' Γ g w J g₁ z :=
 ⟨n.hs, n.hl, n.hd, n.hg, n.h, fun k M v w₁ a b c d e f => h _ _ _ _ (n.hk k M v w₁ a b c d e f), fun w₁ a b => h _ _ _ _ (n.hc w₁ a b)⟩
theorem RecvN.rely {J : List Nat} {g₁ : Goroutine} {z : Value} (n : RecvN P p K Γ g w J g₁ z) (r : RelyP p Γ w w₀) : RecvN P p K Γ g w₀ J g₁ z :=
 ⟨n.hs, n.hl, n.hd, n.hg, fun w₁ h₁ => n.h w₁ (r.trans h₁), fun k M v w₁ a => n.hk k M v w₁ (r.trans a), fun w₁ a => n.hc w₁ (r.trans a)⟩
theorem Node.mono (h : ∀ m Γ g w, K m Γ g w → K' m Γ g w) (n : Node P p Pst K main Γ g w) : Node P p Pst K' main Γ g w := by
 cases n with
 | own hs hl hn => exact .own hs hl fun w₁ h₁ => let ⟨g', w', es, a, b, c, d⟩ := hn w₁ h₁; ⟨g', w', es, a, b, c, h _ _ _ _ d⟩
 | sync hs hl hn => exact .sync hs hl fun w₁ h₁ s hsh hp => let ⟨g', w', es, lo', s', a, b, c, d, e, f⟩ := hn w₁ h₁ s hsh hp; ⟨g', w', es, lo', s', a, b, c, d, e, h _ _ _ _ f⟩
 | wait hs ho hl hn => exact .wait hs ho hl fun w₁ h₁ s hsh hp => let ⟨a, b⟩ := hn w₁ h₁ s hsh hp; ⟨a, fun e => let ⟨g', w', c, d, f, k⟩ := b e; ⟨g', w', c, d, f, h _ _ _ _ k⟩⟩
 | spawnW hs hm j hl hd hn => exact .spawnW hs hm j hl hd fun w₁ h₁ => let ⟨X, g', ch, a, b, c, d⟩ := hn w₁ h₁; ⟨X, g', ch, a, b, h _ _ _ _ c, h _ _ _ _ d⟩
 | spawnC hs hm hl hd hn => exact .spawnC hs hm hl hd fun w₁ h₁ => let ⟨X, g', ch, a, b, c, d⟩ := hn w₁ h₁; ⟨X, g', ch, a, b, h _ _ _ _ c, h _ _ _ _ d⟩
 | send hs hm k hl hd g₁ v z M hM hh ht hn hk => exact .send hs hm k hl hd g₁ v z M hM hh ht hn fun w₁ h₁ => h _ _ _ _ (hk w₁ h₁)
 | recv hm J g₁ z hn => exact .recv hm J g₁ z (hn.mono h)
 | ret hs hm hl hn => exact .ret hs hm hl hn
 | quit hm hl hn => exact .quit hm hl (hn.imp id fun ⟨a, g', es, b, c, d⟩ => ⟨a, g', es, b, c, h _ _ _ _ d⟩)
theorem Node.rely (hK : ∀ m Γ g w w₁, K m Γ g w → RelyP p Γ w w₁ → K m Γ g w₁) (n : Node P p Pst K main Γ g w) (r : RelyP p Γ w w₀) : Node P p Pst K main Γ g w₀ := by
 cases n with
 | own hs hl hn => exact .own hs hl fun w₁ h₁ => hn w₁ (r.trans h₁)
 | sync hs hl hn => exact .sync hs hl fun w₁ h₁ => hn w₁ (r.trans h₁)
 | wait hs ho hl hn => exact .wait hs ho hl fun w₁ h₁ => hn w₁ (r.trans h₁)
 | spawnW hs hm j hl hd hn => exact .spawnW hs hm j hl hd fun w₁ h₁ => hn w₁ (r.trans h₁)
 | spawnC hs hm hl hd hn => exact .spawnC hs hm hl hd fun w₁ h₁ => hn w₁ (r.trans h₁)
 | send hs hm k hl hd g₁ v z M hM hh ht hn hk => exact .send hs hm k hl hd g₁ v z M hM (fun b o hb => by rw [r.ry.keep b (hM b (by rw [hb]; simp))]; exact hh b o hb) ht (fun w₁ h₁ => hn w₁ (r.trans h₁)) hk
 | recv hm J g₁ z hn => exact .recv hm J g₁ z (hn.rely r)
 | ret hs hm hl hn => exact .ret hs hm hl fun w₁ h₁ => hn w₁ (r.trans h₁)
 | quit hm hl hn => exact .quit hm hl (hn.imp id fun ⟨a, g', es, b, c, d⟩ => ⟨a, g', es, b, c, hK _ _ _ _ _ d ⟨⟨r.ry.same, r.ry.keep⟩, r.wg⟩⟩)
theorem Node.status (n : Node P p Pst K main Γ g w) : g.status = .running ∨ (g.status = .finished ∧ Γ.lo = .out ∧ Γ.deaf = 0) := by
 cases n with
 | own hs => exact .inl hs
 | sync hs => exact .inl hs
 | wait hs => exact .inl hs
 | spawnW hs => exact .inl hs
 | spawnC hs => exact .inl hs
 | send hs => exact .inl hs
 | recv _ _ _ _ h => exact .inl h.hs
 | ret hs => exact .inl hs
 | quit hm hl hn => exact hn.elim (fun x => .inr ⟨x.1, hl, x.2⟩) fun x => .inl x.1
end
/-! ### ranks -/
inductive Rank : Type 1
 | node (α : Type) (f : α → Rank) : Rank
inductive Rank.Lt : Rank → Rank → Prop
 | mk (α : Type) (f : α → Rank) (a : α) : Rank.Lt (f a) (.node α f)
theorem Rank.acc : ∀ r : Rank, Acc Rank.Lt r
 | .node α f => .intro _ fun y h => by cases h with | mk _ _ a => exact Rank.acc (f a)
theorem Rank.wf : WellFounded Rank.Lt := ⟨Rank.acc⟩
inductive Drop : List Rank → List Rank → Prop
 | head {r r' : Rank} {l : List Rank} : r'.Lt r → Drop (r' :: l) (r :: l)
 | tail {r : Rank} {l l' : List Rank} : Drop l' l → Drop (r :: l') (r :: l)
theorem Drop.acc_cons : ∀ (r : Rank), Acc Rank.Lt r → ∀ l, Acc Drop l → Acc Drop (r :: l) := by
 intro r hr
 induction hr with
 | intro r _ ih =>
   intro l hl
   induction hl with
   | intro l hl ih2 =>
     refine .intro _ fun y hy => ?_
     cases hy with
     | head h => exact ih _ h l (.intro l hl)
     | tail h => exact ih2 _ h
theorem Drop.acc : ∀ l, Acc Drop l
 | [] => .intro _ fun y hy => by cases hy
 | r :: l => Drop.acc_cons r r.acc l (Drop.acc l)
theorem Drop.wf : WellFounded Drop := ⟨Drop.acc⟩
def rks (ρ : Nat → Rank) : Nat → List Rank
 | 0 => []
 | m + 1 => ρ (m + 1) :: rks ρ m
theorem rks_congr {ρ ρ' : Nat → Rank} : ∀ {m : Nat}, (∀ i, 1 ≤ i → i ≤ m → ρ' i = ρ i) → rks ρ' m = rks ρ m
 | 0, _ => rfl
 | m + 1, h => by rw [rks, rks, h (m + 1) (by omega) (Nat.le_refl _), rks_congr fun i h1 h2 => h i h1 (by omega)]
theorem rks_drop {ρ : Nat → Rank} {i : Nat} {r : Rank} (h1 : 1 ≤ i) (hr : r.Lt (ρ i)) : ∀ {m : Nat}, i ≤ m → Drop (rks (up ρ i r) m) (rks ρ m)
 | 0, h => by omega
 | m + 1, h => by
   rw [rks, rks]
   by_cases e : i = m + 1
   · subst e
     rw [up_same, rks_congr fun j _ h2 => up_ne ρ r (by omega)]
     exact .head hr
   · rw [up_ne ρ r (fun x => e x.symm)]
     exact .tail (rks_drop h1 hr (by omega))
def nrun (gs : Array Goroutine) : Nat → Nat
 | 0 => 0
 | m + 1 => nrun gs m + if (gs[m]?).any (·.status == .running) then 1 else 0
theorem nrun_congr {gs gs' : Array Goroutine} : ∀ {m : Nat}, (∀ i, i < m → gs'[i]? = gs[i]?) → nrun gs' m = nrun gs m
 | 0, _ => rfl
 | m + 1, h => by rw [nrun, nrun, nrun_congr fun i hi => h i (by omega), h m (by omega)]
theorem nrun_lt {gs gs' : Array Goroutine} {i : Nat} {g g' : Goroutine} (hi : gs[i]? = some g) (hs : g.status = .running) (hi' : gs'[i]? = some g') (hs' : g'.status ≠ .running) : ∀ {m : Nat}, (∀ j, j < m → j ≠ i → gs'[j]? = gs[j]?) → i < m → nrun gs' m < nrun gs m
 | 0, _, h => by omega
 | m + 1, hj, h => by
   rw [nrun, nrun]
   by_cases e : i = m
   · subst e
     rw [nrun_congr fun j hj' => hj j (by omega) (by omega), hi, hi']
     simp [hs, hs']
   · have := nrun_lt hi hs hi' hs' (m := m) (fun j h1 h2 => hj j (by omega) h2) (by omega)
     rw [hj m (by omega) (fun x => e x.symm)]
     omega
section
variable (P : Program) (p : Pr) (Pst : Value → World → Prop)
def RunR : Rank → Cont
 | .node α f => fun main Γ g w => Node P p Pst (fun m Γ' g' w' => ∃ a, RunR (f a) m Γ' g' w') main Γ g w
def Run : Cont := fun main Γ g w => ∃ r, RunR P p Pst r main Γ g w
end
section
variable {P : Program} {p : Pr} {Pst : Value → World → Prop} {main : Bool} {Γ : Gam} {g : Goroutine} {w w₁ : World}
def Below (P : Program) (p : Pr) (Pst : Value → World → Prop) (r : Rank) : Cont := fun m Γ g w => ∃ r', r'.Lt r ∧ RunR P p Pst r' m Γ g w
theorem RunR.node {r : Rank} (h : RunR P p Pst r main Γ g w) : Node P p Pst (Below P p Pst r) main Γ g w := by
 cases r with
 | node α f => exact Node.mono (fun m Γ g w ⟨a, h⟩ => ⟨f a, .mk α f a, h⟩) h
theorem RunR.of_node {r : Rank} (h : Node P p Pst (Below P p Pst r) main Γ g w) : RunR P p Pst r main Γ g w := by
 cases r with
 | node α f => exact Node.mono (fun m Γ g w ⟨r', hl, h⟩ => by cases hl with | mk _ _ a => exact ⟨a, h⟩) h
theorem Below.rely {r : Rank} (hr : ∀ {r' : Rank} {m : Bool} {Γ : Gam} {g : Goroutine} {w w₁ : World}, RunR P p Pst r' m Γ g w → RelyP p Γ w w₁ → RunR P p Pst r' m Γ g w₁) (h : Below P p Pst r main Γ g w) (x : RelyP p Γ w w₁) : Below P p Pst r main Γ g w₁ := let ⟨r', a, b⟩ := h; ⟨r', a, hr b x⟩
theorem RunR.rely : ∀ {r : Rank} {main : Bool} {Γ : Gam} {g : Goroutine} {w w₁ : World}, RunR P p Pst r main Γ g w → RelyP p Γ w w₁ → RunR P p Pst r main Γ g w₁
 | .node α f, _, _, _, _, _, h, r => Node.rely (fun m Γ g w w₁ ⟨a, h⟩ r => ⟨a, RunR.rely h r⟩) h r
theorem Run.rely (h : Run P p Pst main Γ g w) (r : RelyP p Γ w w₁) : Run P p Pst main Γ g w₁ := let ⟨a, h⟩ := h; ⟨a, h.rely r⟩
theorem Run.intro (h : Node P p Pst (Run P p Pst) main Γ g w) : Run P p Pst main Γ g w := by
 let α : Type := { q : Bool × Gam × Goroutine × World // Run P p Pst q.1 q.2.1 q.2.2.1 q.2.2.2 }
 refine ⟨.node α fun a => Classical.choose a.2, Node.mono (fun m Γ g w h => ⟨⟨(m, Γ, g, w), h⟩, Classical.choose_spec h⟩) h⟩
theorem Run.status (h : Run P p Pst main Γ g w) : g.status = .running ∨ (g.status = .finished ∧ Γ.lo = .out ∧ Γ.deaf = 0) := let ⟨r, h⟩ := h; h.node.status
theorem RunR.quits : ∀ {r : Rank} {main : Bool} {Γ : Gam} {g : Goroutine} {w : World}, RunR P p Pst r main Γ g w → Γ.lo = .out → ∃ q, QuitsD P q Γ.deaf g
 | .node α f, main, Γ, g, w, h, hl => by
   have h' : Node P p Pst _ main Γ g w := h
   cases h' with
   | own _ x => exact absurd hl x
   | sync _ x => exact absurd hl x
   | wait _ _ x => rw [hl] at x; cases x
   | spawnW _ _ _ x => rw [hl] at x; cases x
   | spawnC _ _ x => rw [hl] at x; cases x
   | send _ _ _ x => rw [hl] at x; cases x
   | recv _ _ _ _ x => have := x.hl; rw [hl] at this; cases this
   | ret _ _ x => rw [hl] at x; cases x
   | quit hm _ hn =>
     rcases hn with ⟨a, b⟩ | ⟨a, g', es, b, c, ⟨i, d⟩⟩
     · exact ⟨0, a, b⟩
     · obtain ⟨q, hq⟩ := RunR.quits d rfl
       exact ⟨q + 1, .inr ⟨a, g', es, b, c, hq⟩⟩
theorem Run.of_quits {A B : Blks} : ∀ {q d : Nat} {g : Goroutine}, QuitsD P q d g → Run P p Pst false ⟨A, B, d, .out⟩ g w
 | 0, d, g, h => Run.intro (.quit rfl rfl (.inl h))
 | q + 1, d, g, h => Run.intro (.quit rfl rfl (h.imp id fun ⟨a, g', es, b, c, k⟩ => ⟨a, g', es, b, c, Run.of_quits k⟩))
end
end Go.Proofs.YtpdojmebloekgaaDoor.Nice.Co
namespace Go.Proofs.YtpdojmebloekgaaDoor.Nice.Co
open Go Go.Conc
open Go.ConcR (KK WgAt stA smA mk)
set_option linter.unusedVariables false
set_option linter.unusedSimpArgs false
def Lo.live : Lo → Nat
 | .wk _ | .told => 1
 | _ => 0
def cnt (lo : Nat → Lo) : Nat → Nat
 | 0 => 0
 | m + 1 => cnt lo m + (lo (m + 1)).live
theorem cnt_congr {lo lo' : Nat → Lo} : ∀ {m : Nat}, (∀ i, 1 ≤ i → i ≤ m → lo' i = lo i) → cnt lo' m = cnt lo m
 | 0, _ => rfl
 | m + 1, h => by rw [cnt, cnt, cnt_congr fun i a b => h i a (by omega), h (m + 1) (by omega) (Nat.le_refl _)]
theorem cnt_up (lo : Nat → Lo) {i : Nat} (x : Lo) (h1 : 1 ≤ i) : ∀ {m : Nat}, i ≤ m → cnt (up lo i x) m + (lo i).live = cnt lo m + x.live
 | 0, h => by omega
 | m + 1, h => by
   rw [cnt, cnt]
   by_cases e : i = m + 1
   · subst e
     rw [up_same, cnt_congr (lo := lo) fun j a b => up_ne lo x (by omega)]
     omega
   · rw [up_ne lo x (fun y => e y.symm)]
     have := cnt_up lo x h1 (m := m) (by omega)
     omega
theorem cnt_out (lo : Nat → Lo) {i : Nat} (x : Lo) {m : Nat} (h : m < i ∨ i = 0) : cnt (up lo i x) m = cnt lo m := cnt_congr (lo := lo) fun j a b => up_ne lo x (by omega)
theorem cnt_pos {lo : Nat → Lo} {i : Nat} (h1 : 1 ≤ i) (hl : (lo i).live = 1) : ∀ {m : Nat}, i ≤ m → 1 ≤ cnt lo m
 | 0, h => by omega
 | m + 1, h => by
   rw [cnt]
   by_cases e : i = m + 1
   · subst e; omega
   · have := cnt_pos h1 hl (m := m) (by omega)
     omega
theorem Lo.live_le (l : Lo) : l.live ≤ 1 := by cases l <;> simp [Lo.live]
theorem cnt_le (lo : Nat → Lo) : ∀ m, cnt lo m ≤ m
 | 0 => Nat.le_refl _
 | m + 1 => by rw [cnt]; have := cnt_le lo m; have := (lo (m + 1)).live_le; omega
theorem cnt_zero {lo : Nat → Lo} {m i : Nat} (h : cnt lo m = 0) (h1 : 1 ≤ i) (h2 : i ≤ m) : (lo i).live = 0 := by
 rcases Nat.lt_or_ge (lo i).live 1 with h' | h'
 · omega
 · have := cnt_pos (lo := lo) h1 (by have := (lo i).live_le; omega) h2
   omega
def Op (n : Nat) (lo : Nat → Lo) : Prop := ∀ i, 1 ≤ i → i ≤ n → lo i = .wk (i - 1) ∨ lo i = .told ∨ lo i = .out
def AllOut (n : Nat) (lo : Nat → Lo) : Prop := ∀ i, 1 ≤ i → i ≤ n → lo i = .out
theorem AllOut.cnt {n : Nat} {lo : Nat → Lo} (h : AllOut n lo) : cnt lo n = 0 := by
 have : ∀ m, m ≤ n → Co.cnt lo m = 0 := by
   intro m
   induction m with
   | zero => intro _; rfl
   | succ m ih => intro hm; rw [Co.cnt, ih (by omega), h (m + 1) (by omega) hm]; rfl
 exact this n (Nat.le_refl _)
theorem Op.allOut {n : Nat} {lo : Nat → Lo} (h : Op n lo) (h0 : cnt lo n = 0) : AllOut n lo := by
 intro i h1 h2
 have := cnt_zero h0 h1 h2
 rcases h i h1 h2 with e | e | e
 · rw [e] at this; simp [Lo.live] at this
 · rw [e] at this; simp [Lo.live] at this
 · exact e
inductive Md (n : Nat) (lo : Nat → Lo) (s : Sst) : Prop
 | opn (B : Nat) (h : lo (n + 1) = .cw B) (ho : Op n lo) (hB : cnt lo n ≤ B) (hs : s = ⟨cnt lo n, 0, 0, false⟩)
 | opc (B : Nat) (h : lo (n + 1) = .cc B) (ho : Op n lo) (hB : cnt lo n ≤ B) (hs : s = ⟨cnt lo n, 0, 0, false⟩)
 | reg (h : lo (n + 1) = .cr) (ho : Op n lo) (hB : 1 ≤ cnt lo n) (hs : s = ⟨cnt lo n, 1, 0, false⟩)
 | last (h : lo (n + 1) = .cr) (L : Nat) (h1 : 1 ≤ L) (h2 : L ≤ n) (hl : ((lo L = .l1 ∨ lo L = .l2) ∧ s = ⟨0, 1, 0, false⟩) ∨ (lo L = .l3 ∧ s = ⟨0, 0, 0, false⟩)) (ho : ∀ i, 1 ≤ i → i ≤ n → i ≠ L → lo i = .out)
 | sema (h : lo (n + 1) = .cr) (ho : AllOut n lo) (hs : s = ⟨0, 0, 1, false⟩)
 | done (h : lo (n + 1) = .cs) (ho : AllOut n lo) (hs : s = ⟨0, 0, 0, false⟩)
 | shut (h : lo (n + 1) = .out) (ho : AllOut n lo) (hs : s = ⟨0, 0, 0, true⟩)
def Wks (n : Nat) (lo : Nat → Lo) : Prop := ∀ i, 1 ≤ i → i ≤ n → lo i = .wk (i - 1) ∨ lo i = .told ∨ lo i = .l1 ∨ lo i = .l2 ∨ lo i = .l3 ∨ lo i = .out
def MainAt (n : Nat) (lo : Nat → Lo) (s : Sst) : Prop := (∃ J, lo 0 = .recv J ∧ ∀ k, k < n → (k ∈ J ↔ lo (k + 1) ≠ .wk k)) ∨ (lo 0 = .fin ∧ s.cl = true)
inductive Proto (p : Pr) (N : Nat) (lo : Nat → Lo) (s : Sst) : Prop
 | spawn (j : Nat) (q : Bool) (hN : N = j + 1) (h0 : lo 0 = .spawn j q) (hj : j + (if q then 1 else 0) ≤ p.n) (hw : ∀ i, 1 ≤ i → i ≤ j → lo i = .wk (i - 1)) (hs : s = ⟨j + (if q then 1 else 0), 0, 0, false⟩)
 | late (hN : N = p.n + 2) (hm : MainAt p.n lo s) (hw : Wks p.n lo) (md : Md p.n lo s)
theorem Md.wks {n : Nat} {lo : Nat → Lo} {s : Sst} (h : Md n lo s) : Wks n lo := by
 intro i h1 h2
 cases h with
 | opn B h ho => rcases ho i h1 h2 with e | e | e <;> simp [e]
 | opc B h ho => rcases ho i h1 h2 with e | e | e <;> simp [e]
 | reg h ho => rcases ho i h1 h2 with e | e | e <;> simp [e]
 | last h L _ _ hl ho =>
   by_cases e : i = L
   · subst e; rcases hl with ⟨hl | hl, _⟩ | ⟨hl, _⟩ <;> simp [hl]
   · simp [ho i h1 h2 e]
 | sema h ho => simp [ho i h1 h2]
 | done h ho => simp [ho i h1 h2]
 | shut h ho => simp [ho i h1 h2]
theorem up_self {α : Type} (f : Nat → α) (i : Nat) : up f i (f i) = f := by
 funext j
 by_cases e : j = i
 · subst e; rw [up_same]
 · rw [up_ne f _ e]
section
variable {p : Pr} {N : Nat} {lo : Nat → Lo} {s : Sst}
theorem Proto.main (h : Proto p N lo s) : (∃ j q, lo 0 = .spawn j q) ∨ (∃ J, lo 0 = .recv J) ∨ lo 0 = .fin := by
 cases h with
 | spawn j q _ h0 => exact .inl ⟨j, q, h0⟩
 | late _ hm => rcases hm with ⟨J, h, _⟩ | ⟨h, _⟩
                · exact .inr (.inl ⟨J, h⟩)
                · exact .inr (.inr h)
theorem Proto.who (h : Proto p N lo s) {i : Nat} (hi : i < N) : i = 0 ∨ (1 ≤ i ∧ i ≤ p.n ∧ (lo i = .wk (i - 1) ∨ (N = p.n + 2 ∧ (lo i = .told ∨ lo i = .l1 ∨ lo i = .l2 ∨ lo i = .l3 ∨ lo i = .out)))) ∨ (i = p.n + 1 ∧ N = p.n + 2 ∧ Md p.n lo s) := by
 cases h with
 | spawn j q hN h0 hj hw =>
   rcases Nat.eq_zero_or_pos i with e | e
   · exact .inl e
   · refine .inr (.inl ⟨e, ?_, .inl (hw i e (by omega))⟩)
     have : j ≤ p.n := Nat.le_trans (Nat.le_add_right _ _) hj
     omega
 | late hN hm hw md =>
   rcases Nat.eq_zero_or_pos i with e | e
   · exact .inl e
   · rcases Nat.lt_or_ge p.n i with h | h
     · exact .inr (.inr ⟨by omega, hN, md⟩)
     · refine .inr (.inl ⟨e, h, ?_⟩)
       rcases hw i e h with x | x
       · exact .inl x
       · exact .inr ⟨hN, x⟩
theorem Md.closer {n : Nat} (h : Md n lo s) : (∃ B, lo (n + 1) = .cw B) ∨ (∃ B, lo (n + 1) = .cc B) ∨ lo (n + 1) = .cr ∨ lo (n + 1) = .cs ∨ lo (n + 1) = .out := by
 cases h with
 | opn B h => exact .inl ⟨B, h⟩
 | opc B h => exact .inr (.inl ⟨B, h⟩)
 | reg h => simp [h]
 | last h => simp [h]
 | sema h => simp [h]
 | done h => simp [h]
 | shut h => simp [h]
theorem Proto.poss (h : Proto p N lo s) {i : Nat} (hi : i < N) : Poss p.n (lo i) s := by
 cases h with
 | spawn j q hN h0 hj hw hs =>
   rcases Nat.eq_zero_or_pos i with e | e
   · subst e; rw [h0]; exact hs
   · rw [hw i e (by omega)]; trivial
 | late hN hm hw md =>
   have hc := cnt_le lo p.n
   rcases Nat.eq_zero_or_pos i with e | e
   · subst e
     rcases hm with ⟨J, h, _⟩ | ⟨h, _⟩ <;> rw [h] <;> trivial
   · rcases Nat.lt_or_ge p.n i with hgt | hle
     · obtain rfl : i = p.n + 1 := by omega
       cases md with
       | opn B h ho hB hs => rw [h, hs]; exact ⟨hB, rfl, rfl, rfl⟩
       | opc B h ho hB hs => rw [h, hs]; exact ⟨hB, rfl, rfl, rfl⟩
       | reg h ho hB hs => rw [h, hs]; exact ⟨rfl, .inl ⟨rfl, rfl⟩⟩
       | last h L _ _ hl => rw [h]; rcases hl with ⟨_, hs⟩ | ⟨_, hs⟩ <;> rw [hs]
                            · exact ⟨rfl, .inl ⟨rfl, rfl⟩⟩
                            · exact ⟨rfl, .inr ⟨rfl, rfl, Nat.zero_le _⟩⟩
       | sema h ho hs => rw [h, hs]; exact ⟨rfl, .inr ⟨rfl, rfl, Nat.le_refl _⟩⟩
       | done h ho hs => rw [h, hs]; rfl
       | shut h => rw [h]; trivial
     · have hlast : ∀ x, lo i = x → x ≠ .out → (∀ k, x ≠ .wk k) → x ≠ .told → ((x = .l1 ∨ x = .l2) ∧ s = ⟨0, 1, 0, false⟩) ∨ (x = .l3 ∧ s = ⟨0, 0, 0, false⟩) := by
         intro x hx n1 n2 n3
         cases md with
         | opn B h ho => rcases ho i e hle with a | a | a <;> rw [hx] at a
                         · exact absurd a (n2 _)
                         · exact absurd a n3
                         · exact absurd a n1
         | opc B h ho => rcases ho i e hle with a | a | a <;> rw [hx] at a
                         · exact absurd a (n2 _)
                         · exact absurd a n3
                         · exact absurd a n1
         | reg h ho => rcases ho i e hle with a | a | a <;> rw [hx] at a
                       · exact absurd a (n2 _)
                       · exact absurd a n3
                       · exact absurd a n1
         | last h L _ _ hl ho =>
           by_cases eL : i = L
           · subst eL; rw [hx] at hl; exact hl
           · have := ho i e hle eL; rw [hx] at this; exact absurd this n1
         | sema h ho => have := ho i e hle; rw [hx] at this; exact absurd this n1
         | done h ho => have := ho i e hle; rw [hx] at this; exact absurd this n1
         | shut h ho => have := ho i e hle; rw [hx] at this; exact absurd this n1
       rcases hw i e hle with a | a | a | a | a | a
       · rw [a]; trivial
       · rw [a]
         have hp : 1 ≤ cnt lo p.n := cnt_pos e (by rw [a]; rfl) hle
         cases md with
         | opn B h ho hB hs => rw [hs]; exact ⟨hp, hc, by simp, rfl, rfl⟩
         | opc B h ho hB hs => rw [hs]; exact ⟨hp, hc, by simp, rfl, rfl⟩
         | reg h ho hB hs => rw [hs]; exact ⟨hp, hc, by simp, rfl, rfl⟩
         | last h L _ _ hl ho =>
           by_cases eL : i = L
           · subst eL; rcases hl with ⟨x | x, _⟩ | ⟨x, _⟩ <;> rw [a] at x <;> cases x
           · have := ho i e hle eL; rw [a] at this; cases this
         | sema h ho => have := ho i e hle; rw [a] at this; cases this
         | done h ho => have := ho i e hle; rw [a] at this; cases this
         | shut h ho => have := ho i e hle; rw [a] at this; cases this
       · rw [a]; rcases hlast _ a (by simp) (by simp) (by simp) with ⟨_, h⟩ | ⟨h, _⟩
         · exact h
         · cases h
       · rw [a]; rcases hlast _ a (by simp) (by simp) (by simp) with ⟨_, h⟩ | ⟨h, _⟩
         · exact h
         · cases h
       · rw [a]; rcases hlast _ a (by simp) (by simp) (by simp) with ⟨h | h, _⟩ | ⟨_, h⟩
         · cases h
         · cases h
         · exact h
       · rw [a]; trivial
end
end Go.Proofs.YtpdojmebloekgaaDoor.Nice.Co
namespace Go.Proofs.YtpdojmebloekgaaDoor.Nice.Co
open Go Go.Conc
open Go.ConcR (KK WgAt stA smA mk)
set_option linter.unusedVariables false
set_option linter.unusedSimpArgs false
section
variable {p : Pr} {N : Nat} {lo : Nat → Lo} {s s' : Sst} {i : Nat}
theorem MainAt.turn {n : Nat} (h : MainAt n lo s) (h1 : 1 ≤ i) {x : Lo} (a : ∀ k, lo i ≠ .wk k) (b : ∀ k, x ≠ .wk k) (hc : s.cl = true → s'.cl = true) : MainAt n (up lo i x) s' := by
 have e0 : up lo i x 0 = lo 0 := up_ne lo x (by omega)
 rcases h with ⟨J, hJ, hk⟩ | ⟨hf, hcl⟩
 · refine .inl ⟨J, by rw [e0]; exact hJ, fun k kn => ?_⟩
   by_cases e : k + 1 = i
   · subst e
     rw [up_same, hk k kn]
     exact ⟨fun _ => b k, fun _ => a k⟩
   · rw [up_ne lo x e]; exact hk k kn
 · exact .inr ⟨by rw [e0]; exact hf, hc hcl⟩
theorem Op.turn {n : Nat} (h : Op n lo) {x : Lo} (hx : x = .wk (i - 1) ∨ x = .told ∨ x = .out) : Op n (up lo i x) := by
 intro j j1 jn
 by_cases e : j = i
 · subst e; rw [up_same]; exact hx
 · rw [up_ne lo x e]; exact h j j1 jn
theorem Op.turn' {n : Nat} (h : Op n lo) {x : Lo} (hx : i = 0 ∨ n < i) : Op n (up lo i x) := by
 intro j j1 jn
 rw [up_ne lo x (by omega)]; exact h j j1 jn
theorem AllOut.turn {n : Nat} (h : AllOut n lo) {x : Lo} (hx : i = 0 ∨ n < i) : AllOut n (up lo i x) := by
 intro j j1 jn
 rw [up_ne lo x (by omega)]; exact h j j1 jn
theorem Proto.workers (h : Proto p N lo s) (hi : i < N) (hl : lo i = .told ∨ lo i = .l1 ∨ lo i = .l2 ∨ lo i = .l3) : 1 ≤ i ∧ i ≤ p.n ∧ N = p.n + 2 ∧ MainAt p.n lo s ∧ Md p.n lo s := by
 have hN : i ≠ 0 := by
   rintro rfl
   rcases h.main with ⟨j, q, e⟩ | ⟨J, e⟩ | e <;> rw [e] at hl <;> simp at hl
 cases h with
 | spawn j q hN' h0 hj hw => rw [hw i (by omega) (by omega)] at hl; simp at hl
 | late hN' hm hw md =>
   refine ⟨by omega, ?_, hN', hm, md⟩
   rcases Nat.lt_or_ge p.n i with h | h
   · obtain rfl : i = p.n + 1 := by omega
     rcases md.closer with ⟨B, e⟩ | ⟨B, e⟩ | e | e | e <;> rw [e] at hl <;> simp at hl
   · exact h
theorem Proto.closing (h : Proto p N lo s) (hi : i < N) (hl : (∃ B, lo i = .cw B) ∨ (∃ B, lo i = .cc B) ∨ lo i = .cr ∨ lo i = .cs) : i = p.n + 1 ∧ N = p.n + 2 ∧ MainAt p.n lo s ∧ Md p.n lo s := by
 have hN : i ≠ 0 := by
   rintro rfl
   rcases h.main with ⟨j, q, e⟩ | ⟨J, e⟩ | e <;> rw [e] at hl <;> simp at hl
 cases h with
 | spawn j q hN' h0 hj hw => rw [hw i (by omega) (by omega)] at hl; simp at hl
 | late hN' hm hw md =>
   refine ⟨?_, hN', hm, md⟩
   rcases Nat.lt_or_ge p.n i with h | h
   · omega
   · rcases hw i (by omega) h with e | e | e | e | e | e <;> rw [e] at hl <;> simp at hl
theorem Proto.of_late (hN : N = p.n + 2) (hm : MainAt p.n lo s) (md : Md p.n lo s) : Proto p N lo s := .late hN hm md.wks md
theorem Proto.tra {d : Nat} {es : Array Event} {l l' : Lo} (h : Proto p N lo s) (hi : i < N) (ht : Tra p d l s es l' s') (hl : lo i = l) : Proto p N (up lo i l') s' := by
 cases ht with
 | mark m _ => rw [← hl, up_self]; exact h
 | @add j hj =>
   cases h with
   | spawn j' q hN h0 hj' hw hs =>
     have e0 : i = 0 := by
       rcases Nat.eq_zero_or_pos i with e | e
       · exact e
       · rw [hw i e (by omega)] at hl; cases hl
     subst e0
     rw [h0] at hl; cases hl
     refine .spawn j true hN (up_same _ _ _) (by simp; omega) (fun a h1 h2 => by rw [up_ne _ _ (by omega)]; exact hw a h1 h2) rfl
   | late hN hm hw md =>
     exfalso
     rcases Nat.eq_zero_or_pos i with e | e
     · subst e; rcases hm with ⟨J, h, _⟩ | ⟨h, _⟩ <;> rw [hl] at h <;> cases h
     · rcases Nat.lt_or_ge p.n i with hgt | hle
       · obtain rfl : i = p.n + 1 := by omega
         rcases md.closer with ⟨B, e⟩ | ⟨B, e⟩ | e | e | e <;> rw [e] at hl <;> cases hl
       · rcases hw i e hle with e | e | e | e | e | e <;> rw [e] at hl <;> cases hl
 | saidR => rw [← hl, up_self]; exact h
 | @done v wt hd =>
   obtain ⟨h1, h2, hN, hm, md⟩ := h.workers hi (.inl hl)
   have hc := cnt_up lo (if v = 0 ∧ wt = 1 then Lo.l1 else .out) h1 h2
   have hlive : (lo i).live = 1 := by rw [hl]; rfl
   have hx0 : (if v = 0 ∧ wt = 1 then Lo.l1 else .out).live = 0 := by split <;> rfl
   have hm' : ∀ s', (s'.cl = false) → MainAt p.n (up lo i (if v = 0 ∧ wt = 1 then Lo.l1 else .out)) s' := fun s' hs' => hm.turn h1 (fun k => by rw [hl]; simp) (fun k => by split <;> simp) (by
     intro h; simp at h)
   have en : up lo i (if v = 0 ∧ wt = 1 then Lo.l1 else .out) (p.n + 1) = lo (p.n + 1) := up_ne _ _ (by omega)
   refine .of_late hN (hm' _ rfl) ?_
   cases md with
   | opn B hb ho hB hs =>
     have hv : v + 1 = cnt lo p.n ∧ wt = 0 := by simpa using hs
     obtain ⟨hv, rfl⟩ := hv
     simp only [Nat.zero_ne_one, and_false, if_false] at *
     exact .opn B (by rw [en]; exact hb) (ho.turn (.inr (.inr rfl))) (by omega) (by congr 1; omega)
   | opc B hb ho hB hs =>
     have hv : v + 1 = cnt lo p.n ∧ wt = 0 := by simpa using hs
     obtain ⟨hv, rfl⟩ := hv
     simp only [Nat.zero_ne_one, and_false, if_false] at *
     exact .opc B (by rw [en]; exact hb) (ho.turn (.inr (.inr rfl))) (by omega) (by congr 1; omega)
   | reg hb ho hB hs =>
     have hv : v + 1 = cnt lo p.n ∧ wt = 1 := by simpa using hs
     obtain ⟨hv, rfl⟩ := hv
     by_cases e0 : v = 0
     · subst e0
       simp only [eq_self, and_self, if_true] at *
       refine .last (by rw [en]; exact hb) i h1 h2 (.inl ⟨.inl (up_same _ _ _), rfl⟩) fun j j1 jn je => ?_
       rw [up_ne _ _ je]
       have hz := cnt_zero (lo := up lo i .l1) (m := p.n) (by have : Lo.l1.live = 0 := rfl; omega) j1 jn
       rw [up_ne _ _ je] at hz
       rcases ho j j1 jn with e | e | e
       · rw [e] at hz; simp [Lo.live] at hz
       · rw [e] at hz; simp [Lo.live] at hz
       · exact e
     · have e1 : 1 ≤ v := by omega
       simp only [e0, false_and, if_false] at *
       exact .reg (by rw [en]; exact hb) (ho.turn (.inr (.inr rfl))) (by omega) (by congr 1; omega)
   | last hb L _ _ hL ho =>
     by_cases e : i = L
     · subst e; rw [hl] at hL; simp at hL
     · have := ho i h1 h2 e; rw [hl] at this; cases this
   | sema hb ho => have := ho i h1 h2; rw [hl] at this; cases this
   | done hb ho => have := ho i h1 h2; rw [hl] at this; cases this
   | shut hb ho => have := ho i h1 h2; rw [hl] at this; cases this
 | ld1 hd =>
   obtain ⟨h1, h2, hN, hm, md⟩ := h.workers hi (.inr (.inl hl))
   refine .of_late hN (hm.turn h1 (fun k => by rw [hl]; simp) (fun k => by simp) (by intro h; simp at h)) ?_
   have en : up lo i .l2 (p.n + 1) = lo (p.n + 1) := up_ne _ _ (by omega)
   cases md with
   | last hb L _ _ hL ho =>
     obtain rfl : i = L := Classical.byContradiction fun e => by have := ho i h1 h2 e; rw [hl] at this; cases this
     exact .last (by rw [en]; exact hb) i h1 h2 (.inl ⟨.inr (up_same _ _ _), rfl⟩) fun j a b c => by rw [up_ne _ _ c]; exact ho j a b c
   | opn B hb ho => rcases ho i h1 h2 with e | e | e <;> rw [hl] at e <;> cases e
   | opc B hb ho => rcases ho i h1 h2 with e | e | e <;> rw [hl] at e <;> cases e
   | reg hb ho => rcases ho i h1 h2 with e | e | e <;> rw [hl] at e <;> cases e
   | sema hb ho => have := ho i h1 h2; rw [hl] at this; cases this
   | done hb ho => have := ho i h1 h2; rw [hl] at this; cases this
   | shut hb ho => have := ho i h1 h2; rw [hl] at this; cases this
 | st2 hd =>
   obtain ⟨h1, h2, hN, hm, md⟩ := h.workers hi (.inr (.inr (.inl hl)))
   refine .of_late hN (hm.turn h1 (fun k => by rw [hl]; simp) (fun k => by simp) (by intro h; simp at h)) ?_
   have en : up lo i .l3 (p.n + 1) = lo (p.n + 1) := up_ne _ _ (by omega)
   cases md with
   | last hb L _ _ hL ho =>
     obtain rfl : i = L := Classical.byContradiction fun e => by have := ho i h1 h2 e; rw [hl] at this; cases this
     exact .last (by rw [en]; exact hb) i h1 h2 (.inr ⟨up_same _ _ _, rfl⟩) fun j a b c => by rw [up_ne _ _ c]; exact ho j a b c
   | opn B hb ho => rcases ho i h1 h2 with e | e | e <;> rw [hl] at e <;> cases e
   | opc B hb ho => rcases ho i h1 h2 with e | e | e <;> rw [hl] at e <;> cases e
   | reg hb ho => rcases ho i h1 h2 with e | e | e <;> rw [hl] at e <;> cases e
   | sema hb ho => have := ho i h1 h2; rw [hl] at this; cases this
   | done hb ho => have := ho i h1 h2; rw [hl] at this; cases this
   | shut hb ho => have := ho i h1 h2; rw [hl] at this; cases this
 | rel hd =>
   obtain ⟨h1, h2, hN, hm, md⟩ := h.workers hi (.inr (.inr (.inr hl)))
   refine .of_late hN (hm.turn h1 (fun k => by rw [hl]; simp) (fun k => by simp) (by intro h; simp at h)) ?_
   have en : up lo i .out (p.n + 1) = lo (p.n + 1) := up_ne _ _ (by omega)
   cases md with
   | last hb L _ _ hL ho =>
     obtain rfl : i = L := Classical.byContradiction fun e => by have := ho i h1 h2 e; rw [hl] at this; cases this
     refine .sema (by rw [en]; exact hb) (fun j a b => ?_) rfl
     by_cases e : j = i
     · subst e; exact up_same _ _ _
     · rw [up_ne _ _ e]; exact ho j a b e
   | opn B hb ho => rcases ho i h1 h2 with e | e | e <;> rw [hl] at e <;> cases e
   | opc B hb ho => rcases ho i h1 h2 with e | e | e <;> rw [hl] at e <;> cases e
   | reg hb ho => rcases ho i h1 h2 with e | e | e <;> rw [hl] at e <;> cases e
   | sema hb ho => have := ho i h1 h2; rw [hl] at this; cases this
   | done hb ho => have := ho i h1 h2; rw [hl] at this; cases this
   | shut hb ho => have := ho i h1 h2; rw [hl] at this; cases this
 | @ld0 B =>
   obtain ⟨rfl, hN, hm, md⟩ := h.closing hi (.inl ⟨B, hl⟩)
   refine .of_late hN (hm.turn (by omega) (fun k => by rw [hl]; simp) (fun k => by simp) (by intro h; simp at h)) ?_
   cases md with
   | opn B' hb ho hB hs =>
     have hc : cnt lo p.n = 0 := by have := hs; simp at this; omega
     exact .done (up_same _ _ _) ((ho.allOut hc).turn (.inr (by omega))) rfl
   | _ => simp_all
 | @ldv B v hv hB =>
   obtain ⟨rfl, hN, hm, md⟩ := h.closing hi (.inl ⟨B, hl⟩)
   refine .of_late hN (hm.turn (by omega) (fun k => by rw [hl]; simp) (fun k => by simp) id) ?_
   have hc := cnt_out lo (.cc v) (i := p.n + 1) (m := p.n) (.inl (by omega))
   cases md with
   | opn B' hb ho hB hs =>
     have hv : v = cnt lo p.n := by simpa using hs
     exact .opc v (up_same _ _ _) (ho.turn' (.inr (by omega))) (by rw [hc]; omega) (by rw [hc, hv])
   | _ => simp_all
 | @cas v hv =>
   obtain ⟨rfl, hN, hm, md⟩ := h.closing hi (.inr (.inl ⟨v, hl⟩))
   refine .of_late hN (hm.turn (by omega) (fun k => by rw [hl]; simp) (fun k => by simp) (by intro h; simp at h)) ?_
   have hc := cnt_out lo .cr (i := p.n + 1) (m := p.n) (.inl (by omega))
   cases md with
   | opc B' hb ho hB hs =>
     have hv' : v = cnt lo p.n := by simpa using hs
     exact .reg (up_same _ _ _) (ho.turn' (.inr (by omega))) (by rw [hc]; omega) (by rw [hc, hv'])
   | _ => simp_all
 | @miss v v' hv =>
   obtain ⟨rfl, hN, hm, md⟩ := h.closing hi (.inr (.inl ⟨v, hl⟩))
   refine .of_late hN (hm.turn (by omega) (fun k => by rw [hl]; simp) (fun k => by simp) id) ?_
   have hc := cnt_out lo (.cw v') (i := p.n + 1) (m := p.n) (.inl (by omega))
   cases md with
   | opc B' hb ho hB hs =>
     have hv' : v' = cnt lo p.n := by simpa using hs
     exact .opn v' (up_same _ _ _) (ho.turn' (.inr (by omega))) (by rw [hc]; omega) (by rw [hc, hv'])
   | _ => simp_all
 | saidW => rw [← hl, up_self]; exact h
 | ld2 => rw [← hl, up_self]; exact h
 | close hd =>
   obtain ⟨rfl, hN, hm, md⟩ := h.closing hi (.inr (.inr (.inr hl)))
   refine .of_late hN (hm.turn (by omega) (fun k => by rw [hl]; simp) (fun k => by simp) (fun _ => rfl)) ?_
   cases md with
   | done hb ho hs => exact .shut (up_same _ _ _) (ho.turn (.inr (by omega))) rfl
   | _ => simp_all
theorem Proto.acq (h : Proto p N lo s) (hi : i < N) (hl : lo i = .cr) (h1 : s.sm = 1) : Proto p N (up lo i .cs) ⟨0, 0, 0, false⟩ := by
 obtain ⟨rfl, hN, hm, md⟩ := h.closing hi (.inr (.inr (.inl hl)))
 have hcl : s.cl = false := by
   have := h.poss hi
   rw [hl] at this
   exact this.1
 refine .of_late hN (hm.turn (by omega) (fun k => by rw [hl]; simp) (fun k => by simp) (by rw [hcl]; intro h; cases h)) ?_
 cases md with
 | sema hb ho hs => exact .done (up_same _ _ _) (ho.turn (.inr (by omega))) rfl
 | reg hb ho hB hs => rw [hs] at h1; cases h1
 | last hb L _ _ hL => rcases hL with ⟨_, hs⟩ | ⟨_, hs⟩ <;> rw [hs] at h1 <;> cases h1
 | opn B h => rw [h] at hl; cases hl
 | opc B h => rw [h] at hl; cases hl
 | done h => rw [h] at hl; cases hl
 | shut h => rw [h] at hl; cases hl
theorem Proto.tell (h : Proto p N lo s) (hi : i < N) {k : Nat} (hl : lo i = .wk k) {J : List Nat} (h0 : lo 0 = .recv J) : i = k + 1 ∧ k < p.n ∧ k ∉ J ∧ N = p.n + 2 ∧ s.cl = false ∧ Proto p N (up (up lo i .told) 0 (.recv (k :: J))) s := by
 have hne : i ≠ 0 := by rintro rfl; rw [h0] at hl; cases hl
 cases h with
 | spawn j q hN h0' => rw [h0'] at h0; cases h0
 | late hN hm hw md =>
   have hle : i ≤ p.n := by
     rcases Nat.lt_or_ge p.n i with hgt | hle
     · obtain rfl : i = p.n + 1 := by omega
       rcases md.closer with ⟨B, e⟩ | ⟨B, e⟩ | e | e | e <;> rw [e] at hl <;> cases hl
     · exact hle
   have hk : k = i - 1 := by
     rcases hw i (by omega) hle with e | e | e | e | e | e <;> rw [hl] at e <;> cases e
     rfl
   have hik : i = k + 1 := by omega
   rcases hm with ⟨J', hJ, hJk⟩ | ⟨hf, _⟩
   · rw [h0] at hJ; cases hJ
     have hkJ : k ∉ J := fun hm => (hJk k (by omega)).1 hm (by rw [← hik]; exact hl)
     have key : ∀ a, 1 ≤ a → up (up lo i .told) 0 (.recv (k :: J)) a = up lo i .told a := fun a ha => up_ne _ _ (by omega)
     have hlive : (lo i).live = 1 := by rw [hl]; rfl
     have hc : cnt (up (up lo i .told) 0 (.recv (k :: J))) p.n = cnt lo p.n := by
       rw [cnt_out _ _ (.inr rfl)]
       have := cnt_up lo .told (i := i) (by omega) hle
       simp only [Lo.live] at this hlive
       omega
     have hop : Op p.n lo → Op p.n (up (up lo i .told) 0 (.recv (k :: J))) := fun ho => (ho.turn (.inr (.inl rfl))).turn' (.inl rfl)
     have en : up (up lo i .told) 0 (.recv (k :: J)) (p.n + 1) = lo (p.n + 1) := by rw [key _ (by omega), up_ne _ _ (by omega)]
     have notout : ¬ AllOut p.n lo := fun ho => by have := ho i (by omega) hle; rw [hl] at this; cases this
     have hcl : s.cl = false := by
       cases md with
       | opn B hb ho hB hs => rw [hs]
       | opc B hb ho hB hs => rw [hs]
       | reg hb ho hB hs => rw [hs]
       | last hb L _ _ hL => rcases hL with ⟨_, hs⟩ | ⟨_, hs⟩ <;> rw [hs]
       | sema hb ho hs => rw [hs]
       | done hb ho hs => rw [hs]
       | shut hb ho hs => exact absurd ho notout
     refine ⟨hik, by omega, hkJ, hN, hcl, .of_late hN (.inl ⟨k :: J, up_same _ _ _, fun a ha => ?_⟩) ?_⟩
     · rw [key _ (by omega)]
       by_cases e : a = k
       · subst e; rw [← hik, up_same]; simp
       · rw [up_ne _ _ (by omega), ← hJk a ha, List.mem_cons]; simp [e]
     · cases md with
       | opn B hb ho hB hs => exact .opn B (by rw [en]; exact hb) (hop ho) (by rw [hc]; exact hB) (by rw [hc]; exact hs)
       | opc B hb ho hB hs => exact .opc B (by rw [en]; exact hb) (hop ho) (by rw [hc]; exact hB) (by rw [hc]; exact hs)
       | reg hb ho hB hs => exact .reg (by rw [en]; exact hb) (hop ho) (by rw [hc]; exact hB) (by rw [hc]; exact hs)
       | last hb L l1 l2 hL ho =>
         by_cases e : i = L
         · subst e; rw [hl] at hL; simp at hL
         · have := ho i (by omega) hle e; rw [hl] at this; cases this
       | sema hb ho => exact absurd ho notout
       | done hb ho => exact absurd ho notout
       | shut hb ho => exact absurd ho notout
   · rw [h0] at hf; cases hf
theorem Proto.ends (h : Proto p N lo s) {J : List Nat} (h0 : lo 0 = .recv J) (hcl : s.cl = true) : (∀ k, k < p.n → k ∈ J) ∧ N = p.n + 2 ∧ lo (p.n + 1) = .out ∧ Proto p N (up lo 0 .fin) s := by
 cases h with
 | spawn j q hN h0' => rw [h0'] at h0; cases h0
 | late hN hm hw md =>
   have hso : lo (p.n + 1) = .out ∧ AllOut p.n lo ∧ s = ⟨0, 0, 0, true⟩ := by
     cases md with
     | opn B hb ho hB hs => rw [hs] at hcl; cases hcl
     | opc B hb ho hB hs => rw [hs] at hcl; cases hcl
     | reg hb ho hB hs => rw [hs] at hcl; cases hcl
     | last hb L _ _ hL => rcases hL with ⟨_, hs⟩ | ⟨_, hs⟩ <;> rw [hs] at hcl <;> cases hcl
     | sema hb ho hs => rw [hs] at hcl; cases hcl
     | done hb ho hs => rw [hs] at hcl; cases hcl
     | shut hb ho hs => exact ⟨hb, ho, hs⟩
   obtain ⟨hb, ho, hs⟩ := hso
   rcases hm with ⟨J', hJ, hJk⟩ | ⟨hf, _⟩
   · rw [h0] at hJ; cases hJ
     refine ⟨fun k kn => (hJk k kn).2 (by rw [ho (k + 1) (by omega) (by omega)]; simp), hN, hb, .of_late hN (.inr ⟨up_same _ _ _, hcl⟩) (.shut (by rw [up_ne _ _ (by omega)]; exact hb) (ho.turn (.inl rfl)) hs)⟩
   · rw [h0] at hf; cases hf
theorem Proto.begins (h : Proto p N lo s) {j : Nat} (h0 : lo 0 = .spawn j true) : N = j + 1 ∧ j < p.n ∧ Proto p (N + 1) (up (up lo 0 (.spawn (j + 1) false)) N (.wk j)) s := by
 cases h with
 | spawn j' q hN h0' hj hw hs =>
   rw [h0'] at h0; cases h0
   simp only [if_true] at hj hs
   refine ⟨hN, by omega, .spawn (j + 1) false (by omega) ?_ (by simp; omega) (fun i h1 h2 => ?_) (by simpa using hs)⟩
   · rw [up_ne _ _ (by omega), up_same]
   · by_cases e : i = N
     · subst e; rw [up_same]; congr 1; omega
     · rw [up_ne _ _ e, up_ne _ _ (by omega)]; exact hw i h1 (by omega)
 | late hN hm => rcases hm with ⟨J, h, _⟩ | ⟨h, _⟩ <;> rw [h0] at h <;> cases h
theorem Proto.closes (h : Proto p N lo s) (h0 : lo 0 = .spawn p.n false) : N = p.n + 1 ∧ Proto p (N + 1) (up (up lo 0 (.recv [])) N (.cw p.n)) s := by
 cases h with
 | spawn j' q hN h0' hj hw hs =>
   rw [h0'] at h0; cases h0
   have hw' : ∀ i, 1 ≤ i → i ≤ p.n → up (up lo 0 (.recv [])) N (.cw p.n) i = .wk (i - 1) := fun i h1 h2 => by rw [up_ne _ _ (by omega), up_ne _ _ (by omega)]; exact hw i h1 h2
   have hcnt : ∀ m, m ≤ p.n → cnt (up (up lo 0 (.recv [])) N (.cw p.n)) m = m := by
     intro m
     induction m with
     | zero => intro _; rfl
     | succ m ih => intro hm; rw [cnt, ih (by omega), hw' (m + 1) (by omega) hm]; rfl
   have hc := hcnt p.n (Nat.le_refl _)
   refine ⟨hN, .of_late (by omega) (.inl ⟨[], ?_, fun k kn => ?_⟩) (.opn p.n ?_ (fun i h1 h2 => .inl (hw' i h1 h2)) (by omega) (by rw [hc]; simpa using hs))⟩
   · rw [up_ne _ _ (by omega), up_same]
   · rw [hw' (k + 1) (by omega) (by omega)]; simp
   · subst hN; exact up_same _ _ _
 | late hN hm => rcases hm with ⟨J, h, _⟩ | ⟨h, _⟩ <;> rw [h0] at h <;> cases h
end
end Go.Proofs.YtpdojmebloekgaaDoor.Nice.Co
