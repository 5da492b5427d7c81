/- The program encodes samples. -/
import Derived.Test.YtpdojmebloekgaaDoorZChunkPen
namespace Go.Proofs.YtpdojmebloekgaaDoor.Nice.Co
open Go
set_option linter.unusedVariables false
set_option linter.unusedSimpArgs false
set_option maxRecDepth 100000
set_option maxHeartbeats 4000000

structure Smp where
  t : Int
  v : Int
  deriving Inhabited, DecidableEq
def smpF (l : List Smp) : Nat → Nat → D := fun i c => match c with | 0 => .val (.int .i64 (l.getD i default).t) | 1 => .val (.int .i64 (l.getD i default).v) | _ => .any
def smpV (l : List Smp) : SV := .d (.vec 2 l.length (smpF l))
def smpS (s : Smp) : SV := .agg [SV.i s.t, SV.i s.v]
structure SmpIn (l : List Smp) : Prop where
  n : l.length ≤ 9223372036854775807
  t : ∀ k, inRange (l.getD k default).t
  v : ∀ k, inRange (l.getD k default).v
structure Lst where
  t : Int
  v : Int
  st : Int
  n : Int
def lstX (a : Lst) : List SV := [SV.i a.t, SV.i a.v, SV.i a.st, SV.i a.n]
def inB (x : Int) : Prop := -36028797018963968 ≤ x ∧ x < 36028797018963968
instance (x : Int) : Decidable (inB x) := inferInstanceAs (Decidable (_ ∧ _))
def lfault (a : Lst) (s : Smp) : Int := if inB s.t ∧ inB s.v then (if 0 < a.n ∧ s.t ≤ a.t then 9 else 0) else 11
def cT (a : Lst) (s : Smp) : Int := if a.n = 0 then s.t else s.t - a.t - a.st
def cV (a : Lst) (s : Smp) : Int := if a.n = 0 then s.v else s.v - a.v
def nxt (a : Lst) (s : Smp) : Lst := ⟨s.t, s.v, if 0 < a.n then s.t - a.t else a.st, a.n + 1⟩
structure LstIn (a : Lst) : Prop where
  t : inB a.t
  v : inB a.v
  st : -72057594037927936 ≤ a.st ∧ a.st ≤ 72057594037927936
  n : 0 ≤ a.n ∧ a.n ≤ 1000
def lstN (l : List Smp) : Nat → Lst
  | 0 => ⟨0, 0, 0, 0⟩
  | k + 1 => nxt (lstN l k) (l.getD k default)
def faultTo (l : List Smp) : Nat → Int
  | 0 => 0
  | k + 1 => if faultTo l k = 0 then lfault (lstN l k) (l.getD k default) else faultTo l k
def sfault (l : List Smp) : Int := if 120 < l.length then 1 else faultTo l l.length
def encL (l : List Smp) : Nat → List Int
  | 0 => [] ++ bitsOf 8 l.length
  | k + 1 => zput (zput (encL l k) (cT (lstN l k) (l.getD k default))) (cV (lstN l k) (l.getD k default))
def encB (l : List Smp) : List Int := pack (encL l l.length)
theorem lstN_n (l : List Smp) : ∀ k, (lstN l k).n = k
  | 0 => rfl
  | k + 1 => by show (lstN l k).n + 1 = _; rw [lstN_n l k]; omega
theorem lfault_zero {a : Lst} {s : Smp} (h : lfault a s = 0) : inB s.t ∧ inB s.v ∧ (0 < a.n → a.t < s.t) := by
  unfold lfault at h
  split at h
  · next hb =>
    split at h
    · cases h
    · next hn => exact ⟨hb.1, hb.2, fun h0 => by have : ¬ s.t ≤ a.t := fun e => hn ⟨h0, e⟩
                                                 omega⟩
  · cases h
theorem faultTo_down {l : List Smp} {k : Nat} (h : faultTo l (k + 1) = 0) : faultTo l k = 0 ∧ lfault (lstN l k) (l.getD k default) = 0 := by
  unfold faultTo at h
  split at h
  · next h0 => exact ⟨h0, h⟩
  · next h0 => exact absurd h h0
theorem faultTo_le {l : List Smp} {k n : Nat} (hk : k ≤ n) (h : faultTo l n = 0) : faultTo l k = 0 := by
  induction n with
  | zero => obtain rfl : k = 0 := by omega
            exact h
  | succ n ih =>
    rcases Nat.lt_or_ge n k with hlt | hge
    · obtain rfl : k = n + 1 := by omega
      exact h
    · exact ih hge (faultTo_down h).1
theorem faultTo_stay {l : List Smp} {k n : Nat} (hk : k ≤ n) (h : faultTo l k ≠ 0) : faultTo l n = faultTo l k := by
  induction n with
  | zero => obtain rfl : k = 0 := by omega
            rfl
  | succ n ih =>
    rcases Nat.lt_or_ge n k with hlt | hge
    · obtain rfl : k = n + 1 := by omega
      rfl
    · have := ih hge
      show (if faultTo l n = 0 then _ else faultTo l n) = _
      rw [if_neg (by rw [this]; exact h), this]
theorem faultTo_at {l : List Smp} {k n : Nat} (hk : k < n) (h0 : faultTo l k = 0) (h : lfault (lstN l k) (l.getD k default) ≠ 0) : faultTo l n = lfault (lstN l k) (l.getD k default) := by
  have e : faultTo l (k + 1) = lfault (lstN l k) (l.getD k default) := by show (if _ then _ else _) = _; rw [if_pos h0]
  rw [faultTo_stay (k := k + 1) hk (by rw [e]; exact h), e]
theorem faultTo_step {l : List Smp} {k : Nat} (h0 : faultTo l k = 0) (h : lfault (lstN l k) (l.getD k default) = 0) : faultTo l (k + 1) = 0 := by show (if _ then _ else _) = _; rw [if_pos h0, h]
theorem smp_at {l : List Smp} {k n : Nat} (h : faultTo l n = 0) (hk : k < n) : inB (l.getD k default).t ∧ inB (l.getD k default).v ∧ (0 < k → (lstN l k).t < (l.getD k default).t) := by
  have := lfault_zero (faultTo_down (faultTo_le (show k + 1 ≤ n from hk) h)).2
  rw [lstN_n] at this
  exact ⟨this.1, this.2.1, fun hk => this.2.2 (by omega)⟩
theorem lstN_t (l : List Smp) {k : Nat} (hk : 0 < k) : (lstN l k).t = (l.getD (k - 1) default).t ∧ (lstN l k).v = (l.getD (k - 1) default).v := by
  obtain ⟨j, rfl⟩ : ∃ j, k = j + 1 := ⟨k - 1, by omega⟩
  exact ⟨rfl, rfl⟩
theorem lstN_st (l : List Smp) (k : Nat) : (lstN l k).st = if 2 ≤ k then (l.getD (k - 1) default).t - (l.getD (k - 2) default).t else 0 := by
  match k with
  | 0 => rfl
  | 1 => rfl
  | k + 2 =>
    rw [if_pos (by omega)]
    show (if 0 < (lstN l (k + 1)).n then _ else _) = _
    rw [if_pos (by rw [lstN_n]; omega)]
    rfl
theorem lst_in {l : List Smp} {k : Nat} (h : faultTo l k = 0) (hk : k ≤ 1000) : LstIn (lstN l k) := by
  refine ⟨?_, ?_, ?_, by rw [lstN_n]; omega⟩
  · rcases Nat.eq_zero_or_pos k with rfl | h0
    · show inB 0; exact ⟨by decide, by decide⟩
    · rw [(lstN_t l h0).1]; exact (smp_at h (show k - 1 < k by omega)).1
  · rcases Nat.eq_zero_or_pos k with rfl | h0
    · show inB 0; exact ⟨by decide, by decide⟩
    · rw [(lstN_t l h0).2]; exact (smp_at h (show k - 1 < k by omega)).2.1
  · rw [lstN_st]
    split
    · next h2 =>
      obtain ⟨a1, a2⟩ := (smp_at h (show k - 1 < k by omega)).1
      obtain ⟨b1, b2⟩ := (smp_at h (show k - 2 < k by omega)).1
      omega
    · omega
theorem encL_bits (l : List Smp) : ∀ k, AllBits (encL l k)
  | 0 => allBits_nil.append (bitsOf_bits _ _)
  | k + 1 => zput_bits (zput_bits (encL_bits l k) _) _
theorem encL_len (l : List Smp) : ∀ k, (encL l k).length ≤ 8 + 240 * k
  | 0 => by show ([] ++ bitsOf 8 _).length ≤ _; rw [List.nil_append, bitsOf_length]; omega
  | k + 1 => by
    have h1 := zput_len (zput (encL l k) (cT (lstN l k) (l.getD k default))) (cV (lstN l k) (l.getD k default))
    have h2 := zput_len (encL l k) (cT (lstN l k) (l.getD k default))
    have h3 := encL_len l k
    show (zput (zput _ _) _).length ≤ _
    omega
theorem c_small {a : Lst} {s : Smp} (h : LstIn a) (ht : inB s.t) (hv : inB s.v) : isSm (cT a s) ∧ isSm (cV a s) := by
  obtain ⟨⟨h1, h2⟩, ⟨h3, h4⟩, ⟨h5, h6⟩, _⟩ := h
  obtain ⟨g1, g2⟩ := ht
  obtain ⟨g3, g4⟩ := hv
  unfold cT cV isSm
  constructor <;> split <;> omega

theorem fault_any (a : Lst) (s : Smp) : Spec Tryd.prog GC 31 [.ptr 0 0 0, smpS s] [.cells 69 4 (lstX a)] (fun r ho => r = SV.i (lfault a s) ∧ ho = [some (.cells 69 4 (lstX a))]) := by
  refine start 40 1 Tryd.func31 rfl rfl rfl rfl ?_
  refine r1 ?_
  refine s1 3 1 1 rfl rfl rfl rfl rfl rfl trivial ?_
  refine s1 4 9 2 rfl rfl rfl rfl rfl rfl trivial ?_
  refine e1 17 rfl ?_
  refine keep [0, 3] rfl ?_
  refine W_seq ?_
  refine W_block ?_
  refine r1 ?_
  refine s1 6 17 1 rfl rfl rfl rfl rfl rfl trivial ?_
  refine s1 7 25 2 rfl rfl rfl rfl rfl rfl (by first | trivial | omega) ?_
  refine s1 8 33 3 rfl rfl rfl rfl rfl rfl (by first | trivial | omega) ?_
  refine s1 9 41 4 rfl rfl rfl rfl rfl rfl trivial ?_
  refine ask 9 rfl (fun hg1_9 => ?_) (fun hg1_9 => ?_)
  · skip
    try simp only [cs, ne_eq] at hg1_9
    refine g0 3 false 9 10 5 rfl rfl rfl rfl rfl rfl ?_
    refine g0 3 false 9 11 6 rfl rfl rfl rfl rfl rfl ?_
    refine g0 3 false 9 12 7 rfl rfl rfl rfl rfl rfl ?_
    refine s1 13 73 8 rfl rfl rfl rfl rfl rfl trivial ?_
    refine s1 14 81 9 rfl rfl rfl rfl rfl rfl trivial ?_
    refine g0 8 false 14 15 10 rfl rfl rfl rfl rfl rfl ?_
    refine g0 8 false 14 16 11 rfl rfl rfl rfl rfl rfl ?_
    refine g0 8 false 14 17 12 rfl rfl rfl rfl rfl rfl ?_
    refine s1 18 113 13 rfl rfl rfl rfl rfl rfl trivial ?_
    refine s1 19 121 14 rfl rfl rfl rfl rfl rfl trivial ?_
    refine g0 13 false 19 20 15 rfl rfl rfl rfl rfl rfl ?_
    refine g0 13 false 19 21 16 rfl rfl rfl rfl rfl rfl ?_
    refine g0 13 false 19 22 17 rfl rfl rfl rfl rfl rfl ?_
    refine s1 23 153 18 rfl rfl rfl rfl rfl rfl trivial ?_
    refine s1 5 161 19 rfl rfl rfl rfl rfl rfl trivial ?_
    refine e1 169 rfl ?_
    refine keep [0, 3, 5] rfl ?_
    refine q1 rfl (fun hc1 => ?_) (fun hc1 => ?_)
    · skip
      try simp only [cs, ne_eq] at hc1
      refine r1 ?_
      refine s1 4 169 1 rfl rfl rfl rfl rfl rfl trivial ?_
      refine e1 177 rfl ?_
      refine keep [4] rfl ?_
      refine W_ret ?_
      refine br ?_
      refine tr ?_
      exact out1 4 (SV.i (lfault a s)) (π := [0]) (hout := [some (.cells 69 4 (lstX a))]) Tryd.results31 rfl (by unfold lfault inB; rw [if_neg (by rintro ⟨⟨h1, h2⟩, h3, h4⟩; omega)]; rfl) rfl rfl ⟨rfl, trivial⟩ ⟨rfl, rfl⟩
    · skip
      exact absurd hc1 (by decide)
  · skip
    try simp only [cs, ne_eq] at hg1_9
    refine g1 3 false 9 10 5 rfl rfl rfl rfl rfl ?_
    refine s1 10 49 5 rfl rfl rfl rfl rfl rfl trivial ?_
    refine g1 3 false 9 11 6 rfl rfl rfl rfl rfl ?_
    refine s1 11 57 6 rfl rfl rfl rfl rfl rfl (by first | trivial | omega) ?_
    refine g1 3 false 9 12 7 rfl rfl rfl rfl rfl ?_
    refine s1 12 65 7 rfl rfl rfl rfl rfl rfl (by first | trivial | omega) ?_
    refine s1 13 73 8 rfl rfl rfl rfl rfl rfl trivial ?_
    refine s1 14 81 9 rfl rfl rfl rfl rfl rfl trivial ?_
    refine ask 14 rfl (fun hg1_14 => ?_) (fun hg1_14 => ?_)
    · skip
      try simp only [cs, ne_eq] at hg1_14
      refine g0 8 false 14 15 10 rfl rfl rfl rfl rfl rfl ?_
      refine g0 8 false 14 16 11 rfl rfl rfl rfl rfl rfl ?_
      refine g0 8 false 14 17 12 rfl rfl rfl rfl rfl rfl ?_
      refine s1 18 113 13 rfl rfl rfl rfl rfl rfl trivial ?_
      refine s1 19 121 14 rfl rfl rfl rfl rfl rfl trivial ?_
      refine g0 13 false 19 20 15 rfl rfl rfl rfl rfl rfl ?_
      refine g0 13 false 19 21 16 rfl rfl rfl rfl rfl rfl ?_
      refine g0 13 false 19 22 17 rfl rfl rfl rfl rfl rfl ?_
      refine s1 23 153 18 rfl rfl rfl rfl rfl rfl trivial ?_
      refine s1 5 161 19 rfl rfl rfl rfl rfl rfl trivial ?_
      refine e1 169 rfl ?_
      refine keep [0, 3, 5] rfl ?_
      refine q1 rfl (fun hc1 => ?_) (fun hc1 => ?_)
      · skip
        try simp only [cs, ne_eq] at hc1
        refine r1 ?_
        refine s1 4 169 1 rfl rfl rfl rfl rfl rfl trivial ?_
        refine e1 177 rfl ?_
        refine keep [4] rfl ?_
        refine W_ret ?_
        refine br ?_
        refine tr ?_
        exact out1 4 (SV.i (lfault a s)) (π := [0]) (hout := [some (.cells 69 4 (lstX a))]) Tryd.results31 rfl (by unfold lfault inB; rw [if_neg (by rintro ⟨⟨h1, h2⟩, h3, h4⟩; omega)]; rfl) rfl rfl ⟨rfl, trivial⟩ ⟨rfl, rfl⟩
      · skip
        exact absurd hc1 (by decide)
    · skip
      try simp only [cs, ne_eq] at hg1_14
      refine g1 8 false 14 15 10 rfl rfl rfl rfl rfl ?_
      refine s1 15 89 10 rfl rfl rfl rfl rfl rfl trivial ?_
      refine g1 8 false 14 16 11 rfl rfl rfl rfl rfl ?_
      refine s1 16 97 11 rfl rfl rfl rfl rfl rfl (by first | trivial | omega) ?_
      refine g1 8 false 14 17 12 rfl rfl rfl rfl rfl ?_
      refine s1 17 105 12 rfl rfl rfl rfl rfl rfl (by first | trivial | omega) ?_
      refine s1 18 113 13 rfl rfl rfl rfl rfl rfl trivial ?_
      refine s1 19 121 14 rfl rfl rfl rfl rfl rfl trivial ?_
      refine ask 19 rfl (fun hg1_19 => ?_) (fun hg1_19 => ?_)
      · skip
        try simp only [cs, ne_eq] at hg1_19
        refine g0 13 false 19 20 15 rfl rfl rfl rfl rfl rfl ?_
        refine g0 13 false 19 21 16 rfl rfl rfl rfl rfl rfl ?_
        refine g0 13 false 19 22 17 rfl rfl rfl rfl rfl rfl ?_
        refine s1 23 153 18 rfl rfl rfl rfl rfl rfl trivial ?_
        refine s1 5 161 19 rfl rfl rfl rfl rfl rfl trivial ?_
        refine e1 169 rfl ?_
        refine keep [0, 3, 5] rfl ?_
        refine q1 rfl (fun hc1 => ?_) (fun hc1 => ?_)
        · skip
          try simp only [cs, ne_eq] at hc1
          refine r1 ?_
          refine s1 4 169 1 rfl rfl rfl rfl rfl rfl trivial ?_
          refine e1 177 rfl ?_
          refine keep [4] rfl ?_
          refine W_ret ?_
          refine br ?_
          refine tr ?_
          exact out1 4 (SV.i (lfault a s)) (π := [0]) (hout := [some (.cells 69 4 (lstX a))]) Tryd.results31 rfl (by unfold lfault inB; rw [if_neg (by rintro ⟨⟨h1, h2⟩, h3, h4⟩; omega)]; rfl) rfl rfl ⟨rfl, trivial⟩ ⟨rfl, rfl⟩
        · skip
          exact absurd hc1 (by decide)
      · skip
        try simp only [cs, ne_eq] at hg1_19
        refine g1 13 false 19 20 15 rfl rfl rfl rfl rfl ?_
        refine s1 20 129 15 rfl rfl rfl rfl rfl rfl trivial ?_
        refine g1 13 false 19 21 16 rfl rfl rfl rfl rfl ?_
        refine s1 21 137 16 rfl rfl rfl rfl rfl rfl (by first | trivial | omega) ?_
        refine g1 13 false 19 22 17 rfl rfl rfl rfl rfl ?_
        refine s1 22 145 17 rfl rfl rfl rfl rfl rfl (by first | trivial | omega) ?_
        refine s1 23 153 18 rfl rfl rfl rfl rfl rfl trivial ?_
        refine s1 5 161 19 rfl rfl rfl rfl rfl rfl trivial ?_
        refine e1 169 rfl ?_
        refine keep [0, 3, 5] rfl ?_
        refine q1 rfl (fun hc1 => ?_) (fun hc1 => ?_)
        · skip
          try simp only [cs, ne_eq] at hc1
          refine r1 ?_
          refine s1 4 169 1 rfl rfl rfl rfl rfl rfl trivial ?_
          refine e1 177 rfl ?_
          refine keep [4] rfl ?_
          refine W_ret ?_
          refine br ?_
          refine tr ?_
          exact out1 4 (SV.i (lfault a s)) (π := [0]) (hout := [some (.cells 69 4 (lstX a))]) Tryd.results31 rfl (by unfold lfault inB; rw [if_neg (by rintro ⟨⟨h1, h2⟩, h3, h4⟩; omega)]; rfl) rfl rfl ⟨rfl, trivial⟩ ⟨rfl, rfl⟩
        · skip
          try simp only [cs, ne_eq] at hc1
          refine rd1 rfl ?_
          refine d1 25 169 1 rfl rfl rfl rfl rfl rfl trivial ?_
          refine d1 26 177 2 rfl rfl rfl rfl rfl rfl trivial ?_
          refine d1 27 185 3 rfl rfl rfl rfl rfl rfl trivial ?_
          refine d1 28 193 4 rfl rfl rfl rfl rfl rfl (by first | trivial | omega) ?_
          refine d1 29 201 5 rfl rfl rfl rfl rfl rfl (by first | trivial | omega) ?_
          refine d1 30 209 6 rfl rfl rfl rfl rfl rfl trivial ?_
          refine ask 30 rfl (fun hg3_30 => ?_) (fun hg3_30 => ?_)
          · skip
            try simp only [cs, ne_eq] at hg3_30
            refine g1 5 true 30 31 7 rfl rfl rfl rfl rfl ?_
            refine d1 31 217 7 rfl rfl rfl rfl rfl rfl trivial ?_
            refine g1 5 true 30 32 8 rfl rfl rfl rfl rfl ?_
            refine d1 32 225 8 rfl rfl rfl rfl rfl rfl (by first | trivial | omega) ?_
            refine g1 5 true 30 33 9 rfl rfl rfl rfl rfl ?_
            refine d1 33 233 9 rfl rfl rfl rfl rfl rfl trivial ?_
            refine g1 5 true 30 34 10 rfl rfl rfl rfl rfl ?_
            refine d1 34 241 10 rfl rfl rfl rfl rfl rfl trivial ?_
            refine g1 5 true 30 35 11 rfl rfl rfl rfl rfl ?_
            refine d1 35 249 11 rfl rfl rfl rfl rfl rfl trivial ?_
            refine g1 5 true 30 36 12 rfl rfl rfl rfl rfl ?_
            refine d1 36 257 12 rfl rfl rfl rfl rfl rfl trivial ?_
            refine g1 5 true 30 37 13 rfl rfl rfl rfl rfl ?_
            refine d1 37 265 13 rfl rfl rfl rfl rfl rfl (by first | trivial | omega) ?_
            refine g1 5 true 30 38 14 rfl rfl rfl rfl rfl ?_
            refine d1 38 273 14 rfl rfl rfl rfl rfl rfl (by first | trivial | omega) ?_
            refine d1 39 281 15 rfl rfl rfl rfl rfl rfl trivial ?_
            refine d1 24 289 16 rfl rfl rfl rfl rfl rfl trivial ?_
            refine de1 297 rfl (by kernel_rfl) ?_
            refine keep [24] rfl ?_
            refine q1 rfl (fun hc3 => ?_) (fun hc3 => ?_)
            · skip
              try simp only [cs, ne_eq] at hc3
              refine r1 ?_
              refine s1 4 297 1 rfl rfl rfl rfl rfl rfl trivial ?_
              refine e1 305 rfl ?_
              refine keep [4] rfl ?_
              refine W_ret ?_
              refine br ?_
              refine tr ?_
              exact out1 4 (SV.i (lfault a s)) (π := [0]) (hout := [some (.cells 69 4 (lstX a))]) Tryd.results31 rfl (by unfold lfault inB; rw [if_pos ⟨⟨by omega, by omega⟩, by omega, by omega⟩, if_pos ⟨by omega, by omega⟩]; rfl) rfl rfl ⟨rfl, trivial⟩ ⟨rfl, rfl⟩
            · skip
              try simp only [cs, ne_eq] at hc3
              refine W_skip ?_
              refine bn ?_
              refine tn ?_
              refine r1 ?_
              refine s1 4 297 1 rfl rfl rfl rfl rfl rfl trivial ?_
              refine e1 305 rfl ?_
              refine keep [4] rfl ?_
              refine W_ret ?_
              exact out1 4 (SV.i (lfault a s)) (π := [0]) (hout := [some (.cells 69 4 (lstX a))]) Tryd.results31 rfl (by unfold lfault inB; rw [if_pos ⟨⟨by omega, by omega⟩, by omega, by omega⟩, if_neg (by rintro ⟨h1, h2⟩; omega)]; rfl) rfl rfl ⟨rfl, trivial⟩ ⟨rfl, rfl⟩
          · skip
            try simp only [cs, ne_eq] at hg3_30
            refine g0 5 true 30 31 7 rfl rfl rfl rfl rfl rfl ?_
            refine g0 5 true 30 32 8 rfl rfl rfl rfl rfl rfl ?_
            refine g0 5 true 30 33 9 rfl rfl rfl rfl rfl rfl ?_
            refine g0 5 true 30 34 10 rfl rfl rfl rfl rfl rfl ?_
            refine g0 5 true 30 35 11 rfl rfl rfl rfl rfl rfl ?_
            refine g0 5 true 30 36 12 rfl rfl rfl rfl rfl rfl ?_
            refine g0 5 true 30 37 13 rfl rfl rfl rfl rfl rfl ?_
            refine g0 5 true 30 38 14 rfl rfl rfl rfl rfl rfl ?_
            refine d1 39 281 15 rfl rfl rfl rfl rfl rfl trivial ?_
            refine d1 24 289 16 rfl rfl rfl rfl rfl rfl trivial ?_
            refine de1 297 rfl (by kernel_rfl) ?_
            refine keep [24] rfl ?_
            refine q1 rfl (fun hc3 => ?_) (fun hc3 => ?_)
            · skip
              exact absurd hc3 (by decide)
            · skip
              try simp only [cs, ne_eq] at hc3
              refine W_skip ?_
              refine bn ?_
              refine tn ?_
              refine r1 ?_
              refine s1 4 297 1 rfl rfl rfl rfl rfl rfl trivial ?_
              refine e1 305 rfl ?_
              refine keep [4] rfl ?_
              refine W_ret ?_
              exact out1 4 (SV.i (lfault a s)) (π := [0]) (hout := [some (.cells 69 4 (lstX a))]) Tryd.results31 rfl (by unfold lfault inB; rw [if_pos ⟨⟨by omega, by omega⟩, by omega, by omega⟩, if_neg (by rintro ⟨h1, h2⟩; omega)]; rfl) rfl rfl ⟨rfl, trivial⟩ ⟨rfl, rfl⟩

theorem codes_any (a : Lst) (s : Smp) (ha : LstIn a) (ht : inB s.t) (hv : inB s.v) : Spec Tryd.prog GC 32 [.ptr 0 0 0, smpS s] [.cells 69 4 (lstX a)] (fun r ho => r = SV.tup [SV.i (cT a s), SV.i (cV a s)] ∧ ho = [some (.cells 69 4 (lstX a))]) := by
  obtain ⟨⟨h1, h2⟩, ⟨h3, h4⟩, ⟨h5, h6⟩, h7, h8⟩ := ha
  obtain ⟨g1, g2⟩ := ht
  obtain ⟨g3, g4⟩ := hv
  refine start 36 1 Tryd.func32 rfl rfl rfl rfl ?_
  refine r1 ?_
  refine s1 3 1 1 rfl rfl rfl rfl rfl rfl trivial ?_
  refine s1 4 9 2 rfl rfl rfl rfl rfl rfl trivial ?_
  refine s1 5 17 3 rfl rfl rfl rfl rfl rfl trivial ?_
  refine e1 25 rfl ?_
  refine keep [0, 3] rfl ?_
  refine W_seq ?_
  refine r1 ?_
  refine s1 6 25 1 rfl rfl rfl rfl rfl rfl trivial ?_
  refine s1 7 33 2 rfl rfl rfl rfl rfl rfl trivial ?_
  refine s1 8 41 3 rfl rfl rfl rfl rfl rfl trivial ?_
  refine s1 9 49 4 rfl rfl rfl rfl rfl rfl (by first | trivial | omega) ?_
  refine s1 10 57 5 rfl rfl rfl rfl rfl rfl (by first | trivial | omega) ?_
  refine e1 65 rfl ?_
  refine keep [0, 3, 10] rfl ?_
  refine q1 rfl (fun hc1 => ?_) (fun hc1 => ?_)
  · skip
    try simp only [cs, ne_eq] at hc1
    refine rd1 rfl ?_
    refine d1 11 65 1 rfl rfl rfl rfl rfl rfl trivial ?_
    refine d1 12 73 2 rfl rfl rfl rfl rfl rfl (by first | trivial | omega) ?_
    refine d1 13 81 3 rfl rfl rfl rfl rfl rfl trivial ?_
    refine d1 14 89 4 rfl rfl rfl rfl rfl rfl (by first | trivial | omega) ?_
    refine d1 4 97 5 rfl rfl rfl rfl rfl rfl trivial ?_
    refine d1 5 105 6 rfl rfl rfl rfl rfl rfl trivial ?_
    refine de1 113 rfl (by kernel_rfl) ?_
    refine keep [4, 5] rfl ?_
    refine W_ret ?_
    refine tr ?_
    exact out2 4 5 (SV.i (cT a s)) (SV.i (cV a s)) (π := [0]) (hout := [some (.cells 69 4 (lstX a))]) Tryd.results32 rfl rfl (by unfold cT; rw [if_pos (by omega)]; rfl) (by unfold cV; rw [if_pos (by omega)]; rfl) rfl rfl ⟨rfl, trivial⟩ ⟨rfl, rfl⟩
  · skip
    try simp only [cs, ne_eq] at hc1
    refine W_skip ?_
    refine tn ?_
    refine rd1 rfl ?_
    refine d1 15 65 1 rfl rfl rfl rfl rfl rfl trivial ?_
    refine d1 16 73 2 rfl rfl rfl rfl rfl rfl (by first | trivial | omega) ?_
    refine d1 17 81 3 rfl rfl rfl rfl rfl rfl trivial ?_
    refine d1 18 89 4 rfl rfl rfl rfl rfl rfl trivial ?_
    refine d1 19 97 5 rfl rfl rfl rfl rfl rfl trivial ?_
    refine d1 20 105 6 rfl rfl rfl rfl rfl rfl trivial ?_
    refine d1 21 113 7 rfl rfl rfl rfl rfl rfl (by first | trivial | omega) ?_
    refine dA 22 121 8 rfl rfl rfl rfl rfl rfl rfl rfl rfl (by unfold inRange; omega) ?_
    refine d1 23 129 9 rfl rfl rfl rfl rfl rfl trivial ?_
    refine d1 24 137 10 rfl rfl rfl rfl rfl rfl trivial ?_
    refine d1 25 145 11 rfl rfl rfl rfl rfl rfl trivial ?_
    refine d1 26 153 12 rfl rfl rfl rfl rfl rfl (by first | trivial | omega) ?_
    refine dA 27 161 13 rfl rfl rfl rfl rfl rfl rfl rfl rfl (by unfold inRange; omega) ?_
    refine d1 28 169 14 rfl rfl rfl rfl rfl rfl trivial ?_
    refine d1 29 177 15 rfl rfl rfl rfl rfl rfl (by first | trivial | omega) ?_
    refine d1 30 185 16 rfl rfl rfl rfl rfl rfl trivial ?_
    refine d1 31 193 17 rfl rfl rfl rfl rfl rfl trivial ?_
    refine d1 32 201 18 rfl rfl rfl rfl rfl rfl trivial ?_
    refine d1 33 209 19 rfl rfl rfl rfl rfl rfl trivial ?_
    refine d1 34 217 20 rfl rfl rfl rfl rfl rfl (by first | trivial | omega) ?_
    refine dA 35 225 21 rfl rfl rfl rfl rfl rfl rfl rfl rfl (by unfold inRange; omega) ?_
    refine d1 4 233 22 rfl rfl rfl rfl rfl rfl trivial ?_
    refine d1 5 241 23 rfl rfl rfl rfl rfl rfl trivial ?_
    refine de1 249 rfl (by kernel_rfl) ?_
    refine keep [4, 5] rfl ?_
    refine W_ret ?_
    exact out2 4 5 (SV.i (cT a s)) (SV.i (cV a s)) (π := [0]) (hout := [some (.cells 69 4 (lstX a))]) Tryd.results32 rfl rfl (by unfold cT; rw [if_neg (by omega)]; rfl) (by unfold cV; rw [if_neg (by omega)]; rfl) rfl rfl ⟨rfl, trivial⟩ ⟨rfl, rfl⟩

theorem next_any (a : Lst) (s : Smp) (ha : LstIn a) (ht : inB s.t) (hv : inB s.v) : Spec Tryd.prog GC 34 [.ptr 0 0 0, smpS s] [.cells 69 4 (lstX a)] (fun r ho => r = SV.tup [] ∧ ho = [some (.cells 69 4 (lstX (nxt a s)))]) := by
  obtain ⟨⟨h1, h2⟩, ⟨h3, h4⟩, ⟨h5, h6⟩, h7, h8⟩ := ha
  obtain ⟨g1, g2⟩ := ht
  obtain ⟨g3, g4⟩ := hv
  refine start 31 1 Tryd.func34 rfl rfl rfl rfl ?_
  refine r1 ?_
  refine s1 3 1 1 rfl rfl rfl rfl rfl rfl trivial ?_
  refine e1 9 rfl ?_
  refine keep [0, 3] rfl ?_
  refine W_seq ?_
  refine r1 ?_
  refine s1 4 9 1 rfl rfl rfl rfl rfl rfl trivial ?_
  refine s1 5 17 2 rfl rfl rfl rfl rfl rfl trivial ?_
  refine s1 6 25 3 rfl rfl rfl rfl rfl rfl trivial ?_
  refine s1 7 33 4 rfl rfl rfl rfl rfl rfl (by first | trivial | omega) ?_
  refine s1 8 41 5 rfl rfl rfl rfl rfl rfl (by first | trivial | omega) ?_
  refine e1 49 rfl ?_
  refine keep [0, 3, 8] rfl ?_
  refine q1 rfl (fun hc1 => ?_) (fun hc1 => ?_)
  · skip
    try simp only [cs, ne_eq] at hc1
    refine rd0 rfl ?_
    refine d1 9 49 1 rfl rfl rfl rfl rfl rfl trivial ?_
    refine d1 10 57 2 rfl rfl rfl rfl rfl rfl trivial ?_
    refine d1 11 65 3 rfl rfl rfl rfl rfl rfl (by first | trivial | omega) ?_
    refine d1 12 73 4 rfl rfl rfl rfl rfl rfl trivial ?_
    refine d1 13 81 5 rfl rfl rfl rfl rfl rfl trivial ?_
    refine d1 14 89 6 rfl rfl rfl rfl rfl rfl trivial ?_
    refine d1 15 97 7 rfl rfl rfl rfl rfl rfl trivial ?_
    refine d1 16 105 8 rfl rfl rfl rfl rfl rfl (by first | trivial | omega) ?_
    refine dA 17 113 9 rfl rfl rfl rfl rfl rfl rfl rfl rfl (by unfold inRange; omega) ?_
    refine d1 18 121 10 rfl rfl rfl rfl rfl rfl trivial ?_
    refine d1 19 129 11 rfl rfl rfl rfl rfl rfl trivial ?_
    refine d0 137 12 rfl rfl rfl rfl rfl (by first | trivial | omega) ?_
    refine de1 145 rfl (by kernel_rfl) ?_
    refine tn ?_
    refine r1 ?_
    refine s1 20 145 1 rfl rfl rfl rfl rfl rfl trivial ?_
    refine s1 21 153 2 rfl rfl rfl rfl rfl rfl (by first | trivial | omega) ?_
    refine s1 22 161 3 rfl rfl rfl rfl rfl rfl trivial ?_
    refine s1 23 169 4 rfl rfl rfl rfl rfl rfl trivial ?_
    refine s0 177 5 rfl rfl rfl rfl rfl (by first | trivial | omega) ?_
    refine e1 185 rfl ?_
    refine keep [0] rfl ?_
    refine r0 ?_
    refine s1 24 185 1 rfl rfl rfl rfl rfl rfl trivial ?_
    refine s1 25 193 2 rfl rfl rfl rfl rfl rfl trivial ?_
    refine s1 26 201 3 rfl rfl rfl rfl rfl rfl trivial ?_
    refine s1 27 209 4 rfl rfl rfl rfl rfl rfl (by first | trivial | omega) ?_
    refine sA 28 217 5 rfl rfl rfl rfl rfl rfl rfl rfl rfl (by unfold inRange; omega) ?_
    refine s1 29 225 6 rfl rfl rfl rfl rfl rfl trivial ?_
    refine s1 30 233 7 rfl rfl rfl rfl rfl rfl trivial ?_
    refine s0 241 8 rfl rfl rfl rfl rfl (by first | trivial | omega) ?_
    refine e1 249 rfl ?_
    exact out0 (π := [0]) (hout := [some (.cells 69 4 (lstX (nxt a s)))]) Tryd.results34 rfl rfl ⟨(by show some (Blk.cells _ _ _) = some (Blk.cells _ _ _); unfold nxt lstX; rw [if_pos (by omega)]; rfl), trivial⟩ ⟨rfl, rfl⟩
  · skip
    try simp only [cs, ne_eq] at hc1
    refine W_skip ?_
    refine tn ?_
    refine r1 ?_
    refine s1 20 49 1 rfl rfl rfl rfl rfl rfl trivial ?_
    refine s1 21 57 2 rfl rfl rfl rfl rfl rfl (by first | trivial | omega) ?_
    refine s1 22 65 3 rfl rfl rfl rfl rfl rfl trivial ?_
    refine s1 23 73 4 rfl rfl rfl rfl rfl rfl trivial ?_
    refine s0 81 5 rfl rfl rfl rfl rfl (by first | trivial | omega) ?_
    refine e1 89 rfl ?_
    refine keep [0] rfl ?_
    refine r0 ?_
    refine s1 24 89 1 rfl rfl rfl rfl rfl rfl trivial ?_
    refine s1 25 97 2 rfl rfl rfl rfl rfl rfl trivial ?_
    refine s1 26 105 3 rfl rfl rfl rfl rfl rfl trivial ?_
    refine s1 27 113 4 rfl rfl rfl rfl rfl rfl (by first | trivial | omega) ?_
    refine sA 28 121 5 rfl rfl rfl rfl rfl rfl rfl rfl rfl (by unfold inRange; omega) ?_
    refine s1 29 129 6 rfl rfl rfl rfl rfl rfl trivial ?_
    refine s1 30 137 7 rfl rfl rfl rfl rfl rfl trivial ?_
    refine s0 145 8 rfl rfl rfl rfl rfl (by first | trivial | omega) ?_
    refine e1 153 rfl ?_
    exact out0 (π := [0]) (hout := [some (.cells 69 4 (lstX (nxt a s)))]) Tryd.results34 rfl rfl ⟨(by show some (Blk.cells _ _ _) = some (Blk.cells _ _ _); unfold nxt lstX; rw [if_neg (by omega)]; rfl), trivial⟩ ⟨rfl, rfl⟩

theorem encode_ok (l : List Smp) (hin : SmpIn l) (hz : sfault l = 0) : Spec Tryd.prog GC 14 [smpV l] [] (fun r ho => r = SV.tup [.sl 0 0 (encB l).length, SV.i 0] ∧ ho = [some (.rows 5 1 (encB l).length (u8F (encB l)))]) := by
  refine start 41 0 Tryd.func14 rfl rfl rfl rfl ?_
  refine r1 ?_
  refine s1 2 0 1 rfl rfl rfl rfl rfl rfl trivial ?_
  refine s1 3 8 2 rfl rfl rfl rfl rfl rfl trivial ?_
  refine e1 16 rfl ?_
  refine keep [0] rfl ?_
  refine W_seq ?_
  refine r1 ?_
  refine s1 11 16 1 rfl rfl rfl rfl rfl rfl trivial ?_
  refine s1 12 24 2 rfl rfl rfl rfl rfl rfl (by first | trivial | omega) ?_
  refine s1 13 32 3 rfl rfl rfl rfl rfl rfl (by first | trivial | omega) ?_
  refine e1 40 rfl ?_
  refine keep [0, 13] rfl ?_
  refine q1 rfl (fun hc1 => ?_) (fun hc1 => ?_)
  · skip
    exfalso; unfold sfault at hz; rw [if_pos (by simp at hc1; omega)] at hz; cases hz
  · skip
    try simp only [cs, ne_eq] at hc1
    refine W_skip ?_
    refine tn ?_
    refine r1 ?_
    refine s1 4 40 1 rfl rfl rfl rfl rfl rfl trivial ?_
    refine e1 48 rfl ?_
    refine keep [0, 4] rfl ?_
    refine r1 ?_
    refine s1 5 48 1 rfl rfl rfl rfl rfl rfl trivial ?_
    refine e1 56 rfl ?_
    refine keep [0, 4, 5] rfl ?_
    refine cghostly 40 0 5 1 (u8F (pack [])) rfl rfl rfl ?_
    refine r1 ?_
    refine s1 14 64 1 rfl rfl rfl rfl rfl rfl trivial ?_
    refine s1 15 72 2 rfl rfl rfl rfl rfl rfl (by first | trivial | omega) ?_
    refine c1 (put_any [] allBits_nil (by decide) 8 l.length (by decide) ⟨by omega, by omega⟩) [40, 56] [40, 56, 80] 16 80 3 rfl rfl rfl rfl rfl rfl rfl rfl Tryd.func30 rfl rfl rfl rfl ⟨rfl, rfl, trivial⟩ rfl rfl ?_
    refine e1 88 rfl ?_
    refine keep [0, 4, 5] rfl ?_
    refine W_seq ?_
    refine r1 ?_
    refine s1 17 88 1 rfl rfl rfl rfl rfl rfl trivial ?_
    refine s1 18 96 2 rfl rfl rfl rfl rfl rfl (by first | trivial | omega) ?_
    refine s1 19 104 3 rfl rfl rfl rfl rfl rfl trivial ?_
    refine e1 112 rfl ?_
    refine keep [4, 5, 17, 18, 19] rfl ?_
    refine W_block ?_
    have hl := hin.n
    have hl2 : l.length ≤ 120 := (by omega)
    refine loop (α := Nat) 3 (fun k => [(4, .ptr 0 0 0), (5, .ptr 1 0 0), (17, smpV l), (18, SV.i l.length), (19, SV.i (k))]) (fun k => [some (.cells 65 2 [.sl 2 0 (pack (encL l (k))).length, SV.i (encL l (k)).length]), some (.cells 69 4 (lstX (lstN l (k)))), some (.rows 5 1 (pack (encL l (k))).length (u8F (pack (encL l (k)))))]) (fun k => (k) ≤ l.length ∧ faultTo l (k) = 0) (fun k => l.length - (k)) (((0) : Nat)) [40, 48, 80] (fun _ => rfl) (show (0) ≤ l.length ∧ faultTo l (0) = 0 from ⟨Nat.zero_le _, rfl⟩) rfl ⟨rfl, rfl, rfl, rfl, rfl, trivial⟩ ⟨rfl, rfl, rfl, trivial⟩ (fun k hx => ?_)
    show W _ _ _ ⟨tOf [(4, .ptr 0 0 0), (5, .ptr 1 0 0), (17, smpV l), (18, SV.i l.length), (19, SV.i k)], hOf [some (.cells 65 2 [.sl 2 0 (pack (encL l k)).length, SV.i (encL l k).length]), some (.cells 69 4 (lstX (lstN l k))), some (.rows 5 1 (pack (encL l k)).length (u8F (pack (encL l k))))], 3⟩
    have hx : k ≤ l.length ∧ faultTo l k = 0 := hx
    obtain ⟨hk, hf⟩ := hx
    have ha := lst_in hf (by omega)
    have hE := encL_bits l k
    have hEl := encL_len l k
    refine r1 ?_
    refine s1 20 3 1 rfl rfl rfl rfl rfl rfl (by first | trivial | omega) ?_
    refine e1 11 rfl ?_
    refine keep [4, 5, 17, 18, 19, 20] rfl ?_
    refine W_seq ?_
    refine q1 rfl (fun hc7 => ?_) (fun hc7 => ?_)
    · skip
      try simp only [cs, ne_eq] at hc7
      refine W_skip ?_
      refine tn ?_
      refine W_seq ?_
      refine W_block ?_
      refine r1 ?_
      refine s1 21 11 1 rfl rfl rfl rfl rfl rfl (by first | trivial | omega) ?_
      refine s1 22 19 2 rfl rfl rfl rfl rfl rfl (by first | trivial | omega) ?_
      refine val 22 (smpS (l.getD k default)) rfl (by first | rfl | (simp only [Nat.zero_add, Int.toNat_natCast]; rfl)) ?_
      refine s1 7 27 3 rfl rfl rfl rfl rfl rfl trivial ?_
      refine s0 35 4 rfl rfl rfl rfl rfl (by first | trivial | omega) ?_
      refine e1 43 rfl ?_
      refine keep [4, 5, 7, 17, 18, 19] rfl ?_
      refine W_seq ?_
      refine r1 ?_
      refine s1 23 43 1 rfl rfl rfl rfl rfl rfl (by first | trivial | omega) ?_
      refine c1 (fault_any (lstN l k) (l.getD k default)) [1] [1] 24 51 2 rfl rfl rfl rfl rfl rfl rfl rfl Tryd.func31 rfl rfl rfl rfl ⟨rfl, trivial⟩ rfl rfl ?_
      refine s1 8 59 3 rfl rfl rfl rfl rfl rfl trivial ?_
      refine e1 67 rfl ?_
      refine keep [4, 5, 7, 8, 17, 18, 19] rfl ?_
      refine r1 ?_
      refine s1 25 67 1 rfl rfl rfl rfl rfl rfl trivial ?_
      refine s1 26 75 2 rfl rfl rfl rfl rfl rfl (by first | trivial | omega) ?_
      refine e1 83 rfl ?_
      refine keep [4, 5, 7, 8, 17, 18, 19, 26] rfl ?_
      refine q1 rfl (fun hc10 => ?_) (fun hc10 => ?_)
      · skip
        exfalso; unfold sfault at hz; rw [if_neg (by omega)] at hz; have := (faultTo_down (faultTo_le (show k + 1 ≤ l.length by omega) hz)).2; simp at hc10; exact hc10 this
      · skip
        try simp only [cs, ne_eq] at hc10
        have hf1 : lfault (lstN l k) (l.getD k default) = 0 := (by first | exact hc10 | (simp at hc10; exact hc10))
        have hs := lfault_zero hf1
        have hc := c_small ha hs.1 hs.2.1
        refine W_skip ?_
        refine tn ?_
        refine r1 ?_
        refine s1 29 83 1 rfl rfl rfl rfl rfl rfl (by first | trivial | omega) ?_
        refine c1 (codes_any (lstN l k) (l.getD k default) ha hs.1 hs.2.1) [1] [1] 30 91 2 rfl rfl rfl rfl rfl rfl rfl rfl Tryd.func32 rfl rfl rfl rfl ⟨rfl, trivial⟩ rfl rfl ?_
        refine s1 28 99 3 rfl rfl rfl rfl rfl rfl trivial ?_
        refine s1 31 107 4 rfl rfl rfl rfl rfl rfl trivial ?_
        refine s1 32 115 5 rfl rfl rfl rfl rfl rfl trivial ?_
        refine s1 9 123 6 rfl rfl rfl rfl rfl rfl trivial ?_
        refine s1 10 131 7 rfl rfl rfl rfl rfl rfl trivial ?_
        refine e1 139 rfl ?_
        refine keep [4, 5, 7, 9, 10, 17, 18, 19] rfl ?_
        refine r1 ?_
        refine s1 33 139 1 rfl rfl rfl rfl rfl rfl trivial ?_
        refine c1 (zput_any (encL l k) hE (by omega) (cT (lstN l k) (l.getD k default)) hc.1) [0, 2] [0, 2, 147] 34 147 2 rfl rfl rfl rfl rfl rfl rfl rfl Tryd.func33 rfl rfl rfl rfl ⟨rfl, rfl, trivial⟩ rfl rfl ?_
        refine e1 155 rfl ?_
        refine keep [4, 5, 7, 10, 17, 18, 19] rfl ?_
        refine r1 ?_
        refine s1 35 155 1 rfl rfl rfl rfl rfl rfl trivial ?_
        refine c1 (zput_any (zput (encL l k) (cT (lstN l k) (l.getD k default))) (zput_bits hE _) (by have := zput_len (encL l k) (cT (lstN l k) (l.getD k default)); omega) (cV (lstN l k) (l.getD k default)) hc.2) [0, 147] [0, 147, 163] 36 163 2 rfl rfl rfl rfl rfl rfl rfl rfl Tryd.func33 rfl rfl rfl rfl ⟨rfl, rfl, trivial⟩ rfl rfl ?_
        refine e1 171 rfl ?_
        refine keep [4, 5, 7, 17, 18, 19] rfl ?_
        refine r0 ?_
        refine s1 37 171 1 rfl rfl rfl rfl rfl rfl (by first | trivial | omega) ?_
        refine c1 (next_any (lstN l k) (l.getD k default) ha hs.1 hs.2.1) [1] [1] 38 179 2 rfl rfl rfl rfl rfl rfl rfl rfl Tryd.func34 rfl rfl rfl rfl ⟨rfl, trivial⟩ rfl rfl ?_
        refine e1 187 rfl ?_
        refine bn ?_
        refine tn ?_
        refine r0 ?_
        refine sA 39 187 1 rfl rfl rfl rfl rfl rfl rfl rfl rfl (by unfold inRange; omega) ?_
        refine s1 19 195 2 rfl rfl rfl rfl rfl rfl trivial ?_
        refine e1 203 rfl ?_
        refine tn ?_
        exact again ((k + 1 : Nat)) [0, 1, 163] (show (k + 1) ≤ l.length ∧ faultTo l (k + 1) = 0 from ⟨by omega, faultTo_step hf hf1⟩) (show l.length - (k + 1) < l.length - k from (by omega)) rfl ⟨rfl, rfl, rfl, rfl, rfl, trivial⟩ ⟨rfl, rfl, rfl, trivial⟩
    · skip
      try simp only [cs, ne_eq] at hc7
      refine W_exit ?_
      refine tx ?_
      refine tx ?_
      refine bx ?_
      refine tn ?_
      refine r1 ?_
      refine c1 (bytes_any (encL l k)) [0, 2] [0, 2] 40 11 1 rfl rfl rfl rfl rfl rfl rfl rfl Tryd.func35 rfl rfl rfl rfl ⟨rfl, rfl, trivial⟩ rfl rfl ?_
      refine s1 2 19 2 rfl rfl rfl rfl rfl rfl trivial ?_
      refine s1 3 27 3 rfl rfl rfl rfl rfl rfl trivial ?_
      refine e1 35 rfl ?_
      refine keep [2, 3] rfl ?_
      refine W_ret ?_
      obtain rfl : k = l.length := (by omega)
      exact out2 2 3 (.sl 0 0 (encB l).length) (SV.i 0) (π := [2]) (hout := [some (.rows 5 1 (encB l).length (u8F (encB l)))]) Tryd.results14 rfl rfl rfl rfl rfl rfl ⟨rfl, trivial⟩ ⟨rfl, rfl⟩

theorem encode_bad (l : List Smp) (hin : SmpIn l) (hz : sfault l ≠ 0) : Spec Tryd.prog GC 14 [smpV l] [] (fun r ho => r = SV.tup [.d .nils, SV.i (sfault l)] ∧ ho = []) := by
  refine start 41 0 Tryd.func14 rfl rfl rfl rfl ?_
  refine r1 ?_
  refine s1 2 0 1 rfl rfl rfl rfl rfl rfl trivial ?_
  refine s1 3 8 2 rfl rfl rfl rfl rfl rfl trivial ?_
  refine e1 16 rfl ?_
  refine keep [0] rfl ?_
  refine W_seq ?_
  refine r1 ?_
  refine s1 11 16 1 rfl rfl rfl rfl rfl rfl trivial ?_
  refine s1 12 24 2 rfl rfl rfl rfl rfl rfl (by first | trivial | omega) ?_
  refine s1 13 32 3 rfl rfl rfl rfl rfl rfl (by first | trivial | omega) ?_
  refine e1 40 rfl ?_
  refine keep [0, 13] rfl ?_
  refine q1 rfl (fun hc1 => ?_) (fun hc1 => ?_)
  · skip
    try simp only [cs, ne_eq] at hc1
    refine r1 ?_
    refine s1 2 40 1 rfl rfl rfl rfl rfl rfl trivial ?_
    refine s1 3 48 2 rfl rfl rfl rfl rfl rfl trivial ?_
    refine e1 56 rfl ?_
    refine keep [2, 3] rfl ?_
    refine W_ret ?_
    refine tr ?_
    exact out2 2 3 (.d .nils) (SV.i (sfault l)) (π := []) (hout := []) Tryd.results14 rfl rfl rfl (by unfold sfault; rw [if_pos (by omega)]; rfl) rfl rfl trivial ⟨rfl, rfl⟩
  · skip
    try simp only [cs, ne_eq] at hc1
    refine W_skip ?_
    refine tn ?_
    refine r1 ?_
    refine s1 4 40 1 rfl rfl rfl rfl rfl rfl trivial ?_
    refine e1 48 rfl ?_
    refine keep [0, 4] rfl ?_
    refine r1 ?_
    refine s1 5 48 1 rfl rfl rfl rfl rfl rfl trivial ?_
    refine e1 56 rfl ?_
    refine keep [0, 4, 5] rfl ?_
    refine cghostly 40 0 5 1 (u8F (pack [])) rfl rfl rfl ?_
    refine r1 ?_
    refine s1 14 64 1 rfl rfl rfl rfl rfl rfl trivial ?_
    refine s1 15 72 2 rfl rfl rfl rfl rfl rfl (by first | trivial | omega) ?_
    refine c1 (put_any [] allBits_nil (by decide) 8 l.length (by decide) ⟨by omega, by omega⟩) [40, 56] [40, 56, 80] 16 80 3 rfl rfl rfl rfl rfl rfl rfl rfl Tryd.func30 rfl rfl rfl rfl ⟨rfl, rfl, trivial⟩ rfl rfl ?_
    refine e1 88 rfl ?_
    refine keep [0, 4, 5] rfl ?_
    refine W_seq ?_
    refine r1 ?_
    refine s1 17 88 1 rfl rfl rfl rfl rfl rfl trivial ?_
    refine s1 18 96 2 rfl rfl rfl rfl rfl rfl (by first | trivial | omega) ?_
    refine s1 19 104 3 rfl rfl rfl rfl rfl rfl trivial ?_
    refine e1 112 rfl ?_
    refine keep [4, 5, 17, 18, 19] rfl ?_
    refine W_block ?_
    have hl := hin.n
    have hl2 : l.length ≤ 120 := (by omega)
    refine loop (α := Nat) 3 (fun k => [(4, .ptr 0 0 0), (5, .ptr 1 0 0), (17, smpV l), (18, SV.i l.length), (19, SV.i (k))]) (fun k => [some (.cells 65 2 [.sl 2 0 (pack (encL l (k))).length, SV.i (encL l (k)).length]), some (.cells 69 4 (lstX (lstN l (k)))), some (.rows 5 1 (pack (encL l (k))).length (u8F (pack (encL l (k)))))]) (fun k => (k) ≤ l.length ∧ faultTo l (k) = 0) (fun k => l.length - (k)) (((0) : Nat)) [40, 48, 80] (fun _ => rfl) (show (0) ≤ l.length ∧ faultTo l (0) = 0 from ⟨Nat.zero_le _, rfl⟩) rfl ⟨rfl, rfl, rfl, rfl, rfl, trivial⟩ ⟨rfl, rfl, rfl, trivial⟩ (fun k hx => ?_)
    show W _ _ _ ⟨tOf [(4, .ptr 0 0 0), (5, .ptr 1 0 0), (17, smpV l), (18, SV.i l.length), (19, SV.i k)], hOf [some (.cells 65 2 [.sl 2 0 (pack (encL l k)).length, SV.i (encL l k).length]), some (.cells 69 4 (lstX (lstN l k))), some (.rows 5 1 (pack (encL l k)).length (u8F (pack (encL l k))))], 3⟩
    have hx : k ≤ l.length ∧ faultTo l k = 0 := hx
    obtain ⟨hk, hf⟩ := hx
    have ha := lst_in hf (by omega)
    have hE := encL_bits l k
    have hEl := encL_len l k
    refine r1 ?_
    refine s1 20 3 1 rfl rfl rfl rfl rfl rfl (by first | trivial | omega) ?_
    refine e1 11 rfl ?_
    refine keep [4, 5, 17, 18, 19, 20] rfl ?_
    refine W_seq ?_
    refine q1 rfl (fun hc7 => ?_) (fun hc7 => ?_)
    · skip
      try simp only [cs, ne_eq] at hc7
      refine W_skip ?_
      refine tn ?_
      refine W_seq ?_
      refine W_block ?_
      refine r1 ?_
      refine s1 21 11 1 rfl rfl rfl rfl rfl rfl (by first | trivial | omega) ?_
      refine s1 22 19 2 rfl rfl rfl rfl rfl rfl (by first | trivial | omega) ?_
      refine val 22 (smpS (l.getD k default)) rfl (by first | rfl | (simp only [Nat.zero_add, Int.toNat_natCast]; rfl)) ?_
      refine s1 7 27 3 rfl rfl rfl rfl rfl rfl trivial ?_
      refine s0 35 4 rfl rfl rfl rfl rfl (by first | trivial | omega) ?_
      refine e1 43 rfl ?_
      refine keep [4, 5, 7, 17, 18, 19] rfl ?_
      refine W_seq ?_
      refine r1 ?_
      refine s1 23 43 1 rfl rfl rfl rfl rfl rfl (by first | trivial | omega) ?_
      refine c1 (fault_any (lstN l k) (l.getD k default)) [1] [1] 24 51 2 rfl rfl rfl rfl rfl rfl rfl rfl Tryd.func31 rfl rfl rfl rfl ⟨rfl, trivial⟩ rfl rfl ?_
      refine s1 8 59 3 rfl rfl rfl rfl rfl rfl trivial ?_
      refine e1 67 rfl ?_
      refine keep [4, 5, 7, 8, 17, 18, 19] rfl ?_
      refine r1 ?_
      refine s1 25 67 1 rfl rfl rfl rfl rfl rfl trivial ?_
      refine s1 26 75 2 rfl rfl rfl rfl rfl rfl (by first | trivial | omega) ?_
      refine e1 83 rfl ?_
      refine keep [4, 5, 7, 8, 17, 18, 19, 26] rfl ?_
      refine q1 rfl (fun hc10 => ?_) (fun hc10 => ?_)
      · skip
        try simp only [cs, ne_eq] at hc10
        refine r1 ?_
        refine s1 27 83 1 rfl rfl rfl rfl rfl rfl trivial ?_
        refine s1 2 91 2 rfl rfl rfl rfl rfl rfl trivial ?_
        refine s1 3 99 3 rfl rfl rfl rfl rfl rfl trivial ?_
        refine e1 107 rfl ?_
        refine keep [2, 3] rfl ?_
        refine W_ret ?_
        refine tr ?_
        refine br ?_
        refine tr ?_
        refine tr ?_
        refine br ?_
        refine tr ?_
        exact out2 2 3 (.d .nils) (SV.i (sfault l)) (π := []) (hout := []) Tryd.results14 rfl rfl rfl (by unfold sfault; rw [if_neg (by omega), faultTo_at (by omega) hf hc10]; rfl) rfl rfl trivial ⟨rfl, rfl⟩
      · skip
        try simp only [cs, ne_eq] at hc10
        have hf1 : lfault (lstN l k) (l.getD k default) = 0 := (by first | exact hc10 | (simp at hc10; exact hc10))
        have hs := lfault_zero hf1
        have hc := c_small ha hs.1 hs.2.1
        refine W_skip ?_
        refine tn ?_
        refine r1 ?_
        refine s1 29 83 1 rfl rfl rfl rfl rfl rfl (by first | trivial | omega) ?_
        refine c1 (codes_any (lstN l k) (l.getD k default) ha hs.1 hs.2.1) [1] [1] 30 91 2 rfl rfl rfl rfl rfl rfl rfl rfl Tryd.func32 rfl rfl rfl rfl ⟨rfl, trivial⟩ rfl rfl ?_
        refine s1 28 99 3 rfl rfl rfl rfl rfl rfl trivial ?_
        refine s1 31 107 4 rfl rfl rfl rfl rfl rfl trivial ?_
        refine s1 32 115 5 rfl rfl rfl rfl rfl rfl trivial ?_
        refine s1 9 123 6 rfl rfl rfl rfl rfl rfl trivial ?_
        refine s1 10 131 7 rfl rfl rfl rfl rfl rfl trivial ?_
        refine e1 139 rfl ?_
        refine keep [4, 5, 7, 9, 10, 17, 18, 19] rfl ?_
        refine r1 ?_
        refine s1 33 139 1 rfl rfl rfl rfl rfl rfl trivial ?_
        refine c1 (zput_any (encL l k) hE (by omega) (cT (lstN l k) (l.getD k default)) hc.1) [0, 2] [0, 2, 147] 34 147 2 rfl rfl rfl rfl rfl rfl rfl rfl Tryd.func33 rfl rfl rfl rfl ⟨rfl, rfl, trivial⟩ rfl rfl ?_
        refine e1 155 rfl ?_
        refine keep [4, 5, 7, 10, 17, 18, 19] rfl ?_
        refine r1 ?_
        refine s1 35 155 1 rfl rfl rfl rfl rfl rfl trivial ?_
        refine c1 (zput_any (zput (encL l k) (cT (lstN l k) (l.getD k default))) (zput_bits hE _) (by have := zput_len (encL l k) (cT (lstN l k) (l.getD k default)); omega) (cV (lstN l k) (l.getD k default)) hc.2) [0, 147] [0, 147, 163] 36 163 2 rfl rfl rfl rfl rfl rfl rfl rfl Tryd.func33 rfl rfl rfl rfl ⟨rfl, rfl, trivial⟩ rfl rfl ?_
        refine e1 171 rfl ?_
        refine keep [4, 5, 7, 17, 18, 19] rfl ?_
        refine r0 ?_
        refine s1 37 171 1 rfl rfl rfl rfl rfl rfl (by first | trivial | omega) ?_
        refine c1 (next_any (lstN l k) (l.getD k default) ha hs.1 hs.2.1) [1] [1] 38 179 2 rfl rfl rfl rfl rfl rfl rfl rfl Tryd.func34 rfl rfl rfl rfl ⟨rfl, trivial⟩ rfl rfl ?_
        refine e1 187 rfl ?_
        refine bn ?_
        refine tn ?_
        refine r0 ?_
        refine sA 39 187 1 rfl rfl rfl rfl rfl rfl rfl rfl rfl (by unfold inRange; omega) ?_
        refine s1 19 195 2 rfl rfl rfl rfl rfl rfl trivial ?_
        refine e1 203 rfl ?_
        refine tn ?_
        exact again ((k + 1 : Nat)) [0, 1, 163] (show (k + 1) ≤ l.length ∧ faultTo l (k + 1) = 0 from ⟨by omega, faultTo_step hf hf1⟩) (show l.length - (k + 1) < l.length - k from (by omega)) rfl ⟨rfl, rfl, rfl, rfl, rfl, trivial⟩ ⟨rfl, rfl, rfl, trivial⟩
    · skip
      try simp only [cs, ne_eq] at hc7
      refine W_exit ?_
      refine tx ?_
      refine tx ?_
      refine bx ?_
      refine tn ?_
      refine r1 ?_
      refine c1 (bytes_any (encL l k)) [0, 2] [0, 2] 40 11 1 rfl rfl rfl rfl rfl rfl rfl rfl Tryd.func35 rfl rfl rfl rfl ⟨rfl, rfl, trivial⟩ rfl rfl ?_
      refine s1 2 19 2 rfl rfl rfl rfl rfl rfl trivial ?_
      refine s1 3 27 3 rfl rfl rfl rfl rfl rfl trivial ?_
      refine e1 35 rfl ?_
      refine keep [2, 3] rfl ?_
      refine W_ret ?_
      exact absurd (show sfault l = 0 from (by unfold sfault; rw [if_neg (by omega), show l.length = k by omega]; exact hf)) hz

end Go.Proofs.YtpdojmebloekgaaDoor.Nice.Co
