/- Which objects are among those seen; whether an act may come now. -/
import Derived.Test.YtdjphneoecebmaaLinFnd
namespace Go.Proofs.Ytdjphneoecebmaa.Nice
open Go
set_option linter.unusedVariables false
set_option linter.unusedSimpArgs false
set_option maxRecDepth 100000
set_option maxHeartbeats 4000000

def objF (L : List Ob) : Nat → Nat → D := fun i _ => .pr (objP (L.getD i default))
def objsB (L : List Ob) : Blk := .rows 35 1 L.length (objF L)
def seekB (L : List Act) : Blk := .cells 44 2 [actsV L, .map 1]
abbrev SVu (m : Nat) : SV := .d (.val (.int .u64 m))
def idxO (L : List Ob) (p : Ob → Bool) : Int := match L.findIdx? p with | some i => i | none => -1
theorem idxO_found {l : List Ob} {p : Ob → Bool} {k : Nat} (h : k < l.length) (hp : p (l.getD k default) = true) (hn : ∀ j, j < k → p (l.getD j default) = false) : idxO l p = k := by
  unfold idxO
  have : l.findIdx? p = some k := by
    rw [List.findIdx?_eq_some_iff_getElem]
    refine ⟨h, by rw [← getG h]; exact hp, fun j hj => by have := hn j hj; rw [getG (by omega)] at this; simp [this]⟩
  rw [this]
theorem idxO_none {l : List Ob} {p : Ob → Bool} (hn : ∀ j, j < l.length → p (l.getD j default) = false) : idxO l p = -1 := by
  unfold idxO
  have : l.findIdx? p = none := by
    rw [List.findIdx?_eq_none_iff]
    intro x hx
    obtain ⟨j, hj, rfl⟩ := List.mem_iff_getElem.1 hx
    rw [← getG hj]; exact hn j hj
  rw [this]
theorem idxO_any {l : List Ob} {p : Ob → Bool} : decide (idxO l p ≥ 0) = l.any p := by
  unfold idxO
  cases h : l.findIdx? p with
  | none =>
    rw [List.findIdx?_eq_none_iff] at h
    have : l.any p = false := by rw [List.any_eq_false]; intro x hx; simp [h x hx]
    rw [this]; rfl
  | some i =>
    rw [List.findIdx?_eq_some_iff_getElem] at h
    obtain ⟨hi, hp, _⟩ := h
    have : l.any p = true := by rw [List.any_eq_true]; exact ⟨_, List.getElem_mem hi, hp⟩
    rw [this]; simp
theorem obj_cat (l : List Ob) (o : Ob) (i c : Nat) (hi : i < l.length + 1) (hc : c < 1) : catR (objF l) l.length (litR 1 [.pr (objP o)]) i c = objF (l ++ [o]) i c := by
  obtain rfl : c = 0 := by omega
  unfold catR objF litR
  by_cases h : i < l.length
  · rw [if_pos h]; simp [List.getD, List.getElem?_append_left h]
  · obtain rfl : i = l.length := by omega
    rw [if_neg (Nat.lt_irrefl _), Nat.sub_self]
    simp [List.getD]
/-- A bit of a mask, as the program asks it. -/
theorem bitv : ∀ m : Nat, m < 512 → ∀ k : Nat, k < 9 → bits .and .u64 ((m : Int).fdiv (2 ^ (min ((k : Int)).toNat 64))) 1 = if m.testBit k = true then 1 else 0 := by decide +kernel
theorem orv : ∀ m : Nat, m < 512 → ∀ k : Nat, k < 9 → bits .or .u64 (m : Int) (IntKind.u64.wrap (1 * 2 ^ (min ((k : Int)).toNat 64))) = ((m ||| 2 ^ k : Nat) : Int) := by decide +kernel
theorem or_lt {m k n : Nat} (hm : m < 2 ^ n) (hk : k < n) : m ||| 2 ^ k < 2 ^ n := Nat.or_lt_two_pow hm (Nat.pow_lt_pow_right (by omega) hk)
theorem or_gt {m k : Nat} (h : m.testBit k = false) : m < m ||| 2 ^ k := by
  rcases Nat.lt_or_ge m (m ||| 2 ^ k) with h2 | h2
  · exact h2
  · have h3 : m ≤ m ||| 2 ^ k := Nat.left_le_or
    have h4 : m ||| 2 ^ k = m := by omega
    have := or_bit m k k
    rw [h4, h] at this; simp at this

theorem indexO_any (o : Ob) (L : List Ob) (hL : L.length ≤ 9223372036854775807) (hk : ∀ j, j < L.length → okind o = okind (L.getD j default) ∧ osize (L.getD j default) ≤ 9223372036854775807) : Spec Try.prog G0 19 [.sl 0 0 L.length, methV o] [objsB L] (fun r ho => r = SV.i (idxO L (osame o)) ∧ ho = [some (objsB L)]) := by
  refine start 19 1 Try.func19 rfl rfl rfl rfl ?_
  refine r1 ?_
  refine s1 4 1 1 rfl rfl rfl rfl rfl rfl trivial ?_
  refine e1 9 rfl ?_
  refine keep [0, 1] rfl ?_
  refine W_seq ?_
  refine r1 ?_
  refine s1 6 9 1 rfl rfl rfl rfl rfl rfl trivial ?_
  refine s1 7 17 2 rfl rfl rfl rfl rfl rfl (by first | trivial | omega) ?_
  refine s1 8 25 3 rfl rfl rfl rfl rfl rfl trivial ?_
  refine e1 33 rfl ?_
  refine keep [0, 1, 7, 8] rfl ?_
  refine W_block ?_
  refine loop (α := Nat) 1 (fun n => [(0, .sl 0 0 L.length), (1, methV o), (7, SV.i L.length), (8, SV.i n)]) (fun n => [some (objsB L)]) (fun n => n ≤ L.length ∧ ∀ j, j < n → osame o (L.getD j default) = false) (fun n => L.length - n) (0) [0] (fun _ => rfl) ⟨Nat.zero_le _, fun j hj => by omega⟩ rfl ⟨rfl, rfl, rfl, rfl, trivial⟩ ⟨rfl, trivial⟩ (fun n hx => ?_)
  obtain ⟨hn, hno⟩ := hx
  refine r1 ?_
  refine s1 9 1 1 rfl rfl rfl rfl rfl rfl (by first | trivial | omega) ?_
  refine e1 9 rfl ?_
  refine keep [0, 1, 7, 8, 9] rfl ?_
  refine W_seq ?_
  refine q1 rfl (fun hc2 => ?_) (fun hc2 => ?_)
  · skip
    try simp only [cs, ne_eq] at hc2
    refine W_skip ?_
    refine tn ?_
    refine W_seq ?_
    refine W_block ?_
    refine r1 ?_
    refine s1 10 9 1 rfl rfl rfl rfl rfl rfl trivial ?_
    refine s1 5 17 2 rfl rfl rfl rfl rfl rfl trivial ?_
    refine e1 25 rfl ?_
    refine keep [0, 1, 5, 7, 8] rfl ?_
    refine r1 ?_
    refine s1 11 25 1 rfl rfl rfl rfl rfl rfl trivial ?_
    refine s1 12 33 2 rfl rfl rfl rfl rfl rfl trivial ?_
    refine s1 13 41 3 rfl rfl rfl rfl rfl rfl trivial ?_
    refine s1 14 49 4 rfl rfl rfl rfl rfl rfl (by first | trivial | omega) ?_
    refine val 14 (.ptr 0 n 0) rfl (by rw [Nat.zero_add]; rfl) ?_
    refine s1 15 57 5 rfl rfl rfl rfl rfl rfl (by first | trivial | omega) ?_
    refine sOk 16 65 6 (same_call (ob := o) (x := L.getD n default) rfl rfl rfl (hk n (by omega)).1 (hk n (by omega)).2) rfl rfl rfl rfl rfl trivial rfl rfl rfl ?_
    refine e1 73 rfl ?_
    refine keep [0, 1, 5, 7, 8, 16] rfl ?_
    refine q1 rfl (fun hc4 => ?_) (fun hc4 => ?_)
    · skip
      try simp only [cs, ne_eq] at hc4
      refine r1 ?_
      refine s1 17 73 1 rfl rfl rfl rfl rfl rfl trivial ?_
      refine s1 4 81 2 rfl rfl rfl rfl rfl rfl trivial ?_
      refine e1 89 rfl ?_
      refine keep [4] rfl ?_
      refine W_ret ?_
      refine br ?_
      refine tr ?_
      refine tr ?_
      refine br ?_
      refine tr ?_
      exact out1 4 (SV.i (idxO L (osame o))) (π := [0]) (hout := [some (objsB L)]) Try.results19 rfl (by rw [idxO_found (by omega) hc4 hno]; rfl) rfl rfl ⟨rfl, trivial⟩ ⟨rfl, rfl⟩
    try simp only [cs, ne_eq] at hc4
    refine W_skip ?_
    refine bn ?_
    refine tn ?_
    refine r0 ?_
    refine sA 18 73 1 rfl rfl rfl rfl rfl rfl rfl rfl rfl (by unfold inRange; omega) ?_
    refine s1 8 81 2 rfl rfl rfl rfl rfl rfl trivial ?_
    refine e1 89 rfl ?_
    refine tn ?_
    exact again (n + 1) [0] ⟨by omega, fun j hj => by by_cases e : j = n; (subst e; exact hc4); exact hno j (by omega)⟩ (by omega) rfl ⟨rfl, rfl, rfl, rfl, trivial⟩ ⟨rfl, trivial⟩
  try simp only [cs, ne_eq] at hc2
  refine W_exit ?_
  refine tx ?_
  refine tx ?_
  refine bx ?_
  refine tn ?_
  refine r1 ?_
  refine s1 4 9 1 rfl rfl rfl rfl rfl rfl trivial ?_
  refine e1 17 rfl ?_
  refine keep [4] rfl ?_
  refine W_ret ?_
  exact out1 4 (SV.i (idxO L (osame o))) (π := [0]) (hout := [some (objsB L)]) Try.results19 rfl (by rw [idxO_none (fun j hj => hno j (by omega))]; rfl) rfl rfl ⟨rfl, trivial⟩ ⟨rfl, rfl⟩

theorem containsO_any (o : Ob) (L : List Ob) (hL : L.length ≤ 9223372036854775807) (hk : ∀ j, j < L.length → okind o = okind (L.getD j default) ∧ osize (L.getD j default) ≤ 9223372036854775807) : Spec Try.prog G0 16 [.sl 0 0 L.length, methV o] [objsB L] (fun r ho => r = SV.b (L.any (osame o)) ∧ ho = [some (objsB L)]) := by
  refine start 9 1 Try.func16 rfl rfl rfl rfl ?_
  refine r1 ?_
  refine s1 4 1 1 rfl rfl rfl rfl rfl rfl trivial ?_
  refine e1 9 rfl ?_
  refine keep [0, 1] rfl ?_
  refine r1 ?_
  refine s1 5 9 1 rfl rfl rfl rfl rfl rfl trivial ?_
  refine s1 6 17 2 rfl rfl rfl rfl rfl rfl trivial ?_
  refine c1 (indexO_any o L hL hk) [0] [0] 7 25 3 rfl rfl rfl rfl rfl rfl rfl rfl Try.func19 rfl rfl rfl rfl ⟨rfl, trivial⟩ rfl rfl ?_
  refine s1 8 33 4 rfl rfl rfl rfl rfl rfl (by first | trivial | omega) ?_
  refine s1 4 41 5 rfl rfl rfl rfl rfl rfl trivial ?_
  refine e1 49 rfl ?_
  refine keep [4] rfl ?_
  refine W_ret ?_
  exact out1 4 (SV.b (L.any (osame o))) (π := [0]) (hout := [some (objsB L)]) Try.results16 rfl (congrArg SV.b idxO_any) rfl rfl ⟨rfl, trivial⟩ ⟨rfl, rfl⟩

theorem indexN_any (o : Ob) : Spec Try.prog G0 19 [.d .nils, methV o] [] (fun r ho => r = SV.i (-1) ∧ ho = []) := by
  refine start 19 0 Try.func19 rfl rfl rfl rfl ?_
  refine r1 ?_
  refine s1 4 0 1 rfl rfl rfl rfl rfl rfl trivial ?_
  refine e1 8 rfl ?_
  refine keep [0, 1] rfl ?_
  refine W_seq ?_
  refine r1 ?_
  refine s1 6 8 1 rfl rfl rfl rfl rfl rfl trivial ?_
  refine s1 7 16 2 rfl rfl rfl rfl rfl rfl (by first | trivial | omega) ?_
  refine s1 8 24 3 rfl rfl rfl rfl rfl rfl trivial ?_
  refine e1 32 rfl ?_
  refine keep [0, 1, 7, 8] rfl ?_
  refine W_block ?_
  refine W_unroll 1 ?_
  refine unr ?_
  refine r1 ?_
  refine s1 9 32 1 rfl rfl rfl rfl rfl rfl (by first | trivial | omega) ?_
  refine e1 40 rfl ?_
  refine keep [0, 1, 7, 8, 9] rfl ?_
  refine W_seq ?_
  refine q1 rfl (fun hc2 => ?_) (fun hc2 => ?_)
  · skip
    exact absurd hc2 (by decide)
  try simp only [cs, ne_eq] at hc2
  refine W_exit ?_
  refine tx ?_
  refine tx ?_
  refine bx ?_
  refine tn ?_
  refine r1 ?_
  refine s1 4 40 1 rfl rfl rfl rfl rfl rfl trivial ?_
  refine e1 48 rfl ?_
  refine keep [4] rfl ?_
  refine W_ret ?_
  exact out1 4 (SV.i (-1)) (π := []) (hout := []) Try.results19 rfl rfl rfl rfl trivial ⟨rfl, rfl⟩

theorem containsN_any (o : Ob) : Spec Try.prog G0 16 [.d .nils, methV o] [] (fun r ho => r = SV.b false ∧ ho = []) := by
  refine start 9 0 Try.func16 rfl rfl rfl rfl ?_
  refine r1 ?_
  refine s1 4 0 1 rfl rfl rfl rfl rfl rfl trivial ?_
  refine e1 8 rfl ?_
  refine keep [0, 1] rfl ?_
  refine r1 ?_
  refine s1 5 8 1 rfl rfl rfl rfl rfl rfl trivial ?_
  refine s1 6 16 2 rfl rfl rfl rfl rfl rfl trivial ?_
  refine c1 (indexN_any o) [] [] 7 24 3 rfl rfl rfl rfl rfl rfl rfl rfl Try.func19 rfl rfl rfl rfl trivial rfl rfl ?_
  refine s1 8 32 4 rfl rfl rfl rfl rfl rfl (by first | trivial | omega) ?_
  refine s1 4 40 5 rfl rfl rfl rfl rfl rfl trivial ?_
  refine e1 48 rfl ?_
  refine keep [4] rfl ?_
  refine W_ret ?_
  exact out1 4 (SV.b false) (π := []) (hout := []) Try.results16 rfl rfl rfl rfl trivial ⟨rfl, rfl⟩

theorem ready_any (L : List Act) (hL : L.length ≤ 9) (m i : Nat) (hm : m < 512) (hi : i < L.length) (Z : List Nat) (es : List (Value × SV × List InB)) : Spec Try.prog G0 17 [.ptr 0 0 0, SVu m, SV.i i] [seekB L, .fam Z ⟨es, []⟩] (fun r ho => r = SV.b (rdyTo L m i L.length) ∧ ho = [some (seekB L), some (.fam Z ⟨es, []⟩)]) := by
  refine start 43 2 Try.func17 rfl rfl rfl rfl ?_
  refine r1 ?_
  refine s1 6 2 1 rfl rfl rfl rfl rfl rfl trivial ?_
  refine e1 10 rfl ?_
  refine keep [0, 1, 2] rfl ?_
  refine W_seq ?_
  refine r1 ?_
  refine s1 9 10 1 rfl rfl rfl rfl rfl rfl trivial ?_
  refine s1 10 18 2 rfl rfl rfl rfl rfl rfl trivial ?_
  refine s1 11 26 3 rfl rfl rfl rfl rfl rfl trivial ?_
  refine s1 12 34 4 rfl rfl rfl rfl rfl rfl (by first | trivial | omega) ?_
  refine s1 13 42 5 rfl rfl rfl rfl rfl rfl (by first | trivial | omega) ?_
  refine s1 14 50 6 rfl rfl rfl rfl rfl rfl trivial ?_
  refine e1 58 rfl ?_
  refine keep [0, 1, 2, 12, 13, 14] rfl ?_
  refine W_block ?_
  refine loop (α := Nat) 2 (fun n => [(0, .ptr 0 0 0), (1, SVu m), (2, SV.i i), (12, actsV L), (13, SV.i L.length), (14, SV.i n)]) (fun n => [some (seekB L), some (.fam Z ⟨es, []⟩)]) (fun n => n ≤ L.length ∧ rdyTo L m i n = true) (fun n => L.length - n) (0) [0, 1] (fun _ => rfl) ⟨Nat.zero_le _, rfl⟩ rfl ⟨rfl, rfl, rfl, rfl, rfl, rfl, trivial⟩ ⟨rfl, rfl, trivial⟩ (fun n hx => ?_)
  obtain ⟨hn, hno⟩ := hx
  have hb := bitv m hm n
  refine r1 ?_
  refine s1 15 2 1 rfl rfl rfl rfl rfl rfl (by first | trivial | omega) ?_
  refine e1 10 rfl ?_
  refine keep [0, 1, 2, 12, 13, 14, 15] rfl ?_
  refine W_seq ?_
  refine q1 rfl (fun hc2 => ?_) (fun hc2 => ?_)
  · skip
    try simp only [cs, ne_eq] at hc2
    refine W_skip ?_
    refine tn ?_
    refine W_seq ?_
    refine W_block ?_
    refine r1 ?_
    refine s1 16 10 1 rfl rfl rfl rfl rfl rfl trivial ?_
    refine s1 17 18 2 rfl rfl rfl rfl rfl rfl (by first | trivial | omega) ?_
    refine s1 18 26 3 rfl rfl rfl rfl rfl rfl (by first | trivial | omega) ?_
    refine s1 8 34 4 rfl rfl rfl rfl rfl rfl trivial ?_
    refine s1 7 42 5 rfl rfl rfl rfl rfl rfl trivial ?_
    refine s0 50 6 rfl rfl rfl rfl rfl (by first | trivial | omega) ?_
    refine e1 58 rfl ?_
    refine keep [0, 1, 2, 7, 8, 12, 13, 14] rfl ?_
    refine rd1 rfl ?_
    refine d1 19 58 1 rfl rfl rfl rfl rfl rfl trivial ?_
    refine d1 20 66 2 rfl rfl rfl rfl rfl rfl trivial ?_
    refine d1 21 74 3 rfl rfl rfl rfl rfl rfl (by first | trivial | omega) ?_
    refine d1 22 82 4 rfl rfl rfl rfl rfl rfl (by first | trivial | omega) ?_
    refine d1 23 90 5 rfl rfl rfl rfl rfl rfl (by first | trivial | omega) ?_
    refine val 23 (SV.b (!m.testBit n)) rfl (by show SV.b (bits .and .u64 ((m : Int).fdiv (2 ^ (min ((n : Int)).toNat 64))) 1 == 0) = _; rw [hb (by omega)]; cases m.testBit n <;> rfl) ?_
    refine d1 24 98 6 rfl rfl rfl rfl rfl rfl trivial ?_
    refine ask 24 rfl (fun hg4_24 => ?_) (fun hg4_24 => ?_)
    · skip
      try simp only [cs, ne_eq] at hg4_24
      refine g1 5 true 24 25 7 rfl rfl rfl rfl rfl ?_
      refine d1 25 106 7 rfl rfl rfl rfl rfl rfl trivial ?_
      refine g1 5 true 24 26 8 rfl rfl rfl rfl rfl ?_
      refine d1 26 114 8 rfl rfl rfl rfl rfl rfl (by first | trivial | omega) ?_
      refine g1 5 true 24 27 9 rfl rfl rfl rfl rfl ?_
      refine d1 27 122 9 rfl rfl rfl rfl rfl rfl (by first | trivial | omega) ?_
      refine d1 28 130 10 rfl rfl rfl rfl rfl rfl trivial ?_
      refine d1 29 138 11 rfl rfl rfl rfl rfl rfl trivial ?_
      refine ask 29 rfl (fun hg4_29 => ?_) (fun hg4_29 => ?_)
      · skip
        try simp only [cs, ne_eq] at hg4_29
        refine g1 10 true 29 30 12 rfl rfl rfl rfl rfl ?_
        refine d1 30 146 12 rfl rfl rfl rfl rfl rfl trivial ?_
        refine g1 10 true 29 31 13 rfl rfl rfl rfl rfl ?_
        refine d1 31 154 13 rfl rfl rfl rfl rfl rfl (by first | trivial | omega) ?_
        refine g1 10 true 29 32 14 rfl rfl rfl rfl rfl ?_
        refine d1 32 162 14 rfl rfl rfl rfl rfl rfl trivial ?_
        refine g1 10 true 29 33 15 rfl rfl rfl rfl rfl ?_
        refine d1 33 170 15 rfl rfl rfl rfl rfl rfl trivial ?_
        refine g1 10 true 29 34 16 rfl rfl rfl rfl rfl ?_
        refine d1 34 178 16 rfl rfl rfl rfl rfl rfl trivial ?_
        refine g1 10 true 29 35 17 rfl rfl rfl rfl rfl ?_
        refine d1 35 186 17 rfl rfl rfl rfl rfl rfl (by first | trivial | omega) ?_
        refine g1 10 true 29 36 18 rfl rfl rfl rfl rfl ?_
        refine d1 36 194 18 rfl rfl rfl rfl rfl rfl trivial ?_
        refine g1 10 true 29 37 19 rfl rfl rfl rfl rfl ?_
        refine d1 37 202 19 rfl rfl rfl rfl rfl rfl (by first | trivial | omega) ?_
        refine g1 10 true 29 38 20 rfl rfl rfl rfl rfl ?_
        refine d1 38 210 20 rfl rfl rfl rfl rfl rfl trivial ?_
        refine g1 10 true 29 39 21 rfl rfl rfl rfl rfl ?_
        refine d1 39 218 21 rfl rfl rfl rfl rfl rfl (by first | trivial | omega) ?_
        refine g1 10 true 29 40 22 rfl rfl rfl rfl rfl ?_
        refine d1 40 226 22 rfl rfl rfl rfl rfl rfl (by first | trivial | omega) ?_
        refine d1 41 234 23 rfl rfl rfl rfl rfl rfl trivial ?_
        refine de1 242 rfl (by kernel_rfl) ?_
        refine keep [0, 1, 2, 12, 13, 14, 41] rfl ?_
        refine q1 rfl (fun hc4 => ?_) (fun hc4 => ?_)
        · skip
          try simp only [cs, ne_eq] at hc4
          refine r1 ?_
          refine s1 6 242 1 rfl rfl rfl rfl rfl rfl trivial ?_
          refine e1 250 rfl ?_
          refine keep [6] rfl ?_
          refine W_ret ?_
          refine br ?_
          refine tr ?_
          refine tr ?_
          refine br ?_
          refine tr ?_
          exact out1 6 (SV.b (rdyTo L m i L.length)) (π := [0, 1]) (hout := [some (seekB L), some (.fam Z ⟨es, []⟩)]) Try.results17 rfl (by rw [rdyTo_false (n := n) (by omega) (by simp only [Int.toNat_natCast] at hg4_29 hc4; rw [hg4_24, decide_eq_false hg4_29, decide_eq_true hc4]; rfl)]; rfl) rfl rfl ⟨rfl, rfl, trivial⟩ ⟨rfl, rfl⟩
        try simp only [cs, ne_eq] at hc4
        refine W_skip ?_
        refine bn ?_
        refine tn ?_
        refine r0 ?_
        refine sA 42 242 1 rfl rfl rfl rfl rfl rfl rfl rfl rfl (by unfold inRange; omega) ?_
        refine s1 14 250 2 rfl rfl rfl rfl rfl rfl trivial ?_
        refine e1 258 rfl ?_
        refine tn ?_
        exact again (n + 1) [0, 1] ⟨by omega, by rw [rdyTo_succ, hno]; first | (rw [hg4_24]; rfl) | (simp only [Int.toNat_natCast] at hg4_29; rw [decide_eq_true hg4_29]; simp; done) | (simp only [Int.toNat_natCast] at hc4; rw [decide_eq_false (Int.not_lt.2 hc4)]; simp; done)⟩ (by omega) rfl ⟨rfl, rfl, rfl, rfl, rfl, rfl, trivial⟩ ⟨rfl, rfl, trivial⟩
      try simp only [cs, ne_eq] at hg4_29
      refine g0 10 true 29 30 12 rfl rfl rfl rfl rfl rfl ?_
      refine g0 10 true 29 31 13 rfl rfl rfl rfl rfl rfl ?_
      refine g0 10 true 29 32 14 rfl rfl rfl rfl rfl rfl ?_
      refine g0 10 true 29 33 15 rfl rfl rfl rfl rfl rfl ?_
      refine g0 10 true 29 34 16 rfl rfl rfl rfl rfl rfl ?_
      refine g0 10 true 29 35 17 rfl rfl rfl rfl rfl rfl ?_
      refine g0 10 true 29 36 18 rfl rfl rfl rfl rfl rfl ?_
      refine g0 10 true 29 37 19 rfl rfl rfl rfl rfl rfl ?_
      refine g0 10 true 29 38 20 rfl rfl rfl rfl rfl rfl ?_
      refine g0 10 true 29 39 21 rfl rfl rfl rfl rfl rfl ?_
      refine g0 10 true 29 40 22 rfl rfl rfl rfl rfl rfl ?_
      refine d1 41 234 23 rfl rfl rfl rfl rfl rfl trivial ?_
      refine de1 242 rfl (by kernel_rfl) ?_
      refine keep [0, 1, 2, 12, 13, 14, 41] rfl ?_
      refine q1 rfl (fun hc4 => ?_) (fun hc4 => ?_)
      · skip
        exact absurd hc4 (by decide)
      try simp only [cs, ne_eq] at hc4
      refine W_skip ?_
      refine bn ?_
      refine tn ?_
      refine r0 ?_
      refine sA 42 242 1 rfl rfl rfl rfl rfl rfl rfl rfl rfl (by unfold inRange; omega) ?_
      refine s1 14 250 2 rfl rfl rfl rfl rfl rfl trivial ?_
      refine e1 258 rfl ?_
      refine tn ?_
      exact again (n + 1) [0, 1] ⟨by omega, by rw [rdyTo_succ, hno]; first | (rw [hg4_24]; rfl) | (simp only [Int.toNat_natCast] at hg4_29; rw [decide_eq_true hg4_29]; simp; done) | (simp only [Int.toNat_natCast] at hc4; rw [decide_eq_false (Int.not_lt.2 hc4)]; simp; done)⟩ (by omega) rfl ⟨rfl, rfl, rfl, rfl, rfl, rfl, trivial⟩ ⟨rfl, rfl, trivial⟩
    try simp only [cs, ne_eq] at hg4_24
    refine g0 5 true 24 25 7 rfl rfl rfl rfl rfl rfl ?_
    refine g0 5 true 24 26 8 rfl rfl rfl rfl rfl rfl ?_
    refine g0 5 true 24 27 9 rfl rfl rfl rfl rfl rfl ?_
    refine d1 28 130 10 rfl rfl rfl rfl rfl rfl trivial ?_
    refine d1 29 138 11 rfl rfl rfl rfl rfl rfl trivial ?_
    refine g0 10 true 29 30 12 rfl rfl rfl rfl rfl rfl ?_
    refine g0 10 true 29 31 13 rfl rfl rfl rfl rfl rfl ?_
    refine g0 10 true 29 32 14 rfl rfl rfl rfl rfl rfl ?_
    refine g0 10 true 29 33 15 rfl rfl rfl rfl rfl rfl ?_
    refine g0 10 true 29 34 16 rfl rfl rfl rfl rfl rfl ?_
    refine g0 10 true 29 35 17 rfl rfl rfl rfl rfl rfl ?_
    refine g0 10 true 29 36 18 rfl rfl rfl rfl rfl rfl ?_
    refine g0 10 true 29 37 19 rfl rfl rfl rfl rfl rfl ?_
    refine g0 10 true 29 38 20 rfl rfl rfl rfl rfl rfl ?_
    refine g0 10 true 29 39 21 rfl rfl rfl rfl rfl rfl ?_
    refine g0 10 true 29 40 22 rfl rfl rfl rfl rfl rfl ?_
    refine d1 41 234 23 rfl rfl rfl rfl rfl rfl trivial ?_
    refine de1 242 rfl (by kernel_rfl) ?_
    refine keep [0, 1, 2, 12, 13, 14, 41] rfl ?_
    refine q1 rfl (fun hc4 => ?_) (fun hc4 => ?_)
    · skip
      exact absurd hc4 (by decide)
    try simp only [cs, ne_eq] at hc4
    refine W_skip ?_
    refine bn ?_
    refine tn ?_
    refine r0 ?_
    refine sA 42 242 1 rfl rfl rfl rfl rfl rfl rfl rfl rfl (by unfold inRange; omega) ?_
    refine s1 14 250 2 rfl rfl rfl rfl rfl rfl trivial ?_
    refine e1 258 rfl ?_
    refine tn ?_
    exact again (n + 1) [0, 1] ⟨by omega, by rw [rdyTo_succ, hno]; first | (rw [hg4_24]; rfl) | (simp only [Int.toNat_natCast] at hg4_29; rw [decide_eq_true hg4_29]; simp; done) | (simp only [Int.toNat_natCast] at hc4; rw [decide_eq_false (Int.not_lt.2 hc4)]; simp; done)⟩ (by omega) rfl ⟨rfl, rfl, rfl, rfl, rfl, rfl, trivial⟩ ⟨rfl, rfl, trivial⟩
  try simp only [cs, ne_eq] at hc2
  refine W_exit ?_
  refine tx ?_
  refine tx ?_
  refine bx ?_
  refine tn ?_
  refine r1 ?_
  refine s1 6 10 1 rfl rfl rfl rfl rfl rfl trivial ?_
  refine e1 18 rfl ?_
  refine keep [6] rfl ?_
  refine W_ret ?_
  exact out1 6 (SV.b (rdyTo L m i L.length)) (π := [0, 1]) (hout := [some (seekB L), some (.fam Z ⟨es, []⟩)]) Try.results17 rfl (by have e : n = L.length := (by omega); subst e; rw [hno]; rfl) rfl rfl ⟨rfl, rfl, trivial⟩ ⟨rfl, rfl⟩

end Go.Proofs.Ytdjphneoecebmaa.Nice
