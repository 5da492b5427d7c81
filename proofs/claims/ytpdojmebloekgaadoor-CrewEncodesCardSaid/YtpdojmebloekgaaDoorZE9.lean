/- Part 9 of the proof of CrewEncodes: CrewE3, ChunkRef, CrewE4, CrewArgs, CrewEncodesLaw, Leav. -/
import Derived.Test.YtpdojmebloekgaaDoorZE8
import Derived.Conc.LeavingOf
import Derived.Deep.DeepHandedRow
import Derived.SevenTiedAt
namespace Go.Proofs.YtpdojmebloekgaaDoor.Nice.Co
open Go Go.Conc Go.Conc.Lib Go.ConcR.Gen
open Go.ConcR (KK WgAt stA smA mk DC0)
set_option linter.unusedVariables false
set_option linter.unusedSimpArgs false
set_option maxRecDepth 100000
set_option maxHeartbeats 4000000
def postE (L : List (List Smp)) (Pst : Value → World → Prop) : Tr Tryd.prog → SV → Prop := fun K r => r = encAns L ∧ Ends Pst K
def fO (L : List (List Smp)) (J : List Nat) : Nat → Nat → D := fun i _ => if i ∈ J then whatE L i else .nils
def fC (L : List (List Smp)) (J : List Nat) : Nat → Nat → D := fun i _ => if i ∈ J then .val (.int .i64 (sfault (L.getD i []))) else .val (.int .i64 0)
theorem upd_fO {L : List (List Smp)} {J : List Nat} {fo : Nat → Nat → D} {k i : Nat} {X : D} (h : ∀ i, i < L.length → fo i 0 = fO L J i 0) (hi : i < L.length) (hX : whatE L k = X) : updR fo (0 + (k : Int).toNat) 0 [X] i 0 = fO L (k :: J) i 0 := by
  unfold updR
  rw [Int.toNat_natCast, Nat.zero_add]
  by_cases e : i = k
  · subst e; simp [fO, hX]
  · simp [e, h i hi, fO]
theorem upd_fC {L : List (List Smp)} {J : List Nat} {fc : Nat → Nat → D} {k i : Nat} {x : Int} (h : ∀ i, i < L.length → fc i 0 = fC L J i 0) (hi : i < L.length) (hX : sfault (L.getD k []) = x) : updR fc (0 + (k : Int).toNat) 0 [.val (.int .i64 x)] i 0 = fC L (k :: J) i 0 := by
  unfold updR
  rw [Int.toNat_natCast, Nat.zero_add]
  subst hX
  by_cases e : i = k
  · subst e; simp [fC]
  · simp [e, h i hi, fC]
def tlR (n Ch : Nat) : List (Nat × SV) := [(10, .sl 0 0 n), (11, .sl 1 0 n), (36, .d (.val (.chan (some Ch))))]
def hlR (n : Nat) (fo fc : Nat → Nat → D) : List (Option Blk) := [some (.rows 39 1 n fo), some (.rows 24 1 n fc)]
theorem hR {J : List Nat} : Lo.recv J ≠ .out := by simp
theorem each13_b {Pst : Value → World → Prop} (L : List (List Smp)) (hL : L.length ≤ 100) (hin : ∀ l, l ∈ L → SmpIn l) (Wg Ch : Nat) (Rd : Blks) {π : List Nat} {σ : St} (hsub : Sub CE π σ (tlS L Wg Ch L.length) []) :
    WX CE rest13 (outQX CE Tryd.f13 (postE L Pst)) (trRun Tryd.prog (pE L Wg Ch) Pst true Rd 0 (.spawn L.length false) hS rfl) [] σ := by
  refine WX_sub π _ _ hsub ?_
  refine xX1 ?_
  refine RX_ops PZ.up [_] 0 _ (fun j hj => by simp at hj; subst hj; rfl) ?_
  refine s1 29 0 1 rfl rfl rfl rfl rfl rfl trivial ?_
  refine e1 16 rfl ?_
  refine RX_spawnC (p := pE L Wg Ch) PZ.up rfl rfl rfl rfl rfl ?_ (hl' := hR) (hm' := rfl) (closer28 (Nat.lt_of_le_of_lt hL (by omega))) fun Rd2 => ?_
  · exact fun y hy => List.all_eq_true.1 (show (clCaps (pE L Wg Ch)).all SV.dataB = true from rfl) y hy
  refine RX_end rfl rfl ?_
  refine xtn ?_
  refine x1 ?_
  refine s1 30 16 1 rfl rfl rfl rfl rfl rfl trivial ?_
  refine s1 31 24 2 rfl rfl rfl rfl rfl rfl trivial ?_
  refine s1 32 32 3 rfl rfl rfl rfl rfl rfl ⟨by omega, rfl, (by show (L.length : Int) * ((24 : Nat) : Int) ≤ ((140737488355328 : Nat) : Int); omega), by omega⟩ ?_
  refine s1 10 40 4 rfl rfl rfl rfl rfl rfl trivial ?_
  refine e1 48 rfl ?_
  refine x1 ?_
  refine s1 33 48 1 rfl rfl rfl rfl rfl rfl trivial ?_
  refine s1 34 56 2 rfl rfl rfl rfl rfl rfl trivial ?_
  refine s1 35 64 3 rfl rfl rfl rfl rfl rfl ⟨by omega, rfl, (by show (L.length : Int) * ((8 : Nat) : Int) ≤ ((140737488355328 : Nat) : Int); omega), by omega⟩ ?_
  refine s1 11 72 4 rfl rfl rfl rfl rfl rfl trivial ?_
  refine e1 80 rfl ?_
  refine WX_seq ?_
  refine x1 ?_
  refine s1 36 80 1 rfl rfl rfl rfl rfl rfl (by decide) ?_
  refine e1 88 rfl ?_
  refine WX_block ?_
  refine WX_loop0 (fun m K ds σ => ds = [] ∧ ∃ J Rd' π fo fc, m = miss J L.length ∧ K = trRun Tryd.prog (pE L Wg Ch) Pst true Rd' 0 (.recv J) hR rfl ∧ (∀ i, i < L.length → fo i 0 = fO L J i 0) ∧ (∀ i, i < L.length → fc i 0 = fC L J i 0) ∧ Sub CE π σ (tlR L.length Ch) (hlR L.length fo fc)) (miss [] L.length) ⟨rfl, [], Rd2, [32, 64], _, _, rfl, rfl, ?_, ?_, ⟨rfl, ⟨rfl, rfl, rfl, trivial⟩, ⟨rfl, rfl, trivial⟩⟩⟩ ?_
  · intro i hi; simp [fO]; rfl
  · intro i hi; simp [fC]; rfl
  rintro m K ds σ ⟨rfl, J, Rd', π', fo, fc, rfl, rfl, hfo, hfc, hsub'⟩
  refine WX_sub π' _ _ hsub' ?_
  refine xX1 ?_
  refine RX_recv (p := pE L Wg Ch) PZ.up rfl rfl rfl rfl Tryd.runUnderlying49 (fun w => by simp) Tryd.zeroValue62 (fun w => by simp) rfl (fun k => encT (L.getD k []) k) (fun k M v h => h) (hl1 := fun k => hR) (hm1 := fun k => rfl) (hl2 := by simp) (hm2 := rfl) (fun k Rd3 hk hkJ => ?_) (fun hall => ?_)
  · have hk : k < L.length := hk
    by_cases hz : sfault (L.getD k []) = 0
    · have e : encT (L.getD k []) k = .agg [SV.i k, .d (.vec 1 (encB (L.getD k [])).length (u8F (encB (L.getD k [])))), SV.i 0] := by unfold encT; rw [if_pos hz, hz]
      rw [e]
      refine RX_ops PZ.up [_] 1 _ (fun j hj => by simp at hj; subst hj; rfl) ?_
      refine s1 38 10 2 rfl rfl rfl rfl rfl rfl trivial ?_
      refine e1 18 rfl ?_
      refine RX_end rfl rfl ?_
      refine xtn ?_
      refine WX_seq ?_
      refine WX_cond rfl (fun _ => ?_) (fun hc => by cases hc)
      refine WX_skip ?_
      refine xtn ?_
      refine WX_block ?_
      refine x1 ?_
      refine s1 39 18 1 rfl rfl rfl rfl rfl rfl trivial ?_
      refine s1 12 26 2 rfl rfl rfl rfl rfl rfl trivial ?_
      refine s0 34 3 rfl rfl rfl rfl rfl trivial ?_
      refine e1 42 rfl ?_
      refine WX_keep [10, 11, 12, 36] rfl ?_
      refine xd0 (by kernel_rfl) ?_
      refine d1 40 42 1 rfl rfl rfl rfl rfl rfl trivial ?_
      refine d1 41 50 2 rfl rfl rfl rfl rfl rfl trivial ?_
      refine d1 42 58 3 rfl rfl rfl rfl rfl rfl trivial ?_
      refine d1 43 66 4 rfl rfl rfl rfl rfl rfl trivial ?_
      refine d1 44 74 5 rfl rfl rfl rfl rfl rfl trivial ?_
      refine d1 45 82 6 rfl rfl rfl rfl rfl rfl trivial ?_
      refine d1 46 90 7 rfl rfl rfl rfl rfl rfl trivial ?_
      refine d1 47 98 8 rfl rfl rfl rfl rfl rfl trivial ?_
      refine d1 48 106 9 rfl rfl rfl rfl rfl rfl trivial ?_
      refine d1 49 114 10 rfl rfl rfl rfl rfl rfl trivial ?_
      refine d1 50 122 11 rfl rfl rfl rfl rfl rfl (by omega) ?_
      refine d0 130 12 rfl rfl rfl rfl rfl (by first | trivial | omega) ?_
      refine d1 51 138 13 rfl rfl rfl rfl rfl rfl (by omega) ?_
      refine d0 146 14 rfl rfl rfl rfl rfl (by first | trivial | omega) ?_
      refine de1 154 rfl (by kernel_rfl) ?_
      refine xbn ?_
      exact ⟨miss (k :: J) L.length, miss_lt hkJ hk, rfl, k :: J, Rd3, [0, 1], _, _, rfl, rfl, (fun i hi => upd_fO hfo hi (by unfold whatE; rw [if_pos hz])), (fun i hi => upd_fC hfc hi (by rw [hz])), ⟨rfl, ⟨rfl, rfl, rfl, trivial⟩, ⟨rfl, rfl, trivial⟩⟩⟩
    · have e : encT (L.getD k []) k = .agg [SV.i k, .d .nils, SV.i (sfault (L.getD k []))] := by unfold encT; rw [if_neg hz]
      rw [e]
      refine RX_ops PZ.up [_] 1 _ (fun j hj => by simp at hj; subst hj; rfl) ?_
      refine s1 38 10 2 rfl rfl rfl rfl rfl rfl trivial ?_
      refine e1 18 rfl ?_
      refine RX_end rfl rfl ?_
      refine xtn ?_
      refine WX_seq ?_
      refine WX_cond rfl (fun _ => ?_) (fun hc => by cases hc)
      refine WX_skip ?_
      refine xtn ?_
      refine WX_block ?_
      refine x1 ?_
      refine s1 39 18 1 rfl rfl rfl rfl rfl rfl trivial ?_
      refine s1 12 26 2 rfl rfl rfl rfl rfl rfl trivial ?_
      refine s0 34 3 rfl rfl rfl rfl rfl trivial ?_
      refine e1 42 rfl ?_
      refine WX_keep [10, 11, 12, 36] rfl ?_
      refine xd0 (by kernel_rfl) ?_
      refine d1 40 42 1 rfl rfl rfl rfl rfl rfl trivial ?_
      refine d1 41 50 2 rfl rfl rfl rfl rfl rfl trivial ?_
      refine d1 42 58 3 rfl rfl rfl rfl rfl rfl trivial ?_
      refine d1 43 66 4 rfl rfl rfl rfl rfl rfl trivial ?_
      refine d1 44 74 5 rfl rfl rfl rfl rfl rfl trivial ?_
      refine d1 45 82 6 rfl rfl rfl rfl rfl rfl trivial ?_
      refine d1 46 90 7 rfl rfl rfl rfl rfl rfl trivial ?_
      refine d1 47 98 8 rfl rfl rfl rfl rfl rfl trivial ?_
      refine d1 48 106 9 rfl rfl rfl rfl rfl rfl trivial ?_
      refine d1 49 114 10 rfl rfl rfl rfl rfl rfl trivial ?_
      refine d1 50 122 11 rfl rfl rfl rfl rfl rfl (by omega) ?_
      refine d0 130 12 rfl rfl rfl rfl rfl (by first | trivial | omega) ?_
      refine d1 51 138 13 rfl rfl rfl rfl rfl rfl (by omega) ?_
      refine d0 146 14 rfl rfl rfl rfl rfl (by first | trivial | omega) ?_
      refine de1 154 rfl (by kernel_rfl) ?_
      refine xbn ?_
      exact ⟨miss (k :: J) L.length, miss_lt hkJ hk, rfl, k :: J, Rd3, [0, 1], _, _, rfl, rfl, (fun i hi => upd_fO hfo hi (by unfold whatE; rw [if_neg hz])), (fun i hi => upd_fC hfc hi rfl), ⟨rfl, ⟨rfl, rfl, rfl, trivial⟩, ⟨rfl, rfl, trivial⟩⟩⟩
  · refine RX_ops PZ.up [_] 1 _ (fun j hj => by simp at hj; subst hj; rfl) ?_
    refine s1 38 10 2 rfl rfl rfl rfl rfl rfl trivial ?_
    refine e1 18 rfl ?_
    refine RX_end rfl rfl ?_
    refine xtn ?_
    refine WX_seq ?_
    refine WX_cond rfl (fun hc => by cases hc) (fun _ => ?_)
    refine WX_exit ?_
    refine xtx ?_
    refine xtx ?_
    refine xbo ?_
    refine xtn ?_
    refine WX_rowsc 0 L.length (fun i _ => whatE L i) rfl rfl (fun i c hi hc => ?_) ?_
    · obtain rfl : c = 0 := by omega
      rw [hfo i hi]; unfold fO; rw [if_pos (hall i hi)]
    refine WX_rowsc 1 L.length (fun i _ => .val (.int .i64 (sfault (L.getD i [])))) rfl rfl (fun i c hi hc => ?_) ?_
    · obtain rfl : c = 0 := by omega
      rw [hfc i hi]; unfold fC; rw [if_pos (hall i hi)]
    refine WX_sub [0, 1] [(10, .sl 0 0 L.length), (11, .sl 1 0 L.length)] [some (.rows 39 1 L.length (fun i _ => whatE L i)), some (.rows 24 1 L.length (fun i _ => .val (.int .i64 (sfault (L.getD i [])))))] ⟨rfl, ⟨rfl, rfl, trivial⟩, ⟨rfl, rfl, trivial⟩⟩ (WX_last (tail13 L hL) ?_)
    rintro π r ho rfl
    rw [(ans_free L π).1]
    exact ⟨(ans_free L []).2, rfl, ends_fin⟩
end Go.Proofs.YtpdojmebloekgaaDoor.Nice.Co
namespace Go.Proofs.YtpdojmebloekgaaDoor.Nice.Co
open Go
set_option linter.unusedVariables false
set_option linter.unusedSimpArgs false
set_option maxRecDepth 100000
set_option maxHeartbeats 4000000
theorem inB_dec (x : Int) : decide (inB x) = (decide (-36028797018963968 ≤ x) && decide (x < 36028797018963968)) := by
  rw [Bool.eq_iff_iff, decide_eq_true_eq, Bool.and_eq_true, decide_eq_true_eq, decide_eq_true_eq]; rfl
def intF (l : List Int) : Nat → Nat → D := fun i _ => .val (.int .i64 (l.getD i 0))
def intV (l : List Int) : SV := .d (.vec 1 l.length (intF l))
def fldF (l : List (Nat × Int)) : Nat → Nat → D := fun i c => match c with | 0 => .val (.int .i64 (l.getD i (0, 0)).1) | 1 => .val (.int .i64 (l.getD i (0, 0)).2) | _ => .any
def fldV (l : List (Nat × Int)) : SV := .d (.vec 2 l.length (fldF l))
def flatN (l : List (Nat × Int)) (q : Nat) : List Int := (l.take q).flatMap fun f => bitsOf f.1 f.2
def flatF (l : List (Nat × Int)) : List Int := l.flatMap fun f => bitsOf f.1 f.2
theorem flatN_succ {l : List (Nat × Int)} {q : Nat} (h : q < l.length) : flatN l (q + 1) = flatN l q ++ bitsOf (l.getD q (0, 0)).1 (l.getD q (0, 0)).2 := by
  unfold flatN
  have : l.getD q (0, 0) = l[q] := by simp [List.getD, h]
  rw [this, List.take_succ_eq_append_getElem h, List.flatMap_append]; simp
theorem flatN_all (l : List (Nat × Int)) : flatN l l.length = flatF l := by unfold flatN flatF; rw [List.take_length]
theorem cat_int {A B : List Int} (i c : Nat) (hi : i < A.length + B.length) (hc : c < 1) : catR (intF A) A.length (intF B) i c = intF (A ++ B) i c := by
  unfold catR intF
  by_cases h : i < A.length
  · rw [if_pos h]; simp [List.getD, List.getElem?_append_left h]
  · rw [if_neg h]; simp [List.getD, List.getElem?_append_right (by omega : A.length ≤ i)]
theorem lit_one (b : Int) (i c : Nat) (hi : i < 1) (hc : c < 1) : litR 1 [.val (.int .i64 b)] i c = intF [b] i c := by
  obtain rfl : i = 0 := by omega
  obtain rfl : c = 0 := by omega
  rfl
theorem cat_one {A : List Int} {b b' : Int} (hb : b' = b) (i c : Nat) (hi : i < A.length + 1) (hc : c < 1) : catR (intF A) A.length (litR 1 [.val (.int .i64 b')]) i c = intF (A ++ [b]) i c := by
  subst hb
  rw [← cat_int i c hi hc]
  unfold catR
  split
  · rfl
  · exact lit_one _ _ _ (by omega) hc
theorem cat_two {A : List Int} {a b a' b' : Int} (ha : a' = a) (hb : b' = b) (i c : Nat) (hi : i < A.length + 2) (hc : c < 1) : catR (intF A) A.length (litR 1 [.val (.int .i64 a'), .val (.int .i64 b')]) i c = intF (A ++ [a, b]) i c := by
  subst ha; subst hb
  rw [← cat_int i c hi hc]
  unfold catR
  split
  · rfl
  · obtain rfl : c = 0 := by omega
    rcases (show i - A.length = 0 ∨ i - A.length = 1 by omega) with e | e <;> rw [e] <;> rfl
theorem pow_in {q : Nat} (h : q ≤ 62) : (1 : Int) ≤ 2 ^ q ∧ (2 : Int) ^ q ≤ 4611686018427387904 := by
  have h1 : 1 ≤ 2 ^ q := Nat.one_le_two_pow
  have h2 : 2 ^ q ≤ 2 ^ 62 := Nat.pow_le_pow_right (by decide) h
  have e : ((2 ^ q : Nat) : Int) = (2 : Int) ^ q := by simp
  omega
theorem shl_one {k : Int} {q : Nat} (h : k = q) (hq : q ≤ 62) : IntKind.i64.wrap (1 * 2 ^ (min k.toNat 64)) = 2 ^ q := by
  subst h
  rw [Int.toNat_natCast, Nat.min_eq_left (by omega), Int.one_mul]
  have := pow_in hq
  exact wrap_in ⟨by omega, by omega⟩
theorem quo_in {v : Int} {q : Nat} (h0 : 0 ≤ v) (hv : v ≤ 9223372036854775807) : 0 ≤ v / 2 ^ q ∧ v / 2 ^ q ≤ 9223372036854775807 := by
  have h1 := div_pow_bd v q (by omega) (by omega)
  exact ⟨Int.ediv_nonneg h0 (Int.le_of_lt (Int.pow_pos (by decide))), by omega⟩
def zf : Nat → Int → List (Nat × Int)
  | 0, _ => [(1, 0)]
  | n + 1, x => [(clW (n + 1), clH (n + 1)), (clB (n + 1), x)]
theorem zf_flat {x : Int} (hx : cls x = 0 → x = 0) : flatF (zf (cls x) x) = bitsOf (clW (cls x)) (clH (cls x)) ++ bitsOf (clB (cls x)) x := by
  cases e : cls x with
  | zero => rw [hx e]; rfl
  | succ n => simp [zf, flatF]
theorem zf_ok {x : Int} (h0 : 0 ≤ x) (h1 : x ≤ 9223372036854775807) (n : Nat) (hn : n < 5) : (zf n x).length ≤ 2 ∧ ∀ i, ((zf n x).getD i (0, 0)).1 ≤ 60 ∧ 0 ≤ ((zf n x).getD i (0, 0)).2 ∧ ((zf n x).getD i (0, 0)).2 ≤ 9223372036854775807 := by
  match n, hn with
  | 0, _ =>
    refine ⟨by simp [zf], fun i => ?_⟩
    match i with
    | 0 => exact ⟨by simp [zf], by simp [zf], by simp [zf]⟩
    | i + 1 => exact ⟨by simp [zf], by simp [zf], by simp [zf]⟩
  | n + 1, hn =>
    refine ⟨by simp [zf], fun i => ?_⟩
    match i with
    | 0 =>
      refine ⟨clW_le _, ?_, (clH_in _).2⟩
      show 0 ≤ clH (n + 1)
      match n, hn with
      | 0, _ | 1, _ | 2, _ | 3, _ => decide
      | n + 4, hn => omega
    | 1 => exact ⟨clB_le _, h0, h1⟩
    | i + 2 => exact ⟨by simp [zf], by simp [zf], by simp [zf]⟩
def numsN (l : List Smp) (k : Nat) : List Int := (List.range k).flatMap fun i => [cT (lstN l i) (l.getD i default), cV (lstN l i) (l.getD i default)]
def nums (l : List Smp) : List Int := numsN l l.length
theorem numsN_succ (l : List Smp) (k : Nat) : numsN l (k + 1) = numsN l k ++ [cT (lstN l k) (l.getD k default), cV (lstN l k) (l.getD k default)] := by unfold numsN; rw [List.range_succ, List.flatMap_append]; simp
theorem numsN_len (l : List Smp) : ∀ k, (numsN l k).length = 2 * k
  | 0 => rfl
  | k + 1 => by rw [numsN_succ, List.length_append, numsN_len l k]; simp; omega
theorem cT_eq (l : List Smp) (k : Nat) (s : Smp) : cT (lstN l k) s = if k = 0 then s.t else if k = 1 then s.t - (l.getD 0 default).t else s.t - 2 * (l.getD (k - 1) default).t + (l.getD (k - 2) default).t := by
  unfold cT
  rw [lstN_n, lstN_st]
  by_cases h0 : k = 0
  · subst h0; rfl
  · rw [if_neg (by omega), if_neg h0, (lstN_t l (by omega)).1]
    by_cases h1 : k = 1
    · subst h1; rw [if_neg (by omega), if_pos rfl]; simp
    · rw [if_pos (by omega), if_neg h1]; omega
theorem cV_eq (l : List Smp) (k : Nat) (s : Smp) : cV (lstN l k) s = if k = 0 then s.v else s.v - (l.getD (k - 1) default).v := by
  unfold cV
  rw [lstN_n]
  by_cases h0 : k = 0
  · subst h0; rfl
  · rw [if_neg (by omega), if_neg h0, (lstN_t l (by omega)).2]
theorem nums_sm {l : List Smp} (hz : faultTo l l.length = 0) (hl : l.length ≤ 120) : ∀ n ∈ nums l, isSm n := by
  intro n hn
  unfold nums numsN at hn
  obtain ⟨i, hi, hm⟩ := List.mem_flatMap.1 hn
  rw [List.mem_range] at hi
  have hs := smp_at hz hi
  have hc := c_small (lst_in (faultTo_le (Nat.le_of_lt hi) hz) (by omega)) hs.1 hs.2.1
  simp only [List.mem_cons, List.not_mem_nil, or_false] at hm
  rcases hm with rfl | rfl
  · exact hc.1
  · exact hc.2
theorem getI_mem {l : List Int} {q : Nat} (h : q < l.length) : l.getD q 0 ∈ l := by
  have : l.getD q 0 = l[q] := by simp [List.getD, h]
  rw [this]; exact List.getElem_mem h
def refL (l : List Smp) (q : Nat) : List Int := bitsOf 8 l.length ++ ((nums l).take q).flatMap zbits
theorem refL_succ {l : List Smp} {q : Nat} (h : q < (nums l).length) : refL l (q + 1) = refL l q ++ zbits ((nums l).getD q 0) := by
  unfold refL
  have : (nums l).getD q 0 = (nums l)[q] := by simp [List.getD, h]
  rw [this, List.take_succ_eq_append_getElem h, List.flatMap_append]; simp
theorem encL_eq (l : List Smp) : ∀ k, encL l k = bitsOf 8 l.length ++ (numsN l k).flatMap zbits
  | 0 => by simp [encL, numsN]
  | k + 1 => by
    show zput (zput (encL l k) _) _ = _
    rw [zput_eq, zput_eq, encL_eq l k, numsN_succ, List.flatMap_append]
    simp
theorem refL_all (l : List Smp) : refL l (nums l).length = encL l l.length := by unfold refL; rw [List.take_length, encL_eq]; rfl
theorem zbits_len (n : Int) : (zbits n).length ≤ 120 := by
  have := zput_len [] n
  rw [zput_eq] at this; simpa using this
theorem refL_len (l : List Smp) : ∀ q, (refL l q).length ≤ 8 + 120 * q := by
  intro q
  induction q with
  | zero => unfold refL; simp [bitsOf_length]
  | succ q ih =>
    by_cases h : q < (nums l).length
    · rw [refL_succ h, List.length_append]; have := zbits_len ((nums l).getD q 0); omega
    · have : refL l (q + 1) = refL l q := by unfold refL; rw [List.take_of_length_le (by omega), List.take_of_length_le (by omega)]
      rw [this]; omega
theorem refL_bits (l : List Smp) : AllBits (refL l (nums l).length) := by rw [refL_all]; exact encL_bits l _
theorem pack_zero (L : List Int) (hL : AllBits L) : pack (L ++ [0]) = packRoom L := by
  rw [pack_snoc L hL 0]
  apply List.ext_getElem?
  intro j
  rw [List.getElem?_set, packRoom_length]
  by_cases he : L.length / 8 = j
  · subst he
    rw [if_pos rfl, if_pos (by omega), packRoom_get L _ (by omega)]
    simp
  · rw [if_neg he]
theorem bit_take (L : List Int) (k : Nat) (h : k < L.length) : L.take (k + 1) = L.take k ++ [L.getD k 0] := by
  rw [List.take_succ_eq_append_getElem h]; simp [List.getD, List.getElem?_eq_getElem h]
theorem shr128 {k : Int} {r : Nat} (h : k = r) (hr : r < 8) : (128 : Int).fdiv (2 ^ (min k.toNat 8)) = 2 ^ (7 - r) := by
  subst h
  have e : r = 0 ∨ r = 1 ∨ r = 2 ∨ r = 3 ∨ r = 4 ∨ r = 5 ∨ r = 6 ∨ r = 7 := by omega
  rcases e with rfl | rfl | rfl | rfl | rfl | rfl | rfl | rfl <;> decide
theorem add_bit {M : List Int} (hM : AllBits M) : IntKind.u8.wrap (packByte M (M.length / 8) + 2 ^ (7 - M.length % 8)) = packByte M (M.length / 8) + 1 * 2 ^ (7 - M.length % 8) := by
  have h1 : AllBits [(1 : Int)] := by intro x hx; simp at hx; exact .inr hx
  have h2 := packByte_last M hM 1 (M.length / 8) (M.length % 8) (by omega) (by omega)
  have h3 := packByte_bd (M ++ [1]) (hM.append h1) (M.length / 8)
  rw [h2.1] at h3
  rw [IntKind.wrap_u8, Int.one_mul]
  rw [Int.one_mul] at h3
  exact Int.emod_eq_of_lt h3.1 (by omega)
theorem inb_any (x : Int) : Spec Tryd.prog GC 76 [SV.i x] [] (fun r ho => r = SV.b (decide (inB x)) ∧ ho = []) := by
  refine start 9 0 Tryd.func76 rfl rfl rfl rfl ?_
  refine r1 ?_
  refine s1 2 0 1 rfl rfl rfl rfl rfl rfl trivial ?_
  refine e1 8 rfl ?_
  refine keep [0] rfl ?_
  refine r1 ?_
  refine s1 3 8 1 rfl rfl rfl rfl rfl rfl trivial ?_
  refine s1 4 16 2 rfl rfl rfl rfl rfl rfl (by first | trivial | omega) ?_
  refine s1 5 24 3 rfl rfl rfl rfl rfl rfl trivial ?_
  refine ask 5 rfl (fun hg1_5 => ?_) (fun hg1_5 => ?_)
  · skip
    try simp only [cs, ne_eq] at hg1_5
    refine g1 2 true 5 6 4 rfl rfl rfl rfl rfl ?_
    refine s1 6 32 4 rfl rfl rfl rfl rfl rfl trivial ?_
    refine g1 2 true 5 7 5 rfl rfl rfl rfl rfl ?_
    refine s1 7 40 5 rfl rfl rfl rfl rfl rfl (by first | trivial | omega) ?_
    refine s1 8 48 6 rfl rfl rfl rfl rfl rfl trivial ?_
    refine s1 2 56 7 rfl rfl rfl rfl rfl rfl trivial ?_
    refine e1 64 rfl ?_
    refine keep [2] rfl ?_
    refine W_ret ?_
    exact out1 2 (SV.b (decide (inB x))) (π := []) (hout := []) Tryd.results76 rfl (by show SV.b _ = SV.b _; rw [inB_dec]; refine congrArg SV.b (Bool.eq_iff_iff.2 ?_); simp at *; try omega) rfl rfl trivial ⟨rfl, rfl⟩
  try simp only [cs, ne_eq] at hg1_5
  refine g0 2 true 5 6 4 rfl rfl rfl rfl rfl rfl ?_
  refine g0 2 true 5 7 5 rfl rfl rfl rfl rfl rfl ?_
  refine s1 8 48 6 rfl rfl rfl rfl rfl rfl trivial ?_
  refine s1 2 56 7 rfl rfl rfl rfl rfl rfl trivial ?_
  refine e1 64 rfl ?_
  refine keep [2] rfl ?_
  refine W_ret ?_
  exact out1 2 (SV.b (decide (inB x))) (π := []) (hout := []) Tryd.results76 rfl (by show SV.b _ = SV.b _; rw [inB_dec]; refine congrArg SV.b (Bool.eq_iff_iff.2 ?_); simp at *; try omega) rfl rfl trivial ⟨rfl, rfl⟩
theorem sfault_any (l : List Smp) (hin : SmpIn l) : Spec Tryd.prog GC 36 [smpV l] [] (fun r ho => r = SV.i (sfault l) ∧ ho = []) := by
  refine start 39 0 Tryd.func36 rfl rfl rfl rfl ?_
  refine r1 ?_
  refine s1 2 0 1 rfl rfl rfl rfl rfl rfl trivial ?_
  refine e1 8 rfl ?_
  refine keep [0] rfl ?_
  refine W_seq ?_
  refine r1 ?_
  refine s1 5 8 1 rfl rfl rfl rfl rfl rfl trivial ?_
  refine s1 6 16 2 rfl rfl rfl rfl rfl rfl (by first | trivial | omega) ?_
  refine s1 7 24 3 rfl rfl rfl rfl rfl rfl (by first | trivial | omega) ?_
  refine e1 32 rfl ?_
  refine keep [0, 7] rfl ?_
  refine q1 rfl (fun hc1 => ?_) (fun hc1 => ?_)
  · skip
    try simp only [cs, ne_eq] at hc1
    refine r1 ?_
    refine s1 2 32 1 rfl rfl rfl rfl rfl rfl trivial ?_
    refine e1 40 rfl ?_
    refine keep [2] rfl ?_
    refine W_ret ?_
    refine tr ?_
    exact out1 2 (SV.i (sfault l)) (π := []) (hout := []) Tryd.results36 rfl (by unfold sfault; rw [if_pos (by omega)]; rfl) rfl rfl trivial ⟨rfl, rfl⟩
  try simp only [cs, ne_eq] at hc1
  refine W_skip ?_
  refine tn ?_
  refine W_seq ?_
  refine r1 ?_
  refine s1 8 32 1 rfl rfl rfl rfl rfl rfl trivial ?_
  refine s1 9 40 2 rfl rfl rfl rfl rfl rfl (by first | trivial | omega) ?_
  refine s1 10 48 3 rfl rfl rfl rfl rfl rfl trivial ?_
  refine e1 56 rfl ?_
  refine keep [0, 8, 9, 10] rfl ?_
  refine W_block ?_
  have hl := hin.n
  have hl2 : l.length ≤ 120 := (by omega)
  refine loop (α := Nat) 0 (fun k => [(0, smpV l), (8, smpV l), (9, SV.i l.length), (10, SV.i (k))]) (fun k => []) (fun k => (k) ≤ l.length ∧ faultTo l (k) = 0) (fun k => l.length - (k)) (((0) : Nat)) [] (fun _ => rfl) (show (0) ≤ l.length ∧ faultTo l (0) = 0 from ⟨Nat.zero_le _, rfl⟩) rfl ⟨rfl, rfl, rfl, rfl, trivial⟩ trivial (fun k hx => ?_)
  show W _ _ _ ⟨tOf [(0, smpV l), (8, smpV l), (9, SV.i l.length), (10, SV.i k)], hOf [], 0⟩
  have hx : k ≤ l.length ∧ faultTo l k = 0 := hx
  obtain ⟨hk, hf⟩ := hx
  refine r1 ?_
  refine s1 11 0 1 rfl rfl rfl rfl rfl rfl (by first | trivial | omega) ?_
  refine e1 8 rfl ?_
  refine keep [0, 8, 9, 10, 11] rfl ?_
  refine W_seq ?_
  refine q1 rfl (fun hc4 => ?_) (fun hc4 => ?_)
  · skip
    try simp only [cs, ne_eq] at hc4
    refine W_skip ?_
    refine tn ?_
    refine W_seq ?_
    refine W_block ?_
    refine r1 ?_
    refine s1 12 8 1 rfl rfl rfl rfl rfl rfl trivial ?_
    refine s1 13 16 2 rfl rfl rfl rfl rfl rfl (by first | trivial | omega) ?_
    refine s1 14 24 3 rfl rfl rfl rfl rfl rfl (by first | trivial | omega) ?_
    refine val 14 (smpS (l.getD k default)) rfl (by first | rfl | (simp only [Nat.zero_add, Int.toNat_natCast]; rfl)) ?_
    refine s1 4 32 4 rfl rfl rfl rfl rfl rfl trivial ?_
    refine s1 3 40 5 rfl rfl rfl rfl rfl rfl trivial ?_
    refine s0 48 6 rfl rfl rfl rfl rfl (by first | trivial | omega) ?_
    refine e1 56 rfl ?_
    refine keep [0, 3, 4, 8, 9, 10] rfl ?_
    refine W_seq ?_
    refine r1 ?_
    refine s1 15 56 1 rfl rfl rfl rfl rfl rfl trivial ?_
    refine s1 16 64 2 rfl rfl rfl rfl rfl rfl (by first | trivial | omega) ?_
    refine c1 (inb_any (l.getD k default).t) [] [] 17 72 3 rfl rfl rfl rfl rfl rfl rfl rfl Tryd.func76 rfl rfl rfl rfl trivial rfl rfl ?_
    refine s1 18 80 4 rfl rfl rfl rfl rfl rfl trivial ?_
    refine s1 19 88 5 rfl rfl rfl rfl rfl rfl trivial ?_
    refine ask 19 rfl (fun hg6_19 => ?_) (fun hg6_19 => ?_)
    · skip
      try simp only [cs, ne_eq] at hg6_19
      refine g0 4 false 19 20 6 rfl rfl rfl rfl rfl rfl ?_
      refine g0 4 false 19 21 7 rfl rfl rfl rfl rfl rfl ?_
      refine g0 4 false 19 22 8 rfl rfl rfl rfl rfl rfl ?_
      refine g0 4 false 19 23 9 rfl rfl rfl rfl rfl rfl ?_
      refine s1 24 128 10 rfl rfl rfl rfl rfl rfl trivial ?_
      refine e1 136 rfl ?_
      refine keep [0, 3, 4, 8, 9, 10, 24] rfl ?_
      refine q1 rfl (fun hc6 => ?_) (fun hc6 => ?_)
      · skip
        try simp only [cs, ne_eq] at hc6
        refine r1 ?_
        refine s1 2 136 1 rfl rfl rfl rfl rfl rfl trivial ?_
        refine e1 144 rfl ?_
        refine keep [2] rfl ?_
        refine W_ret ?_
        refine tr ?_
        refine br ?_
        refine tr ?_
        refine tr ?_
        refine br ?_
        refine tr ?_
        exact out1 2 (SV.i (sfault l)) (π := []) (hout := []) Tryd.results36 rfl (by unfold sfault; rw [if_neg (by omega)]; have hlf : lfault (lstN l k) (l.getD k default) = 11 := (by unfold lfault; rw [if_neg (by rintro ⟨g1, g2⟩; simp_all)]); rw [faultTo_at (by omega) hf (by rw [hlf]; decide), hlf]; rfl) rfl rfl trivial ⟨rfl, rfl⟩
      exact absurd hc6 (by decide)
    try simp only [cs, ne_eq] at hg6_19
    refine g1 4 false 19 20 6 rfl rfl rfl rfl rfl ?_
    refine s1 20 96 6 rfl rfl rfl rfl rfl rfl trivial ?_
    refine g1 4 false 19 21 7 rfl rfl rfl rfl rfl ?_
    refine s1 21 104 7 rfl rfl rfl rfl rfl rfl (by first | trivial | omega) ?_
    refine g1 4 false 19 22 8 rfl rfl rfl rfl rfl ?_
    refine c1 (inb_any (l.getD k default).v) [] [] 22 112 8 rfl rfl rfl rfl rfl rfl rfl rfl Tryd.func76 rfl rfl rfl rfl trivial rfl rfl ?_
    refine g1 4 false 19 23 9 rfl rfl rfl rfl rfl ?_
    refine s1 23 120 9 rfl rfl rfl rfl rfl rfl trivial ?_
    refine s1 24 128 10 rfl rfl rfl rfl rfl rfl trivial ?_
    refine e1 136 rfl ?_
    refine keep [0, 3, 4, 8, 9, 10, 24] rfl ?_
    refine q1 rfl (fun hc6 => ?_) (fun hc6 => ?_)
    · skip
      try simp only [cs, ne_eq] at hc6
      refine r1 ?_
      refine s1 2 136 1 rfl rfl rfl rfl rfl rfl trivial ?_
      refine e1 144 rfl ?_
      refine keep [2] rfl ?_
      refine W_ret ?_
      refine tr ?_
      refine br ?_
      refine tr ?_
      refine tr ?_
      refine br ?_
      refine tr ?_
      exact out1 2 (SV.i (sfault l)) (π := []) (hout := []) Tryd.results36 rfl (by unfold sfault; rw [if_neg (by omega)]; have hlf : lfault (lstN l k) (l.getD k default) = 11 := (by unfold lfault; rw [if_neg (by rintro ⟨g1, g2⟩; simp_all)]); rw [faultTo_at (by omega) hf (by rw [hlf]; decide), hlf]; rfl) rfl rfl trivial ⟨rfl, rfl⟩
    try simp only [cs, ne_eq] at hc6
    refine W_skip ?_
    refine tn ?_
    refine rd1 rfl ?_
    refine d1 25 136 1 rfl rfl rfl rfl rfl rfl trivial ?_
    refine d1 26 144 2 rfl rfl rfl rfl rfl rfl (by first | trivial | omega) ?_
    refine d1 27 152 3 rfl rfl rfl rfl rfl rfl trivial ?_
    refine ask 27 rfl (fun hg8_27 => ?_) (fun hg8_27 => ?_)
    · skip
      try simp only [cs, ne_eq] at hg8_27
      refine g1 2 true 27 28 4 rfl rfl rfl rfl rfl ?_
      refine d1 28 160 4 rfl rfl rfl rfl rfl rfl trivial ?_
      refine g1 2 true 27 29 5 rfl rfl rfl rfl rfl ?_
      refine d1 29 168 5 rfl rfl rfl rfl rfl rfl (by first | trivial | omega) ?_
      refine g1 2 true 27 30 6 rfl rfl rfl rfl rfl ?_
      refine d1 30 176 6 rfl rfl rfl rfl rfl rfl trivial ?_
      refine g1 2 true 27 31 7 rfl rfl rfl rfl rfl ?_
      refine d1 31 184 7 rfl rfl rfl rfl rfl rfl trivial ?_
      refine g1 2 true 27 32 8 rfl rfl rfl rfl rfl ?_
      refine dA 32 192 8 rfl rfl rfl rfl rfl rfl rfl rfl rfl (by unfold inRange; omega) ?_
      refine g1 2 true 27 33 9 rfl rfl rfl rfl rfl ?_
      refine d1 33 200 9 rfl rfl rfl rfl rfl rfl (by first | trivial | omega) ?_
      refine g1 2 true 27 34 10 rfl rfl rfl rfl rfl ?_
      refine d1 34 208 10 rfl rfl rfl rfl rfl rfl trivial ?_
      refine g1 2 true 27 35 11 rfl rfl rfl rfl rfl ?_
      refine d1 35 216 11 rfl rfl rfl rfl rfl rfl (by omega) ?_
      refine val 35 (SV.i (l.getD (k - 1) default).t) rfl (by rw [show ((k : Int) - 1).toNat = k - 1 by omega]) ?_
      refine g1 2 true 27 36 12 rfl rfl rfl rfl rfl ?_
      refine d1 36 224 12 rfl rfl rfl rfl rfl rfl (by first | trivial | omega) ?_
      refine d1 37 232 13 rfl rfl rfl rfl rfl rfl trivial ?_
      refine de1 240 rfl (by kernel_rfl) ?_
      refine keep [0, 8, 9, 10, 37] rfl ?_
      refine q1 rfl (fun hc8 => ?_) (fun hc8 => ?_)
      · skip
        try simp only [cs, ne_eq] at hc8
        refine r1 ?_
        refine s1 2 240 1 rfl rfl rfl rfl rfl rfl trivial ?_
        refine e1 248 rfl ?_
        refine keep [2] rfl ?_
        refine W_ret ?_
        refine br ?_
        refine tr ?_
        refine tr ?_
        refine br ?_
        refine tr ?_
        exact out1 2 (SV.i (sfault l)) (π := []) (hout := []) Tryd.results36 rfl (by unfold sfault; rw [if_neg (by omega)]; have hlf : lfault (lstN l k) (l.getD k default) = 9 := (by unfold lfault; rw [if_pos (by constructor <;> simp_all), if_pos (by rw [lstN_n, (lstN_t l (by omega)).1]; omega)]); rw [faultTo_at (by omega) hf (by rw [hlf]; decide), hlf]; rfl) rfl rfl trivial ⟨rfl, rfl⟩
      try simp only [cs, ne_eq] at hc8
      refine W_skip ?_
      refine bn ?_
      refine tn ?_
      refine r0 ?_
      refine sA 38 240 1 rfl rfl rfl rfl rfl rfl rfl rfl rfl (by unfold inRange; omega) ?_
      refine s1 10 248 2 rfl rfl rfl rfl rfl rfl trivial ?_
      refine e1 256 rfl ?_
      refine tn ?_
      exact again ((k + 1 : Nat)) [] (show (k + 1) ≤ l.length ∧ faultTo l (k + 1) = 0 from ⟨by omega, faultTo_step hf (by unfold lfault; rw [if_pos (by constructor <;> simp_all), if_neg (by rw [lstN_n]; rintro ⟨g1, g2⟩; rw [(lstN_t l (by omega)).1] at g2; omega)])⟩) (show l.length - (k + 1) < l.length - k from (by omega)) rfl ⟨rfl, rfl, rfl, rfl, trivial⟩ trivial
    try simp only [cs, ne_eq] at hg8_27
    refine g0 2 true 27 28 4 rfl rfl rfl rfl rfl rfl ?_
    refine g0 2 true 27 29 5 rfl rfl rfl rfl rfl rfl ?_
    refine g0 2 true 27 30 6 rfl rfl rfl rfl rfl rfl ?_
    refine g0 2 true 27 31 7 rfl rfl rfl rfl rfl rfl ?_
    refine g0 2 true 27 32 8 rfl rfl rfl rfl rfl rfl ?_
    refine g0 2 true 27 33 9 rfl rfl rfl rfl rfl rfl ?_
    refine g0 2 true 27 34 10 rfl rfl rfl rfl rfl rfl ?_
    refine g0 2 true 27 35 11 rfl rfl rfl rfl rfl rfl ?_
    refine g0 2 true 27 36 12 rfl rfl rfl rfl rfl rfl ?_
    refine d1 37 232 13 rfl rfl rfl rfl rfl rfl trivial ?_
    refine de1 240 rfl (by kernel_rfl) ?_
    refine keep [0, 8, 9, 10, 37] rfl ?_
    refine q1 rfl (fun hc8 => ?_) (fun hc8 => ?_)
    · skip
      exact absurd hc8 (by decide)
    try simp only [cs, ne_eq] at hc8
    refine W_skip ?_
    refine bn ?_
    refine tn ?_
    refine r0 ?_
    refine sA 38 240 1 rfl rfl rfl rfl rfl rfl rfl rfl rfl (by unfold inRange; omega) ?_
    refine s1 10 248 2 rfl rfl rfl rfl rfl rfl trivial ?_
    refine e1 256 rfl ?_
    refine tn ?_
    exact again ((k + 1 : Nat)) [] (show (k + 1) ≤ l.length ∧ faultTo l (k + 1) = 0 from ⟨by omega, faultTo_step hf (by unfold lfault; rw [if_pos (by constructor <;> simp_all), if_neg (by rw [lstN_n]; rintro ⟨g1, g2⟩; rw [(lstN_t l (by omega)).1] at g2; omega)])⟩) (show l.length - (k + 1) < l.length - k from (by omega)) rfl ⟨rfl, rfl, rfl, rfl, trivial⟩ trivial
  try simp only [cs, ne_eq] at hc4
  refine W_exit ?_
  refine tx ?_
  refine tx ?_
  refine bx ?_
  refine tn ?_
  refine r1 ?_
  refine s1 2 8 1 rfl rfl rfl rfl rfl rfl trivial ?_
  refine e1 16 rfl ?_
  refine keep [2] rfl ?_
  refine W_ret ?_
  exact out1 2 (SV.i (sfault l)) (π := []) (hout := []) Tryd.results36 rfl (by unfold sfault; rw [if_neg (by omega), show l.length = k by omega, hf]; rfl) rfl rfl trivial ⟨rfl, rfl⟩
theorem bits_any (fs : List (Nat × Int)) (hl : fs.length ≤ 10) (hf : ∀ i, (fs.getD i (0, 0)).1 ≤ 60 ∧ 0 ≤ (fs.getD i (0, 0)).2 ∧ (fs.getD i (0, 0)).2 ≤ 9223372036854775807) : Spec Tryd.prog GC 37 [fldV fs] [] (fun r ho => r = .sl 0 0 (flatF fs).length ∧ ho = [some (.rows 3 1 (flatF fs).length (intF (flatF fs)))]) := by
  refine start 33 0 Tryd.func37 rfl rfl rfl rfl ?_
  refine r1 ?_
  refine s1 2 0 1 rfl rfl rfl rfl rfl rfl trivial ?_
  refine e1 8 rfl ?_
  refine keep [0] rfl ?_
  refine r1 ?_
  refine s1 3 8 1 rfl rfl rfl rfl rfl rfl trivial ?_
  refine e1 16 rfl ?_
  refine keep [0, 3] rfl ?_
  refine W_seq ?_
  refine r1 ?_
  refine s1 7 16 1 rfl rfl rfl rfl rfl rfl trivial ?_
  refine s1 8 24 2 rfl rfl rfl rfl rfl rfl (by first | trivial | omega) ?_
  refine s1 9 32 3 rfl rfl rfl rfl rfl rfl trivial ?_
  refine e1 40 rfl ?_
  refine keep [3, 7, 8, 9] rfl ?_
  refine W_block ?_
  refine ghostly 3 3 1 (intF []) rfl ?_
  refine loop (α := Nat × List Int) 1 (fun z => [(3, .sl 0 0 (z.2).length), (7, fldV fs), (8, SV.i fs.length), (9, SV.i (z.1))]) (fun z => [some (.rows 3 1 (z.2).length (intF (z.2)))]) (fun z => (z.1) ≤ fs.length ∧ (z.2) = flatN fs (z.1) ∧ (z.2).length ≤ 60 * (z.1)) (fun z => fs.length - (z.1)) (((0, []) : Nat × List Int)) [40] (fun _ => rfl) (show (0) ≤ fs.length ∧ ([]) = flatN fs (0) ∧ ([]).length ≤ 60 * (0) from ⟨Nat.zero_le _, rfl, by decide⟩) rfl ⟨rfl, rfl, rfl, rfl, trivial⟩ ⟨rfl, trivial⟩ (fun z hx => ?_)
  obtain ⟨q, L⟩ := z
  show W _ _ _ ⟨tOf [(3, .sl 0 0 L.length), (7, fldV fs), (8, SV.i fs.length), (9, SV.i q)], hOf [some (.rows 3 1 L.length (intF L))], 1⟩
  have hx : q ≤ fs.length ∧ L = flatN fs q ∧ L.length ≤ 60 * q := hx
  obtain ⟨hq, hL, hLl⟩ := hx
  have hF := hf q
  refine r1 ?_
  refine s1 10 1 1 rfl rfl rfl rfl rfl rfl (by first | trivial | omega) ?_
  refine e1 9 rfl ?_
  refine keep [3, 7, 8, 9, 10] rfl ?_
  refine W_seq ?_
  refine q1 rfl (fun hc3 => ?_) (fun hc3 => ?_)
  · skip
    try simp only [cs, ne_eq] at hc3
    refine W_skip ?_
    refine tn ?_
    refine W_seq ?_
    refine W_block ?_
    refine r1 ?_
    refine s1 11 9 1 rfl rfl rfl rfl rfl rfl (by first | trivial | omega) ?_
    refine s1 12 17 2 rfl rfl rfl rfl rfl rfl (by first | trivial | omega) ?_
    refine val 12 (.agg [SV.i (fs.getD q (0, 0)).1, SV.i (fs.getD q (0, 0)).2]) rfl (by first | rfl | (simp only [Nat.zero_add, Int.toNat_natCast]; rfl)) ?_
    refine s1 5 25 3 rfl rfl rfl rfl rfl rfl trivial ?_
    refine s0 33 4 rfl rfl rfl rfl rfl (by first | trivial | omega) ?_
    refine e1 41 rfl ?_
    refine keep [3, 5, 7, 8, 9] rfl ?_
    refine r1 ?_
    refine s1 6 41 1 rfl rfl rfl rfl rfl rfl trivial ?_
    refine e1 49 rfl ?_
    refine keep [3, 5, 6, 7, 8, 9] rfl ?_
    refine W_block ?_
    refine loop (α := Nat × List Int × Int) 2 (fun z => [(3, .sl 0 0 (z.2.1).length), (5, .ptr 1 0 0), (6, SV.i (z.2.2)), (7, fldV fs), (8, SV.i fs.length), (9, SV.i q)]) (fun z => [some (.rows 3 1 (z.2.1).length (intF (z.2.1))), some (.cells 82 2 [SV.i (fs.getD q (0, 0)).1, SV.i (fs.getD q (0, 0)).2])]) (fun z => (z.1) ≤ (fs.getD q (0, 0)).1 ∧ (z.2.1) = L ++ (bitsOf (fs.getD q (0, 0)).1 (fs.getD q (0, 0)).2).take (z.1) ∧ (z.2.2) = (z.1) + 1 ∧ (z.2.1).length ≤ 60 * q + (z.1)) (fun z => (fs.getD q (0, 0)).1 - (z.1)) (((0, L, 1) : Nat × List Int × Int)) [0, 25] (fun _ => rfl) (show (0) ≤ (fs.getD q (0, 0)).1 ∧ (L) = L ++ (bitsOf (fs.getD q (0, 0)).1 (fs.getD q (0, 0)).2).take (0) ∧ (1) = (0) + 1 ∧ (L).length ≤ 60 * q + (0) from ⟨Nat.zero_le _, by simp, by simp, by omega⟩) rfl ⟨rfl, rfl, rfl, rfl, rfl, rfl, trivial⟩ ⟨rfl, rfl, trivial⟩ (fun z hx => ?_)
    obtain ⟨j, M, k⟩ := z
    show W _ _ _ ⟨tOf [(3, .sl 0 0 M.length), (5, .ptr 1 0 0), (6, SV.i k), (7, fldV fs), (8, SV.i fs.length), (9, SV.i q)], hOf [some (.rows 3 1 M.length (intF M)), some (.cells 82 2 [SV.i (fs.getD q (0, 0)).1, SV.i (fs.getD q (0, 0)).2])], 2⟩
    have hx : j ≤ (fs.getD q (0, 0)).1 ∧ M = L ++ (bitsOf (fs.getD q (0, 0)).1 (fs.getD q (0, 0)).2).take j ∧ k = j + 1 ∧ M.length ≤ 60 * q + j := hx
    obtain ⟨hj, hM, hk, hMl⟩ := hx
    refine W_seq ?_
    refine r1 ?_
    refine s1 13 2 1 rfl rfl rfl rfl rfl rfl trivial ?_
    refine s1 14 10 2 rfl rfl rfl rfl rfl rfl trivial ?_
    refine s1 15 18 3 rfl rfl rfl rfl rfl rfl (by first | trivial | omega) ?_
    refine s1 16 26 4 rfl rfl rfl rfl rfl rfl (by first | trivial | omega) ?_
    refine e1 34 rfl ?_
    refine keep [3, 5, 6, 7, 8, 9, 16] rfl ?_
    refine q1 rfl (fun hc6 => ?_) (fun hc6 => ?_)
    · skip
      try simp only [cs, ne_eq] at hc6
      refine W_skip ?_
      refine tn ?_
      refine W_seq ?_
      refine W_block ?_
      refine rd0 rfl ?_
      refine d1 19 34 1 rfl rfl rfl rfl rfl rfl trivial ?_
      refine d1 20 42 2 rfl rfl rfl rfl rfl rfl trivial ?_
      refine d1 21 50 3 rfl rfl rfl rfl rfl rfl (by first | trivial | omega) ?_
      refine d1 22 58 4 rfl rfl rfl rfl rfl rfl trivial ?_
      refine d1 23 66 5 rfl rfl rfl rfl rfl rfl (by first | trivial | omega) ?_
      refine d1 24 74 6 rfl rfl rfl rfl rfl rfl trivial ?_
      refine dA 25 82 7 rfl rfl rfl rfl rfl rfl rfl rfl rfl (by unfold inRange; omega) ?_
      refine d1 26 90 8 rfl rfl rfl rfl rfl rfl (by omega) ?_
      refine val 26 (SV.i (2 ^ ((fs.getD q (0, 0)).1 - 1 - j))) rfl (congrArg (fun x => SV.d (D.val (Value.int .i64 x))) (shl_one (by omega) (by omega))) ?_
      refine dD 27 98 9 rfl rfl rfl rfl rfl rfl rfl rfl rfl ⟨hF.2.1, hF.2.2, (by have := pow_in (q := (fs.getD q (0, 0)).1 - 1 - j) (by omega); omega)⟩ ?_
      refine dD 28 106 10 rfl rfl rfl rfl rfl rfl rfl rfl rfl ⟨(quo_in hF.2.1 hF.2.2).1, (quo_in hF.2.1 hF.2.2).2, by decide⟩ ?_
      refine d1 29 114 11 rfl rfl rfl rfl rfl rfl trivial ?_
      refine d1 30 122 12 rfl rfl rfl rfl rfl rfl ⟨Nat.le_refl _, trivial, (by show (M.length + 1) * 8 ≤ 140737488355328; omega), (by simp only [maxLen]; omega)⟩ ?_
      refine d1 3 130 13 rfl rfl rfl rfl rfl rfl trivial ?_
      refine de1 138 rfl (by kernel_rfl) ?_
      refine bn ?_
      refine tn ?_
      refine rowsc 122 (M ++ [((fs.getD q (0, 0)).2 / 2 ^ ((fs.getD q (0, 0)).1 - 1 - j) % 2)]).length (intF (M ++ [((fs.getD q (0, 0)).2 / 2 ^ ((fs.getD q (0, 0)).1 - 1 - j) % 2)])) rfl (by simp) (fun i c hi hc => cat_one rfl i c hi hc) ?_
      refine cval 3 (.sl 122 0 (M ++ [((fs.getD q (0, 0)).2 / 2 ^ ((fs.getD q (0, 0)).1 - 1 - j) % 2)]).length) rfl (by simp) ?_
      refine r0 ?_
      refine s1 17 138 1 rfl rfl rfl rfl rfl rfl trivial ?_
      refine sA 18 146 2 rfl rfl rfl rfl rfl rfl rfl rfl rfl (by unfold inRange; omega) ?_
      refine s1 6 154 3 rfl rfl rfl rfl rfl rfl trivial ?_
      refine e1 162 rfl ?_
      refine tn ?_
      exact again (((j + 1, M ++ [((fs.getD q (0, 0)).2 / 2 ^ ((fs.getD q (0, 0)).1 - 1 - j) % 2)], k + 1) : Nat × List Int × Int)) [122, 1] (show (j + 1) ≤ (fs.getD q (0, 0)).1 ∧ (M ++ [((fs.getD q (0, 0)).2 / 2 ^ ((fs.getD q (0, 0)).1 - 1 - j) % 2)]) = L ++ (bitsOf (fs.getD q (0, 0)).1 (fs.getD q (0, 0)).2).take (j + 1) ∧ (k + 1) = (j + 1) + 1 ∧ (M ++ [((fs.getD q (0, 0)).2 / 2 ^ ((fs.getD q (0, 0)).1 - 1 - j) % 2)]).length ≤ 60 * q + (j + 1) from ⟨by omega, by rw [hM, bitsOf_take _ j _ (by omega), List.append_assoc], by omega, by rw [List.length_append]; show M.length + 1 ≤ _; omega⟩) (show (fs.getD q (0, 0)).1 - (j + 1) < (fs.getD q (0, 0)).1 - j from (by omega)) rfl ⟨rfl, rfl, rfl, rfl, rfl, rfl, trivial⟩ ⟨rfl, rfl, trivial⟩
    try simp only [cs, ne_eq] at hc6
    refine W_exit ?_
    refine tx ?_
    refine tx ?_
    refine bx ?_
    refine bn ?_
    refine tn ?_
    refine r0 ?_
    refine sA 31 34 1 rfl rfl rfl rfl rfl rfl rfl rfl rfl (by unfold inRange; omega) ?_
    refine s1 9 42 2 rfl rfl rfl rfl rfl rfl trivial ?_
    refine e1 50 rfl ?_
    refine tn ?_
    exact again (((q + 1, M) : Nat × List Int)) [0] (show (q + 1) ≤ fs.length ∧ (M) = flatN fs (q + 1) ∧ (M).length ≤ 60 * (q + 1) from ⟨by omega, by rw [flatN_succ (by omega), hM, List.take_of_length_le (by rw [bitsOf_length]; omega), hL], by omega⟩) (show fs.length - (q + 1) < fs.length - q from (by omega)) rfl ⟨rfl, rfl, rfl, rfl, trivial⟩ ⟨rfl, trivial⟩
  try simp only [cs, ne_eq] at hc3
  refine W_exit ?_
  refine tx ?_
  refine tx ?_
  refine bx ?_
  refine tn ?_
  refine r1 ?_
  refine s1 32 9 1 rfl rfl rfl rfl rfl rfl trivial ?_
  refine s1 2 17 2 rfl rfl rfl rfl rfl rfl trivial ?_
  refine e1 25 rfl ?_
  refine keep [2] rfl ?_
  refine W_ret ?_
  obtain rfl : L = flatF fs := (by rw [hL, show q = fs.length by omega, flatN_all])
  exact out1 2 (.sl 0 0 (flatF fs).length) (π := [0]) (hout := [some (.rows 3 1 (flatF fs).length (intF (flatF fs)))]) Tryd.results37 rfl rfl rfl rfl ⟨rfl, trivial⟩ ⟨rfl, rfl⟩
theorem zf_any (x : Int) (h0 : 0 ≤ x) : Spec Tryd.prog GC 40 [SV.i x] [] (fun r ho => r = fldV (zf (cls x) x) ∧ ho = []) := by
  refine start 33 0 Tryd.func40 rfl rfl rfl rfl ?_
  refine r1 ?_
  refine s1 2 0 1 rfl rfl rfl rfl rfl rfl trivial ?_
  refine e1 8 rfl ?_
  refine keep [0] rfl ?_
  refine W_seq ?_
  refine W_block ?_
  refine r1 ?_
  refine s1 4 8 1 rfl rfl rfl rfl rfl rfl trivial ?_
  refine s1 5 16 2 rfl rfl rfl rfl rfl rfl (by first | trivial | omega) ?_
  refine s1 3 24 3 rfl rfl rfl rfl rfl rfl trivial ?_
  refine e1 32 rfl ?_
  refine keep [0, 3] rfl ?_
  refine q1 rfl (fun hc1 => ?_) (fun hc1 => ?_)
  · skip
    try simp only [cs, ne_eq] at hc1
    refine r1 ?_
    refine s1 6 32 1 rfl rfl rfl rfl rfl rfl trivial ?_
    refine sLit 2 (fldF (zf 0 x)) 7 40 2 rfl rfl rfl rfl rfl rfl rfl rfl rfl (by intro i c hi hc; obtain rfl : i = 0 := (by omega); rcases (show c = 0 ∨ c = 1 by omega) with rfl | rfl <;> rfl) ?_
    refine s1 2 48 3 rfl rfl rfl rfl rfl rfl trivial ?_
    refine e1 56 rfl ?_
    refine keep [2] rfl ?_
    refine W_ret ?_
    refine br ?_
    refine tr ?_
    have hcl : cls x = 0 := (by unfold cls; rw [if_pos (by omega)])
    exact out1 2 (fldV (zf (cls x) x)) (π := []) (hout := []) Tryd.results40 rfl (by rw [hcl]; rfl) rfl rfl trivial ⟨rfl, rfl⟩
  try simp only [cs, ne_eq] at hc1
  refine r1 ?_
  refine s1 9 32 1 rfl rfl rfl rfl rfl rfl trivial ?_
  refine s1 10 40 2 rfl rfl rfl rfl rfl rfl (by first | trivial | omega) ?_
  refine s1 8 48 3 rfl rfl rfl rfl rfl rfl trivial ?_
  refine e1 56 rfl ?_
  refine keep [0, 8] rfl ?_
  refine q1 rfl (fun hc3 => ?_) (fun hc3 => ?_)
  · skip
    try simp only [cs, ne_eq] at hc3
    refine r1 ?_
    refine s1 11 56 1 rfl rfl rfl rfl rfl rfl trivial ?_
    refine s1 12 64 2 rfl rfl rfl rfl rfl rfl trivial ?_
    refine s1 13 72 3 rfl rfl rfl rfl rfl rfl trivial ?_
    refine sLit 2 (fldF (zf 1 x)) 14 80 4 rfl rfl rfl rfl rfl rfl rfl rfl rfl (by intro i c hi hc; rcases (show i = 0 ∨ i = 1 by omega) with rfl | rfl <;> rcases (show c = 0 ∨ c = 1 by omega) with rfl | rfl <;> rfl) ?_
    refine s1 2 88 5 rfl rfl rfl rfl rfl rfl trivial ?_
    refine e1 96 rfl ?_
    refine keep [2] rfl ?_
    refine W_ret ?_
    refine br ?_
    refine tr ?_
    have hcl : cls x = 1 := (by unfold cls; rw [if_neg (by omega)]; rw [if_pos (by omega)])
    exact out1 2 (fldV (zf (cls x) x)) (π := []) (hout := []) Tryd.results40 rfl (by rw [hcl]; rfl) rfl rfl trivial ⟨rfl, rfl⟩
  try simp only [cs, ne_eq] at hc3
  refine r1 ?_
  refine s1 16 56 1 rfl rfl rfl rfl rfl rfl trivial ?_
  refine s1 17 64 2 rfl rfl rfl rfl rfl rfl (by first | trivial | omega) ?_
  refine s1 15 72 3 rfl rfl rfl rfl rfl rfl trivial ?_
  refine e1 80 rfl ?_
  refine keep [0, 15] rfl ?_
  refine q1 rfl (fun hc5 => ?_) (fun hc5 => ?_)
  · skip
    try simp only [cs, ne_eq] at hc5
    refine r1 ?_
    refine s1 18 80 1 rfl rfl rfl rfl rfl rfl trivial ?_
    refine s1 19 88 2 rfl rfl rfl rfl rfl rfl trivial ?_
    refine s1 20 96 3 rfl rfl rfl rfl rfl rfl trivial ?_
    refine sLit 2 (fldF (zf 2 x)) 21 104 4 rfl rfl rfl rfl rfl rfl rfl rfl rfl (by intro i c hi hc; rcases (show i = 0 ∨ i = 1 by omega) with rfl | rfl <;> rcases (show c = 0 ∨ c = 1 by omega) with rfl | rfl <;> rfl) ?_
    refine s1 2 112 5 rfl rfl rfl rfl rfl rfl trivial ?_
    refine e1 120 rfl ?_
    refine keep [2] rfl ?_
    refine W_ret ?_
    refine br ?_
    refine tr ?_
    have hcl : cls x = 2 := (by unfold cls; rw [if_neg (by omega)]; rw [if_neg (by omega)]; rw [if_pos (by omega)])
    exact out1 2 (fldV (zf (cls x) x)) (π := []) (hout := []) Tryd.results40 rfl (by rw [hcl]; rfl) rfl rfl trivial ⟨rfl, rfl⟩
  try simp only [cs, ne_eq] at hc5
  refine r1 ?_
  refine s1 23 80 1 rfl rfl rfl rfl rfl rfl trivial ?_
  refine s1 24 88 2 rfl rfl rfl rfl rfl rfl (by first | trivial | omega) ?_
  refine s1 22 96 3 rfl rfl rfl rfl rfl rfl trivial ?_
  refine e1 104 rfl ?_
  refine keep [0, 22] rfl ?_
  refine q1 rfl (fun hc7 => ?_) (fun hc7 => ?_)
  · skip
    try simp only [cs, ne_eq] at hc7
    refine r1 ?_
    refine s1 25 104 1 rfl rfl rfl rfl rfl rfl trivial ?_
    refine s1 26 112 2 rfl rfl rfl rfl rfl rfl trivial ?_
    refine s1 27 120 3 rfl rfl rfl rfl rfl rfl trivial ?_
    refine sLit 2 (fldF (zf 3 x)) 28 128 4 rfl rfl rfl rfl rfl rfl rfl rfl rfl (by intro i c hi hc; rcases (show i = 0 ∨ i = 1 by omega) with rfl | rfl <;> rcases (show c = 0 ∨ c = 1 by omega) with rfl | rfl <;> rfl) ?_
    refine s1 2 136 5 rfl rfl rfl rfl rfl rfl trivial ?_
    refine e1 144 rfl ?_
    refine keep [2] rfl ?_
    refine W_ret ?_
    refine br ?_
    refine tr ?_
    have hcl : cls x = 3 := (by unfold cls; rw [if_neg (by omega)]; rw [if_neg (by omega)]; rw [if_neg (by omega)]; rw [if_pos (by omega)])
    exact out1 2 (fldV (zf (cls x) x)) (π := []) (hout := []) Tryd.results40 rfl (by rw [hcl]; rfl) rfl rfl trivial ⟨rfl, rfl⟩
  try simp only [cs, ne_eq] at hc7
  refine W_skip ?_
  refine bn ?_
  refine tn ?_
  refine r1 ?_
  refine s1 29 104 1 rfl rfl rfl rfl rfl rfl trivial ?_
  refine s1 30 112 2 rfl rfl rfl rfl rfl rfl trivial ?_
  refine s1 31 120 3 rfl rfl rfl rfl rfl rfl trivial ?_
  refine sLit 2 (fldF (zf 4 x)) 32 128 4 rfl rfl rfl rfl rfl rfl rfl rfl rfl (by intro i c hi hc; rcases (show i = 0 ∨ i = 1 by omega) with rfl | rfl <;> rcases (show c = 0 ∨ c = 1 by omega) with rfl | rfl <;> rfl) ?_
  refine s1 2 136 5 rfl rfl rfl rfl rfl rfl trivial ?_
  refine e1 144 rfl ?_
  refine keep [2] rfl ?_
  refine W_ret ?_
  have hcl : cls x = 4 := (by unfold cls; rw [if_neg (by omega)]; rw [if_neg (by omega)]; rw [if_neg (by omega)]; rw [if_neg (by omega)])
  exact out1 2 (fldV (zf (cls x) x)) (π := []) (hout := []) Tryd.results40 rfl (by rw [hcl]; rfl) rfl rfl trivial ⟨rfl, rfl⟩
theorem isSmall_any (n : Int) : Spec Tryd.prog GC 77 [SV.i n] [] (fun r ho => r = SV.b (decide (-288230376151711744 ≤ n) && decide (n < 288230376151711744)) ∧ ho = []) := by
  refine start 9 0 Tryd.func77 rfl rfl rfl rfl ?_
  refine r1 ?_
  refine s1 2 0 1 rfl rfl rfl rfl rfl rfl trivial ?_
  refine e1 8 rfl ?_
  refine keep [0] rfl ?_
  refine r1 ?_
  refine s1 3 8 1 rfl rfl rfl rfl rfl rfl trivial ?_
  refine s1 4 16 2 rfl rfl rfl rfl rfl rfl (by first | trivial | omega) ?_
  refine s1 5 24 3 rfl rfl rfl rfl rfl rfl trivial ?_
  refine ask 5 rfl (fun hg1_5 => ?_) (fun hg1_5 => ?_)
  · skip
    try simp only [cs, ne_eq] at hg1_5
    refine g1 2 true 5 6 4 rfl rfl rfl rfl rfl ?_
    refine s1 6 32 4 rfl rfl rfl rfl rfl rfl trivial ?_
    refine g1 2 true 5 7 5 rfl rfl rfl rfl rfl ?_
    refine s1 7 40 5 rfl rfl rfl rfl rfl rfl (by first | trivial | omega) ?_
    refine s1 8 48 6 rfl rfl rfl rfl rfl rfl trivial ?_
    refine s1 2 56 7 rfl rfl rfl rfl rfl rfl trivial ?_
    refine e1 64 rfl ?_
    refine keep [2] rfl ?_
    refine W_ret ?_
    exact out1 2 (SV.b (decide (-288230376151711744 ≤ n) && decide (n < 288230376151711744))) (π := []) (hout := []) Tryd.results77 rfl (by show SV.b _ = SV.b _; refine congrArg SV.b (Bool.eq_iff_iff.2 ?_); simp at *; try omega) rfl rfl trivial ⟨rfl, rfl⟩
  try simp only [cs, ne_eq] at hg1_5
  refine g0 2 true 5 6 4 rfl rfl rfl rfl rfl rfl ?_
  refine g0 2 true 5 7 5 rfl rfl rfl rfl rfl rfl ?_
  refine s1 8 48 6 rfl rfl rfl rfl rfl rfl trivial ?_
  refine s1 2 56 7 rfl rfl rfl rfl rfl rfl trivial ?_
  refine e1 64 rfl ?_
  refine keep [2] rfl ?_
  refine W_ret ?_
  exact out1 2 (SV.b (decide (-288230376151711744 ≤ n) && decide (n < 288230376151711744))) (π := []) (hout := []) Tryd.results77 rfl (by show SV.b _ = SV.b _; refine congrArg SV.b (Bool.eq_iff_iff.2 ?_); simp at *; try omega) rfl rfl trivial ⟨rfl, rfl⟩
theorem zigFold_any (n : Int) (h : isSm n) : Spec Tryd.prog GC 39 [SV.i n] [] (fun r ho => r = SV.tup [SV.i (zFold n), SV.i 0] ∧ ho = []) := by
  have h1 := h.1
  have h2 := h.2
  refine start 14 0 Tryd.func39 rfl rfl rfl rfl ?_
  refine r1 ?_
  refine s1 2 0 1 rfl rfl rfl rfl rfl rfl trivial ?_
  refine s1 3 8 2 rfl rfl rfl rfl rfl rfl trivial ?_
  refine e1 16 rfl ?_
  refine keep [0] rfl ?_
  refine W_seq ?_
  refine r1 ?_
  refine s1 4 16 1 rfl rfl rfl rfl rfl rfl trivial ?_
  refine c1 (isSmall_any n) [] [] 5 24 2 rfl rfl rfl rfl rfl rfl rfl rfl Tryd.func77 rfl rfl rfl rfl trivial rfl rfl ?_
  refine s1 6 32 3 rfl rfl rfl rfl rfl rfl trivial ?_
  refine e1 40 rfl ?_
  refine keep [0, 6] rfl ?_
  refine q1 rfl (fun hc1 => ?_) (fun hc1 => ?_)
  · skip
    exfalso; simp at hc1; omega
  try simp only [cs, ne_eq] at hc1
  refine W_skip ?_
  refine tn ?_
  refine W_seq ?_
  refine r1 ?_
  refine s1 7 40 1 rfl rfl rfl rfl rfl rfl trivial ?_
  refine s1 8 48 2 rfl rfl rfl rfl rfl rfl (by first | trivial | omega) ?_
  refine e1 56 rfl ?_
  refine keep [0, 8] rfl ?_
  refine q1 rfl (fun hc3 => ?_) (fun hc3 => ?_)
  · skip
    try simp only [cs, ne_eq] at hc3
    refine r1 ?_
    refine s1 9 56 1 rfl rfl rfl rfl rfl rfl trivial ?_
    refine sA 10 64 2 rfl rfl rfl rfl rfl rfl rfl rfl rfl (by unfold inRange; omega) ?_
    refine sA 11 72 3 rfl rfl rfl rfl rfl rfl rfl rfl rfl (by unfold inRange; omega) ?_
    refine s1 2 80 4 rfl rfl rfl rfl rfl rfl trivial ?_
    refine s1 3 88 5 rfl rfl rfl rfl rfl rfl trivial ?_
    refine e1 96 rfl ?_
    refine keep [2, 3] rfl ?_
    refine W_ret ?_
    refine tr ?_
    exact out2 2 3 (SV.i (zFold n)) (SV.i 0) (π := []) (hout := []) Tryd.results39 rfl rfl (congrArg (fun x => SV.d (D.val (Value.int .i64 x))) (zFold_neg n (by omega))) rfl rfl rfl trivial ⟨rfl, rfl⟩
  try simp only [cs, ne_eq] at hc3
  refine W_skip ?_
  refine tn ?_
  refine r1 ?_
  refine s1 12 56 1 rfl rfl rfl rfl rfl rfl trivial ?_
  refine sA 13 64 2 rfl rfl rfl rfl rfl rfl rfl rfl rfl (by unfold inRange; omega) ?_
  refine s1 2 72 3 rfl rfl rfl rfl rfl rfl trivial ?_
  refine s1 3 80 4 rfl rfl rfl rfl rfl rfl trivial ?_
  refine e1 88 rfl ?_
  refine keep [2, 3] rfl ?_
  refine W_ret ?_
  exact out2 2 3 (SV.i (zFold n)) (SV.i 0) (π := []) (hout := []) Tryd.results39 rfl rfl (congrArg (fun x => SV.d (D.val (Value.int .i64 x))) (zFold_pos n (by omega))) rfl rfl rfl trivial ⟨rfl, rfl⟩
theorem nums_any (l : List Smp) (hin : SmpIn l) (hl : l.length ≤ 120) (hz : faultTo l l.length = 0) : Spec Tryd.prog GC 38 [smpV l] [] (fun r ho => r = .sl 0 0 (nums l).length ∧ ho = [some (.rows 3 1 (nums l).length (intF (nums l)))]) := by
  refine start 73 0 Tryd.func38 rfl rfl rfl rfl ?_
  refine r1 ?_
  refine s1 2 0 1 rfl rfl rfl rfl rfl rfl trivial ?_
  refine e1 8 rfl ?_
  refine keep [0] rfl ?_
  refine r1 ?_
  refine s1 3 8 1 rfl rfl rfl rfl rfl rfl trivial ?_
  refine e1 16 rfl ?_
  refine keep [0, 3] rfl ?_
  refine W_seq ?_
  refine r1 ?_
  refine s1 6 16 1 rfl rfl rfl rfl rfl rfl trivial ?_
  refine s1 7 24 2 rfl rfl rfl rfl rfl rfl (by first | trivial | omega) ?_
  refine s1 8 32 3 rfl rfl rfl rfl rfl rfl trivial ?_
  refine e1 40 rfl ?_
  refine keep [0, 3, 6, 7, 8] rfl ?_
  refine W_block ?_
  refine ghostly 3 3 1 (intF []) rfl ?_
  refine loop (α := Nat × List Int) 1 (fun z => [(0, smpV l), (3, .sl 0 0 (z.2).length), (6, smpV l), (7, SV.i l.length), (8, SV.i (z.1))]) (fun z => [some (.rows 3 1 (z.2).length (intF (z.2)))]) (fun z => (z.1) ≤ l.length ∧ (z.2) = numsN l (z.1) ∧ (z.2).length = 2 * (z.1)) (fun z => l.length - (z.1)) (((0, []) : Nat × List Int)) [40] (fun _ => rfl) (show (0) ≤ l.length ∧ ([]) = numsN l (0) ∧ ([]).length = 2 * (0) from ⟨Nat.zero_le _, rfl, rfl⟩) rfl ⟨rfl, rfl, rfl, rfl, rfl, trivial⟩ ⟨rfl, trivial⟩ (fun z hx => ?_)
  obtain ⟨k, M⟩ := z
  show W _ _ _ ⟨tOf [(0, smpV l), (3, .sl 0 0 M.length), (6, smpV l), (7, SV.i l.length), (8, SV.i k)], hOf [some (.rows 3 1 M.length (intF M))], 1⟩
  have hx : k ≤ l.length ∧ M = numsN l k ∧ M.length = 2 * k := hx
  obtain ⟨hk, hM, hMl⟩ := hx
  refine r1 ?_
  refine s1 9 1 1 rfl rfl rfl rfl rfl rfl (by first | trivial | omega) ?_
  refine e1 9 rfl ?_
  refine keep [0, 3, 6, 7, 8, 9] rfl ?_
  refine W_seq ?_
  refine q1 rfl (fun hc3 => ?_) (fun hc3 => ?_)
  · skip
    try simp only [cs, ne_eq] at hc3
    have hs := smp_at hz (show k < l.length by omega)
    obtain ⟨g1, g2⟩ := hs.1
    obtain ⟨g3, g4⟩ := hs.2.1
    have ho := (smp_at hz (show k - 1 < l.length by omega)).1
    have ho2 := (smp_at hz (show k - 1 < l.length by omega)).2.1
    have ho3 := (smp_at hz (show k - 2 < l.length by omega)).1
    have ho4 := (smp_at hz (show 0 < l.length by omega)).1
    have ho5 := (smp_at hz (show 0 < l.length by omega)).2.1
    unfold inB at ho ho2 ho3 ho4 ho5
    refine W_skip ?_
    refine tn ?_
    refine W_seq ?_
    refine W_block ?_
    refine r1 ?_
    refine s1 10 9 1 rfl rfl rfl rfl rfl rfl trivial ?_
    refine s1 11 17 2 rfl rfl rfl rfl rfl rfl (by first | trivial | omega) ?_
    refine s1 12 25 3 rfl rfl rfl rfl rfl rfl (by first | trivial | omega) ?_
    refine val 12 (smpS (l.getD k default)) rfl (by first | rfl | (simp only [Nat.zero_add, Int.toNat_natCast]; rfl)) ?_
    refine s1 5 33 4 rfl rfl rfl rfl rfl rfl trivial ?_
    refine s1 4 41 5 rfl rfl rfl rfl rfl rfl trivial ?_
    refine s0 49 6 rfl rfl rfl rfl rfl (by first | trivial | omega) ?_
    refine e1 57 rfl ?_
    refine keep [0, 3, 4, 5, 6, 7, 8] rfl ?_
    refine r1 ?_
    refine s1 13 57 1 rfl rfl rfl rfl rfl rfl trivial ?_
    refine e1 65 rfl ?_
    refine keep [0, 3, 4, 5, 6, 7, 8, 13] rfl ?_
    refine W_block ?_
    refine r1 ?_
    refine s1 44 65 1 rfl rfl rfl rfl rfl rfl (by first | trivial | omega) ?_
    refine s1 43 73 2 rfl rfl rfl rfl rfl rfl trivial ?_
    refine e1 81 rfl ?_
    refine keep [0, 3, 4, 5, 6, 7, 8, 13, 43] rfl ?_
    refine q1 rfl (fun hc7 => ?_) (fun hc7 => ?_)
    · skip
      try simp only [cs, ne_eq] at hc7
      refine r0 ?_
      refine s1 45 81 1 rfl rfl rfl rfl rfl rfl trivial ?_
      refine s1 46 89 2 rfl rfl rfl rfl rfl rfl trivial ?_
      refine s1 47 97 3 rfl rfl rfl rfl rfl rfl (by first | trivial | omega) ?_
      refine s1 48 105 4 rfl rfl rfl rfl rfl rfl trivial ?_
      refine s1 49 113 5 rfl rfl rfl rfl rfl rfl (by first | trivial | omega) ?_
      refine s1 50 121 6 rfl rfl rfl rfl rfl rfl trivial ?_
      refine s1 51 129 7 rfl rfl rfl rfl rfl rfl ⟨Nat.le_refl _, trivial, (by show (M.length + 2) * 8 ≤ 140737488355328; omega), (by simp only [maxLen]; omega)⟩ ?_
      refine s1 3 137 8 rfl rfl rfl rfl rfl rfl trivial ?_
      refine e1 145 rfl ?_
      refine bn ?_
      refine bn ?_
      refine tn ?_
      refine rowsc 129 (M ++ [cT (lstN l k) (l.getD k default), cV (lstN l k) (l.getD k default)]).length (intF (M ++ [cT (lstN l k) (l.getD k default), cV (lstN l k) (l.getD k default)])) rfl (by simp) (fun i c hi hc => cat_two (by rw [cT_eq, if_pos (by omega)]) (by rw [cV_eq, if_pos (by omega)]) i c hi hc) ?_
      refine cval 3 (.sl 129 0 (M ++ [cT (lstN l k) (l.getD k default), cV (lstN l k) (l.getD k default)]).length) rfl (by simp) ?_
      refine r0 ?_
      refine sA 71 145 1 rfl rfl rfl rfl rfl rfl rfl rfl rfl (by unfold inRange; omega) ?_
      refine s1 8 153 2 rfl rfl rfl rfl rfl rfl trivial ?_
      refine e1 161 rfl ?_
      refine tn ?_
      exact again (((k + 1, M ++ [cT (lstN l k) (l.getD k default), cV (lstN l k) (l.getD k default)]) : Nat × List Int)) [129] (show (k + 1) ≤ l.length ∧ (M ++ [cT (lstN l k) (l.getD k default), cV (lstN l k) (l.getD k default)]) = numsN l (k + 1) ∧ (M ++ [cT (lstN l k) (l.getD k default), cV (lstN l k) (l.getD k default)]).length = 2 * (k + 1) from ⟨by omega, by rw [numsN_succ, hM], by rw [List.length_append]; show M.length + 2 = _; omega⟩) (show l.length - (k + 1) < l.length - k from (by omega)) rfl ⟨rfl, rfl, rfl, rfl, rfl, trivial⟩ ⟨rfl, trivial⟩
    try simp only [cs, ne_eq] at hc7
    refine r1 ?_
    refine s1 53 81 1 rfl rfl rfl rfl rfl rfl (by first | trivial | omega) ?_
    refine s1 52 89 2 rfl rfl rfl rfl rfl rfl trivial ?_
    refine e1 97 rfl ?_
    refine keep [0, 3, 4, 5, 6, 7, 8, 52] rfl ?_
    refine q1 rfl (fun hc9 => ?_) (fun hc9 => ?_)
    · skip
      try simp only [cs, ne_eq] at hc9
      refine rd0 rfl ?_
      refine d1 54 97 1 rfl rfl rfl rfl rfl rfl trivial ?_
      refine d1 55 105 2 rfl rfl rfl rfl rfl rfl trivial ?_
      refine d1 56 113 3 rfl rfl rfl rfl rfl rfl (by first | trivial | omega) ?_
      refine d1 57 121 4 rfl rfl rfl rfl rfl rfl trivial ?_
      refine d1 58 129 5 rfl rfl rfl rfl rfl rfl (by first | trivial | omega) ?_
      refine d1 59 137 6 rfl rfl rfl rfl rfl rfl trivial ?_
      refine d1 60 145 7 rfl rfl rfl rfl rfl rfl (by omega) ?_
      refine val 60 (SV.i (l.getD 0 default).t) rfl rfl ?_
      refine dA 61 153 8 rfl rfl rfl rfl rfl rfl rfl rfl rfl (by unfold inRange; omega) ?_
      refine d1 62 161 9 rfl rfl rfl rfl rfl rfl trivial ?_
      refine d1 63 169 10 rfl rfl rfl rfl rfl rfl (by first | trivial | omega) ?_
      refine d1 64 177 11 rfl rfl rfl rfl rfl rfl trivial ?_
      refine d1 65 185 12 rfl rfl rfl rfl rfl rfl (by first | trivial | omega) ?_
      refine d1 66 193 13 rfl rfl rfl rfl rfl rfl trivial ?_
      refine d1 67 201 14 rfl rfl rfl rfl rfl rfl (by omega) ?_
      refine val 67 (SV.i (l.getD 0 default).v) rfl rfl ?_
      refine dA 68 209 15 rfl rfl rfl rfl rfl rfl rfl rfl rfl (by unfold inRange; omega) ?_
      refine d1 69 217 16 rfl rfl rfl rfl rfl rfl trivial ?_
      refine d1 70 225 17 rfl rfl rfl rfl rfl rfl ⟨Nat.le_refl _, trivial, (by show (M.length + 2) * 8 ≤ 140737488355328; omega), (by simp only [maxLen]; omega)⟩ ?_
      refine d1 3 233 18 rfl rfl rfl rfl rfl rfl trivial ?_
      refine de1 241 rfl (by kernel_rfl) ?_
      refine bn ?_
      refine bn ?_
      refine tn ?_
      refine rowsc 225 (M ++ [cT (lstN l k) (l.getD k default), cV (lstN l k) (l.getD k default)]).length (intF (M ++ [cT (lstN l k) (l.getD k default), cV (lstN l k) (l.getD k default)])) rfl (by simp) (fun i c hi hc => cat_two (by rw [cT_eq, if_neg (by omega), if_pos (by omega)]) (by rw [cV_eq, if_neg (by omega), show k - 1 = 0 by omega]) i c hi hc) ?_
      refine cval 3 (.sl 225 0 (M ++ [cT (lstN l k) (l.getD k default), cV (lstN l k) (l.getD k default)]).length) rfl (by simp) ?_
      refine r0 ?_
      refine sA 71 241 1 rfl rfl rfl rfl rfl rfl rfl rfl rfl (by unfold inRange; omega) ?_
      refine s1 8 249 2 rfl rfl rfl rfl rfl rfl trivial ?_
      refine e1 257 rfl ?_
      refine tn ?_
      exact again (((k + 1, M ++ [cT (lstN l k) (l.getD k default), cV (lstN l k) (l.getD k default)]) : Nat × List Int)) [225] (show (k + 1) ≤ l.length ∧ (M ++ [cT (lstN l k) (l.getD k default), cV (lstN l k) (l.getD k default)]) = numsN l (k + 1) ∧ (M ++ [cT (lstN l k) (l.getD k default), cV (lstN l k) (l.getD k default)]).length = 2 * (k + 1) from ⟨by omega, by rw [numsN_succ, hM], by rw [List.length_append]; show M.length + 2 = _; omega⟩) (show l.length - (k + 1) < l.length - k from (by omega)) rfl ⟨rfl, rfl, rfl, rfl, rfl, trivial⟩ ⟨rfl, trivial⟩
    try simp only [cs, ne_eq] at hc9
    refine rd0 rfl ?_
    refine d1 14 97 1 rfl rfl rfl rfl rfl rfl trivial ?_
    refine d1 15 105 2 rfl rfl rfl rfl rfl rfl trivial ?_
    refine d1 16 113 3 rfl rfl rfl rfl rfl rfl (by first | trivial | omega) ?_
    refine d1 17 121 4 rfl rfl rfl rfl rfl rfl trivial ?_
    refine d1 18 129 5 rfl rfl rfl rfl rfl rfl trivial ?_
    refine dA 19 137 6 rfl rfl rfl rfl rfl rfl rfl rfl rfl (by unfold inRange; omega) ?_
    refine d1 20 145 7 rfl rfl rfl rfl rfl rfl (by first | trivial | omega) ?_
    refine d1 21 153 8 rfl rfl rfl rfl rfl rfl trivial ?_
    refine d1 22 161 9 rfl rfl rfl rfl rfl rfl (by omega) ?_
    refine val 22 (SV.i (l.getD (k - 1) default).t) rfl (by rw [show ((k : Int) - 1).toNat = k - 1 by omega]) ?_
    refine dA 23 169 10 rfl rfl rfl rfl rfl rfl rfl rfl rfl (by unfold inRange; omega) ?_
    refine dA 24 177 11 rfl rfl rfl rfl rfl rfl rfl rfl rfl (by unfold inRange; omega) ?_
    refine d1 25 185 12 rfl rfl rfl rfl rfl rfl trivial ?_
    refine d1 26 193 13 rfl rfl rfl rfl rfl rfl trivial ?_
    refine dA 27 201 14 rfl rfl rfl rfl rfl rfl rfl rfl rfl (by unfold inRange; omega) ?_
    refine d1 28 209 15 rfl rfl rfl rfl rfl rfl (by first | trivial | omega) ?_
    refine d1 29 217 16 rfl rfl rfl rfl rfl rfl trivial ?_
    refine d1 30 225 17 rfl rfl rfl rfl rfl rfl (by omega) ?_
    refine val 30 (SV.i (l.getD (k - 2) default).t) rfl (by rw [show ((k : Int) - 2).toNat = k - 2 by omega]) ?_
    refine dA 31 233 18 rfl rfl rfl rfl rfl rfl rfl rfl rfl (by unfold inRange; omega) ?_
    refine d1 32 241 19 rfl rfl rfl rfl rfl rfl trivial ?_
    refine d1 33 249 20 rfl rfl rfl rfl rfl rfl (by first | trivial | omega) ?_
    refine d1 34 257 21 rfl rfl rfl rfl rfl rfl trivial ?_
    refine d1 35 265 22 rfl rfl rfl rfl rfl rfl trivial ?_
    refine dA 36 273 23 rfl rfl rfl rfl rfl rfl rfl rfl rfl (by unfold inRange; omega) ?_
    refine d1 37 281 24 rfl rfl rfl rfl rfl rfl (by first | trivial | omega) ?_
    refine d1 38 289 25 rfl rfl rfl rfl rfl rfl trivial ?_
    refine d1 39 297 26 rfl rfl rfl rfl rfl rfl (by omega) ?_
    refine val 39 (SV.i (l.getD (k - 1) default).v) rfl (by rw [show ((k : Int) - 1).toNat = k - 1 by omega]) ?_
    refine dA 40 305 27 rfl rfl rfl rfl rfl rfl rfl rfl rfl (by unfold inRange; omega) ?_
    refine d1 41 313 28 rfl rfl rfl rfl rfl rfl trivial ?_
    refine d1 42 321 29 rfl rfl rfl rfl rfl rfl ⟨Nat.le_refl _, trivial, (by show (M.length + 2) * 8 ≤ 140737488355328; omega), (by simp only [maxLen]; omega)⟩ ?_
    refine d1 3 329 30 rfl rfl rfl rfl rfl rfl trivial ?_
    refine de1 337 rfl (by kernel_rfl) ?_
    refine bn ?_
    refine bn ?_
    refine tn ?_
    refine rowsc 321 (M ++ [cT (lstN l k) (l.getD k default), cV (lstN l k) (l.getD k default)]).length (intF (M ++ [cT (lstN l k) (l.getD k default), cV (lstN l k) (l.getD k default)])) rfl (by simp) (fun i c hi hc => cat_two (by rw [cT_eq, if_neg (by omega), if_neg (by omega)]) (by rw [cV_eq, if_neg (by omega)]) i c hi hc) ?_
    refine cval 3 (.sl 321 0 (M ++ [cT (lstN l k) (l.getD k default), cV (lstN l k) (l.getD k default)]).length) rfl (by simp) ?_
    refine r0 ?_
    refine sA 71 337 1 rfl rfl rfl rfl rfl rfl rfl rfl rfl (by unfold inRange; omega) ?_
    refine s1 8 345 2 rfl rfl rfl rfl rfl rfl trivial ?_
    refine e1 353 rfl ?_
    refine tn ?_
    exact again (((k + 1, M ++ [cT (lstN l k) (l.getD k default), cV (lstN l k) (l.getD k default)]) : Nat × List Int)) [321] (show (k + 1) ≤ l.length ∧ (M ++ [cT (lstN l k) (l.getD k default), cV (lstN l k) (l.getD k default)]) = numsN l (k + 1) ∧ (M ++ [cT (lstN l k) (l.getD k default), cV (lstN l k) (l.getD k default)]).length = 2 * (k + 1) from ⟨by omega, by rw [numsN_succ, hM], by rw [List.length_append]; show M.length + 2 = _; omega⟩) (show l.length - (k + 1) < l.length - k from (by omega)) rfl ⟨rfl, rfl, rfl, rfl, rfl, trivial⟩ ⟨rfl, trivial⟩
  try simp only [cs, ne_eq] at hc3
  refine W_exit ?_
  refine tx ?_
  refine tx ?_
  refine bx ?_
  refine tn ?_
  refine r1 ?_
  refine s1 72 9 1 rfl rfl rfl rfl rfl rfl trivial ?_
  refine s1 2 17 2 rfl rfl rfl rfl rfl rfl trivial ?_
  refine e1 25 rfl ?_
  refine keep [2] rfl ?_
  refine W_ret ?_
  obtain rfl : M = nums l := (by rw [hM, show k = l.length by omega]; rfl)
  exact out1 2 (.sl 0 0 (nums l).length) (π := [0]) (hout := [some (.rows 3 1 (nums l).length (intF (nums l)))]) Tryd.results38 rfl rfl rfl rfl ⟨rfl, trivial⟩ ⟨rfl, rfl⟩
theorem byteList_any (L : List Int) (hL : AllBits L) (hl : L.length ≤ 1000000) : Spec Tryd.prog GC 41 [intV L] [] (fun r ho => r = .sl 0 0 (pack L).length ∧ ho = [some (.rows 5 1 (pack L).length (u8F (pack L)))]) := by
  refine start 33 0 Tryd.func41 rfl rfl rfl rfl ?_
  refine r1 ?_
  refine s1 2 0 1 rfl rfl rfl rfl rfl rfl trivial ?_
  refine e1 8 rfl ?_
  refine keep [0] rfl ?_
  refine r1 ?_
  refine s1 3 8 1 rfl rfl rfl rfl rfl rfl trivial ?_
  refine e1 16 rfl ?_
  refine keep [0, 3] rfl ?_
  refine W_seq ?_
  refine r1 ?_
  refine s1 6 16 1 rfl rfl rfl rfl rfl rfl trivial ?_
  refine s1 7 24 2 rfl rfl rfl rfl rfl rfl (by first | trivial | omega) ?_
  refine s1 8 32 3 rfl rfl rfl rfl rfl rfl trivial ?_
  refine e1 40 rfl ?_
  refine keep [3, 6, 7, 8] rfl ?_
  refine W_block ?_
  refine ghostly 3 5 1 (u8F []) rfl ?_
  refine loop (α := Nat × List Int) 1 (fun z => [(3, .sl 0 0 (pack (z.2)).length), (6, intV L), (7, SV.i L.length), (8, SV.i (z.1))]) (fun z => [some (.rows 5 1 (pack (z.2)).length (u8F (pack (z.2))))]) (fun z => (z.1) ≤ L.length ∧ (z.2) = L.take (z.1)) (fun z => L.length - (z.1)) (((0, []) : Nat × List Int)) [40] (fun _ => rfl) (show (0) ≤ L.length ∧ ([]) = L.take (0) from ⟨Nat.zero_le _, by simp⟩) rfl ⟨rfl, rfl, rfl, rfl, trivial⟩ ⟨rfl, trivial⟩ (fun z hx => ?_)
  obtain ⟨k, M⟩ := z
  show W _ _ _ ⟨tOf [(3, .sl 0 0 (pack M).length), (6, intV L), (7, SV.i L.length), (8, SV.i k)], hOf [some (.rows 5 1 (pack M).length (u8F (pack M)))], 1⟩
  have hx : k ≤ L.length ∧ M = L.take k := hx
  obtain ⟨hk, hM⟩ := hx
  have hA : AllBits M := (by rw [hM]; exact hL.take k)
  have hMk : M.length = k := (by rw [hM, List.length_take]; omega)
  have hpl : (pack M).length ≤ 200000 := (by rw [pack_length]; omega)
  have hrl := packRoom_length M
  have hbit := hL.getD k
  refine r1 ?_
  refine s1 9 1 1 rfl rfl rfl rfl rfl rfl (by first | trivial | omega) ?_
  refine e1 9 rfl ?_
  refine keep [3, 6, 7, 8, 9] rfl ?_
  refine W_seq ?_
  refine q1 rfl (fun hc3 => ?_) (fun hc3 => ?_)
  · skip
    try simp only [cs, ne_eq] at hc3
    refine W_skip ?_
    refine tn ?_
    refine W_seq ?_
    refine W_block ?_
    refine r1 ?_
    refine s1 10 9 1 rfl rfl rfl rfl rfl rfl trivial ?_
    refine s1 11 17 2 rfl rfl rfl rfl rfl rfl (by first | trivial | omega) ?_
    refine s1 12 25 3 rfl rfl rfl rfl rfl rfl (by first | trivial | omega) ?_
    refine val 12 (SV.i (L.getD k 0)) rfl (by first | rfl | (simp only [Nat.zero_add, Int.toNat_natCast]; rfl)) ?_
    refine s1 4 33 4 rfl rfl rfl rfl rfl rfl trivial ?_
    refine s1 5 41 5 rfl rfl rfl rfl rfl rfl trivial ?_
    refine e1 49 rfl ?_
    refine keep [3, 4, 5, 6, 7, 8] rfl ?_
    refine W_seq ?_
    refine r1 ?_
    refine s1 13 49 1 rfl rfl rfl rfl rfl rfl trivial ?_
    refine sD 14 57 2 rfl rfl rfl rfl rfl rfl rfl rfl rfl (by omega) ?_
    refine s1 15 65 3 rfl rfl rfl rfl rfl rfl (by first | trivial | omega) ?_
    refine e1 73 rfl ?_
    refine keep [3, 4, 5, 6, 7, 8, 15] rfl ?_
    refine q1 rfl (fun hc5 => ?_) (fun hc5 => ?_)
    · skip
      try simp only [cs, ne_eq] at hc5
      refine r0 ?_
      refine s1 16 73 1 rfl rfl rfl rfl rfl rfl trivial ?_
      refine s1 17 81 2 rfl rfl rfl rfl rfl rfl trivial ?_
      refine s1 18 89 3 rfl rfl rfl rfl rfl rfl ⟨Nat.le_refl _, trivial, (by show ((pack M).length + 1) * 1 ≤ 140737488355328; omega), (by simp only [maxLen]; omega)⟩ ?_
      refine s1 3 97 4 rfl rfl rfl rfl rfl rfl trivial ?_
      refine e1 105 rfl ?_
      refine tn ?_
      refine rowsc 89 (packRoom M).length (u8F (packRoom M)) rfl (by rw [hrl, pack_length]; omega) (fun i c hi hc => room_cat (by omega) i c hi hc) ?_
      refine cval 3 (.sl 89 0 (packRoom M).length) rfl (by rw [show (packRoom M).length = (pack M).length + 1 from (by rw [hrl, pack_length]; omega)]) ?_
      refine r1 ?_
      refine s1 19 105 1 rfl rfl rfl rfl rfl rfl trivial ?_
      refine s1 20 113 2 rfl rfl rfl rfl rfl rfl (by first | trivial | omega) ?_
      refine e1 121 rfl ?_
      refine keep [3, 4, 6, 7, 8, 20] rfl ?_
      refine q1 rfl (fun hc7 => ?_) (fun hc7 => ?_)
      · skip
        try simp only [cs, ne_eq] at hc7
        have hb1 : L.getD k 0 = 1 := hc7
        refine rd0 rfl ?_
        refine d1 21 121 1 rfl rfl rfl rfl rfl rfl trivial ?_
        refine d1 22 129 2 rfl rfl rfl rfl rfl rfl trivial ?_
        refine dD 23 137 3 rfl rfl rfl rfl rfl rfl rfl rfl rfl (by omega) ?_
        refine d1 24 145 4 rfl rfl rfl rfl rfl rfl (by omega) ?_
        refine val 24 (.ptr 89 (M.length / 8) 0) rfl (by rw [show ((k : Int) / 8).toNat = M.length / 8 by omega, Nat.zero_add]) ?_
        refine d1 25 153 5 rfl rfl rfl rfl rfl rfl (by omega) ?_
        refine val 25 (.d (.val (.int .u8 (packByte M (M.length / 8))))) rfl (by rw [room_get M _ (by omega)]) ?_
        refine d1 26 161 6 rfl rfl rfl rfl rfl rfl trivial ?_
        refine dD 27 169 7 rfl rfl rfl rfl rfl rfl rfl rfl rfl (by omega) ?_
        refine d1 28 177 8 rfl rfl rfl rfl rfl rfl (by omega) ?_
        refine val 28 (.d (.val (.int .u8 (2 ^ (7 - M.length % 8))))) rfl (congrArg (fun x => SV.d (D.val (Value.int .u8 x))) (shr128 (by omega) (by omega))) ?_
        refine d1 29 185 9 rfl rfl rfl rfl rfl rfl (by first | trivial | omega) ?_
        refine val 29 (.d (.val (.int .u8 (packByte M (M.length / 8) + 1 * 2 ^ (7 - M.length % 8))))) rfl (congrArg (fun x => SV.d (D.val (Value.int .u8 x))) (add_bit hA)) ?_
        refine d1 30 193 10 rfl rfl rfl rfl rfl rfl (by omega) ?_
        refine val 30 (.ptr 89 (M.length / 8) 0) rfl (by rw [show ((k : Int) / 8).toNat = M.length / 8 by omega, Nat.zero_add]) ?_
        refine d0 201 11 rfl rfl rfl rfl rfl (by omega) ?_
        refine de1 209 rfl (by kernel_rfl) ?_
        refine bn ?_
        refine tn ?_
        refine rowsc 89 (pack (M ++ [1])).length (u8F (pack (M ++ [1]))) rfl (room_len _) (fun i c hi hc => room_set hA 1 _ rfl i c hi hc) ?_
        refine cval 3 (.sl 89 0 (pack (M ++ [1])).length) rfl (by rw [← room_len]) ?_
        refine r0 ?_
        refine sA 31 209 1 rfl rfl rfl rfl rfl rfl rfl rfl rfl (by unfold inRange; omega) ?_
        refine s1 8 217 2 rfl rfl rfl rfl rfl rfl trivial ?_
        refine e1 225 rfl ?_
        refine tn ?_
        exact again (((k + 1, M ++ [1]) : Nat × List Int)) [89] (show (k + 1) ≤ L.length ∧ (M ++ [1]) = L.take (k + 1) from ⟨by omega, by rw [hM, bit_take L k (by omega), hb1]⟩) (show L.length - (k + 1) < L.length - k from (by omega)) rfl ⟨rfl, rfl, rfl, rfl, trivial⟩ ⟨rfl, trivial⟩
      try simp only [cs, ne_eq] at hc7
      have hb0 : L.getD k 0 = 0 := (by rcases hbit with h | h; exact h; exact absurd h hc7)
      refine W_skip ?_
      refine bn ?_
      refine tn ?_
      refine rowsc 89 (pack (M ++ [0])).length (u8F (pack (M ++ [0]))) rfl (room_len _) (fun i c hi hc => by rw [pack_zero M hA]) ?_
      refine cval 3 (.sl 89 0 (pack (M ++ [0])).length) rfl (by rw [← room_len]) ?_
      refine r0 ?_
      refine sA 31 121 1 rfl rfl rfl rfl rfl rfl rfl rfl rfl (by unfold inRange; omega) ?_
      refine s1 8 129 2 rfl rfl rfl rfl rfl rfl trivial ?_
      refine e1 137 rfl ?_
      refine tn ?_
      exact again (((k + 1, M ++ [0]) : Nat × List Int)) [89] (show (k + 1) ≤ L.length ∧ (M ++ [0]) = L.take (k + 1) from ⟨by omega, by rw [hM, bit_take L k (by omega), hb0]⟩) (show L.length - (k + 1) < L.length - k from (by omega)) rfl ⟨rfl, rfl, rfl, rfl, trivial⟩ ⟨rfl, trivial⟩
    try simp only [cs, ne_eq] at hc5
    refine W_skip ?_
    refine tn ?_
    refine rowsc 0 (packRoom M).length (u8F (packRoom M)) rfl (by rw [room_same (by omega)]) (fun i c hi hc => by rw [room_same (by omega)]) ?_
    refine cval 3 (.sl 0 0 (packRoom M).length) rfl (by rw [room_same (by omega)]) ?_
    refine r1 ?_
    refine s1 19 73 1 rfl rfl rfl rfl rfl rfl trivial ?_
    refine s1 20 81 2 rfl rfl rfl rfl rfl rfl (by first | trivial | omega) ?_
    refine e1 89 rfl ?_
    refine keep [3, 4, 6, 7, 8, 20] rfl ?_
    refine q1 rfl (fun hc7 => ?_) (fun hc7 => ?_)
    · skip
      try simp only [cs, ne_eq] at hc7
      have hb1 : L.getD k 0 = 1 := hc7
      refine rd0 rfl ?_
      refine d1 21 89 1 rfl rfl rfl rfl rfl rfl trivial ?_
      refine d1 22 97 2 rfl rfl rfl rfl rfl rfl trivial ?_
      refine dD 23 105 3 rfl rfl rfl rfl rfl rfl rfl rfl rfl (by omega) ?_
      refine d1 24 113 4 rfl rfl rfl rfl rfl rfl (by omega) ?_
      refine val 24 (.ptr 0 (M.length / 8) 0) rfl (by rw [show ((k : Int) / 8).toNat = M.length / 8 by omega, Nat.zero_add]) ?_
      refine d1 25 121 5 rfl rfl rfl rfl rfl rfl (by omega) ?_
      refine val 25 (.d (.val (.int .u8 (packByte M (M.length / 8))))) rfl (by rw [room_get M _ (by omega)]) ?_
      refine d1 26 129 6 rfl rfl rfl rfl rfl rfl trivial ?_
      refine dD 27 137 7 rfl rfl rfl rfl rfl rfl rfl rfl rfl (by omega) ?_
      refine d1 28 145 8 rfl rfl rfl rfl rfl rfl (by omega) ?_
      refine val 28 (.d (.val (.int .u8 (2 ^ (7 - M.length % 8))))) rfl (congrArg (fun x => SV.d (D.val (Value.int .u8 x))) (shr128 (by omega) (by omega))) ?_
      refine d1 29 153 9 rfl rfl rfl rfl rfl rfl (by first | trivial | omega) ?_
      refine val 29 (.d (.val (.int .u8 (packByte M (M.length / 8) + 1 * 2 ^ (7 - M.length % 8))))) rfl (congrArg (fun x => SV.d (D.val (Value.int .u8 x))) (add_bit hA)) ?_
      refine d1 30 161 10 rfl rfl rfl rfl rfl rfl (by omega) ?_
      refine val 30 (.ptr 0 (M.length / 8) 0) rfl (by rw [show ((k : Int) / 8).toNat = M.length / 8 by omega, Nat.zero_add]) ?_
      refine d0 169 11 rfl rfl rfl rfl rfl (by omega) ?_
      refine de1 177 rfl (by kernel_rfl) ?_
      refine bn ?_
      refine tn ?_
      refine rowsc 0 (pack (M ++ [1])).length (u8F (pack (M ++ [1]))) rfl (room_len _) (fun i c hi hc => room_set hA 1 _ rfl i c hi hc) ?_
      refine cval 3 (.sl 0 0 (pack (M ++ [1])).length) rfl (by rw [← room_len]) ?_
      refine r0 ?_
      refine sA 31 177 1 rfl rfl rfl rfl rfl rfl rfl rfl rfl (by unfold inRange; omega) ?_
      refine s1 8 185 2 rfl rfl rfl rfl rfl rfl trivial ?_
      refine e1 193 rfl ?_
      refine tn ?_
      exact again (((k + 1, M ++ [1]) : Nat × List Int)) [0] (show (k + 1) ≤ L.length ∧ (M ++ [1]) = L.take (k + 1) from ⟨by omega, by rw [hM, bit_take L k (by omega), hb1]⟩) (show L.length - (k + 1) < L.length - k from (by omega)) rfl ⟨rfl, rfl, rfl, rfl, trivial⟩ ⟨rfl, trivial⟩
    try simp only [cs, ne_eq] at hc7
    have hb0 : L.getD k 0 = 0 := (by rcases hbit with h | h; exact h; exact absurd h hc7)
    refine W_skip ?_
    refine bn ?_
    refine tn ?_
    refine rowsc 0 (pack (M ++ [0])).length (u8F (pack (M ++ [0]))) rfl (room_len _) (fun i c hi hc => by rw [pack_zero M hA]) ?_
    refine cval 3 (.sl 0 0 (pack (M ++ [0])).length) rfl (by rw [← room_len]) ?_
    refine r0 ?_
    refine sA 31 89 1 rfl rfl rfl rfl rfl rfl rfl rfl rfl (by unfold inRange; omega) ?_
    refine s1 8 97 2 rfl rfl rfl rfl rfl rfl trivial ?_
    refine e1 105 rfl ?_
    refine tn ?_
    exact again (((k + 1, M ++ [0]) : Nat × List Int)) [0] (show (k + 1) ≤ L.length ∧ (M ++ [0]) = L.take (k + 1) from ⟨by omega, by rw [hM, bit_take L k (by omega), hb0]⟩) (show L.length - (k + 1) < L.length - k from (by omega)) rfl ⟨rfl, rfl, rfl, rfl, trivial⟩ ⟨rfl, trivial⟩
  try simp only [cs, ne_eq] at hc3
  refine W_exit ?_
  refine tx ?_
  refine tx ?_
  refine bx ?_
  refine tn ?_
  refine r1 ?_
  refine s1 32 9 1 rfl rfl rfl rfl rfl rfl trivial ?_
  refine s1 2 17 2 rfl rfl rfl rfl rfl rfl trivial ?_
  refine e1 25 rfl ?_
  refine keep [2] rfl ?_
  refine W_ret ?_
  obtain rfl : L = M := (by rw [hM, List.take_of_length_le (by omega)])
  exact out1 2 (.sl 0 0 (pack L).length) (π := [0]) (hout := [some (.rows 5 1 (pack L).length (u8F (pack L)))]) Tryd.results41 rfl rfl rfl rfl ⟨rfl, trivial⟩ ⟨rfl, rfl⟩
theorem encoded_ok (l : List Smp) (hin : SmpIn l) (hz : sfault l = 0) : Spec Tryd.prog GC 15 [smpV l] [] (fun r ho => r = SV.tup [.sl 0 0 (encB l).length, SV.i 0] ∧ ho = [some (.rows 5 1 (encB l).length (u8F (encB l)))]) := by
  have hl : l.length ≤ 120 := (by unfold sfault at hz; by_cases h : 120 < l.length; (rw [if_pos h] at hz; cases hz); omega)
  have hz2 : faultTo l l.length = 0 := (by unfold sfault at hz; rw [if_neg (by omega)] at hz; exact hz)
  have hnl : (nums l).length = 2 * l.length := numsN_len l _
  have hsm := nums_sm hz2 hl
  refine start 40 0 Tryd.func15 rfl rfl rfl rfl ?_
  refine r1 ?_
  refine s1 2 0 1 rfl rfl rfl rfl rfl rfl trivial ?_
  refine s1 3 8 2 rfl rfl rfl rfl rfl rfl trivial ?_
  refine e1 16 rfl ?_
  refine keep [0] rfl ?_
  refine W_seq ?_
  refine r1 ?_
  refine s1 10 16 1 rfl rfl rfl rfl rfl rfl trivial ?_
  refine c1 (sfault_any l hin) [] [] 11 24 2 rfl rfl rfl rfl rfl rfl rfl rfl Tryd.func36 rfl rfl rfl rfl trivial rfl rfl ?_
  refine s1 4 32 3 rfl rfl rfl rfl rfl rfl trivial ?_
  refine e1 40 rfl ?_
  refine keep [0, 4] rfl ?_
  refine r1 ?_
  refine s1 12 40 1 rfl rfl rfl rfl rfl rfl trivial ?_
  refine s1 13 48 2 rfl rfl rfl rfl rfl rfl (by first | trivial | omega) ?_
  refine e1 56 rfl ?_
  refine keep [0, 4, 13] rfl ?_
  refine q1 rfl (fun hc2 => ?_) (fun hc2 => ?_)
  · skip
    exact absurd hz (by simpa using hc2)
  try simp only [cs, ne_eq] at hc2
  refine W_skip ?_
  refine tn ?_
  refine r1 ?_
  refine s1 15 56 1 rfl rfl rfl rfl rfl rfl trivial ?_
  refine s1 16 64 2 rfl rfl rfl rfl rfl rfl (by first | trivial | omega) ?_
  refine s1 17 72 3 rfl rfl rfl rfl rfl rfl trivial ?_
  refine sLit 2 (fldF [(8, (l.length : Int))]) 18 80 4 rfl rfl rfl rfl rfl rfl rfl rfl rfl (by intro i c hi hc; obtain rfl : i = 0 := (by omega); rcases (show c = 0 ∨ c = 1 by omega) with rfl | rfl <;> rfl) ?_
  refine c1 (bits_any [(8, (l.length : Int))] (by simp) (fun i => by match i with | 0 => exact ⟨(by show (8 : Nat) ≤ 60; decide), (by show (0 : Int) ≤ l.length; omega), (by show (l.length : Int) ≤ _; omega)⟩ | i + 1 => exact ⟨(by simp), (by simp), (by simp)⟩)) [] [88] 19 88 5 rfl rfl rfl rfl rfl rfl rfl rfl Tryd.func37 rfl rfl rfl rfl trivial rfl rfl ?_
  refine s1 5 96 6 rfl rfl rfl rfl rfl rfl trivial ?_
  refine e1 104 rfl ?_
  refine keep [0, 5] rfl ?_
  refine W_seq ?_
  refine rowsc 88 (refL l 0).length (intF (refL l 0)) rfl (by simp [flatF, refL]) (fun i c hi hc => by rw [show flatF [(8, (l.length : Int))] = refL l 0 from by simp [flatF, refL]]) ?_
  refine cval 5 (.sl 88 0 (refL l 0).length) rfl (by simp [flatF, refL]) ?_
  refine r1 ?_
  refine s1 20 104 1 rfl rfl rfl rfl rfl rfl trivial ?_
  refine c1 (nums_any l hin hl hz2) [] [112] 21 112 2 rfl rfl rfl rfl rfl rfl rfl rfl Tryd.func38 rfl rfl rfl rfl trivial rfl rfl ?_
  refine s1 22 120 3 rfl rfl rfl rfl rfl rfl (by first | trivial | omega) ?_
  refine s1 23 128 4 rfl rfl rfl rfl rfl rfl trivial ?_
  refine e1 136 rfl ?_
  refine keep [5, 21, 22, 23] rfl ?_
  refine W_block ?_
  refine freeze 21 112 (nums l).length rfl rfl (Nat.le_refl _) ?_
  refine loop (α := Nat) 1 (fun q => [(5, .sl 0 0 (refL l (q)).length), (21, intV (nums l)), (22, SV.i (nums l).length), (23, SV.i (q))]) (fun q => [some (.rows 3 1 (refL l (q)).length (intF (refL l (q))))]) (fun q => (q) ≤ (nums l).length) (fun q => (nums l).length - (q)) (((0) : Nat)) [88] (fun _ => rfl) (show (0) ≤ (nums l).length from (Nat.zero_le _)) rfl ⟨rfl, rfl, rfl, rfl, trivial⟩ ⟨rfl, trivial⟩ (fun q hx => ?_)
  show W _ _ _ ⟨tOf [(5, .sl 0 0 (refL l q).length), (21, intV (nums l)), (22, SV.i (nums l).length), (23, SV.i q)], hOf [some (.rows 3 1 (refL l q).length (intF (refL l q)))], 1⟩
  have hx : q ≤ (nums l).length := hx
  have hrl := refL_len l q
  refine r1 ?_
  refine s1 24 1 1 rfl rfl rfl rfl rfl rfl (by first | trivial | omega) ?_
  refine e1 9 rfl ?_
  refine keep [5, 21, 22, 23, 24] rfl ?_
  refine W_seq ?_
  refine q1 rfl (fun hc6 => ?_) (fun hc6 => ?_)
  · skip
    try simp only [cs, ne_eq] at hc6
    have hn := hsm _ (getI_mem (show q < (nums l).length by omega))
    have hb := zFold_bd _ hn.1 hn.2
    have hzf := zf_ok hb.1 (by omega) (cls (zFold ((nums l).getD q 0))) (cls_lt _)
    have hzb := zbits_len ((nums l).getD q 0)
    have hfl : flatF (zf (cls (zFold ((nums l).getD q 0))) (zFold ((nums l).getD q 0))) = zbits ((nums l).getD q 0) := (by rw [zf_flat (fun h => by unfold cls at h; split at h; assumption; split at h; cases h; split at h; cases h; split at h <;> cases h)]; rfl)
    refine W_skip ?_
    refine tn ?_
    refine W_seq ?_
    refine W_block ?_
    refine r1 ?_
    refine s1 25 9 1 rfl rfl rfl rfl rfl rfl (by first | trivial | omega) ?_
    refine s1 26 17 2 rfl rfl rfl rfl rfl rfl (by first | trivial | omega) ?_
    refine val 26 (SV.i ((nums l).getD q 0)) rfl (by first | rfl | (simp only [Nat.zero_add, Int.toNat_natCast]; rfl)) ?_
    refine s1 7 25 3 rfl rfl rfl rfl rfl rfl trivial ?_
    refine e1 33 rfl ?_
    refine keep [5, 7, 21, 22, 23] rfl ?_
    refine r1 ?_
    refine s1 28 33 1 rfl rfl rfl rfl rfl rfl trivial ?_
    refine c1 (zigFold_any ((nums l).getD q 0) hn) [] [] 29 41 2 rfl rfl rfl rfl rfl rfl rfl rfl Tryd.func39 rfl rfl rfl rfl trivial rfl rfl ?_
    refine s1 27 49 3 rfl rfl rfl rfl rfl rfl trivial ?_
    refine s1 30 57 4 rfl rfl rfl rfl rfl rfl trivial ?_
    refine s1 31 65 5 rfl rfl rfl rfl rfl rfl trivial ?_
    refine s1 8 73 6 rfl rfl rfl rfl rfl rfl trivial ?_
    refine s1 9 81 7 rfl rfl rfl rfl rfl rfl trivial ?_
    refine e1 89 rfl ?_
    refine keep [5, 8, 21, 22, 23] rfl ?_
    refine r0 ?_
    refine s1 32 89 1 rfl rfl rfl rfl rfl rfl trivial ?_
    refine s1 33 97 2 rfl rfl rfl rfl rfl rfl trivial ?_
    refine c1 (zf_any (zFold ((nums l).getD q 0)) hb.1) [] [] 34 105 3 rfl rfl rfl rfl rfl rfl rfl rfl Tryd.func40 rfl rfl rfl rfl trivial rfl rfl ?_
    refine c1 (bits_any (zf (cls (zFold ((nums l).getD q 0))) (zFold ((nums l).getD q 0))) (by omega) hzf.2) [] [113] 35 113 4 rfl rfl rfl rfl rfl rfl rfl rfl Tryd.func37 rfl rfl rfl rfl trivial rfl rfl ?_
    refine s1 36 121 5 rfl rfl rfl rfl rfl rfl ⟨Nat.le_refl _, (by omega), (by rw [hfl]; show ((refL l q).length + (zbits ((nums l).getD q 0)).length) * 8 ≤ 140737488355328; omega), (by rw [hfl]; simp only [maxLen]; omega)⟩ ?_
    refine s1 5 129 6 rfl rfl rfl rfl rfl rfl trivial ?_
    refine e1 137 rfl ?_
    refine bn ?_
    refine tn ?_
    refine rowsc 121 (refL l (q + 1)).length (intF (refL l (q + 1))) rfl (by rw [refL_succ (by omega), List.length_append, hfl]) (fun i c hi hc => by show catR (intF (refL l q)) (refL l q).length (intF (flatF (zf (cls (zFold ((nums l).getD q 0))) (zFold ((nums l).getD q 0))))) i c = _; rw [cat_int i c hi hc, refL_succ (by omega), hfl]) ?_
    refine cval 5 (.sl 121 0 (refL l (q + 1)).length) rfl (by rw [refL_succ (by omega), List.length_append, hfl]) ?_
    refine r0 ?_
    refine sA 37 137 1 rfl rfl rfl rfl rfl rfl rfl rfl rfl (by unfold inRange; omega) ?_
    refine s1 23 145 2 rfl rfl rfl rfl rfl rfl trivial ?_
    refine e1 153 rfl ?_
    refine tn ?_
    exact again ((q + 1 : Nat)) [121] (show (q + 1) ≤ (nums l).length from (by omega)) (show (nums l).length - (q + 1) < (nums l).length - q from (by omega)) rfl ⟨rfl, rfl, rfl, rfl, trivial⟩ ⟨rfl, trivial⟩
  try simp only [cs, ne_eq] at hc6
  refine W_exit ?_
  refine tx ?_
  refine tx ?_
  refine bx ?_
  refine tn ?_
  obtain rfl : q = (nums l).length := (by omega)
  refine freeze 5 0 (refL l (nums l).length).length rfl rfl (Nat.le_refl _) ?_
  refine r1 ?_
  refine s1 38 9 1 rfl rfl rfl rfl rfl rfl trivial ?_
  refine c1 (byteList_any (refL l (nums l).length) (refL_bits l) (by omega)) [] [17] 39 17 2 rfl rfl rfl rfl rfl rfl rfl rfl Tryd.func41 rfl rfl rfl rfl trivial rfl rfl ?_
  refine s1 2 25 3 rfl rfl rfl rfl rfl rfl trivial ?_
  refine s1 3 33 4 rfl rfl rfl rfl rfl rfl trivial ?_
  refine e1 41 rfl ?_
  refine keep [2, 3] rfl ?_
  refine W_ret ?_
  exact out2 2 3 (.sl 0 0 (encB l).length) (SV.i 0) (π := [17]) (hout := [some (.rows 5 1 (encB l).length (u8F (encB l)))]) Tryd.results15 rfl rfl (by unfold encB; rw [← refL_all]; rfl) rfl rfl rfl ⟨(by unfold encB; rw [← refL_all]; rfl), trivial⟩ ⟨rfl, rfl⟩
theorem encoded_bad (l : List Smp) (hin : SmpIn l) (hz : sfault l ≠ 0) : Spec Tryd.prog GC 15 [smpV l] [] (fun r ho => r = SV.tup [.d .nils, SV.i (sfault l)] ∧ ho = []) := by
  refine start 40 0 Tryd.func15 rfl rfl rfl rfl ?_
  refine r1 ?_
  refine s1 2 0 1 rfl rfl rfl rfl rfl rfl trivial ?_
  refine s1 3 8 2 rfl rfl rfl rfl rfl rfl trivial ?_
  refine e1 16 rfl ?_
  refine keep [0] rfl ?_
  refine W_seq ?_
  refine r1 ?_
  refine s1 10 16 1 rfl rfl rfl rfl rfl rfl trivial ?_
  refine c1 (sfault_any l hin) [] [] 11 24 2 rfl rfl rfl rfl rfl rfl rfl rfl Tryd.func36 rfl rfl rfl rfl trivial rfl rfl ?_
  refine s1 4 32 3 rfl rfl rfl rfl rfl rfl trivial ?_
  refine e1 40 rfl ?_
  refine keep [0, 4] rfl ?_
  refine r1 ?_
  refine s1 12 40 1 rfl rfl rfl rfl rfl rfl trivial ?_
  refine s1 13 48 2 rfl rfl rfl rfl rfl rfl (by first | trivial | omega) ?_
  refine e1 56 rfl ?_
  refine keep [0, 4, 13] rfl ?_
  refine q1 rfl (fun hc2 => ?_) (fun hc2 => ?_)
  · skip
    try simp only [cs, ne_eq] at hc2
    refine r1 ?_
    refine s1 14 56 1 rfl rfl rfl rfl rfl rfl trivial ?_
    refine s1 2 64 2 rfl rfl rfl rfl rfl rfl trivial ?_
    refine s1 3 72 3 rfl rfl rfl rfl rfl rfl trivial ?_
    refine e1 80 rfl ?_
    refine keep [2, 3] rfl ?_
    refine W_ret ?_
    refine tr ?_
    exact out2 2 3 (.d .nils) (SV.i (sfault l)) (π := []) (hout := []) Tryd.results15 rfl rfl rfl rfl rfl rfl trivial ⟨rfl, rfl⟩
  exact absurd hc2 (by simpa using hz)
end Go.Proofs.YtpdojmebloekgaaDoor.Nice.Co
namespace Go.Proofs.YtpdojmebloekgaaDoor.Nice.Co
open Go
set_option linter.unusedVariables false
set_option linter.unusedSimpArgs false
set_option maxRecDepth 100000
theorem ans_form (L : List (List Smp)) : (∃ c, encAns L = .tup [.d .nils, SV.i c]) ∨ ∃ n f c, encAns L = .tup [.d (.vec 1 n f), SV.i c] := by
  unfold encAns
  split
  · exact .inl ⟨_, rfl⟩
  · split
    · exact .inr ⟨_, _, _, rfl⟩
    · exact .inl ⟨_, rfl⟩
section
variable {Pst : Value → World → Prop}
theorem each13_any (L : List (List Smp)) (hin : ∀ l, l ∈ L → SmpIn l) (Rd : Blks) : SpecX Tryd.prog GC 13 [listE L, .fn 14 []] (trPre Tryd.prog Pst Rd .p0) (postE L Pst) := by
  refine fnx_intro Tryd.func13 rfl rfl ?_
  by_cases hL : L.length ≤ 100
  · exact each13_a L hL hin Rd fun Wg Ch Rd' π σ hs => each13_b L hL hin Wg Ch Rd' hs
  · refine x1 ?_
    refine s1 3 0 1 rfl rfl rfl rfl rfl rfl trivial ?_
    refine s1 4 8 2 rfl rfl rfl rfl rfl rfl trivial ?_
    refine s1 5 16 3 rfl rfl rfl rfl rfl rfl trivial ?_
    refine e1 24 rfl ?_
    refine WX_seq ?_
    refine x1 ?_
    refine s1 15 24 1 rfl rfl rfl rfl rfl rfl trivial ?_
    refine s1 16 32 2 rfl rfl rfl rfl rfl rfl trivial ?_
    refine s1 17 40 3 rfl rfl rfl rfl rfl rfl trivial ?_
    refine e1 48 rfl ?_
    refine WX_cond rfl (fun hc => ?_) fun hc => ?_
    · refine x1 ?_
      refine s1 4 48 1 rfl rfl rfl rfl rfl rfl trivial ?_
      refine s1 5 56 2 rfl rfl rfl rfl rfl rfl trivial ?_
      refine e1 64 rfl ?_
      refine WX_ret ?_
      refine xtr ?_
      exact outX2 4 5 Tryd.results13 rfl rfl (free_data rfl) (free_data rfl) ⟨(ans_size (by omega)).symm, ends_pre⟩
    · exfalso
      simp at hc; omega
theorem encode_any (L : List (List Smp)) (hin : ∀ l, l ∈ L → SmpIn l) (Rd : Blks) : SpecX Tryd.prog GC 6 [listE L] (trPre Tryd.prog Pst Rd .p0) (postE L Pst) := by
  refine fnx_intro Tryd.func6 rfl rfl ?_
  refine x1 ?_
  refine s1 2 0 1 rfl rfl rfl rfl rfl rfl trivial ?_
  refine s1 3 8 2 rfl rfl rfl rfl rfl rfl trivial ?_
  refine e1 16 rfl ?_
  refine xX1 ?_
  refine RX_ops PZ.up [_] 0 _ (fun j hj => by simp at hj; subst hj; rfl) ?_
  refine s1 4 16 1 rfl rfl rfl rfl rfl rfl trivial ?_
  refine e1 64 rfl ?_
  refine RX_call PZ.up rfl rfl rfl rfl Tryd.func13 rfl (each13_any L hin Rd) rfl ?_ (fun n => rfl) rfl ?_
  · intro y hy
    simp at hy
    rcases hy with rfl | rfl
    · exact free_data rfl
    · exact free_fn
  rintro K' r ⟨rfl, hE⟩
  rcases ans_form L with ⟨c, e⟩ | ⟨n, f, c, e⟩
  · skip
    have hp : postE L Pst K' _ := ⟨e.symm, hE⟩
    rw [e]
    refine RX_ops PZ.up [_, _, _, _] 2 _ (fun j hj => by simp at hj; match j, hj with | 0, _ => rfl | 1, _ => rfl | 2, _ => rfl | 3, _ => rfl) ?_
    refine s1 6 32 3 rfl rfl rfl rfl rfl rfl trivial ?_
    refine s1 7 40 4 rfl rfl rfl rfl rfl rfl trivial ?_
    refine s1 2 48 5 rfl rfl rfl rfl rfl rfl trivial ?_
    refine s1 3 56 6 rfl rfl rfl rfl rfl rfl trivial ?_
    refine e1 64 rfl ?_
    refine RX_end rfl rfl ?_
    refine xtn ?_
    refine WX_ret ?_
    exact outX2 2 3 Tryd.results6 rfl rfl (free_data rfl) (free_data rfl) hp
  have hp : postE L Pst K' _ := ⟨e.symm, hE⟩
  rw [e]
  refine RX_ops PZ.up [_, _, _, _] 2 _ (fun j hj => by simp at hj; match j, hj with | 0, _ => rfl | 1, _ => rfl | 2, _ => rfl | 3, _ => rfl) ?_
  refine s1 6 32 3 rfl rfl rfl rfl rfl rfl trivial ?_
  refine s1 7 40 4 rfl rfl rfl rfl rfl rfl trivial ?_
  refine s1 2 48 5 rfl rfl rfl rfl rfl rfl trivial ?_
  refine s1 3 56 6 rfl rfl rfl rfl rfl rfl trivial ?_
  refine e1 64 rfl ?_
  refine RX_end rfl rfl ?_
  refine xtn ?_
  refine WX_ret ?_
  exact outX2 2 3 Tryd.results6 rfl rfl (free_data rfl) (free_data rfl) hp
end
/-! ### the document -/
theorem faults_none {L : List (List Smp)} (h : firstE L = 0) {i : Nat} (hi : i < L.length) : sfault (L.getD i []) = 0 := by
  refine Classical.byContradiction fun hc => ?_
  by_cases h0 : faultsTo L i = 0
  · exact hc (by rw [← faultsTo_at hi h0 hc]; exact h)
  · exact h0 (by rw [← faultsTo_stay (Nat.le_of_lt hi) h0]; exact h)
def okE (L : List (List Smp)) (i : Nat) : D := .vec 1 (encB (L.getD i [])).length (u8F (encB (L.getD i [])))
def ansV (L : List (List Smp)) : SV := .d (.vec 1 L.length (fun i _ => okE L i))
theorem what_ok {L : List (List Smp)} (h : firstE L = 0) (i : Nat) : whatE L i = okE L i := by
  unfold whatE
  rw [if_pos]
  · rfl
  · by_cases hi : i < L.length
    · exact faults_none h hi
    · rw [List.getD_eq_getElem?_getD, List.getElem?_eq_none (by omega)]; rfl
theorem ans_ok2 {L : List (List Smp)} (hL : L.length ≤ 100) (h : firstE L = 0) : encAns L = .tup [ansV L, SV.i 0] := by
  rw [ans_ok hL h]
  show SV.tup [.d (.vec 1 L.length _), _] = _
  rw [show (fun (i c : Nat) => whatE L i) = fun i _ => okE L i from funext fun i => funext fun _ => what_ok h i]
  rfl
theorem refEnc_size (L : List (List Smp)) (hL : 100 < L.length) : Spec Tryd.prog GC 7 [listE L] [] (fun r ho => r = SV.tup [.d .nils, SV.i 1] ∧ ho = []) := by
  refine start 32 0 Tryd.func7 rfl rfl rfl rfl ?_
  refine r1 ?_
  refine s1 2 0 1 rfl rfl rfl rfl rfl rfl trivial ?_
  refine s1 3 8 2 rfl rfl rfl rfl rfl rfl trivial ?_
  refine e1 16 rfl ?_
  refine keep [0] rfl ?_
  refine W_seq ?_
  refine r1 ?_
  refine s1 9 16 1 rfl rfl rfl rfl rfl rfl trivial ?_
  refine s1 10 24 2 rfl rfl rfl rfl rfl rfl (by first | trivial | omega) ?_
  refine s1 11 32 3 rfl rfl rfl rfl rfl rfl (by first | trivial | omega) ?_
  refine e1 40 rfl ?_
  refine keep [0, 11] rfl ?_
  refine q1 rfl (fun hc1 => ?_) (fun hc1 => ?_)
  · skip
    try simp only [cs, ne_eq] at hc1
    refine r1 ?_
    refine s1 2 40 1 rfl rfl rfl rfl rfl rfl trivial ?_
    refine s1 3 48 2 rfl rfl rfl rfl rfl rfl trivial ?_
    refine e1 56 rfl ?_
    refine keep [2, 3] rfl ?_
    refine W_ret ?_
    refine tr ?_
    exact out2 2 3 (.d .nils) (SV.i 1) (π := []) (hout := []) Tryd.results7 rfl rfl rfl rfl rfl rfl trivial ⟨rfl, rfl⟩
  exfalso; simp at hc1; omega
theorem refEnc_all (L : List (List Smp)) (hin : ∀ l, l ∈ L → SmpIn l) (hL : L.length ≤ 100) : Spec Tryd.prog GC 7 [listE L] [] (fun r ho => (firstE L = 0 ∧ r = SV.tup [.sl 0 0 L.length, SV.i 0] ∧ ho = [some (.rows 39 1 L.length (fun i _ => okE L i))]) ∨ (firstE L ≠ 0 ∧ r = SV.tup [.d .nils, SV.i (firstE L)] ∧ ho = [])) := by
  refine start 32 0 Tryd.func7 rfl rfl rfl rfl ?_
  refine r1 ?_
  refine s1 2 0 1 rfl rfl rfl rfl rfl rfl trivial ?_
  refine s1 3 8 2 rfl rfl rfl rfl rfl rfl trivial ?_
  refine e1 16 rfl ?_
  refine keep [0] rfl ?_
  refine W_seq ?_
  refine r1 ?_
  refine s1 9 16 1 rfl rfl rfl rfl rfl rfl trivial ?_
  refine s1 10 24 2 rfl rfl rfl rfl rfl rfl (by first | trivial | omega) ?_
  refine s1 11 32 3 rfl rfl rfl rfl rfl rfl (by first | trivial | omega) ?_
  refine e1 40 rfl ?_
  refine keep [0, 11] rfl ?_
  refine q1 rfl (fun hc1 => ?_) (fun hc1 => ?_)
  · skip
    exfalso; simp at hc1; omega
  try simp only [cs, ne_eq] at hc1
  refine W_skip ?_
  refine tn ?_
  refine r1 ?_
  refine s1 4 40 1 rfl rfl rfl rfl rfl rfl trivial ?_
  refine e1 48 rfl ?_
  refine keep [0, 4] rfl ?_
  refine W_seq ?_
  refine r1 ?_
  refine s1 12 48 1 rfl rfl rfl rfl rfl rfl trivial ?_
  refine s1 13 56 2 rfl rfl rfl rfl rfl rfl (by first | trivial | omega) ?_
  refine s1 14 64 3 rfl rfl rfl rfl rfl rfl trivial ?_
  refine e1 72 rfl ?_
  refine keep [4, 12, 13, 14] rfl ?_
  refine W_block ?_
  refine ghostly 4 39 1 (fun i _ => okE L i) rfl ?_
  refine loop (α := Nat) 1 (fun n => [(4, .sl 0 0 (n)), (12, listE L), (13, SV.i L.length), (14, SV.i (n))]) (fun n => [some (.rows 39 1 (n) (fun i _ => okE L i))]) (fun n => (n) ≤ L.length ∧ faultsTo L (n) = 0) (fun n => L.length - (n)) (((0) : Nat)) [72] (fun _ => rfl) (show (0) ≤ L.length ∧ faultsTo L (0) = 0 from ⟨Nat.zero_le _, rfl⟩) rfl ⟨rfl, rfl, rfl, rfl, trivial⟩ ⟨rfl, trivial⟩ (fun n hx => ?_)
  show W _ _ _ ⟨tOf [(4, .sl 0 0 n), (12, listE L), (13, SV.i L.length), (14, SV.i n)], hOf [some (.rows 39 1 n (fun i _ => okE L i))], 1⟩
  have hx : n ≤ L.length ∧ faultsTo L n = 0 := hx
  obtain ⟨hn, hno⟩ := hx
  by_cases hz : sfault (L.getD n []) = 0
  · skip
    refine r1 ?_
    refine s1 15 1 1 rfl rfl rfl rfl rfl rfl (by first | trivial | omega) ?_
    refine e1 9 rfl ?_
    refine keep [4, 12, 13, 14, 15] rfl ?_
    refine W_seq ?_
    refine q1 rfl (fun hc5 => ?_) (fun hc5 => ?_)
    · skip
      try simp only [cs, ne_eq] at hc5
      refine W_skip ?_
      refine tn ?_
      refine W_seq ?_
      refine W_block ?_
      refine r1 ?_
      refine s1 16 9 1 rfl rfl rfl rfl rfl rfl (by first | trivial | omega) ?_
      refine s1 17 17 2 rfl rfl rfl rfl rfl rfl (by first | trivial | omega) ?_
      refine val 17 (smpV (L.getD n [])) rfl (by simp only [Int.toNat_natCast, Nat.zero_add]; rfl) ?_
      refine s1 6 25 3 rfl rfl rfl rfl rfl rfl trivial ?_
      refine e1 33 rfl ?_
      refine keep [4, 6, 12, 13, 14] rfl ?_
      refine r1 ?_
      refine s1 19 33 1 rfl rfl rfl rfl rfl rfl trivial ?_
      refine c1 (encoded_ok (L.getD n []) (hin _ (mem_at [] (by omega))) hz) [] [41] 20 41 2 rfl rfl rfl rfl rfl rfl rfl rfl Tryd.func15 rfl rfl rfl rfl trivial rfl rfl ?_
      refine s1 18 49 3 rfl rfl rfl rfl rfl rfl trivial ?_
      refine s1 21 57 4 rfl rfl rfl rfl rfl rfl trivial ?_
      refine s1 22 65 5 rfl rfl rfl rfl rfl rfl trivial ?_
      refine s1 7 73 6 rfl rfl rfl rfl rfl rfl trivial ?_
      refine s1 8 81 7 rfl rfl rfl rfl rfl rfl trivial ?_
      refine e1 89 rfl ?_
      refine keep [4, 7, 8, 12, 13, 14] rfl ?_
      refine W_seq ?_
      refine r1 ?_
      refine s1 23 89 1 rfl rfl rfl rfl rfl rfl trivial ?_
      refine s1 24 97 2 rfl rfl rfl rfl rfl rfl (by first | trivial | omega) ?_
      refine e1 105 rfl ?_
      refine keep [4, 7, 8, 12, 13, 14, 24] rfl ?_
      refine q1 rfl (fun hc8 => ?_) (fun hc8 => ?_)
      · skip
        exact absurd hc8 (by decide)
      try simp only [cs, ne_eq] at hc8
      refine W_skip ?_
      refine tn ?_
      refine freeze 7 41 (encB (L.getD n [])).length rfl rfl (Nat.le_refl _) ?_
      refine r0 ?_
      refine s1 26 105 1 rfl rfl rfl rfl rfl rfl trivial ?_
      refine s1 27 113 2 rfl rfl rfl rfl rfl rfl trivial ?_
      refine sLit 1 (fun _ _ => .vec 1 (encB (L.getD n [])).length (u8F (encB (L.getD n [])))) 28 121 3 rfl rfl rfl rfl rfl rfl rfl rfl rfl (by intro i c hi hc; obtain rfl : i = 0 := (by omega); obtain rfl : c = 0 := (by omega); rfl) ?_
      refine s1 29 129 4 rfl rfl rfl rfl rfl rfl ⟨Nat.le_refl _, (by omega), (by show (n + 1) * 24 ≤ 140737488355328; omega), (by simp only [maxLen]; omega)⟩ ?_
      refine s1 4 137 5 rfl rfl rfl rfl rfl rfl trivial ?_
      refine e1 145 rfl ?_
      refine bn ?_
      refine tn ?_
      refine rowsc 129 (n + 1) (fun i _ => okE L i) rfl rfl (fun i c hi hc => by show catR (fun i _ => okE L i) n _ i c = _; unfold catR; by_cases e : i < n; (rw [if_pos e]); (rw [if_neg e]; obtain rfl : i = n := (by omega); rfl)) ?_
      refine r0 ?_
      refine sA 30 145 1 rfl rfl rfl rfl rfl rfl rfl rfl rfl (by unfold inRange; omega) ?_
      refine s1 14 153 2 rfl rfl rfl rfl rfl rfl trivial ?_
      refine e1 161 rfl ?_
      refine tn ?_
      exact again ((n + 1 : Nat)) [129] (show (n + 1) ≤ L.length ∧ faultsTo L (n + 1) = 0 from ⟨by omega, faultsTo_step hno hz⟩) (show L.length - (n + 1) < L.length - n from (by omega)) rfl ⟨rfl, rfl, rfl, rfl, trivial⟩ ⟨rfl, trivial⟩
    try simp only [cs, ne_eq] at hc5
    refine W_exit ?_
    refine tx ?_
    refine tx ?_
    refine bx ?_
    refine tn ?_
    obtain rfl : n = L.length := (by omega)
    refine r1 ?_
    refine s1 31 9 1 rfl rfl rfl rfl rfl rfl trivial ?_
    refine s1 2 17 2 rfl rfl rfl rfl rfl rfl trivial ?_
    refine s1 3 25 3 rfl rfl rfl rfl rfl rfl trivial ?_
    refine e1 33 rfl ?_
    refine keep [2, 3] rfl ?_
    refine W_ret ?_
    exact out2 2 3 (.sl 0 0 L.length) (SV.i 0) (π := [0]) (hout := [some (.rows 39 1 L.length (fun i _ => okE L i))]) Tryd.results7 rfl rfl rfl rfl rfl rfl ⟨rfl, trivial⟩ (.inl ⟨hno, rfl, rfl⟩)
  refine r1 ?_
  refine s1 15 1 1 rfl rfl rfl rfl rfl rfl (by first | trivial | omega) ?_
  refine e1 9 rfl ?_
  refine keep [4, 12, 13, 14, 15] rfl ?_
  refine W_seq ?_
  refine q1 rfl (fun hc5 => ?_) (fun hc5 => ?_)
  · skip
    try simp only [cs, ne_eq] at hc5
    refine W_skip ?_
    refine tn ?_
    refine W_seq ?_
    refine W_block ?_
    refine r1 ?_
    refine s1 16 9 1 rfl rfl rfl rfl rfl rfl (by first | trivial | omega) ?_
    refine s1 17 17 2 rfl rfl rfl rfl rfl rfl (by first | trivial | omega) ?_
    refine val 17 (smpV (L.getD n [])) rfl (by simp only [Int.toNat_natCast, Nat.zero_add]; rfl) ?_
    refine s1 6 25 3 rfl rfl rfl rfl rfl rfl trivial ?_
    refine e1 33 rfl ?_
    refine keep [4, 6, 12, 13, 14] rfl ?_
    refine r1 ?_
    refine s1 19 33 1 rfl rfl rfl rfl rfl rfl trivial ?_
    refine c1 (encoded_bad (L.getD n []) (hin _ (mem_at [] (by omega))) hz) [] [] 20 41 2 rfl rfl rfl rfl rfl rfl rfl rfl Tryd.func15 rfl rfl rfl rfl trivial rfl rfl ?_
    refine s1 18 49 3 rfl rfl rfl rfl rfl rfl trivial ?_
    refine s1 21 57 4 rfl rfl rfl rfl rfl rfl trivial ?_
    refine s1 22 65 5 rfl rfl rfl rfl rfl rfl trivial ?_
    refine s1 7 73 6 rfl rfl rfl rfl rfl rfl trivial ?_
    refine s1 8 81 7 rfl rfl rfl rfl rfl rfl trivial ?_
    refine e1 89 rfl ?_
    refine keep [4, 7, 8, 12, 13, 14] rfl ?_
    refine W_seq ?_
    refine r1 ?_
    refine s1 23 89 1 rfl rfl rfl rfl rfl rfl trivial ?_
    refine s1 24 97 2 rfl rfl rfl rfl rfl rfl (by first | trivial | omega) ?_
    refine e1 105 rfl ?_
    refine keep [4, 7, 8, 12, 13, 14, 24] rfl ?_
    refine q1 rfl (fun hc8 => ?_) (fun hc8 => ?_)
    · skip
      try simp only [cs, ne_eq] at hc8
      refine r1 ?_
      refine s1 25 105 1 rfl rfl rfl rfl rfl rfl trivial ?_
      refine s1 2 113 2 rfl rfl rfl rfl rfl rfl trivial ?_
      refine s1 3 121 3 rfl rfl rfl rfl rfl rfl trivial ?_
      refine e1 129 rfl ?_
      refine keep [2, 3] rfl ?_
      refine W_ret ?_
      refine tr ?_
      refine br ?_
      refine tr ?_
      refine tr ?_
      refine br ?_
      refine tr ?_
      exact out2 2 3 (.d .nils) (SV.i (sfault (L.getD n []))) (π := []) (hout := []) Tryd.results7 rfl rfl rfl rfl rfl rfl trivial (.inr (by have h := faultsTo_at (L := L) (k := n) (n := L.length) (by omega) hno hz; exact ⟨by unfold firstE; rw [h]; exact hz, by unfold firstE; rw [h], rfl⟩))
    exfalso; simp at hc8; exact hz hc8
  try simp only [cs, ne_eq] at hc5
  refine W_exit ?_
  refine tx ?_
  refine tx ?_
  refine bx ?_
  refine tn ?_
  obtain rfl : n = L.length := (by omega)
  refine r1 ?_
  refine s1 31 9 1 rfl rfl rfl rfl rfl rfl trivial ?_
  refine s1 2 17 2 rfl rfl rfl rfl rfl rfl trivial ?_
  refine s1 3 25 3 rfl rfl rfl rfl rfl rfl trivial ?_
  refine e1 33 rfl ?_
  refine keep [2, 3] rfl ?_
  refine W_ret ?_
  exact out2 2 3 (.sl 0 0 L.length) (SV.i 0) (π := [0]) (hout := [some (.rows 39 1 L.length (fun i _ => okE L i))]) Tryd.results7 rfl rfl rfl rfl rfl rfl ⟨rfl, trivial⟩ (.inl ⟨hno, rfl, rfl⟩)
theorem refEnc_ok (L : List (List Smp)) (hin : ∀ l, l ∈ L → SmpIn l) (hL : L.length ≤ 100) (h0 : firstE L = 0) : Spec Tryd.prog GC 7 [listE L] [] (fun r ho => r = SV.tup [.sl 0 0 L.length, SV.i 0] ∧ ho = [some (.rows 39 1 L.length (fun i _ => okE L i))]) :=
  (refEnc_all L hin hL).mono fun r ho h => by
    rcases h with ⟨_, a, b⟩ | ⟨h, _⟩
    · exact ⟨a, b⟩
    · exact absurd h0 h
theorem refEnc_bad (L : List (List Smp)) (hin : ∀ l, l ∈ L → SmpIn l) (hL : L.length ≤ 100) (h0 : firstE L ≠ 0) : Spec Tryd.prog GC 7 [listE L] [] (fun r ho => r = SV.tup [.d .nils, SV.i (firstE L)] ∧ ho = []) :=
  (refEnc_all L hin hL).mono fun r ho h => by
    rcases h with ⟨h, _⟩ | ⟨_, a, b⟩
    · exact absurd h h0
    · exact ⟨a, b⟩
def same8 (x y : List Int) : Bool := decide (x = y)
theorem same_of8 {x y : List Int} (hl : x.length = y.length) (h : ∀ j, j < x.length → x.getD j 0 = y.getD j 0) : x = y := by
  refine List.ext_getElem hl fun i h1 h2 => ?_
  have := h i h1
  simpa [List.getD, h1, h2] using this
theorem same8_any (x y : List Int) (hxl : x.length ≤ 9223372036854775807) (hyl : y.length ≤ 9223372036854775807) : Spec Tryd.prog GC 16 [u8V x, u8V y] [] (fun r ho => r = SV.b (same8 x y) ∧ ho = []) := by
  refine start 26 0 Tryd.func16 rfl rfl rfl rfl ?_
  refine r1 ?_
  refine s1 4 0 1 rfl rfl rfl rfl rfl rfl trivial ?_
  refine e1 8 rfl ?_
  refine keep [0, 1] rfl ?_
  refine W_seq ?_
  refine r1 ?_
  refine s1 6 8 1 rfl rfl rfl rfl rfl rfl trivial ?_
  refine s1 7 16 2 rfl rfl rfl rfl rfl rfl (by first | trivial | omega) ?_
  refine s1 8 24 3 rfl rfl rfl rfl rfl rfl trivial ?_
  refine s1 9 32 4 rfl rfl rfl rfl rfl rfl (by first | trivial | omega) ?_
  refine s1 10 40 5 rfl rfl rfl rfl rfl rfl (by first | trivial | omega) ?_
  refine e1 48 rfl ?_
  refine keep [0, 1, 10] rfl ?_
  refine q1 rfl (fun hc1 => ?_) (fun hc1 => ?_)
  · skip
    try simp only [cs, ne_eq] at hc1
    refine r1 ?_
    refine s1 4 48 1 rfl rfl rfl rfl rfl rfl trivial ?_
    refine e1 56 rfl ?_
    refine keep [4] rfl ?_
    refine W_ret ?_
    refine tr ?_
    exact out1 4 (SV.b (same8 x y)) (π := []) (hout := []) Tryd.results16 rfl (by show SV.b _ = SV.b _; refine congrArg SV.b ?_; unfold same8; rw [decide_eq_false]; intro e; subst e; omega) rfl rfl trivial ⟨rfl, rfl⟩
  try simp only [cs, ne_eq] at hc1
  refine W_skip ?_
  refine tn ?_
  refine W_seq ?_
  refine r1 ?_
  refine s1 5 48 1 rfl rfl rfl rfl rfl rfl trivial ?_
  refine e1 56 rfl ?_
  refine keep [0, 1, 5] rfl ?_
  refine W_block ?_
  have hl : x.length = y.length := (by omega)
  refine loop (α := Nat) 0 (fun n => [(0, u8V x), (1, u8V y), (5, SV.i (n))]) (fun n => []) (fun n => (n) ≤ x.length ∧ ∀ j, j < (n) → x.getD j 0 = y.getD j 0) (fun n => x.length - (n)) (((0) : Nat)) [] (fun _ => rfl) (show (0) ≤ x.length ∧ ∀ j, j < (0) → x.getD j 0 = y.getD j 0 from ⟨Nat.zero_le _, fun j hj => by omega⟩) rfl ⟨rfl, rfl, rfl, trivial⟩ trivial (fun n hx => ?_)
  show W _ _ _ ⟨tOf [(0, u8V x), (1, u8V y), (5, SV.i n)], hOf [], 0⟩
  have hx : n ≤ x.length ∧ ∀ j, j < n → x.getD j 0 = y.getD j 0 := hx
  obtain ⟨hn, hno⟩ := hx
  refine W_seq ?_
  refine r1 ?_
  refine s1 11 0 1 rfl rfl rfl rfl rfl rfl trivial ?_
  refine s1 12 8 2 rfl rfl rfl rfl rfl rfl trivial ?_
  refine s1 13 16 3 rfl rfl rfl rfl rfl rfl (by first | trivial | omega) ?_
  refine s1 14 24 4 rfl rfl rfl rfl rfl rfl (by first | trivial | omega) ?_
  refine e1 32 rfl ?_
  refine keep [0, 1, 5, 14] rfl ?_
  refine q1 rfl (fun hc4 => ?_) (fun hc4 => ?_)
  · skip
    try simp only [cs, ne_eq] at hc4
    refine W_skip ?_
    refine tn ?_
    refine W_seq ?_
    refine W_block ?_
    refine rd1 rfl ?_
    refine d1 17 32 1 rfl rfl rfl rfl rfl rfl trivial ?_
    refine d1 18 40 2 rfl rfl rfl rfl rfl rfl trivial ?_
    refine d1 19 48 3 rfl rfl rfl rfl rfl rfl (by first | trivial | omega) ?_
    refine d1 20 56 4 rfl rfl rfl rfl rfl rfl (by first | trivial | omega) ?_
    refine d1 21 64 5 rfl rfl rfl rfl rfl rfl trivial ?_
    refine d1 22 72 6 rfl rfl rfl rfl rfl rfl trivial ?_
    refine d1 23 80 7 rfl rfl rfl rfl rfl rfl (by first | trivial | omega) ?_
    refine d1 24 88 8 rfl rfl rfl rfl rfl rfl (by first | trivial | omega) ?_
    refine d1 25 96 9 rfl rfl rfl rfl rfl rfl (by first | trivial | omega) ?_
    refine de1 104 rfl (by kernel_rfl) ?_
    refine keep [0, 1, 5, 25] rfl ?_
    refine q1 rfl (fun hc6 => ?_) (fun hc6 => ?_)
    · skip
      try simp only [cs, ne_eq] at hc6
      refine r1 ?_
      refine s1 4 104 1 rfl rfl rfl rfl rfl rfl trivial ?_
      refine e1 112 rfl ?_
      refine keep [4] rfl ?_
      refine W_ret ?_
      refine br ?_
      refine tr ?_
      refine tr ?_
      refine br ?_
      refine tr ?_
      exact out1 4 (SV.b (same8 x y)) (π := []) (hout := []) Tryd.results16 rfl (by show SV.b _ = SV.b _; refine congrArg SV.b ?_; unfold same8; rw [decide_eq_false]; intro e; subst e; exact hc6 rfl) rfl rfl trivial ⟨rfl, rfl⟩
    try simp only [cs, ne_eq] at hc6
    refine W_skip ?_
    refine bn ?_
    refine tn ?_
    refine r0 ?_
    refine s1 15 104 1 rfl rfl rfl rfl rfl rfl trivial ?_
    refine sA 16 112 2 rfl rfl rfl rfl rfl rfl rfl rfl rfl (by unfold inRange; omega) ?_
    refine s1 5 120 3 rfl rfl rfl rfl rfl rfl trivial ?_
    refine e1 128 rfl ?_
    refine tn ?_
    exact again ((n + 1 : Nat)) [] (show (n + 1) ≤ x.length ∧ ∀ j, j < (n + 1) → x.getD j 0 = y.getD j 0 from ⟨by omega, fun j hj => by by_cases e : j = n; (subst e; exact hc6); exact hno j (by omega)⟩) (show x.length - (n + 1) < x.length - n from (by omega)) rfl ⟨rfl, rfl, rfl, trivial⟩ trivial
  try simp only [cs, ne_eq] at hc4
  refine W_exit ?_
  refine tx ?_
  refine tx ?_
  refine bx ?_
  refine tn ?_
  refine r1 ?_
  refine s1 4 32 1 rfl rfl rfl rfl rfl rfl trivial ?_
  refine e1 40 rfl ?_
  refine keep [4] rfl ?_
  refine W_ret ?_
  exact out1 4 (SV.b (same8 x y)) (π := []) (hout := []) Tryd.results16 rfl (by show SV.b _ = SV.b _; refine congrArg SV.b ?_; unfold same8; rw [decide_eq_true]; exact same_of8 hl (fun j hj => hno j (by omega))) rfl rfl trivial ⟨rfl, rfl⟩
theorem encB_len2 {l : List Smp} (hz : sfault l = 0) : (encB l).length ≤ 9223372036854775807 := by
  have h1 := encL_len l l.length
  have hl : l.length ≤ 120 := by
    unfold sfault at hz
    by_cases h : 120 < l.length
    · rw [if_pos h] at hz; cases hz
    · omega
  unfold encB
  rw [pack_length]; omega
theorem same8_self (x : List Int) (hx : x.length ≤ 9223372036854775807) : Spec Tryd.prog GC 16 [u8V x, u8V x] [] (fun r ho => r = SV.b true ∧ ho = []) := by
  have e : same8 x x = true := by unfold same8; exact decide_eq_true rfl
  have := same8_any x x hx hx
  rwa [e] at this
theorem same_enc (L : List (List Smp)) (hL : L.length ≤ 100) (h0 : firstE L = 0) : Spec Tryd.prog GC 8 [ansV L, ansV L] [] (fun r ho => r = SV.b true ∧ ho = []) := by
  refine start 27 0 Tryd.func8 rfl rfl rfl rfl ?_
  refine r1 ?_
  refine s1 4 0 1 rfl rfl rfl rfl rfl rfl trivial ?_
  refine e1 8 rfl ?_
  refine keep [0, 1] rfl ?_
  refine W_seq ?_
  refine r1 ?_
  refine s1 6 8 1 rfl rfl rfl rfl rfl rfl trivial ?_
  refine s1 7 16 2 rfl rfl rfl rfl rfl rfl (by first | trivial | omega) ?_
  refine s1 8 24 3 rfl rfl rfl rfl rfl rfl trivial ?_
  refine s1 9 32 4 rfl rfl rfl rfl rfl rfl (by first | trivial | omega) ?_
  refine s1 10 40 5 rfl rfl rfl rfl rfl rfl (by first | trivial | omega) ?_
  refine e1 48 rfl ?_
  refine keep [0, 1, 10] rfl ?_
  refine q1 rfl (fun hc1 => ?_) (fun hc1 => ?_)
  · skip
    exfalso; simp at hc1
  try simp only [cs, ne_eq] at hc1
  refine W_skip ?_
  refine tn ?_
  refine W_seq ?_
  refine r1 ?_
  refine s1 5 48 1 rfl rfl rfl rfl rfl rfl trivial ?_
  refine e1 56 rfl ?_
  refine keep [0, 1, 5] rfl ?_
  refine W_block ?_
  refine loop (α := Nat) 0 (fun n => [(0, ansV L), (1, ansV L), (5, SV.i (n))]) (fun n => []) (fun n => (n) ≤ L.length) (fun n => L.length - (n)) (((0) : Nat)) [] (fun _ => rfl) (show (0) ≤ L.length from (Nat.zero_le _)) rfl ⟨rfl, rfl, rfl, trivial⟩ trivial (fun n hx => ?_)
  show W _ _ _ ⟨tOf [(0, ansV L), (1, ansV L), (5, SV.i n)], hOf [], 0⟩
  have hx : n ≤ L.length := hx
  refine W_seq ?_
  refine r1 ?_
  refine s1 11 0 1 rfl rfl rfl rfl rfl rfl trivial ?_
  refine s1 12 8 2 rfl rfl rfl rfl rfl rfl trivial ?_
  refine s1 13 16 3 rfl rfl rfl rfl rfl rfl (by first | trivial | omega) ?_
  refine s1 14 24 4 rfl rfl rfl rfl rfl rfl (by first | trivial | omega) ?_
  refine e1 32 rfl ?_
  refine keep [0, 1, 5, 14] rfl ?_
  refine q1 rfl (fun hc4 => ?_) (fun hc4 => ?_)
  · skip
    try simp only [cs, ne_eq] at hc4
    refine W_skip ?_
    refine tn ?_
    refine W_seq ?_
    refine W_block ?_
    refine rd1 rfl ?_
    refine d1 17 32 1 rfl rfl rfl rfl rfl rfl trivial ?_
    refine d1 18 40 2 rfl rfl rfl rfl rfl rfl trivial ?_
    refine d1 19 48 3 rfl rfl rfl rfl rfl rfl (by omega) ?_
    refine d1 20 56 4 rfl rfl rfl rfl rfl rfl (by first | trivial | omega) ?_
    refine val 20 (u8V (encB (L.getD n []))) rfl (by simp only [Int.toNat_natCast, Nat.zero_add]; rfl) ?_
    refine d1 21 64 5 rfl rfl rfl rfl rfl rfl trivial ?_
    refine d1 22 72 6 rfl rfl rfl rfl rfl rfl trivial ?_
    refine d1 23 80 7 rfl rfl rfl rfl rfl rfl (by omega) ?_
    refine d1 24 88 8 rfl rfl rfl rfl rfl rfl (by first | trivial | omega) ?_
    refine val 24 (u8V (encB (L.getD n []))) rfl (by simp only [Int.toNat_natCast, Nat.zero_add]; rfl) ?_
    refine dc1 (same8_self (encB (L.getD n [])) (encB_len2 (faults_none h0 (by omega)))) [] [] 25 96 9 rfl rfl rfl rfl rfl rfl rfl rfl Tryd.func16 rfl rfl rfl rfl trivial rfl rfl ?_
    refine d1 26 104 10 rfl rfl rfl rfl rfl rfl trivial ?_
    refine de1 112 rfl (by kernel_rfl) ?_
    refine keep [0, 1, 5, 26] rfl ?_
    refine q1 rfl (fun hc6 => ?_) (fun hc6 => ?_)
    · skip
      exfalso; exact absurd hc6 (by decide)
    try simp only [cs, ne_eq] at hc6
    refine W_skip ?_
    refine bn ?_
    refine tn ?_
    refine r0 ?_
    refine s1 15 112 1 rfl rfl rfl rfl rfl rfl trivial ?_
    refine sA 16 120 2 rfl rfl rfl rfl rfl rfl rfl rfl rfl (by unfold inRange; omega) ?_
    refine s1 5 128 3 rfl rfl rfl rfl rfl rfl trivial ?_
    refine e1 136 rfl ?_
    refine tn ?_
    exact again ((n + 1 : Nat)) [] (show (n + 1) ≤ L.length from (by omega)) (show L.length - (n + 1) < L.length - n from (by omega)) rfl ⟨rfl, rfl, rfl, trivial⟩ trivial
  try simp only [cs, ne_eq] at hc4
  refine W_exit ?_
  refine tx ?_
  refine tx ?_
  refine bx ?_
  refine tn ?_
  refine r1 ?_
  refine s1 4 32 1 rfl rfl rfl rfl rfl rfl trivial ?_
  refine e1 40 rfl ?_
  refine keep [4] rfl ?_
  refine W_ret ?_
  exact out1 4 (SV.b true) (π := []) (hout := []) Tryd.results8 rfl rfl rfl rfl trivial ⟨rfl, rfl⟩
theorem same_nils : Spec Tryd.prog GC 8 [.d .nils, .d .nils] [] (fun r ho => r = SV.b true ∧ ho = []) :=
  (same_enc [] (by decide) rfl).args rfl fun M ρ i x' hx => by
    match i, hx with
    | 0, hx => cases hx; exact ⟨_, rfl, fun u hu => hu.nil_vec⟩
    | 1, hx => cases hx; exact ⟨_, rfl, fun u hu => hu.nil_vec⟩
    | n + 2, hx => simp at hx
noncomputable def tailLE : Code := match Tryd.f3.body.getD .skip with | .seq _ (.seq _ c) => c | _ => .skip
theorem lawT_size (L : List (List Smp)) (hL : 100 < L.length) : W ⟨Tryd.prog, 25, 0, GC⟩ tailLE (outQ ⟨Tryd.prog, 25, 0, GC⟩ Tryd.f3 (fun r _ => r = SV.b true)) (stOf [(0, listE L), (3, .d .nils), (4, SV.i 1)] []) := by
  show W _ _ _ ⟨tOf _, hOf _, 0⟩
  refine r1 ?_
  refine s1 13 0 1 rfl rfl rfl rfl rfl rfl trivial ?_
  refine c1 (refEnc_size L hL) [] [] 14 8 2 rfl rfl rfl rfl rfl rfl rfl rfl Tryd.func7 rfl rfl rfl rfl trivial rfl rfl ?_
  refine s1 12 16 3 rfl rfl rfl rfl rfl rfl trivial ?_
  refine s1 15 24 4 rfl rfl rfl rfl rfl rfl trivial ?_
  refine s1 16 32 5 rfl rfl rfl rfl rfl rfl trivial ?_
  refine s1 5 40 6 rfl rfl rfl rfl rfl rfl trivial ?_
  refine s1 6 48 7 rfl rfl rfl rfl rfl rfl trivial ?_
  refine e1 56 rfl ?_
  refine keep [3, 4, 5, 6] rfl ?_
  refine r1 ?_
  refine s1 17 56 1 rfl rfl rfl rfl rfl rfl trivial ?_
  refine s1 18 64 2 rfl rfl rfl rfl rfl rfl trivial ?_
  refine c1 (same_nils) [] [] 19 72 3 rfl rfl rfl rfl rfl rfl rfl rfl Tryd.func8 rfl rfl rfl rfl trivial rfl rfl ?_
  refine s1 20 80 4 rfl rfl rfl rfl rfl rfl trivial ?_
  refine ask 20 rfl (fun hg3_20 => ?_) (fun hg3_20 => ?_)
  · skip
    try simp only [cs, ne_eq] at hg3_20
    refine g1 3 true 20 21 5 rfl rfl rfl rfl rfl ?_
    refine s1 21 88 5 rfl rfl rfl rfl rfl rfl trivial ?_
    refine g1 3 true 20 22 6 rfl rfl rfl rfl rfl ?_
    refine s1 22 96 6 rfl rfl rfl rfl rfl rfl trivial ?_
    refine g1 3 true 20 23 7 rfl rfl rfl rfl rfl ?_
    refine s1 23 104 7 rfl rfl rfl rfl rfl rfl (by first | trivial | omega) ?_
    refine s1 24 112 8 rfl rfl rfl rfl rfl rfl trivial ?_
    refine s1 2 120 9 rfl rfl rfl rfl rfl rfl trivial ?_
    refine e1 128 rfl ?_
    refine keep [2] rfl ?_
    refine W_ret ?_
    exact out1 2 (SV.b true) (π := []) (hout := []) Tryd.results3 rfl (by first | rfl | (simp; done) | (simp; rfl) | (simp [*]; rfl)) rfl rfl trivial rfl
  try simp only [cs, ne_eq] at hg3_20
  all_goals (exfalso; first | (simp at hg3_20; done) | (simp at hg3_20; omega) | (simp_all; omega) | omega)
theorem lawT_bad (L : List (List Smp)) (hin : ∀ l, l ∈ L → SmpIn l) (hL : L.length ≤ 100) (h0 : firstE L ≠ 0) : W ⟨Tryd.prog, 25, 0, GC⟩ tailLE (outQ ⟨Tryd.prog, 25, 0, GC⟩ Tryd.f3 (fun r _ => r = SV.b true)) (stOf [(0, listE L), (3, .d .nils), (4, SV.i (firstE L))] []) := by
  show W _ _ _ ⟨tOf _, hOf _, 0⟩
  refine r1 ?_
  refine s1 13 0 1 rfl rfl rfl rfl rfl rfl trivial ?_
  refine c1 (refEnc_bad L hin hL h0) [] [] 14 8 2 rfl rfl rfl rfl rfl rfl rfl rfl Tryd.func7 rfl rfl rfl rfl trivial rfl rfl ?_
  refine s1 12 16 3 rfl rfl rfl rfl rfl rfl trivial ?_
  refine s1 15 24 4 rfl rfl rfl rfl rfl rfl trivial ?_
  refine s1 16 32 5 rfl rfl rfl rfl rfl rfl trivial ?_
  refine s1 5 40 6 rfl rfl rfl rfl rfl rfl trivial ?_
  refine s1 6 48 7 rfl rfl rfl rfl rfl rfl trivial ?_
  refine e1 56 rfl ?_
  refine keep [3, 4, 5, 6] rfl ?_
  refine r1 ?_
  refine s1 17 56 1 rfl rfl rfl rfl rfl rfl trivial ?_
  refine s1 18 64 2 rfl rfl rfl rfl rfl rfl trivial ?_
  refine c1 (same_nils) [] [] 19 72 3 rfl rfl rfl rfl rfl rfl rfl rfl Tryd.func8 rfl rfl rfl rfl trivial rfl rfl ?_
  refine s1 20 80 4 rfl rfl rfl rfl rfl rfl trivial ?_
  refine ask 20 rfl (fun hg3_20 => ?_) (fun hg3_20 => ?_)
  · skip
    try simp only [cs, ne_eq] at hg3_20
    refine g1 3 true 20 21 5 rfl rfl rfl rfl rfl ?_
    refine s1 21 88 5 rfl rfl rfl rfl rfl rfl trivial ?_
    refine g1 3 true 20 22 6 rfl rfl rfl rfl rfl ?_
    refine s1 22 96 6 rfl rfl rfl rfl rfl rfl trivial ?_
    refine g1 3 true 20 23 7 rfl rfl rfl rfl rfl ?_
    refine s1 23 104 7 rfl rfl rfl rfl rfl rfl (by first | trivial | omega) ?_
    refine s1 24 112 8 rfl rfl rfl rfl rfl rfl trivial ?_
    refine s1 2 120 9 rfl rfl rfl rfl rfl rfl trivial ?_
    refine e1 128 rfl ?_
    refine keep [2] rfl ?_
    refine W_ret ?_
    exact out1 2 (SV.b true) (π := []) (hout := []) Tryd.results3 rfl (by first | rfl | (simp; done) | (simp; rfl) | (simp [*]; rfl)) rfl rfl trivial rfl
  try simp only [cs, ne_eq] at hg3_20
  all_goals (exfalso; first | (simp at hg3_20; done) | (simp at hg3_20; omega) | (simp_all; omega) | omega)
theorem lawT_ok (L : List (List Smp)) (hin : ∀ l, l ∈ L → SmpIn l) (hL : L.length ≤ 100) (h0 : firstE L = 0) : W ⟨Tryd.prog, 25, 0, GC⟩ tailLE (outQ ⟨Tryd.prog, 25, 0, GC⟩ Tryd.f3 (fun r _ => r = SV.b true)) (stOf [(0, listE L), (3, ansV L), (4, SV.i 0)] []) := by
  show W _ _ _ ⟨tOf _, hOf _, 0⟩
  refine r1 ?_
  refine s1 13 0 1 rfl rfl rfl rfl rfl rfl trivial ?_
  refine c1 (refEnc_ok L hin hL h0) [] [8] 14 8 2 rfl rfl rfl rfl rfl rfl rfl rfl Tryd.func7 rfl rfl rfl rfl trivial rfl rfl ?_
  refine s1 12 16 3 rfl rfl rfl rfl rfl rfl trivial ?_
  refine s1 15 24 4 rfl rfl rfl rfl rfl rfl trivial ?_
  refine s1 16 32 5 rfl rfl rfl rfl rfl rfl trivial ?_
  refine s1 5 40 6 rfl rfl rfl rfl rfl rfl trivial ?_
  refine s1 6 48 7 rfl rfl rfl rfl rfl rfl trivial ?_
  refine e1 56 rfl ?_
  refine keep [3, 4, 5, 6] rfl ?_
  refine freeze 5 8 L.length rfl rfl (Nat.le_refl _) ?_
  refine r1 ?_
  refine s1 17 56 1 rfl rfl rfl rfl rfl rfl trivial ?_
  refine s1 18 64 2 rfl rfl rfl rfl rfl rfl trivial ?_
  refine c1 (same_enc L hL h0) [] [] 19 72 3 rfl rfl rfl rfl rfl rfl rfl rfl Tryd.func8 rfl rfl rfl rfl trivial rfl rfl ?_
  refine s1 20 80 4 rfl rfl rfl rfl rfl rfl trivial ?_
  refine ask 20 rfl (fun hg3_20 => ?_) (fun hg3_20 => ?_)
  · skip
    try simp only [cs, ne_eq] at hg3_20
    refine g1 3 true 20 21 5 rfl rfl rfl rfl rfl ?_
    refine s1 21 88 5 rfl rfl rfl rfl rfl rfl trivial ?_
    refine g1 3 true 20 22 6 rfl rfl rfl rfl rfl ?_
    refine s1 22 96 6 rfl rfl rfl rfl rfl rfl trivial ?_
    refine g1 3 true 20 23 7 rfl rfl rfl rfl rfl ?_
    refine s1 23 104 7 rfl rfl rfl rfl rfl rfl (by first | trivial | omega) ?_
    refine s1 24 112 8 rfl rfl rfl rfl rfl rfl trivial ?_
    refine s1 2 120 9 rfl rfl rfl rfl rfl rfl trivial ?_
    refine e1 128 rfl ?_
    refine keep [2] rfl ?_
    refine W_ret ?_
    exact out1 2 (SV.b true) (π := []) (hout := []) Tryd.results3 rfl (by first | rfl | (simp; done) | (simp; rfl) | (simp [*]; rfl)) rfl rfl trivial rfl
  try simp only [cs, ne_eq] at hg3_20
  all_goals (exfalso; first | (simp at hg3_20; done) | (simp at hg3_20; omega) | (simp_all; omega) | omega)
theorem lawCE (Pst : Value → World → Prop) (Rd : Blks) (L : List (List Smp)) (hin : ∀ l, l ∈ L → SmpIn l) : WX ⟨Tryd.prog, 25, 0, GC⟩ (Tryd.f3.body.getD .skip) (outQX ⟨Tryd.prog, 25, 0, GC⟩ Tryd.f3 (fun K r => r = SV.b true ∧ Ends Pst K)) (trPre Tryd.prog Pst Rd .p0) [] (stOf (argT 0 [listE L]) []) := by
  refine x1 ?_
  refine s1 2 0 1 rfl rfl rfl rfl rfl rfl trivial ?_
  refine e1 8 rfl ?_
  refine xX1 ?_
  refine RX_ops PZ.up [_] 0 _ (fun j hj => by simp at hj; subst hj; rfl) ?_
  refine s1 8 8 1 rfl rfl rfl rfl rfl rfl trivial ?_
  refine e1 64 rfl ?_
  refine RX_call PZ.up rfl rfl rfl rfl Tryd.func6 rfl (encode_any L hin Rd) rfl (data_all rfl) (fun n => rfl) rfl ?_
  rintro K' r ⟨rfl, hE⟩
  by_cases hL : 100 < L.length
  · rw [ans_size hL]
    refine RX_ops PZ.up [_, _, _, _, _] 2 _ (fun j hj => by simp at hj; match j, hj with | 0, _ => rfl | 1, _ => rfl | 2, _ => rfl | 3, _ => rfl | 4, _ => rfl) ?_
    refine s1 7 24 3 rfl rfl rfl rfl rfl rfl trivial ?_
    refine s1 10 32 4 rfl rfl rfl rfl rfl rfl trivial ?_
    refine s1 11 40 5 rfl rfl rfl rfl rfl rfl trivial ?_
    refine s1 3 48 6 rfl rfl rfl rfl rfl rfl trivial ?_
    refine s1 4 56 7 rfl rfl rfl rfl rfl rfl trivial ?_
    refine e1 64 rfl ?_
    refine RX_end rfl rfl ?_
    refine xtn ?_
    refine WX_sub [] [(0, listE L), (3, .d .nils), (4, SV.i 1)] [] ⟨rfl, ⟨rfl, rfl, rfl, trivial⟩, trivial⟩ (WX_last (lawT_size L hL) ?_)
    rintro π r ho rfl
    exact ⟨free_data rfl, rfl, hE⟩
  have hL : L.length ≤ 100 := by omega
  by_cases h0 : firstE L = 0
  · rw [ans_ok2 hL h0]
    refine RX_ops PZ.up [_, _, _, _, _] 2 _ (fun j hj => by simp at hj; match j, hj with | 0, _ => rfl | 1, _ => rfl | 2, _ => rfl | 3, _ => rfl | 4, _ => rfl) ?_
    refine s1 7 24 3 rfl rfl rfl rfl rfl rfl trivial ?_
    refine s1 10 32 4 rfl rfl rfl rfl rfl rfl trivial ?_
    refine s1 11 40 5 rfl rfl rfl rfl rfl rfl trivial ?_
    refine s1 3 48 6 rfl rfl rfl rfl rfl rfl trivial ?_
    refine s1 4 56 7 rfl rfl rfl rfl rfl rfl trivial ?_
    refine e1 64 rfl ?_
    refine RX_end rfl rfl ?_
    refine xtn ?_
    refine WX_sub [] [(0, listE L), (3, ansV L), (4, SV.i 0)] [] ⟨rfl, ⟨rfl, rfl, rfl, trivial⟩, trivial⟩ (WX_last (lawT_ok L hin hL h0) ?_)
    rintro π r ho rfl
    exact ⟨free_data rfl, rfl, hE⟩
  · rw [ans_bad hL h0]
    refine RX_ops PZ.up [_, _, _, _, _] 2 _ (fun j hj => by simp at hj; match j, hj with | 0, _ => rfl | 1, _ => rfl | 2, _ => rfl | 3, _ => rfl | 4, _ => rfl) ?_
    refine s1 7 24 3 rfl rfl rfl rfl rfl rfl trivial ?_
    refine s1 10 32 4 rfl rfl rfl rfl rfl rfl trivial ?_
    refine s1 11 40 5 rfl rfl rfl rfl rfl rfl trivial ?_
    refine s1 3 48 6 rfl rfl rfl rfl rfl rfl trivial ?_
    refine s1 4 56 7 rfl rfl rfl rfl rfl rfl trivial ?_
    refine e1 64 rfl ?_
    refine RX_end rfl rfl ?_
    refine xtn ?_
    refine WX_sub [] [(0, listE L), (3, .d .nils), (4, SV.i (firstE L))] [] ⟨rfl, ⟨rfl, rfl, rfl, trivial⟩, trivial⟩ (WX_last (lawT_bad L hin hL h0) ?_)
    rintro π r ho rfl
    exact ⟨free_data rfl, rfl, hE⟩
end Go.Proofs.YtpdojmebloekgaaDoor.Nice.Co
namespace Go.Proofs.YtpdojmebloekgaaDoor
open Go Nice Nice.Co
set_option linter.unusedVariables false
set_option maxRecDepth 100000
def ofS (x : (Sh.pair .int (.pair .int .unit)).T) : Nice.Co.Smp := ⟨x.1, x.2.1⟩
theorem dr_of' {M : Imm} {ρ : Names} {x : D} {v : Value} (h : VR M ρ (.d x) v) : DR M x v := by cases h; assumption
theorem vec_imp {M : Imm} {k len : Nat} {f g : Nat → Nat → D} {v : Value} (h : DR M (.vec k len f) v) (e : ∀ i c u, i < len → c < k → DR M (f i c) u → DR M (g i c) u) : DR M (.vec k len g) v := by
  cases h with
  | vec0 => exact .vec0 _ _ _ _
  | vec _ _ _ b o cap cur T fz q hb hc hg hr => exact .vec _ _ _ b o cap cur T fz q hb hc hg fun i c hi hcc => e i c _ hi hcc (hr i c hi hcc)
theorem smp_of {M : Imm} (l : List (Sh.pair .int (.pair .int .unit)).T) {v : Value} (h : DR M ((Sh.slice (Sh.pair .int (.pair .int .unit))).cell l 0) v) : DR M (.vec 2 (l.map ofS).length (smpF (l.map ofS))) v := by
  rw [List.length_map]
  refine DR.vec_congr h fun i c hi hc => ?_
  rw [List.getElem?_eq_getElem hi]
  have e : (l.map ofS).getD i default = ofS l[i] := by simp [List.getD, hi]
  match c, hc with
  | 0, _ => show _ = D.val (.int .i64 ((l.map ofS).getD i default).t); rw [e]; rfl
  | 1, _ => show _ = D.val (.int .i64 ((l.map ofS).getD i default).v); rw [e]; rfl
theorem smpIn_of (l : List (Sh.pair .int (.pair .int .unit)).T) (h : l.length ≤ 9223372036854775807 ∧ ∀ x, x ∈ l → (Sh.pair .int (.pair .int .unit)).ok x) : SmpIn (l.map ofS) := by
  obtain ⟨h1, h2⟩ := h
  have key : ∀ k, inRange ((l.map ofS).getD k default).t ∧ inRange ((l.map ofS).getD k default).v := by
    intro k
    by_cases hk : k < l.length
    · have e : (l.map ofS).getD k default = ofS l[k] := by simp [List.getD, hk]
      rw [e]
      have := h2 _ (List.getElem_mem hk)
      exact ⟨this.1, this.2.1⟩
    · have e : (l.map ofS).getD k default = default := by rw [List.getD_eq_getElem?_getD, List.getElem?_map, List.getElem?_eq_none (by omega)]; rfl
      rw [e]; exact ⟨⟨by decide, by decide⟩, ⟨by decide, by decide⟩⟩
  exact ⟨by rw [List.length_map]; exact h1, fun k => (key k).1, fun k => (key k).2⟩
theorem smps_of {M : Imm} (l : List (Sh.slice (Sh.pair .int (.pair .int .unit))).T) {v : Value} (h : DR M ((Sh.slice (Sh.slice (Sh.pair .int (.pair .int .unit)))).cell l 0) v) : DR M (.vec 1 (l.map (List.map ofS)).length (fun i _ => elD (l.map (List.map ofS)) i)) v := by
  rw [List.length_map]
  refine vec_imp h fun i c u hi hc hu => ?_
  rw [List.getElem?_eq_getElem hi] at hu
  have e : (l.map (List.map ofS)).getD i [] = l[i].map ofS := by simp [List.getD, hi]
  unfold elD
  rw [e]
  exact smp_of l[i] hu
theorem smpsIn_of (l : List (Sh.slice (Sh.pair .int (.pair .int .unit))).T) (h : ∀ x, x ∈ l → (Sh.slice (Sh.pair .int (.pair .int .unit))).ok x) : ∀ m, m ∈ l.map (List.map ofS) → SmpIn m := fun m hm => by
  obtain ⟨x, hx, rfl⟩ := List.mem_map.1 hm
  exact smpIn_of x (h x hx)
end Go.Proofs.YtpdojmebloekgaaDoor
namespace Go.Proofs.YtpdojmebloekgaaDoor
open Go Nice Nice.Co Go.Conc
set_option linter.unusedVariables false
set_option maxRecDepth 100000
theorem crewEncodes_walk {H : Type} {enc : TypeId × Value → H} (v0 : Value) {b0 : Nat} {d0 : DataW H} {p0 : List MemPlace} {s0 : Nat → Bool} {e0 : Bool} {c0 : Nat} (W : World) (o0 : Value.okWide Tryd.prog W .any b0 22 v0) (k0 : DataW.Trod enc Tryd.prog W c0 s0 e0 22 v0 d0 p0) (hs : ClassesAt W) :
    ∃ M last o w' t', runNT Tryd.prog (M + 1) (solo (G (Frame.enter Tryd.prog 3 #[v0] .normal) []) W) #[] = (.ended o w', t') ∧ runN Tryd.prog M (solo (G (Frame.enter Tryd.prog 3 #[v0] .normal) []) W) = .next last ∧
      Go.step Tryd.prog last = .ended o w' ∧ Conc.Good Tryd.prog (fun v W' => v = .bool true ∧ RowKit.Below W.heap.size W W') last o w' t' := by
  obtain ⟨l0, hl0, hv0⟩ := arg_slice (P := Tryd.prog) (t := 22) (b0 := b0) (.slice (.pair (.int) (.pair (.int) (.unit)))) (fit_slice Tryd.underlying22 (by kernel_rfl) (by decide) (fit_slice Tryd.underlying38 (by kernel_rfl) (by decide) (fit_pair Tryd.underlying67 (by kernel_rfl) (fitF_pair rfl (by kernel_rfl) (fit_int Tryd.underlying3) (fitF_pair rfl (by kernel_rfl) (fit_int Tryd.underlying3) fitF_unit))))) o0 k0
  have hG := classes_G hs
  refine lawX_run (v := .bool true) Tryd.func3 rfl rfl (by kernel_rfl) rfl ?_ ?_ (fun Pst => lawCE Pst _ (l0.map (List.map ofS)) (smpsIn_of l0 hl0.2))
  · first | exact fun g ρ => .any _ | exact hG
  · intro i x hx
    match i, hx with
    | 0, hx => cases hx; exact ⟨v0, rfl, (.d _ _ (smps_of l0 (dr_of' (hv0 (fun _ => none)))))⟩
    | n + 1, hx => simp at hx
end Go.Proofs.YtpdojmebloekgaaDoor
namespace Go.Proofs.YtpdojmebloekgaaDoor
open Go Go.Conc
section
variable {H : Type} {enc : TypeId × Value → H}
theorem returnsInLeavingWide_of_row {a : Assume} {C : Checked} {os : Os} {f : FuncId} {fn : Func} {s : ChangeSpec} {conds : List PathCond} {apart fresh handsOn again : Bool} {laid : List (String × DataW Unit)}
    (own : ownKnob C.prog.godebug = none) (started : os.Started) (hfn : C.prog.funcs[f]? = some fn)
    (witness : ∃ (w : World) (tape : Tape) (i : Input), w.os = os ∧ (w.forCall tape i).Shaped C.prog ∧ i.vars = [] ∧ Input.okWide C.prog (w.forCall tape i) .any w.heap.size f i ∧
      (OpenSpec.ofChange s).preRow enc C.prog fn conds apart laid (w.forCall tape i).memory i.args ∧ a.holds C.prog (lone (Frame.enter C.prog f i.args .normal) [] (w.forCall tape i)))
    (runs : ∀ (W : World) (base : Nat) (args : Array Value) (ds gs : List (DataW H)) (before : List MemPlace),
      (∀ (j : Nat) t v, fn.params[j]? = some t → args[j]? = some v → Value.okWide C.prog W .any base t v) →
      DataW.Whole enc C.prog fn.params.toList s.vars apart W args.toList ds gs before →
      (DataW.weightsEach C.prog (fn.params.toList ++ (OpenSpec.ofChange s).bare.plain.varTypes C.prog) (ds ++ gs)).all (· ≤ reachBytes) = true →
      laidMetH C.prog laid W →
      ∃ M last o w' t', runNT C.prog (M + 1) (solo (G (Frame.enter C.prog f args .normal) []) W) #[] = (.ended o w', t') ∧ runN C.prog M (solo (G (Frame.enter C.prog f args .normal) []) W) = .next last ∧
        step C.prog last = .ended o w' ∧ Conc.Good C.prog (fun v W' => s.post enc C.prog fn apart fresh handsOn again W args v W') last o w' t') :
    ReturnsInLeavingWide a C os f .any ((OpenSpec.ofChange s).preRow enc C.prog fn conds apart laid) (s.post enc C.prog fn apart fresh handsOn again) := by
  refine returnsInLeavingWide_of_good own started witness ?_
  intro w tape i _ _ _ hok hpre hholds
  obtain ⟨_, _, _, fn', hfn', _, _, _, _, hval⟩ := hok
  have e : fn' = fn := Option.some.inj (hfn'.symm.trans hfn)
  subst e
  obtain ⟨⟨hp, hl⟩, hz⟩ := hpre
  obtain ⟨ds, gs, before, hw, hc, hk⟩ := OpenSpec.pre_parts hp
  have hw' := DataW.Whole.of_heap (w' := w.forCall tape i) (by rfl) hw
  obtain ⟨M, last, o, w', t', h1, h2, h3, h4⟩ := runs (w.forCall tape i) w.heap.size i.args ds gs before hval hw' (hz.weights hw) (hl.of_heap (by rfl))
  exact ⟨M, last, o, w', t', h1, h2, h3, h4.mono fun v hp => ChangeSpec.post_blind hp⟩
end
/-- A tied card of a call that can start goroutines. -/
theorem holds_tied_goes_at (Lk : Looks) {p : Pinned} {s : OpenSpec} {c : OpenClaim} (kinds : List LaidKind) (tests : Bool) (har : Bool × String) (lk : Bool)
    (hc : c.holds p s) (hw : c.wfByText s = true) (htie : c.laidByTextAt Lk p kinds tests)
    (hst : c.start = .entering) (hnb : c.noBlocks = false ∧ c.again = false) (hm : p.checked.prog.mainIs = some (har.1, har.2.toList)) (hn : (!har.1 && har.2.isEmpty && !lk) = false)
    (hl : ∀ f fn, p.checked.prog.funcNamed c.func = some f → p.checked.prog.funcs[f]? = some fn → lk = p.checked.prog.looks [] ∧ ∀ (j : Nat) t, fn.params[j]? = some t → p.checked.prog.wantsStandIn t = false)
    (hg : true = c.goesBy p.checked.prog) :
    Claim7.holds p (.plain s) { stood := { row := c, standIns := [], harness := har, looks := lk }, kinds := [], alts := [], goes := true, laidByText := true, laidKinds := kinds, laidTests := tests, laidLooks := Lk } := by
  have h6 : Claim7.isSixth { stood := { row := c, standIns := [], harness := har, looks := lk }, kinds := [] } = false := by simpa [Claim7.isSixth] using hn
  exact ⟨Claim7.tied_new_at Lk kinds tests (Claim7.new_of_sixth hc har lk hst hnb hm h6 hl) hw, (fun D hD => by cases hD), htie, (fun h => by cases h), hg⟩
end Go.Proofs.YtpdojmebloekgaaDoor
