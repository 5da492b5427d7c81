/- Part 9 of the proof of CrewRolls: WgLink, CrewB, ChunkRef, RollOf. -/
import Derived.Test.YtpdojmebloekgaaDoorZR8
import Derived.Test.YtpdojmebloekgaaDoorChecked
import Derived.Conc.WgLib
import Derived.Test.YtpdojmebloekgaaDoorProg
namespace Go.Proofs
abbrev YtpdojmebloekgaaDoor.wgLink : Go.Conc.Lib.WgLink := { add := 25, done := 27, wait := 29, relMerge := 56, disable := 57, enable := 58, inBubble := 59, associate := 60, fatal := 61, uOr := 62, uAdd := 63, raceRead := 64, uLoad := 65, uStore := 66, disassociate := 67, semrelease := 68, acquire := 69, isAssociated := 70, uCas := 71, raceWrite := 72, semacquire := 73, orU64 := 83, addU64 := 84, loadU64 := 85, storeU64 := 86, casU64 := 87, tWgP := 105, tUP := 107, tAssoc := 109, tWg := 59, tAU := 56, tU64 := 54, tUint := 113, tU32 := 57, tPU32 := 114, tPAU := 132, tPU64 := 134, tNoCopy := 51, tANoCopy := 52, tAlign64 := 53 }
theorem YtpdojmebloekgaaDoor.wgLib : Go.Conc.Lib.WgLib Tryd.prog YtpdojmebloekgaaDoor.wgLink :=
  ⟨Tryd.func25, Tryd.func27, Tryd.func29, Tryd.func56, Tryd.func57, Tryd.func58, Tryd.func59, Tryd.func60, Tryd.func61, Tryd.func62, Tryd.func63, Tryd.func64, Tryd.func65, Tryd.func66, Tryd.func67, Tryd.func68, Tryd.func69, Tryd.func70, Tryd.func71, Tryd.func72, Tryd.func73, Tryd.func83, Tryd.func84, Tryd.func85, Tryd.func86, Tryd.func87, Tryd.underlying105, Tryd.runUnderlying105, Tryd.sizeOf105, Tryd.isAgg105, Tryd.zeroValue105, Tryd.underlying107, Tryd.runUnderlying107, Tryd.sizeOf107, Tryd.isAgg107, Tryd.zeroValue107, Tryd.underlying109, Tryd.runUnderlying109, Tryd.sizeOf109, Tryd.isAgg109, Tryd.zeroValue109, Tryd.underlying59, Tryd.runUnderlying59, Tryd.sizeOf59, Tryd.isAgg59, Tryd.zeroValue59, Tryd.underlying56, Tryd.runUnderlying56, Tryd.sizeOf56, Tryd.isAgg56, Tryd.zeroValue56, Tryd.underlying54, Tryd.runUnderlying54, Tryd.sizeOf54, Tryd.isAgg54, Tryd.zeroValue54, Tryd.underlying113, Tryd.runUnderlying113, Tryd.sizeOf113, Tryd.isAgg113, Tryd.zeroValue113, Tryd.underlying57, Tryd.runUnderlying57, Tryd.sizeOf57, Tryd.isAgg57, Tryd.zeroValue57, Tryd.underlying114, Tryd.runUnderlying114, Tryd.sizeOf114, Tryd.isAgg114, Tryd.zeroValue114, Tryd.underlying132, Tryd.runUnderlying132, Tryd.sizeOf132, Tryd.isAgg132, Tryd.zeroValue132, Tryd.underlying134, Tryd.runUnderlying134, Tryd.sizeOf134, Tryd.isAgg134, Tryd.zeroValue134, Tryd.underlying0, Tryd.runUnderlying0, Tryd.sizeOf0, Tryd.isAgg0, Tryd.zeroValue0, Tryd.underlying3, Tryd.runUnderlying3, Tryd.sizeOf3, Tryd.isAgg3, Tryd.zeroValue3, Tryd.underlying4, Tryd.runUnderlying4, Tryd.sizeOf4, Tryd.isAgg4, Tryd.zeroValue4, Tryd.underlying9, Tryd.runUnderlying9, Tryd.sizeOf9, Tryd.isAgg9, Tryd.zeroValue9, Tryd.underlying20, Tryd.runUnderlying20, Tryd.sizeOf20, Tryd.isAgg20, Tryd.zeroValue20, Tryd.underlying21, Tryd.runUnderlying21, Tryd.sizeOf21, Tryd.isAgg21, Tryd.zeroValue21, (by kernel_rfl), (by kernel_rfl)⟩
end Go.Proofs
namespace Go.Proofs.YtpdojmebloekgaaDoor.Nice.Co
open Go Go.Conc Go.Conc.Lib Go.ConcR.Gen
open Go.ConcR (KK WgAt stA smA mk DC0)
set_option linter.unusedVariables false
set_option linter.unusedSimpArgs false
set_option maxRecDepth 100000
def clCaps (p : Pr) : List SV := [.d (.val (.pointer (some ⟨p.Wg, 0, none⟩))), .vp 1 1 (fun _ _ => .val (.chan (some p.Ch))) 0 0]
def wkCaps (p : Pr) (mk : FuncId) (X : D) (k : Nat) : List SV :=
  [.d (.val (.pointer (some ⟨p.Wg, 0, none⟩))), .vp 1 1 (fun _ _ => .val (.func (.func mk) #[] #[])) 0 0, .vp 1 1 (fun _ _ => X) 0 0, .vp 1 1 (fun _ _ => .val (.chan (some p.Ch))) 0 0, .vp 1 1 (fun _ _ => .val (.int .i64 k)) 0 0]
theorem run_alloc59 (w : World) : (Instr.alloc 59 true (.tuple #[])).run Tryd.prog w = .ok (.pointer (some ⟨w.heap.size, 0, none⟩)) (w.alloc (wgObj 59)) := by
  have h : zerosOf Tryd.prog 59 = some [.int .u64 0, .int .u32 0] := by kernel_rfl
  obtain ⟨i, z, hi, hz, hzl, _, _⟩ := zerosOf_ok h
  have hc : z.cells = #[.int .u64 0, .int .u32 0] := by rw [← hzl]
  simp [Instr.alloc, zeroValue, typeInfo, hi, hz, newVar, newRow, hc]
  rfl
theorem ev_alloc59 (w : World) : (Instr.alloc 59 true (.tuple #[])).events Tryd.prog w #[] = #[] := by
  have h : zerosOf Tryd.prog 59 = some [.int .u64 0, .int .u32 0] := by kernel_rfl
  obtain ⟨i, z, hi, hz, hzl, _, _⟩ := zerosOf_ok h
  simp [Instr.alloc, zeroValue, typeInfo, hi, hz, newVar, newRow]
theorem hS {j : Nat} {q : Bool} : Lo.spawn j q ≠ .out := by simp
theorem free_fn {f : FuncId} : Free (.fn f []) := fun M ρ ρ' u h => by
  cases h with
  | fn _ _ vs g hs hg hr => exact .fn f [] vs g hs hg fun i x hx => by simp at hx
theorem data_all {l : List SV} (h : l.all SV.dataB = true) : ∀ y, y ∈ l → Free y := fun y hy => free_data (List.all_eq_true.1 h y hy)
theorem mem_at {α : Type} {L : List α} {i : Nat} (d : α) (hi : i < L.length) : L.getD i d ∈ L := by
  rw [List.getD_eq_getElem?_getD, List.getElem?_eq_getElem hi]
  exact List.getElem_mem hi
end Go.Proofs.YtpdojmebloekgaaDoor.Nice.Co
namespace Go.Proofs.YtpdojmebloekgaaDoor.Nice.Co
open Go
set_option linter.unusedVariables false
set_option linter.unusedSimpArgs false
set_option maxRecDepth 100000
set_option maxHeartbeats 4000000
theorem inB_dec (x : Int) : decide (inB x) = (decide (-36028797018963968 ≤ x) && decide (x < 36028797018963968)) := by
  rw [Bool.eq_iff_iff, decide_eq_true_eq, Bool.and_eq_true, decide_eq_true_eq, decide_eq_true_eq]; rfl
def intF (l : List Int) : Nat → Nat → D := fun i _ => .val (.int .i64 (l.getD i 0))
def intV (l : List Int) : SV := .d (.vec 1 l.length (intF l))
def fldF (l : List (Nat × Int)) : Nat → Nat → D := fun i c => match c with | 0 => .val (.int .i64 (l.getD i (0, 0)).1) | 1 => .val (.int .i64 (l.getD i (0, 0)).2) | _ => .any
def fldV (l : List (Nat × Int)) : SV := .d (.vec 2 l.length (fldF l))
def flatN (l : List (Nat × Int)) (q : Nat) : List Int := (l.take q).flatMap fun f => bitsOf f.1 f.2
def flatF (l : List (Nat × Int)) : List Int := l.flatMap fun f => bitsOf f.1 f.2
theorem flatN_succ {l : List (Nat × Int)} {q : Nat} (h : q < l.length) : flatN l (q + 1) = flatN l q ++ bitsOf (l.getD q (0, 0)).1 (l.getD q (0, 0)).2 := by
  unfold flatN
  have : l.getD q (0, 0) = l[q] := by simp [List.getD, h]
  rw [this, List.take_succ_eq_append_getElem h, List.flatMap_append]; simp
theorem flatN_all (l : List (Nat × Int)) : flatN l l.length = flatF l := by unfold flatN flatF; rw [List.take_length]
theorem cat_int {A B : List Int} (i c : Nat) (hi : i < A.length + B.length) (hc : c < 1) : catR (intF A) A.length (intF B) i c = intF (A ++ B) i c := by
  unfold catR intF
  by_cases h : i < A.length
  · rw [if_pos h]; simp [List.getD, List.getElem?_append_left h]
  · rw [if_neg h]; simp [List.getD, List.getElem?_append_right (by omega : A.length ≤ i)]
theorem lit_one (b : Int) (i c : Nat) (hi : i < 1) (hc : c < 1) : litR 1 [.val (.int .i64 b)] i c = intF [b] i c := by
  obtain rfl : i = 0 := by omega
  obtain rfl : c = 0 := by omega
  rfl
theorem cat_one {A : List Int} {b b' : Int} (hb : b' = b) (i c : Nat) (hi : i < A.length + 1) (hc : c < 1) : catR (intF A) A.length (litR 1 [.val (.int .i64 b')]) i c = intF (A ++ [b]) i c := by
  subst hb
  rw [← cat_int i c hi hc]
  unfold catR
  split
  · rfl
  · exact lit_one _ _ _ (by omega) hc
theorem cat_two {A : List Int} {a b a' b' : Int} (ha : a' = a) (hb : b' = b) (i c : Nat) (hi : i < A.length + 2) (hc : c < 1) : catR (intF A) A.length (litR 1 [.val (.int .i64 a'), .val (.int .i64 b')]) i c = intF (A ++ [a, b]) i c := by
  subst ha; subst hb
  rw [← cat_int i c hi hc]
  unfold catR
  split
  · rfl
  · obtain rfl : c = 0 := by omega
    rcases (show i - A.length = 0 ∨ i - A.length = 1 by omega) with e | e <;> rw [e] <;> rfl
theorem pow_in {q : Nat} (h : q ≤ 62) : (1 : Int) ≤ 2 ^ q ∧ (2 : Int) ^ q ≤ 4611686018427387904 := by
  have h1 : 1 ≤ 2 ^ q := Nat.one_le_two_pow
  have h2 : 2 ^ q ≤ 2 ^ 62 := Nat.pow_le_pow_right (by decide) h
  have e : ((2 ^ q : Nat) : Int) = (2 : Int) ^ q := by simp
  omega
theorem shl_one {k : Int} {q : Nat} (h : k = q) (hq : q ≤ 62) : IntKind.i64.wrap (1 * 2 ^ (min k.toNat 64)) = 2 ^ q := by
  subst h
  rw [Int.toNat_natCast, Nat.min_eq_left (by omega), Int.one_mul]
  have := pow_in hq
  exact wrap_in ⟨by omega, by omega⟩
theorem quo_in {v : Int} {q : Nat} (h0 : 0 ≤ v) (hv : v ≤ 9223372036854775807) : 0 ≤ v / 2 ^ q ∧ v / 2 ^ q ≤ 9223372036854775807 := by
  have h1 := div_pow_bd v q (by omega) (by omega)
  exact ⟨Int.ediv_nonneg h0 (Int.le_of_lt (Int.pow_pos (by decide))), by omega⟩
def zf : Nat → Int → List (Nat × Int)
  | 0, _ => [(1, 0)]
  | n + 1, x => [(clW (n + 1), clH (n + 1)), (clB (n + 1), x)]
theorem zf_flat {x : Int} (hx : cls x = 0 → x = 0) : flatF (zf (cls x) x) = bitsOf (clW (cls x)) (clH (cls x)) ++ bitsOf (clB (cls x)) x := by
  cases e : cls x with
  | zero => rw [hx e]; rfl
  | succ n => simp [zf, flatF]
theorem zf_ok {x : Int} (h0 : 0 ≤ x) (h1 : x ≤ 9223372036854775807) (n : Nat) (hn : n < 5) : (zf n x).length ≤ 2 ∧ ∀ i, ((zf n x).getD i (0, 0)).1 ≤ 60 ∧ 0 ≤ ((zf n x).getD i (0, 0)).2 ∧ ((zf n x).getD i (0, 0)).2 ≤ 9223372036854775807 := by
  match n, hn with
  | 0, _ =>
    refine ⟨by simp [zf], fun i => ?_⟩
    match i with
    | 0 => exact ⟨by simp [zf], by simp [zf], by simp [zf]⟩
    | i + 1 => exact ⟨by simp [zf], by simp [zf], by simp [zf]⟩
  | n + 1, hn =>
    refine ⟨by simp [zf], fun i => ?_⟩
    match i with
    | 0 =>
      refine ⟨clW_le _, ?_, (clH_in _).2⟩
      show 0 ≤ clH (n + 1)
      match n, hn with
      | 0, _ | 1, _ | 2, _ | 3, _ => decide
      | n + 4, hn => omega
    | 1 => exact ⟨clB_le _, h0, h1⟩
    | i + 2 => exact ⟨by simp [zf], by simp [zf], by simp [zf]⟩
def numsN (l : List Smp) (k : Nat) : List Int := (List.range k).flatMap fun i => [cT (lstN l i) (l.getD i default), cV (lstN l i) (l.getD i default)]
def nums (l : List Smp) : List Int := numsN l l.length
theorem numsN_succ (l : List Smp) (k : Nat) : numsN l (k + 1) = numsN l k ++ [cT (lstN l k) (l.getD k default), cV (lstN l k) (l.getD k default)] := by unfold numsN; rw [List.range_succ, List.flatMap_append]; simp
theorem numsN_len (l : List Smp) : ∀ k, (numsN l k).length = 2 * k
  | 0 => rfl
  | k + 1 => by rw [numsN_succ, List.length_append, numsN_len l k]; simp; omega
theorem cT_eq (l : List Smp) (k : Nat) (s : Smp) : cT (lstN l k) s = if k = 0 then s.t else if k = 1 then s.t - (l.getD 0 default).t else s.t - 2 * (l.getD (k - 1) default).t + (l.getD (k - 2) default).t := by
  unfold cT
  rw [lstN_n, lstN_st]
  by_cases h0 : k = 0
  · subst h0; rfl
  · rw [if_neg (by omega), if_neg h0, (lstN_t l (by omega)).1]
    by_cases h1 : k = 1
    · subst h1; rw [if_neg (by omega), if_pos rfl]; simp
    · rw [if_pos (by omega), if_neg h1]; omega
theorem cV_eq (l : List Smp) (k : Nat) (s : Smp) : cV (lstN l k) s = if k = 0 then s.v else s.v - (l.getD (k - 1) default).v := by
  unfold cV
  rw [lstN_n]
  by_cases h0 : k = 0
  · subst h0; rfl
  · rw [if_neg (by omega), if_neg h0, (lstN_t l (by omega)).2]
theorem nums_sm {l : List Smp} (hz : faultTo l l.length = 0) (hl : l.length ≤ 120) : ∀ n ∈ nums l, isSm n := by
  intro n hn
  unfold nums numsN at hn
  obtain ⟨i, hi, hm⟩ := List.mem_flatMap.1 hn
  rw [List.mem_range] at hi
  have hs := smp_at hz hi
  have hc := c_small (lst_in (faultTo_le (Nat.le_of_lt hi) hz) (by omega)) hs.1 hs.2.1
  simp only [List.mem_cons, List.not_mem_nil, or_false] at hm
  rcases hm with rfl | rfl
  · exact hc.1
  · exact hc.2
theorem getI_mem {l : List Int} {q : Nat} (h : q < l.length) : l.getD q 0 ∈ l := by
  have : l.getD q 0 = l[q] := by simp [List.getD, h]
  rw [this]; exact List.getElem_mem h
def refL (l : List Smp) (q : Nat) : List Int := bitsOf 8 l.length ++ ((nums l).take q).flatMap zbits
theorem refL_succ {l : List Smp} {q : Nat} (h : q < (nums l).length) : refL l (q + 1) = refL l q ++ zbits ((nums l).getD q 0) := by
  unfold refL
  have : (nums l).getD q 0 = (nums l)[q] := by simp [List.getD, h]
  rw [this, List.take_succ_eq_append_getElem h, List.flatMap_append]; simp
theorem encL_eq (l : List Smp) : ∀ k, encL l k = bitsOf 8 l.length ++ (numsN l k).flatMap zbits
  | 0 => by simp [encL, numsN]
  | k + 1 => by
    show zput (zput (encL l k) _) _ = _
    rw [zput_eq, zput_eq, encL_eq l k, numsN_succ, List.flatMap_append]
    simp
theorem refL_all (l : List Smp) : refL l (nums l).length = encL l l.length := by unfold refL; rw [List.take_length, encL_eq]; rfl
theorem zbits_len (n : Int) : (zbits n).length ≤ 120 := by
  have := zput_len [] n
  rw [zput_eq] at this; simpa using this
theorem refL_len (l : List Smp) : ∀ q, (refL l q).length ≤ 8 + 120 * q := by
  intro q
  induction q with
  | zero => unfold refL; simp [bitsOf_length]
  | succ q ih =>
    by_cases h : q < (nums l).length
    · rw [refL_succ h, List.length_append]; have := zbits_len ((nums l).getD q 0); omega
    · have : refL l (q + 1) = refL l q := by unfold refL; rw [List.take_of_length_le (by omega), List.take_of_length_le (by omega)]
      rw [this]; omega
theorem refL_bits (l : List Smp) : AllBits (refL l (nums l).length) := by rw [refL_all]; exact encL_bits l _
theorem pack_zero (L : List Int) (hL : AllBits L) : pack (L ++ [0]) = packRoom L := by
  rw [pack_snoc L hL 0]
  apply List.ext_getElem?
  intro j
  rw [List.getElem?_set, packRoom_length]
  by_cases he : L.length / 8 = j
  · subst he
    rw [if_pos rfl, if_pos (by omega), packRoom_get L _ (by omega)]
    simp
  · rw [if_neg he]
theorem bit_take (L : List Int) (k : Nat) (h : k < L.length) : L.take (k + 1) = L.take k ++ [L.getD k 0] := by
  rw [List.take_succ_eq_append_getElem h]; simp [List.getD, List.getElem?_eq_getElem h]
theorem shr128 {k : Int} {r : Nat} (h : k = r) (hr : r < 8) : (128 : Int).fdiv (2 ^ (min k.toNat 8)) = 2 ^ (7 - r) := by
  subst h
  have e : r = 0 ∨ r = 1 ∨ r = 2 ∨ r = 3 ∨ r = 4 ∨ r = 5 ∨ r = 6 ∨ r = 7 := by omega
  rcases e with rfl | rfl | rfl | rfl | rfl | rfl | rfl | rfl <;> decide
theorem add_bit {M : List Int} (hM : AllBits M) : IntKind.u8.wrap (packByte M (M.length / 8) + 2 ^ (7 - M.length % 8)) = packByte M (M.length / 8) + 1 * 2 ^ (7 - M.length % 8) := by
  have h1 : AllBits [(1 : Int)] := by intro x hx; simp at hx; exact .inr hx
  have h2 := packByte_last M hM 1 (M.length / 8) (M.length % 8) (by omega) (by omega)
  have h3 := packByte_bd (M ++ [1]) (hM.append h1) (M.length / 8)
  rw [h2.1] at h3
  rw [IntKind.wrap_u8, Int.one_mul]
  rw [Int.one_mul] at h3
  exact Int.emod_eq_of_lt h3.1 (by omega)
theorem inb_any (x : Int) : Spec Tryd.prog GC 76 [SV.i x] [] (fun r ho => r = SV.b (decide (inB x)) ∧ ho = []) := by
  refine start 9 0 Tryd.func76 rfl rfl rfl rfl ?_
  refine r1 ?_
  refine s1 2 0 1 rfl rfl rfl rfl rfl rfl trivial ?_
  refine e1 8 rfl ?_
  refine keep [0] rfl ?_
  refine r1 ?_
  refine s1 3 8 1 rfl rfl rfl rfl rfl rfl trivial ?_
  refine s1 4 16 2 rfl rfl rfl rfl rfl rfl (by first | trivial | omega) ?_
  refine s1 5 24 3 rfl rfl rfl rfl rfl rfl trivial ?_
  refine ask 5 rfl (fun hg1_5 => ?_) (fun hg1_5 => ?_)
  · skip
    try simp only [cs, ne_eq] at hg1_5
    refine g1 2 true 5 6 4 rfl rfl rfl rfl rfl ?_
    refine s1 6 32 4 rfl rfl rfl rfl rfl rfl trivial ?_
    refine g1 2 true 5 7 5 rfl rfl rfl rfl rfl ?_
    refine s1 7 40 5 rfl rfl rfl rfl rfl rfl (by first | trivial | omega) ?_
    refine s1 8 48 6 rfl rfl rfl rfl rfl rfl trivial ?_
    refine s1 2 56 7 rfl rfl rfl rfl rfl rfl trivial ?_
    refine e1 64 rfl ?_
    refine keep [2] rfl ?_
    refine W_ret ?_
    exact out1 2 (SV.b (decide (inB x))) (π := []) (hout := []) Tryd.results76 rfl (by show SV.b _ = SV.b _; rw [inB_dec]; refine congrArg SV.b (Bool.eq_iff_iff.2 ?_); simp at *; try omega) rfl rfl trivial ⟨rfl, rfl⟩
  try simp only [cs, ne_eq] at hg1_5
  refine g0 2 true 5 6 4 rfl rfl rfl rfl rfl rfl ?_
  refine g0 2 true 5 7 5 rfl rfl rfl rfl rfl rfl ?_
  refine s1 8 48 6 rfl rfl rfl rfl rfl rfl trivial ?_
  refine s1 2 56 7 rfl rfl rfl rfl rfl rfl trivial ?_
  refine e1 64 rfl ?_
  refine keep [2] rfl ?_
  refine W_ret ?_
  exact out1 2 (SV.b (decide (inB x))) (π := []) (hout := []) Tryd.results76 rfl (by show SV.b _ = SV.b _; rw [inB_dec]; refine congrArg SV.b (Bool.eq_iff_iff.2 ?_); simp at *; try omega) rfl rfl trivial ⟨rfl, rfl⟩
theorem sfault_any (l : List Smp) (hin : SmpIn l) : Spec Tryd.prog GC 36 [smpV l] [] (fun r ho => r = SV.i (sfault l) ∧ ho = []) := by
  refine start 39 0 Tryd.func36 rfl rfl rfl rfl ?_
  refine r1 ?_
  refine s1 2 0 1 rfl rfl rfl rfl rfl rfl trivial ?_
  refine e1 8 rfl ?_
  refine keep [0] rfl ?_
  refine W_seq ?_
  refine r1 ?_
  refine s1 5 8 1 rfl rfl rfl rfl rfl rfl trivial ?_
  refine s1 6 16 2 rfl rfl rfl rfl rfl rfl (by first | trivial | omega) ?_
  refine s1 7 24 3 rfl rfl rfl rfl rfl rfl (by first | trivial | omega) ?_
  refine e1 32 rfl ?_
  refine keep [0, 7] rfl ?_
  refine q1 rfl (fun hc1 => ?_) (fun hc1 => ?_)
  · skip
    try simp only [cs, ne_eq] at hc1
    refine r1 ?_
    refine s1 2 32 1 rfl rfl rfl rfl rfl rfl trivial ?_
    refine e1 40 rfl ?_
    refine keep [2] rfl ?_
    refine W_ret ?_
    refine tr ?_
    exact out1 2 (SV.i (sfault l)) (π := []) (hout := []) Tryd.results36 rfl (by unfold sfault; rw [if_pos (by omega)]; rfl) rfl rfl trivial ⟨rfl, rfl⟩
  try simp only [cs, ne_eq] at hc1
  refine W_skip ?_
  refine tn ?_
  refine W_seq ?_
  refine r1 ?_
  refine s1 8 32 1 rfl rfl rfl rfl rfl rfl trivial ?_
  refine s1 9 40 2 rfl rfl rfl rfl rfl rfl (by first | trivial | omega) ?_
  refine s1 10 48 3 rfl rfl rfl rfl rfl rfl trivial ?_
  refine e1 56 rfl ?_
  refine keep [0, 8, 9, 10] rfl ?_
  refine W_block ?_
  have hl := hin.n
  have hl2 : l.length ≤ 120 := (by omega)
  refine loop (α := Nat) 0 (fun k => [(0, smpV l), (8, smpV l), (9, SV.i l.length), (10, SV.i (k))]) (fun k => []) (fun k => (k) ≤ l.length ∧ faultTo l (k) = 0) (fun k => l.length - (k)) (((0) : Nat)) [] (fun _ => rfl) (show (0) ≤ l.length ∧ faultTo l (0) = 0 from ⟨Nat.zero_le _, rfl⟩) rfl ⟨rfl, rfl, rfl, rfl, trivial⟩ trivial (fun k hx => ?_)
  show W _ _ _ ⟨tOf [(0, smpV l), (8, smpV l), (9, SV.i l.length), (10, SV.i k)], hOf [], 0⟩
  have hx : k ≤ l.length ∧ faultTo l k = 0 := hx
  obtain ⟨hk, hf⟩ := hx
  refine r1 ?_
  refine s1 11 0 1 rfl rfl rfl rfl rfl rfl (by first | trivial | omega) ?_
  refine e1 8 rfl ?_
  refine keep [0, 8, 9, 10, 11] rfl ?_
  refine W_seq ?_
  refine q1 rfl (fun hc4 => ?_) (fun hc4 => ?_)
  · skip
    try simp only [cs, ne_eq] at hc4
    refine W_skip ?_
    refine tn ?_
    refine W_seq ?_
    refine W_block ?_
    refine r1 ?_
    refine s1 12 8 1 rfl rfl rfl rfl rfl rfl trivial ?_
    refine s1 13 16 2 rfl rfl rfl rfl rfl rfl (by first | trivial | omega) ?_
    refine s1 14 24 3 rfl rfl rfl rfl rfl rfl (by first | trivial | omega) ?_
    refine val 14 (smpS (l.getD k default)) rfl (by first | rfl | (simp only [Nat.zero_add, Int.toNat_natCast]; rfl)) ?_
    refine s1 4 32 4 rfl rfl rfl rfl rfl rfl trivial ?_
    refine s1 3 40 5 rfl rfl rfl rfl rfl rfl trivial ?_
    refine s0 48 6 rfl rfl rfl rfl rfl (by first | trivial | omega) ?_
    refine e1 56 rfl ?_
    refine keep [0, 3, 4, 8, 9, 10] rfl ?_
    refine W_seq ?_
    refine r1 ?_
    refine s1 15 56 1 rfl rfl rfl rfl rfl rfl trivial ?_
    refine s1 16 64 2 rfl rfl rfl rfl rfl rfl (by first | trivial | omega) ?_
    refine c1 (inb_any (l.getD k default).t) [] [] 17 72 3 rfl rfl rfl rfl rfl rfl rfl rfl Tryd.func76 rfl rfl rfl rfl trivial rfl rfl ?_
    refine s1 18 80 4 rfl rfl rfl rfl rfl rfl trivial ?_
    refine s1 19 88 5 rfl rfl rfl rfl rfl rfl trivial ?_
    refine ask 19 rfl (fun hg6_19 => ?_) (fun hg6_19 => ?_)
    · skip
      try simp only [cs, ne_eq] at hg6_19
      refine g0 4 false 19 20 6 rfl rfl rfl rfl rfl rfl ?_
      refine g0 4 false 19 21 7 rfl rfl rfl rfl rfl rfl ?_
      refine g0 4 false 19 22 8 rfl rfl rfl rfl rfl rfl ?_
      refine g0 4 false 19 23 9 rfl rfl rfl rfl rfl rfl ?_
      refine s1 24 128 10 rfl rfl rfl rfl rfl rfl trivial ?_
      refine e1 136 rfl ?_
      refine keep [0, 3, 4, 8, 9, 10, 24] rfl ?_
      refine q1 rfl (fun hc6 => ?_) (fun hc6 => ?_)
      · skip
        try simp only [cs, ne_eq] at hc6
        refine r1 ?_
        refine s1 2 136 1 rfl rfl rfl rfl rfl rfl trivial ?_
        refine e1 144 rfl ?_
        refine keep [2] rfl ?_
        refine W_ret ?_
        refine tr ?_
        refine br ?_
        refine tr ?_
        refine tr ?_
        refine br ?_
        refine tr ?_
        exact out1 2 (SV.i (sfault l)) (π := []) (hout := []) Tryd.results36 rfl (by unfold sfault; rw [if_neg (by omega)]; have hlf : lfault (lstN l k) (l.getD k default) = 11 := (by unfold lfault; rw [if_neg (by rintro ⟨g1, g2⟩; simp_all)]); rw [faultTo_at (by omega) hf (by rw [hlf]; decide), hlf]; rfl) rfl rfl trivial ⟨rfl, rfl⟩
      exact absurd hc6 (by decide)
    try simp only [cs, ne_eq] at hg6_19
    refine g1 4 false 19 20 6 rfl rfl rfl rfl rfl ?_
    refine s1 20 96 6 rfl rfl rfl rfl rfl rfl trivial ?_
    refine g1 4 false 19 21 7 rfl rfl rfl rfl rfl ?_
    refine s1 21 104 7 rfl rfl rfl rfl rfl rfl (by first | trivial | omega) ?_
    refine g1 4 false 19 22 8 rfl rfl rfl rfl rfl ?_
    refine c1 (inb_any (l.getD k default).v) [] [] 22 112 8 rfl rfl rfl rfl rfl rfl rfl rfl Tryd.func76 rfl rfl rfl rfl trivial rfl rfl ?_
    refine g1 4 false 19 23 9 rfl rfl rfl rfl rfl ?_
    refine s1 23 120 9 rfl rfl rfl rfl rfl rfl trivial ?_
    refine s1 24 128 10 rfl rfl rfl rfl rfl rfl trivial ?_
    refine e1 136 rfl ?_
    refine keep [0, 3, 4, 8, 9, 10, 24] rfl ?_
    refine q1 rfl (fun hc6 => ?_) (fun hc6 => ?_)
    · skip
      try simp only [cs, ne_eq] at hc6
      refine r1 ?_
      refine s1 2 136 1 rfl rfl rfl rfl rfl rfl trivial ?_
      refine e1 144 rfl ?_
      refine keep [2] rfl ?_
      refine W_ret ?_
      refine tr ?_
      refine br ?_
      refine tr ?_
      refine tr ?_
      refine br ?_
      refine tr ?_
      exact out1 2 (SV.i (sfault l)) (π := []) (hout := []) Tryd.results36 rfl (by unfold sfault; rw [if_neg (by omega)]; have hlf : lfault (lstN l k) (l.getD k default) = 11 := (by unfold lfault; rw [if_neg (by rintro ⟨g1, g2⟩; simp_all)]); rw [faultTo_at (by omega) hf (by rw [hlf]; decide), hlf]; rfl) rfl rfl trivial ⟨rfl, rfl⟩
    try simp only [cs, ne_eq] at hc6
    refine W_skip ?_
    refine tn ?_
    refine rd1 rfl ?_
    refine d1 25 136 1 rfl rfl rfl rfl rfl rfl trivial ?_
    refine d1 26 144 2 rfl rfl rfl rfl rfl rfl (by first | trivial | omega) ?_
    refine d1 27 152 3 rfl rfl rfl rfl rfl rfl trivial ?_
    refine ask 27 rfl (fun hg8_27 => ?_) (fun hg8_27 => ?_)
    · skip
      try simp only [cs, ne_eq] at hg8_27
      refine g1 2 true 27 28 4 rfl rfl rfl rfl rfl ?_
      refine d1 28 160 4 rfl rfl rfl rfl rfl rfl trivial ?_
      refine g1 2 true 27 29 5 rfl rfl rfl rfl rfl ?_
      refine d1 29 168 5 rfl rfl rfl rfl rfl rfl (by first | trivial | omega) ?_
      refine g1 2 true 27 30 6 rfl rfl rfl rfl rfl ?_
      refine d1 30 176 6 rfl rfl rfl rfl rfl rfl trivial ?_
      refine g1 2 true 27 31 7 rfl rfl rfl rfl rfl ?_
      refine d1 31 184 7 rfl rfl rfl rfl rfl rfl trivial ?_
      refine g1 2 true 27 32 8 rfl rfl rfl rfl rfl ?_
      refine dA 32 192 8 rfl rfl rfl rfl rfl rfl rfl rfl rfl (by unfold inRange; omega) ?_
      refine g1 2 true 27 33 9 rfl rfl rfl rfl rfl ?_
      refine d1 33 200 9 rfl rfl rfl rfl rfl rfl (by first | trivial | omega) ?_
      refine g1 2 true 27 34 10 rfl rfl rfl rfl rfl ?_
      refine d1 34 208 10 rfl rfl rfl rfl rfl rfl trivial ?_
      refine g1 2 true 27 35 11 rfl rfl rfl rfl rfl ?_
      refine d1 35 216 11 rfl rfl rfl rfl rfl rfl (by omega) ?_
      refine val 35 (SV.i (l.getD (k - 1) default).t) rfl (by rw [show ((k : Int) - 1).toNat = k - 1 by omega]) ?_
      refine g1 2 true 27 36 12 rfl rfl rfl rfl rfl ?_
      refine d1 36 224 12 rfl rfl rfl rfl rfl rfl (by first | trivial | omega) ?_
      refine d1 37 232 13 rfl rfl rfl rfl rfl rfl trivial ?_
      refine de1 240 rfl (by kernel_rfl) ?_
      refine keep [0, 8, 9, 10, 37] rfl ?_
      refine q1 rfl (fun hc8 => ?_) (fun hc8 => ?_)
      · skip
        try simp only [cs, ne_eq] at hc8
        refine r1 ?_
        refine s1 2 240 1 rfl rfl rfl rfl rfl rfl trivial ?_
        refine e1 248 rfl ?_
        refine keep [2] rfl ?_
        refine W_ret ?_
        refine br ?_
        refine tr ?_
        refine tr ?_
        refine br ?_
        refine tr ?_
        exact out1 2 (SV.i (sfault l)) (π := []) (hout := []) Tryd.results36 rfl (by unfold sfault; rw [if_neg (by omega)]; have hlf : lfault (lstN l k) (l.getD k default) = 9 := (by unfold lfault; rw [if_pos (by constructor <;> simp_all), if_pos (by rw [lstN_n, (lstN_t l (by omega)).1]; omega)]); rw [faultTo_at (by omega) hf (by rw [hlf]; decide), hlf]; rfl) rfl rfl trivial ⟨rfl, rfl⟩
      try simp only [cs, ne_eq] at hc8
      refine W_skip ?_
      refine bn ?_
      refine tn ?_
      refine r0 ?_
      refine sA 38 240 1 rfl rfl rfl rfl rfl rfl rfl rfl rfl (by unfold inRange; omega) ?_
      refine s1 10 248 2 rfl rfl rfl rfl rfl rfl trivial ?_
      refine e1 256 rfl ?_
      refine tn ?_
      exact again ((k + 1 : Nat)) [] (show (k + 1) ≤ l.length ∧ faultTo l (k + 1) = 0 from ⟨by omega, faultTo_step hf (by unfold lfault; rw [if_pos (by constructor <;> simp_all), if_neg (by rw [lstN_n]; rintro ⟨g1, g2⟩; rw [(lstN_t l (by omega)).1] at g2; omega)])⟩) (show l.length - (k + 1) < l.length - k from (by omega)) rfl ⟨rfl, rfl, rfl, rfl, trivial⟩ trivial
    try simp only [cs, ne_eq] at hg8_27
    refine g0 2 true 27 28 4 rfl rfl rfl rfl rfl rfl ?_
    refine g0 2 true 27 29 5 rfl rfl rfl rfl rfl rfl ?_
    refine g0 2 true 27 30 6 rfl rfl rfl rfl rfl rfl ?_
    refine g0 2 true 27 31 7 rfl rfl rfl rfl rfl rfl ?_
    refine g0 2 true 27 32 8 rfl rfl rfl rfl rfl rfl ?_
    refine g0 2 true 27 33 9 rfl rfl rfl rfl rfl rfl ?_
    refine g0 2 true 27 34 10 rfl rfl rfl rfl rfl rfl ?_
    refine g0 2 true 27 35 11 rfl rfl rfl rfl rfl rfl ?_
    refine g0 2 true 27 36 12 rfl rfl rfl rfl rfl rfl ?_
    refine d1 37 232 13 rfl rfl rfl rfl rfl rfl trivial ?_
    refine de1 240 rfl (by kernel_rfl) ?_
    refine keep [0, 8, 9, 10, 37] rfl ?_
    refine q1 rfl (fun hc8 => ?_) (fun hc8 => ?_)
    · skip
      exact absurd hc8 (by decide)
    try simp only [cs, ne_eq] at hc8
    refine W_skip ?_
    refine bn ?_
    refine tn ?_
    refine r0 ?_
    refine sA 38 240 1 rfl rfl rfl rfl rfl rfl rfl rfl rfl (by unfold inRange; omega) ?_
    refine s1 10 248 2 rfl rfl rfl rfl rfl rfl trivial ?_
    refine e1 256 rfl ?_
    refine tn ?_
    exact again ((k + 1 : Nat)) [] (show (k + 1) ≤ l.length ∧ faultTo l (k + 1) = 0 from ⟨by omega, faultTo_step hf (by unfold lfault; rw [if_pos (by constructor <;> simp_all), if_neg (by rw [lstN_n]; rintro ⟨g1, g2⟩; rw [(lstN_t l (by omega)).1] at g2; omega)])⟩) (show l.length - (k + 1) < l.length - k from (by omega)) rfl ⟨rfl, rfl, rfl, rfl, trivial⟩ trivial
  try simp only [cs, ne_eq] at hc4
  refine W_exit ?_
  refine tx ?_
  refine tx ?_
  refine bx ?_
  refine tn ?_
  refine r1 ?_
  refine s1 2 8 1 rfl rfl rfl rfl rfl rfl trivial ?_
  refine e1 16 rfl ?_
  refine keep [2] rfl ?_
  refine W_ret ?_
  exact out1 2 (SV.i (sfault l)) (π := []) (hout := []) Tryd.results36 rfl (by unfold sfault; rw [if_neg (by omega), show l.length = k by omega, hf]; rfl) rfl rfl trivial ⟨rfl, rfl⟩
theorem bits_any (fs : List (Nat × Int)) (hl : fs.length ≤ 10) (hf : ∀ i, (fs.getD i (0, 0)).1 ≤ 60 ∧ 0 ≤ (fs.getD i (0, 0)).2 ∧ (fs.getD i (0, 0)).2 ≤ 9223372036854775807) : Spec Tryd.prog GC 37 [fldV fs] [] (fun r ho => r = .sl 0 0 (flatF fs).length ∧ ho = [some (.rows 3 1 (flatF fs).length (intF (flatF fs)))]) := by
  refine start 33 0 Tryd.func37 rfl rfl rfl rfl ?_
  refine r1 ?_
  refine s1 2 0 1 rfl rfl rfl rfl rfl rfl trivial ?_
  refine e1 8 rfl ?_
  refine keep [0] rfl ?_
  refine r1 ?_
  refine s1 3 8 1 rfl rfl rfl rfl rfl rfl trivial ?_
  refine e1 16 rfl ?_
  refine keep [0, 3] rfl ?_
  refine W_seq ?_
  refine r1 ?_
  refine s1 7 16 1 rfl rfl rfl rfl rfl rfl trivial ?_
  refine s1 8 24 2 rfl rfl rfl rfl rfl rfl (by first | trivial | omega) ?_
  refine s1 9 32 3 rfl rfl rfl rfl rfl rfl trivial ?_
  refine e1 40 rfl ?_
  refine keep [3, 7, 8, 9] rfl ?_
  refine W_block ?_
  refine ghostly 3 3 1 (intF []) rfl ?_
  refine loop (α := Nat × List Int) 1 (fun z => [(3, .sl 0 0 (z.2).length), (7, fldV fs), (8, SV.i fs.length), (9, SV.i (z.1))]) (fun z => [some (.rows 3 1 (z.2).length (intF (z.2)))]) (fun z => (z.1) ≤ fs.length ∧ (z.2) = flatN fs (z.1) ∧ (z.2).length ≤ 60 * (z.1)) (fun z => fs.length - (z.1)) (((0, []) : Nat × List Int)) [40] (fun _ => rfl) (show (0) ≤ fs.length ∧ ([]) = flatN fs (0) ∧ ([]).length ≤ 60 * (0) from ⟨Nat.zero_le _, rfl, by decide⟩) rfl ⟨rfl, rfl, rfl, rfl, trivial⟩ ⟨rfl, trivial⟩ (fun z hx => ?_)
  obtain ⟨q, L⟩ := z
  show W _ _ _ ⟨tOf [(3, .sl 0 0 L.length), (7, fldV fs), (8, SV.i fs.length), (9, SV.i q)], hOf [some (.rows 3 1 L.length (intF L))], 1⟩
  have hx : q ≤ fs.length ∧ L = flatN fs q ∧ L.length ≤ 60 * q := hx
  obtain ⟨hq, hL, hLl⟩ := hx
  have hF := hf q
  refine r1 ?_
  refine s1 10 1 1 rfl rfl rfl rfl rfl rfl (by first | trivial | omega) ?_
  refine e1 9 rfl ?_
  refine keep [3, 7, 8, 9, 10] rfl ?_
  refine W_seq ?_
  refine q1 rfl (fun hc3 => ?_) (fun hc3 => ?_)
  · skip
    try simp only [cs, ne_eq] at hc3
    refine W_skip ?_
    refine tn ?_
    refine W_seq ?_
    refine W_block ?_
    refine r1 ?_
    refine s1 11 9 1 rfl rfl rfl rfl rfl rfl (by first | trivial | omega) ?_
    refine s1 12 17 2 rfl rfl rfl rfl rfl rfl (by first | trivial | omega) ?_
    refine val 12 (.agg [SV.i (fs.getD q (0, 0)).1, SV.i (fs.getD q (0, 0)).2]) rfl (by first | rfl | (simp only [Nat.zero_add, Int.toNat_natCast]; rfl)) ?_
    refine s1 5 25 3 rfl rfl rfl rfl rfl rfl trivial ?_
    refine s0 33 4 rfl rfl rfl rfl rfl (by first | trivial | omega) ?_
    refine e1 41 rfl ?_
    refine keep [3, 5, 7, 8, 9] rfl ?_
    refine r1 ?_
    refine s1 6 41 1 rfl rfl rfl rfl rfl rfl trivial ?_
    refine e1 49 rfl ?_
    refine keep [3, 5, 6, 7, 8, 9] rfl ?_
    refine W_block ?_
    refine loop (α := Nat × List Int × Int) 2 (fun z => [(3, .sl 0 0 (z.2.1).length), (5, .ptr 1 0 0), (6, SV.i (z.2.2)), (7, fldV fs), (8, SV.i fs.length), (9, SV.i q)]) (fun z => [some (.rows 3 1 (z.2.1).length (intF (z.2.1))), some (.cells 82 2 [SV.i (fs.getD q (0, 0)).1, SV.i (fs.getD q (0, 0)).2])]) (fun z => (z.1) ≤ (fs.getD q (0, 0)).1 ∧ (z.2.1) = L ++ (bitsOf (fs.getD q (0, 0)).1 (fs.getD q (0, 0)).2).take (z.1) ∧ (z.2.2) = (z.1) + 1 ∧ (z.2.1).length ≤ 60 * q + (z.1)) (fun z => (fs.getD q (0, 0)).1 - (z.1)) (((0, L, 1) : Nat × List Int × Int)) [0, 25] (fun _ => rfl) (show (0) ≤ (fs.getD q (0, 0)).1 ∧ (L) = L ++ (bitsOf (fs.getD q (0, 0)).1 (fs.getD q (0, 0)).2).take (0) ∧ (1) = (0) + 1 ∧ (L).length ≤ 60 * q + (0) from ⟨Nat.zero_le _, by simp, by simp, by omega⟩) rfl ⟨rfl, rfl, rfl, rfl, rfl, rfl, trivial⟩ ⟨rfl, rfl, trivial⟩ (fun z hx => ?_)
    obtain ⟨j, M, k⟩ := z
    show W _ _ _ ⟨tOf [(3, .sl 0 0 M.length), (5, .ptr 1 0 0), (6, SV.i k), (7, fldV fs), (8, SV.i fs.length), (9, SV.i q)], hOf [some (.rows 3 1 M.length (intF M)), some (.cells 82 2 [SV.i (fs.getD q (0, 0)).1, SV.i (fs.getD q (0, 0)).2])], 2⟩
    have hx : j ≤ (fs.getD q (0, 0)).1 ∧ M = L ++ (bitsOf (fs.getD q (0, 0)).1 (fs.getD q (0, 0)).2).take j ∧ k = j + 1 ∧ M.length ≤ 60 * q + j := hx
    obtain ⟨hj, hM, hk, hMl⟩ := hx
    refine W_seq ?_
    refine r1 ?_
    refine s1 13 2 1 rfl rfl rfl rfl rfl rfl trivial ?_
    refine s1 14 10 2 rfl rfl rfl rfl rfl rfl trivial ?_
    refine s1 15 18 3 rfl rfl rfl rfl rfl rfl (by first | trivial | omega) ?_
    refine s1 16 26 4 rfl rfl rfl rfl rfl rfl (by first | trivial | omega) ?_
    refine e1 34 rfl ?_
    refine keep [3, 5, 6, 7, 8, 9, 16] rfl ?_
    refine q1 rfl (fun hc6 => ?_) (fun hc6 => ?_)
    · skip
      try simp only [cs, ne_eq] at hc6
      refine W_skip ?_
      refine tn ?_
      refine W_seq ?_
      refine W_block ?_
      refine rd0 rfl ?_
      refine d1 19 34 1 rfl rfl rfl rfl rfl rfl trivial ?_
      refine d1 20 42 2 rfl rfl rfl rfl rfl rfl trivial ?_
      refine d1 21 50 3 rfl rfl rfl rfl rfl rfl (by first | trivial | omega) ?_
      refine d1 22 58 4 rfl rfl rfl rfl rfl rfl trivial ?_
      refine d1 23 66 5 rfl rfl rfl rfl rfl rfl (by first | trivial | omega) ?_
      refine d1 24 74 6 rfl rfl rfl rfl rfl rfl trivial ?_
      refine dA 25 82 7 rfl rfl rfl rfl rfl rfl rfl rfl rfl (by unfold inRange; omega) ?_
      refine d1 26 90 8 rfl rfl rfl rfl rfl rfl (by omega) ?_
      refine val 26 (SV.i (2 ^ ((fs.getD q (0, 0)).1 - 1 - j))) rfl (congrArg (fun x => SV.d (D.val (Value.int .i64 x))) (shl_one (by omega) (by omega))) ?_
      refine dD 27 98 9 rfl rfl rfl rfl rfl rfl rfl rfl rfl ⟨hF.2.1, hF.2.2, (by have := pow_in (q := (fs.getD q (0, 0)).1 - 1 - j) (by omega); omega)⟩ ?_
      refine dD 28 106 10 rfl rfl rfl rfl rfl rfl rfl rfl rfl ⟨(quo_in hF.2.1 hF.2.2).1, (quo_in hF.2.1 hF.2.2).2, by decide⟩ ?_
      refine d1 29 114 11 rfl rfl rfl rfl rfl rfl trivial ?_
      refine d1 30 122 12 rfl rfl rfl rfl rfl rfl ⟨Nat.le_refl _, trivial, (by show (M.length + 1) * 8 ≤ 140737488355328; omega), (by simp only [maxLen]; omega)⟩ ?_
      refine d1 3 130 13 rfl rfl rfl rfl rfl rfl trivial ?_
      refine de1 138 rfl (by kernel_rfl) ?_
      refine bn ?_
      refine tn ?_
      refine rowsc 122 (M ++ [((fs.getD q (0, 0)).2 / 2 ^ ((fs.getD q (0, 0)).1 - 1 - j) % 2)]).length (intF (M ++ [((fs.getD q (0, 0)).2 / 2 ^ ((fs.getD q (0, 0)).1 - 1 - j) % 2)])) rfl (by simp) (fun i c hi hc => cat_one rfl i c hi hc) ?_
      refine cval 3 (.sl 122 0 (M ++ [((fs.getD q (0, 0)).2 / 2 ^ ((fs.getD q (0, 0)).1 - 1 - j) % 2)]).length) rfl (by simp) ?_
      refine r0 ?_
      refine s1 17 138 1 rfl rfl rfl rfl rfl rfl trivial ?_
      refine sA 18 146 2 rfl rfl rfl rfl rfl rfl rfl rfl rfl (by unfold inRange; omega) ?_
      refine s1 6 154 3 rfl rfl rfl rfl rfl rfl trivial ?_
      refine e1 162 rfl ?_
      refine tn ?_
      exact again (((j + 1, M ++ [((fs.getD q (0, 0)).2 / 2 ^ ((fs.getD q (0, 0)).1 - 1 - j) % 2)], k + 1) : Nat × List Int × Int)) [122, 1] (show (j + 1) ≤ (fs.getD q (0, 0)).1 ∧ (M ++ [((fs.getD q (0, 0)).2 / 2 ^ ((fs.getD q (0, 0)).1 - 1 - j) % 2)]) = L ++ (bitsOf (fs.getD q (0, 0)).1 (fs.getD q (0, 0)).2).take (j + 1) ∧ (k + 1) = (j + 1) + 1 ∧ (M ++ [((fs.getD q (0, 0)).2 / 2 ^ ((fs.getD q (0, 0)).1 - 1 - j) % 2)]).length ≤ 60 * q + (j + 1) from ⟨by omega, by rw [hM, bitsOf_take _ j _ (by omega), List.append_assoc], by omega, by rw [List.length_append]; show M.length + 1 ≤ _; omega⟩) (show (fs.getD q (0, 0)).1 - (j + 1) < (fs.getD q (0, 0)).1 - j from (by omega)) rfl ⟨rfl, rfl, rfl, rfl, rfl, rfl, trivial⟩ ⟨rfl, rfl, trivial⟩
    try simp only [cs, ne_eq] at hc6
    refine W_exit ?_
    refine tx ?_
    refine tx ?_
    refine bx ?_
    refine bn ?_
    refine tn ?_
    refine r0 ?_
    refine sA 31 34 1 rfl rfl rfl rfl rfl rfl rfl rfl rfl (by unfold inRange; omega) ?_
    refine s1 9 42 2 rfl rfl rfl rfl rfl rfl trivial ?_
    refine e1 50 rfl ?_
    refine tn ?_
    exact again (((q + 1, M) : Nat × List Int)) [0] (show (q + 1) ≤ fs.length ∧ (M) = flatN fs (q + 1) ∧ (M).length ≤ 60 * (q + 1) from ⟨by omega, by rw [flatN_succ (by omega), hM, List.take_of_length_le (by rw [bitsOf_length]; omega), hL], by omega⟩) (show fs.length - (q + 1) < fs.length - q from (by omega)) rfl ⟨rfl, rfl, rfl, rfl, trivial⟩ ⟨rfl, trivial⟩
  try simp only [cs, ne_eq] at hc3
  refine W_exit ?_
  refine tx ?_
  refine tx ?_
  refine bx ?_
  refine tn ?_
  refine r1 ?_
  refine s1 32 9 1 rfl rfl rfl rfl rfl rfl trivial ?_
  refine s1 2 17 2 rfl rfl rfl rfl rfl rfl trivial ?_
  refine e1 25 rfl ?_
  refine keep [2] rfl ?_
  refine W_ret ?_
  obtain rfl : L = flatF fs := (by rw [hL, show q = fs.length by omega, flatN_all])
  exact out1 2 (.sl 0 0 (flatF fs).length) (π := [0]) (hout := [some (.rows 3 1 (flatF fs).length (intF (flatF fs)))]) Tryd.results37 rfl rfl rfl rfl ⟨rfl, trivial⟩ ⟨rfl, rfl⟩
theorem zf_any (x : Int) (h0 : 0 ≤ x) : Spec Tryd.prog GC 40 [SV.i x] [] (fun r ho => r = fldV (zf (cls x) x) ∧ ho = []) := by
  refine start 33 0 Tryd.func40 rfl rfl rfl rfl ?_
  refine r1 ?_
  refine s1 2 0 1 rfl rfl rfl rfl rfl rfl trivial ?_
  refine e1 8 rfl ?_
  refine keep [0] rfl ?_
  refine W_seq ?_
  refine W_block ?_
  refine r1 ?_
  refine s1 4 8 1 rfl rfl rfl rfl rfl rfl trivial ?_
  refine s1 5 16 2 rfl rfl rfl rfl rfl rfl (by first | trivial | omega) ?_
  refine s1 3 24 3 rfl rfl rfl rfl rfl rfl trivial ?_
  refine e1 32 rfl ?_
  refine keep [0, 3] rfl ?_
  refine q1 rfl (fun hc1 => ?_) (fun hc1 => ?_)
  · skip
    try simp only [cs, ne_eq] at hc1
    refine r1 ?_
    refine s1 6 32 1 rfl rfl rfl rfl rfl rfl trivial ?_
    refine sLit 2 (fldF (zf 0 x)) 7 40 2 rfl rfl rfl rfl rfl rfl rfl rfl rfl (by intro i c hi hc; obtain rfl : i = 0 := (by omega); rcases (show c = 0 ∨ c = 1 by omega) with rfl | rfl <;> rfl) ?_
    refine s1 2 48 3 rfl rfl rfl rfl rfl rfl trivial ?_
    refine e1 56 rfl ?_
    refine keep [2] rfl ?_
    refine W_ret ?_
    refine br ?_
    refine tr ?_
    have hcl : cls x = 0 := (by unfold cls; rw [if_pos (by omega)])
    exact out1 2 (fldV (zf (cls x) x)) (π := []) (hout := []) Tryd.results40 rfl (by rw [hcl]; rfl) rfl rfl trivial ⟨rfl, rfl⟩
  try simp only [cs, ne_eq] at hc1
  refine r1 ?_
  refine s1 9 32 1 rfl rfl rfl rfl rfl rfl trivial ?_
  refine s1 10 40 2 rfl rfl rfl rfl rfl rfl (by first | trivial | omega) ?_
  refine s1 8 48 3 rfl rfl rfl rfl rfl rfl trivial ?_
  refine e1 56 rfl ?_
  refine keep [0, 8] rfl ?_
  refine q1 rfl (fun hc3 => ?_) (fun hc3 => ?_)
  · skip
    try simp only [cs, ne_eq] at hc3
    refine r1 ?_
    refine s1 11 56 1 rfl rfl rfl rfl rfl rfl trivial ?_
    refine s1 12 64 2 rfl rfl rfl rfl rfl rfl trivial ?_
    refine s1 13 72 3 rfl rfl rfl rfl rfl rfl trivial ?_
    refine sLit 2 (fldF (zf 1 x)) 14 80 4 rfl rfl rfl rfl rfl rfl rfl rfl rfl (by intro i c hi hc; rcases (show i = 0 ∨ i = 1 by omega) with rfl | rfl <;> rcases (show c = 0 ∨ c = 1 by omega) with rfl | rfl <;> rfl) ?_
    refine s1 2 88 5 rfl rfl rfl rfl rfl rfl trivial ?_
    refine e1 96 rfl ?_
    refine keep [2] rfl ?_
    refine W_ret ?_
    refine br ?_
    refine tr ?_
    have hcl : cls x = 1 := (by unfold cls; rw [if_neg (by omega)]; rw [if_pos (by omega)])
    exact out1 2 (fldV (zf (cls x) x)) (π := []) (hout := []) Tryd.results40 rfl (by rw [hcl]; rfl) rfl rfl trivial ⟨rfl, rfl⟩
  try simp only [cs, ne_eq] at hc3
  refine r1 ?_
  refine s1 16 56 1 rfl rfl rfl rfl rfl rfl trivial ?_
  refine s1 17 64 2 rfl rfl rfl rfl rfl rfl (by first | trivial | omega) ?_
  refine s1 15 72 3 rfl rfl rfl rfl rfl rfl trivial ?_
  refine e1 80 rfl ?_
  refine keep [0, 15] rfl ?_
  refine q1 rfl (fun hc5 => ?_) (fun hc5 => ?_)
  · skip
    try simp only [cs, ne_eq] at hc5
    refine r1 ?_
    refine s1 18 80 1 rfl rfl rfl rfl rfl rfl trivial ?_
    refine s1 19 88 2 rfl rfl rfl rfl rfl rfl trivial ?_
    refine s1 20 96 3 rfl rfl rfl rfl rfl rfl trivial ?_
    refine sLit 2 (fldF (zf 2 x)) 21 104 4 rfl rfl rfl rfl rfl rfl rfl rfl rfl (by intro i c hi hc; rcases (show i = 0 ∨ i = 1 by omega) with rfl | rfl <;> rcases (show c = 0 ∨ c = 1 by omega) with rfl | rfl <;> rfl) ?_
    refine s1 2 112 5 rfl rfl rfl rfl rfl rfl trivial ?_
    refine e1 120 rfl ?_
    refine keep [2] rfl ?_
    refine W_ret ?_
    refine br ?_
    refine tr ?_
    have hcl : cls x = 2 := (by unfold cls; rw [if_neg (by omega)]; rw [if_neg (by omega)]; rw [if_pos (by omega)])
    exact out1 2 (fldV (zf (cls x) x)) (π := []) (hout := []) Tryd.results40 rfl (by rw [hcl]; rfl) rfl rfl trivial ⟨rfl, rfl⟩
  try simp only [cs, ne_eq] at hc5
  refine r1 ?_
  refine s1 23 80 1 rfl rfl rfl rfl rfl rfl trivial ?_
  refine s1 24 88 2 rfl rfl rfl rfl rfl rfl (by first | trivial | omega) ?_
  refine s1 22 96 3 rfl rfl rfl rfl rfl rfl trivial ?_
  refine e1 104 rfl ?_
  refine keep [0, 22] rfl ?_
  refine q1 rfl (fun hc7 => ?_) (fun hc7 => ?_)
  · skip
    try simp only [cs, ne_eq] at hc7
    refine r1 ?_
    refine s1 25 104 1 rfl rfl rfl rfl rfl rfl trivial ?_
    refine s1 26 112 2 rfl rfl rfl rfl rfl rfl trivial ?_
    refine s1 27 120 3 rfl rfl rfl rfl rfl rfl trivial ?_
    refine sLit 2 (fldF (zf 3 x)) 28 128 4 rfl rfl rfl rfl rfl rfl rfl rfl rfl (by intro i c hi hc; rcases (show i = 0 ∨ i = 1 by omega) with rfl | rfl <;> rcases (show c = 0 ∨ c = 1 by omega) with rfl | rfl <;> rfl) ?_
    refine s1 2 136 5 rfl rfl rfl rfl rfl rfl trivial ?_
    refine e1 144 rfl ?_
    refine keep [2] rfl ?_
    refine W_ret ?_
    refine br ?_
    refine tr ?_
    have hcl : cls x = 3 := (by unfold cls; rw [if_neg (by omega)]; rw [if_neg (by omega)]; rw [if_neg (by omega)]; rw [if_pos (by omega)])
    exact out1 2 (fldV (zf (cls x) x)) (π := []) (hout := []) Tryd.results40 rfl (by rw [hcl]; rfl) rfl rfl trivial ⟨rfl, rfl⟩
  try simp only [cs, ne_eq] at hc7
  refine W_skip ?_
  refine bn ?_
  refine tn ?_
  refine r1 ?_
  refine s1 29 104 1 rfl rfl rfl rfl rfl rfl trivial ?_
  refine s1 30 112 2 rfl rfl rfl rfl rfl rfl trivial ?_
  refine s1 31 120 3 rfl rfl rfl rfl rfl rfl trivial ?_
  refine sLit 2 (fldF (zf 4 x)) 32 128 4 rfl rfl rfl rfl rfl rfl rfl rfl rfl (by intro i c hi hc; rcases (show i = 0 ∨ i = 1 by omega) with rfl | rfl <;> rcases (show c = 0 ∨ c = 1 by omega) with rfl | rfl <;> rfl) ?_
  refine s1 2 136 5 rfl rfl rfl rfl rfl rfl trivial ?_
  refine e1 144 rfl ?_
  refine keep [2] rfl ?_
  refine W_ret ?_
  have hcl : cls x = 4 := (by unfold cls; rw [if_neg (by omega)]; rw [if_neg (by omega)]; rw [if_neg (by omega)]; rw [if_neg (by omega)])
  exact out1 2 (fldV (zf (cls x) x)) (π := []) (hout := []) Tryd.results40 rfl (by rw [hcl]; rfl) rfl rfl trivial ⟨rfl, rfl⟩
theorem isSmall_any (n : Int) : Spec Tryd.prog GC 77 [SV.i n] [] (fun r ho => r = SV.b (decide (-288230376151711744 ≤ n) && decide (n < 288230376151711744)) ∧ ho = []) := by
  refine start 9 0 Tryd.func77 rfl rfl rfl rfl ?_
  refine r1 ?_
  refine s1 2 0 1 rfl rfl rfl rfl rfl rfl trivial ?_
  refine e1 8 rfl ?_
  refine keep [0] rfl ?_
  refine r1 ?_
  refine s1 3 8 1 rfl rfl rfl rfl rfl rfl trivial ?_
  refine s1 4 16 2 rfl rfl rfl rfl rfl rfl (by first | trivial | omega) ?_
  refine s1 5 24 3 rfl rfl rfl rfl rfl rfl trivial ?_
  refine ask 5 rfl (fun hg1_5 => ?_) (fun hg1_5 => ?_)
  · skip
    try simp only [cs, ne_eq] at hg1_5
    refine g1 2 true 5 6 4 rfl rfl rfl rfl rfl ?_
    refine s1 6 32 4 rfl rfl rfl rfl rfl rfl trivial ?_
    refine g1 2 true 5 7 5 rfl rfl rfl rfl rfl ?_
    refine s1 7 40 5 rfl rfl rfl rfl rfl rfl (by first | trivial | omega) ?_
    refine s1 8 48 6 rfl rfl rfl rfl rfl rfl trivial ?_
    refine s1 2 56 7 rfl rfl rfl rfl rfl rfl trivial ?_
    refine e1 64 rfl ?_
    refine keep [2] rfl ?_
    refine W_ret ?_
    exact out1 2 (SV.b (decide (-288230376151711744 ≤ n) && decide (n < 288230376151711744))) (π := []) (hout := []) Tryd.results77 rfl (by show SV.b _ = SV.b _; refine congrArg SV.b (Bool.eq_iff_iff.2 ?_); simp at *; try omega) rfl rfl trivial ⟨rfl, rfl⟩
  try simp only [cs, ne_eq] at hg1_5
  refine g0 2 true 5 6 4 rfl rfl rfl rfl rfl rfl ?_
  refine g0 2 true 5 7 5 rfl rfl rfl rfl rfl rfl ?_
  refine s1 8 48 6 rfl rfl rfl rfl rfl rfl trivial ?_
  refine s1 2 56 7 rfl rfl rfl rfl rfl rfl trivial ?_
  refine e1 64 rfl ?_
  refine keep [2] rfl ?_
  refine W_ret ?_
  exact out1 2 (SV.b (decide (-288230376151711744 ≤ n) && decide (n < 288230376151711744))) (π := []) (hout := []) Tryd.results77 rfl (by show SV.b _ = SV.b _; refine congrArg SV.b (Bool.eq_iff_iff.2 ?_); simp at *; try omega) rfl rfl trivial ⟨rfl, rfl⟩
theorem zigFold_any (n : Int) (h : isSm n) : Spec Tryd.prog GC 39 [SV.i n] [] (fun r ho => r = SV.tup [SV.i (zFold n), SV.i 0] ∧ ho = []) := by
  have h1 := h.1
  have h2 := h.2
  refine start 14 0 Tryd.func39 rfl rfl rfl rfl ?_
  refine r1 ?_
  refine s1 2 0 1 rfl rfl rfl rfl rfl rfl trivial ?_
  refine s1 3 8 2 rfl rfl rfl rfl rfl rfl trivial ?_
  refine e1 16 rfl ?_
  refine keep [0] rfl ?_
  refine W_seq ?_
  refine r1 ?_
  refine s1 4 16 1 rfl rfl rfl rfl rfl rfl trivial ?_
  refine c1 (isSmall_any n) [] [] 5 24 2 rfl rfl rfl rfl rfl rfl rfl rfl Tryd.func77 rfl rfl rfl rfl trivial rfl rfl ?_
  refine s1 6 32 3 rfl rfl rfl rfl rfl rfl trivial ?_
  refine e1 40 rfl ?_
  refine keep [0, 6] rfl ?_
  refine q1 rfl (fun hc1 => ?_) (fun hc1 => ?_)
  · skip
    exfalso; simp at hc1; omega
  try simp only [cs, ne_eq] at hc1
  refine W_skip ?_
  refine tn ?_
  refine W_seq ?_
  refine r1 ?_
  refine s1 7 40 1 rfl rfl rfl rfl rfl rfl trivial ?_
  refine s1 8 48 2 rfl rfl rfl rfl rfl rfl (by first | trivial | omega) ?_
  refine e1 56 rfl ?_
  refine keep [0, 8] rfl ?_
  refine q1 rfl (fun hc3 => ?_) (fun hc3 => ?_)
  · skip
    try simp only [cs, ne_eq] at hc3
    refine r1 ?_
    refine s1 9 56 1 rfl rfl rfl rfl rfl rfl trivial ?_
    refine sA 10 64 2 rfl rfl rfl rfl rfl rfl rfl rfl rfl (by unfold inRange; omega) ?_
    refine sA 11 72 3 rfl rfl rfl rfl rfl rfl rfl rfl rfl (by unfold inRange; omega) ?_
    refine s1 2 80 4 rfl rfl rfl rfl rfl rfl trivial ?_
    refine s1 3 88 5 rfl rfl rfl rfl rfl rfl trivial ?_
    refine e1 96 rfl ?_
    refine keep [2, 3] rfl ?_
    refine W_ret ?_
    refine tr ?_
    exact out2 2 3 (SV.i (zFold n)) (SV.i 0) (π := []) (hout := []) Tryd.results39 rfl rfl (congrArg (fun x => SV.d (D.val (Value.int .i64 x))) (zFold_neg n (by omega))) rfl rfl rfl trivial ⟨rfl, rfl⟩
  try simp only [cs, ne_eq] at hc3
  refine W_skip ?_
  refine tn ?_
  refine r1 ?_
  refine s1 12 56 1 rfl rfl rfl rfl rfl rfl trivial ?_
  refine sA 13 64 2 rfl rfl rfl rfl rfl rfl rfl rfl rfl (by unfold inRange; omega) ?_
  refine s1 2 72 3 rfl rfl rfl rfl rfl rfl trivial ?_
  refine s1 3 80 4 rfl rfl rfl rfl rfl rfl trivial ?_
  refine e1 88 rfl ?_
  refine keep [2, 3] rfl ?_
  refine W_ret ?_
  exact out2 2 3 (SV.i (zFold n)) (SV.i 0) (π := []) (hout := []) Tryd.results39 rfl rfl (congrArg (fun x => SV.d (D.val (Value.int .i64 x))) (zFold_pos n (by omega))) rfl rfl rfl trivial ⟨rfl, rfl⟩
theorem nums_any (l : List Smp) (hin : SmpIn l) (hl : l.length ≤ 120) (hz : faultTo l l.length = 0) : Spec Tryd.prog GC 38 [smpV l] [] (fun r ho => r = .sl 0 0 (nums l).length ∧ ho = [some (.rows 3 1 (nums l).length (intF (nums l)))]) := by
  refine start 73 0 Tryd.func38 rfl rfl rfl rfl ?_
  refine r1 ?_
  refine s1 2 0 1 rfl rfl rfl rfl rfl rfl trivial ?_
  refine e1 8 rfl ?_
  refine keep [0] rfl ?_
  refine r1 ?_
  refine s1 3 8 1 rfl rfl rfl rfl rfl rfl trivial ?_
  refine e1 16 rfl ?_
  refine keep [0, 3] rfl ?_
  refine W_seq ?_
  refine r1 ?_
  refine s1 6 16 1 rfl rfl rfl rfl rfl rfl trivial ?_
  refine s1 7 24 2 rfl rfl rfl rfl rfl rfl (by first | trivial | omega) ?_
  refine s1 8 32 3 rfl rfl rfl rfl rfl rfl trivial ?_
  refine e1 40 rfl ?_
  refine keep [0, 3, 6, 7, 8] rfl ?_
  refine W_block ?_
  refine ghostly 3 3 1 (intF []) rfl ?_
  refine loop (α := Nat × List Int) 1 (fun z => [(0, smpV l), (3, .sl 0 0 (z.2).length), (6, smpV l), (7, SV.i l.length), (8, SV.i (z.1))]) (fun z => [some (.rows 3 1 (z.2).length (intF (z.2)))]) (fun z => (z.1) ≤ l.length ∧ (z.2) = numsN l (z.1) ∧ (z.2).length = 2 * (z.1)) (fun z => l.length - (z.1)) (((0, []) : Nat × List Int)) [40] (fun _ => rfl) (show (0) ≤ l.length ∧ ([]) = numsN l (0) ∧ ([]).length = 2 * (0) from ⟨Nat.zero_le _, rfl, rfl⟩) rfl ⟨rfl, rfl, rfl, rfl, rfl, trivial⟩ ⟨rfl, trivial⟩ (fun z hx => ?_)
  obtain ⟨k, M⟩ := z
  show W _ _ _ ⟨tOf [(0, smpV l), (3, .sl 0 0 M.length), (6, smpV l), (7, SV.i l.length), (8, SV.i k)], hOf [some (.rows 3 1 M.length (intF M))], 1⟩
  have hx : k ≤ l.length ∧ M = numsN l k ∧ M.length = 2 * k := hx
  obtain ⟨hk, hM, hMl⟩ := hx
  refine r1 ?_
  refine s1 9 1 1 rfl rfl rfl rfl rfl rfl (by first | trivial | omega) ?_
  refine e1 9 rfl ?_
  refine keep [0, 3, 6, 7, 8, 9] rfl ?_
  refine W_seq ?_
  refine q1 rfl (fun hc3 => ?_) (fun hc3 => ?_)
  · skip
    try simp only [cs, ne_eq] at hc3
    have hs := smp_at hz (show k < l.length by omega)
    obtain ⟨g1, g2⟩ := hs.1
    obtain ⟨g3, g4⟩ := hs.2.1
    have ho := (smp_at hz (show k - 1 < l.length by omega)).1
    have ho2 := (smp_at hz (show k - 1 < l.length by omega)).2.1
    have ho3 := (smp_at hz (show k - 2 < l.length by omega)).1
    have ho4 := (smp_at hz (show 0 < l.length by omega)).1
    have ho5 := (smp_at hz (show 0 < l.length by omega)).2.1
    unfold inB at ho ho2 ho3 ho4 ho5
    refine W_skip ?_
    refine tn ?_
    refine W_seq ?_
    refine W_block ?_
    refine r1 ?_
    refine s1 10 9 1 rfl rfl rfl rfl rfl rfl trivial ?_
    refine s1 11 17 2 rfl rfl rfl rfl rfl rfl (by first | trivial | omega) ?_
    refine s1 12 25 3 rfl rfl rfl rfl rfl rfl (by first | trivial | omega) ?_
    refine val 12 (smpS (l.getD k default)) rfl (by first | rfl | (simp only [Nat.zero_add, Int.toNat_natCast]; rfl)) ?_
    refine s1 5 33 4 rfl rfl rfl rfl rfl rfl trivial ?_
    refine s1 4 41 5 rfl rfl rfl rfl rfl rfl trivial ?_
    refine s0 49 6 rfl rfl rfl rfl rfl (by first | trivial | omega) ?_
    refine e1 57 rfl ?_
    refine keep [0, 3, 4, 5, 6, 7, 8] rfl ?_
    refine r1 ?_
    refine s1 13 57 1 rfl rfl rfl rfl rfl rfl trivial ?_
    refine e1 65 rfl ?_
    refine keep [0, 3, 4, 5, 6, 7, 8, 13] rfl ?_
    refine W_block ?_
    refine r1 ?_
    refine s1 44 65 1 rfl rfl rfl rfl rfl rfl (by first | trivial | omega) ?_
    refine s1 43 73 2 rfl rfl rfl rfl rfl rfl trivial ?_
    refine e1 81 rfl ?_
    refine keep [0, 3, 4, 5, 6, 7, 8, 13, 43] rfl ?_
    refine q1 rfl (fun hc7 => ?_) (fun hc7 => ?_)
    · skip
      try simp only [cs, ne_eq] at hc7
      refine r0 ?_
      refine s1 45 81 1 rfl rfl rfl rfl rfl rfl trivial ?_
      refine s1 46 89 2 rfl rfl rfl rfl rfl rfl trivial ?_
      refine s1 47 97 3 rfl rfl rfl rfl rfl rfl (by first | trivial | omega) ?_
      refine s1 48 105 4 rfl rfl rfl rfl rfl rfl trivial ?_
      refine s1 49 113 5 rfl rfl rfl rfl rfl rfl (by first | trivial | omega) ?_
      refine s1 50 121 6 rfl rfl rfl rfl rfl rfl trivial ?_
      refine s1 51 129 7 rfl rfl rfl rfl rfl rfl ⟨Nat.le_refl _, trivial, (by show (M.length + 2) * 8 ≤ 140737488355328; omega), (by simp only [maxLen]; omega)⟩ ?_
      refine s1 3 137 8 rfl rfl rfl rfl rfl rfl trivial ?_
      refine e1 145 rfl ?_
      refine bn ?_
      refine bn ?_
      refine tn ?_
      refine rowsc 129 (M ++ [cT (lstN l k) (l.getD k default), cV (lstN l k) (l.getD k default)]).length (intF (M ++ [cT (lstN l k) (l.getD k default), cV (lstN l k) (l.getD k default)])) rfl (by simp) (fun i c hi hc => cat_two (by rw [cT_eq, if_pos (by omega)]) (by rw [cV_eq, if_pos (by omega)]) i c hi hc) ?_
      refine cval 3 (.sl 129 0 (M ++ [cT (lstN l k) (l.getD k default), cV (lstN l k) (l.getD k default)]).length) rfl (by simp) ?_
      refine r0 ?_
      refine sA 71 145 1 rfl rfl rfl rfl rfl rfl rfl rfl rfl (by unfold inRange; omega) ?_
      refine s1 8 153 2 rfl rfl rfl rfl rfl rfl trivial ?_
      refine e1 161 rfl ?_
      refine tn ?_
      exact again (((k + 1, M ++ [cT (lstN l k) (l.getD k default), cV (lstN l k) (l.getD k default)]) : Nat × List Int)) [129] (show (k + 1) ≤ l.length ∧ (M ++ [cT (lstN l k) (l.getD k default), cV (lstN l k) (l.getD k default)]) = numsN l (k + 1) ∧ (M ++ [cT (lstN l k) (l.getD k default), cV (lstN l k) (l.getD k default)]).length = 2 * (k + 1) from ⟨by omega, by rw [numsN_succ, hM], by rw [List.length_append]; show M.length + 2 = _; omega⟩) (show l.length - (k + 1) < l.length - k from (by omega)) rfl ⟨rfl, rfl, rfl, rfl, rfl, trivial⟩ ⟨rfl, trivial⟩
    try simp only [cs, ne_eq] at hc7
    refine r1 ?_
    refine s1 53 81 1 rfl rfl rfl rfl rfl rfl (by first | trivial | omega) ?_
    refine s1 52 89 2 rfl rfl rfl rfl rfl rfl trivial ?_
    refine e1 97 rfl ?_
    refine keep [0, 3, 4, 5, 6, 7, 8, 52] rfl ?_
    refine q1 rfl (fun hc9 => ?_) (fun hc9 => ?_)
    · skip
      try simp only [cs, ne_eq] at hc9
      refine rd0 rfl ?_
      refine d1 54 97 1 rfl rfl rfl rfl rfl rfl trivial ?_
      refine d1 55 105 2 rfl rfl rfl rfl rfl rfl trivial ?_
      refine d1 56 113 3 rfl rfl rfl rfl rfl rfl (by first | trivial | omega) ?_
      refine d1 57 121 4 rfl rfl rfl rfl rfl rfl trivial ?_
      refine d1 58 129 5 rfl rfl rfl rfl rfl rfl (by first | trivial | omega) ?_
      refine d1 59 137 6 rfl rfl rfl rfl rfl rfl trivial ?_
      refine d1 60 145 7 rfl rfl rfl rfl rfl rfl (by omega) ?_
      refine val 60 (SV.i (l.getD 0 default).t) rfl rfl ?_
      refine dA 61 153 8 rfl rfl rfl rfl rfl rfl rfl rfl rfl (by unfold inRange; omega) ?_
      refine d1 62 161 9 rfl rfl rfl rfl rfl rfl trivial ?_
      refine d1 63 169 10 rfl rfl rfl rfl rfl rfl (by first | trivial | omega) ?_
      refine d1 64 177 11 rfl rfl rfl rfl rfl rfl trivial ?_
      refine d1 65 185 12 rfl rfl rfl rfl rfl rfl (by first | trivial | omega) ?_
      refine d1 66 193 13 rfl rfl rfl rfl rfl rfl trivial ?_
      refine d1 67 201 14 rfl rfl rfl rfl rfl rfl (by omega) ?_
      refine val 67 (SV.i (l.getD 0 default).v) rfl rfl ?_
      refine dA 68 209 15 rfl rfl rfl rfl rfl rfl rfl rfl rfl (by unfold inRange; omega) ?_
      refine d1 69 217 16 rfl rfl rfl rfl rfl rfl trivial ?_
      refine d1 70 225 17 rfl rfl rfl rfl rfl rfl ⟨Nat.le_refl _, trivial, (by show (M.length + 2) * 8 ≤ 140737488355328; omega), (by simp only [maxLen]; omega)⟩ ?_
      refine d1 3 233 18 rfl rfl rfl rfl rfl rfl trivial ?_
      refine de1 241 rfl (by kernel_rfl) ?_
      refine bn ?_
      refine bn ?_
      refine tn ?_
      refine rowsc 225 (M ++ [cT (lstN l k) (l.getD k default), cV (lstN l k) (l.getD k default)]).length (intF (M ++ [cT (lstN l k) (l.getD k default), cV (lstN l k) (l.getD k default)])) rfl (by simp) (fun i c hi hc => cat_two (by rw [cT_eq, if_neg (by omega), if_pos (by omega)]) (by rw [cV_eq, if_neg (by omega), show k - 1 = 0 by omega]) i c hi hc) ?_
      refine cval 3 (.sl 225 0 (M ++ [cT (lstN l k) (l.getD k default), cV (lstN l k) (l.getD k default)]).length) rfl (by simp) ?_
      refine r0 ?_
      refine sA 71 241 1 rfl rfl rfl rfl rfl rfl rfl rfl rfl (by unfold inRange; omega) ?_
      refine s1 8 249 2 rfl rfl rfl rfl rfl rfl trivial ?_
      refine e1 257 rfl ?_
      refine tn ?_
      exact again (((k + 1, M ++ [cT (lstN l k) (l.getD k default), cV (lstN l k) (l.getD k default)]) : Nat × List Int)) [225] (show (k + 1) ≤ l.length ∧ (M ++ [cT (lstN l k) (l.getD k default), cV (lstN l k) (l.getD k default)]) = numsN l (k + 1) ∧ (M ++ [cT (lstN l k) (l.getD k default), cV (lstN l k) (l.getD k default)]).length = 2 * (k + 1) from ⟨by omega, by rw [numsN_succ, hM], by rw [List.length_append]; show M.length + 2 = _; omega⟩) (show l.length - (k + 1) < l.length - k from (by omega)) rfl ⟨rfl, rfl, rfl, rfl, rfl, trivial⟩ ⟨rfl, trivial⟩
    try simp only [cs, ne_eq] at hc9
    refine rd0 rfl ?_
    refine d1 14 97 1 rfl rfl rfl rfl rfl rfl trivial ?_
    refine d1 15 105 2 rfl rfl rfl rfl rfl rfl trivial ?_
    refine d1 16 113 3 rfl rfl rfl rfl rfl rfl (by first | trivial | omega) ?_
    refine d1 17 121 4 rfl rfl rfl rfl rfl rfl trivial ?_
    refine d1 18 129 5 rfl rfl rfl rfl rfl rfl trivial ?_
    refine dA 19 137 6 rfl rfl rfl rfl rfl rfl rfl rfl rfl (by unfold inRange; omega) ?_
    refine d1 20 145 7 rfl rfl rfl rfl rfl rfl (by first | trivial | omega) ?_
    refine d1 21 153 8 rfl rfl rfl rfl rfl rfl trivial ?_
    refine d1 22 161 9 rfl rfl rfl rfl rfl rfl (by omega) ?_
    refine val 22 (SV.i (l.getD (k - 1) default).t) rfl (by rw [show ((k : Int) - 1).toNat = k - 1 by omega]) ?_
    refine dA 23 169 10 rfl rfl rfl rfl rfl rfl rfl rfl rfl (by unfold inRange; omega) ?_
    refine dA 24 177 11 rfl rfl rfl rfl rfl rfl rfl rfl rfl (by unfold inRange; omega) ?_
    refine d1 25 185 12 rfl rfl rfl rfl rfl rfl trivial ?_
    refine d1 26 193 13 rfl rfl rfl rfl rfl rfl trivial ?_
    refine dA 27 201 14 rfl rfl rfl rfl rfl rfl rfl rfl rfl (by unfold inRange; omega) ?_
    refine d1 28 209 15 rfl rfl rfl rfl rfl rfl (by first | trivial | omega) ?_
    refine d1 29 217 16 rfl rfl rfl rfl rfl rfl trivial ?_
    refine d1 30 225 17 rfl rfl rfl rfl rfl rfl (by omega) ?_
    refine val 30 (SV.i (l.getD (k - 2) default).t) rfl (by rw [show ((k : Int) - 2).toNat = k - 2 by omega]) ?_
    refine dA 31 233 18 rfl rfl rfl rfl rfl rfl rfl rfl rfl (by unfold inRange; omega) ?_
    refine d1 32 241 19 rfl rfl rfl rfl rfl rfl trivial ?_
    refine d1 33 249 20 rfl rfl rfl rfl rfl rfl (by first | trivial | omega) ?_
    refine d1 34 257 21 rfl rfl rfl rfl rfl rfl trivial ?_
    refine d1 35 265 22 rfl rfl rfl rfl rfl rfl trivial ?_
    refine dA 36 273 23 rfl rfl rfl rfl rfl rfl rfl rfl rfl (by unfold inRange; omega) ?_
    refine d1 37 281 24 rfl rfl rfl rfl rfl rfl (by first | trivial | omega) ?_
    refine d1 38 289 25 rfl rfl rfl rfl rfl rfl trivial ?_
    refine d1 39 297 26 rfl rfl rfl rfl rfl rfl (by omega) ?_
    refine val 39 (SV.i (l.getD (k - 1) default).v) rfl (by rw [show ((k : Int) - 1).toNat = k - 1 by omega]) ?_
    refine dA 40 305 27 rfl rfl rfl rfl rfl rfl rfl rfl rfl (by unfold inRange; omega) ?_
    refine d1 41 313 28 rfl rfl rfl rfl rfl rfl trivial ?_
    refine d1 42 321 29 rfl rfl rfl rfl rfl rfl ⟨Nat.le_refl _, trivial, (by show (M.length + 2) * 8 ≤ 140737488355328; omega), (by simp only [maxLen]; omega)⟩ ?_
    refine d1 3 329 30 rfl rfl rfl rfl rfl rfl trivial ?_
    refine de1 337 rfl (by kernel_rfl) ?_
    refine bn ?_
    refine bn ?_
    refine tn ?_
    refine rowsc 321 (M ++ [cT (lstN l k) (l.getD k default), cV (lstN l k) (l.getD k default)]).length (intF (M ++ [cT (lstN l k) (l.getD k default), cV (lstN l k) (l.getD k default)])) rfl (by simp) (fun i c hi hc => cat_two (by rw [cT_eq, if_neg (by omega), if_neg (by omega)]) (by rw [cV_eq, if_neg (by omega)]) i c hi hc) ?_
    refine cval 3 (.sl 321 0 (M ++ [cT (lstN l k) (l.getD k default), cV (lstN l k) (l.getD k default)]).length) rfl (by simp) ?_
    refine r0 ?_
    refine sA 71 337 1 rfl rfl rfl rfl rfl rfl rfl rfl rfl (by unfold inRange; omega) ?_
    refine s1 8 345 2 rfl rfl rfl rfl rfl rfl trivial ?_
    refine e1 353 rfl ?_
    refine tn ?_
    exact again (((k + 1, M ++ [cT (lstN l k) (l.getD k default), cV (lstN l k) (l.getD k default)]) : Nat × List Int)) [321] (show (k + 1) ≤ l.length ∧ (M ++ [cT (lstN l k) (l.getD k default), cV (lstN l k) (l.getD k default)]) = numsN l (k + 1) ∧ (M ++ [cT (lstN l k) (l.getD k default), cV (lstN l k) (l.getD k default)]).length = 2 * (k + 1) from ⟨by omega, by rw [numsN_succ, hM], by rw [List.length_append]; show M.length + 2 = _; omega⟩) (show l.length - (k + 1) < l.length - k from (by omega)) rfl ⟨rfl, rfl, rfl, rfl, rfl, trivial⟩ ⟨rfl, trivial⟩
  try simp only [cs, ne_eq] at hc3
  refine W_exit ?_
  refine tx ?_
  refine tx ?_
  refine bx ?_
  refine tn ?_
  refine r1 ?_
  refine s1 72 9 1 rfl rfl rfl rfl rfl rfl trivial ?_
  refine s1 2 17 2 rfl rfl rfl rfl rfl rfl trivial ?_
  refine e1 25 rfl ?_
  refine keep [2] rfl ?_
  refine W_ret ?_
  obtain rfl : M = nums l := (by rw [hM, show k = l.length by omega]; rfl)
  exact out1 2 (.sl 0 0 (nums l).length) (π := [0]) (hout := [some (.rows 3 1 (nums l).length (intF (nums l)))]) Tryd.results38 rfl rfl rfl rfl ⟨rfl, trivial⟩ ⟨rfl, rfl⟩
theorem byteList_any (L : List Int) (hL : AllBits L) (hl : L.length ≤ 1000000) : Spec Tryd.prog GC 41 [intV L] [] (fun r ho => r = .sl 0 0 (pack L).length ∧ ho = [some (.rows 5 1 (pack L).length (u8F (pack L)))]) := by
  refine start 33 0 Tryd.func41 rfl rfl rfl rfl ?_
  refine r1 ?_
  refine s1 2 0 1 rfl rfl rfl rfl rfl rfl trivial ?_
  refine e1 8 rfl ?_
  refine keep [0] rfl ?_
  refine r1 ?_
  refine s1 3 8 1 rfl rfl rfl rfl rfl rfl trivial ?_
  refine e1 16 rfl ?_
  refine keep [0, 3] rfl ?_
  refine W_seq ?_
  refine r1 ?_
  refine s1 6 16 1 rfl rfl rfl rfl rfl rfl trivial ?_
  refine s1 7 24 2 rfl rfl rfl rfl rfl rfl (by first | trivial | omega) ?_
  refine s1 8 32 3 rfl rfl rfl rfl rfl rfl trivial ?_
  refine e1 40 rfl ?_
  refine keep [3, 6, 7, 8] rfl ?_
  refine W_block ?_
  refine ghostly 3 5 1 (u8F []) rfl ?_
  refine loop (α := Nat × List Int) 1 (fun z => [(3, .sl 0 0 (pack (z.2)).length), (6, intV L), (7, SV.i L.length), (8, SV.i (z.1))]) (fun z => [some (.rows 5 1 (pack (z.2)).length (u8F (pack (z.2))))]) (fun z => (z.1) ≤ L.length ∧ (z.2) = L.take (z.1)) (fun z => L.length - (z.1)) (((0, []) : Nat × List Int)) [40] (fun _ => rfl) (show (0) ≤ L.length ∧ ([]) = L.take (0) from ⟨Nat.zero_le _, by simp⟩) rfl ⟨rfl, rfl, rfl, rfl, trivial⟩ ⟨rfl, trivial⟩ (fun z hx => ?_)
  obtain ⟨k, M⟩ := z
  show W _ _ _ ⟨tOf [(3, .sl 0 0 (pack M).length), (6, intV L), (7, SV.i L.length), (8, SV.i k)], hOf [some (.rows 5 1 (pack M).length (u8F (pack M)))], 1⟩
  have hx : k ≤ L.length ∧ M = L.take k := hx
  obtain ⟨hk, hM⟩ := hx
  have hA : AllBits M := (by rw [hM]; exact hL.take k)
  have hMk : M.length = k := (by rw [hM, List.length_take]; omega)
  have hpl : (pack M).length ≤ 200000 := (by rw [pack_length]; omega)
  have hrl := packRoom_length M
  have hbit := hL.getD k
  refine r1 ?_
  refine s1 9 1 1 rfl rfl rfl rfl rfl rfl (by first | trivial | omega) ?_
  refine e1 9 rfl ?_
  refine keep [3, 6, 7, 8, 9] rfl ?_
  refine W_seq ?_
  refine q1 rfl (fun hc3 => ?_) (fun hc3 => ?_)
  · skip
    try simp only [cs, ne_eq] at hc3
    refine W_skip ?_
    refine tn ?_
    refine W_seq ?_
    refine W_block ?_
    refine r1 ?_
    refine s1 10 9 1 rfl rfl rfl rfl rfl rfl trivial ?_
    refine s1 11 17 2 rfl rfl rfl rfl rfl rfl (by first | trivial | omega) ?_
    refine s1 12 25 3 rfl rfl rfl rfl rfl rfl (by first | trivial | omega) ?_
    refine val 12 (SV.i (L.getD k 0)) rfl (by first | rfl | (simp only [Nat.zero_add, Int.toNat_natCast]; rfl)) ?_
    refine s1 4 33 4 rfl rfl rfl rfl rfl rfl trivial ?_
    refine s1 5 41 5 rfl rfl rfl rfl rfl rfl trivial ?_
    refine e1 49 rfl ?_
    refine keep [3, 4, 5, 6, 7, 8] rfl ?_
    refine W_seq ?_
    refine r1 ?_
    refine s1 13 49 1 rfl rfl rfl rfl rfl rfl trivial ?_
    refine sD 14 57 2 rfl rfl rfl rfl rfl rfl rfl rfl rfl (by omega) ?_
    refine s1 15 65 3 rfl rfl rfl rfl rfl rfl (by first | trivial | omega) ?_
    refine e1 73 rfl ?_
    refine keep [3, 4, 5, 6, 7, 8, 15] rfl ?_
    refine q1 rfl (fun hc5 => ?_) (fun hc5 => ?_)
    · skip
      try simp only [cs, ne_eq] at hc5
      refine r0 ?_
      refine s1 16 73 1 rfl rfl rfl rfl rfl rfl trivial ?_
      refine s1 17 81 2 rfl rfl rfl rfl rfl rfl trivial ?_
      refine s1 18 89 3 rfl rfl rfl rfl rfl rfl ⟨Nat.le_refl _, trivial, (by show ((pack M).length + 1) * 1 ≤ 140737488355328; omega), (by simp only [maxLen]; omega)⟩ ?_
      refine s1 3 97 4 rfl rfl rfl rfl rfl rfl trivial ?_
      refine e1 105 rfl ?_
      refine tn ?_
      refine rowsc 89 (packRoom M).length (u8F (packRoom M)) rfl (by rw [hrl, pack_length]; omega) (fun i c hi hc => room_cat (by omega) i c hi hc) ?_
      refine cval 3 (.sl 89 0 (packRoom M).length) rfl (by rw [show (packRoom M).length = (pack M).length + 1 from (by rw [hrl, pack_length]; omega)]) ?_
      refine r1 ?_
      refine s1 19 105 1 rfl rfl rfl rfl rfl rfl trivial ?_
      refine s1 20 113 2 rfl rfl rfl rfl rfl rfl (by first | trivial | omega) ?_
      refine e1 121 rfl ?_
      refine keep [3, 4, 6, 7, 8, 20] rfl ?_
      refine q1 rfl (fun hc7 => ?_) (fun hc7 => ?_)
      · skip
        try simp only [cs, ne_eq] at hc7
        have hb1 : L.getD k 0 = 1 := hc7
        refine rd0 rfl ?_
        refine d1 21 121 1 rfl rfl rfl rfl rfl rfl trivial ?_
        refine d1 22 129 2 rfl rfl rfl rfl rfl rfl trivial ?_
        refine dD 23 137 3 rfl rfl rfl rfl rfl rfl rfl rfl rfl (by omega) ?_
        refine d1 24 145 4 rfl rfl rfl rfl rfl rfl (by omega) ?_
        refine val 24 (.ptr 89 (M.length / 8) 0) rfl (by rw [show ((k : Int) / 8).toNat = M.length / 8 by omega, Nat.zero_add]) ?_
        refine d1 25 153 5 rfl rfl rfl rfl rfl rfl (by omega) ?_
        refine val 25 (.d (.val (.int .u8 (packByte M (M.length / 8))))) rfl (by rw [room_get M _ (by omega)]) ?_
        refine d1 26 161 6 rfl rfl rfl rfl rfl rfl trivial ?_
        refine dD 27 169 7 rfl rfl rfl rfl rfl rfl rfl rfl rfl (by omega) ?_
        refine d1 28 177 8 rfl rfl rfl rfl rfl rfl (by omega) ?_
        refine val 28 (.d (.val (.int .u8 (2 ^ (7 - M.length % 8))))) rfl (congrArg (fun x => SV.d (D.val (Value.int .u8 x))) (shr128 (by omega) (by omega))) ?_
        refine d1 29 185 9 rfl rfl rfl rfl rfl rfl (by first | trivial | omega) ?_
        refine val 29 (.d (.val (.int .u8 (packByte M (M.length / 8) + 1 * 2 ^ (7 - M.length % 8))))) rfl (congrArg (fun x => SV.d (D.val (Value.int .u8 x))) (add_bit hA)) ?_
        refine d1 30 193 10 rfl rfl rfl rfl rfl rfl (by omega) ?_
        refine val 30 (.ptr 89 (M.length / 8) 0) rfl (by rw [show ((k : Int) / 8).toNat = M.length / 8 by omega, Nat.zero_add]) ?_
        refine d0 201 11 rfl rfl rfl rfl rfl (by omega) ?_
        refine de1 209 rfl (by kernel_rfl) ?_
        refine bn ?_
        refine tn ?_
        refine rowsc 89 (pack (M ++ [1])).length (u8F (pack (M ++ [1]))) rfl (room_len _) (fun i c hi hc => room_set hA 1 _ rfl i c hi hc) ?_
        refine cval 3 (.sl 89 0 (pack (M ++ [1])).length) rfl (by rw [← room_len]) ?_
        refine r0 ?_
        refine sA 31 209 1 rfl rfl rfl rfl rfl rfl rfl rfl rfl (by unfold inRange; omega) ?_
        refine s1 8 217 2 rfl rfl rfl rfl rfl rfl trivial ?_
        refine e1 225 rfl ?_
        refine tn ?_
        exact again (((k + 1, M ++ [1]) : Nat × List Int)) [89] (show (k + 1) ≤ L.length ∧ (M ++ [1]) = L.take (k + 1) from ⟨by omega, by rw [hM, bit_take L k (by omega), hb1]⟩) (show L.length - (k + 1) < L.length - k from (by omega)) rfl ⟨rfl, rfl, rfl, rfl, trivial⟩ ⟨rfl, trivial⟩
      try simp only [cs, ne_eq] at hc7
      have hb0 : L.getD k 0 = 0 := (by rcases hbit with h | h; exact h; exact absurd h hc7)
      refine W_skip ?_
      refine bn ?_
      refine tn ?_
      refine rowsc 89 (pack (M ++ [0])).length (u8F (pack (M ++ [0]))) rfl (room_len _) (fun i c hi hc => by rw [pack_zero M hA]) ?_
      refine cval 3 (.sl 89 0 (pack (M ++ [0])).length) rfl (by rw [← room_len]) ?_
      refine r0 ?_
      refine sA 31 121 1 rfl rfl rfl rfl rfl rfl rfl rfl rfl (by unfold inRange; omega) ?_
      refine s1 8 129 2 rfl rfl rfl rfl rfl rfl trivial ?_
      refine e1 137 rfl ?_
      refine tn ?_
      exact again (((k + 1, M ++ [0]) : Nat × List Int)) [89] (show (k + 1) ≤ L.length ∧ (M ++ [0]) = L.take (k + 1) from ⟨by omega, by rw [hM, bit_take L k (by omega), hb0]⟩) (show L.length - (k + 1) < L.length - k from (by omega)) rfl ⟨rfl, rfl, rfl, rfl, trivial⟩ ⟨rfl, trivial⟩
    try simp only [cs, ne_eq] at hc5
    refine W_skip ?_
    refine tn ?_
    refine rowsc 0 (packRoom M).length (u8F (packRoom M)) rfl (by rw [room_same (by omega)]) (fun i c hi hc => by rw [room_same (by omega)]) ?_
    refine cval 3 (.sl 0 0 (packRoom M).length) rfl (by rw [room_same (by omega)]) ?_
    refine r1 ?_
    refine s1 19 73 1 rfl rfl rfl rfl rfl rfl trivial ?_
    refine s1 20 81 2 rfl rfl rfl rfl rfl rfl (by first | trivial | omega) ?_
    refine e1 89 rfl ?_
    refine keep [3, 4, 6, 7, 8, 20] rfl ?_
    refine q1 rfl (fun hc7 => ?_) (fun hc7 => ?_)
    · skip
      try simp only [cs, ne_eq] at hc7
      have hb1 : L.getD k 0 = 1 := hc7
      refine rd0 rfl ?_
      refine d1 21 89 1 rfl rfl rfl rfl rfl rfl trivial ?_
      refine d1 22 97 2 rfl rfl rfl rfl rfl rfl trivial ?_
      refine dD 23 105 3 rfl rfl rfl rfl rfl rfl rfl rfl rfl (by omega) ?_
      refine d1 24 113 4 rfl rfl rfl rfl rfl rfl (by omega) ?_
      refine val 24 (.ptr 0 (M.length / 8) 0) rfl (by rw [show ((k : Int) / 8).toNat = M.length / 8 by omega, Nat.zero_add]) ?_
      refine d1 25 121 5 rfl rfl rfl rfl rfl rfl (by omega) ?_
      refine val 25 (.d (.val (.int .u8 (packByte M (M.length / 8))))) rfl (by rw [room_get M _ (by omega)]) ?_
      refine d1 26 129 6 rfl rfl rfl rfl rfl rfl trivial ?_
      refine dD 27 137 7 rfl rfl rfl rfl rfl rfl rfl rfl rfl (by omega) ?_
      refine d1 28 145 8 rfl rfl rfl rfl rfl rfl (by omega) ?_
      refine val 28 (.d (.val (.int .u8 (2 ^ (7 - M.length % 8))))) rfl (congrArg (fun x => SV.d (D.val (Value.int .u8 x))) (shr128 (by omega) (by omega))) ?_
      refine d1 29 153 9 rfl rfl rfl rfl rfl rfl (by first | trivial | omega) ?_
      refine val 29 (.d (.val (.int .u8 (packByte M (M.length / 8) + 1 * 2 ^ (7 - M.length % 8))))) rfl (congrArg (fun x => SV.d (D.val (Value.int .u8 x))) (add_bit hA)) ?_
      refine d1 30 161 10 rfl rfl rfl rfl rfl rfl (by omega) ?_
      refine val 30 (.ptr 0 (M.length / 8) 0) rfl (by rw [show ((k : Int) / 8).toNat = M.length / 8 by omega, Nat.zero_add]) ?_
      refine d0 169 11 rfl rfl rfl rfl rfl (by omega) ?_
      refine de1 177 rfl (by kernel_rfl) ?_
      refine bn ?_
      refine tn ?_
      refine rowsc 0 (pack (M ++ [1])).length (u8F (pack (M ++ [1]))) rfl (room_len _) (fun i c hi hc => room_set hA 1 _ rfl i c hi hc) ?_
      refine cval 3 (.sl 0 0 (pack (M ++ [1])).length) rfl (by rw [← room_len]) ?_
      refine r0 ?_
      refine sA 31 177 1 rfl rfl rfl rfl rfl rfl rfl rfl rfl (by unfold inRange; omega) ?_
      refine s1 8 185 2 rfl rfl rfl rfl rfl rfl trivial ?_
      refine e1 193 rfl ?_
      refine tn ?_
      exact again (((k + 1, M ++ [1]) : Nat × List Int)) [0] (show (k + 1) ≤ L.length ∧ (M ++ [1]) = L.take (k + 1) from ⟨by omega, by rw [hM, bit_take L k (by omega), hb1]⟩) (show L.length - (k + 1) < L.length - k from (by omega)) rfl ⟨rfl, rfl, rfl, rfl, trivial⟩ ⟨rfl, trivial⟩
    try simp only [cs, ne_eq] at hc7
    have hb0 : L.getD k 0 = 0 := (by rcases hbit with h | h; exact h; exact absurd h hc7)
    refine W_skip ?_
    refine bn ?_
    refine tn ?_
    refine rowsc 0 (pack (M ++ [0])).length (u8F (pack (M ++ [0]))) rfl (room_len _) (fun i c hi hc => by rw [pack_zero M hA]) ?_
    refine cval 3 (.sl 0 0 (pack (M ++ [0])).length) rfl (by rw [← room_len]) ?_
    refine r0 ?_
    refine sA 31 89 1 rfl rfl rfl rfl rfl rfl rfl rfl rfl (by unfold inRange; omega) ?_
    refine s1 8 97 2 rfl rfl rfl rfl rfl rfl trivial ?_
    refine e1 105 rfl ?_
    refine tn ?_
    exact again (((k + 1, M ++ [0]) : Nat × List Int)) [0] (show (k + 1) ≤ L.length ∧ (M ++ [0]) = L.take (k + 1) from ⟨by omega, by rw [hM, bit_take L k (by omega), hb0]⟩) (show L.length - (k + 1) < L.length - k from (by omega)) rfl ⟨rfl, rfl, rfl, rfl, trivial⟩ ⟨rfl, trivial⟩
  try simp only [cs, ne_eq] at hc3
  refine W_exit ?_
  refine tx ?_
  refine tx ?_
  refine bx ?_
  refine tn ?_
  refine r1 ?_
  refine s1 32 9 1 rfl rfl rfl rfl rfl rfl trivial ?_
  refine s1 2 17 2 rfl rfl rfl rfl rfl rfl trivial ?_
  refine e1 25 rfl ?_
  refine keep [2] rfl ?_
  refine W_ret ?_
  obtain rfl : L = M := (by rw [hM, List.take_of_length_le (by omega)])
  exact out1 2 (.sl 0 0 (pack L).length) (π := [0]) (hout := [some (.rows 5 1 (pack L).length (u8F (pack L)))]) Tryd.results41 rfl rfl rfl rfl ⟨rfl, trivial⟩ ⟨rfl, rfl⟩
theorem encoded_ok (l : List Smp) (hin : SmpIn l) (hz : sfault l = 0) : Spec Tryd.prog GC 15 [smpV l] [] (fun r ho => r = SV.tup [.sl 0 0 (encB l).length, SV.i 0] ∧ ho = [some (.rows 5 1 (encB l).length (u8F (encB l)))]) := by
  have hl : l.length ≤ 120 := (by unfold sfault at hz; by_cases h : 120 < l.length; (rw [if_pos h] at hz; cases hz); omega)
  have hz2 : faultTo l l.length = 0 := (by unfold sfault at hz; rw [if_neg (by omega)] at hz; exact hz)
  have hnl : (nums l).length = 2 * l.length := numsN_len l _
  have hsm := nums_sm hz2 hl
  refine start 40 0 Tryd.func15 rfl rfl rfl rfl ?_
  refine r1 ?_
  refine s1 2 0 1 rfl rfl rfl rfl rfl rfl trivial ?_
  refine s1 3 8 2 rfl rfl rfl rfl rfl rfl trivial ?_
  refine e1 16 rfl ?_
  refine keep [0] rfl ?_
  refine W_seq ?_
  refine r1 ?_
  refine s1 10 16 1 rfl rfl rfl rfl rfl rfl trivial ?_
  refine c1 (sfault_any l hin) [] [] 11 24 2 rfl rfl rfl rfl rfl rfl rfl rfl Tryd.func36 rfl rfl rfl rfl trivial rfl rfl ?_
  refine s1 4 32 3 rfl rfl rfl rfl rfl rfl trivial ?_
  refine e1 40 rfl ?_
  refine keep [0, 4] rfl ?_
  refine r1 ?_
  refine s1 12 40 1 rfl rfl rfl rfl rfl rfl trivial ?_
  refine s1 13 48 2 rfl rfl rfl rfl rfl rfl (by first | trivial | omega) ?_
  refine e1 56 rfl ?_
  refine keep [0, 4, 13] rfl ?_
  refine q1 rfl (fun hc2 => ?_) (fun hc2 => ?_)
  · skip
    exact absurd hz (by simpa using hc2)
  try simp only [cs, ne_eq] at hc2
  refine W_skip ?_
  refine tn ?_
  refine r1 ?_
  refine s1 15 56 1 rfl rfl rfl rfl rfl rfl trivial ?_
  refine s1 16 64 2 rfl rfl rfl rfl rfl rfl (by first | trivial | omega) ?_
  refine s1 17 72 3 rfl rfl rfl rfl rfl rfl trivial ?_
  refine sLit 2 (fldF [(8, (l.length : Int))]) 18 80 4 rfl rfl rfl rfl rfl rfl rfl rfl rfl (by intro i c hi hc; obtain rfl : i = 0 := (by omega); rcases (show c = 0 ∨ c = 1 by omega) with rfl | rfl <;> rfl) ?_
  refine c1 (bits_any [(8, (l.length : Int))] (by simp) (fun i => by match i with | 0 => exact ⟨(by show (8 : Nat) ≤ 60; decide), (by show (0 : Int) ≤ l.length; omega), (by show (l.length : Int) ≤ _; omega)⟩ | i + 1 => exact ⟨(by simp), (by simp), (by simp)⟩)) [] [88] 19 88 5 rfl rfl rfl rfl rfl rfl rfl rfl Tryd.func37 rfl rfl rfl rfl trivial rfl rfl ?_
  refine s1 5 96 6 rfl rfl rfl rfl rfl rfl trivial ?_
  refine e1 104 rfl ?_
  refine keep [0, 5] rfl ?_
  refine W_seq ?_
  refine rowsc 88 (refL l 0).length (intF (refL l 0)) rfl (by simp [flatF, refL]) (fun i c hi hc => by rw [show flatF [(8, (l.length : Int))] = refL l 0 from by simp [flatF, refL]]) ?_
  refine cval 5 (.sl 88 0 (refL l 0).length) rfl (by simp [flatF, refL]) ?_
  refine r1 ?_
  refine s1 20 104 1 rfl rfl rfl rfl rfl rfl trivial ?_
  refine c1 (nums_any l hin hl hz2) [] [112] 21 112 2 rfl rfl rfl rfl rfl rfl rfl rfl Tryd.func38 rfl rfl rfl rfl trivial rfl rfl ?_
  refine s1 22 120 3 rfl rfl rfl rfl rfl rfl (by first | trivial | omega) ?_
  refine s1 23 128 4 rfl rfl rfl rfl rfl rfl trivial ?_
  refine e1 136 rfl ?_
  refine keep [5, 21, 22, 23] rfl ?_
  refine W_block ?_
  refine freeze 21 112 (nums l).length rfl rfl (Nat.le_refl _) ?_
  refine loop (α := Nat) 1 (fun q => [(5, .sl 0 0 (refL l (q)).length), (21, intV (nums l)), (22, SV.i (nums l).length), (23, SV.i (q))]) (fun q => [some (.rows 3 1 (refL l (q)).length (intF (refL l (q))))]) (fun q => (q) ≤ (nums l).length) (fun q => (nums l).length - (q)) (((0) : Nat)) [88] (fun _ => rfl) (show (0) ≤ (nums l).length from (Nat.zero_le _)) rfl ⟨rfl, rfl, rfl, rfl, trivial⟩ ⟨rfl, trivial⟩ (fun q hx => ?_)
  show W _ _ _ ⟨tOf [(5, .sl 0 0 (refL l q).length), (21, intV (nums l)), (22, SV.i (nums l).length), (23, SV.i q)], hOf [some (.rows 3 1 (refL l q).length (intF (refL l q)))], 1⟩
  have hx : q ≤ (nums l).length := hx
  have hrl := refL_len l q
  refine r1 ?_
  refine s1 24 1 1 rfl rfl rfl rfl rfl rfl (by first | trivial | omega) ?_
  refine e1 9 rfl ?_
  refine keep [5, 21, 22, 23, 24] rfl ?_
  refine W_seq ?_
  refine q1 rfl (fun hc6 => ?_) (fun hc6 => ?_)
  · skip
    try simp only [cs, ne_eq] at hc6
    have hn := hsm _ (getI_mem (show q < (nums l).length by omega))
    have hb := zFold_bd _ hn.1 hn.2
    have hzf := zf_ok hb.1 (by omega) (cls (zFold ((nums l).getD q 0))) (cls_lt _)
    have hzb := zbits_len ((nums l).getD q 0)
    have hfl : flatF (zf (cls (zFold ((nums l).getD q 0))) (zFold ((nums l).getD q 0))) = zbits ((nums l).getD q 0) := (by rw [zf_flat (fun h => by unfold cls at h; split at h; assumption; split at h; cases h; split at h; cases h; split at h <;> cases h)]; rfl)
    refine W_skip ?_
    refine tn ?_
    refine W_seq ?_
    refine W_block ?_
    refine r1 ?_
    refine s1 25 9 1 rfl rfl rfl rfl rfl rfl (by first | trivial | omega) ?_
    refine s1 26 17 2 rfl rfl rfl rfl rfl rfl (by first | trivial | omega) ?_
    refine val 26 (SV.i ((nums l).getD q 0)) rfl (by first | rfl | (simp only [Nat.zero_add, Int.toNat_natCast]; rfl)) ?_
    refine s1 7 25 3 rfl rfl rfl rfl rfl rfl trivial ?_
    refine e1 33 rfl ?_
    refine keep [5, 7, 21, 22, 23] rfl ?_
    refine r1 ?_
    refine s1 28 33 1 rfl rfl rfl rfl rfl rfl trivial ?_
    refine c1 (zigFold_any ((nums l).getD q 0) hn) [] [] 29 41 2 rfl rfl rfl rfl rfl rfl rfl rfl Tryd.func39 rfl rfl rfl rfl trivial rfl rfl ?_
    refine s1 27 49 3 rfl rfl rfl rfl rfl rfl trivial ?_
    refine s1 30 57 4 rfl rfl rfl rfl rfl rfl trivial ?_
    refine s1 31 65 5 rfl rfl rfl rfl rfl rfl trivial ?_
    refine s1 8 73 6 rfl rfl rfl rfl rfl rfl trivial ?_
    refine s1 9 81 7 rfl rfl rfl rfl rfl rfl trivial ?_
    refine e1 89 rfl ?_
    refine keep [5, 8, 21, 22, 23] rfl ?_
    refine r0 ?_
    refine s1 32 89 1 rfl rfl rfl rfl rfl rfl trivial ?_
    refine s1 33 97 2 rfl rfl rfl rfl rfl rfl trivial ?_
    refine c1 (zf_any (zFold ((nums l).getD q 0)) hb.1) [] [] 34 105 3 rfl rfl rfl rfl rfl rfl rfl rfl Tryd.func40 rfl rfl rfl rfl trivial rfl rfl ?_
    refine c1 (bits_any (zf (cls (zFold ((nums l).getD q 0))) (zFold ((nums l).getD q 0))) (by omega) hzf.2) [] [113] 35 113 4 rfl rfl rfl rfl rfl rfl rfl rfl Tryd.func37 rfl rfl rfl rfl trivial rfl rfl ?_
    refine s1 36 121 5 rfl rfl rfl rfl rfl rfl ⟨Nat.le_refl _, (by omega), (by rw [hfl]; show ((refL l q).length + (zbits ((nums l).getD q 0)).length) * 8 ≤ 140737488355328; omega), (by rw [hfl]; simp only [maxLen]; omega)⟩ ?_
    refine s1 5 129 6 rfl rfl rfl rfl rfl rfl trivial ?_
    refine e1 137 rfl ?_
    refine bn ?_
    refine tn ?_
    refine rowsc 121 (refL l (q + 1)).length (intF (refL l (q + 1))) rfl (by rw [refL_succ (by omega), List.length_append, hfl]) (fun i c hi hc => by show catR (intF (refL l q)) (refL l q).length (intF (flatF (zf (cls (zFold ((nums l).getD q 0))) (zFold ((nums l).getD q 0))))) i c = _; rw [cat_int i c hi hc, refL_succ (by omega), hfl]) ?_
    refine cval 5 (.sl 121 0 (refL l (q + 1)).length) rfl (by rw [refL_succ (by omega), List.length_append, hfl]) ?_
    refine r0 ?_
    refine sA 37 137 1 rfl rfl rfl rfl rfl rfl rfl rfl rfl (by unfold inRange; omega) ?_
    refine s1 23 145 2 rfl rfl rfl rfl rfl rfl trivial ?_
    refine e1 153 rfl ?_
    refine tn ?_
    exact again ((q + 1 : Nat)) [121] (show (q + 1) ≤ (nums l).length from (by omega)) (show (nums l).length - (q + 1) < (nums l).length - q from (by omega)) rfl ⟨rfl, rfl, rfl, rfl, trivial⟩ ⟨rfl, trivial⟩
  try simp only [cs, ne_eq] at hc6
  refine W_exit ?_
  refine tx ?_
  refine tx ?_
  refine bx ?_
  refine tn ?_
  obtain rfl : q = (nums l).length := (by omega)
  refine freeze 5 0 (refL l (nums l).length).length rfl rfl (Nat.le_refl _) ?_
  refine r1 ?_
  refine s1 38 9 1 rfl rfl rfl rfl rfl rfl trivial ?_
  refine c1 (byteList_any (refL l (nums l).length) (refL_bits l) (by omega)) [] [17] 39 17 2 rfl rfl rfl rfl rfl rfl rfl rfl Tryd.func41 rfl rfl rfl rfl trivial rfl rfl ?_
  refine s1 2 25 3 rfl rfl rfl rfl rfl rfl trivial ?_
  refine s1 3 33 4 rfl rfl rfl rfl rfl rfl trivial ?_
  refine e1 41 rfl ?_
  refine keep [2, 3] rfl ?_
  refine W_ret ?_
  exact out2 2 3 (.sl 0 0 (encB l).length) (SV.i 0) (π := [17]) (hout := [some (.rows 5 1 (encB l).length (u8F (encB l)))]) Tryd.results15 rfl rfl (by unfold encB; rw [← refL_all]; rfl) rfl rfl rfl ⟨(by unfold encB; rw [← refL_all]; rfl), trivial⟩ ⟨rfl, rfl⟩
end Go.Proofs.YtpdojmebloekgaaDoor.Nice.Co
namespace Go.Proofs.YtpdojmebloekgaaDoor.Nice.Co
open Go
set_option linter.unusedVariables false
set_option linter.unusedSimpArgs false
set_option maxRecDepth 100000
set_option maxHeartbeats 4000000
structure Roll where
  c : Int
  lo : Int
  hi : Int
  s : Int
  deriving DecidableEq
def rollS (r : Roll) : SV := .agg [SV.i r.c, SV.i r.lo, SV.i r.hi, SV.i r.s]
def joined (a b : Roll) : Roll := if a.c = 0 then b else if b.c = 0 then a else ⟨a.c + b.c, if b.lo < a.lo then b.lo else a.lo, if a.hi < b.hi then b.hi else a.hi, a.s + b.s⟩
def withR (a : Roll) (v : Int) : Roll := joined a ⟨1, v, v, v⟩
def stepR (r : Roll) (n : Nat) (v : Int) : Roll := ⟨r.c + 1, if n = 0 ∨ v < r.lo then v else r.lo, if n = 0 ∨ r.hi < v then v else r.hi, r.s + v⟩
def foldTo (l : List Int) : Nat → Roll
  | 0 => ⟨0, 0, 0, 0⟩
  | n + 1 => stepR (foldTo l n) n (l.getD n 0)
def rollBlk (r : Roll) : Blk := .cells 33 4 [SV.i r.c, SV.i r.lo, SV.i r.hi, SV.i r.s]
theorem blk_eq {c lo hi s : Int} {r : Roll} (h1 : c = r.c) (h2 : lo = r.lo) (h3 : hi = r.hi) (h4 : s = r.s) : Blk.cells 33 4 [SV.i c, SV.i lo, SV.i hi, SV.i s] = rollBlk r := by
  rw [h1, h2, h3, h4]; rfl
theorem fold_c (l : List Int) : ∀ n, (foldTo l n).c = n
  | 0 => rfl
  | n + 1 => by show (foldTo l n).c + 1 = _; rw [fold_c l n]; omega
theorem fold_with (l : List Int) (n : Nat) : foldTo l (n + 1) = withR (foldTo l n) (l.getD n 0) := by
  by_cases h : n = 0
  · subst h
    simp [foldTo, stepR, withR, joined]
  · have hj : withR (foldTo l n) (l.getD n 0) = ⟨(foldTo l n).c + 1, if l.getD n 0 < (foldTo l n).lo then l.getD n 0 else (foldTo l n).lo, if (foldTo l n).hi < l.getD n 0 then l.getD n 0 else (foldTo l n).hi, (foldTo l n).s + l.getD n 0⟩ := by
      unfold withR joined
      rw [if_neg (by rw [fold_c]; omega), if_neg (by show ¬ (1 : Int) = 0; decide)]
    rw [hj]
    show stepR _ _ _ = _
    unfold stepR
    simp only [h, false_or]
def inV (x : Int) : Prop := -36028797018963968 ≤ x ∧ x < 36028797018963968
theorem fold_s {l : List Int} (h : ∀ j, j < l.length → inV (l.getD j 0)) : ∀ n, n ≤ l.length → -(n * 36028797018963968) ≤ (foldTo l n).s ∧ (foldTo l n).s ≤ n * 36028797018963968
  | 0, _ => by simp [foldTo]
  | n + 1, hn => by
    have := fold_s h n (by omega)
    have := h n (by omega)
    unfold inV at this
    show _ ≤ (foldTo l n).s + l.getD n 0 ∧ (foldTo l n).s + l.getD n 0 ≤ _
    omega
def vals (l : List Smp) : List Int := l.map (·.v)
theorem vals_len (l : List Smp) : (vals l).length = l.length := by simp [vals]
theorem vals_get {l : List Smp} {k : Nat} (h : k < l.length) : (vals l).getD k 0 = (l.getD k default).v := by simp [vals, List.getD, h]
theorem sf_parts {l : List Smp} (hz : sfault l = 0) : l.length ≤ 120 ∧ faultTo l l.length = 0 := by
  unfold sfault at hz
  by_cases h : 120 < l.length
  · rw [if_pos h] at hz; cases hz
  · rw [if_neg h] at hz; exact ⟨by omega, hz⟩
theorem vals_in {l : List Smp} (hz : sfault l = 0) : ∀ j, j < (vals l).length → inV ((vals l).getD j 0) := by
  intro j hj
  rw [vals_len] at hj
  rw [vals_get hj]
  exact (smp_at (sf_parts hz).2 hj).2.1
def ofR (l : List Smp) : Roll := if sfault l = 0 then foldTo (vals l) l.length else ⟨0, 0, 0, 0⟩
theorem joined_any (a b : Roll) (hc : inRange (a.c + b.c)) (hs : inRange (a.s + b.s)) : Spec Tryd.prog GC 54 [rollS a, rollS b] [] (fun r ho => r = rollS (joined a b) ∧ ho = []) := by
  refine start 36 0 Tryd.func54 rfl rfl rfl rfl ?_
  refine r1 ?_
  refine s1 2 0 1 rfl rfl rfl rfl rfl rfl trivial ?_
  refine s1 3 8 2 rfl rfl rfl rfl rfl rfl trivial ?_
  refine s1 4 16 3 rfl rfl rfl rfl rfl rfl trivial ?_
  refine e1 24 rfl ?_
  refine keep [2, 3, 4] rfl ?_
  refine W_seq ?_
  refine W_block ?_
  refine r1 ?_
  refine s1 6 24 1 rfl rfl rfl rfl rfl rfl trivial ?_
  refine s1 7 32 2 rfl rfl rfl rfl rfl rfl (by first | trivial | omega) ?_
  refine s1 8 40 3 rfl rfl rfl rfl rfl rfl (by first | trivial | omega) ?_
  refine s1 5 48 4 rfl rfl rfl rfl rfl rfl trivial ?_
  refine e1 56 rfl ?_
  refine keep [2, 3, 4, 5] rfl ?_
  refine q1 rfl (fun hc1 => ?_) (fun hc1 => ?_)
  · skip
    try simp only [cs, ne_eq] at hc1
    refine r1 ?_
    refine s1 9 56 1 rfl rfl rfl rfl rfl rfl (by first | trivial | omega) ?_
    refine s0 64 2 rfl rfl rfl rfl rfl (by first | trivial | omega) ?_
    refine e1 72 rfl ?_
    refine keep [4] rfl ?_
    refine W_ret ?_
    refine br ?_
    refine tr ?_
    exact outN (rollS (joined a b)) (π := []) (hout := []) Tryd.results54 rfl (by trivial) (by unfold joined; rw [if_pos hc1]; rfl) rfl rfl trivial ⟨rfl, rfl⟩
  try simp only [cs, ne_eq] at hc1
  refine r1 ?_
  refine s1 11 56 1 rfl rfl rfl rfl rfl rfl trivial ?_
  refine s1 12 64 2 rfl rfl rfl rfl rfl rfl (by first | trivial | omega) ?_
  refine s1 13 72 3 rfl rfl rfl rfl rfl rfl (by first | trivial | omega) ?_
  refine s1 10 80 4 rfl rfl rfl rfl rfl rfl trivial ?_
  refine e1 88 rfl ?_
  refine keep [2, 3, 4, 10] rfl ?_
  refine q1 rfl (fun hc3 => ?_) (fun hc3 => ?_)
  · skip
    try simp only [cs, ne_eq] at hc3
    refine r1 ?_
    refine s1 14 88 1 rfl rfl rfl rfl rfl rfl (by first | trivial | omega) ?_
    refine s0 96 2 rfl rfl rfl rfl rfl (by first | trivial | omega) ?_
    refine e1 104 rfl ?_
    refine keep [4] rfl ?_
    refine W_ret ?_
    refine br ?_
    refine tr ?_
    exact outN (rollS (joined a b)) (π := []) (hout := []) Tryd.results54 rfl (by trivial) (by unfold joined; rw [if_neg hc1, if_pos hc3]; rfl) rfl rfl trivial ⟨rfl, rfl⟩
  try simp only [cs, ne_eq] at hc3
  refine W_skip ?_
  refine bn ?_
  refine tn ?_
  refine r1 ?_
  refine s1 15 88 1 rfl rfl rfl rfl rfl rfl trivial ?_
  refine s1 16 96 2 rfl rfl rfl rfl rfl rfl (by first | trivial | omega) ?_
  refine s1 17 104 3 rfl rfl rfl rfl rfl rfl trivial ?_
  refine s1 18 112 4 rfl rfl rfl rfl rfl rfl (by first | trivial | omega) ?_
  refine sA 19 120 5 rfl rfl rfl rfl rfl rfl rfl rfl rfl hc ?_
  refine s1 20 128 6 rfl rfl rfl rfl rfl rfl trivial ?_
  refine s1 21 136 7 rfl rfl rfl rfl rfl rfl (by first | trivial | omega) ?_
  refine s1 22 144 8 rfl rfl rfl rfl rfl rfl trivial ?_
  refine s1 23 152 9 rfl rfl rfl rfl rfl rfl (by first | trivial | omega) ?_
  refine s1 24 160 10 rfl rfl rfl rfl rfl rfl trivial ?_
  refine s1 25 168 11 rfl rfl rfl rfl rfl rfl trivial ?_
  refine s1 26 176 12 rfl rfl rfl rfl rfl rfl (by first | trivial | omega) ?_
  refine s1 27 184 13 rfl rfl rfl rfl rfl rfl trivial ?_
  refine s1 28 192 14 rfl rfl rfl rfl rfl rfl (by first | trivial | omega) ?_
  refine s1 29 200 15 rfl rfl rfl rfl rfl rfl trivial ?_
  refine s1 30 208 16 rfl rfl rfl rfl rfl rfl trivial ?_
  refine s1 31 216 17 rfl rfl rfl rfl rfl rfl (by first | trivial | omega) ?_
  refine s1 32 224 18 rfl rfl rfl rfl rfl rfl trivial ?_
  refine s1 33 232 19 rfl rfl rfl rfl rfl rfl (by first | trivial | omega) ?_
  refine sA 34 240 20 rfl rfl rfl rfl rfl rfl rfl rfl rfl hs ?_
  refine s1 35 248 21 rfl rfl rfl rfl rfl rfl trivial ?_
  refine s0 256 22 rfl rfl rfl rfl rfl (by first | trivial | omega) ?_
  refine e1 264 rfl ?_
  refine keep [4] rfl ?_
  refine W_ret ?_
  exact outN (rollS (joined a b)) (π := []) (hout := []) Tryd.results54 rfl (by trivial) (by unfold joined; rw [if_neg hc1, if_neg hc3]; rfl) rfl rfl trivial ⟨rfl, rfl⟩
theorem with_any (a : Roll) (v : Int) (hc : inRange (a.c + 1)) (hs : inRange (a.s + v)) : Spec Tryd.prog GC 79 [rollS a, SV.i v] [] (fun r ho => r = rollS (withR a v) ∧ ho = []) := by
  refine start 11 0 Tryd.func79 rfl rfl rfl rfl ?_
  refine r1 ?_
  refine s1 2 0 1 rfl rfl rfl rfl rfl rfl trivial ?_
  refine s1 4 8 2 rfl rfl rfl rfl rfl rfl trivial ?_
  refine e1 16 rfl ?_
  refine keep [1, 2, 4] rfl ?_
  refine r1 ?_
  refine s1 5 16 1 rfl rfl rfl rfl rfl rfl (by first | trivial | omega) ?_
  refine s1 6 24 2 rfl rfl rfl rfl rfl rfl trivial ?_
  refine s1 7 32 3 rfl rfl rfl rfl rfl rfl trivial ?_
  refine s1 8 40 4 rfl rfl rfl rfl rfl rfl trivial ?_
  refine s1 9 48 5 rfl rfl rfl rfl rfl rfl trivial ?_
  refine c1 (joined_any a ⟨1, v, v, v⟩ hc hs) [] [] 10 56 6 rfl rfl rfl rfl rfl rfl rfl rfl Tryd.func54 rfl rfl rfl rfl trivial rfl rfl ?_
  refine s0 64 7 rfl rfl rfl rfl rfl (by first | trivial | omega) ?_
  refine e1 72 rfl ?_
  refine keep [4] rfl ?_
  refine W_ret ?_
  exact outN (rollS (withR a v)) (π := []) (hout := []) Tryd.results79 rfl (by trivial) rfl rfl rfl trivial ⟨rfl, rfl⟩
theorem of_any (l : List Smp) (hl : l.length ≤ 120) (hv : ∀ j, j < (vals l).length → inV ((vals l).getD j 0)) : Spec Tryd.prog GC 49 [smpV l] [] (fun r ho => r = rollS (foldTo (vals l) l.length) ∧ ho = []) := by
  refine start 17 0 Tryd.func49 rfl rfl rfl rfl ?_
  refine r1 ?_
  refine s1 2 0 1 rfl rfl rfl rfl rfl rfl trivial ?_
  refine e1 8 rfl ?_
  refine keep [0, 2] rfl ?_
  refine W_seq ?_
  refine r1 ?_
  refine s1 5 8 1 rfl rfl rfl rfl rfl rfl trivial ?_
  refine s1 6 16 2 rfl rfl rfl rfl rfl rfl (by first | trivial | omega) ?_
  refine s1 7 24 3 rfl rfl rfl rfl rfl rfl trivial ?_
  refine e1 32 rfl ?_
  refine keep [2, 5, 6, 7] rfl ?_
  refine W_block ?_
  refine loop (α := Nat) 1 (fun n => [(2, .ptr 0 0 0), (5, smpV l), (6, SV.i l.length), (7, SV.i (n))]) (fun n => [some (rollBlk (foldTo (vals l) (n)))]) (fun n => (n) ≤ l.length) (fun n => l.length - (n)) (((0) : Nat)) [0] (fun _ => rfl) (show (0) ≤ l.length from (Nat.zero_le _)) rfl ⟨rfl, rfl, rfl, rfl, trivial⟩ ⟨rfl, trivial⟩ (fun n hx => ?_)
  show W _ _ _ ⟨tOf [(2, .ptr 0 0 0), (5, smpV l), (6, SV.i l.length), (7, SV.i n)], hOf [some (rollBlk (foldTo (vals l) n))], 1⟩
  have hx : n ≤ l.length := hx
  have hs := fold_s hv n (by rw [vals_len]; exact hx)
  have hcc := fold_c (vals l) n
  refine r1 ?_
  refine s1 8 1 1 rfl rfl rfl rfl rfl rfl (by first | trivial | omega) ?_
  refine e1 9 rfl ?_
  refine keep [2, 5, 6, 7, 8] rfl ?_
  refine W_seq ?_
  refine q1 rfl (fun hc2 => ?_) (fun hc2 => ?_)
  · skip
    try simp only [cs, ne_eq] at hc2
    have hvn := hv n (by rw [vals_len]; omega)
    rw [vals_get (by omega)] at hvn
    unfold inV at hvn
    refine W_skip ?_
    refine tn ?_
    refine W_seq ?_
    refine W_block ?_
    refine r1 ?_
    refine s1 9 9 1 rfl rfl rfl rfl rfl rfl (by first | trivial | omega) ?_
    refine s1 10 17 2 rfl rfl rfl rfl rfl rfl (by first | trivial | omega) ?_
    refine val 10 (smpS (l.getD n default)) rfl (by first | rfl | (simp only [Nat.zero_add, Int.toNat_natCast]; rfl)) ?_
    refine s1 4 25 3 rfl rfl rfl rfl rfl rfl trivial ?_
    refine s0 33 4 rfl rfl rfl rfl rfl (by first | trivial | omega) ?_
    refine e1 41 rfl ?_
    refine keep [2, 4, 5, 6, 7] rfl ?_
    refine r0 ?_
    refine s1 11 41 1 rfl rfl rfl rfl rfl rfl (by first | trivial | omega) ?_
    refine s1 12 49 2 rfl rfl rfl rfl rfl rfl trivial ?_
    refine s1 13 57 3 rfl rfl rfl rfl rfl rfl (by first | trivial | omega) ?_
    refine c1 (with_any (foldTo (vals l) n) (l.getD n default).v ⟨by omega, by omega⟩ ⟨by omega, by omega⟩) [] [] 14 65 4 rfl rfl rfl rfl rfl rfl rfl rfl Tryd.func79 rfl rfl rfl rfl trivial rfl rfl ?_
    refine s0 73 5 rfl rfl rfl rfl rfl (by first | trivial | omega) ?_
    refine e1 81 rfl ?_
    refine bn ?_
    refine tn ?_
    refine chval 0 (rollBlk (foldTo (vals l) (n + 1))) rfl (by rw [fold_with, vals_get (by omega)]; rfl) ?_
    refine r0 ?_
    refine sA 15 81 1 rfl rfl rfl rfl rfl rfl rfl rfl rfl (by unfold inRange; omega) ?_
    refine s1 7 89 2 rfl rfl rfl rfl rfl rfl trivial ?_
    refine e1 97 rfl ?_
    refine tn ?_
    exact again ((n + 1 : Nat)) [0] (show (n + 1) ≤ l.length from (by omega)) (show l.length - (n + 1) < l.length - n from (by omega)) rfl ⟨rfl, rfl, rfl, rfl, trivial⟩ ⟨rfl, trivial⟩
  try simp only [cs, ne_eq] at hc2
  refine W_exit ?_
  refine tx ?_
  refine tx ?_
  refine bx ?_
  refine tn ?_
  obtain rfl : n = l.length := (by omega)
  refine r1 ?_
  refine s1 16 9 1 rfl rfl rfl rfl rfl rfl (by first | trivial | omega) ?_
  refine s0 17 2 rfl rfl rfl rfl rfl (by first | trivial | omega) ?_
  refine e1 25 rfl ?_
  refine keep [2] rfl ?_
  refine W_ret ?_
  exact outN (rollS (foldTo (vals l) l.length)) (π := []) (hout := []) Tryd.results49 rfl (by trivial) rfl rfl rfl trivial ⟨rfl, rfl⟩
theorem rollOf_ok (l : List Smp) (hin : SmpIn l) (hz : sfault l = 0) : Spec Tryd.prog GC 20 [smpV l] [] (fun r ho => r = SV.tup [rollS (ofR l), SV.i (sfault l)] ∧ ho = []) := by
  have hp := sf_parts hz
  have hv := vals_in hz
  refine start 17 0 Tryd.func20 rfl rfl rfl rfl ?_
  refine r1 ?_
  refine s1 2 0 1 rfl rfl rfl rfl rfl rfl trivial ?_
  refine s1 3 8 2 rfl rfl rfl rfl rfl rfl trivial ?_
  refine e1 16 rfl ?_
  refine keep [0, 2] rfl ?_
  refine W_seq ?_
  refine r1 ?_
  refine s1 7 16 1 rfl rfl rfl rfl rfl rfl trivial ?_
  refine c1 (encode_ok l hin hz) [] [24] 8 24 2 rfl rfl rfl rfl rfl rfl rfl rfl Tryd.func14 rfl rfl rfl rfl trivial rfl rfl ?_
  refine s1 6 32 3 rfl rfl rfl rfl rfl rfl trivial ?_
  refine s1 9 40 4 rfl rfl rfl rfl rfl rfl trivial ?_
  refine s1 10 48 5 rfl rfl rfl rfl rfl rfl trivial ?_
  refine s1 4 56 6 rfl rfl rfl rfl rfl rfl trivial ?_
  refine s1 5 64 7 rfl rfl rfl rfl rfl rfl trivial ?_
  refine e1 72 rfl ?_
  refine keep [0, 2, 5] rfl ?_
  refine r1 ?_
  refine s1 11 72 1 rfl rfl rfl rfl rfl rfl trivial ?_
  refine s1 12 80 2 rfl rfl rfl rfl rfl rfl (by first | trivial | omega) ?_
  refine e1 88 rfl ?_
  refine keep [0, 2, 5, 12] rfl ?_
  refine q1 rfl (fun hc2 => ?_) (fun hc2 => ?_)
  · skip
    exact absurd hc2 (by decide)
  try simp only [cs, ne_eq] at hc2
  refine W_skip ?_
  refine tn ?_
  refine r1 ?_
  refine s1 15 88 1 rfl rfl rfl rfl rfl rfl trivial ?_
  refine c1 (of_any l hp.1 hv) [] [] 16 96 2 rfl rfl rfl rfl rfl rfl rfl rfl Tryd.func49 rfl rfl rfl rfl trivial rfl rfl ?_
  refine s0 104 3 rfl rfl rfl rfl rfl (by first | trivial | omega) ?_
  refine s1 3 112 4 rfl rfl rfl rfl rfl rfl trivial ?_
  refine e1 120 rfl ?_
  refine keep [2, 3] rfl ?_
  refine W_ret ?_
  exact outN (SV.tup [rollS (ofR l), SV.i (sfault l)]) (π := []) (hout := []) Tryd.results20 rfl (by trivial) (by unfold ofR; rw [if_pos hz, hz]; rfl) rfl rfl trivial ⟨rfl, rfl⟩
theorem rollOf_bad (l : List Smp) (hin : SmpIn l) (hz : sfault l ≠ 0) : Spec Tryd.prog GC 20 [smpV l] [] (fun r ho => r = SV.tup [rollS (ofR l), SV.i (sfault l)] ∧ ho = []) := by
  refine start 17 0 Tryd.func20 rfl rfl rfl rfl ?_
  refine r1 ?_
  refine s1 2 0 1 rfl rfl rfl rfl rfl rfl trivial ?_
  refine s1 3 8 2 rfl rfl rfl rfl rfl rfl trivial ?_
  refine e1 16 rfl ?_
  refine keep [0, 2] rfl ?_
  refine W_seq ?_
  refine r1 ?_
  refine s1 7 16 1 rfl rfl rfl rfl rfl rfl trivial ?_
  refine c1 (encode_bad l hin hz) [] [] 8 24 2 rfl rfl rfl rfl rfl rfl rfl rfl Tryd.func14 rfl rfl rfl rfl trivial rfl rfl ?_
  refine s1 6 32 3 rfl rfl rfl rfl rfl rfl trivial ?_
  refine s1 9 40 4 rfl rfl rfl rfl rfl rfl trivial ?_
  refine s1 10 48 5 rfl rfl rfl rfl rfl rfl trivial ?_
  refine s1 4 56 6 rfl rfl rfl rfl rfl rfl trivial ?_
  refine s1 5 64 7 rfl rfl rfl rfl rfl rfl trivial ?_
  refine e1 72 rfl ?_
  refine keep [0, 2, 5] rfl ?_
  refine r1 ?_
  refine s1 11 72 1 rfl rfl rfl rfl rfl rfl trivial ?_
  refine s1 12 80 2 rfl rfl rfl rfl rfl rfl (by first | trivial | omega) ?_
  refine e1 88 rfl ?_
  refine keep [0, 2, 5, 12] rfl ?_
  refine q1 rfl (fun hc2 => ?_) (fun hc2 => ?_)
  · skip
    try simp only [cs, ne_eq] at hc2
    refine r1 ?_
    refine s1 13 88 1 rfl rfl rfl rfl rfl rfl trivial ?_
    refine s1 14 96 2 rfl rfl rfl rfl rfl rfl trivial ?_
    refine s0 104 3 rfl rfl rfl rfl rfl (by first | trivial | omega) ?_
    refine s1 3 112 4 rfl rfl rfl rfl rfl rfl trivial ?_
    refine e1 120 rfl ?_
    refine keep [2, 3] rfl ?_
    refine W_ret ?_
    refine tr ?_
    exact outN (SV.tup [rollS (ofR l), SV.i (sfault l)]) (π := []) (hout := []) Tryd.results20 rfl (by trivial) (by unfold ofR; rw [if_neg hz]; rfl) rfl rfl trivial ⟨rfl, rfl⟩
  exact absurd hc2 (by simpa using hz)
theorem rollOf_any (l : List Smp) (hin : SmpIn l) : Spec Tryd.prog GC 20 [smpV l] [] (fun r ho => r = SV.tup [rollS (ofR l), SV.i (sfault l)] ∧ ho = []) := by
  by_cases hz : sfault l = 0
  · exact rollOf_ok l hin hz
  · exact rollOf_bad l hin hz
theorem refOf_any (l : List Int) (hl : l.length ≤ 1000000) (hs : ∀ n, n ≤ l.length → inRange (foldTo l n).s) : Spec Tryd.prog GC 52 [intV l] [] (fun r ho => r = rollS (foldTo l l.length) ∧ ho = []) := by
  refine start 44 0 Tryd.func52 rfl rfl rfl rfl ?_
  refine r1 ?_
  refine s1 2 0 1 rfl rfl rfl rfl rfl rfl trivial ?_
  refine e1 8 rfl ?_
  refine keep [0, 2] rfl ?_
  refine r1 ?_
  refine s1 3 8 1 rfl rfl rfl rfl rfl rfl trivial ?_
  refine e1 16 rfl ?_
  refine keep [0, 2, 3] rfl ?_
  refine W_seq ?_
  refine r1 ?_
  refine s1 6 16 1 rfl rfl rfl rfl rfl rfl trivial ?_
  refine s1 7 24 2 rfl rfl rfl rfl rfl rfl (by first | trivial | omega) ?_
  refine s1 8 32 3 rfl rfl rfl rfl rfl rfl trivial ?_
  refine e1 40 rfl ?_
  refine keep [2, 3, 6, 7, 8] rfl ?_
  refine W_block ?_
  refine loop (α := Nat) 2 (fun n => [(2, .ptr 0 0 0), (3, .ptr 1 0 0), (6, intV l), (7, SV.i l.length), (8, SV.i n)]) (fun n => [some (rollBlk ⟨0, 0, 0, 0⟩), some (rollBlk (foldTo l n))]) (fun n => n ≤ l.length) (fun n => l.length - n) (0) [0, 8] (fun _ => rfl) (Nat.zero_le _) rfl ⟨rfl, rfl, rfl, rfl, rfl, trivial⟩ ⟨rfl, rfl, trivial⟩ (fun n hx => ?_)
  refine r1 ?_
  refine s1 9 2 1 rfl rfl rfl rfl rfl rfl (by first | trivial | omega) ?_
  refine e1 10 rfl ?_
  refine keep [2, 3, 6, 7, 8, 9] rfl ?_
  refine W_seq ?_
  refine q1 rfl (fun hc3 => ?_) (fun hc3 => ?_)
  · skip
    try simp only [cs, ne_eq] at hc3
    refine W_skip ?_
    refine tn ?_
    refine W_seq ?_
    refine W_block ?_
    refine r1 ?_
    refine s1 10 10 1 rfl rfl rfl rfl rfl rfl trivial ?_
    refine s1 11 18 2 rfl rfl rfl rfl rfl rfl (by first | trivial | omega) ?_
    refine s1 12 26 3 rfl rfl rfl rfl rfl rfl (by first | trivial | omega) ?_
    refine s1 4 34 4 rfl rfl rfl rfl rfl rfl trivial ?_
    refine s1 5 42 5 rfl rfl rfl rfl rfl rfl trivial ?_
    refine e1 50 rfl ?_
    refine keep [2, 3, 4, 5, 6, 7, 8] rfl ?_
    refine W_seq ?_
    refine r1 ?_
    refine s1 13 50 1 rfl rfl rfl rfl rfl rfl trivial ?_
    refine s1 14 58 2 rfl rfl rfl rfl rfl rfl (by first | trivial | omega) ?_
    refine s1 15 66 3 rfl rfl rfl rfl rfl rfl trivial ?_
    refine ask 15 rfl (fun hg5_15 => ?_) (fun hg5_15 => ?_)
    · skip
      try simp only [cs, ne_eq] at hg5_15
      refine g0 2 false 15 16 4 rfl rfl rfl rfl rfl rfl ?_
      refine g0 2 false 15 17 5 rfl rfl rfl rfl rfl rfl ?_
      refine g0 2 false 15 18 6 rfl rfl rfl rfl rfl rfl ?_
      refine g0 2 false 15 19 7 rfl rfl rfl rfl rfl rfl ?_
      refine s1 20 106 8 rfl rfl rfl rfl rfl rfl trivial ?_
      refine e1 114 rfl ?_
      refine keep [2, 3, 4, 5, 6, 7, 8, 20] rfl ?_
      refine q1 rfl (fun hc5 => ?_) (fun hc5 => ?_)
      · skip
        try simp only [cs, ne_eq] at hc5
        refine r0 ?_
        refine s1 21 114 1 rfl rfl rfl rfl rfl rfl trivial ?_
        refine s1 22 122 2 rfl rfl rfl rfl rfl rfl trivial ?_
        refine s0 130 3 rfl rfl rfl rfl rfl (by first | trivial | omega) ?_
        refine e1 138 rfl ?_
        refine tn ?_
        refine W_seq ?_
        refine r1 ?_
        refine s1 23 138 1 rfl rfl rfl rfl rfl rfl trivial ?_
        refine s1 24 146 2 rfl rfl rfl rfl rfl rfl (by first | trivial | omega) ?_
        refine s1 25 154 3 rfl rfl rfl rfl rfl rfl trivial ?_
        refine ask 25 rfl (fun hg7_25 => ?_) (fun hg7_25 => ?_)
        · skip
          try simp only [cs, ne_eq] at hg7_25
          refine g0 2 false 25 26 4 rfl rfl rfl rfl rfl rfl ?_
          refine g0 2 false 25 27 5 rfl rfl rfl rfl rfl rfl ?_
          refine g0 2 false 25 28 6 rfl rfl rfl rfl rfl rfl ?_
          refine g0 2 false 25 29 7 rfl rfl rfl rfl rfl rfl ?_
          refine s1 30 194 8 rfl rfl rfl rfl rfl rfl trivial ?_
          refine e1 202 rfl ?_
          refine keep [2, 3, 5, 6, 7, 8, 30] rfl ?_
          refine q1 rfl (fun hc7 => ?_) (fun hc7 => ?_)
          · skip
            try simp only [cs, ne_eq] at hc7
            refine r0 ?_
            refine s1 31 202 1 rfl rfl rfl rfl rfl rfl trivial ?_
            refine s1 32 210 2 rfl rfl rfl rfl rfl rfl trivial ?_
            refine s0 218 3 rfl rfl rfl rfl rfl (by first | trivial | omega) ?_
            refine e1 226 rfl ?_
            refine tn ?_
            refine r1 ?_
            refine s1 33 226 1 rfl rfl rfl rfl rfl rfl trivial ?_
            refine s1 34 234 2 rfl rfl rfl rfl rfl rfl (by first | trivial | omega) ?_
            refine s1 35 242 3 rfl rfl rfl rfl rfl rfl trivial ?_
            refine sA 36 250 4 rfl rfl rfl rfl rfl rfl rfl rfl rfl (by have := hs (n + 1) (by omega); exact this) ?_
            refine s1 37 258 5 rfl rfl rfl rfl rfl rfl trivial ?_
            refine s0 266 6 rfl rfl rfl rfl rfl (by first | trivial | omega) ?_
            refine e1 274 rfl ?_
            refine keep [2, 3, 6, 7, 8] rfl ?_
            refine r0 ?_
            refine s1 38 274 1 rfl rfl rfl rfl rfl rfl trivial ?_
            refine s1 39 282 2 rfl rfl rfl rfl rfl rfl (by first | trivial | omega) ?_
            refine sA 40 290 3 rfl rfl rfl rfl rfl rfl rfl rfl rfl (by have := fold_c l n; unfold inRange; omega) ?_
            refine s1 41 298 4 rfl rfl rfl rfl rfl rfl trivial ?_
            refine s0 306 5 rfl rfl rfl rfl rfl (by first | trivial | omega) ?_
            refine e1 314 rfl ?_
            refine bn ?_
            refine tn ?_
            refine chval 1 (rollBlk (foldTo l (n + 1))) rfl (blk_eq rfl (by simp only [Int.toNat_natCast] at *; simp only [foldTo, stepR]; split <;> omega) (by simp only [Int.toNat_natCast] at *; simp only [foldTo, stepR]; split <;> omega) rfl) ?_
            refine r0 ?_
            refine sA 42 314 1 rfl rfl rfl rfl rfl rfl rfl rfl rfl (by unfold inRange; omega) ?_
            refine s1 8 322 2 rfl rfl rfl rfl rfl rfl trivial ?_
            refine e1 330 rfl ?_
            refine tn ?_
            exact again (n + 1) [0, 1] (by omega) (by omega) rfl ⟨rfl, rfl, rfl, rfl, rfl, trivial⟩ ⟨rfl, rfl, trivial⟩
          exact absurd hc7 (by decide)
        try simp only [cs, ne_eq] at hg7_25
        refine g1 2 false 25 26 4 rfl rfl rfl rfl rfl ?_
        refine s1 26 162 4 rfl rfl rfl rfl rfl rfl trivial ?_
        refine g1 2 false 25 27 5 rfl rfl rfl rfl rfl ?_
        refine s1 27 170 5 rfl rfl rfl rfl rfl rfl trivial ?_
        refine g1 2 false 25 28 6 rfl rfl rfl rfl rfl ?_
        refine s1 28 178 6 rfl rfl rfl rfl rfl rfl (by first | trivial | omega) ?_
        refine g1 2 false 25 29 7 rfl rfl rfl rfl rfl ?_
        refine s1 29 186 7 rfl rfl rfl rfl rfl rfl (by first | trivial | omega) ?_
        refine s1 30 194 8 rfl rfl rfl rfl rfl rfl trivial ?_
        refine e1 202 rfl ?_
        refine keep [2, 3, 5, 6, 7, 8, 30] rfl ?_
        refine q1 rfl (fun hc7 => ?_) (fun hc7 => ?_)
        · skip
          try simp only [cs, ne_eq] at hc7
          refine r0 ?_
          refine s1 31 202 1 rfl rfl rfl rfl rfl rfl trivial ?_
          refine s1 32 210 2 rfl rfl rfl rfl rfl rfl trivial ?_
          refine s0 218 3 rfl rfl rfl rfl rfl (by first | trivial | omega) ?_
          refine e1 226 rfl ?_
          refine tn ?_
          refine r1 ?_
          refine s1 33 226 1 rfl rfl rfl rfl rfl rfl trivial ?_
          refine s1 34 234 2 rfl rfl rfl rfl rfl rfl (by first | trivial | omega) ?_
          refine s1 35 242 3 rfl rfl rfl rfl rfl rfl trivial ?_
          refine sA 36 250 4 rfl rfl rfl rfl rfl rfl rfl rfl rfl (by have := hs (n + 1) (by omega); exact this) ?_
          refine s1 37 258 5 rfl rfl rfl rfl rfl rfl trivial ?_
          refine s0 266 6 rfl rfl rfl rfl rfl (by first | trivial | omega) ?_
          refine e1 274 rfl ?_
          refine keep [2, 3, 6, 7, 8] rfl ?_
          refine r0 ?_
          refine s1 38 274 1 rfl rfl rfl rfl rfl rfl trivial ?_
          refine s1 39 282 2 rfl rfl rfl rfl rfl rfl (by first | trivial | omega) ?_
          refine sA 40 290 3 rfl rfl rfl rfl rfl rfl rfl rfl rfl (by have := fold_c l n; unfold inRange; omega) ?_
          refine s1 41 298 4 rfl rfl rfl rfl rfl rfl trivial ?_
          refine s0 306 5 rfl rfl rfl rfl rfl (by first | trivial | omega) ?_
          refine e1 314 rfl ?_
          refine bn ?_
          refine tn ?_
          refine chval 1 (rollBlk (foldTo l (n + 1))) rfl (blk_eq rfl (by simp only [Int.toNat_natCast] at *; simp only [foldTo, stepR]; split <;> omega) (by simp only [Int.toNat_natCast] at *; simp only [foldTo, stepR]; split <;> omega) rfl) ?_
          refine r0 ?_
          refine sA 42 314 1 rfl rfl rfl rfl rfl rfl rfl rfl rfl (by unfold inRange; omega) ?_
          refine s1 8 322 2 rfl rfl rfl rfl rfl rfl trivial ?_
          refine e1 330 rfl ?_
          refine tn ?_
          exact again (n + 1) [0, 1] (by omega) (by omega) rfl ⟨rfl, rfl, rfl, rfl, rfl, trivial⟩ ⟨rfl, rfl, trivial⟩
        try simp only [cs, ne_eq] at hc7
        refine W_skip ?_
        refine tn ?_
        refine r1 ?_
        refine s1 33 202 1 rfl rfl rfl rfl rfl rfl trivial ?_
        refine s1 34 210 2 rfl rfl rfl rfl rfl rfl (by first | trivial | omega) ?_
        refine s1 35 218 3 rfl rfl rfl rfl rfl rfl trivial ?_
        refine sA 36 226 4 rfl rfl rfl rfl rfl rfl rfl rfl rfl (by have := hs (n + 1) (by omega); exact this) ?_
        refine s1 37 234 5 rfl rfl rfl rfl rfl rfl trivial ?_
        refine s0 242 6 rfl rfl rfl rfl rfl (by first | trivial | omega) ?_
        refine e1 250 rfl ?_
        refine keep [2, 3, 6, 7, 8] rfl ?_
        refine r0 ?_
        refine s1 38 250 1 rfl rfl rfl rfl rfl rfl trivial ?_
        refine s1 39 258 2 rfl rfl rfl rfl rfl rfl (by first | trivial | omega) ?_
        refine sA 40 266 3 rfl rfl rfl rfl rfl rfl rfl rfl rfl (by have := fold_c l n; unfold inRange; omega) ?_
        refine s1 41 274 4 rfl rfl rfl rfl rfl rfl trivial ?_
        refine s0 282 5 rfl rfl rfl rfl rfl (by first | trivial | omega) ?_
        refine e1 290 rfl ?_
        refine bn ?_
        refine tn ?_
        refine chval 1 (rollBlk (foldTo l (n + 1))) rfl (blk_eq rfl (by simp only [Int.toNat_natCast] at *; simp only [foldTo, stepR]; split <;> omega) (by simp only [Int.toNat_natCast] at *; simp only [foldTo, stepR]; split <;> omega) rfl) ?_
        refine r0 ?_
        refine sA 42 290 1 rfl rfl rfl rfl rfl rfl rfl rfl rfl (by unfold inRange; omega) ?_
        refine s1 8 298 2 rfl rfl rfl rfl rfl rfl trivial ?_
        refine e1 306 rfl ?_
        refine tn ?_
        exact again (n + 1) [0, 1] (by omega) (by omega) rfl ⟨rfl, rfl, rfl, rfl, rfl, trivial⟩ ⟨rfl, rfl, trivial⟩
      exact absurd hc5 (by decide)
    try simp only [cs, ne_eq] at hg5_15
    refine g1 2 false 15 16 4 rfl rfl rfl rfl rfl ?_
    refine s1 16 74 4 rfl rfl rfl rfl rfl rfl trivial ?_
    refine g1 2 false 15 17 5 rfl rfl rfl rfl rfl ?_
    refine s1 17 82 5 rfl rfl rfl rfl rfl rfl trivial ?_
    refine g1 2 false 15 18 6 rfl rfl rfl rfl rfl ?_
    refine s1 18 90 6 rfl rfl rfl rfl rfl rfl (by first | trivial | omega) ?_
    refine g1 2 false 15 19 7 rfl rfl rfl rfl rfl ?_
    refine s1 19 98 7 rfl rfl rfl rfl rfl rfl (by first | trivial | omega) ?_
    refine s1 20 106 8 rfl rfl rfl rfl rfl rfl trivial ?_
    refine e1 114 rfl ?_
    refine keep [2, 3, 4, 5, 6, 7, 8, 20] rfl ?_
    refine q1 rfl (fun hc5 => ?_) (fun hc5 => ?_)
    · skip
      try simp only [cs, ne_eq] at hc5
      refine r0 ?_
      refine s1 21 114 1 rfl rfl rfl rfl rfl rfl trivial ?_
      refine s1 22 122 2 rfl rfl rfl rfl rfl rfl trivial ?_
      refine s0 130 3 rfl rfl rfl rfl rfl (by first | trivial | omega) ?_
      refine e1 138 rfl ?_
      refine tn ?_
      refine W_seq ?_
      refine r1 ?_
      refine s1 23 138 1 rfl rfl rfl rfl rfl rfl trivial ?_
      refine s1 24 146 2 rfl rfl rfl rfl rfl rfl (by first | trivial | omega) ?_
      refine s1 25 154 3 rfl rfl rfl rfl rfl rfl trivial ?_
      refine ask 25 rfl (fun hg7_25 => ?_) (fun hg7_25 => ?_)
      · skip
        try simp only [cs, ne_eq] at hg7_25
        refine g0 2 false 25 26 4 rfl rfl rfl rfl rfl rfl ?_
        refine g0 2 false 25 27 5 rfl rfl rfl rfl rfl rfl ?_
        refine g0 2 false 25 28 6 rfl rfl rfl rfl rfl rfl ?_
        refine g0 2 false 25 29 7 rfl rfl rfl rfl rfl rfl ?_
        refine s1 30 194 8 rfl rfl rfl rfl rfl rfl trivial ?_
        refine e1 202 rfl ?_
        refine keep [2, 3, 5, 6, 7, 8, 30] rfl ?_
        refine q1 rfl (fun hc7 => ?_) (fun hc7 => ?_)
        · skip
          try simp only [cs, ne_eq] at hc7
          refine r0 ?_
          refine s1 31 202 1 rfl rfl rfl rfl rfl rfl trivial ?_
          refine s1 32 210 2 rfl rfl rfl rfl rfl rfl trivial ?_
          refine s0 218 3 rfl rfl rfl rfl rfl (by first | trivial | omega) ?_
          refine e1 226 rfl ?_
          refine tn ?_
          refine r1 ?_
          refine s1 33 226 1 rfl rfl rfl rfl rfl rfl trivial ?_
          refine s1 34 234 2 rfl rfl rfl rfl rfl rfl (by first | trivial | omega) ?_
          refine s1 35 242 3 rfl rfl rfl rfl rfl rfl trivial ?_
          refine sA 36 250 4 rfl rfl rfl rfl rfl rfl rfl rfl rfl (by have := hs (n + 1) (by omega); exact this) ?_
          refine s1 37 258 5 rfl rfl rfl rfl rfl rfl trivial ?_
          refine s0 266 6 rfl rfl rfl rfl rfl (by first | trivial | omega) ?_
          refine e1 274 rfl ?_
          refine keep [2, 3, 6, 7, 8] rfl ?_
          refine r0 ?_
          refine s1 38 274 1 rfl rfl rfl rfl rfl rfl trivial ?_
          refine s1 39 282 2 rfl rfl rfl rfl rfl rfl (by first | trivial | omega) ?_
          refine sA 40 290 3 rfl rfl rfl rfl rfl rfl rfl rfl rfl (by have := fold_c l n; unfold inRange; omega) ?_
          refine s1 41 298 4 rfl rfl rfl rfl rfl rfl trivial ?_
          refine s0 306 5 rfl rfl rfl rfl rfl (by first | trivial | omega) ?_
          refine e1 314 rfl ?_
          refine bn ?_
          refine tn ?_
          refine chval 1 (rollBlk (foldTo l (n + 1))) rfl (blk_eq rfl (by simp only [Int.toNat_natCast] at *; simp only [foldTo, stepR]; split <;> omega) (by simp only [Int.toNat_natCast] at *; simp only [foldTo, stepR]; split <;> omega) rfl) ?_
          refine r0 ?_
          refine sA 42 314 1 rfl rfl rfl rfl rfl rfl rfl rfl rfl (by unfold inRange; omega) ?_
          refine s1 8 322 2 rfl rfl rfl rfl rfl rfl trivial ?_
          refine e1 330 rfl ?_
          refine tn ?_
          exact again (n + 1) [0, 1] (by omega) (by omega) rfl ⟨rfl, rfl, rfl, rfl, rfl, trivial⟩ ⟨rfl, rfl, trivial⟩
        exact absurd hc7 (by decide)
      try simp only [cs, ne_eq] at hg7_25
      refine g1 2 false 25 26 4 rfl rfl rfl rfl rfl ?_
      refine s1 26 162 4 rfl rfl rfl rfl rfl rfl trivial ?_
      refine g1 2 false 25 27 5 rfl rfl rfl rfl rfl ?_
      refine s1 27 170 5 rfl rfl rfl rfl rfl rfl trivial ?_
      refine g1 2 false 25 28 6 rfl rfl rfl rfl rfl ?_
      refine s1 28 178 6 rfl rfl rfl rfl rfl rfl (by first | trivial | omega) ?_
      refine g1 2 false 25 29 7 rfl rfl rfl rfl rfl ?_
      refine s1 29 186 7 rfl rfl rfl rfl rfl rfl (by first | trivial | omega) ?_
      refine s1 30 194 8 rfl rfl rfl rfl rfl rfl trivial ?_
      refine e1 202 rfl ?_
      refine keep [2, 3, 5, 6, 7, 8, 30] rfl ?_
      refine q1 rfl (fun hc7 => ?_) (fun hc7 => ?_)
      · skip
        try simp only [cs, ne_eq] at hc7
        refine r0 ?_
        refine s1 31 202 1 rfl rfl rfl rfl rfl rfl trivial ?_
        refine s1 32 210 2 rfl rfl rfl rfl rfl rfl trivial ?_
        refine s0 218 3 rfl rfl rfl rfl rfl (by first | trivial | omega) ?_
        refine e1 226 rfl ?_
        refine tn ?_
        refine r1 ?_
        refine s1 33 226 1 rfl rfl rfl rfl rfl rfl trivial ?_
        refine s1 34 234 2 rfl rfl rfl rfl rfl rfl (by first | trivial | omega) ?_
        refine s1 35 242 3 rfl rfl rfl rfl rfl rfl trivial ?_
        refine sA 36 250 4 rfl rfl rfl rfl rfl rfl rfl rfl rfl (by have := hs (n + 1) (by omega); exact this) ?_
        refine s1 37 258 5 rfl rfl rfl rfl rfl rfl trivial ?_
        refine s0 266 6 rfl rfl rfl rfl rfl (by first | trivial | omega) ?_
        refine e1 274 rfl ?_
        refine keep [2, 3, 6, 7, 8] rfl ?_
        refine r0 ?_
        refine s1 38 274 1 rfl rfl rfl rfl rfl rfl trivial ?_
        refine s1 39 282 2 rfl rfl rfl rfl rfl rfl (by first | trivial | omega) ?_
        refine sA 40 290 3 rfl rfl rfl rfl rfl rfl rfl rfl rfl (by have := fold_c l n; unfold inRange; omega) ?_
        refine s1 41 298 4 rfl rfl rfl rfl rfl rfl trivial ?_
        refine s0 306 5 rfl rfl rfl rfl rfl (by first | trivial | omega) ?_
        refine e1 314 rfl ?_
        refine bn ?_
        refine tn ?_
        refine chval 1 (rollBlk (foldTo l (n + 1))) rfl (blk_eq rfl (by simp only [Int.toNat_natCast] at *; simp only [foldTo, stepR]; split <;> omega) (by simp only [Int.toNat_natCast] at *; simp only [foldTo, stepR]; split <;> omega) rfl) ?_
        refine r0 ?_
        refine sA 42 314 1 rfl rfl rfl rfl rfl rfl rfl rfl rfl (by unfold inRange; omega) ?_
        refine s1 8 322 2 rfl rfl rfl rfl rfl rfl trivial ?_
        refine e1 330 rfl ?_
        refine tn ?_
        exact again (n + 1) [0, 1] (by omega) (by omega) rfl ⟨rfl, rfl, rfl, rfl, rfl, trivial⟩ ⟨rfl, rfl, trivial⟩
      try simp only [cs, ne_eq] at hc7
      refine W_skip ?_
      refine tn ?_
      refine r1 ?_
      refine s1 33 202 1 rfl rfl rfl rfl rfl rfl trivial ?_
      refine s1 34 210 2 rfl rfl rfl rfl rfl rfl (by first | trivial | omega) ?_
      refine s1 35 218 3 rfl rfl rfl rfl rfl rfl trivial ?_
      refine sA 36 226 4 rfl rfl rfl rfl rfl rfl rfl rfl rfl (by have := hs (n + 1) (by omega); exact this) ?_
      refine s1 37 234 5 rfl rfl rfl rfl rfl rfl trivial ?_
      refine s0 242 6 rfl rfl rfl rfl rfl (by first | trivial | omega) ?_
      refine e1 250 rfl ?_
      refine keep [2, 3, 6, 7, 8] rfl ?_
      refine r0 ?_
      refine s1 38 250 1 rfl rfl rfl rfl rfl rfl trivial ?_
      refine s1 39 258 2 rfl rfl rfl rfl rfl rfl (by first | trivial | omega) ?_
      refine sA 40 266 3 rfl rfl rfl rfl rfl rfl rfl rfl rfl (by have := fold_c l n; unfold inRange; omega) ?_
      refine s1 41 274 4 rfl rfl rfl rfl rfl rfl trivial ?_
      refine s0 282 5 rfl rfl rfl rfl rfl (by first | trivial | omega) ?_
      refine e1 290 rfl ?_
      refine bn ?_
      refine tn ?_
      refine chval 1 (rollBlk (foldTo l (n + 1))) rfl (blk_eq rfl (by simp only [Int.toNat_natCast] at *; simp only [foldTo, stepR]; split <;> omega) (by simp only [Int.toNat_natCast] at *; simp only [foldTo, stepR]; split <;> omega) rfl) ?_
      refine r0 ?_
      refine sA 42 290 1 rfl rfl rfl rfl rfl rfl rfl rfl rfl (by unfold inRange; omega) ?_
      refine s1 8 298 2 rfl rfl rfl rfl rfl rfl trivial ?_
      refine e1 306 rfl ?_
      refine tn ?_
      exact again (n + 1) [0, 1] (by omega) (by omega) rfl ⟨rfl, rfl, rfl, rfl, rfl, trivial⟩ ⟨rfl, rfl, trivial⟩
    try simp only [cs, ne_eq] at hc5
    refine W_skip ?_
    refine tn ?_
    refine W_seq ?_
    refine r1 ?_
    refine s1 23 114 1 rfl rfl rfl rfl rfl rfl trivial ?_
    refine s1 24 122 2 rfl rfl rfl rfl rfl rfl (by first | trivial | omega) ?_
    refine s1 25 130 3 rfl rfl rfl rfl rfl rfl trivial ?_
    refine ask 25 rfl (fun hg7_25 => ?_) (fun hg7_25 => ?_)
    · skip
      try simp only [cs, ne_eq] at hg7_25
      refine g0 2 false 25 26 4 rfl rfl rfl rfl rfl rfl ?_
      refine g0 2 false 25 27 5 rfl rfl rfl rfl rfl rfl ?_
      refine g0 2 false 25 28 6 rfl rfl rfl rfl rfl rfl ?_
      refine g0 2 false 25 29 7 rfl rfl rfl rfl rfl rfl ?_
      refine s1 30 170 8 rfl rfl rfl rfl rfl rfl trivial ?_
      refine e1 178 rfl ?_
      refine keep [2, 3, 5, 6, 7, 8, 30] rfl ?_
      refine q1 rfl (fun hc7 => ?_) (fun hc7 => ?_)
      · skip
        try simp only [cs, ne_eq] at hc7
        refine r0 ?_
        refine s1 31 178 1 rfl rfl rfl rfl rfl rfl trivial ?_
        refine s1 32 186 2 rfl rfl rfl rfl rfl rfl trivial ?_
        refine s0 194 3 rfl rfl rfl rfl rfl (by first | trivial | omega) ?_
        refine e1 202 rfl ?_
        refine tn ?_
        refine r1 ?_
        refine s1 33 202 1 rfl rfl rfl rfl rfl rfl trivial ?_
        refine s1 34 210 2 rfl rfl rfl rfl rfl rfl (by first | trivial | omega) ?_
        refine s1 35 218 3 rfl rfl rfl rfl rfl rfl trivial ?_
        refine sA 36 226 4 rfl rfl rfl rfl rfl rfl rfl rfl rfl (by have := hs (n + 1) (by omega); exact this) ?_
        refine s1 37 234 5 rfl rfl rfl rfl rfl rfl trivial ?_
        refine s0 242 6 rfl rfl rfl rfl rfl (by first | trivial | omega) ?_
        refine e1 250 rfl ?_
        refine keep [2, 3, 6, 7, 8] rfl ?_
        refine r0 ?_
        refine s1 38 250 1 rfl rfl rfl rfl rfl rfl trivial ?_
        refine s1 39 258 2 rfl rfl rfl rfl rfl rfl (by first | trivial | omega) ?_
        refine sA 40 266 3 rfl rfl rfl rfl rfl rfl rfl rfl rfl (by have := fold_c l n; unfold inRange; omega) ?_
        refine s1 41 274 4 rfl rfl rfl rfl rfl rfl trivial ?_
        refine s0 282 5 rfl rfl rfl rfl rfl (by first | trivial | omega) ?_
        refine e1 290 rfl ?_
        refine bn ?_
        refine tn ?_
        refine chval 1 (rollBlk (foldTo l (n + 1))) rfl (blk_eq rfl (by simp only [Int.toNat_natCast] at *; simp only [foldTo, stepR]; split <;> omega) (by simp only [Int.toNat_natCast] at *; simp only [foldTo, stepR]; split <;> omega) rfl) ?_
        refine r0 ?_
        refine sA 42 290 1 rfl rfl rfl rfl rfl rfl rfl rfl rfl (by unfold inRange; omega) ?_
        refine s1 8 298 2 rfl rfl rfl rfl rfl rfl trivial ?_
        refine e1 306 rfl ?_
        refine tn ?_
        exact again (n + 1) [0, 1] (by omega) (by omega) rfl ⟨rfl, rfl, rfl, rfl, rfl, trivial⟩ ⟨rfl, rfl, trivial⟩
      exact absurd hc7 (by decide)
    try simp only [cs, ne_eq] at hg7_25
    refine g1 2 false 25 26 4 rfl rfl rfl rfl rfl ?_
    refine s1 26 138 4 rfl rfl rfl rfl rfl rfl trivial ?_
    refine g1 2 false 25 27 5 rfl rfl rfl rfl rfl ?_
    refine s1 27 146 5 rfl rfl rfl rfl rfl rfl trivial ?_
    refine g1 2 false 25 28 6 rfl rfl rfl rfl rfl ?_
    refine s1 28 154 6 rfl rfl rfl rfl rfl rfl (by first | trivial | omega) ?_
    refine g1 2 false 25 29 7 rfl rfl rfl rfl rfl ?_
    refine s1 29 162 7 rfl rfl rfl rfl rfl rfl (by first | trivial | omega) ?_
    refine s1 30 170 8 rfl rfl rfl rfl rfl rfl trivial ?_
    refine e1 178 rfl ?_
    refine keep [2, 3, 5, 6, 7, 8, 30] rfl ?_
    refine q1 rfl (fun hc7 => ?_) (fun hc7 => ?_)
    · skip
      try simp only [cs, ne_eq] at hc7
      refine r0 ?_
      refine s1 31 178 1 rfl rfl rfl rfl rfl rfl trivial ?_
      refine s1 32 186 2 rfl rfl rfl rfl rfl rfl trivial ?_
      refine s0 194 3 rfl rfl rfl rfl rfl (by first | trivial | omega) ?_
      refine e1 202 rfl ?_
      refine tn ?_
      refine r1 ?_
      refine s1 33 202 1 rfl rfl rfl rfl rfl rfl trivial ?_
      refine s1 34 210 2 rfl rfl rfl rfl rfl rfl (by first | trivial | omega) ?_
      refine s1 35 218 3 rfl rfl rfl rfl rfl rfl trivial ?_
      refine sA 36 226 4 rfl rfl rfl rfl rfl rfl rfl rfl rfl (by have := hs (n + 1) (by omega); exact this) ?_
      refine s1 37 234 5 rfl rfl rfl rfl rfl rfl trivial ?_
      refine s0 242 6 rfl rfl rfl rfl rfl (by first | trivial | omega) ?_
      refine e1 250 rfl ?_
      refine keep [2, 3, 6, 7, 8] rfl ?_
      refine r0 ?_
      refine s1 38 250 1 rfl rfl rfl rfl rfl rfl trivial ?_
      refine s1 39 258 2 rfl rfl rfl rfl rfl rfl (by first | trivial | omega) ?_
      refine sA 40 266 3 rfl rfl rfl rfl rfl rfl rfl rfl rfl (by have := fold_c l n; unfold inRange; omega) ?_
      refine s1 41 274 4 rfl rfl rfl rfl rfl rfl trivial ?_
      refine s0 282 5 rfl rfl rfl rfl rfl (by first | trivial | omega) ?_
      refine e1 290 rfl ?_
      refine bn ?_
      refine tn ?_
      refine chval 1 (rollBlk (foldTo l (n + 1))) rfl (blk_eq rfl (by simp only [Int.toNat_natCast] at *; simp only [foldTo, stepR]; split <;> omega) (by simp only [Int.toNat_natCast] at *; simp only [foldTo, stepR]; split <;> omega) rfl) ?_
      refine r0 ?_
      refine sA 42 290 1 rfl rfl rfl rfl rfl rfl rfl rfl rfl (by unfold inRange; omega) ?_
      refine s1 8 298 2 rfl rfl rfl rfl rfl rfl trivial ?_
      refine e1 306 rfl ?_
      refine tn ?_
      exact again (n + 1) [0, 1] (by omega) (by omega) rfl ⟨rfl, rfl, rfl, rfl, rfl, trivial⟩ ⟨rfl, rfl, trivial⟩
    try simp only [cs, ne_eq] at hc7
    refine W_skip ?_
    refine tn ?_
    refine r1 ?_
    refine s1 33 178 1 rfl rfl rfl rfl rfl rfl trivial ?_
    refine s1 34 186 2 rfl rfl rfl rfl rfl rfl (by first | trivial | omega) ?_
    refine s1 35 194 3 rfl rfl rfl rfl rfl rfl trivial ?_
    refine sA 36 202 4 rfl rfl rfl rfl rfl rfl rfl rfl rfl (by have := hs (n + 1) (by omega); exact this) ?_
    refine s1 37 210 5 rfl rfl rfl rfl rfl rfl trivial ?_
    refine s0 218 6 rfl rfl rfl rfl rfl (by first | trivial | omega) ?_
    refine e1 226 rfl ?_
    refine keep [2, 3, 6, 7, 8] rfl ?_
    refine r0 ?_
    refine s1 38 226 1 rfl rfl rfl rfl rfl rfl trivial ?_
    refine s1 39 234 2 rfl rfl rfl rfl rfl rfl (by first | trivial | omega) ?_
    refine sA 40 242 3 rfl rfl rfl rfl rfl rfl rfl rfl rfl (by have := fold_c l n; unfold inRange; omega) ?_
    refine s1 41 250 4 rfl rfl rfl rfl rfl rfl trivial ?_
    refine s0 258 5 rfl rfl rfl rfl rfl (by first | trivial | omega) ?_
    refine e1 266 rfl ?_
    refine bn ?_
    refine tn ?_
    refine chval 1 (rollBlk (foldTo l (n + 1))) rfl (blk_eq rfl (by simp only [Int.toNat_natCast] at *; simp only [foldTo, stepR]; split <;> omega) (by simp only [Int.toNat_natCast] at *; simp only [foldTo, stepR]; split <;> omega) rfl) ?_
    refine r0 ?_
    refine sA 42 266 1 rfl rfl rfl rfl rfl rfl rfl rfl rfl (by unfold inRange; omega) ?_
    refine s1 8 274 2 rfl rfl rfl rfl rfl rfl trivial ?_
    refine e1 282 rfl ?_
    refine tn ?_
    exact again (n + 1) [0, 1] (by omega) (by omega) rfl ⟨rfl, rfl, rfl, rfl, rfl, trivial⟩ ⟨rfl, rfl, trivial⟩
  try simp only [cs, ne_eq] at hc3
  refine W_exit ?_
  refine tx ?_
  refine tx ?_
  refine bx ?_
  refine tn ?_
  obtain rfl : n = l.length := (by omega)
  refine r1 ?_
  refine s1 43 10 1 rfl rfl rfl rfl rfl rfl (by first | trivial | omega) ?_
  refine s0 18 2 rfl rfl rfl rfl rfl (by first | trivial | omega) ?_
  refine e1 26 rfl ?_
  refine keep [2] rfl ?_
  refine W_ret ?_
  exact outN (rollS (foldTo l l.length)) (π := []) (hout := []) Tryd.results52 rfl (by trivial) rfl rfl rfl trivial ⟨rfl, rfl⟩
theorem refRollOf_ok (l : List Smp) (hin : SmpIn l) (hz : sfault l = 0) : Spec Tryd.prog GC 22 [smpV l] [] (fun r ho => r = SV.tup [rollS (ofR l), SV.i (sfault l)] ∧ ho = []) := by
  have hp := sf_parts hz
  have hv := vals_in hz
  have hvl := vals_len l
  refine start 28 0 Tryd.func22 rfl rfl rfl rfl ?_
  refine r1 ?_
  refine s1 2 0 1 rfl rfl rfl rfl rfl rfl trivial ?_
  refine s1 3 8 2 rfl rfl rfl rfl rfl rfl trivial ?_
  refine e1 16 rfl ?_
  refine keep [0, 2] rfl ?_
  refine W_seq ?_
  refine r1 ?_
  refine s1 8 16 1 rfl rfl rfl rfl rfl rfl trivial ?_
  refine c1 (sfault_any l hin) [] [] 9 24 2 rfl rfl rfl rfl rfl rfl rfl rfl Tryd.func36 rfl rfl rfl rfl trivial rfl rfl ?_
  refine s1 4 32 3 rfl rfl rfl rfl rfl rfl trivial ?_
  refine e1 40 rfl ?_
  refine keep [0, 2, 4] rfl ?_
  refine r1 ?_
  refine s1 10 40 1 rfl rfl rfl rfl rfl rfl trivial ?_
  refine s1 11 48 2 rfl rfl rfl rfl rfl rfl (by first | trivial | omega) ?_
  refine e1 56 rfl ?_
  refine keep [0, 2, 4, 11] rfl ?_
  refine q1 rfl (fun hc2 => ?_) (fun hc2 => ?_)
  · skip
    exact absurd hz (by simpa using hc2)
  try simp only [cs, ne_eq] at hc2
  refine W_skip ?_
  refine tn ?_
  refine r1 ?_
  refine s1 5 56 1 rfl rfl rfl rfl rfl rfl trivial ?_
  refine e1 64 rfl ?_
  refine keep [0, 2, 5] rfl ?_
  refine W_seq ?_
  refine r1 ?_
  refine s1 14 64 1 rfl rfl rfl rfl rfl rfl trivial ?_
  refine s1 15 72 2 rfl rfl rfl rfl rfl rfl (by first | trivial | omega) ?_
  refine s1 16 80 3 rfl rfl rfl rfl rfl rfl trivial ?_
  refine e1 88 rfl ?_
  refine keep [2, 5, 14, 15, 16] rfl ?_
  refine W_block ?_
  refine ghostly 5 3 1 (intF []) rfl ?_
  refine loop (α := Nat) 2 (fun n => [(2, .ptr 0 0 0), (5, .sl 1 0 ((vals l).take (n)).length), (14, smpV l), (15, SV.i l.length), (16, SV.i (n))]) (fun n => [some (rollBlk ⟨0, 0, 0, 0⟩), some (.rows 3 1 ((vals l).take (n)).length (intF ((vals l).take (n))))]) (fun n => (n) ≤ l.length) (fun n => l.length - (n)) (((0) : Nat)) [0, 88] (fun _ => rfl) (show (0) ≤ l.length from (Nat.zero_le _)) rfl ⟨rfl, rfl, rfl, rfl, rfl, trivial⟩ ⟨rfl, rfl, trivial⟩ (fun n hx => ?_)
  show W _ _ _ ⟨tOf [(2, .ptr 0 0 0), (5, .sl 1 0 ((vals l).take n).length), (14, smpV l), (15, SV.i l.length), (16, SV.i n)], hOf [some (rollBlk ⟨0, 0, 0, 0⟩), some (.rows 3 1 ((vals l).take n).length (intF ((vals l).take n)))], 2⟩
  have hx : n ≤ l.length := hx
  refine r1 ?_
  refine s1 17 2 1 rfl rfl rfl rfl rfl rfl (by first | trivial | omega) ?_
  refine e1 10 rfl ?_
  refine keep [2, 5, 14, 15, 16, 17] rfl ?_
  refine W_seq ?_
  refine q1 rfl (fun hc6 => ?_) (fun hc6 => ?_)
  · skip
    try simp only [cs, ne_eq] at hc6
    refine W_skip ?_
    refine tn ?_
    refine W_seq ?_
    refine W_block ?_
    refine r1 ?_
    refine s1 18 10 1 rfl rfl rfl rfl rfl rfl (by first | trivial | omega) ?_
    refine s1 19 18 2 rfl rfl rfl rfl rfl rfl (by first | trivial | omega) ?_
    refine val 19 (smpS (l.getD n default)) rfl (by first | rfl | (simp only [Nat.zero_add, Int.toNat_natCast]; rfl)) ?_
    refine s1 7 26 3 rfl rfl rfl rfl rfl rfl trivial ?_
    refine s0 34 4 rfl rfl rfl rfl rfl (by first | trivial | omega) ?_
    refine e1 42 rfl ?_
    refine keep [2, 5, 7, 14, 15, 16] rfl ?_
    refine r0 ?_
    refine s1 20 42 1 rfl rfl rfl rfl rfl rfl trivial ?_
    refine s1 21 50 2 rfl rfl rfl rfl rfl rfl trivial ?_
    refine s1 22 58 3 rfl rfl rfl rfl rfl rfl (by first | trivial | omega) ?_
    refine s1 23 66 4 rfl rfl rfl rfl rfl rfl trivial ?_
    refine s1 24 74 5 rfl rfl rfl rfl rfl rfl ⟨Nat.le_refl _, trivial, (by rw [List.length_take]; show (min n (vals l).length + 1) * 8 ≤ 140737488355328; omega), (by simp only [maxLen, List.length_take]; omega)⟩ ?_
    refine s1 5 82 6 rfl rfl rfl rfl rfl rfl trivial ?_
    refine e1 90 rfl ?_
    refine bn ?_
    refine tn ?_
    refine rowsc 74 ((vals l).take (n + 1)).length (intF ((vals l).take (n + 1))) rfl (by rw [List.length_take, List.length_take]; omega) (fun i c hi hc => (cat_one (b := (vals l).getD n 0) (by rw [vals_get (by omega)]) i c hi hc).trans (by rw [bit_take (vals l) n (by omega)])) ?_
    refine cval 5 (.sl 74 0 ((vals l).take (n + 1)).length) rfl (by rw [List.length_take, List.length_take, show min n (vals l).length + 1 = min (n + 1) (vals l).length by omega]) ?_
    refine r0 ?_
    refine sA 25 90 1 rfl rfl rfl rfl rfl rfl rfl rfl rfl (by unfold inRange; omega) ?_
    refine s1 16 98 2 rfl rfl rfl rfl rfl rfl trivial ?_
    refine e1 106 rfl ?_
    refine tn ?_
    exact again ((n + 1 : Nat)) [0, 74] (show (n + 1) ≤ l.length from (by omega)) (show l.length - (n + 1) < l.length - n from (by omega)) rfl ⟨rfl, rfl, rfl, rfl, rfl, trivial⟩ ⟨rfl, rfl, trivial⟩
  try simp only [cs, ne_eq] at hc6
  refine W_exit ?_
  refine tx ?_
  refine tx ?_
  refine bx ?_
  refine tn ?_
  obtain rfl : n = l.length := (by omega)
  rw [show (vals l).take l.length = vals l from List.take_of_length_le (by omega)]
  refine freeze 5 1 (vals l).length rfl rfl (Nat.le_refl _) ?_
  refine r1 ?_
  refine s1 26 10 1 rfl rfl rfl rfl rfl rfl trivial ?_
  refine c1 (refOf_any (vals l) (by omega) (fun n hn => by have := fold_s hv n hn; exact ⟨by omega, by omega⟩)) [] [] 27 18 2 rfl rfl rfl rfl rfl rfl rfl rfl Tryd.func52 rfl rfl rfl rfl trivial rfl rfl ?_
  refine s0 26 3 rfl rfl rfl rfl rfl (by first | trivial | omega) ?_
  refine s1 3 34 4 rfl rfl rfl rfl rfl rfl trivial ?_
  refine e1 42 rfl ?_
  refine keep [2, 3] rfl ?_
  refine W_ret ?_
  exact outN (SV.tup [rollS (ofR l), SV.i (sfault l)]) (π := []) (hout := []) Tryd.results22 rfl (by trivial) (by unfold ofR; rw [if_pos hz, hz, hvl]; rfl) rfl rfl trivial ⟨rfl, rfl⟩
theorem refRollOf_bad (l : List Smp) (hin : SmpIn l) (hz : sfault l ≠ 0) : Spec Tryd.prog GC 22 [smpV l] [] (fun r ho => r = SV.tup [rollS (ofR l), SV.i (sfault l)] ∧ ho = []) := by
  refine start 28 0 Tryd.func22 rfl rfl rfl rfl ?_
  refine r1 ?_
  refine s1 2 0 1 rfl rfl rfl rfl rfl rfl trivial ?_
  refine s1 3 8 2 rfl rfl rfl rfl rfl rfl trivial ?_
  refine e1 16 rfl ?_
  refine keep [0, 2] rfl ?_
  refine W_seq ?_
  refine r1 ?_
  refine s1 8 16 1 rfl rfl rfl rfl rfl rfl trivial ?_
  refine c1 (sfault_any l hin) [] [] 9 24 2 rfl rfl rfl rfl rfl rfl rfl rfl Tryd.func36 rfl rfl rfl rfl trivial rfl rfl ?_
  refine s1 4 32 3 rfl rfl rfl rfl rfl rfl trivial ?_
  refine e1 40 rfl ?_
  refine keep [0, 2, 4] rfl ?_
  refine r1 ?_
  refine s1 10 40 1 rfl rfl rfl rfl rfl rfl trivial ?_
  refine s1 11 48 2 rfl rfl rfl rfl rfl rfl (by first | trivial | omega) ?_
  refine e1 56 rfl ?_
  refine keep [0, 2, 4, 11] rfl ?_
  refine q1 rfl (fun hc2 => ?_) (fun hc2 => ?_)
  · skip
    try simp only [cs, ne_eq] at hc2
    refine r1 ?_
    refine s1 12 56 1 rfl rfl rfl rfl rfl rfl trivial ?_
    refine s1 13 64 2 rfl rfl rfl rfl rfl rfl trivial ?_
    refine s0 72 3 rfl rfl rfl rfl rfl (by first | trivial | omega) ?_
    refine s1 3 80 4 rfl rfl rfl rfl rfl rfl trivial ?_
    refine e1 88 rfl ?_
    refine keep [2, 3] rfl ?_
    refine W_ret ?_
    refine tr ?_
    exact outN (SV.tup [rollS (ofR l), SV.i (sfault l)]) (π := []) (hout := []) Tryd.results22 rfl (by trivial) (by unfold ofR; rw [if_neg hz]; rfl) rfl rfl trivial ⟨rfl, rfl⟩
  exact absurd hc2 (by simpa using hz)
theorem refRollOf_any (l : List Smp) (hin : SmpIn l) : Spec Tryd.prog GC 22 [smpV l] [] (fun r ho => r = SV.tup [rollS (ofR l), SV.i (sfault l)] ∧ ho = []) := by
  by_cases hz : sfault l = 0
  · exact refRollOf_ok l hin hz
  · exact refRollOf_bad l hin hz
end Go.Proofs.YtpdojmebloekgaaDoor.Nice.Co
