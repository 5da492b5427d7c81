/- Codes that may be, as the document says. -/
import Derived.Test.YtghnikahahbleaaDoorAsm
namespace Go.Proofs.YtghnikahahbleaaDoor.Nice
open Go
set_option linter.unusedVariables false
set_option linter.unusedSimpArgs false
set_option maxRecDepth 100000
set_option maxHeartbeats 4000000
def shL : List (List UInt8) := [[], [114, 110, 45, 45], [114, 114, 45, 45], [114, 114, 114, 45], [114, 114, 114, 45], [114, 114, 114, 45], [114, 114, 114, 45], [114, 114, 114, 45], [114, 114, 114, 45], [114, 114, 114, 45], [112, 45, 45, 45], [114, 112, 45, 45], [114, 112, 45, 45], [114, 114, 110, 45], [114, 114, 110, 45], [114, 114, 110, 114], [114, 45, 45, 45], [45, 45, 45, 45]]
def shStr (i : Nat) : ByteArray := ⟨(shL.getD i []).toArray⟩
def sgn (k : Int) (i : Nat) : Int := ((shStr k.toNat).data.getD i 0).toNat
def fitsB (sg n sz : Int) : Bool := if sg = 114 then decide (0 ≤ n) && decide (n < 24) else if sg = 112 then decide (0 ≤ n) && decide (n ≤ sz) else if sg = 45 then decide (n = 0) else true
def argOf (o : Ins) (i : Nat) : Int := [o.a, o.b, o.c, o.d].getD i 0
def okB (sz : Int) (o : Ins) : Bool := (decide (1 ≤ o.k) && decide (o.k ≤ 17)) && ((fitsB (sgn o.k 0) o.a sz && fitsB (sgn o.k 1) o.b sz) && (fitsB (sgn o.k 2) o.c sz && fitsB (sgn o.k 3) o.d sz))
def mayB (l : List Ins) : Bool := decide (l.length ≤ 200) && l.all (okB l.length)
def regB (n : Int) : Bool := decide (0 ≤ n) && decide (n < 24)
theorem getD_lt {l : List Ins} {k : Nat} (h : k < l.length) : l.getD k default = l[k] := by simp [List.getD, List.getElem?_eq_getElem h]
theorem all_not {l : List Ins} {p : Ins → Bool} {n : Nat} (h : n < l.length) (hp : p (l.getD n default) = false) : l.all p = false := by
  rw [getD_lt h] at hp
  rw [List.all_eq_false]; exact ⟨_, List.getElem_mem h, by rw [hp]; decide⟩
theorem all_yes {l : List Ins} {p : Ins → Bool} (hn : ∀ j, j < l.length → p (l.getD j default) = true) : l.all p = true := by
  rw [List.all_eq_true]
  intro x hx
  obtain ⟨j, hj, rfl⟩ := List.mem_iff_getElem.1 hx
  have := hn j hj; rw [getD_lt hj] at this; exact this
theorem ok_of {sz : Int} {o : Ins} (h1 : 1 ≤ o.k) (h2 : o.k ≤ 17) (h : ∀ j, j < 4 → fitsB (sgn o.k j) (argOf o j) sz = true) : okB sz o = true := by
  unfold okB
  rw [show fitsB (sgn o.k 0) o.a sz = true from h 0 (by omega), show fitsB (sgn o.k 1) o.b sz = true from h 1 (by omega), show fitsB (sgn o.k 2) o.c sz = true from h 2 (by omega), show fitsB (sgn o.k 3) o.d sz = true from h 3 (by omega)]
  simp; omega
theorem ok_not {sz : Int} {o : Ins} {j : Nat} (hj : j < 4) (h : fitsB (sgn o.k j) (argOf o j) sz = false) : okB sz o = false := by
  unfold okB
  match j, hj with
  | 0, _ => rw [show fitsB (sgn o.k 0) o.a sz = false from h]; simp
  | 1, _ => rw [show fitsB (sgn o.k 1) o.b sz = false from h]; simp
  | 2, _ => rw [show fitsB (sgn o.k 2) o.c sz = false from h]; simp
  | 3, _ => rw [show fitsB (sgn o.k 3) o.d sz = false from h]; simp
theorem ok_kind {sz : Int} {o : Ins} (h : o.k < 1 ∨ 17 < o.k) : okB sz o = false := by
  unfold okB
  have : (decide (1 ≤ o.k) && decide (o.k ≤ 17)) = false := by
    rw [Bool.and_eq_false_iff, decide_eq_false_iff_not, decide_eq_false_iff_not]; omega
  rw [this]; rfl
theorem sz_of {k : Int} (h1 : 1 ≤ k) (h2 : k ≤ 17) : (shStr k.toNat).size = 4 := by
  obtain ⟨n, rfl⟩ : ∃ n : Nat, k = n := ⟨k.toNat, by omega⟩
  have hn : 1 ≤ n ∧ n ≤ 17 := by omega
  have key : ∀ m, m < 18 → 1 ≤ m → (shStr m).size = 4 := by decide
  exact key n (by omega) hn.1

theorem isreg_any (n : Int) : Spec Tryd.prog GV 29 [SV.i n] [] (fun r ho => r = SV.b (regB n) ∧ ho = []) := by
  refine start 9 0 Tryd.func29 rfl rfl rfl rfl ?_
  refine r1 ?_
  refine s1 2 0 1 rfl rfl rfl rfl rfl rfl trivial ?_
  refine e1 8 rfl ?_
  refine keep [0] rfl ?_
  refine r1 ?_
  refine s1 3 8 1 rfl rfl rfl rfl rfl rfl trivial ?_
  refine s1 4 16 2 rfl rfl rfl rfl rfl rfl (by first | trivial | omega | (simp only [List.length_map, List.length_append, List.length_cons, List.length_nil] at *; omega)) ?_
  refine s1 5 24 3 rfl rfl rfl rfl rfl rfl trivial ?_
  refine ask 5 rfl (fun hg1_5 => ?_) (fun hg1_5 => ?_)
  · skip
    try simp only [decide_eq_true_eq, decide_eq_false_iff_not, Bool.not_eq_true', Bool.not_eq_false', beq_iff_eq, bne_iff_ne, beq_eq_false_iff_ne, Bool.and_eq_true, Bool.or_eq_true, Bool.and_eq_false_iff, Bool.or_eq_false_iff, ge_iff_le, gt_iff_lt, Int.not_lt, Int.not_le, ne_eq, Decidable.not_not, bne_eq_false_iff_eq] at hg1_5
    refine g1 2 true 5 6 4 rfl rfl rfl rfl rfl ?_
    refine s1 6 32 4 rfl rfl rfl rfl rfl rfl trivial ?_
    refine g1 2 true 5 7 5 rfl rfl rfl rfl rfl ?_
    refine s1 7 40 5 rfl rfl rfl rfl rfl rfl (by first | trivial | omega | (simp only [List.length_map, List.length_append, List.length_cons, List.length_nil] at *; omega)) ?_
    refine s1 8 48 6 rfl rfl rfl rfl rfl rfl trivial ?_
    refine s1 2 56 7 rfl rfl rfl rfl rfl rfl trivial ?_
    refine e1 64 rfl ?_
    refine keep [2] rfl ?_
    refine W_ret ?_
    exact out1 2 (SV.b (regB n)) (π := []) (hout := []) Tryd.results29 rfl (by show SV.b _ = SV.b _; refine congrArg SV.b (Bool.eq_iff_iff.2 ?_); simp [regB] at *; try omega) rfl rfl trivial ⟨rfl, rfl⟩
  · skip
    try simp only [decide_eq_true_eq, decide_eq_false_iff_not, Bool.not_eq_true', Bool.not_eq_false', beq_iff_eq, bne_iff_ne, beq_eq_false_iff_ne, Bool.and_eq_true, Bool.or_eq_true, Bool.and_eq_false_iff, Bool.or_eq_false_iff, ge_iff_le, gt_iff_lt, Int.not_lt, Int.not_le, ne_eq, Decidable.not_not, bne_eq_false_iff_eq] at hg1_5
    refine g0 2 true 5 6 4 rfl rfl rfl rfl rfl rfl ?_
    refine g0 2 true 5 7 5 rfl rfl rfl rfl rfl rfl ?_
    refine s1 8 48 6 rfl rfl rfl rfl rfl rfl trivial ?_
    refine s1 2 56 7 rfl rfl rfl rfl rfl rfl trivial ?_
    refine e1 64 rfl ?_
    refine keep [2] rfl ?_
    refine W_ret ?_
    exact out1 2 (SV.b (regB n)) (π := []) (hout := []) Tryd.results29 rfl (by show SV.b _ = SV.b _; refine congrArg SV.b (Bool.eq_iff_iff.2 ?_); simp [regB] at *; try omega) rfl rfl trivial ⟨rfl, rfl⟩

theorem place_any (n : Int) (l : List Ins) : Spec Tryd.prog GV 28 [SV.i n, .ptr 0 0 0] [.cells 26 1 [insV l]] (fun r ho => r = SV.b (decide (0 ≤ n) && decide (n ≤ l.length)) ∧ ho = [some (.cells 26 1 [insV l])]) := by
  refine start 12 1 Tryd.func28 rfl rfl rfl rfl ?_
  refine r1 ?_
  refine s1 3 1 1 rfl rfl rfl rfl rfl rfl trivial ?_
  refine e1 9 rfl ?_
  refine keep [0, 1] rfl ?_
  refine r1 ?_
  refine s1 4 9 1 rfl rfl rfl rfl rfl rfl trivial ?_
  refine s1 5 17 2 rfl rfl rfl rfl rfl rfl (by first | trivial | omega | (simp only [List.length_map, List.length_append, List.length_cons, List.length_nil] at *; omega)) ?_
  refine s1 6 25 3 rfl rfl rfl rfl rfl rfl trivial ?_
  refine ask 6 rfl (fun hg1_6 => ?_) (fun hg1_6 => ?_)
  · skip
    try simp only [decide_eq_true_eq, decide_eq_false_iff_not, Bool.not_eq_true', Bool.not_eq_false', beq_iff_eq, bne_iff_ne, beq_eq_false_iff_ne, Bool.and_eq_true, Bool.or_eq_true, Bool.and_eq_false_iff, Bool.or_eq_false_iff, ge_iff_le, gt_iff_lt, Int.not_lt, Int.not_le, ne_eq, Decidable.not_not, bne_eq_false_iff_eq] at hg1_6
    refine g1 2 true 6 7 4 rfl rfl rfl rfl rfl ?_
    refine s1 7 33 4 rfl rfl rfl rfl rfl rfl trivial ?_
    refine g1 2 true 6 8 5 rfl rfl rfl rfl rfl ?_
    refine s1 8 41 5 rfl rfl rfl rfl rfl rfl (by first | trivial | omega | (simp only [List.length_map, List.length_append, List.length_cons, List.length_nil] at *; omega)) ?_
    refine g1 2 true 6 9 6 rfl rfl rfl rfl rfl ?_
    refine s1 9 49 6 rfl rfl rfl rfl rfl rfl (by first | trivial | omega | (simp only [List.length_map, List.length_append, List.length_cons, List.length_nil] at *; omega)) ?_
    refine g1 2 true 6 10 7 rfl rfl rfl rfl rfl ?_
    refine s1 10 57 7 rfl rfl rfl rfl rfl rfl (by first | trivial | omega | (simp only [List.length_map, List.length_append, List.length_cons, List.length_nil] at *; omega)) ?_
    refine s1 11 65 8 rfl rfl rfl rfl rfl rfl trivial ?_
    refine s1 3 73 9 rfl rfl rfl rfl rfl rfl trivial ?_
    refine e1 81 rfl ?_
    refine keep [3] rfl ?_
    refine W_ret ?_
    exact out1 3 (SV.b (decide (0 ≤ n) && decide (n ≤ l.length))) (π := [0]) (hout := [some (.cells 26 1 [insV l])]) Tryd.results28 rfl (by show SV.b _ = SV.b _; refine congrArg SV.b (Bool.eq_iff_iff.2 ?_); simp at *; try omega) rfl rfl ⟨rfl, trivial⟩ ⟨rfl, rfl⟩
  · skip
    try simp only [decide_eq_true_eq, decide_eq_false_iff_not, Bool.not_eq_true', Bool.not_eq_false', beq_iff_eq, bne_iff_ne, beq_eq_false_iff_ne, Bool.and_eq_true, Bool.or_eq_true, Bool.and_eq_false_iff, Bool.or_eq_false_iff, ge_iff_le, gt_iff_lt, Int.not_lt, Int.not_le, ne_eq, Decidable.not_not, bne_eq_false_iff_eq] at hg1_6
    refine g0 2 true 6 7 4 rfl rfl rfl rfl rfl rfl ?_
    refine g0 2 true 6 8 5 rfl rfl rfl rfl rfl rfl ?_
    refine g0 2 true 6 9 6 rfl rfl rfl rfl rfl rfl ?_
    refine g0 2 true 6 10 7 rfl rfl rfl rfl rfl rfl ?_
    refine s1 11 65 8 rfl rfl rfl rfl rfl rfl trivial ?_
    refine s1 3 73 9 rfl rfl rfl rfl rfl rfl trivial ?_
    refine e1 81 rfl ?_
    refine keep [3] rfl ?_
    refine W_ret ?_
    exact out1 3 (SV.b (decide (0 ≤ n) && decide (n ≤ l.length))) (π := [0]) (hout := [some (.cells 26 1 [insV l])]) Tryd.results28 rfl (by show SV.b _ = SV.b _; refine congrArg SV.b (Bool.eq_iff_iff.2 ?_); simp at *; try omega) rfl rfl ⟨rfl, trivial⟩ ⟨rfl, rfl⟩

theorem ok_1 {sz : Int} {o : Ins} (h : o.k = 1) : okB sz o = true ↔ (0 ≤ o.a ∧ o.a < 24) ∧ o.c = 0 ∧ o.d = 0 := by
  unfold okB
  rw [h]
  simp only [show sgn 1 0 = 114 from rfl, show sgn 1 1 = 110 from rfl, show sgn 1 2 = 45 from rfl, show sgn 1 3 = 45 from rfl]
  simp [fitsB]
  try omega

theorem ok_2 {sz : Int} {o : Ins} (h : o.k = 2) : okB sz o = true ↔ (0 ≤ o.a ∧ o.a < 24) ∧ (0 ≤ o.b ∧ o.b < 24) ∧ o.c = 0 ∧ o.d = 0 := by
  unfold okB
  rw [h]
  simp only [show sgn 2 0 = 114 from rfl, show sgn 2 1 = 114 from rfl, show sgn 2 2 = 45 from rfl, show sgn 2 3 = 45 from rfl]
  simp [fitsB]
  try omega

theorem ok_3 {sz : Int} {o : Ins} (h : o.k = 3) : okB sz o = true ↔ (0 ≤ o.a ∧ o.a < 24) ∧ (0 ≤ o.b ∧ o.b < 24) ∧ (0 ≤ o.c ∧ o.c < 24) ∧ o.d = 0 := by
  unfold okB
  rw [h]
  simp only [show sgn 3 0 = 114 from rfl, show sgn 3 1 = 114 from rfl, show sgn 3 2 = 114 from rfl, show sgn 3 3 = 45 from rfl]
  simp [fitsB]
  try omega

theorem ok_4 {sz : Int} {o : Ins} (h : o.k = 4) : okB sz o = true ↔ (0 ≤ o.a ∧ o.a < 24) ∧ (0 ≤ o.b ∧ o.b < 24) ∧ (0 ≤ o.c ∧ o.c < 24) ∧ o.d = 0 := by
  unfold okB
  rw [h]
  simp only [show sgn 4 0 = 114 from rfl, show sgn 4 1 = 114 from rfl, show sgn 4 2 = 114 from rfl, show sgn 4 3 = 45 from rfl]
  simp [fitsB]
  try omega

theorem ok_5 {sz : Int} {o : Ins} (h : o.k = 5) : okB sz o = true ↔ (0 ≤ o.a ∧ o.a < 24) ∧ (0 ≤ o.b ∧ o.b < 24) ∧ (0 ≤ o.c ∧ o.c < 24) ∧ o.d = 0 := by
  unfold okB
  rw [h]
  simp only [show sgn 5 0 = 114 from rfl, show sgn 5 1 = 114 from rfl, show sgn 5 2 = 114 from rfl, show sgn 5 3 = 45 from rfl]
  simp [fitsB]
  try omega

theorem ok_6 {sz : Int} {o : Ins} (h : o.k = 6) : okB sz o = true ↔ (0 ≤ o.a ∧ o.a < 24) ∧ (0 ≤ o.b ∧ o.b < 24) ∧ (0 ≤ o.c ∧ o.c < 24) ∧ o.d = 0 := by
  unfold okB
  rw [h]
  simp only [show sgn 6 0 = 114 from rfl, show sgn 6 1 = 114 from rfl, show sgn 6 2 = 114 from rfl, show sgn 6 3 = 45 from rfl]
  simp [fitsB]
  try omega

theorem ok_7 {sz : Int} {o : Ins} (h : o.k = 7) : okB sz o = true ↔ (0 ≤ o.a ∧ o.a < 24) ∧ (0 ≤ o.b ∧ o.b < 24) ∧ (0 ≤ o.c ∧ o.c < 24) ∧ o.d = 0 := by
  unfold okB
  rw [h]
  simp only [show sgn 7 0 = 114 from rfl, show sgn 7 1 = 114 from rfl, show sgn 7 2 = 114 from rfl, show sgn 7 3 = 45 from rfl]
  simp [fitsB]
  try omega

theorem ok_8 {sz : Int} {o : Ins} (h : o.k = 8) : okB sz o = true ↔ (0 ≤ o.a ∧ o.a < 24) ∧ (0 ≤ o.b ∧ o.b < 24) ∧ (0 ≤ o.c ∧ o.c < 24) ∧ o.d = 0 := by
  unfold okB
  rw [h]
  simp only [show sgn 8 0 = 114 from rfl, show sgn 8 1 = 114 from rfl, show sgn 8 2 = 114 from rfl, show sgn 8 3 = 45 from rfl]
  simp [fitsB]
  try omega

theorem ok_9 {sz : Int} {o : Ins} (h : o.k = 9) : okB sz o = true ↔ (0 ≤ o.a ∧ o.a < 24) ∧ (0 ≤ o.b ∧ o.b < 24) ∧ (0 ≤ o.c ∧ o.c < 24) ∧ o.d = 0 := by
  unfold okB
  rw [h]
  simp only [show sgn 9 0 = 114 from rfl, show sgn 9 1 = 114 from rfl, show sgn 9 2 = 114 from rfl, show sgn 9 3 = 45 from rfl]
  simp [fitsB]
  try omega

theorem ok_10 {sz : Int} {o : Ins} (h : o.k = 10) : okB sz o = true ↔ (0 ≤ o.a ∧ o.a ≤ sz) ∧ o.b = 0 ∧ o.c = 0 ∧ o.d = 0 := by
  unfold okB
  rw [h]
  simp only [show sgn 10 0 = 112 from rfl, show sgn 10 1 = 45 from rfl, show sgn 10 2 = 45 from rfl, show sgn 10 3 = 45 from rfl]
  simp [fitsB]
  try omega

theorem ok_11 {sz : Int} {o : Ins} (h : o.k = 11) : okB sz o = true ↔ (0 ≤ o.a ∧ o.a < 24) ∧ (0 ≤ o.b ∧ o.b ≤ sz) ∧ o.c = 0 ∧ o.d = 0 := by
  unfold okB
  rw [h]
  simp only [show sgn 11 0 = 114 from rfl, show sgn 11 1 = 112 from rfl, show sgn 11 2 = 45 from rfl, show sgn 11 3 = 45 from rfl]
  simp [fitsB]
  try omega

theorem ok_12 {sz : Int} {o : Ins} (h : o.k = 12) : okB sz o = true ↔ (0 ≤ o.a ∧ o.a < 24) ∧ (0 ≤ o.b ∧ o.b ≤ sz) ∧ o.c = 0 ∧ o.d = 0 := by
  unfold okB
  rw [h]
  simp only [show sgn 12 0 = 114 from rfl, show sgn 12 1 = 112 from rfl, show sgn 12 2 = 45 from rfl, show sgn 12 3 = 45 from rfl]
  simp [fitsB]
  try omega

theorem ok_13 {sz : Int} {o : Ins} (h : o.k = 13) : okB sz o = true ↔ (0 ≤ o.a ∧ o.a < 24) ∧ (0 ≤ o.b ∧ o.b < 24) ∧ o.d = 0 := by
  unfold okB
  rw [h]
  simp only [show sgn 13 0 = 114 from rfl, show sgn 13 1 = 114 from rfl, show sgn 13 2 = 110 from rfl, show sgn 13 3 = 45 from rfl]
  simp [fitsB]
  try omega

theorem ok_14 {sz : Int} {o : Ins} (h : o.k = 14) : okB sz o = true ↔ (0 ≤ o.a ∧ o.a < 24) ∧ (0 ≤ o.b ∧ o.b < 24) ∧ o.d = 0 := by
  unfold okB
  rw [h]
  simp only [show sgn 14 0 = 114 from rfl, show sgn 14 1 = 114 from rfl, show sgn 14 2 = 110 from rfl, show sgn 14 3 = 45 from rfl]
  simp [fitsB]
  try omega

theorem ok_15 {sz : Int} {o : Ins} (h : o.k = 15) : okB sz o = true ↔ (0 ≤ o.a ∧ o.a < 24) ∧ (0 ≤ o.b ∧ o.b < 24) ∧ (0 ≤ o.d ∧ o.d < 24) := by
  unfold okB
  rw [h]
  simp only [show sgn 15 0 = 114 from rfl, show sgn 15 1 = 114 from rfl, show sgn 15 2 = 110 from rfl, show sgn 15 3 = 114 from rfl]
  simp [fitsB]
  try omega

theorem ok_16 {sz : Int} {o : Ins} (h : o.k = 16) : okB sz o = true ↔ (0 ≤ o.a ∧ o.a < 24) ∧ o.b = 0 ∧ o.c = 0 ∧ o.d = 0 := by
  unfold okB
  rw [h]
  simp only [show sgn 16 0 = 114 from rfl, show sgn 16 1 = 45 from rfl, show sgn 16 2 = 45 from rfl, show sgn 16 3 = 45 from rfl]
  simp [fitsB]
  try omega

theorem ok_17 {sz : Int} {o : Ins} (h : o.k = 17) : okB sz o = true ↔ o.a = 0 ∧ o.b = 0 ∧ o.c = 0 ∧ o.d = 0 := by
  unfold okB
  rw [h]
  simp only [show sgn 17 0 = 45 from rfl, show sgn 17 1 = 45 from rfl, show sgn 17 2 = 45 from rfl, show sgn 17 3 = 45 from rfl]
  simp [fitsB]
  try omega

end Go.Proofs.YtghnikahahbleaaDoor.Nice
