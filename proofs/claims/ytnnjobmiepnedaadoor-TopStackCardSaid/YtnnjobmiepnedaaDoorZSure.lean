/- lin.Check as the laws of the whole meet it. -/
import Derived.Test.YtnnjobmiepnedaaDoorZMHi
import Derived.Test.YtnnjobmiepnedaaDoorZMLio
namespace Go.Proofs.YtnnjobmiepnedaaDoor.Nice
open Go
set_option linter.unusedVariables false
set_option linter.unusedSimpArgs false
set_option maxRecDepth 100000
set_option maxHeartbeats 4000000

theorem Spec.noG {P : Program} {G : Nat → SV} {f : FuncId} {args : List SV} {hin : List Blk} {post : SV → List (Option Blk) → Prop} (h : Spec P Lin.G0 f args hin post) : Spec P G f args hin post :=
  fun M F ρ vs w hG => h M F ρ vs w (fun _ _ => .any _)
theorem lin_check (k n : Int) (l : List Lin.Act) (hl : l.length ≤ 9223372036854775807) : Spec Tryd.prog GV 21 [SV.i k, SV.i n, Lin.actsV l] [] (fun r ho => r = .tup [SV.b (Lin.mayB k l && Lin.FF l 0 (Lin.obOf k n)), SV.i (if Lin.mayB k l then 0 else 4)] ∧ ho = []) := (Lin.check_any k n l hl).noG
def sAct (v : Int) : Lin.Act := ⟨1, 2, false, v, 0⟩
theorem sure_0 : (Lin.mayB 1 [sAct 0] && Lin.FF [sAct 0] 0 (Lin.obOf 1 0)) = true ∧ Lin.mayB 1 [sAct 0] = true := by decide +kernel
theorem sure_1 : (Lin.mayB 1 [sAct 1] && Lin.FF [sAct 1] 0 (Lin.obOf 1 0)) = false ∧ Lin.mayB 1 [sAct 1] = true := by decide +kernel
/-- What the history holds of a run's first calls. -/
theorem ops_static : ∀ (out : List Ev) (l : List Opn), l.length ≤ (out.foldl opStep l).length ∧ ∀ m, m < l.length → (opAt (out.foldl opStep l) m).th = (opAt l m).th ∧ (opAt (out.foldl opStep l) m).n = (opAt l m).n
  | [], l => ⟨Nat.le_refl _, fun _ _ => ⟨rfl, rfl⟩⟩
  | x :: r, l => by
    rw [List.foldl_cons]
    obtain ⟨h1, h2⟩ := ops_static r (opStep l x)
    have h3 : l.length ≤ (opStep l x).length := by unfold opStep; split <;> simp
    refine ⟨Nat.le_trans h3 h1, fun m hm => ?_⟩
    obtain ⟨g1, g2⟩ := h2 m (Nat.lt_of_lt_of_le hm h3)
    rw [g1, g2]
    unfold opStep
    split
    · rw [opAt_snoc hm]; exact ⟨rfl, rfl⟩
    · rw [opAt_map hm]; unfold opEnd; split <;> exact ⟨rfl, rfl⟩
theorem opsTo_static {R : PRes} {i : Nat} (hi : i ≤ R.out.length) : (opsTo R i).length ≤ (opsTo R R.out.length).length ∧ ∀ m, m < (opsTo R i).length → (opAt (opsTo R R.out.length) m).th = (opAt (opsTo R i) m).th ∧ (opAt (opsTo R R.out.length) m).n = (opAt (opsTo R i) m).n := by
  have h := ops_static (R.out.drop i) (opsTo R i)
  have e : (R.out.drop i).foldl opStep (opsTo R i) = opsTo R R.out.length := by
    unfold opsTo opsOf
    rw [List.take_length, ← List.foldl_append, List.take_append_drop]
  rw [e] at h; exact h
theorem begin_static {R : PRes} {i : Nat} {x : Ev} (hi : i < R.out.length) (hx : R.out.getD i default = x) (hf : x.fin = false) : opsTo R (i + 1) = opsTo R i ++ [⟨x.th, x.call, x.st, -1, []⟩] ∧ (opsTo R i).length < (opsTo R R.out.length).length ∧ (opAt (opsTo R R.out.length) (opsTo R i).length).th = x.th ∧ (opAt (opsTo R R.out.length) (opsTo R i).length).n = x.call := by
  have e : opsTo R (i + 1) = opsTo R i ++ [⟨x.th, x.call, x.st, -1, []⟩] := by rw [opsTo_succ hi hx]; unfold opStep; rw [if_pos hf]
  obtain ⟨h1, h2⟩ := opsTo_static (R := R) (i := i + 1) (by omega)
  have hl : (opsTo R (i + 1)).length = (opsTo R i).length + 1 := by rw [e]; simp
  obtain ⟨h3, h4⟩ := h2 (opsTo R i).length (by omega)
  rw [e, opAt_last] at h3 h4
  exact ⟨e, by omega, h3, h4⟩
theorem end_static {R : PRes} {i : Nat} {x : Ev} (hi : i < R.out.length) (hx : R.out.getD i default = x) (hf : x.fin = true) : (opsTo R (i + 1)).length = (opsTo R i).length := by
  rw [opsTo_succ hi hx]; unfold opStep; rw [if_neg (by rw [hf]; decide), List.length_map]
theorem call_snoc (l : List CallD) (c : CallD) (n : Nat) (hn : n = l.length) (i k : Nat) (hi : i < n + 1) (hk : k < 2) : catR (callF l) n (litR 2 [.val (.int .i64 c.code), .vec 1 c.args.length (intsF c.args)]) i k = callF (l ++ [c]) i k := by
  subst hn
  unfold catR
  by_cases h : i < l.length
  · rw [if_pos h]; unfold callF; rw [List.getD_eq_getElem?_getD, List.getD_eq_getElem?_getD, List.getElem?_append_left h]
  · obtain rfl : i = l.length := by omega
    rw [if_neg h, Nat.sub_self]
    unfold callF
    have : (l ++ [c]).getD l.length default = c := by simp [List.getD]
    rw [this]
    match k, hk with
    | 0, _ | 1, _ => rfl
def thrR (ts : List (List CallD)) : Nat → Nat → D := fun i _ => .vec 2 (ts.getD i []).length (callF (ts.getD i []))
def codR (cs : List (List Ins)) : Nat → Nat → D := fun i _ => .vec 5 (cs.getD i []).length (insF (cs.getD i []))
theorem thr_cells (a b c : List CallD) (i k : Nat) (hi : i < 3) (hk : k < 1) : ([.d (.vec 2 a.length (callF a)), .d (.vec 2 b.length (callF b)), .d (.vec 2 c.length (callF c))] : List SV)[i * 1 + k]? = some (.d (thrR [a, b, c] i k)) := by
  match i, hi, k, hk with
  | 0, _, 0, _ | 1, _, 0, _ | 2, _, 0, _ => rfl
theorem cod_cells (a b : List Ins) (i k : Nat) (hi : i < 2) (hk : k < 1) : ([insV a, insV b] : List SV)[i * 1 + k]? = some (.d (codR [a, b] i k)) := by
  match i, hi, k, hk with
  | 0, _, 0, _ | 1, _, 0, _ => rfl

theorem sure_any  : Spec Tryd.prog GV 19 [] [] (fun r ho => r = SV.b true ∧ ho = []) := by
  refine start 30 0 Tryd.func19 rfl rfl rfl rfl ?_
  refine r1 ?_
  refine s1 0 0 1 rfl rfl rfl rfl rfl rfl trivial ?_
  refine e1 8 rfl ?_
  refine keep [] rfl ?_
  refine r1 ?_
  refine s1 6 8 1 rfl rfl rfl rfl rfl rfl trivial ?_
  refine sLit 5 (Lin.actF [sAct 0]) 7 16 2 rfl rfl rfl rfl rfl rfl rfl rfl rfl (fun i c hi hc => by obtain rfl : i = 0 := (by omega); rcases lt5 hc with rfl | rfl | rfl | rfl | rfl <;> rfl) ?_
  refine c1 (lin_check 1 0 [sAct 0] (by decide)) [] [] 8 24 3 rfl rfl rfl rfl rfl rfl rfl rfl Tryd.func21 rfl rfl rfl rfl trivial rfl rfl ?_
  refine s1 5 32 4 rfl rfl rfl rfl rfl rfl trivial ?_
  refine s1 9 40 5 rfl rfl rfl rfl rfl rfl trivial ?_
  refine val 9 (SV.b true) rfl (by rw [sure_0.1]) ?_
  refine s1 10 48 6 rfl rfl rfl rfl rfl rfl trivial ?_
  refine val 10 (SV.i 0) rfl (by rw [sure_0.2]; rfl) ?_
  refine s1 1 56 7 rfl rfl rfl rfl rfl rfl trivial ?_
  refine s1 2 64 8 rfl rfl rfl rfl rfl rfl trivial ?_
  refine e1 72 rfl ?_
  refine keep [1, 2] rfl ?_
  refine r1 ?_
  refine s1 12 72 1 rfl rfl rfl rfl rfl rfl trivial ?_
  refine sLit 5 (Lin.actF [sAct 1]) 13 80 2 rfl rfl rfl rfl rfl rfl rfl rfl rfl (fun i c hi hc => by obtain rfl : i = 0 := (by omega); rcases lt5 hc with rfl | rfl | rfl | rfl | rfl <;> rfl) ?_
  refine c1 (lin_check 1 0 [sAct 1] (by decide)) [] [] 14 88 3 rfl rfl rfl rfl rfl rfl rfl rfl Tryd.func21 rfl rfl rfl rfl trivial rfl rfl ?_
  refine s1 11 96 4 rfl rfl rfl rfl rfl rfl trivial ?_
  refine s1 15 104 5 rfl rfl rfl rfl rfl rfl trivial ?_
  refine val 15 (SV.b false) rfl (by rw [sure_1.1]) ?_
  refine s1 16 112 6 rfl rfl rfl rfl rfl rfl trivial ?_
  refine val 16 (SV.i 0) rfl (by rw [sure_1.2]; rfl) ?_
  refine s1 3 120 7 rfl rfl rfl rfl rfl rfl trivial ?_
  refine s1 4 128 8 rfl rfl rfl rfl rfl rfl trivial ?_
  refine e1 136 rfl ?_
  refine keep [1, 2, 3, 4] rfl ?_
  refine r1 ?_
  refine s1 17 136 1 rfl rfl rfl rfl rfl rfl trivial ?_
  refine s1 18 144 2 rfl rfl rfl rfl rfl rfl (by first | trivial | omega) ?_
  refine s1 19 152 3 rfl rfl rfl rfl rfl rfl trivial ?_
  refine ask 19 rfl (fun hg3_19 => ?_) (fun hg3_19 => ?_)
  · skip
    try simp only [cs, ne_eq] at hg3_19
    refine g1 2 true 19 20 4 rfl rfl rfl rfl rfl ?_
    refine s1 20 160 4 rfl rfl rfl rfl rfl rfl trivial ?_
    refine g1 2 true 19 21 5 rfl rfl rfl rfl rfl ?_
    refine s1 21 168 5 rfl rfl rfl rfl rfl rfl (by first | trivial | omega) ?_
    refine s1 22 176 6 rfl rfl rfl rfl rfl rfl trivial ?_
    refine s1 23 184 7 rfl rfl rfl rfl rfl rfl trivial ?_
    refine ask 23 rfl (fun hg3_23 => ?_) (fun hg3_23 => ?_)
    · skip
      try simp only [cs, ne_eq] at hg3_23
      refine g1 6 true 23 24 8 rfl rfl rfl rfl rfl ?_
      refine s1 24 192 8 rfl rfl rfl rfl rfl rfl trivial ?_
      refine s1 25 200 9 rfl rfl rfl rfl rfl rfl trivial ?_
      refine s1 26 208 10 rfl rfl rfl rfl rfl rfl trivial ?_
      refine ask 26 rfl (fun hg3_26 => ?_) (fun hg3_26 => ?_)
      · skip
        try simp only [cs, ne_eq] at hg3_26
        refine g1 9 true 26 27 11 rfl rfl rfl rfl rfl ?_
        refine s1 27 216 11 rfl rfl rfl rfl rfl rfl trivial ?_
        refine g1 9 true 26 28 12 rfl rfl rfl rfl rfl ?_
        refine s1 28 224 12 rfl rfl rfl rfl rfl rfl trivial ?_
        refine s1 29 232 13 rfl rfl rfl rfl rfl rfl trivial ?_
        refine s1 0 240 14 rfl rfl rfl rfl rfl rfl trivial ?_
        refine e1 248 rfl ?_
        refine keep [0] rfl ?_
        refine W_ret ?_
        exact out1 0 (SV.b true) (π := []) (hout := []) Tryd.results19 rfl rfl rfl rfl trivial ⟨rfl, rfl⟩
      try simp only [cs, ne_eq] at hg3_26
      exact absurd hg3_26 (by decide)
    try simp only [cs, ne_eq] at hg3_23
    exact absurd hg3_23 (by decide)
  try simp only [cs, ne_eq] at hg3_19
  exact absurd hg3_19 (by decide)

end Go.Proofs.YtnnjobmiepnedaaDoor.Nice
