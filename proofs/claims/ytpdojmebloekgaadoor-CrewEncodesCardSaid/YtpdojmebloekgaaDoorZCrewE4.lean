/- crew.Encode, the document's answer, and the law. -/
import Derived.Test.YtpdojmebloekgaaDoorZMCr
import Derived.Test.YtpdojmebloekgaaDoorZChunkRef
namespace Go.Proofs.YtpdojmebloekgaaDoor.Nice.Co
open Go
set_option linter.unusedVariables false
set_option linter.unusedSimpArgs false
set_option maxRecDepth 100000
theorem free_fn {f : FuncId} : Free (.fn f []) := fun M ρ ρ' u h => by
  cases h with
  | fn _ _ vs g hs hg hr => exact .fn f [] vs g hs hg fun i x hx => by simp at hx
theorem ans_form (L : List (List Smp)) : (∃ c, encAns L = .tup [.d .nils, SV.i c]) ∨ ∃ n f c, encAns L = .tup [.d (.vec 1 n f), SV.i c] := by
  unfold encAns
  split
  · exact .inl ⟨_, rfl⟩
  · split
    · exact .inr ⟨_, _, _, rfl⟩
    · exact .inl ⟨_, rfl⟩
theorem data_all {l : List SV} (h : l.all SV.dataB = true) : ∀ y, y ∈ l → Free y := fun y hy => free_data (List.all_eq_true.1 h y hy)
section
variable {Pst : Value → World → Prop}
theorem each13_any (L : List (List Smp)) (hin : ∀ l, l ∈ L → SmpIn l) (Rd : Blks) : SpecX Tryd.prog GC 13 [listE L, .fn 14 []] (trPre Tryd.prog Pst Rd .p0) (postE L Pst) := by
  refine fnx_intro Tryd.func13 rfl rfl ?_
  by_cases hL : L.length ≤ 100
  · exact each13_a L hL hin Rd fun Wg Ch Rd' π σ hs => each13_b L hL hin Wg Ch Rd' hs
  · refine x1 ?_
    refine s1 3 0 1 rfl rfl rfl rfl rfl rfl trivial ?_
    refine s1 4 8 2 rfl rfl rfl rfl rfl rfl trivial ?_
    refine s1 5 16 3 rfl rfl rfl rfl rfl rfl trivial ?_
    refine e1 24 rfl ?_
    refine WX_seq ?_
    refine x1 ?_
    refine s1 15 24 1 rfl rfl rfl rfl rfl rfl trivial ?_
    refine s1 16 32 2 rfl rfl rfl rfl rfl rfl trivial ?_
    refine s1 17 40 3 rfl rfl rfl rfl rfl rfl trivial ?_
    refine e1 48 rfl ?_
    refine WX_cond rfl (fun hc => ?_) fun hc => ?_
    · refine x1 ?_
      refine s1 4 48 1 rfl rfl rfl rfl rfl rfl trivial ?_
      refine s1 5 56 2 rfl rfl rfl rfl rfl rfl trivial ?_
      refine e1 64 rfl ?_
      refine WX_ret ?_
      refine xtr ?_
      exact outX2 4 5 Tryd.results13 rfl rfl (free_data rfl) (free_data rfl) ⟨(ans_size (by omega)).symm, ends_pre⟩
    · exfalso
      simp at hc; omega
theorem encode_any (L : List (List Smp)) (hin : ∀ l, l ∈ L → SmpIn l) (Rd : Blks) : SpecX Tryd.prog GC 6 [listE L] (trPre Tryd.prog Pst Rd .p0) (postE L Pst) := by
  refine fnx_intro Tryd.func6 rfl rfl ?_
  refine x1 ?_
  refine s1 2 0 1 rfl rfl rfl rfl rfl rfl trivial ?_
  refine s1 3 8 2 rfl rfl rfl rfl rfl rfl trivial ?_
  refine e1 16 rfl ?_
  refine xX1 ?_
  refine RX_ops PZ.up [_] 0 _ (fun j hj => by simp at hj; subst hj; rfl) ?_
  refine s1 4 16 1 rfl rfl rfl rfl rfl rfl trivial ?_
  refine e1 64 rfl ?_
  refine RX_call PZ.up rfl rfl rfl rfl Tryd.func13 rfl (each13_any L hin Rd) rfl ?_ (fun n => rfl) rfl ?_
  · intro y hy
    simp at hy
    rcases hy with rfl | rfl
    · exact free_data rfl
    · exact free_fn
  rintro K' r ⟨rfl, hE⟩
  rcases ans_form L with ⟨c, e⟩ | ⟨n, f, c, e⟩
  · skip
    have hp : postE L Pst K' _ := ⟨e.symm, hE⟩
    rw [e]
    refine RX_ops PZ.up [_, _, _, _] 2 _ (fun j hj => by simp at hj; match j, hj with | 0, _ => rfl | 1, _ => rfl | 2, _ => rfl | 3, _ => rfl) ?_
    refine s1 6 32 3 rfl rfl rfl rfl rfl rfl trivial ?_
    refine s1 7 40 4 rfl rfl rfl rfl rfl rfl trivial ?_
    refine s1 2 48 5 rfl rfl rfl rfl rfl rfl trivial ?_
    refine s1 3 56 6 rfl rfl rfl rfl rfl rfl trivial ?_
    refine e1 64 rfl ?_
    refine RX_end rfl rfl ?_
    refine xtn ?_
    refine WX_ret ?_
    exact outX2 2 3 Tryd.results6 rfl rfl (free_data rfl) (free_data rfl) hp
  · skip
    have hp : postE L Pst K' _ := ⟨e.symm, hE⟩
    rw [e]
    refine RX_ops PZ.up [_, _, _, _] 2 _ (fun j hj => by simp at hj; match j, hj with | 0, _ => rfl | 1, _ => rfl | 2, _ => rfl | 3, _ => rfl) ?_
    refine s1 6 32 3 rfl rfl rfl rfl rfl rfl trivial ?_
    refine s1 7 40 4 rfl rfl rfl rfl rfl rfl trivial ?_
    refine s1 2 48 5 rfl rfl rfl rfl rfl rfl trivial ?_
    refine s1 3 56 6 rfl rfl rfl rfl rfl rfl trivial ?_
    refine e1 64 rfl ?_
    refine RX_end rfl rfl ?_
    refine xtn ?_
    refine WX_ret ?_
    exact outX2 2 3 Tryd.results6 rfl rfl (free_data rfl) (free_data rfl) hp
end
/-! ### the document -/
theorem faults_none {L : List (List Smp)} (h : firstE L = 0) {i : Nat} (hi : i < L.length) : sfault (L.getD i []) = 0 := by
  refine Classical.byContradiction fun hc => ?_
  by_cases h0 : faultsTo L i = 0
  · exact hc (by rw [← faultsTo_at hi h0 hc]; exact h)
  · exact h0 (by rw [← faultsTo_stay (Nat.le_of_lt hi) h0]; exact h)
theorem mem_at {α : Type} {L : List α} {i : Nat} (d : α) (hi : i < L.length) : L.getD i d ∈ L := by
  rw [List.getD_eq_getElem?_getD, List.getElem?_eq_getElem hi]
  exact List.getElem_mem hi
def okE (L : List (List Smp)) (i : Nat) : D := .vec 1 (encB (L.getD i [])).length (u8F (encB (L.getD i [])))
def ansV (L : List (List Smp)) : SV := .d (.vec 1 L.length (fun i _ => okE L i))
theorem what_ok {L : List (List Smp)} (h : firstE L = 0) (i : Nat) : whatE L i = okE L i := by
  unfold whatE
  rw [if_pos]
  · rfl
  · by_cases hi : i < L.length
    · exact faults_none h hi
    · rw [List.getD_eq_getElem?_getD, List.getElem?_eq_none (by omega)]; rfl
theorem ans_ok2 {L : List (List Smp)} (hL : L.length ≤ 100) (h : firstE L = 0) : encAns L = .tup [ansV L, SV.i 0] := by
  rw [ans_ok hL h]
  show SV.tup [.d (.vec 1 L.length _), _] = _
  rw [show (fun (i c : Nat) => whatE L i) = fun i _ => okE L i from funext fun i => funext fun _ => what_ok h i]
  rfl

theorem refEnc_size (L : List (List Smp)) (hL : 100 < L.length) : Spec Tryd.prog GC 7 [listE L] [] (fun r ho => r = SV.tup [.d .nils, SV.i 1] ∧ ho = []) := by
  refine start 32 0 Tryd.func7 rfl rfl rfl rfl ?_
  refine r1 ?_
  refine s1 2 0 1 rfl rfl rfl rfl rfl rfl trivial ?_
  refine s1 3 8 2 rfl rfl rfl rfl rfl rfl trivial ?_
  refine e1 16 rfl ?_
  refine keep [0] rfl ?_
  refine W_seq ?_
  refine r1 ?_
  refine s1 9 16 1 rfl rfl rfl rfl rfl rfl trivial ?_
  refine s1 10 24 2 rfl rfl rfl rfl rfl rfl (by first | trivial | omega) ?_
  refine s1 11 32 3 rfl rfl rfl rfl rfl rfl (by first | trivial | omega) ?_
  refine e1 40 rfl ?_
  refine keep [0, 11] rfl ?_
  refine q1 rfl (fun hc1 => ?_) (fun hc1 => ?_)
  · skip
    try simp only [cs, ne_eq] at hc1
    refine r1 ?_
    refine s1 2 40 1 rfl rfl rfl rfl rfl rfl trivial ?_
    refine s1 3 48 2 rfl rfl rfl rfl rfl rfl trivial ?_
    refine e1 56 rfl ?_
    refine keep [2, 3] rfl ?_
    refine W_ret ?_
    refine tr ?_
    exact out2 2 3 (.d .nils) (SV.i 1) (π := []) (hout := []) Tryd.results7 rfl rfl rfl rfl rfl rfl trivial ⟨rfl, rfl⟩
  · skip
    exfalso; simp at hc1; omega

theorem refEnc_all (L : List (List Smp)) (hin : ∀ l, l ∈ L → SmpIn l) (hL : L.length ≤ 100) : Spec Tryd.prog GC 7 [listE L] [] (fun r ho => (firstE L = 0 ∧ r = SV.tup [.sl 0 0 L.length, SV.i 0] ∧ ho = [some (.rows 39 1 L.length (fun i _ => okE L i))]) ∨ (firstE L ≠ 0 ∧ r = SV.tup [.d .nils, SV.i (firstE L)] ∧ ho = [])) := by
  refine start 32 0 Tryd.func7 rfl rfl rfl rfl ?_
  refine r1 ?_
  refine s1 2 0 1 rfl rfl rfl rfl rfl rfl trivial ?_
  refine s1 3 8 2 rfl rfl rfl rfl rfl rfl trivial ?_
  refine e1 16 rfl ?_
  refine keep [0] rfl ?_
  refine W_seq ?_
  refine r1 ?_
  refine s1 9 16 1 rfl rfl rfl rfl rfl rfl trivial ?_
  refine s1 10 24 2 rfl rfl rfl rfl rfl rfl (by first | trivial | omega) ?_
  refine s1 11 32 3 rfl rfl rfl rfl rfl rfl (by first | trivial | omega) ?_
  refine e1 40 rfl ?_
  refine keep [0, 11] rfl ?_
  refine q1 rfl (fun hc1 => ?_) (fun hc1 => ?_)
  · skip
    exfalso; simp at hc1; omega
  · skip
    try simp only [cs, ne_eq] at hc1
    refine W_skip ?_
    refine tn ?_
    refine r1 ?_
    refine s1 4 40 1 rfl rfl rfl rfl rfl rfl trivial ?_
    refine e1 48 rfl ?_
    refine keep [0, 4] rfl ?_
    refine W_seq ?_
    refine r1 ?_
    refine s1 12 48 1 rfl rfl rfl rfl rfl rfl trivial ?_
    refine s1 13 56 2 rfl rfl rfl rfl rfl rfl (by first | trivial | omega) ?_
    refine s1 14 64 3 rfl rfl rfl rfl rfl rfl trivial ?_
    refine e1 72 rfl ?_
    refine keep [4, 12, 13, 14] rfl ?_
    refine W_block ?_
    refine ghostly 4 39 1 (fun i _ => okE L i) rfl ?_
    refine loop (α := Nat) 1 (fun n => [(4, .sl 0 0 (n)), (12, listE L), (13, SV.i L.length), (14, SV.i (n))]) (fun n => [some (.rows 39 1 (n) (fun i _ => okE L i))]) (fun n => (n) ≤ L.length ∧ faultsTo L (n) = 0) (fun n => L.length - (n)) (((0) : Nat)) [72] (fun _ => rfl) (show (0) ≤ L.length ∧ faultsTo L (0) = 0 from ⟨Nat.zero_le _, rfl⟩) rfl ⟨rfl, rfl, rfl, rfl, trivial⟩ ⟨rfl, trivial⟩ (fun n hx => ?_)
    show W _ _ _ ⟨tOf [(4, .sl 0 0 n), (12, listE L), (13, SV.i L.length), (14, SV.i n)], hOf [some (.rows 39 1 n (fun i _ => okE L i))], 1⟩
    have hx : n ≤ L.length ∧ faultsTo L n = 0 := hx
    obtain ⟨hn, hno⟩ := hx
    by_cases hz : sfault (L.getD n []) = 0
    · skip
      refine r1 ?_
      refine s1 15 1 1 rfl rfl rfl rfl rfl rfl (by first | trivial | omega) ?_
      refine e1 9 rfl ?_
      refine keep [4, 12, 13, 14, 15] rfl ?_
      refine W_seq ?_
      refine q1 rfl (fun hc5 => ?_) (fun hc5 => ?_)
      · skip
        try simp only [cs, ne_eq] at hc5
        refine W_skip ?_
        refine tn ?_
        refine W_seq ?_
        refine W_block ?_
        refine r1 ?_
        refine s1 16 9 1 rfl rfl rfl rfl rfl rfl (by first | trivial | omega) ?_
        refine s1 17 17 2 rfl rfl rfl rfl rfl rfl (by first | trivial | omega) ?_
        refine val 17 (smpV (L.getD n [])) rfl (by simp only [Int.toNat_natCast, Nat.zero_add]; rfl) ?_
        refine s1 6 25 3 rfl rfl rfl rfl rfl rfl trivial ?_
        refine e1 33 rfl ?_
        refine keep [4, 6, 12, 13, 14] rfl ?_
        refine r1 ?_
        refine s1 19 33 1 rfl rfl rfl rfl rfl rfl trivial ?_
        refine c1 (encoded_ok (L.getD n []) (hin _ (mem_at [] (by omega))) hz) [] [41] 20 41 2 rfl rfl rfl rfl rfl rfl rfl rfl Tryd.func15 rfl rfl rfl rfl trivial rfl rfl ?_
        refine s1 18 49 3 rfl rfl rfl rfl rfl rfl trivial ?_
        refine s1 21 57 4 rfl rfl rfl rfl rfl rfl trivial ?_
        refine s1 22 65 5 rfl rfl rfl rfl rfl rfl trivial ?_
        refine s1 7 73 6 rfl rfl rfl rfl rfl rfl trivial ?_
        refine s1 8 81 7 rfl rfl rfl rfl rfl rfl trivial ?_
        refine e1 89 rfl ?_
        refine keep [4, 7, 8, 12, 13, 14] rfl ?_
        refine W_seq ?_
        refine r1 ?_
        refine s1 23 89 1 rfl rfl rfl rfl rfl rfl trivial ?_
        refine s1 24 97 2 rfl rfl rfl rfl rfl rfl (by first | trivial | omega) ?_
        refine e1 105 rfl ?_
        refine keep [4, 7, 8, 12, 13, 14, 24] rfl ?_
        refine q1 rfl (fun hc8 => ?_) (fun hc8 => ?_)
        · skip
          exact absurd hc8 (by decide)
        · skip
          try simp only [cs, ne_eq] at hc8
          refine W_skip ?_
          refine tn ?_
          refine freeze 7 41 (encB (L.getD n [])).length rfl rfl (Nat.le_refl _) ?_
          refine r0 ?_
          refine s1 26 105 1 rfl rfl rfl rfl rfl rfl trivial ?_
          refine s1 27 113 2 rfl rfl rfl rfl rfl rfl trivial ?_
          refine sLit 1 (fun _ _ => .vec 1 (encB (L.getD n [])).length (u8F (encB (L.getD n [])))) 28 121 3 rfl rfl rfl rfl rfl rfl rfl rfl rfl (by intro i c hi hc; obtain rfl : i = 0 := (by omega); obtain rfl : c = 0 := (by omega); rfl) ?_
          refine s1 29 129 4 rfl rfl rfl rfl rfl rfl ⟨Nat.le_refl _, (by omega), (by show (n + 1) * 24 ≤ 140737488355328; omega), (by simp only [maxLen]; omega)⟩ ?_
          refine s1 4 137 5 rfl rfl rfl rfl rfl rfl trivial ?_
          refine e1 145 rfl ?_
          refine bn ?_
          refine tn ?_
          refine rowsc 129 (n + 1) (fun i _ => okE L i) rfl rfl (fun i c hi hc => by show catR (fun i _ => okE L i) n _ i c = _; unfold catR; by_cases e : i < n; (rw [if_pos e]); (rw [if_neg e]; obtain rfl : i = n := (by omega); rfl)) ?_
          refine r0 ?_
          refine sA 30 145 1 rfl rfl rfl rfl rfl rfl rfl rfl rfl (by unfold inRange; omega) ?_
          refine s1 14 153 2 rfl rfl rfl rfl rfl rfl trivial ?_
          refine e1 161 rfl ?_
          refine tn ?_
          exact again ((n + 1 : Nat)) [129] (show (n + 1) ≤ L.length ∧ faultsTo L (n + 1) = 0 from ⟨by omega, faultsTo_step hno hz⟩) (show L.length - (n + 1) < L.length - n from (by omega)) rfl ⟨rfl, rfl, rfl, rfl, trivial⟩ ⟨rfl, trivial⟩
      · skip
        try simp only [cs, ne_eq] at hc5
        refine W_exit ?_
        refine tx ?_
        refine tx ?_
        refine bx ?_
        refine tn ?_
        obtain rfl : n = L.length := (by omega)
        refine r1 ?_
        refine s1 31 9 1 rfl rfl rfl rfl rfl rfl trivial ?_
        refine s1 2 17 2 rfl rfl rfl rfl rfl rfl trivial ?_
        refine s1 3 25 3 rfl rfl rfl rfl rfl rfl trivial ?_
        refine e1 33 rfl ?_
        refine keep [2, 3] rfl ?_
        refine W_ret ?_
        exact out2 2 3 (.sl 0 0 L.length) (SV.i 0) (π := [0]) (hout := [some (.rows 39 1 L.length (fun i _ => okE L i))]) Tryd.results7 rfl rfl rfl rfl rfl rfl ⟨rfl, trivial⟩ (.inl ⟨hno, rfl, rfl⟩)
    · skip
      refine r1 ?_
      refine s1 15 1 1 rfl rfl rfl rfl rfl rfl (by first | trivial | omega) ?_
      refine e1 9 rfl ?_
      refine keep [4, 12, 13, 14, 15] rfl ?_
      refine W_seq ?_
      refine q1 rfl (fun hc5 => ?_) (fun hc5 => ?_)
      · skip
        try simp only [cs, ne_eq] at hc5
        refine W_skip ?_
        refine tn ?_
        refine W_seq ?_
        refine W_block ?_
        refine r1 ?_
        refine s1 16 9 1 rfl rfl rfl rfl rfl rfl (by first | trivial | omega) ?_
        refine s1 17 17 2 rfl rfl rfl rfl rfl rfl (by first | trivial | omega) ?_
        refine val 17 (smpV (L.getD n [])) rfl (by simp only [Int.toNat_natCast, Nat.zero_add]; rfl) ?_
        refine s1 6 25 3 rfl rfl rfl rfl rfl rfl trivial ?_
        refine e1 33 rfl ?_
        refine keep [4, 6, 12, 13, 14] rfl ?_
        refine r1 ?_
        refine s1 19 33 1 rfl rfl rfl rfl rfl rfl trivial ?_
        refine c1 (encoded_bad (L.getD n []) (hin _ (mem_at [] (by omega))) hz) [] [] 20 41 2 rfl rfl rfl rfl rfl rfl rfl rfl Tryd.func15 rfl rfl rfl rfl trivial rfl rfl ?_
        refine s1 18 49 3 rfl rfl rfl rfl rfl rfl trivial ?_
        refine s1 21 57 4 rfl rfl rfl rfl rfl rfl trivial ?_
        refine s1 22 65 5 rfl rfl rfl rfl rfl rfl trivial ?_
        refine s1 7 73 6 rfl rfl rfl rfl rfl rfl trivial ?_
        refine s1 8 81 7 rfl rfl rfl rfl rfl rfl trivial ?_
        refine e1 89 rfl ?_
        refine keep [4, 7, 8, 12, 13, 14] rfl ?_
        refine W_seq ?_
        refine r1 ?_
        refine s1 23 89 1 rfl rfl rfl rfl rfl rfl trivial ?_
        refine s1 24 97 2 rfl rfl rfl rfl rfl rfl (by first | trivial | omega) ?_
        refine e1 105 rfl ?_
        refine keep [4, 7, 8, 12, 13, 14, 24] rfl ?_
        refine q1 rfl (fun hc8 => ?_) (fun hc8 => ?_)
        · skip
          try simp only [cs, ne_eq] at hc8
          refine r1 ?_
          refine s1 25 105 1 rfl rfl rfl rfl rfl rfl trivial ?_
          refine s1 2 113 2 rfl rfl rfl rfl rfl rfl trivial ?_
          refine s1 3 121 3 rfl rfl rfl rfl rfl rfl trivial ?_
          refine e1 129 rfl ?_
          refine keep [2, 3] rfl ?_
          refine W_ret ?_
          refine tr ?_
          refine br ?_
          refine tr ?_
          refine tr ?_
          refine br ?_
          refine tr ?_
          exact out2 2 3 (.d .nils) (SV.i (sfault (L.getD n []))) (π := []) (hout := []) Tryd.results7 rfl rfl rfl rfl rfl rfl trivial (.inr (by have h := faultsTo_at (L := L) (k := n) (n := L.length) (by omega) hno hz; exact ⟨by unfold firstE; rw [h]; exact hz, by unfold firstE; rw [h], rfl⟩))
        · skip
          exfalso; simp at hc8; exact hz hc8
      · skip
        try simp only [cs, ne_eq] at hc5
        refine W_exit ?_
        refine tx ?_
        refine tx ?_
        refine bx ?_
        refine tn ?_
        obtain rfl : n = L.length := (by omega)
        refine r1 ?_
        refine s1 31 9 1 rfl rfl rfl rfl rfl rfl trivial ?_
        refine s1 2 17 2 rfl rfl rfl rfl rfl rfl trivial ?_
        refine s1 3 25 3 rfl rfl rfl rfl rfl rfl trivial ?_
        refine e1 33 rfl ?_
        refine keep [2, 3] rfl ?_
        refine W_ret ?_
        exact out2 2 3 (.sl 0 0 L.length) (SV.i 0) (π := [0]) (hout := [some (.rows 39 1 L.length (fun i _ => okE L i))]) Tryd.results7 rfl rfl rfl rfl rfl rfl ⟨rfl, trivial⟩ (.inl ⟨hno, rfl, rfl⟩)

theorem refEnc_ok (L : List (List Smp)) (hin : ∀ l, l ∈ L → SmpIn l) (hL : L.length ≤ 100) (h0 : firstE L = 0) : Spec Tryd.prog GC 7 [listE L] [] (fun r ho => r = SV.tup [.sl 0 0 L.length, SV.i 0] ∧ ho = [some (.rows 39 1 L.length (fun i _ => okE L i))]) :=
  (refEnc_all L hin hL).mono fun r ho h => by
    rcases h with ⟨_, a, b⟩ | ⟨h, _⟩
    · exact ⟨a, b⟩
    · exact absurd h0 h
theorem refEnc_bad (L : List (List Smp)) (hin : ∀ l, l ∈ L → SmpIn l) (hL : L.length ≤ 100) (h0 : firstE L ≠ 0) : Spec Tryd.prog GC 7 [listE L] [] (fun r ho => r = SV.tup [.d .nils, SV.i (firstE L)] ∧ ho = []) :=
  (refEnc_all L hin hL).mono fun r ho h => by
    rcases h with ⟨h, _⟩ | ⟨_, a, b⟩
    · exact absurd h h0
    · exact ⟨a, b⟩

def same8 (x y : List Int) : Bool := decide (x = y)
theorem same_of8 {x y : List Int} (hl : x.length = y.length) (h : ∀ j, j < x.length → x.getD j 0 = y.getD j 0) : x = y := by
  refine List.ext_getElem hl fun i h1 h2 => ?_
  have := h i h1
  simpa [List.getD, h1, h2] using this

theorem same8_any (x y : List Int) (hxl : x.length ≤ 9223372036854775807) (hyl : y.length ≤ 9223372036854775807) : Spec Tryd.prog GC 16 [u8V x, u8V y] [] (fun r ho => r = SV.b (same8 x y) ∧ ho = []) := by
  refine start 26 0 Tryd.func16 rfl rfl rfl rfl ?_
  refine r1 ?_
  refine s1 4 0 1 rfl rfl rfl rfl rfl rfl trivial ?_
  refine e1 8 rfl ?_
  refine keep [0, 1] rfl ?_
  refine W_seq ?_
  refine r1 ?_
  refine s1 6 8 1 rfl rfl rfl rfl rfl rfl trivial ?_
  refine s1 7 16 2 rfl rfl rfl rfl rfl rfl (by first | trivial | omega) ?_
  refine s1 8 24 3 rfl rfl rfl rfl rfl rfl trivial ?_
  refine s1 9 32 4 rfl rfl rfl rfl rfl rfl (by first | trivial | omega) ?_
  refine s1 10 40 5 rfl rfl rfl rfl rfl rfl (by first | trivial | omega) ?_
  refine e1 48 rfl ?_
  refine keep [0, 1, 10] rfl ?_
  refine q1 rfl (fun hc1 => ?_) (fun hc1 => ?_)
  · skip
    try simp only [cs, ne_eq] at hc1
    refine r1 ?_
    refine s1 4 48 1 rfl rfl rfl rfl rfl rfl trivial ?_
    refine e1 56 rfl ?_
    refine keep [4] rfl ?_
    refine W_ret ?_
    refine tr ?_
    exact out1 4 (SV.b (same8 x y)) (π := []) (hout := []) Tryd.results16 rfl (by show SV.b _ = SV.b _; refine congrArg SV.b ?_; unfold same8; rw [decide_eq_false]; intro e; subst e; omega) rfl rfl trivial ⟨rfl, rfl⟩
  · skip
    try simp only [cs, ne_eq] at hc1
    refine W_skip ?_
    refine tn ?_
    refine W_seq ?_
    refine r1 ?_
    refine s1 5 48 1 rfl rfl rfl rfl rfl rfl trivial ?_
    refine e1 56 rfl ?_
    refine keep [0, 1, 5] rfl ?_
    refine W_block ?_
    have hl : x.length = y.length := (by omega)
    refine loop (α := Nat) 0 (fun n => [(0, u8V x), (1, u8V y), (5, SV.i (n))]) (fun n => []) (fun n => (n) ≤ x.length ∧ ∀ j, j < (n) → x.getD j 0 = y.getD j 0) (fun n => x.length - (n)) (((0) : Nat)) [] (fun _ => rfl) (show (0) ≤ x.length ∧ ∀ j, j < (0) → x.getD j 0 = y.getD j 0 from ⟨Nat.zero_le _, fun j hj => by omega⟩) rfl ⟨rfl, rfl, rfl, trivial⟩ trivial (fun n hx => ?_)
    show W _ _ _ ⟨tOf [(0, u8V x), (1, u8V y), (5, SV.i n)], hOf [], 0⟩
    have hx : n ≤ x.length ∧ ∀ j, j < n → x.getD j 0 = y.getD j 0 := hx
    obtain ⟨hn, hno⟩ := hx
    refine W_seq ?_
    refine r1 ?_
    refine s1 11 0 1 rfl rfl rfl rfl rfl rfl trivial ?_
    refine s1 12 8 2 rfl rfl rfl rfl rfl rfl trivial ?_
    refine s1 13 16 3 rfl rfl rfl rfl rfl rfl (by first | trivial | omega) ?_
    refine s1 14 24 4 rfl rfl rfl rfl rfl rfl (by first | trivial | omega) ?_
    refine e1 32 rfl ?_
    refine keep [0, 1, 5, 14] rfl ?_
    refine q1 rfl (fun hc4 => ?_) (fun hc4 => ?_)
    · skip
      try simp only [cs, ne_eq] at hc4
      refine W_skip ?_
      refine tn ?_
      refine W_seq ?_
      refine W_block ?_
      refine rd1 rfl ?_
      refine d1 17 32 1 rfl rfl rfl rfl rfl rfl trivial ?_
      refine d1 18 40 2 rfl rfl rfl rfl rfl rfl trivial ?_
      refine d1 19 48 3 rfl rfl rfl rfl rfl rfl (by first | trivial | omega) ?_
      refine d1 20 56 4 rfl rfl rfl rfl rfl rfl (by first | trivial | omega) ?_
      refine d1 21 64 5 rfl rfl rfl rfl rfl rfl trivial ?_
      refine d1 22 72 6 rfl rfl rfl rfl rfl rfl trivial ?_
      refine d1 23 80 7 rfl rfl rfl rfl rfl rfl (by first | trivial | omega) ?_
      refine d1 24 88 8 rfl rfl rfl rfl rfl rfl (by first | trivial | omega) ?_
      refine d1 25 96 9 rfl rfl rfl rfl rfl rfl (by first | trivial | omega) ?_
      refine de1 104 rfl (by kernel_rfl) ?_
      refine keep [0, 1, 5, 25] rfl ?_
      refine q1 rfl (fun hc6 => ?_) (fun hc6 => ?_)
      · skip
        try simp only [cs, ne_eq] at hc6
        refine r1 ?_
        refine s1 4 104 1 rfl rfl rfl rfl rfl rfl trivial ?_
        refine e1 112 rfl ?_
        refine keep [4] rfl ?_
        refine W_ret ?_
        refine br ?_
        refine tr ?_
        refine tr ?_
        refine br ?_
        refine tr ?_
        exact out1 4 (SV.b (same8 x y)) (π := []) (hout := []) Tryd.results16 rfl (by show SV.b _ = SV.b _; refine congrArg SV.b ?_; unfold same8; rw [decide_eq_false]; intro e; subst e; exact hc6 rfl) rfl rfl trivial ⟨rfl, rfl⟩
      · skip
        try simp only [cs, ne_eq] at hc6
        refine W_skip ?_
        refine bn ?_
        refine tn ?_
        refine r0 ?_
        refine s1 15 104 1 rfl rfl rfl rfl rfl rfl trivial ?_
        refine sA 16 112 2 rfl rfl rfl rfl rfl rfl rfl rfl rfl (by unfold inRange; omega) ?_
        refine s1 5 120 3 rfl rfl rfl rfl rfl rfl trivial ?_
        refine e1 128 rfl ?_
        refine tn ?_
        exact again ((n + 1 : Nat)) [] (show (n + 1) ≤ x.length ∧ ∀ j, j < (n + 1) → x.getD j 0 = y.getD j 0 from ⟨by omega, fun j hj => by by_cases e : j = n; (subst e; exact hc6); exact hno j (by omega)⟩) (show x.length - (n + 1) < x.length - n from (by omega)) rfl ⟨rfl, rfl, rfl, trivial⟩ trivial
    · skip
      try simp only [cs, ne_eq] at hc4
      refine W_exit ?_
      refine tx ?_
      refine tx ?_
      refine bx ?_
      refine tn ?_
      refine r1 ?_
      refine s1 4 32 1 rfl rfl rfl rfl rfl rfl trivial ?_
      refine e1 40 rfl ?_
      refine keep [4] rfl ?_
      refine W_ret ?_
      exact out1 4 (SV.b (same8 x y)) (π := []) (hout := []) Tryd.results16 rfl (by show SV.b _ = SV.b _; refine congrArg SV.b ?_; unfold same8; rw [decide_eq_true]; exact same_of8 hl (fun j hj => hno j (by omega))) rfl rfl trivial ⟨rfl, rfl⟩

theorem same8_nil : Spec Tryd.prog GC 16 [.d .nils, .d .nils] [] (fun r ho => r = SV.b true ∧ ho = []) :=
  (same8_any [] [] (by decide) (by decide)).args rfl fun M ρ i x' hx => by
    match i, hx with
    | 0, hx => cases hx; exact ⟨_, rfl, fun u hu => hu.nil_vec⟩
    | 1, hx => cases hx; exact ⟨_, rfl, fun u hu => hu.nil_vec⟩
    | n + 2, hx => simp at hx

theorem encB_len2 {l : List Smp} (hz : sfault l = 0) : (encB l).length ≤ 9223372036854775807 := by
  have h1 := encL_len l l.length
  have hl : l.length ≤ 120 := by
    unfold sfault at hz
    by_cases h : 120 < l.length
    · rw [if_pos h] at hz; cases hz
    · omega
  unfold encB
  rw [pack_length]; omega
theorem same8_self (x : List Int) (hx : x.length ≤ 9223372036854775807) : Spec Tryd.prog GC 16 [u8V x, u8V x] [] (fun r ho => r = SV.b true ∧ ho = []) := by
  have e : same8 x x = true := by unfold same8; exact decide_eq_true rfl
  have := same8_any x x hx hx
  rwa [e] at this

theorem same_enc (L : List (List Smp)) (hL : L.length ≤ 100) (h0 : firstE L = 0) : Spec Tryd.prog GC 8 [ansV L, ansV L] [] (fun r ho => r = SV.b true ∧ ho = []) := by
  refine start 27 0 Tryd.func8 rfl rfl rfl rfl ?_
  refine r1 ?_
  refine s1 4 0 1 rfl rfl rfl rfl rfl rfl trivial ?_
  refine e1 8 rfl ?_
  refine keep [0, 1] rfl ?_
  refine W_seq ?_
  refine r1 ?_
  refine s1 6 8 1 rfl rfl rfl rfl rfl rfl trivial ?_
  refine s1 7 16 2 rfl rfl rfl rfl rfl rfl (by first | trivial | omega) ?_
  refine s1 8 24 3 rfl rfl rfl rfl rfl rfl trivial ?_
  refine s1 9 32 4 rfl rfl rfl rfl rfl rfl (by first | trivial | omega) ?_
  refine s1 10 40 5 rfl rfl rfl rfl rfl rfl (by first | trivial | omega) ?_
  refine e1 48 rfl ?_
  refine keep [0, 1, 10] rfl ?_
  refine q1 rfl (fun hc1 => ?_) (fun hc1 => ?_)
  · skip
    exfalso; simp at hc1
  · skip
    try simp only [cs, ne_eq] at hc1
    refine W_skip ?_
    refine tn ?_
    refine W_seq ?_
    refine r1 ?_
    refine s1 5 48 1 rfl rfl rfl rfl rfl rfl trivial ?_
    refine e1 56 rfl ?_
    refine keep [0, 1, 5] rfl ?_
    refine W_block ?_
    refine loop (α := Nat) 0 (fun n => [(0, ansV L), (1, ansV L), (5, SV.i (n))]) (fun n => []) (fun n => (n) ≤ L.length) (fun n => L.length - (n)) (((0) : Nat)) [] (fun _ => rfl) (show (0) ≤ L.length from (Nat.zero_le _)) rfl ⟨rfl, rfl, rfl, trivial⟩ trivial (fun n hx => ?_)
    show W _ _ _ ⟨tOf [(0, ansV L), (1, ansV L), (5, SV.i n)], hOf [], 0⟩
    have hx : n ≤ L.length := hx
    refine W_seq ?_
    refine r1 ?_
    refine s1 11 0 1 rfl rfl rfl rfl rfl rfl trivial ?_
    refine s1 12 8 2 rfl rfl rfl rfl rfl rfl trivial ?_
    refine s1 13 16 3 rfl rfl rfl rfl rfl rfl (by first | trivial | omega) ?_
    refine s1 14 24 4 rfl rfl rfl rfl rfl rfl (by first | trivial | omega) ?_
    refine e1 32 rfl ?_
    refine keep [0, 1, 5, 14] rfl ?_
    refine q1 rfl (fun hc4 => ?_) (fun hc4 => ?_)
    · skip
      try simp only [cs, ne_eq] at hc4
      refine W_skip ?_
      refine tn ?_
      refine W_seq ?_
      refine W_block ?_
      refine rd1 rfl ?_
      refine d1 17 32 1 rfl rfl rfl rfl rfl rfl trivial ?_
      refine d1 18 40 2 rfl rfl rfl rfl rfl rfl trivial ?_
      refine d1 19 48 3 rfl rfl rfl rfl rfl rfl (by omega) ?_
      refine d1 20 56 4 rfl rfl rfl rfl rfl rfl (by first | trivial | omega) ?_
      refine val 20 (u8V (encB (L.getD n []))) rfl (by simp only [Int.toNat_natCast, Nat.zero_add]; rfl) ?_
      refine d1 21 64 5 rfl rfl rfl rfl rfl rfl trivial ?_
      refine d1 22 72 6 rfl rfl rfl rfl rfl rfl trivial ?_
      refine d1 23 80 7 rfl rfl rfl rfl rfl rfl (by omega) ?_
      refine d1 24 88 8 rfl rfl rfl rfl rfl rfl (by first | trivial | omega) ?_
      refine val 24 (u8V (encB (L.getD n []))) rfl (by simp only [Int.toNat_natCast, Nat.zero_add]; rfl) ?_
      refine dc1 (same8_self (encB (L.getD n [])) (encB_len2 (faults_none h0 (by omega)))) [] [] 25 96 9 rfl rfl rfl rfl rfl rfl rfl rfl Tryd.func16 rfl rfl rfl rfl trivial rfl rfl ?_
      refine d1 26 104 10 rfl rfl rfl rfl rfl rfl trivial ?_
      refine de1 112 rfl (by kernel_rfl) ?_
      refine keep [0, 1, 5, 26] rfl ?_
      refine q1 rfl (fun hc6 => ?_) (fun hc6 => ?_)
      · skip
        exfalso; exact absurd hc6 (by decide)
      · skip
        try simp only [cs, ne_eq] at hc6
        refine W_skip ?_
        refine bn ?_
        refine tn ?_
        refine r0 ?_
        refine s1 15 112 1 rfl rfl rfl rfl rfl rfl trivial ?_
        refine sA 16 120 2 rfl rfl rfl rfl rfl rfl rfl rfl rfl (by unfold inRange; omega) ?_
        refine s1 5 128 3 rfl rfl rfl rfl rfl rfl trivial ?_
        refine e1 136 rfl ?_
        refine tn ?_
        exact again ((n + 1 : Nat)) [] (show (n + 1) ≤ L.length from (by omega)) (show L.length - (n + 1) < L.length - n from (by omega)) rfl ⟨rfl, rfl, rfl, trivial⟩ trivial
    · skip
      try simp only [cs, ne_eq] at hc4
      refine W_exit ?_
      refine tx ?_
      refine tx ?_
      refine bx ?_
      refine tn ?_
      refine r1 ?_
      refine s1 4 32 1 rfl rfl rfl rfl rfl rfl trivial ?_
      refine e1 40 rfl ?_
      refine keep [4] rfl ?_
      refine W_ret ?_
      exact out1 4 (SV.b true) (π := []) (hout := []) Tryd.results8 rfl rfl rfl rfl trivial ⟨rfl, rfl⟩

theorem same_nils : Spec Tryd.prog GC 8 [.d .nils, .d .nils] [] (fun r ho => r = SV.b true ∧ ho = []) :=
  (same_enc [] (by decide) rfl).args rfl fun M ρ i x' hx => by
    match i, hx with
    | 0, hx => cases hx; exact ⟨_, rfl, fun u hu => hu.nil_vec⟩
    | 1, hx => cases hx; exact ⟨_, rfl, fun u hu => hu.nil_vec⟩
    | n + 2, hx => simp at hx
noncomputable def tailLE : Code := match Tryd.f3.body.getD .skip with | .seq _ (.seq _ c) => c | _ => .skip

theorem lawT_size (L : List (List Smp)) (hL : 100 < L.length) : W ⟨Tryd.prog, 25, 0, GC⟩ tailLE (outQ ⟨Tryd.prog, 25, 0, GC⟩ Tryd.f3 (fun r _ => r = SV.b true)) (stOf [(0, listE L), (3, .d .nils), (4, SV.i 1)] []) := by
  show W _ _ _ ⟨tOf _, hOf _, 0⟩
  refine r1 ?_
  refine s1 13 0 1 rfl rfl rfl rfl rfl rfl trivial ?_
  refine c1 (refEnc_size L hL) [] [] 14 8 2 rfl rfl rfl rfl rfl rfl rfl rfl Tryd.func7 rfl rfl rfl rfl trivial rfl rfl ?_
  refine s1 12 16 3 rfl rfl rfl rfl rfl rfl trivial ?_
  refine s1 15 24 4 rfl rfl rfl rfl rfl rfl trivial ?_
  refine s1 16 32 5 rfl rfl rfl rfl rfl rfl trivial ?_
  refine s1 5 40 6 rfl rfl rfl rfl rfl rfl trivial ?_
  refine s1 6 48 7 rfl rfl rfl rfl rfl rfl trivial ?_
  refine e1 56 rfl ?_
  refine keep [3, 4, 5, 6] rfl ?_
  refine r1 ?_
  refine s1 17 56 1 rfl rfl rfl rfl rfl rfl trivial ?_
  refine s1 18 64 2 rfl rfl rfl rfl rfl rfl trivial ?_
  refine c1 (same_nils) [] [] 19 72 3 rfl rfl rfl rfl rfl rfl rfl rfl Tryd.func8 rfl rfl rfl rfl trivial rfl rfl ?_
  refine s1 20 80 4 rfl rfl rfl rfl rfl rfl trivial ?_
  refine ask 20 rfl (fun hg3_20 => ?_) (fun hg3_20 => ?_)
  · skip
    try simp only [cs, ne_eq] at hg3_20
    refine g1 3 true 20 21 5 rfl rfl rfl rfl rfl ?_
    refine s1 21 88 5 rfl rfl rfl rfl rfl rfl trivial ?_
    refine g1 3 true 20 22 6 rfl rfl rfl rfl rfl ?_
    refine s1 22 96 6 rfl rfl rfl rfl rfl rfl trivial ?_
    refine g1 3 true 20 23 7 rfl rfl rfl rfl rfl ?_
    refine s1 23 104 7 rfl rfl rfl rfl rfl rfl (by first | trivial | omega) ?_
    refine s1 24 112 8 rfl rfl rfl rfl rfl rfl trivial ?_
    refine s1 2 120 9 rfl rfl rfl rfl rfl rfl trivial ?_
    refine e1 128 rfl ?_
    refine keep [2] rfl ?_
    refine W_ret ?_
    exact out1 2 (SV.b true) (π := []) (hout := []) Tryd.results3 rfl (by first | rfl | (simp; done) | (simp; rfl) | (simp [*]; rfl)) rfl rfl trivial rfl
  · skip
    try simp only [cs, ne_eq] at hg3_20
    all_goals (exfalso; first | (simp at hg3_20; done) | (simp at hg3_20; omega) | (simp_all; omega) | omega)

theorem lawT_bad (L : List (List Smp)) (hin : ∀ l, l ∈ L → SmpIn l) (hL : L.length ≤ 100) (h0 : firstE L ≠ 0) : W ⟨Tryd.prog, 25, 0, GC⟩ tailLE (outQ ⟨Tryd.prog, 25, 0, GC⟩ Tryd.f3 (fun r _ => r = SV.b true)) (stOf [(0, listE L), (3, .d .nils), (4, SV.i (firstE L))] []) := by
  show W _ _ _ ⟨tOf _, hOf _, 0⟩
  refine r1 ?_
  refine s1 13 0 1 rfl rfl rfl rfl rfl rfl trivial ?_
  refine c1 (refEnc_bad L hin hL h0) [] [] 14 8 2 rfl rfl rfl rfl rfl rfl rfl rfl Tryd.func7 rfl rfl rfl rfl trivial rfl rfl ?_
  refine s1 12 16 3 rfl rfl rfl rfl rfl rfl trivial ?_
  refine s1 15 24 4 rfl rfl rfl rfl rfl rfl trivial ?_
  refine s1 16 32 5 rfl rfl rfl rfl rfl rfl trivial ?_
  refine s1 5 40 6 rfl rfl rfl rfl rfl rfl trivial ?_
  refine s1 6 48 7 rfl rfl rfl rfl rfl rfl trivial ?_
  refine e1 56 rfl ?_
  refine keep [3, 4, 5, 6] rfl ?_
  refine r1 ?_
  refine s1 17 56 1 rfl rfl rfl rfl rfl rfl trivial ?_
  refine s1 18 64 2 rfl rfl rfl rfl rfl rfl trivial ?_
  refine c1 (same_nils) [] [] 19 72 3 rfl rfl rfl rfl rfl rfl rfl rfl Tryd.func8 rfl rfl rfl rfl trivial rfl rfl ?_
  refine s1 20 80 4 rfl rfl rfl rfl rfl rfl trivial ?_
  refine ask 20 rfl (fun hg3_20 => ?_) (fun hg3_20 => ?_)
  · skip
    try simp only [cs, ne_eq] at hg3_20
    refine g1 3 true 20 21 5 rfl rfl rfl rfl rfl ?_
    refine s1 21 88 5 rfl rfl rfl rfl rfl rfl trivial ?_
    refine g1 3 true 20 22 6 rfl rfl rfl rfl rfl ?_
    refine s1 22 96 6 rfl rfl rfl rfl rfl rfl trivial ?_
    refine g1 3 true 20 23 7 rfl rfl rfl rfl rfl ?_
    refine s1 23 104 7 rfl rfl rfl rfl rfl rfl (by first | trivial | omega) ?_
    refine s1 24 112 8 rfl rfl rfl rfl rfl rfl trivial ?_
    refine s1 2 120 9 rfl rfl rfl rfl rfl rfl trivial ?_
    refine e1 128 rfl ?_
    refine keep [2] rfl ?_
    refine W_ret ?_
    exact out1 2 (SV.b true) (π := []) (hout := []) Tryd.results3 rfl (by first | rfl | (simp; done) | (simp; rfl) | (simp [*]; rfl)) rfl rfl trivial rfl
  · skip
    try simp only [cs, ne_eq] at hg3_20
    all_goals (exfalso; first | (simp at hg3_20; done) | (simp at hg3_20; omega) | (simp_all; omega) | omega)

theorem lawT_ok (L : List (List Smp)) (hin : ∀ l, l ∈ L → SmpIn l) (hL : L.length ≤ 100) (h0 : firstE L = 0) : W ⟨Tryd.prog, 25, 0, GC⟩ tailLE (outQ ⟨Tryd.prog, 25, 0, GC⟩ Tryd.f3 (fun r _ => r = SV.b true)) (stOf [(0, listE L), (3, ansV L), (4, SV.i 0)] []) := by
  show W _ _ _ ⟨tOf _, hOf _, 0⟩
  refine r1 ?_
  refine s1 13 0 1 rfl rfl rfl rfl rfl rfl trivial ?_
  refine c1 (refEnc_ok L hin hL h0) [] [8] 14 8 2 rfl rfl rfl rfl rfl rfl rfl rfl Tryd.func7 rfl rfl rfl rfl trivial rfl rfl ?_
  refine s1 12 16 3 rfl rfl rfl rfl rfl rfl trivial ?_
  refine s1 15 24 4 rfl rfl rfl rfl rfl rfl trivial ?_
  refine s1 16 32 5 rfl rfl rfl rfl rfl rfl trivial ?_
  refine s1 5 40 6 rfl rfl rfl rfl rfl rfl trivial ?_
  refine s1 6 48 7 rfl rfl rfl rfl rfl rfl trivial ?_
  refine e1 56 rfl ?_
  refine keep [3, 4, 5, 6] rfl ?_
  refine freeze 5 8 L.length rfl rfl (Nat.le_refl _) ?_
  refine r1 ?_
  refine s1 17 56 1 rfl rfl rfl rfl rfl rfl trivial ?_
  refine s1 18 64 2 rfl rfl rfl rfl rfl rfl trivial ?_
  refine c1 (same_enc L hL h0) [] [] 19 72 3 rfl rfl rfl rfl rfl rfl rfl rfl Tryd.func8 rfl rfl rfl rfl trivial rfl rfl ?_
  refine s1 20 80 4 rfl rfl rfl rfl rfl rfl trivial ?_
  refine ask 20 rfl (fun hg3_20 => ?_) (fun hg3_20 => ?_)
  · skip
    try simp only [cs, ne_eq] at hg3_20
    refine g1 3 true 20 21 5 rfl rfl rfl rfl rfl ?_
    refine s1 21 88 5 rfl rfl rfl rfl rfl rfl trivial ?_
    refine g1 3 true 20 22 6 rfl rfl rfl rfl rfl ?_
    refine s1 22 96 6 rfl rfl rfl rfl rfl rfl trivial ?_
    refine g1 3 true 20 23 7 rfl rfl rfl rfl rfl ?_
    refine s1 23 104 7 rfl rfl rfl rfl rfl rfl (by first | trivial | omega) ?_
    refine s1 24 112 8 rfl rfl rfl rfl rfl rfl trivial ?_
    refine s1 2 120 9 rfl rfl rfl rfl rfl rfl trivial ?_
    refine e1 128 rfl ?_
    refine keep [2] rfl ?_
    refine W_ret ?_
    exact out1 2 (SV.b true) (π := []) (hout := []) Tryd.results3 rfl (by first | rfl | (simp; done) | (simp; rfl) | (simp [*]; rfl)) rfl rfl trivial rfl
  · skip
    try simp only [cs, ne_eq] at hg3_20
    all_goals (exfalso; first | (simp at hg3_20; done) | (simp at hg3_20; omega) | (simp_all; omega) | omega)

theorem lawCE (Pst : Value → World → Prop) (Rd : Blks) (L : List (List Smp)) (hin : ∀ l, l ∈ L → SmpIn l) : WX ⟨Tryd.prog, 25, 0, GC⟩ (Tryd.f3.body.getD .skip) (outQX ⟨Tryd.prog, 25, 0, GC⟩ Tryd.f3 (fun K r => r = SV.b true ∧ Ends Pst K)) (trPre Tryd.prog Pst Rd .p0) [] (stOf (argT 0 [listE L]) []) := by
  refine x1 ?_
  refine s1 2 0 1 rfl rfl rfl rfl rfl rfl trivial ?_
  refine e1 8 rfl ?_
  refine xX1 ?_
  refine RX_ops PZ.up [_] 0 _ (fun j hj => by simp at hj; subst hj; rfl) ?_
  refine s1 8 8 1 rfl rfl rfl rfl rfl rfl trivial ?_
  refine e1 64 rfl ?_
  refine RX_call PZ.up rfl rfl rfl rfl Tryd.func6 rfl (encode_any L hin Rd) rfl (data_all rfl) (fun n => rfl) rfl ?_
  rintro K' r ⟨rfl, hE⟩
  by_cases hL : 100 < L.length
  · rw [ans_size hL]
    refine RX_ops PZ.up [_, _, _, _, _] 2 _ (fun j hj => by simp at hj; match j, hj with | 0, _ => rfl | 1, _ => rfl | 2, _ => rfl | 3, _ => rfl | 4, _ => rfl) ?_
    refine s1 7 24 3 rfl rfl rfl rfl rfl rfl trivial ?_
    refine s1 10 32 4 rfl rfl rfl rfl rfl rfl trivial ?_
    refine s1 11 40 5 rfl rfl rfl rfl rfl rfl trivial ?_
    refine s1 3 48 6 rfl rfl rfl rfl rfl rfl trivial ?_
    refine s1 4 56 7 rfl rfl rfl rfl rfl rfl trivial ?_
    refine e1 64 rfl ?_
    refine RX_end rfl rfl ?_
    refine xtn ?_
    refine WX_sub [] [(0, listE L), (3, .d .nils), (4, SV.i 1)] [] ⟨rfl, ⟨rfl, rfl, rfl, trivial⟩, trivial⟩ (WX_last (lawT_size L hL) ?_)
    rintro π r ho rfl
    exact ⟨free_data rfl, rfl, hE⟩
  have hL : L.length ≤ 100 := by omega
  by_cases h0 : firstE L = 0
  · rw [ans_ok2 hL h0]
    refine RX_ops PZ.up [_, _, _, _, _] 2 _ (fun j hj => by simp at hj; match j, hj with | 0, _ => rfl | 1, _ => rfl | 2, _ => rfl | 3, _ => rfl | 4, _ => rfl) ?_
    refine s1 7 24 3 rfl rfl rfl rfl rfl rfl trivial ?_
    refine s1 10 32 4 rfl rfl rfl rfl rfl rfl trivial ?_
    refine s1 11 40 5 rfl rfl rfl rfl rfl rfl trivial ?_
    refine s1 3 48 6 rfl rfl rfl rfl rfl rfl trivial ?_
    refine s1 4 56 7 rfl rfl rfl rfl rfl rfl trivial ?_
    refine e1 64 rfl ?_
    refine RX_end rfl rfl ?_
    refine xtn ?_
    refine WX_sub [] [(0, listE L), (3, ansV L), (4, SV.i 0)] [] ⟨rfl, ⟨rfl, rfl, rfl, trivial⟩, trivial⟩ (WX_last (lawT_ok L hin hL h0) ?_)
    rintro π r ho rfl
    exact ⟨free_data rfl, rfl, hE⟩
  · rw [ans_bad hL h0]
    refine RX_ops PZ.up [_, _, _, _, _] 2 _ (fun j hj => by simp at hj; match j, hj with | 0, _ => rfl | 1, _ => rfl | 2, _ => rfl | 3, _ => rfl | 4, _ => rfl) ?_
    refine s1 7 24 3 rfl rfl rfl rfl rfl rfl trivial ?_
    refine s1 10 32 4 rfl rfl rfl rfl rfl rfl trivial ?_
    refine s1 11 40 5 rfl rfl rfl rfl rfl rfl trivial ?_
    refine s1 3 48 6 rfl rfl rfl rfl rfl rfl trivial ?_
    refine s1 4 56 7 rfl rfl rfl rfl rfl rfl trivial ?_
    refine e1 64 rfl ?_
    refine RX_end rfl rfl ?_
    refine xtn ?_
    refine WX_sub [] [(0, listE L), (3, .d .nils), (4, SV.i (firstE L))] [] ⟨rfl, ⟨rfl, rfl, rfl, trivial⟩, trivial⟩ (WX_last (lawT_bad L hin hL h0) ?_)
    rintro π r ho rfl
    exact ⟨free_data rfl, rfl, hE⟩

end Go.Proofs.YtpdojmebloekgaaDoor.Nice.Co
