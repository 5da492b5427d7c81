/- The index of tags: what it holds, and the walk of the program's function that makes it. -/
import Derived.Test.YtlhncpbcbpdcfaaTagMay
import Derived.Test.YtlhncpbcbpdcfaaQuantCount
import Derived.Test.YtlhncpbcbpdcfaaNiceW
namespace Go.Proofs.Ytlhncpbcbpdcfaa.Nice
open Go
set_option linter.unusedVariables false
set_option linter.unusedSimpArgs false
set_option maxRecDepth 100000
set_option maxHeartbeats 4000000
abbrev Key := ByteArray × ByteArray
abbrev Post := List (Key × List Int)
def kv (t : TagD) : Key := (t.key, t.val)
def k0 (t : TagD) : Key := (t.key, ⟨#[]⟩)
def pushE : Post → Key → Int → Post
  | [], k, x => [(k, [x])]
  | p :: E, k, x => if k = p.1 then (k, p.2 ++ [x]) :: E else p :: pushE E k x
def getE : Post → Key → List Int
  | [], _ => []
  | p :: E, k => if k = p.1 then p.2 else getE E k
def keysE (E : Post) : List Key := E.map (·.1)
theorem ixe_none : ∀ {E : Post} {k : Key}, idx2 k (keysE E) = none → (∀ x, pushE E k x = E ++ [(k, [x])]) ∧ getE E k = []
  | [], k, _ => ⟨fun x => rfl, rfl⟩
  | p :: E, k, h => by
    unfold keysE at h
    simp only [List.map_cons, idx2] at h
    by_cases e : k = p.1
    · rw [if_pos e] at h; cases h
    · rw [if_neg e] at h
      obtain ⟨h1, h2⟩ := ixe_none (E := E) (Option.map_eq_none_iff.1 h)
      refine ⟨fun x => ?_, ?_⟩
      · simp only [pushE, if_neg e, h1 x, List.cons_append]
      · simp only [getE, if_neg e, h2]
theorem ixe_some : ∀ {E : Post} {k : Key} {j : Nat}, idx2 k (keysE E) = some j → E[j]? = some (k, getE E k) ∧ ∀ x, pushE E k x = E.set j (k, getE E k ++ [x])
  | [], k, j, h => by cases h
  | p :: E, k, j, h => by
    unfold keysE at h
    simp only [List.map_cons, idx2] at h
    by_cases e : k = p.1
    · rw [if_pos e] at h; cases h
      subst e
      exact ⟨by simp [getE], fun x => by simp [pushE, getE]⟩
    · rw [if_neg e] at h
      obtain ⟨j', h1, rfl⟩ := Option.map_eq_some_iff.1 h
      obtain ⟨h2, h3⟩ := ixe_some (E := E) h1
      refine ⟨by simpa [getE, e] using h2, fun x => ?_⟩
      simp only [pushE, getE, if_neg e, h3 x, List.set_cons_succ]
theorem get_push (k k' : Key) (x : Int) : ∀ E : Post, getE (pushE E k x) k' = if k' = k then getE E k' ++ [x] else getE E k'
  | [] => by simp only [pushE, getE]; by_cases e : k' = k <;> simp [e]
  | p :: E => by
    simp only [pushE]
    by_cases e : k = p.1
    · rw [if_pos e]
      by_cases e2 : k' = k
      · simp only [getE, if_pos e2, if_pos (e2.trans e)]
      · have e3 : ¬ k' = p.1 := fun h => e2 (h.trans e.symm)
        simp only [getE, if_neg e2, if_neg e3]
    · rw [if_neg e]
      simp only [getE]
      by_cases e2 : k' = p.1
      · have e3 : ¬ k' = k := fun h => e (h.symm.trans e2)
        simp only [if_pos e2, if_neg e3]
      · simp only [if_neg e2, get_push k k' x E]
def Bnd (c : Nat) (E : Post) : Prop := ∀ p, p ∈ E → p.2.length ≤ c
theorem bnd_push {c : Nat} {k : Key} {x : Int} : ∀ {E : Post}, Bnd c E → Bnd (c + 1) (pushE E k x)
  | [], h => by intro p hp; simp only [pushE, List.mem_singleton] at hp; subst hp; simp
  | q :: E, h => by
    intro p hp
    simp only [pushE] at hp
    by_cases e : k = q.1
    · rw [if_pos e] at hp
      rcases List.mem_cons.1 hp with rfl | hp
      · have := h q (List.mem_cons_self ..); simp; omega
      · have := h p (List.mem_cons_of_mem _ hp); omega
    · rw [if_neg e] at hp
      rcases List.mem_cons.1 hp with rfl | hp
      · have := h p (List.mem_cons_self ..); omega
      · exact bnd_push (fun p hp => h p (List.mem_cons_of_mem _ hp)) p hp
def idxL (l : List TagD) (i : Int) : Nat → Post → Post
  | 0, E => E
  | n + 1, E => pushE (pushE (idxL l i n E) (kv (l.getD n default)) i) (k0 (l.getD n default)) i
def idxS (ss : List (List TagD)) : Nat → Post
  | 0 => []
  | i + 1 => idxL (ss.getD i []) i (ss.getD i []).length (idxS ss i)
theorem bnd_L {l : List TagD} {i : Int} {c : Nat} {E : Post} (h : Bnd c E) : ∀ n, Bnd (c + 2 * n) (idxL l i n E)
  | 0 => h
  | n + 1 => bnd_push (bnd_push (bnd_L h n))
theorem bnd_mono {c d : Nat} {E : Post} (h : Bnd c E) (hcd : c ≤ d) : Bnd d E := fun p hp => Nat.le_trans (h p hp) hcd
theorem bnd_S {ss : List (List TagD)} (hl : ∀ i, i < ss.length → (ss.getD i []).length ≤ 6) : ∀ i, i ≤ ss.length → Bnd (12 * i) (idxS ss i)
  | 0, _ => fun p hp => by cases hp
  | i + 1, hi => bnd_mono (bnd_L (bnd_S hl i (by omega)) _) (by have := hl i (by omega); omega)
theorem bnd_get {c : Nat} : ∀ {E : Post}, Bnd c E → ∀ k, (getE E k).length ≤ c
  | [], _, _ => Nat.zero_le _
  | p :: E, h, k => by
    unfold getE
    split
    · exact h p (List.mem_cons_self ..)
    · exact bnd_get (fun q hq => h q (List.mem_cons_of_mem _ hq)) k
def famE (E : Post) : List (Value × SV × List InB) := E.map fun p => (k2 p.1, .sl 0 0 p.2.length, [.rows 3 1 p.2.length (intsF p.2)])
theorem famE_at {E : Post} {j : Nat} {k : Key} {l : List Int} (h : E[j]? = some (k, l)) : (famE E)[j]? = some (k2 k, .sl 0 0 l.length, [.rows 3 1 l.length (intsF l)]) := by
  unfold famE; rw [List.getElem?_map, h]; rfl
theorem famE_keys (E : Post) : (famE E).map (·.1) = (keysE E).map k2 := by
  unfold famE keysE; rw [List.map_map, List.map_map]; rfl
theorem famE_len (E : Post) : (famE E).length = E.length := by unfold famE; rw [List.length_map]
theorem two58 : Two Try.prog 58 (((Try.prog.fieldsOf 58)[0]?).getD default) (((Try.prog.fieldsOf 58)[1]?).getD default) := ⟨Try.underlying58, by decide, by decide, rfl, rfl, Try.underlying9, Try.underlying9, by kernel_rfl⟩
theorem KE (E : Post) (k : Key) : KFind Try.prog 58 (k2 k) ((famE E).map (·.1)) (idx2 k (keysE E)) := by
  rw [famE_keys]; exact kfind2 two58 k (keysE E)
theorem push_at (E : Post) (e : Value × SV × List InB) : (famE E ++ [e])[(famE E).length]? = some e := by
  rw [List.getElem?_append_right (Nat.le_refl _)]; simp
theorem set_at {E : Post} {j : Nat} {p : Key × List Int} (h : E[j]? = some p) (e : Value × SV × List InB) : ((famE E).set j e)[j]? = some e := by
  have := (List.getElem?_eq_some_iff.1 h).1
  rw [List.getElem?_set_self (by rw [famE_len]; exact this)]
theorem famE_push {E : Post} {k : Key} {x : Int} (h : idx2 k (keysE E) = none) (e : Value × SV × List InB) : (famE E ++ [e]).set (famE E).length (k2 k, .sl 0 0 1, [.rows 3 1 1 (intsF [x])]) = famE (pushE E k x) := by
  rw [(ixe_none h).1 x]
  unfold famE
  rw [List.set_append_right _ _ (Nat.le_refl _)]
  simp
theorem famE_set {E : Post} {j : Nat} {k : Key} {x : Int} (h : idx2 k (keysE E) = some j) (e : Value × SV × List InB) : ((famE E).set j e).set j (k2 k, .sl 0 0 (getE E k ++ [x]).length, [.rows 3 1 (getE E k ++ [x]).length (intsF (getE E k ++ [x]))]) = famE (pushE E k x) := by
  rw [(ixe_some h).2 x, List.set_set]
  unfold famE
  rw [List.map_set]
theorem agg2_val {M : Imm} {ρ : Names} {a b : ByteArray} {u : Value} (h : VR M ρ (.agg [.d (.val (.string a)), .d (.val (.string b))]) u) : u = k2 (a, b) := by
  obtain ⟨vs, rfl, hs, hr⟩ := agg_case h
  have h0 := hr 0 _ rfl
  have h1 := hr 1 _ rfl
  obtain ⟨u0, e0, r0⟩ := h0
  obtain ⟨u1, e1, r1⟩ := h1
  rw [r0.val] at e0
  rw [r1.val] at e1
  refine congrArg Value.agg (Array.ext_getElem? fun i => ?_)
  match i with
  | 0 => rw [e0]; rfl
  | 1 => rw [e1]; rfl
  | n + 2 =>
    have hs : vs.size = 2 := hs
    rw [Array.getElem?_eq_none (by omega)]; rfl
theorem ints_cat (l : List Int) (x : Int) (i c : Nat) (hi : i < l.length + 1) (hc : c < 1) : catR (intsF l) l.length (litR 1 [.val (.int .i64 x)]) i c = intsF (l ++ [x]) i c := by
  obtain rfl : c = 0 := by omega
  unfold catR intsF litR
  by_cases h : i < l.length
  · rw [if_pos h]; simp [List.getD, List.getElem?_append_left h]
  · obtain rfl : i = l.length := by omega
    rw [if_neg (Nat.lt_irrefl _), Nat.sub_self]
    simp [List.getD]

theorem tindex_any (ss : List (List TagD)) (hin : TagsIn ss) (h40 : ss.length ≤ 40) (h6 : ∀ i, i < ss.length → (ss.getD i []).length ≤ 6) : Spec Try.prog GT 46 [serV ss ss.length] [] (fun r ho => ∃ Z, r = .map 0 ∧ ho = [some (.fam Z ⟨famE (idxS ss ss.length), []⟩)]) := by
  refine start 45 0 Try.func46 rfl rfl rfl rfl ?_
  refine r1 ?_
  refine s1 2 0 1 rfl rfl rfl rfl rfl rfl trivial ?_
  refine e1 8 rfl ?_
  refine keep [0] rfl ?_
  refine r1 ?_
  refine s1 8 8 1 rfl rfl rfl rfl rfl rfl trivial ?_
  refine s1 3 16 2 rfl rfl rfl rfl rfl rfl trivial ?_
  refine e1 24 rfl ?_
  refine keep [0, 3] rfl ?_
  refine tofam 8 rfl ?_
  refine W_seq ?_
  refine r1 ?_
  refine s1 9 24 1 rfl rfl rfl rfl rfl rfl trivial ?_
  refine s1 10 32 2 rfl rfl rfl rfl rfl rfl (by first | trivial | omega) ?_
  refine s1 11 40 3 rfl rfl rfl rfl rfl rfl trivial ?_
  refine e1 48 rfl ?_
  refine keep [3, 9, 10, 11] rfl ?_
  refine W_block ?_
  refine loop (α := Nat × (List Nat)) 1 (fun z => [(3, .map 0), (9, serV ss ss.length), (10, SV.i ss.length), (11, SV.i (z.1))]) (fun z => [some (.fam (z.2) ⟨famE (idxS ss (z.1)), []⟩)]) (fun z => (z.1) ≤ ss.length) (fun z => ss.length - (z.1)) (((0, []) : Nat × (List Nat))) [8] (fun _ => rfl) (show (0) ≤ ss.length from (Nat.zero_le _)) rfl ⟨rfl, rfl, rfl, rfl, trivial⟩ ⟨rfl, trivial⟩ (fun z hx => ?_)
  obtain ⟨i, Z⟩ := z
  show W _ _ _ ⟨tOf [(3, .map 0), (9, serV ss ss.length), (10, SV.i ss.length), (11, SV.i i)], hOf [some (.fam Z ⟨famE (idxS ss i), []⟩)], 1⟩
  have hx : i ≤ ss.length := hx
  refine r1 ?_
  refine s1 12 1 1 rfl rfl rfl rfl rfl rfl (by first | trivial | omega) ?_
  refine e1 9 rfl ?_
  refine keep [3, 9, 10, 11, 12] rfl ?_
  refine W_seq ?_
  refine q1 rfl (fun hc3 => ?_) (fun hc3 => ?_)
  · skip
    try simp only [cs, ne_eq] at hc3
    refine W_skip ?_
    refine tn ?_
    refine W_seq ?_
    refine W_block ?_
    refine r1 ?_
    refine s1 13 9 1 rfl rfl rfl rfl rfl rfl trivial ?_
    refine s1 14 17 2 rfl rfl rfl rfl rfl rfl (by first | trivial | omega) ?_
    refine s1 15 25 3 rfl rfl rfl rfl rfl rfl (by first | trivial | omega) ?_
    refine val 15 (tagsV (ss.getD i [])) rfl (by first | rfl | (unfold tagsV; simp only [Int.toNat_natCast, Nat.zero_add]; rfl)) ?_
    refine s1 4 33 4 rfl rfl rfl rfl rfl rfl trivial ?_
    refine s1 5 41 5 rfl rfl rfl rfl rfl rfl trivial ?_
    refine e1 49 rfl ?_
    refine keep [3, 4, 5, 9, 10, 11] rfl ?_
    refine r1 ?_
    refine s1 16 49 1 rfl rfl rfl rfl rfl rfl trivial ?_
    refine s1 17 57 2 rfl rfl rfl rfl rfl rfl (by first | trivial | omega) ?_
    refine s1 18 65 3 rfl rfl rfl rfl rfl rfl trivial ?_
    refine e1 73 rfl ?_
    refine keep [3, 4, 9, 10, 11, 16, 17, 18] rfl ?_
    refine W_block ?_
    have hl6 := h6 i (by omega)
    have hbd := bnd_S h6 i (by omega)
    refine loop (α := Nat × (List Nat)) 1 (fun z => [(3, .map 0), (4, SV.i i), (9, serV ss ss.length), (10, SV.i ss.length), (11, SV.i i), (16, tagsV (ss.getD i [])), (17, SV.i (ss.getD i []).length), (18, SV.i (z.1))]) (fun z => [some (.fam (z.2) ⟨famE (idxL (ss.getD i []) i (z.1) (idxS ss i)), []⟩)]) (fun z => (z.1) ≤ (ss.getD i []).length) (fun z => (ss.getD i []).length - (z.1)) (((0, Z) : Nat × (List Nat))) [0] (fun _ => rfl) (show (0) ≤ (ss.getD i []).length from (Nat.zero_le _)) rfl ⟨rfl, rfl, rfl, rfl, rfl, rfl, rfl, rfl, trivial⟩ ⟨rfl, trivial⟩ (fun z hx => ?_)
    obtain ⟨n, Z⟩ := z
    show W _ _ _ ⟨tOf [(3, .map 0), (4, SV.i i), (9, serV ss ss.length), (10, SV.i ss.length), (11, SV.i i), (16, tagsV (ss.getD i [])), (17, SV.i (ss.getD i []).length), (18, SV.i n)], hOf [some (.fam Z ⟨famE (idxL (ss.getD i []) i n (idxS ss i)), []⟩)], 1⟩
    have hx : n ≤ (ss.getD i []).length := hx
    refine r1 ?_
    refine s1 19 1 1 rfl rfl rfl rfl rfl rfl (by first | trivial | omega) ?_
    refine e1 9 rfl ?_
    refine keep [3, 4, 9, 10, 11, 16, 17, 18, 19] rfl ?_
    refine W_seq ?_
    refine q1 rfl (fun hc6 => ?_) (fun hc6 => ?_)
    · skip
      try simp only [cs, ne_eq] at hc6
      refine W_skip ?_
      refine tn ?_
      refine W_seq ?_
      refine W_block ?_
      refine r1 ?_
      refine s1 20 9 1 rfl rfl rfl rfl rfl rfl (by first | trivial | omega) ?_
      refine s1 21 17 2 rfl rfl rfl rfl rfl rfl (by first | trivial | omega) ?_
      refine s1 7 25 3 rfl rfl rfl rfl rfl rfl trivial ?_
      refine s0 33 4 rfl rfl rfl rfl rfl (by first | trivial | omega) ?_
      refine e1 41 rfl ?_
      refine keep [3, 4, 7, 9, 10, 11, 16, 17, 18] rfl ?_
      have hb8 : Bnd (12 * i + 2 * n + 0) (idxL (ss.getD i []) i n (idxS ss i)) := bnd_L hbd n
      have hg8 := bnd_get hb8 (kv ((ss.getD i []).getD n default))
      rcases hk8 : idx2 (kv ((ss.getD i []).getD n default)) (keysE (idxL (ss.getD i []) i n (idxS ss i))) with _ | j8
      · skip
        refine r1 ?_
        refine s1 22 41 1 rfl rfl rfl rfl rfl rfl trivial ?_
        refine s1 23 49 2 rfl rfl rfl rfl rfl rfl (by first | trivial | omega) ?_
        refine s1 25 57 3 rfl rfl rfl rfl rfl rfl trivial ?_
        refine s1 26 65 4 rfl rfl rfl rfl rfl rfl trivial ?_
        refine sEntF none (.d .nils) (hk8 ▸ KE (idxL (ss.getD i []) i n (idxS ss i)) (kv ((ss.getD i []).getD n default))) (.inl ⟨rfl, rfl, .slice none 0 0, (by kernel_rfl), rfl, rfl⟩) 27 73 5 rfl rfl rfl rfl rfl rfl Try.underlying64 rfl (fun M ρ u h => agg2_val h) rfl ?_
        refine s1 24 81 6 rfl rfl rfl rfl rfl rfl trivial ?_
        refine s1 28 89 7 rfl rfl rfl rfl rfl rfl (by first | exact ⟨trivial, (by decide), (by decide)⟩ | exact ⟨Nat.le_refl _, trivial, (by show (_ + 1) * 8 ≤ 140737488355328; omega), (by simp only [maxLen]; omega)⟩) ?_
        refine s1 29 97 8 rfl rfl rfl rfl rfl rfl trivial ?_
        refine sEstF ((famE (idxL (ss.getD i []) i n (idxS ss i))).length) (.d .nils) (.sl 89 0 1) (by simp [fset]) 105 9 rfl rfl rfl rfl rfl rfl rfl rfl rfl ?_
        refine e1 113 rfl ?_
        refine keep [3, 4, 7, 9, 10, 11, 16, 17, 18] rfl ?_
        refine torows 89 1 (intsF [(i : Int)]) rfl (by decide) (Nat.le_refl _) (fun i c hi hc => by have hc1 : c < 1 := hc; obtain rfl : i = 0 := (by omega); obtain rfl : c = 0 := (by omega); rfl) ?_
        refine famShut 0 (famE (idxL (ss.getD i []) i n (idxS ss i))).length [89] (.sl 0 0 1) [.rows 3 1 1 (intsF [(i : Int)])] rfl (push_at (idxL (ss.getD i []) i n (idxS ss i)) _) rfl ⟨rfl, trivial⟩ rfl (fun Z2 => ?_)
        refine chval 0 (.fam Z2 ⟨famE (pushE (idxL (ss.getD i []) i n (idxS ss i)) (kv ((ss.getD i []).getD n default)) i), []⟩) rfl (congrArg (fun l => Blk.fam Z2 ⟨l, []⟩) (famE_push hk8 _)) ?_
        have hb9 : Bnd (12 * i + 2 * n + 1) (pushE (idxL (ss.getD i []) i n (idxS ss i)) (kv ((ss.getD i []).getD n default)) i) := bnd_push hb8
        have hg9 := bnd_get hb9 (k0 ((ss.getD i []).getD n default))
        rcases hk9 : idx2 (k0 ((ss.getD i []).getD n default)) (keysE (pushE (idxL (ss.getD i []) i n (idxS ss i)) (kv ((ss.getD i []).getD n default)) i)) with _ | j9
        · skip
          refine rd0 rfl ?_
          refine d1 30 113 1 rfl rfl rfl rfl rfl rfl trivial ?_
          refine d1 31 121 2 rfl rfl rfl rfl rfl rfl trivial ?_
          refine d1 32 129 3 rfl rfl rfl rfl rfl rfl (by first | trivial | omega) ?_
          refine d1 33 137 4 rfl rfl rfl rfl rfl rfl trivial ?_
          refine d1 34 145 5 rfl rfl rfl rfl rfl rfl trivial ?_
          refine d1 35 153 6 rfl rfl rfl rfl rfl rfl trivial ?_
          refine d1 36 161 7 rfl rfl rfl rfl rfl rfl (by first | trivial | omega) ?_
          refine d1 37 169 8 rfl rfl rfl rfl rfl rfl trivial ?_
          refine dLookF none (.d .nils) (hk9 ▸ KE (pushE (idxL (ss.getD i []) i n (idxS ss i)) (kv ((ss.getD i []).getD n default)) i) (k0 ((ss.getD i []).getD n default))) (.inl ⟨rfl, .slice none 0 0, (by kernel_rfl), rfl, rfl⟩) 38 177 9 rfl rfl rfl rfl rfl rfl Try.underlying64 rfl (fun M ρ u h => agg2_val h) rfl rfl ?_
          refine d1 39 185 10 rfl rfl rfl rfl rfl rfl trivial ?_
          refine d1 40 193 11 rfl rfl rfl rfl rfl rfl trivial ?_
          refine d1 41 201 12 rfl rfl rfl rfl rfl rfl (by first | exact ⟨trivial, (by decide), (by decide)⟩ | exact ⟨Nat.le_refl _, trivial, (by show (_ + 1) * 8 ≤ 140737488355328; omega), (by simp only [maxLen]; omega)⟩) ?_
          refine dMapF none (.sl 201 0 1) (hk9 ▸ KE (pushE (idxL (ss.getD i []) i n (idxS ss i)) (kv ((ss.getD i []).getD n default)) i) (k0 ((ss.getD i []).getD n default))) (fun p hp => by cases hp) 209 13 rfl rfl rfl rfl rfl Try.underlying64 rfl (fun M ρ u h => agg2_val h) rfl rfl ?_
          refine de1 217 rfl (by kernel_rfl) ?_
          refine bn ?_
          refine tn ?_
          refine torows 201 1 (intsF [(i : Int)]) rfl (by decide) (Nat.le_refl _) (fun i c hi hc => by have hc1 : c < 1 := hc; obtain rfl : i = 0 := (by omega); obtain rfl : c = 0 := (by omega); rfl) ?_
          refine famShut 0 (famE (pushE (idxL (ss.getD i []) i n (idxS ss i)) (kv ((ss.getD i []).getD n default)) i)).length [201] (.sl 0 0 1) [.rows 3 1 1 (intsF [(i : Int)])] rfl (push_at (pushE (idxL (ss.getD i []) i n (idxS ss i)) (kv ((ss.getD i []).getD n default)) i) _) rfl ⟨rfl, trivial⟩ rfl (fun Z2 => ?_)
          refine chval 0 (.fam Z2 ⟨famE (pushE (pushE (idxL (ss.getD i []) i n (idxS ss i)) (kv ((ss.getD i []).getD n default)) i) (k0 ((ss.getD i []).getD n default)) i), []⟩) rfl (congrArg (fun l => Blk.fam Z2 ⟨l, []⟩) (famE_push hk9 _)) ?_
          refine chval 0 (.fam Z2 ⟨famE (idxL (ss.getD i []) i (n + 1) (idxS ss i)), []⟩) rfl rfl ?_
          refine r0 ?_
          refine sA 42 217 1 rfl rfl rfl rfl rfl rfl rfl rfl rfl (by unfold inRange; omega) ?_
          refine s1 18 225 2 rfl rfl rfl rfl rfl rfl trivial ?_
          refine e1 233 rfl ?_
          refine tn ?_
          exact again (((n + 1, Z2) : Nat × (List Nat))) [0] (show (n + 1) ≤ (ss.getD i []).length from (by omega)) (show (ss.getD i []).length - (n + 1) < (ss.getD i []).length - n from (by omega)) rfl ⟨rfl, rfl, rfl, rfl, rfl, rfl, rfl, rfl, trivial⟩ ⟨rfl, trivial⟩
        · skip
          have hj9 := (ixe_some hk9).1
          refine famOpen 0 j9 rfl (famE_at hj9) rfl rfl (fun Z1 => ?_)
          refine rd0 rfl ?_
          refine d1 30 121 1 rfl rfl rfl rfl rfl rfl trivial ?_
          refine d1 31 129 2 rfl rfl rfl rfl rfl rfl trivial ?_
          refine d1 32 137 3 rfl rfl rfl rfl rfl rfl (by first | trivial | omega) ?_
          refine d1 33 145 4 rfl rfl rfl rfl rfl rfl trivial ?_
          refine d1 34 153 5 rfl rfl rfl rfl rfl rfl trivial ?_
          refine d1 35 161 6 rfl rfl rfl rfl rfl rfl trivial ?_
          refine d1 36 169 7 rfl rfl rfl rfl rfl rfl (by first | trivial | omega) ?_
          refine d1 37 177 8 rfl rfl rfl rfl rfl rfl trivial ?_
          refine dLookF (some j9) (.sl 113 0 (getE (pushE (idxL (ss.getD i []) i n (idxS ss i)) (kv ((ss.getD i []).getD n default)) i) (k0 ((ss.getD i []).getD n default))).length) (hk9 ▸ KE (pushE (idxL (ss.getD i []) i n (idxS ss i)) (kv ((ss.getD i []).getD n default)) i) (k0 ((ss.getD i []).getD n default))) (.inr ⟨j9, rfl, List.mem_singleton.2 rfl⟩) 38 185 9 rfl rfl rfl rfl rfl rfl Try.underlying64 rfl (fun M ρ u h => agg2_val h) rfl rfl ?_
          refine d1 39 193 10 rfl rfl rfl rfl rfl rfl trivial ?_
          refine d1 40 201 11 rfl rfl rfl rfl rfl rfl trivial ?_
          refine d1 41 209 12 rfl rfl rfl rfl rfl rfl (by first | exact ⟨trivial, (by decide), (by decide)⟩ | exact ⟨Nat.le_refl _, trivial, (by show (_ + 1) * 8 ≤ 140737488355328; omega), (by simp only [maxLen]; omega)⟩) ?_
          refine dMapF (some j9) (.sl 209 0 ((getE (pushE (idxL (ss.getD i []) i n (idxS ss i)) (kv ((ss.getD i []).getD n default)) i) (k0 ((ss.getD i []).getD n default))).length + 1)) (hk9 ▸ KE (pushE (idxL (ss.getD i []) i n (idxS ss i)) (kv ((ss.getD i []).getD n default)) i) (k0 ((ss.getD i []).getD n default))) (fun p hp => by rw [List.mem_singleton.1 hp]) 217 13 rfl rfl rfl rfl rfl Try.underlying64 rfl (fun M ρ u h => agg2_val h) rfl rfl ?_
          refine de1 225 rfl (by kernel_rfl) ?_
          refine bn ?_
          refine tn ?_
          refine rowsc 209 (getE (pushE (idxL (ss.getD i []) i n (idxS ss i)) (kv ((ss.getD i []).getD n default)) i) (k0 ((ss.getD i []).getD n default)) ++ [(i : Int)]).length (intsF (getE (pushE (idxL (ss.getD i []) i n (idxS ss i)) (kv ((ss.getD i []).getD n default)) i) (k0 ((ss.getD i []).getD n default)) ++ [(i : Int)])) rfl (by simp) (fun i c hi hc => ints_cat _ _ i c hi hc) ?_
          refine famShut 0 j9 [209] (.sl 0 0 (getE (pushE (idxL (ss.getD i []) i n (idxS ss i)) (kv ((ss.getD i []).getD n default)) i) (k0 ((ss.getD i []).getD n default)) ++ [(i : Int)]).length) [.rows 3 1 (getE (pushE (idxL (ss.getD i []) i n (idxS ss i)) (kv ((ss.getD i []).getD n default)) i) (k0 ((ss.getD i []).getD n default)) ++ [(i : Int)]).length (intsF (getE (pushE (idxL (ss.getD i []) i n (idxS ss i)) (kv ((ss.getD i []).getD n default)) i) (k0 ((ss.getD i []).getD n default)) ++ [(i : Int)]))] rfl (set_at hj9 _) (by rw [List.length_append]; rfl) ⟨rfl, trivial⟩ rfl (fun Z2 => ?_)
          refine chval 0 (.fam Z2 ⟨famE (pushE (pushE (idxL (ss.getD i []) i n (idxS ss i)) (kv ((ss.getD i []).getD n default)) i) (k0 ((ss.getD i []).getD n default)) i), []⟩) rfl (congrArg (fun l => Blk.fam Z2 ⟨l, []⟩) (famE_set hk9 _)) ?_
          refine chval 0 (.fam Z2 ⟨famE (idxL (ss.getD i []) i (n + 1) (idxS ss i)), []⟩) rfl rfl ?_
          refine r0 ?_
          refine sA 42 225 1 rfl rfl rfl rfl rfl rfl rfl rfl rfl (by unfold inRange; omega) ?_
          refine s1 18 233 2 rfl rfl rfl rfl rfl rfl trivial ?_
          refine e1 241 rfl ?_
          refine tn ?_
          exact again (((n + 1, Z2) : Nat × (List Nat))) [0] (show (n + 1) ≤ (ss.getD i []).length from (by omega)) (show (ss.getD i []).length - (n + 1) < (ss.getD i []).length - n from (by omega)) rfl ⟨rfl, rfl, rfl, rfl, rfl, rfl, rfl, rfl, trivial⟩ ⟨rfl, trivial⟩
      · skip
        have hj8 := (ixe_some hk8).1
        refine famOpen 0 j8 rfl (famE_at hj8) rfl rfl (fun Z1 => ?_)
        refine r1 ?_
        refine s1 22 49 1 rfl rfl rfl rfl rfl rfl trivial ?_
        refine s1 23 57 2 rfl rfl rfl rfl rfl rfl (by first | trivial | omega) ?_
        refine s1 25 65 3 rfl rfl rfl rfl rfl rfl trivial ?_
        refine s1 26 73 4 rfl rfl rfl rfl rfl rfl trivial ?_
        refine sEntF (some j8) (.sl 41 0 (getE (idxL (ss.getD i []) i n (idxS ss i)) (kv ((ss.getD i []).getD n default))).length) (hk8 ▸ KE (idxL (ss.getD i []) i n (idxS ss i)) (kv ((ss.getD i []).getD n default))) (.inr ⟨j8, rfl, rfl⟩) 27 81 5 rfl rfl rfl rfl rfl rfl Try.underlying64 rfl (fun M ρ u h => agg2_val h) rfl ?_
        refine s1 24 89 6 rfl rfl rfl rfl rfl rfl trivial ?_
        refine s1 28 97 7 rfl rfl rfl rfl rfl rfl (by first | exact ⟨trivial, (by decide), (by decide)⟩ | exact ⟨Nat.le_refl _, trivial, (by show (_ + 1) * 8 ≤ 140737488355328; omega), (by simp only [maxLen]; omega)⟩) ?_
        refine s1 29 105 8 rfl rfl rfl rfl rfl rfl trivial ?_
        refine sEstF (j8) (.sl 41 0 (getE (idxL (ss.getD i []) i n (idxS ss i)) (kv ((ss.getD i []).getD n default))).length) (.sl 97 0 ((getE (idxL (ss.getD i []) i n (idxS ss i)) (kv ((ss.getD i []).getD n default))).length + 1)) (by have := (List.getElem?_eq_some_iff.1 hj8).1; simp only [fset, List.length_set, famE_len]; exact this) 113 9 rfl rfl rfl rfl rfl rfl rfl rfl rfl ?_
        refine e1 121 rfl ?_
        refine keep [3, 4, 7, 9, 10, 11, 16, 17, 18] rfl ?_
        refine rowsc 97 (getE (idxL (ss.getD i []) i n (idxS ss i)) (kv ((ss.getD i []).getD n default)) ++ [(i : Int)]).length (intsF (getE (idxL (ss.getD i []) i n (idxS ss i)) (kv ((ss.getD i []).getD n default)) ++ [(i : Int)])) rfl (by simp) (fun i c hi hc => ints_cat _ _ i c hi hc) ?_
        refine famShut 0 j8 [97] (.sl 0 0 (getE (idxL (ss.getD i []) i n (idxS ss i)) (kv ((ss.getD i []).getD n default)) ++ [(i : Int)]).length) [.rows 3 1 (getE (idxL (ss.getD i []) i n (idxS ss i)) (kv ((ss.getD i []).getD n default)) ++ [(i : Int)]).length (intsF (getE (idxL (ss.getD i []) i n (idxS ss i)) (kv ((ss.getD i []).getD n default)) ++ [(i : Int)]))] rfl (set_at hj8 _) (by rw [List.length_append]; rfl) ⟨rfl, trivial⟩ rfl (fun Z2 => ?_)
        refine chval 0 (.fam Z2 ⟨famE (pushE (idxL (ss.getD i []) i n (idxS ss i)) (kv ((ss.getD i []).getD n default)) i), []⟩) rfl (congrArg (fun l => Blk.fam Z2 ⟨l, []⟩) (famE_set hk8 _)) ?_
        have hb9 : Bnd (12 * i + 2 * n + 1) (pushE (idxL (ss.getD i []) i n (idxS ss i)) (kv ((ss.getD i []).getD n default)) i) := bnd_push hb8
        have hg9 := bnd_get hb9 (k0 ((ss.getD i []).getD n default))
        rcases hk9 : idx2 (k0 ((ss.getD i []).getD n default)) (keysE (pushE (idxL (ss.getD i []) i n (idxS ss i)) (kv ((ss.getD i []).getD n default)) i)) with _ | j9
        · skip
          refine rd0 rfl ?_
          refine d1 30 121 1 rfl rfl rfl rfl rfl rfl trivial ?_
          refine d1 31 129 2 rfl rfl rfl rfl rfl rfl trivial ?_
          refine d1 32 137 3 rfl rfl rfl rfl rfl rfl (by first | trivial | omega) ?_
          refine d1 33 145 4 rfl rfl rfl rfl rfl rfl trivial ?_
          refine d1 34 153 5 rfl rfl rfl rfl rfl rfl trivial ?_
          refine d1 35 161 6 rfl rfl rfl rfl rfl rfl trivial ?_
          refine d1 36 169 7 rfl rfl rfl rfl rfl rfl (by first | trivial | omega) ?_
          refine d1 37 177 8 rfl rfl rfl rfl rfl rfl trivial ?_
          refine dLookF none (.d .nils) (hk9 ▸ KE (pushE (idxL (ss.getD i []) i n (idxS ss i)) (kv ((ss.getD i []).getD n default)) i) (k0 ((ss.getD i []).getD n default))) (.inl ⟨rfl, .slice none 0 0, (by kernel_rfl), rfl, rfl⟩) 38 185 9 rfl rfl rfl rfl rfl rfl Try.underlying64 rfl (fun M ρ u h => agg2_val h) rfl rfl ?_
          refine d1 39 193 10 rfl rfl rfl rfl rfl rfl trivial ?_
          refine d1 40 201 11 rfl rfl rfl rfl rfl rfl trivial ?_
          refine d1 41 209 12 rfl rfl rfl rfl rfl rfl (by first | exact ⟨trivial, (by decide), (by decide)⟩ | exact ⟨Nat.le_refl _, trivial, (by show (_ + 1) * 8 ≤ 140737488355328; omega), (by simp only [maxLen]; omega)⟩) ?_
          refine dMapF none (.sl 209 0 1) (hk9 ▸ KE (pushE (idxL (ss.getD i []) i n (idxS ss i)) (kv ((ss.getD i []).getD n default)) i) (k0 ((ss.getD i []).getD n default))) (fun p hp => by cases hp) 217 13 rfl rfl rfl rfl rfl Try.underlying64 rfl (fun M ρ u h => agg2_val h) rfl rfl ?_
          refine de1 225 rfl (by kernel_rfl) ?_
          refine bn ?_
          refine tn ?_
          refine torows 209 1 (intsF [(i : Int)]) rfl (by decide) (Nat.le_refl _) (fun i c hi hc => by have hc1 : c < 1 := hc; obtain rfl : i = 0 := (by omega); obtain rfl : c = 0 := (by omega); rfl) ?_
          refine famShut 0 (famE (pushE (idxL (ss.getD i []) i n (idxS ss i)) (kv ((ss.getD i []).getD n default)) i)).length [209] (.sl 0 0 1) [.rows 3 1 1 (intsF [(i : Int)])] rfl (push_at (pushE (idxL (ss.getD i []) i n (idxS ss i)) (kv ((ss.getD i []).getD n default)) i) _) rfl ⟨rfl, trivial⟩ rfl (fun Z2 => ?_)
          refine chval 0 (.fam Z2 ⟨famE (pushE (pushE (idxL (ss.getD i []) i n (idxS ss i)) (kv ((ss.getD i []).getD n default)) i) (k0 ((ss.getD i []).getD n default)) i), []⟩) rfl (congrArg (fun l => Blk.fam Z2 ⟨l, []⟩) (famE_push hk9 _)) ?_
          refine chval 0 (.fam Z2 ⟨famE (idxL (ss.getD i []) i (n + 1) (idxS ss i)), []⟩) rfl rfl ?_
          refine r0 ?_
          refine sA 42 225 1 rfl rfl rfl rfl rfl rfl rfl rfl rfl (by unfold inRange; omega) ?_
          refine s1 18 233 2 rfl rfl rfl rfl rfl rfl trivial ?_
          refine e1 241 rfl ?_
          refine tn ?_
          exact again (((n + 1, Z2) : Nat × (List Nat))) [0] (show (n + 1) ≤ (ss.getD i []).length from (by omega)) (show (ss.getD i []).length - (n + 1) < (ss.getD i []).length - n from (by omega)) rfl ⟨rfl, rfl, rfl, rfl, rfl, rfl, rfl, rfl, trivial⟩ ⟨rfl, trivial⟩
        · skip
          have hj9 := (ixe_some hk9).1
          refine famOpen 0 j9 rfl (famE_at hj9) rfl rfl (fun Z1 => ?_)
          refine rd0 rfl ?_
          refine d1 30 129 1 rfl rfl rfl rfl rfl rfl trivial ?_
          refine d1 31 137 2 rfl rfl rfl rfl rfl rfl trivial ?_
          refine d1 32 145 3 rfl rfl rfl rfl rfl rfl (by first | trivial | omega) ?_
          refine d1 33 153 4 rfl rfl rfl rfl rfl rfl trivial ?_
          refine d1 34 161 5 rfl rfl rfl rfl rfl rfl trivial ?_
          refine d1 35 169 6 rfl rfl rfl rfl rfl rfl trivial ?_
          refine d1 36 177 7 rfl rfl rfl rfl rfl rfl (by first | trivial | omega) ?_
          refine d1 37 185 8 rfl rfl rfl rfl rfl rfl trivial ?_
          refine dLookF (some j9) (.sl 121 0 (getE (pushE (idxL (ss.getD i []) i n (idxS ss i)) (kv ((ss.getD i []).getD n default)) i) (k0 ((ss.getD i []).getD n default))).length) (hk9 ▸ KE (pushE (idxL (ss.getD i []) i n (idxS ss i)) (kv ((ss.getD i []).getD n default)) i) (k0 ((ss.getD i []).getD n default))) (.inr ⟨j9, rfl, List.mem_singleton.2 rfl⟩) 38 193 9 rfl rfl rfl rfl rfl rfl Try.underlying64 rfl (fun M ρ u h => agg2_val h) rfl rfl ?_
          refine d1 39 201 10 rfl rfl rfl rfl rfl rfl trivial ?_
          refine d1 40 209 11 rfl rfl rfl rfl rfl rfl trivial ?_
          refine d1 41 217 12 rfl rfl rfl rfl rfl rfl (by first | exact ⟨trivial, (by decide), (by decide)⟩ | exact ⟨Nat.le_refl _, trivial, (by show (_ + 1) * 8 ≤ 140737488355328; omega), (by simp only [maxLen]; omega)⟩) ?_
          refine dMapF (some j9) (.sl 217 0 ((getE (pushE (idxL (ss.getD i []) i n (idxS ss i)) (kv ((ss.getD i []).getD n default)) i) (k0 ((ss.getD i []).getD n default))).length + 1)) (hk9 ▸ KE (pushE (idxL (ss.getD i []) i n (idxS ss i)) (kv ((ss.getD i []).getD n default)) i) (k0 ((ss.getD i []).getD n default))) (fun p hp => by rw [List.mem_singleton.1 hp]) 225 13 rfl rfl rfl rfl rfl Try.underlying64 rfl (fun M ρ u h => agg2_val h) rfl rfl ?_
          refine de1 233 rfl (by kernel_rfl) ?_
          refine bn ?_
          refine tn ?_
          refine rowsc 217 (getE (pushE (idxL (ss.getD i []) i n (idxS ss i)) (kv ((ss.getD i []).getD n default)) i) (k0 ((ss.getD i []).getD n default)) ++ [(i : Int)]).length (intsF (getE (pushE (idxL (ss.getD i []) i n (idxS ss i)) (kv ((ss.getD i []).getD n default)) i) (k0 ((ss.getD i []).getD n default)) ++ [(i : Int)])) rfl (by simp) (fun i c hi hc => ints_cat _ _ i c hi hc) ?_
          refine famShut 0 j9 [217] (.sl 0 0 (getE (pushE (idxL (ss.getD i []) i n (idxS ss i)) (kv ((ss.getD i []).getD n default)) i) (k0 ((ss.getD i []).getD n default)) ++ [(i : Int)]).length) [.rows 3 1 (getE (pushE (idxL (ss.getD i []) i n (idxS ss i)) (kv ((ss.getD i []).getD n default)) i) (k0 ((ss.getD i []).getD n default)) ++ [(i : Int)]).length (intsF (getE (pushE (idxL (ss.getD i []) i n (idxS ss i)) (kv ((ss.getD i []).getD n default)) i) (k0 ((ss.getD i []).getD n default)) ++ [(i : Int)]))] rfl (set_at hj9 _) (by rw [List.length_append]; rfl) ⟨rfl, trivial⟩ rfl (fun Z2 => ?_)
          refine chval 0 (.fam Z2 ⟨famE (pushE (pushE (idxL (ss.getD i []) i n (idxS ss i)) (kv ((ss.getD i []).getD n default)) i) (k0 ((ss.getD i []).getD n default)) i), []⟩) rfl (congrArg (fun l => Blk.fam Z2 ⟨l, []⟩) (famE_set hk9 _)) ?_
          refine chval 0 (.fam Z2 ⟨famE (idxL (ss.getD i []) i (n + 1) (idxS ss i)), []⟩) rfl rfl ?_
          refine r0 ?_
          refine sA 42 233 1 rfl rfl rfl rfl rfl rfl rfl rfl rfl (by unfold inRange; omega) ?_
          refine s1 18 241 2 rfl rfl rfl rfl rfl rfl trivial ?_
          refine e1 249 rfl ?_
          refine tn ?_
          exact again (((n + 1, Z2) : Nat × (List Nat))) [0] (show (n + 1) ≤ (ss.getD i []).length from (by omega)) (show (ss.getD i []).length - (n + 1) < (ss.getD i []).length - n from (by omega)) rfl ⟨rfl, rfl, rfl, rfl, rfl, rfl, rfl, rfl, trivial⟩ ⟨rfl, trivial⟩
    · skip
      try simp only [cs, ne_eq] at hc6
      refine W_exit ?_
      refine tx ?_
      refine tx ?_
      refine bx ?_
      refine bn ?_
      refine tn ?_
      refine r0 ?_
      refine sA 43 9 1 rfl rfl rfl rfl rfl rfl rfl rfl rfl (by unfold inRange; omega) ?_
      refine s1 11 17 2 rfl rfl rfl rfl rfl rfl trivial ?_
      refine e1 25 rfl ?_
      refine tn ?_
      obtain rfl : n = (ss.getD i []).length := (by omega)
      exact again (((i + 1, Z) : Nat × (List Nat))) [0] (show (i + 1) ≤ ss.length from (by omega)) (show ss.length - (i + 1) < ss.length - i from (by omega)) rfl ⟨rfl, rfl, rfl, rfl, trivial⟩ ⟨rfl, trivial⟩
  · skip
    try simp only [cs, ne_eq] at hc3
    refine W_exit ?_
    refine tx ?_
    refine tx ?_
    refine bx ?_
    refine tn ?_
    refine r1 ?_
    refine s1 44 9 1 rfl rfl rfl rfl rfl rfl trivial ?_
    refine s1 2 17 2 rfl rfl rfl rfl rfl rfl trivial ?_
    refine e1 25 rfl ?_
    refine keep [2] rfl ?_
    refine W_ret ?_
    obtain rfl : i = ss.length := (by omega)
    exact out1 2 (.map 0) (π := [0]) (hout := [some (.fam Z ⟨famE (idxS ss ss.length), []⟩)]) Try.results46 rfl rfl rfl rfl ⟨rfl, trivial⟩ ⟨Z, rfl, rfl⟩

end Go.Proofs.Ytlhncpbcbpdcfaa.Nice
