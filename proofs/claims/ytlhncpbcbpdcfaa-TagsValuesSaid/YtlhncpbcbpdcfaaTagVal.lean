/- The values of a key: the walk of the program. -/
import Derived.Test.YtlhncpbcbpdcfaaTagValS
import Derived.Test.YtlhncpbcbpdcfaaTagSel
namespace Go.Proofs.Ytlhncpbcbpdcfaa.Nice
open Go Go.Proofs
set_option linter.unusedVariables false
set_option linter.unusedSimpArgs false
set_option maxRecDepth 100000
set_option maxHeartbeats 4000000

theorem kS_val (k : Key) : ∀ M ρ, VR M ρ (.agg [.d (.val (.string k.1)), .d (.val (.string k.2))]) (k2 k) := by
  intro M ρ
  refine VR.aggOf _ _ rfl fun i s hs => ?_
  match i, hs with
  | 0, hs => cases hs; exact ⟨_, rfl, .d _ _ (.val _ rfl)⟩
  | 1, hs => cases hs; exact ⟨_, rfl, .d _ _ (.val _ rfl)⟩
  | n + 2, hs => simp at hs
def valP (p : Bool) (ss : List (List TagD)) (key : ByteArray) : List Str × List Int × Int :=
  if p = false ∨ nameB key = false then ([], [], 4) else (valsL (idxS ss ss.length) key, (valsL (idxS ss ss.length) key).map (cntE (idxS ss ss.length) key), 0)
theorem val_no {p : Bool} {ss : List (List TagD)} {key : ByteArray} (h : p = false ∨ nameB key = false) : valP p ss key = ([], [], 4) := by unfold valP; rw [if_pos h]
theorem val_yes {p : Bool} {ss : List (List TagD)} {key : ByteArray} (h : p = true) (h2 : nameB key = true) : valP p ss key = (valsL (idxS ss ss.length) key, (valsL (idxS ss ss.length) key).map (cntE (idxS ss ss.length) key), 0) := by unfold valP; rw [if_neg (by rw [h, h2]; decide)]
theorem size_push {m : Nat} {k : Key} {x : Int} (hk : k.2.size ≤ m) : ∀ {E : Post}, (∀ p, p ∈ E → p.1.2.size ≤ m) → ∀ p, p ∈ pushE E k x → p.1.2.size ≤ m
  | [], _, p, hp => by simp only [pushE, List.mem_singleton] at hp; subst hp; exact hk
  | q :: E, h, p, hp => by
    simp only [pushE] at hp
    by_cases e : k = q.1
    · rw [if_pos e] at hp
      rcases List.mem_cons.1 hp with rfl | hp
      · exact hk
      · exact h p (List.mem_cons_of_mem _ hp)
    · rw [if_neg e] at hp
      rcases List.mem_cons.1 hp with rfl | hp
      · exact h p (List.mem_cons_self ..)
      · exact size_push hk (fun p hp => h p (List.mem_cons_of_mem _ hp)) p hp
theorem size_L {m : Nat} {l : List TagD} (hl : ∀ k, (l.getD k default).val.size ≤ m) (i : Int) {E : Post} (h : ∀ p, p ∈ E → p.1.2.size ≤ m) : ∀ n p, p ∈ idxL l i n E → p.1.2.size ≤ m
  | 0 => h
  | n + 1 => size_push (Nat.zero_le _) (size_push (hl n) (size_L hl i h n))
theorem size_S {m : Nat} {ss : List (List TagD)} (hl : ∀ i k, ((ss.getD i []).getD k default).val.size ≤ m) : ∀ i p, p ∈ idxS ss i → p.1.2.size ≤ m
  | 0 => fun p hp => by cases hp
  | i + 1 => size_L (hl i) _ (size_S hl i) _
theorem len_push (k : Key) (x : Int) : ∀ E : Post, (pushE E k x).length ≤ E.length + 1
  | [] => Nat.le_refl _
  | q :: E => by
    have := len_push k x E
    simp only [pushE]
    split <;> simp only [List.length_cons] <;> omega
theorem len_L (l : List TagD) (i : Int) (E : Post) : ∀ n, (idxL l i n E).length ≤ E.length + 2 * n
  | 0 => Nat.le_refl _
  | n + 1 => by
    have h1 := len_L l i E n
    have h2 := len_push (kv (l.getD n default)) i (idxL l i n E)
    have h3 := len_push (k0 (l.getD n default)) i (pushE (idxL l i n E) (kv (l.getD n default)) i)
    unfold idxL; omega
theorem len_S {ss : List (List TagD)} (hl : ∀ i, i < ss.length → (ss.getD i []).length ≤ 6) : ∀ i, i ≤ ss.length → (idxS ss i).length ≤ 12 * i
  | 0, _ => by simp [idxS]
  | i + 1, hi => by
    have h1 := len_S hl i (by omega)
    have h2 := len_L (ss.getD i []) i (idxS ss i) (ss.getD i []).length
    have h3 := hl i (by omega)
    unfold idxS; omega
theorem cnts_sz {m : Nat} {E : Post} (h : ∀ p, p ∈ E → p.1.2.size ≤ m) (key : ByteArray) (seen : List Nat) : ∀ c, c ∈ cnts E key seen → c.1.size ≤ m := by
  intro c hc
  obtain ⟨j, _, p, hp, _, _, rfl⟩ := mem_cnts.1 hc
  exact h p (List.mem_of_getElem? hp)
theorem cnts_add {E : Post} {key : ByteArray} {seen : List Nat} {j : Nat} {k : Key} {l : List Int} (hE : E[j]? = some (k, l)) (h1 : k.1 = key) (h2 : ¬ k.2 = ⟨#[]⟩) : cnts E key (seen ++ [j]) = cnts E key seen ++ [(k.2, (l.length : Int))] := by
  rw [cnts_snoc, hE]
  show _ ++ (oneE key (k, l)).toList = _
  unfold oneE relE
  rw [if_pos (by rw [Bool.and_eq_true, decide_eq_true_eq, decide_eq_true_eq]; exact ⟨h1, h2⟩)]; rfl
theorem cnts_same {E : Post} {key : ByteArray} {seen : List Nat} {j : Nat} {k : Key} {l : List Int} (hE : E[j]? = some (k, l)) (h : ¬ (k.1 = key ∧ ¬ k.2 = ⟨#[]⟩)) : cnts E key (seen ++ [j]) = cnts E key seen := by
  rw [cnts_snoc, hE]
  show _ ++ (oneE key (k, l)).toList = _
  unfold oneE relE
  rw [if_neg (by rw [Bool.and_eq_true, decide_eq_true_eq, decide_eq_true_eq]; exact h)]; simp
theorem cE_set {E : Post} (hn : (keysE E).Nodup) {key : ByteArray} {seen : List Nat} {j : Nat} {k : Key} {l : List Int} (hE : E[j]? = some (k, l)) (h1 : k.1 = key) (h2 : ¬ k.2 = ⟨#[]⟩) (hj : j ∉ seen) :
    mset .string (.string k.2) (.val (.int .i64 l.length)) (cE (cnts E key seen)) = cE (cnts E key (seen ++ [j])) := by
  have h3 : mfind .string (.string k.2) (cE (cnts E key seen)) = some none := by
    rw [mfind_cE, clook_none (cnts_fresh hn hE h1 hj)]; rfl
  rw [mset_none h3, cnts_add hE h1 h2, ← cE_snoc]
theorem find_none {E : Post} (hn : (keysE E).Nodup) {key : ByteArray} {seen : List Nat} {j : Nat} {k : Key} {l : List Int} (hE : E[j]? = some (k, l)) (h1 : k.1 = key) (hj : j ∉ seen) : mfind .string (.string k.2) (cE (cnts E key seen)) = some none := by
  rw [mfind_cE, clook_none (cnts_fresh hn hE h1 hj)]; rfl
theorem map_take_succ {V : List Str} (f : Str → Int) {n : Nat} (h : n < V.length) : (V.take (n + 1)).map f = (V.take n).map f ++ [f (V.getD n [])] := by
  rw [List.take_add_one, List.getElem?_eq_getElem h, List.map_append]
  simp [List.getD, h]
theorem getD_in {V : List Str} {n : Nat} (h : n < V.length) : V.getD n [] ∈ V := by
  rw [show V.getD n [] = V[n] from by simp [List.getD, h]]; exact List.getElem_mem h

theorem mkKeys_any (es : List (Value × D)) : Spec Try.prog GT 51 [.map 0] [.map es] (fun r ho => r = .fn 62 [.ptr 1 0 0] ∧ ho = [some (.map es), some (.cells 71 1 [.map 0])]) := by
  refine start 4 1 Try.func51 rfl rfl rfl rfl ?_
  refine r1 ?_
  refine s1 1 1 1 rfl rfl rfl rfl rfl rfl trivial ?_
  refine s1 2 9 2 rfl rfl rfl rfl rfl rfl trivial ?_
  refine e1 17 rfl ?_
  refine keep [1] rfl ?_
  refine r1 ?_
  refine s1 3 17 1 rfl rfl rfl rfl rfl rfl trivial ?_
  refine s1 2 25 2 rfl rfl rfl rfl rfl rfl trivial ?_
  refine e1 33 rfl ?_
  refine keep [2] rfl ?_
  refine W_ret ?_
  exact out1 2 (.fn 62 [.ptr 1 0 0]) (π := [0, 1]) (hout := [some (.map es), some (.cells 71 1 [.map 0])]) Try.results51 rfl rfl rfl rfl ⟨rfl, rfl, trivial⟩ ⟨rfl, rfl⟩

theorem values_any (ss : List (List TagD)) (key : ByteArray) (hin : TagsIn ss) (hks : key.size ≤ 9223372036854775807) (p : Bool) (hp : p = true ↔ TagsOk ss) : Spec Try.prog GT 24 [serV ss ss.length, .d (.val (.string key))] [] (fun r ho => r = SV.tup [strsV (valP p ss key).1, intsV (valP p ss key).2.1, SV.i (valP p ss key).2.2] ∧ ho = []) := by
  have hssn := hin.n
  refine start 63 0 Try.func24 rfl rfl rfl rfl ?_
  refine r1 ?_
  refine s1 4 0 1 rfl rfl rfl rfl rfl rfl trivial ?_
  refine s1 5 8 2 rfl rfl rfl rfl rfl rfl trivial ?_
  refine s1 6 16 3 rfl rfl rfl rfl rfl rfl trivial ?_
  refine e1 24 rfl ?_
  refine keep [0, 1] rfl ?_
  refine W_seq ?_
  refine r1 ?_
  refine s1 14 24 1 rfl rfl rfl rfl rfl rfl trivial ?_
  refine c1 (tagsMay_any ss hin p hp) [] [] 15 32 2 rfl rfl rfl rfl rfl rfl rfl rfl Try.func20 rfl rfl rfl rfl trivial rfl rfl ?_
  refine s1 16 40 3 rfl rfl rfl rfl rfl rfl trivial ?_
  refine s1 17 48 4 rfl rfl rfl rfl rfl rfl trivial ?_
  refine ask 17 rfl (fun hg1_17 => ?_) (fun hg1_17 => ?_)
  · skip
    try simp only [cs, ne_eq] at hg1_17
    refine g0 3 false 17 18 5 rfl rfl rfl rfl rfl rfl ?_
    refine g0 3 false 17 19 6 rfl rfl rfl rfl rfl rfl ?_
    refine g0 3 false 17 20 7 rfl rfl rfl rfl rfl rfl ?_
    refine s1 21 80 8 rfl rfl rfl rfl rfl rfl trivial ?_
    refine e1 88 rfl ?_
    refine keep [0, 1, 21] rfl ?_
    refine q1 rfl (fun hc1 => ?_) (fun hc1 => ?_)
    · skip
      try simp only [cs, ne_eq] at hc1
      refine r1 ?_
      refine s1 4 88 1 rfl rfl rfl rfl rfl rfl trivial ?_
      refine s1 5 96 2 rfl rfl rfl rfl rfl rfl trivial ?_
      refine s1 6 104 3 rfl rfl rfl rfl rfl rfl trivial ?_
      refine e1 112 rfl ?_
      refine keep [4, 5, 6] rfl ?_
      refine nilv 4 1 (sF []) rfl ?_
      refine nilv 5 1 (intsF []) rfl ?_
      refine W_ret ?_
      refine tr ?_
      exact out3 4 5 6 (strsV (valP p ss key).1) (intsV (valP p ss key).2.1) (SV.i (valP p ss key).2.2) (π := []) (hout := []) Try.results24 rfl rfl rfl (by rw [val_no (by first | (left; simpa using hg1_17) | (right; simpa using hc1))]; rfl) (by rw [val_no (by first | (left; simpa using hg1_17) | (right; simpa using hc1))]; rfl) (by rw [val_no (by first | (left; simpa using hg1_17) | (right; simpa using hc1))]; rfl) rfl rfl trivial ⟨rfl, rfl⟩
    · skip
      exact absurd hc1 (by decide)
  · skip
    try simp only [cs, ne_eq] at hg1_17
    refine g1 3 false 17 18 5 rfl rfl rfl rfl rfl ?_
    refine s1 18 56 5 rfl rfl rfl rfl rfl rfl trivial ?_
    refine g1 3 false 17 19 6 rfl rfl rfl rfl rfl ?_
    refine c1 (name_any key hks) [] [] 19 64 6 rfl rfl rfl rfl rfl rfl rfl rfl Try.func40 rfl rfl rfl rfl trivial rfl rfl ?_
    refine g1 3 false 17 20 7 rfl rfl rfl rfl rfl ?_
    refine s1 20 72 7 rfl rfl rfl rfl rfl rfl trivial ?_
    refine s1 21 80 8 rfl rfl rfl rfl rfl rfl trivial ?_
    refine e1 88 rfl ?_
    refine keep [0, 1, 21] rfl ?_
    refine q1 rfl (fun hc1 => ?_) (fun hc1 => ?_)
    · skip
      try simp only [cs, ne_eq] at hc1
      refine r1 ?_
      refine s1 4 88 1 rfl rfl rfl rfl rfl rfl trivial ?_
      refine s1 5 96 2 rfl rfl rfl rfl rfl rfl trivial ?_
      refine s1 6 104 3 rfl rfl rfl rfl rfl rfl trivial ?_
      refine e1 112 rfl ?_
      refine keep [4, 5, 6] rfl ?_
      refine nilv 4 1 (sF []) rfl ?_
      refine nilv 5 1 (intsF []) rfl ?_
      refine W_ret ?_
      refine tr ?_
      exact out3 4 5 6 (strsV (valP p ss key).1) (intsV (valP p ss key).2.1) (SV.i (valP p ss key).2.2) (π := []) (hout := []) Try.results24 rfl rfl rfl (by rw [val_no (by first | (left; simpa using hg1_17) | (right; simpa using hc1))]; rfl) (by rw [val_no (by first | (left; simpa using hg1_17) | (right; simpa using hc1))]; rfl) (by rw [val_no (by first | (left; simpa using hg1_17) | (right; simpa using hc1))]; rfl) rfl rfl trivial ⟨rfl, rfl⟩
    · skip
      try simp only [cs, ne_eq] at hc1
      refine W_skip ?_
      refine tn ?_
      have hpt : p = true := (by simpa using hg1_17)
      have hnt : nameB key = true := (by simpa using hc1)
      have hok := hp.1 hpt
      have h40 := hok.1
      have h6 : ∀ i, i < ss.length → (ss.getD i []).length ≤ 6 := fun i hi => (hok.2 i hi).len
      have hnd := nodup_S ss ss.length
      have hEl := len_S h6 ss.length (Nat.le_refl _)
      refine r1 ?_
      refine s1 22 88 1 rfl rfl rfl rfl rfl rfl trivial ?_
      refine s1 7 96 2 rfl rfl rfl rfl rfl rfl trivial ?_
      refine e1 104 rfl ?_
      refine keep [0, 1, 7] rfl ?_
      refine chval 88 (.map (cE (cnts (idxS ss ss.length) key []))) rfl rfl ?_
      refine W_seq ?_
      refine r1 ?_
      refine s1 23 104 1 rfl rfl rfl rfl rfl rfl trivial ?_
      refine cQ (tindex_any ss hin h40 h6) [] 24 112 2 rfl rfl rfl rfl rfl rfl rfl Try.func46 rfl rfl rfl trivial ?_
      rintro _ _ ⟨Z, rfl, rfl⟩
      refine val 24 (.map 112) rfl rfl ?_
      refine hval 112 _ rfl (.fam Z ⟨famE (idxS ss ss.length), []⟩) rfl ?_
      refine sRange 112 (idxS ss ss.length).length 25 120 3 rfl rfl rfl rfl rfl rfl Try.underlying64 rfl rfl (famE_len (idxS ss ss.length)) ?_
      refine e1 128 rfl ?_
      refine keep [1, 7, 25] rfl ?_
      refine W_block ?_
      refine loop (α := (List Nat)) 3 (fun seen => [(1, .d (.val (.string key))), (7, .map 2), (25, .ptr 0 0 0)]) (fun seen => [some (.iter (.map 1) (idxS ss ss.length).length (seen)), some (.fam Z ⟨famE (idxS ss ss.length), []⟩), some (.map (cE (cnts (idxS ss ss.length) key (seen))))]) (fun seen => (seen).Nodup ∧ ∀ q0, q0 ∈ (seen) → q0 < (idxS ss ss.length).length) (fun seen => (idxS ss ss.length).length - (seen).length) ((([]) : (List Nat))) [120, 112, 88] (fun _ => rfl) (show ([]).Nodup ∧ ∀ q0, q0 ∈ ([]) → q0 < (idxS ss ss.length).length from ⟨List.nodup_nil, fun j hj => by cases hj⟩) rfl ⟨rfl, rfl, rfl, trivial⟩ ⟨rfl, rfl, rfl, trivial⟩ (fun seen hx => ?_)
      show W _ _ _ ⟨tOf [(1, .d (.val (.string key))), (7, .map 2), (25, .ptr 0 0 0)], hOf [some (.iter (.map 1) (idxS ss ss.length).length seen), some (.fam Z ⟨famE (idxS ss ss.length), []⟩), some (.map (cE (cnts (idxS ss ss.length) key seen)))], 3⟩
      have hx : seen.Nodup ∧ ∀ q0, q0 ∈ seen → q0 < (idxS ss ss.length).length := hx
      obtain ⟨hsn, hsl⟩ := hx
      refine r1 ?_
      refine sNext 26 3 1 rfl rfl rfl rfl rfl rfl rfl rfl rfl (famE_len (idxS ss ss.length)) (fun hall => ?_) (fun j hj hs => ?_)
      · skip
        refine s1 27 11 2 rfl rfl rfl rfl rfl rfl trivial ?_
        refine e1 19 rfl ?_
        refine keep [1, 7, 25, 27] rfl ?_
        refine W_seq ?_
        refine q1 rfl (fun hc5 => ?_) (fun hc5 => ?_)
        · skip
          exact absurd hc5 (by decide)
        · skip
          try simp only [cs, ne_eq] at hc5
          refine W_exit ?_
          refine tx ?_
          refine tx ?_
          refine bx ?_
          refine tn ?_
          have hsp := seen_perm hsn hsl hall
          have hsl2 := seen_len hsn hsl
          refine r1 ?_
          refine s1 45 19 1 rfl rfl rfl rfl rfl rfl trivial ?_
          refine c1 (mkKeys_any (cE (cnts (idxS ss ss.length) key seen))) [2] [2, 27] 46 27 2 rfl rfl rfl rfl rfl rfl rfl rfl Try.func51 rfl rfl rfl rfl ⟨rfl, trivial⟩ rfl rfl ?_
          refine c1 (sortedKeys_spec (cnts (idxS ss ss.length) key seen) (cnts_nodup hnd key hsn) (Nat.le_trans (cnts_len _ _ _) (by omega)) (cnts_sz (size_S (m := 9223372036854775807) (fun i k => hin.v i k) ss.length) key seen)) [27, 2] [27, 2] 47 35 3 rfl rfl rfl rfl rfl rfl rfl rfl Try.func50 rfl rfl rfl rfl ⟨rfl, rfl, trivial⟩ rfl rfl ?_
          refine s1 10 43 4 rfl rfl rfl rfl rfl rfl trivial ?_
          refine e1 51 rfl ?_
          refine keep [7, 10] rfl ?_
          refine cval 10 (strsV (valsL (idxS ss ss.length) key)) rfl (by rw [vals_of hsp]; rfl) ?_
          refine r1 ?_
          refine s1 11 51 1 rfl rfl rfl rfl rfl rfl trivial ?_
          refine e1 59 rfl ?_
          refine keep [7, 10, 11] rfl ?_
          refine W_seq ?_
          refine r1 ?_
          refine s1 48 59 1 rfl rfl rfl rfl rfl rfl trivial ?_
          refine s1 49 67 2 rfl rfl rfl rfl rfl rfl (by first | trivial | omega) ?_
          refine s1 50 75 3 rfl rfl rfl rfl rfl rfl trivial ?_
          refine e1 83 rfl ?_
          refine keep [7, 10, 11, 48, 49, 50] rfl ?_
          refine W_block ?_
          refine ghostly 11 3 1 (intsF []) rfl ?_
          refine loop (α := Nat) 2 (fun n => [(7, .map 1), (10, strsV (valsL (idxS ss ss.length) key)), (11, .sl 0 0 (((valsL (idxS ss ss.length) key).take (n)).map (cntE (idxS ss ss.length) key)).length), (48, strsV (valsL (idxS ss ss.length) key)), (49, SV.i (valsL (idxS ss ss.length) key).length), (50, SV.i (n))]) (fun n => [some (.rows 3 1 (((valsL (idxS ss ss.length) key).take (n)).map (cntE (idxS ss ss.length) key)).length (intsF (((valsL (idxS ss ss.length) key).take (n)).map (cntE (idxS ss ss.length) key)))), some (.map (cE (cnts (idxS ss ss.length) key seen)))]) (fun n => (n) ≤ (valsL (idxS ss ss.length) key).length) (fun n => (valsL (idxS ss ss.length) key).length - (n)) (((0) : Nat)) [83, 2] (fun _ => rfl) (show (0) ≤ (valsL (idxS ss ss.length) key).length from (Nat.zero_le _)) rfl ⟨rfl, rfl, rfl, rfl, rfl, rfl, trivial⟩ ⟨rfl, rfl, trivial⟩ (fun n hx => ?_)
          show W _ _ _ ⟨tOf [(7, .map 1), (10, strsV (valsL (idxS ss ss.length) key)), (11, .sl 0 0 (((valsL (idxS ss ss.length) key).take n).map (cntE (idxS ss ss.length) key)).length), (48, strsV (valsL (idxS ss ss.length) key)), (49, SV.i (valsL (idxS ss ss.length) key).length), (50, SV.i n)], hOf [some (.rows 3 1 (((valsL (idxS ss ss.length) key).take n).map (cntE (idxS ss ss.length) key)).length (intsF (((valsL (idxS ss ss.length) key).take n).map (cntE (idxS ss ss.length) key)))), some (.map (cE (cnts (idxS ss ss.length) key seen)))], 2⟩
          have hx : n ≤ (valsL (idxS ss ss.length) key).length := hx
          have hvl := vals_len (E := (idxS ss ss.length)) key
          have hcl : (((valsL (idxS ss ss.length) key).take n).map (cntE (idxS ss ss.length) key)).length ≤ n := (by rw [List.length_map, List.length_take]; omega)
          refine r1 ?_
          refine s1 51 2 1 rfl rfl rfl rfl rfl rfl (by first | trivial | omega) ?_
          refine e1 10 rfl ?_
          refine keep [7, 10, 11, 48, 49, 50, 51] rfl ?_
          refine W_seq ?_
          refine q1 rfl (fun hc12 => ?_) (fun hc12 => ?_)
          · skip
            try simp only [cs, ne_eq] at hc12
            refine W_skip ?_
            refine tn ?_
            refine W_seq ?_
            refine W_block ?_
            refine r1 ?_
            refine s1 52 10 1 rfl rfl rfl rfl rfl rfl (by first | trivial | omega) ?_
            refine s1 53 18 2 rfl rfl rfl rfl rfl rfl (by first | trivial | omega) ?_
            refine s1 13 26 3 rfl rfl rfl rfl rfl rfl trivial ?_
            refine e1 34 rfl ?_
            refine keep [7, 10, 11, 13, 48, 49, 50] rfl ?_
            refine r0 ?_
            refine s1 54 34 1 rfl rfl rfl rfl rfl rfl trivial ?_
            refine s1 55 42 2 rfl rfl rfl rfl rfl rfl trivial ?_
            refine s1 56 50 3 rfl rfl rfl rfl rfl rfl trivial ?_
            refine sLook (u := SV.i (cntE (idxS ss ss.length) key ((valsL (idxS ss ss.length) key).getD n []))) (some (.val (.int .i64 (cntE (idxS ss ss.length) key ((valsL (idxS ss ss.length) key).getD n []))))) (by rw [mfind_cE]; exact congrArg some (congrArg (Option.map _) (look_vals hnd hsp (getD_in (by omega))))) 57 58 4 rfl rfl rfl rfl rfl rfl rfl rfl rfl rfl rfl rfl rfl rfl rfl ?_
            refine s1 58 66 5 rfl rfl rfl rfl rfl rfl trivial ?_
            refine s1 59 74 6 rfl rfl rfl rfl rfl rfl ⟨Nat.le_refl _, trivial, (by show (_ + 1) * 8 ≤ 140737488355328; omega), (by simp only [maxLen]; omega)⟩ ?_
            refine s1 11 82 7 rfl rfl rfl rfl rfl rfl trivial ?_
            refine e1 90 rfl ?_
            refine bn ?_
            refine tn ?_
            refine rowsc 74 (((valsL (idxS ss ss.length) key).take (n + 1)).map (cntE (idxS ss ss.length) key)).length (intsF (((valsL (idxS ss ss.length) key).take (n + 1)).map (cntE (idxS ss ss.length) key))) rfl (by rw [map_take_succ _ (by omega)]; simp) (fun i c hi hc => by rw [map_take_succ _ (by omega)]; exact ints_cat _ _ i c hi hc) ?_
            refine cval 11 (.sl 74 0 (((valsL (idxS ss ss.length) key).take (n + 1)).map (cntE (idxS ss ss.length) key)).length) rfl (by rw [map_take_succ _ (by omega)]; simp) ?_
            refine r0 ?_
            refine sA 60 90 1 rfl rfl rfl rfl rfl rfl rfl rfl rfl (by unfold inRange; omega) ?_
            refine s1 50 98 2 rfl rfl rfl rfl rfl rfl trivial ?_
            refine e1 106 rfl ?_
            refine tn ?_
            exact again ((n + 1 : Nat)) [74, 1] (show (n + 1) ≤ (valsL (idxS ss ss.length) key).length from (by omega)) (show (valsL (idxS ss ss.length) key).length - (n + 1) < (valsL (idxS ss ss.length) key).length - n from (by omega)) rfl ⟨rfl, rfl, rfl, rfl, rfl, rfl, trivial⟩ ⟨rfl, rfl, trivial⟩
          · skip
            try simp only [cs, ne_eq] at hc12
            refine W_exit ?_
            refine tx ?_
            refine tx ?_
            refine bx ?_
            refine tn ?_
            obtain rfl : n = (valsL (idxS ss ss.length) key).length := (by omega)
            refine rowsc 0 ((valsL (idxS ss ss.length) key).map (cntE (idxS ss ss.length) key)).length (intsF ((valsL (idxS ss ss.length) key).map (cntE (idxS ss ss.length) key))) rfl (by rw [List.take_length]) (fun i c hi hc => by rw [List.take_length]) ?_
            refine cval 11 (.sl 0 0 ((valsL (idxS ss ss.length) key).map (cntE (idxS ss ss.length) key)).length) rfl (by rw [List.take_length]) ?_
            refine freeze 11 0 ((valsL (idxS ss ss.length) key).map (cntE (idxS ss ss.length) key)).length rfl rfl (Nat.le_refl _) ?_
            refine r1 ?_
            refine s1 61 10 1 rfl rfl rfl rfl rfl rfl trivial ?_
            refine s1 62 18 2 rfl rfl rfl rfl rfl rfl trivial ?_
            refine s1 4 26 3 rfl rfl rfl rfl rfl rfl trivial ?_
            refine s1 5 34 4 rfl rfl rfl rfl rfl rfl trivial ?_
            refine s1 6 42 5 rfl rfl rfl rfl rfl rfl trivial ?_
            refine e1 50 rfl ?_
            refine keep [4, 5, 6] rfl ?_
            refine W_ret ?_
            exact out3 4 5 6 (strsV (valP p ss key).1) (intsV (valP p ss key).2.1) (SV.i (valP p ss key).2.2) (π := []) (hout := []) Try.results24 rfl rfl rfl (by rw [val_yes hpt hnt]; rfl) (by rw [val_yes hpt hnt]; rfl) (by rw [val_yes hpt hnt]; rfl) rfl rfl trivial ⟨rfl, rfl⟩
      · skip
        obtain ⟨⟨k, l⟩, hE⟩ : ∃ p, (idxS ss ss.length)[j]? = some p := ⟨_, List.getElem?_eq_getElem hj⟩
        refine s1 27 11 2 rfl rfl rfl rfl rfl rfl trivial ?_
        refine e1 19 rfl ?_
        refine keep [1, 7, 25, 27] rfl ?_
        refine W_seq ?_
        refine q1 rfl (fun hc5 => ?_) (fun hc5 => ?_)
        · skip
          try simp only [cs, ne_eq] at hc5
          refine W_skip ?_
          refine tn ?_
          refine W_block ?_
          refine r1 ?_
          refine sEntry 0 1 (idxS ss ss.length).length j seen (.agg [.d (.val (.string k.1)), .d (.val (.string k.2))]) (lenV l.length) ⟨famE_at hE, fun p hp => by cases hp⟩ (kS_val k) (fun M ρ ρ' x h => len_of_sl h) 28 19 1 rfl rfl rfl rfl rfl rfl rfl rfl rfl (famE_len (idxS ss ss.length)) ?_
          refine s1 29 27 2 rfl rfl rfl rfl rfl rfl trivial ?_
          refine s1 30 35 3 rfl rfl rfl rfl rfl rfl trivial ?_
          refine s1 8 43 4 rfl rfl rfl rfl rfl rfl trivial ?_
          refine s0 51 5 rfl rfl rfl rfl rfl (by first | trivial | omega) ?_
          refine s1 9 59 6 rfl rfl rfl rfl rfl rfl trivial ?_
          refine e1 67 rfl ?_
          refine keep [1, 7, 8, 9, 25] rfl ?_
          refine r1 ?_
          refine s1 31 67 1 rfl rfl rfl rfl rfl rfl trivial ?_
          refine s1 32 75 2 rfl rfl rfl rfl rfl rfl (by first | trivial | omega) ?_
          refine s1 33 83 3 rfl rfl rfl rfl rfl rfl trivial ?_
          refine s1 34 91 4 rfl rfl rfl rfl rfl rfl (by first | trivial | omega) ?_
          refine s1 35 99 5 rfl rfl rfl rfl rfl rfl trivial ?_
          refine ask 35 rfl (fun hg7_35 => ?_) (fun hg7_35 => ?_)
          · skip
            try simp only [cs, ne_eq] at hg7_35
            refine g1 4 true 35 36 6 rfl rfl rfl rfl rfl ?_
            refine s1 36 107 6 rfl rfl rfl rfl rfl rfl trivial ?_
            refine g1 4 true 35 37 7 rfl rfl rfl rfl rfl ?_
            refine s1 37 115 7 rfl rfl rfl rfl rfl rfl (by first | trivial | omega) ?_
            refine g1 4 true 35 38 8 rfl rfl rfl rfl rfl ?_
            refine s1 38 123 8 rfl rfl rfl rfl rfl rfl (by first | trivial | omega) ?_
            refine s1 39 131 9 rfl rfl rfl rfl rfl rfl trivial ?_
            refine e1 139 rfl ?_
            refine keep [1, 7, 8, 9, 25, 39] rfl ?_
            refine q1 rfl (fun hc7 => ?_) (fun hc7 => ?_)
            · skip
              try simp only [cs, ne_eq] at hc7
              have hk1 : k.1 = key := str_eq.2 hg7_35
              have hk2 : ¬ k.2 = ⟨#[]⟩ := (fun e => hc7 (str_eq.1 e))
              refine r0n ?_
              refine s1 40 139 1 rfl rfl rfl rfl rfl rfl trivial ?_
              refine s1 41 147 2 rfl rfl rfl rfl rfl rfl trivial ?_
              refine s1 42 155 3 rfl rfl rfl rfl rfl rfl (by first | trivial | omega) ?_
              refine s1 43 163 4 rfl rfl rfl rfl rfl rfl trivial ?_
              refine sLenP l.length 44 171 5 rfl rfl rfl rfl rfl rfl Try.underlying24 rfl ?_
              refine sMap ((find_none hnd hE hk1 hs)) 179 6 rfl rfl rfl rfl rfl rfl rfl rfl rfl rfl rfl rfl ?_
              refine e1 187 rfl ?_
              refine chvaln 2 (.map (cE (cnts (idxS ss ss.length) key (seen ++ [j])))) rfl (by rw [← cE_set hnd hE hk1 hk2 hs]) ?_
              refine wn ?_
              refine bn ?_
              refine tn ?_
              exact again ((seen ++ [j] : (List Nat))) [0, 1, 2] (show (seen ++ [j]).Nodup ∧ ∀ q0, q0 ∈ (seen ++ [j]) → q0 < (idxS ss ss.length).length from ⟨List.nodup_append.2 ⟨hsn, by simp, fun a ha b hb => by rw [List.mem_singleton.1 hb]; rintro rfl; exact hs ha⟩, fun j' hj' => by rcases List.mem_append.1 hj' with h | h; exact hsl _ h; rw [List.mem_singleton.1 h]; exact hj⟩) (show (idxS ss ss.length).length - (seen ++ [j]).length < (idxS ss ss.length).length - seen.length from (by have := seen_len (List.nodup_append.2 ⟨hsn, by simp, fun a ha b hb => by rw [List.mem_singleton.1 hb]; rintro rfl; exact hs ha⟩ : (seen ++ [j]).Nodup) (fun j' hj' => by rcases List.mem_append.1 hj' with h | h; exact hsl _ h; rw [List.mem_singleton.1 h]; exact hj); rw [List.length_append] at *; simp only [List.length_singleton] at *; omega)) rfl ⟨rfl, rfl, rfl, trivial⟩ ⟨rfl, rfl, rfl, trivial⟩
            · skip
              try simp only [cs, ne_eq] at hc7
              refine chval 2 (.map (cE (cnts (idxS ss ss.length) key (seen ++ [j])))) rfl (by rw [cnts_same hE (by first | exact fun h => h.2 (str_eq.2 hc7) | exact fun h => hg7_35 (str_eq.1 h.1))]) ?_
              refine W_skip ?_
              refine bn ?_
              refine tn ?_
              exact again ((seen ++ [j] : (List Nat))) [0, 1, 2] (show (seen ++ [j]).Nodup ∧ ∀ q0, q0 ∈ (seen ++ [j]) → q0 < (idxS ss ss.length).length from ⟨List.nodup_append.2 ⟨hsn, by simp, fun a ha b hb => by rw [List.mem_singleton.1 hb]; rintro rfl; exact hs ha⟩, fun j' hj' => by rcases List.mem_append.1 hj' with h | h; exact hsl _ h; rw [List.mem_singleton.1 h]; exact hj⟩) (show (idxS ss ss.length).length - (seen ++ [j]).length < (idxS ss ss.length).length - seen.length from (by have := seen_len (List.nodup_append.2 ⟨hsn, by simp, fun a ha b hb => by rw [List.mem_singleton.1 hb]; rintro rfl; exact hs ha⟩ : (seen ++ [j]).Nodup) (fun j' hj' => by rcases List.mem_append.1 hj' with h | h; exact hsl _ h; rw [List.mem_singleton.1 h]; exact hj); rw [List.length_append] at *; simp only [List.length_singleton] at *; omega)) rfl ⟨rfl, rfl, rfl, trivial⟩ ⟨rfl, rfl, rfl, trivial⟩
          · skip
            try simp only [cs, ne_eq] at hg7_35
            refine g0 4 true 35 36 6 rfl rfl rfl rfl rfl rfl ?_
            refine g0 4 true 35 37 7 rfl rfl rfl rfl rfl rfl ?_
            refine g0 4 true 35 38 8 rfl rfl rfl rfl rfl rfl ?_
            refine s1 39 131 9 rfl rfl rfl rfl rfl rfl trivial ?_
            refine e1 139 rfl ?_
            refine keep [1, 7, 8, 9, 25, 39] rfl ?_
            refine q1 rfl (fun hc7 => ?_) (fun hc7 => ?_)
            · skip
              exact absurd hc7 (by decide)
            · skip
              try simp only [cs, ne_eq] at hc7
              refine chval 2 (.map (cE (cnts (idxS ss ss.length) key (seen ++ [j])))) rfl (by rw [cnts_same hE (by first | exact fun h => h.2 (str_eq.2 hc7) | exact fun h => hg7_35 (str_eq.1 h.1))]) ?_
              refine W_skip ?_
              refine bn ?_
              refine tn ?_
              exact again ((seen ++ [j] : (List Nat))) [0, 1, 2] (show (seen ++ [j]).Nodup ∧ ∀ q0, q0 ∈ (seen ++ [j]) → q0 < (idxS ss ss.length).length from ⟨List.nodup_append.2 ⟨hsn, by simp, fun a ha b hb => by rw [List.mem_singleton.1 hb]; rintro rfl; exact hs ha⟩, fun j' hj' => by rcases List.mem_append.1 hj' with h | h; exact hsl _ h; rw [List.mem_singleton.1 h]; exact hj⟩) (show (idxS ss ss.length).length - (seen ++ [j]).length < (idxS ss ss.length).length - seen.length from (by have := seen_len (List.nodup_append.2 ⟨hsn, by simp, fun a ha b hb => by rw [List.mem_singleton.1 hb]; rintro rfl; exact hs ha⟩ : (seen ++ [j]).Nodup) (fun j' hj' => by rcases List.mem_append.1 hj' with h | h; exact hsl _ h; rw [List.mem_singleton.1 h]; exact hj); rw [List.length_append] at *; simp only [List.length_singleton] at *; omega)) rfl ⟨rfl, rfl, rfl, trivial⟩ ⟨rfl, rfl, rfl, trivial⟩
        · skip
          exact absurd hc5 (by decide)

end Go.Proofs.Ytlhncpbcbpdcfaa.Nice
