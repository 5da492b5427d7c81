/- The values of a key: the document. -/
import Derived.Test.YtlhncpbcbpdcfaaTagVal
namespace Go.Proofs.Ytlhncpbcbpdcfaa.Nice
open Go Go.Proofs
set_option linter.unusedVariables false
set_option linter.unusedSimpArgs false
set_option maxRecDepth 100000
set_option maxHeartbeats 4000000

def vF (R : RList) : Nat → Nat → D := sF (R.map (·.1))
def cF (R : RList) : Nat → Nat → D := intsF (R.map (·.2))
theorem vF_at (R : RList) (i c : Nat) : vF R i c = .val (.string (toB (R.getD i rlD).1)) := by
  unfold vF sF
  refine congrArg D.val (congrArg Value.string (congrArg toB ?_))
  by_cases h : i < R.length
  · simp [List.getD, h]
  · simp [List.getD, show R.length ≤ i by omega, rlD]
theorem cF_at (R : RList) (i c : Nat) : cF R i c = .val (.int .i64 (R.getD i rlD).2) := by
  unfold cF intsF
  refine congrArg D.val (congrArg (Value.int .i64) ?_)
  by_cases h : i < R.length
  · simp [List.getD, h]
  · simp [List.getD, show R.length ≤ i by omega, rlD]
def Low (c : Int) (R : RList) : Prop := ∀ p, p ∈ R → 0 ≤ p.2 ∧ p.2 ≤ c
theorem low_ins {c : Int} {v : Str} (hc : 0 ≤ c) : ∀ {R : RList}, Low c R → Low (c + 1) (insP v R)
  | [], _ => by intro p hp; simp only [insP, List.mem_singleton] at hp; subst hp; exact ⟨by show (0 : Int) ≤ 1; decide, by show (1 : Int) ≤ _; omega⟩
  | q :: R, h => by
    have hq := h q (List.mem_cons_self ..)
    have hR : Low c R := fun p hp => h p (List.mem_cons_of_mem _ hp)
    intro p hp
    unfold insP at hp
    split at hp
    · rcases List.mem_cons.1 hp with rfl | hp
      · omega
      · exact low_ins hc hR p hp
    · split at hp
      · rcases List.mem_cons.1 hp with rfl | hp
        · simp only; omega
        · have := hR p hp; omega
      · rcases List.mem_cons.1 hp with rfl | hp
        · simp only; omega
        · have := h p hp; omega
theorem low_mono {c d : Int} {R : RList} (h : Low c R) (hcd : c ≤ d) : Low d R := fun p hp => by have := h p hp; omega
theorem low_L {l : List TagD} {key : ByteArray} {R : RList} {c : Int} (hc : 0 ≤ c) (h : Low c R) : ∀ n : Nat, Low (c + n) (refL l key n R)
  | 0 => low_mono h (by omega)
  | n + 1 => by
    have ih := low_L (l := l) (key := key) hc h n
    unfold refL
    split
    · exact low_mono (low_ins (by omega) ih) (by omega)
    · exact low_mono ih (by omega)
theorem low_S {ss : List (List TagD)} (hl : ∀ i, i < ss.length → (ss.getD i []).length ≤ 6) (key : ByteArray) : ∀ i : Nat, i ≤ ss.length → Low (6 * i) (refS ss key i)
  | 0, _ => fun p hp => by cases hp
  | i + 1, hi => low_mono (low_L (by omega) (low_S hl key i (by omega)) _) (by have := hl i (by omega); omega)
theorem low_at {c : Int} {R : RList} (h : Low c R) {a : Nat} (ha : a < R.length) : 0 ≤ (R.getD a rlD).2 ∧ (R.getD a rlD).2 ≤ c := by
  rw [show R.getD a rlD = R[a] from by simp [List.getD, ha]]; exact h _ (List.getElem_mem ha)
theorem refL_yes {l : List TagD} {key : ByteArray} {n : Nat} {R : RList} (h : (l.getD n default).key = key) : refL l key (n + 1) R = insP (ofB (l.getD n default).val) (refL l key n R) := by
  show (if _ then _ else _) = _; rw [if_pos h]
theorem refL_no {l : List TagD} {key : ByteArray} {n : Nat} {R : RList} (h : ¬ (l.getD n default).key = key) : refL l key (n + 1) R = refL l key n R := by
  show (if _ then _ else _) = _; rw [if_neg h]
theorem set_v {R : RList} {a : Nat} {v : Str} (ha : a < R.length) (he : (R.getD a rlD).1 = v) (x : Int) (i c : Nat) : vF (R.set a (v, x)) i c = vF R i c := by
  rw [vF_at, vF_at]
  refine congrArg D.val (congrArg Value.string (congrArg toB ?_))
  by_cases e : a = i
  · subst e; simp [List.getD, ha] at he ⊢; exact he.symm
  · simp [List.getD, List.getElem?_set_ne e]
theorem set_c {R : RList} {a : Nat} {v : Str} (ha : a < R.length) (x : Int) (i c : Nat) : cF (R.set a (v, x)) i c = if i = a then .val (.int .i64 x) else cF R i c := by
  rw [cF_at, cF_at]
  by_cases e : a = i
  · subst e; rw [if_pos rfl]; simp [List.getD, ha]
  · rw [if_neg (Ne.symm e)]; simp [List.getD, List.getElem?_set_ne e]
theorem mid_at {R : RList} {a : Nat} (ha : a ≤ R.length) (x : Str × Int) (i : Nat) : (R.take a ++ x :: R.drop a).getD i rlD = if i < a then R.getD i rlD else if i = a then x else R.getD (i - 1) rlD := by
  have hl : (R.take a).length = a := by rw [List.length_take]; omega
  rw [List.getD_eq_getElem?_getD, List.getD_eq_getElem?_getD, List.getD_eq_getElem?_getD]
  by_cases h : i < a
  · rw [if_pos h, List.getElem?_append_left (by omega), List.getElem?_take_of_lt h]
  · rw [if_neg h, List.getElem?_append_right (by omega), hl]
    by_cases e : i = a
    · subst e; rw [if_pos rfl, Nat.sub_self]; rfl
    · rw [if_neg e, show i - a = (i - a - 1) + 1 by omega, List.getElem?_cons_succ, List.getElem?_drop, show a + (i - a - 1) = i - 1 by omega]
theorem mid_len {R : RList} {a : Nat} (ha : a ≤ R.length) (x : Str × Int) : (R.take a ++ x :: R.drop a).length = R.length + 1 := by
  rw [List.length_append, List.length_take, List.length_cons, List.length_drop]; omega
def refP (p : Bool) (ss : List (List TagD)) (key : ByteArray) : List Str × List Int × Int :=
  if p = false ∨ nameB key = false then ([], [], 4) else ((refS ss key ss.length).map (·.1), (refS ss key ss.length).map (·.2), 0)
theorem ref_no {p : Bool} {ss : List (List TagD)} {key : ByteArray} (h : p = false ∨ nameB key = false) : refP p ss key = ([], [], 4) := by unfold refP; rw [if_pos h]
theorem ref_yes {p : Bool} {ss : List (List TagD)} {key : ByteArray} (h : p = true) (h2 : nameB key = true) : refP p ss key = ((refS ss key ss.length).map (·.1), (refS ss key ss.length).map (·.2), 0) := by unfold refP; rw [if_neg (by rw [h, h2]; decide)]
theorem ref_val {p : Bool} {ss : List (List TagD)} {key : ByteArray} (hp : p = true ↔ TagsOk ss) : refP p ss key = valP p ss key := by
  by_cases h : p = false ∨ nameB key = false
  · rw [ref_no h, val_no h]
  · have h1 : p = true := by cases p with | true => rfl | false => exact absurd (.inl rfl) h
    have h2 : nameB key = true := by cases hn : nameB key with | true => rfl | false => exact absurd (.inr hn) h
    obtain ⟨b1, b2⟩ := both_say (key := key) (hp.1 h1).2
    rw [ref_yes h1 h2, val_yes h1 h2, b1, b2]
theorem at_v {R : RList} {a : Nat} (ha : a < R.length) : (R.map fun x => x.1).getD (0 + (a : Int).toNat) [] = (R.getD a rlD).1 := by
  rw [Nat.zero_add, Int.toNat_natCast]; simp [List.getD, ha]
theorem at_c {R : RList} {a : Nat} (ha : a < R.length) : (R.map fun x => x.2).getD (0 + (a : Int).toNat) 0 = (R.getD a rlD).2 := by
  rw [Nat.zero_add, Int.toNat_natCast]; simp [List.getD, ha]
theorem less_iff {R : RList} {a : Nat} (ha : a < R.length) (b : ByteArray) : Op.bytesLess (toB ((R.map fun x => x.1).getD (0 + (a : Int).toNat) [])).toList b.toList = decide ((R.getD a rlD).1 < ofB b) := by
  rw [at_v ha, Go.Proofs.bytesLess_eq, ofB_list, ofB_list, ofB_toB]
theorem same_iff {R : RList} {a : Nat} (ha : a < R.length) (b : ByteArray) : (toB ((R.map fun x => x.1).getD (0 + (a : Int).toNat) [])).toList = b.toList ↔ (R.getD a rlD).1 = ofB b := by
  rw [at_v ha, ofB_list, ofB_list, ofB_toB]
theorem upd_c {R : RList} {a : Nat} (ha : a < R.length) (i : Nat) : updR (cF R) (0 + (a : Int).toNat) 0 [.val (.int .i64 ((R.map fun x => x.2).getD (0 + (a : Int).toNat) 0 + 1))] i 0 = if i = a then .val (.int .i64 ((R.getD a rlD).2 + 1)) else cF R i 0 := by
  rw [at_c ha, Nat.zero_add, Int.toNat_natCast]
  unfold updR
  by_cases e : i = a
  · subst e; rw [if_pos ⟨rfl, Nat.le_refl _, Nat.one_pos⟩, if_pos rfl]; rfl
  · rw [if_neg (fun h => e h.1), if_neg e]
theorem off_eq (F : Nat → Nat → D) (a i : Nat) : (if (0 + (a : Int).toNat).beq 0 = true then F else fun i c => F (0 + (a : Int).toNat + i) c) i 0 = F (a + i) 0 := by
  simp only [Nat.zero_add, Int.toNat_natCast]
  split
  · next h => have := Nat.eq_of_beq_eq_true h; subst this; rw [Nat.zero_add]
  · rfl
theorem mid_v {R : RList} {a : Nat} (ha : a ≤ R.length) {b : ByteArray} {F G H : Nat → Nat → D} (hF : ∀ i, i < a → F i 0 = vF R i 0) (hG : G 0 0 = .val (.string b)) (hH : ∀ i, H i 0 = vF R (a + i) 0) {n m : Nat} (hn : n = a) (hm : m = 1) (i : Nat) : catR F n (catR G m H) i 0 = vF (R.take a ++ (ofB b, 1) :: R.drop a) i 0 := by
  subst hn; subst hm
  rw [vF_at, mid_at ha]
  unfold catR
  by_cases h : i < n
  · rw [if_pos h, if_pos h, hF i h, vF_at]
  · rw [if_neg h, if_neg h]
    by_cases e : i = n
    · subst e
      rw [Nat.sub_self, if_pos (by decide), if_pos rfl, hG]
      show _ = D.val (Value.string (toB (ofB b)))
      rw [toB_ofB]
    · rw [if_neg (by omega), if_neg e, hH, vF_at, show n + (i - n - 1) = i - 1 by omega]
theorem mid_c {R : RList} {a : Nat} (ha : a ≤ R.length) {b : Str} {F G H : Nat → Nat → D} (hF : ∀ i, i < a → F i 0 = cF R i 0) (hG : G 0 0 = .val (.int .i64 1)) (hH : ∀ i, H i 0 = cF R (a + i) 0) {n m : Nat} (hn : n = a) (hm : m = 1) (i : Nat) : catR F n (catR G m H) i 0 = cF (R.take a ++ (b, 1) :: R.drop a) i 0 := by
  subst hn; subst hm
  rw [cF_at, mid_at ha]
  unfold catR
  by_cases h : i < n
  · rw [if_pos h, if_pos h, hF i h, cF_at]
  · rw [if_neg h, if_neg h]
    by_cases e : i = n
    · subst e
      rw [Nat.sub_self, if_pos (by decide), if_pos rfl, hG]
    · rw [if_neg (by omega), if_neg e, hH, cF_at, show n + (i - n - 1) = i - 1 by omega]

theorem refValues_any (ss : List (List TagD)) (key : ByteArray) (hin : TagsIn ss) (hks : key.size ≤ 9223372036854775807) (p : Bool) (hp : p = true ↔ TagsOk ss) : Spec Try.prog GT 25 [serV ss ss.length, .d (.val (.string key))] [] (fun r ho => r = SV.tup [strsV (refP p ss key).1, intsV (refP p ss key).2.1, SV.i (refP p ss key).2.2] ∧ ho = []) := by
  have hssn := hin.n
  refine start 96 0 Try.func25 rfl rfl rfl rfl ?_
  refine r1 ?_
  refine s1 4 0 1 rfl rfl rfl rfl rfl rfl trivial ?_
  refine s1 5 8 2 rfl rfl rfl rfl rfl rfl trivial ?_
  refine s1 6 16 3 rfl rfl rfl rfl rfl rfl trivial ?_
  refine e1 24 rfl ?_
  refine keep [0, 1] rfl ?_
  refine W_seq ?_
  refine r1 ?_
  refine s1 14 24 1 rfl rfl rfl rfl rfl rfl trivial ?_
  refine c1 (refTagsMay_any ss hin p hp) [] [] 15 32 2 rfl rfl rfl rfl rfl rfl rfl rfl Try.func21 rfl rfl rfl rfl trivial rfl rfl ?_
  refine s1 16 40 3 rfl rfl rfl rfl rfl rfl trivial ?_
  refine s1 17 48 4 rfl rfl rfl rfl rfl rfl trivial ?_
  refine ask 17 rfl (fun hg1_17 => ?_) (fun hg1_17 => ?_)
  · skip
    try simp only [cs, ne_eq] at hg1_17
    refine g0 3 false 17 18 5 rfl rfl rfl rfl rfl rfl ?_
    refine g0 3 false 17 19 6 rfl rfl rfl rfl rfl rfl ?_
    refine g0 3 false 17 20 7 rfl rfl rfl rfl rfl rfl ?_
    refine s1 21 80 8 rfl rfl rfl rfl rfl rfl trivial ?_
    refine e1 88 rfl ?_
    refine keep [0, 1, 21] rfl ?_
    refine q1 rfl (fun hc1 => ?_) (fun hc1 => ?_)
    · skip
      try simp only [cs, ne_eq] at hc1
      refine r1 ?_
      refine s1 4 88 1 rfl rfl rfl rfl rfl rfl trivial ?_
      refine s1 5 96 2 rfl rfl rfl rfl rfl rfl trivial ?_
      refine s1 6 104 3 rfl rfl rfl rfl rfl rfl trivial ?_
      refine e1 112 rfl ?_
      refine keep [4, 5, 6] rfl ?_
      refine nilv 4 1 (sF []) rfl ?_
      refine nilv 5 1 (intsF []) rfl ?_
      refine W_ret ?_
      refine tr ?_
      exact out3 4 5 6 (strsV (refP p ss key).1) (intsV (refP p ss key).2.1) (SV.i (refP p ss key).2.2) (π := []) (hout := []) Try.results25 rfl rfl rfl (by rw [ref_no (by first | (left; simpa using hg1_17) | (right; simpa using hc1))]; first | rfl | (show SV.d _ = SV.d (.vec 1 (List.map _ _).length _); rw [List.length_map]; rfl)) (by rw [ref_no (by first | (left; simpa using hg1_17) | (right; simpa using hc1))]; first | rfl | (show SV.d _ = SV.d (.vec 1 (List.map _ _).length _); rw [List.length_map]; rfl)) (by rw [ref_no (by first | (left; simpa using hg1_17) | (right; simpa using hc1))]; first | rfl | (show SV.d _ = SV.d (.vec 1 (List.map _ _).length _); rw [List.length_map]; rfl)) rfl rfl trivial ⟨rfl, rfl⟩
    · skip
      exact absurd hc1 (by decide)
  · skip
    try simp only [cs, ne_eq] at hg1_17
    refine g1 3 false 17 18 5 rfl rfl rfl rfl rfl ?_
    refine s1 18 56 5 rfl rfl rfl rfl rfl rfl trivial ?_
    refine g1 3 false 17 19 6 rfl rfl rfl rfl rfl ?_
    refine c1 (good_any key hks) [] [] 19 64 6 rfl rfl rfl rfl rfl rfl rfl rfl Try.func44 rfl rfl rfl rfl trivial rfl rfl ?_
    refine g1 3 false 17 20 7 rfl rfl rfl rfl rfl ?_
    refine s1 20 72 7 rfl rfl rfl rfl rfl rfl trivial ?_
    refine s1 21 80 8 rfl rfl rfl rfl rfl rfl trivial ?_
    refine e1 88 rfl ?_
    refine keep [0, 1, 21] rfl ?_
    refine q1 rfl (fun hc1 => ?_) (fun hc1 => ?_)
    · skip
      try simp only [cs, ne_eq] at hc1
      refine r1 ?_
      refine s1 4 88 1 rfl rfl rfl rfl rfl rfl trivial ?_
      refine s1 5 96 2 rfl rfl rfl rfl rfl rfl trivial ?_
      refine s1 6 104 3 rfl rfl rfl rfl rfl rfl trivial ?_
      refine e1 112 rfl ?_
      refine keep [4, 5, 6] rfl ?_
      refine nilv 4 1 (sF []) rfl ?_
      refine nilv 5 1 (intsF []) rfl ?_
      refine W_ret ?_
      refine tr ?_
      exact out3 4 5 6 (strsV (refP p ss key).1) (intsV (refP p ss key).2.1) (SV.i (refP p ss key).2.2) (π := []) (hout := []) Try.results25 rfl rfl rfl (by rw [ref_no (by first | (left; simpa using hg1_17) | (right; simpa using hc1))]; first | rfl | (show SV.d _ = SV.d (.vec 1 (List.map _ _).length _); rw [List.length_map]; rfl)) (by rw [ref_no (by first | (left; simpa using hg1_17) | (right; simpa using hc1))]; first | rfl | (show SV.d _ = SV.d (.vec 1 (List.map _ _).length _); rw [List.length_map]; rfl)) (by rw [ref_no (by first | (left; simpa using hg1_17) | (right; simpa using hc1))]; first | rfl | (show SV.d _ = SV.d (.vec 1 (List.map _ _).length _); rw [List.length_map]; rfl)) rfl rfl trivial ⟨rfl, rfl⟩
    · skip
      try simp only [cs, ne_eq] at hc1
      refine W_skip ?_
      refine tn ?_
      have hpt : p = true := (by simpa using hg1_17)
      have hnt : nameB key = true := (by simpa using hc1)
      have hok := hp.1 hpt
      have h40 := hok.1
      have h6 : ∀ i, i < ss.length → (ss.getD i []).length ≤ 6 := fun i hi => (hok.2 i hi).len
      refine r1 ?_
      refine s1 7 88 1 rfl rfl rfl rfl rfl rfl trivial ?_
      refine e1 96 rfl ?_
      refine keep [0, 1, 7] rfl ?_
      refine r1 ?_
      refine s1 8 96 1 rfl rfl rfl rfl rfl rfl trivial ?_
      refine e1 104 rfl ?_
      refine keep [0, 1, 7, 8] rfl ?_
      refine W_seq ?_
      refine r1 ?_
      refine s1 22 104 1 rfl rfl rfl rfl rfl rfl trivial ?_
      refine s1 23 112 2 rfl rfl rfl rfl rfl rfl (by first | trivial | omega) ?_
      refine s1 24 120 3 rfl rfl rfl rfl rfl rfl trivial ?_
      refine e1 128 rfl ?_
      refine keep [1, 7, 8, 22, 23, 24] rfl ?_
      refine W_block ?_
      refine ghostly 7 9 1 (vF []) rfl ?_
      refine ghostly 8 3 1 (cF []) rfl ?_
      refine loop (α := Nat) 2 (fun i => [(1, .d (.val (.string key))), (7, .sl 0 0 (refS ss key (i)).length), (8, .sl 1 0 (refS ss key (i)).length), (22, serV ss ss.length), (23, SV.i ss.length), (24, SV.i (i))]) (fun i => [some (.rows 9 1 (refS ss key (i)).length (vF (refS ss key (i)))), some (.rows 3 1 (refS ss key (i)).length (cF (refS ss key (i))))]) (fun i => (i) ≤ ss.length) (fun i => ss.length - (i)) (((0) : Nat)) [128, 136] (fun _ => rfl) (show (0) ≤ ss.length from (Nat.zero_le _)) rfl ⟨rfl, rfl, rfl, rfl, rfl, rfl, trivial⟩ ⟨rfl, rfl, trivial⟩ (fun i hx => ?_)
      show W _ _ _ ⟨tOf [(1, .d (.val (.string key))), (7, .sl 0 0 (refS ss key i).length), (8, .sl 1 0 (refS ss key i).length), (22, serV ss ss.length), (23, SV.i ss.length), (24, SV.i i)], hOf [some (.rows 9 1 (refS ss key i).length (vF (refS ss key i))), some (.rows 3 1 (refS ss key i).length (cF (refS ss key i)))], 2⟩
      have hx : i ≤ ss.length := hx
      have hrl := refS_len h6 key i (by omega)
      have hlow := low_S h6 key i (by omega)
      refine r1 ?_
      refine s1 25 2 1 rfl rfl rfl rfl rfl rfl (by first | trivial | omega) ?_
      refine e1 10 rfl ?_
      refine keep [1, 7, 8, 22, 23, 24, 25] rfl ?_
      refine W_seq ?_
      refine q1 rfl (fun hc6 => ?_) (fun hc6 => ?_)
      · skip
        try simp only [cs, ne_eq] at hc6
        refine W_skip ?_
        refine tn ?_
        refine W_seq ?_
        refine W_block ?_
        refine r1 ?_
        refine s1 26 10 1 rfl rfl rfl rfl rfl rfl (by first | trivial | omega) ?_
        refine s1 27 18 2 rfl rfl rfl rfl rfl rfl (by first | trivial | omega) ?_
        refine s1 10 26 3 rfl rfl rfl rfl rfl rfl trivial ?_
        refine val 10 (tagsV (ss.getD i [])) rfl (by first | rfl | (unfold tagsV; simp only [Int.toNat_natCast, Nat.zero_add]; rfl)) ?_
        refine e1 34 rfl ?_
        refine keep [1, 7, 8, 10, 22, 23, 24] rfl ?_
        refine r1 ?_
        refine s1 28 34 1 rfl rfl rfl rfl rfl rfl trivial ?_
        refine s1 29 42 2 rfl rfl rfl rfl rfl rfl (by first | trivial | omega) ?_
        refine s1 30 50 3 rfl rfl rfl rfl rfl rfl trivial ?_
        refine e1 58 rfl ?_
        refine keep [1, 7, 8, 22, 23, 24, 28, 29, 30] rfl ?_
        refine W_block ?_
        have hl6 := h6 i (by omega)
        refine loop (α := Nat) 2 (fun n => [(1, .d (.val (.string key))), (7, .sl 0 0 (refL (ss.getD i []) key (n) (refS ss key i)).length), (8, .sl 1 0 (refL (ss.getD i []) key (n) (refS ss key i)).length), (22, serV ss ss.length), (23, SV.i ss.length), (24, SV.i i), (28, tagsV (ss.getD i [])), (29, SV.i (ss.getD i []).length), (30, SV.i (n))]) (fun n => [some (.rows 9 1 (refL (ss.getD i []) key (n) (refS ss key i)).length (vF (refL (ss.getD i []) key (n) (refS ss key i)))), some (.rows 3 1 (refL (ss.getD i []) key (n) (refS ss key i)).length (cF (refL (ss.getD i []) key (n) (refS ss key i))))]) (fun n => (n) ≤ (ss.getD i []).length) (fun n => (ss.getD i []).length - (n)) (((0) : Nat)) [0, 1] (fun _ => rfl) (show (0) ≤ (ss.getD i []).length from (Nat.zero_le _)) rfl ⟨rfl, rfl, rfl, rfl, rfl, rfl, rfl, rfl, rfl, trivial⟩ ⟨rfl, rfl, trivial⟩ (fun n hx => ?_)
        show W _ _ _ ⟨tOf [(1, .d (.val (.string key))), (7, .sl 0 0 (refL (ss.getD i []) key n (refS ss key i)).length), (8, .sl 1 0 (refL (ss.getD i []) key n (refS ss key i)).length), (22, serV ss ss.length), (23, SV.i ss.length), (24, SV.i i), (28, tagsV (ss.getD i [])), (29, SV.i (ss.getD i []).length), (30, SV.i n)], hOf [some (.rows 9 1 (refL (ss.getD i []) key n (refS ss key i)).length (vF (refL (ss.getD i []) key n (refS ss key i)))), some (.rows 3 1 (refL (ss.getD i []) key n (refS ss key i)).length (cF (refL (ss.getD i []) key n (refS ss key i))))], 2⟩
        have hx : n ≤ (ss.getD i []).length := hx
        have hrn := refL_len (ss.getD i []) key (refS ss key i) n
        have hlow2 := low_L (l := (ss.getD i [])) (key := key) (by omega) hlow n
        refine r1 ?_
        refine s1 31 2 1 rfl rfl rfl rfl rfl rfl (by first | trivial | omega) ?_
        refine e1 10 rfl ?_
        refine keep [1, 7, 8, 22, 23, 24, 28, 29, 30, 31] rfl ?_
        refine W_seq ?_
        refine q1 rfl (fun hc9 => ?_) (fun hc9 => ?_)
        · skip
          try simp only [cs, ne_eq] at hc9
          refine W_skip ?_
          refine tn ?_
          refine W_seq ?_
          refine W_block ?_
          refine r1 ?_
          refine s1 32 10 1 rfl rfl rfl rfl rfl rfl (by first | trivial | omega) ?_
          refine s1 33 18 2 rfl rfl rfl rfl rfl rfl (by first | trivial | omega) ?_
          refine s1 12 26 3 rfl rfl rfl rfl rfl rfl trivial ?_
          refine s0 34 4 rfl rfl rfl rfl rfl (by first | trivial | omega) ?_
          refine e1 42 rfl ?_
          refine keep [1, 7, 8, 12, 22, 23, 24, 28, 29, 30] rfl ?_
          refine W_seq ?_
          refine r1 ?_
          refine s1 34 42 1 rfl rfl rfl rfl rfl rfl trivial ?_
          refine s1 35 50 2 rfl rfl rfl rfl rfl rfl (by first | trivial | omega) ?_
          refine s1 36 58 3 rfl rfl rfl rfl rfl rfl trivial ?_
          refine s1 37 66 4 rfl rfl rfl rfl rfl rfl (by first | trivial | omega) ?_
          refine e1 74 rfl ?_
          refine keep [1, 7, 8, 12, 22, 23, 24, 28, 29, 30, 37] rfl ?_
          refine q1 rfl (fun hc11 => ?_) (fun hc11 => ?_)
          · skip
            try simp only [cs, ne_eq] at hc11
            refine W_exit ?_
            refine tx ?_
            refine bx ?_
            refine tn ?_
            have hI : (refL (ss.getD i []) key (n + 1) (refS ss key i)) = (refL (ss.getD i []) key n (refS ss key i)) := refL_no (fun e => hc11 (str_eq.1 e))
            refine rowsc 0 (refL (ss.getD i []) key (n + 1) (refS ss key i)).length (vF (refL (ss.getD i []) key (n + 1) (refS ss key i))) rfl (by rw [hI]) (fun i c hi hc => by rw [hI]) ?_
            refine rowsc 1 (refL (ss.getD i []) key (n + 1) (refS ss key i)).length (cF (refL (ss.getD i []) key (n + 1) (refS ss key i))) rfl (by rw [hI]) (fun i c hi hc => by rw [hI]) ?_
            refine cval 7 (.sl 0 0 (refL (ss.getD i []) key (n + 1) (refS ss key i)).length) rfl (by rw [hI]) ?_
            refine cval 8 (.sl 1 0 (refL (ss.getD i []) key (n + 1) (refS ss key i)).length) rfl (by rw [hI]) ?_
            refine r0 ?_
            refine sA 92 74 1 rfl rfl rfl rfl rfl rfl rfl rfl rfl (by unfold inRange; omega) ?_
            refine s1 30 82 2 rfl rfl rfl rfl rfl rfl trivial ?_
            refine e1 90 rfl ?_
            refine tn ?_
            exact again ((n + 1 : Nat)) [0, 1] (show (n + 1) ≤ (ss.getD i []).length from (by omega)) (show (ss.getD i []).length - (n + 1) < (ss.getD i []).length - n from (by omega)) rfl ⟨rfl, rfl, rfl, rfl, rfl, rfl, rfl, rfl, rfl, trivial⟩ ⟨rfl, rfl, trivial⟩
          · skip
            try simp only [cs, ne_eq] at hc11
            refine W_skip ?_
            refine tn ?_
            refine r1 ?_
            refine s1 13 74 1 rfl rfl rfl rfl rfl rfl trivial ?_
            refine e1 82 rfl ?_
            refine keep [1, 7, 8, 12, 13, 22, 23, 24, 28, 29, 30] rfl ?_
            refine W_seq ?_
            refine W_block ?_
            generalize hR : (refL (ss.getD i []) key n (refS ss key i)) = R at *
            have hkey : ((ss.getD i []).getD n default).key = key := str_eq.2 hc11
            refine loop (α := Nat) 3 (fun a => [(1, .d (.val (.string key))), (7, .sl 0 0 R.length), (8, .sl 1 0 R.length), (12, .ptr 2 0 0), (13, SV.i (a)), (22, serV ss ss.length), (23, SV.i ss.length), (24, SV.i i), (28, tagsV (ss.getD i [])), (29, SV.i (ss.getD i []).length), (30, SV.i n)]) (fun a => [some (.rows 9 1 R.length (vF R)), some (.rows 3 1 R.length (cF R)), some (.cells 58 2 [.d (.val (.string ((ss.getD i []).getD n default).key)), .d (.val (.string ((ss.getD i []).getD n default).val))])]) (fun a => (a) ≤ R.length ∧ ∀ j, j < (a) → (R.getD j rlD).1 < ofB ((ss.getD i []).getD n default).val) (fun a => R.length - (a)) (((0) : Nat)) [0, 1, 26] (fun _ => rfl) (show (0) ≤ R.length ∧ ∀ j, j < (0) → (R.getD j rlD).1 < ofB ((ss.getD i []).getD n default).val from ⟨Nat.zero_le _, fun j hj => by omega⟩) rfl ⟨rfl, rfl, rfl, rfl, rfl, rfl, rfl, rfl, rfl, rfl, rfl, trivial⟩ ⟨rfl, rfl, rfl, trivial⟩ (fun a hx => ?_)
            show W _ _ _ ⟨tOf [(1, .d (.val (.string key))), (7, .sl 0 0 R.length), (8, .sl 1 0 R.length), (12, .ptr 2 0 0), (13, SV.i a), (22, serV ss ss.length), (23, SV.i ss.length), (24, SV.i i), (28, tagsV (ss.getD i [])), (29, SV.i (ss.getD i []).length), (30, SV.i n)], hOf [some (.rows 9 1 R.length (vF R)), some (.rows 3 1 R.length (cF R)), some (.cells 58 2 [.d (.val (.string ((ss.getD i []).getD n default).key)), .d (.val (.string ((ss.getD i []).getD n default).val))])], 3⟩
            have hx : a ≤ R.length ∧ ∀ j, j < a → (R.getD j rlD).1 < ofB ((ss.getD i []).getD n default).val := hx
            obtain ⟨ha, hlt⟩ := hx
            refine W_seq ?_
            refine rd1 rfl ?_
            refine d1 38 3 1 rfl rfl rfl rfl rfl rfl trivial ?_
            refine d1 39 11 2 rfl rfl rfl rfl rfl rfl trivial ?_
            refine d1 40 19 3 rfl rfl rfl rfl rfl rfl (by first | trivial | omega) ?_
            refine d1 41 27 4 rfl rfl rfl rfl rfl rfl (by first | trivial | omega) ?_
            refine d1 42 35 5 rfl rfl rfl rfl rfl rfl trivial ?_
            refine ask 42 rfl (fun hg13_42 => ?_) (fun hg13_42 => ?_)
            · skip
              try simp only [cs, ne_eq] at hg13_42
              refine g1 4 true 42 43 6 rfl rfl rfl rfl rfl ?_
              refine d1 43 43 6 rfl rfl rfl rfl rfl rfl trivial ?_
              refine g1 4 true 42 44 7 rfl rfl rfl rfl rfl ?_
              refine d1 44 51 7 rfl rfl rfl rfl rfl rfl trivial ?_
              refine g1 4 true 42 45 8 rfl rfl rfl rfl rfl ?_
              refine d1 45 59 8 rfl rfl rfl rfl rfl rfl (by first | trivial | omega) ?_
              refine g1 4 true 42 46 9 rfl rfl rfl rfl rfl ?_
              refine d1 46 67 9 rfl rfl rfl rfl rfl rfl (by first | trivial | omega) ?_
              refine g1 4 true 42 47 10 rfl rfl rfl rfl rfl ?_
              refine d1 47 75 10 rfl rfl rfl rfl rfl rfl trivial ?_
              refine g1 4 true 42 48 11 rfl rfl rfl rfl rfl ?_
              refine d1 48 83 11 rfl rfl rfl rfl rfl rfl (by first | trivial | omega) ?_
              refine g1 4 true 42 49 12 rfl rfl rfl rfl rfl ?_
              refine d1 49 91 12 rfl rfl rfl rfl rfl rfl (by first | trivial | omega) ?_
              refine d1 50 99 13 rfl rfl rfl rfl rfl rfl trivial ?_
              refine de1 107 rfl (by kernel_rfl) ?_
              refine keep [1, 7, 8, 12, 13, 22, 23, 24, 28, 29, 30, 50] rfl ?_
              refine q1 rfl (fun hc13 => ?_) (fun hc13 => ?_)
              · skip
                try simp only [cs, ne_eq] at hc13
                refine W_skip ?_
                refine tn ?_
                refine W_block ?_
                refine r0 ?_
                refine s1 51 107 1 rfl rfl rfl rfl rfl rfl trivial ?_
                refine sA 52 115 2 rfl rfl rfl rfl rfl rfl rfl rfl rfl (by unfold inRange; omega) ?_
                refine s1 13 123 3 rfl rfl rfl rfl rfl rfl trivial ?_
                refine e1 131 rfl ?_
                refine bn ?_
                refine tn ?_
                exact again ((a + 1 : Nat)) [0, 1, 2] (show (a + 1) ≤ R.length ∧ ∀ j, j < (a + 1) → (R.getD j rlD).1 < ofB ((ss.getD i []).getD n default).val from ⟨by omega, fun j hj => by by_cases e : j = a; (subst e; rw [less_iff (by omega)] at hc13; simpa using hc13); exact hlt j (by omega)⟩) (show R.length - (a + 1) < R.length - a from (by omega)) rfl ⟨rfl, rfl, rfl, rfl, rfl, rfl, rfl, rfl, rfl, rfl, rfl, trivial⟩ ⟨rfl, rfl, rfl, trivial⟩
              · skip
                try simp only [cs, ne_eq] at hc13
                refine W_exit ?_
                refine tx ?_
                refine tx ?_
                refine bx ?_
                refine tn ?_
                refine W_seq ?_
                refine rd1 rfl ?_
                refine d1 53 107 1 rfl rfl rfl rfl rfl rfl trivial ?_
                refine d1 54 115 2 rfl rfl rfl rfl rfl rfl trivial ?_
                refine d1 55 123 3 rfl rfl rfl rfl rfl rfl (by first | trivial | omega) ?_
                refine d1 56 131 4 rfl rfl rfl rfl rfl rfl (by first | trivial | omega) ?_
                refine d1 57 139 5 rfl rfl rfl rfl rfl rfl trivial ?_
                refine ask 57 rfl (fun hg15_57 => ?_) (fun hg15_57 => ?_)
                · skip
                  try simp only [cs, ne_eq] at hg15_57
                  refine g1 4 true 57 58 6 rfl rfl rfl rfl rfl ?_
                  refine d1 58 147 6 rfl rfl rfl rfl rfl rfl trivial ?_
                  refine g1 4 true 57 59 7 rfl rfl rfl rfl rfl ?_
                  refine d1 59 155 7 rfl rfl rfl rfl rfl rfl trivial ?_
                  refine g1 4 true 57 60 8 rfl rfl rfl rfl rfl ?_
                  refine d1 60 163 8 rfl rfl rfl rfl rfl rfl (by first | trivial | omega) ?_
                  refine g1 4 true 57 61 9 rfl rfl rfl rfl rfl ?_
                  refine d1 61 171 9 rfl rfl rfl rfl rfl rfl (by first | trivial | omega) ?_
                  refine g1 4 true 57 62 10 rfl rfl rfl rfl rfl ?_
                  refine d1 62 179 10 rfl rfl rfl rfl rfl rfl trivial ?_
                  refine g1 4 true 57 63 11 rfl rfl rfl rfl rfl ?_
                  refine d1 63 187 11 rfl rfl rfl rfl rfl rfl (by first | trivial | omega) ?_
                  refine g1 4 true 57 64 12 rfl rfl rfl rfl rfl ?_
                  refine d1 64 195 12 rfl rfl rfl rfl rfl rfl (by first | trivial | omega) ?_
                  refine d1 65 203 13 rfl rfl rfl rfl rfl rfl trivial ?_
                  refine de1 211 rfl (by kernel_rfl) ?_
                  refine keep [1, 7, 8, 12, 13, 22, 23, 24, 28, 29, 30, 65] rfl ?_
                  refine q1 rfl (fun hc15 => ?_) (fun hc15 => ?_)
                  · skip
                    try simp only [cs, ne_eq] at hc15
                    refine r1 ?_
                    refine s1 66 211 1 rfl rfl rfl rfl rfl rfl trivial ?_
                    refine s1 67 219 2 rfl rfl rfl rfl rfl rfl trivial ?_
                    refine s1 68 227 3 rfl rfl rfl rfl rfl rfl (by first | trivial | omega) ?_
                    refine s1 69 235 4 rfl rfl rfl rfl rfl rfl (by first | trivial | omega) ?_
                    refine sA 70 243 5 rfl rfl rfl rfl rfl rfl rfl rfl rfl (by rw [at_c (by omega)]; have := low_at hlow2 (a := a) (by omega); unfold inRange; omega) ?_
                    refine s1 71 251 6 rfl rfl rfl rfl rfl rfl (by first | trivial | omega) ?_
                    refine s0 259 7 rfl rfl rfl rfl rfl (by first | trivial | omega) ?_
                    refine e1 267 rfl ?_
                    refine keep [1, 7, 8, 22, 23, 24, 28, 29, 30] rfl ?_
                    refine W_exit ?_
                    refine tx ?_
                    refine bx ?_
                    refine tn ?_
                    have haR : a < R.length := (by omega)
                    have hat : (R.getD a rlD).1 = ofB ((ss.getD i []).getD n default).val := (same_iff haR _).1 hc15
                    have hI : (refL (ss.getD i []) key (n + 1) (refS ss key i)) = R.set a (ofB ((ss.getD i []).getD n default).val, (R.getD a rlD).2 + 1) := (by rw [refL_yes hkey, hR]; exact ins_at hlt haR hat)
                    refine rowsc 0 (refL (ss.getD i []) key (n + 1) (refS ss key i)).length (vF (refL (ss.getD i []) key (n + 1) (refS ss key i))) rfl (by rw [hI, List.length_set]) (fun i c hi hc => by rw [hI]; exact (set_v haR hat _ i c).symm) ?_
                    refine rowsc 1 (refL (ss.getD i []) key (n + 1) (refS ss key i)).length (cF (refL (ss.getD i []) key (n + 1) (refS ss key i))) rfl (by rw [hI, List.length_set]) (fun i c hi hc => by rw [hI, set_c haR]; have hc1 : c < 1 := hc; obtain rfl : c = 0 := (by omega); exact upd_c haR i) ?_
                    refine cval 7 (.sl 0 0 (refL (ss.getD i []) key (n + 1) (refS ss key i)).length) rfl (by rw [hI, List.length_set]) ?_
                    refine cval 8 (.sl 1 0 (refL (ss.getD i []) key (n + 1) (refS ss key i)).length) rfl (by rw [hI, List.length_set]) ?_
                    refine r0 ?_
                    refine sA 92 267 1 rfl rfl rfl rfl rfl rfl rfl rfl rfl (by unfold inRange; omega) ?_
                    refine s1 30 275 2 rfl rfl rfl rfl rfl rfl trivial ?_
                    refine e1 283 rfl ?_
                    refine tn ?_
                    exact again ((n + 1 : Nat)) [0, 1] (show (n + 1) ≤ (ss.getD i []).length from (by omega)) (show (ss.getD i []).length - (n + 1) < (ss.getD i []).length - n from (by omega)) rfl ⟨rfl, rfl, rfl, rfl, rfl, rfl, rfl, rfl, rfl, trivial⟩ ⟨rfl, rfl, trivial⟩
                  · skip
                    try simp only [cs, ne_eq] at hc15
                    refine W_skip ?_
                    refine tn ?_
                    refine rd1 rfl ?_
                    refine d1 72 211 1 rfl rfl rfl rfl rfl rfl trivial ?_
                    refine d1 73 219 2 rfl rfl rfl rfl rfl rfl trivial ?_
                    refine d1 74 227 3 rfl rfl rfl rfl rfl rfl (by first | trivial | omega) ?_
                    refine d1 75 235 4 rfl rfl rfl rfl rfl rfl trivial ?_
                    refine d1 76 243 5 rfl rfl rfl rfl rfl rfl (by first | trivial | omega) ?_
                    refine d1 77 251 6 rfl rfl rfl rfl rfl rfl trivial ?_
                    refine d1 78 259 7 rfl rfl rfl rfl rfl rfl trivial ?_
                    refine d1 79 267 8 rfl rfl rfl rfl rfl rfl trivial ?_
                    refine d1 80 275 9 rfl rfl rfl rfl rfl rfl (by first | trivial | omega) ?_
                    refine d1 81 283 10 rfl rfl rfl rfl rfl rfl ⟨by simp only [Int.toNat_natCast]; omega, (by show (1 + ((R.length : Int).toNat - (a : Int).toNat)) * 16 ≤ 140737488355328; simp only [Int.toNat_natCast]; omega), (by simp only [maxLen, Int.toNat_natCast]; omega)⟩ ?_
                    refine d1 82 291 11 rfl rfl rfl rfl rfl rfl ⟨by simp only [Int.toNat_natCast]; omega, by omega, (by show ((a : Int).toNat - Int.toNat 0 + (1 + ((R.length : Int).toNat - (a : Int).toNat))) * 16 ≤ 140737488355328; simp only [Int.toNat_natCast, Int.toNat_zero]; omega), (by simp only [maxLen, Int.toNat_natCast, Int.toNat_zero]; omega)⟩ ?_
                    refine d1 7 299 12 rfl rfl rfl rfl rfl rfl trivial ?_
                    refine de1 307 rfl (by kernel_rfl) ?_
                    refine keep [1, 7, 8, 13, 22, 23, 24, 28, 29, 30] rfl ?_
                    refine rd0 rfl ?_
                    refine d1 83 307 1 rfl rfl rfl rfl rfl rfl trivial ?_
                    refine d1 84 315 2 rfl rfl rfl rfl rfl rfl trivial ?_
                    refine d1 85 323 3 rfl rfl rfl rfl rfl rfl (by first | trivial | omega) ?_
                    refine d1 86 331 4 rfl rfl rfl rfl rfl rfl trivial ?_
                    refine d1 87 339 5 rfl rfl rfl rfl rfl rfl trivial ?_
                    refine d1 88 347 6 rfl rfl rfl rfl rfl rfl trivial ?_
                    refine d1 89 355 7 rfl rfl rfl rfl rfl rfl (by first | trivial | omega) ?_
                    refine d1 90 363 8 rfl rfl rfl rfl rfl rfl ⟨by simp only [Int.toNat_natCast]; omega, (by show (1 + ((R.length : Int).toNat - (a : Int).toNat)) * 8 ≤ 140737488355328; simp only [Int.toNat_natCast]; omega), (by simp only [maxLen, Int.toNat_natCast]; omega)⟩ ?_
                    refine d1 91 371 9 rfl rfl rfl rfl rfl rfl ⟨by simp only [Int.toNat_natCast]; omega, by omega, (by show ((a : Int).toNat - Int.toNat 0 + (1 + ((R.length : Int).toNat - (a : Int).toNat))) * 8 ≤ 140737488355328; simp only [Int.toNat_natCast, Int.toNat_zero]; omega), (by simp only [maxLen, Int.toNat_natCast, Int.toNat_zero]; omega)⟩ ?_
                    refine d1 8 379 10 rfl rfl rfl rfl rfl rfl trivial ?_
                    refine de1 387 rfl (by kernel_rfl) ?_
                    refine bn ?_
                    refine tn ?_
                    have hnew : a < R.length → ¬ (R.getD a rlD).1 < ofB ((ss.getD i []).getD n default).val ∧ ¬ (R.getD a rlD).1 = ofB ((ss.getD i []).getD n default).val := (fun h => ⟨by first | (exfalso; omega) | (rw [less_iff h] at hc13; simpa using hc13), by first | (exfalso; omega) | exact fun e => hc15 ((same_iff h _).2 e)⟩)
                    have hI : (refL (ss.getD i []) key (n + 1) (refS ss key i)) = R.take a ++ (ofB ((ss.getD i []).getD n default).val, 1) :: R.drop a := (by rw [refL_yes hkey, hR]; exact ins_new hlt ha hnew)
                    refine rowsc 291 (refL (ss.getD i []) key (n + 1) (refS ss key i)).length (vF (refL (ss.getD i []) key (n + 1) (refS ss key i))) rfl (by rw [hI, mid_len ha]; simp only [Int.toNat_natCast, Int.toNat_zero]; omega) (fun i c hi hc => by rw [hI]; have hc1 : c < 1 := hc; obtain rfl : c = 0 := (by omega); exact mid_v ha (fun i h => rfl) rfl (fun i => off_eq (vF R) a i) (by simp) rfl i) ?_
                    refine rowsc 371 (refL (ss.getD i []) key (n + 1) (refS ss key i)).length (cF (refL (ss.getD i []) key (n + 1) (refS ss key i))) rfl (by rw [hI, mid_len ha]; simp only [Int.toNat_natCast, Int.toNat_zero]; omega) (fun i c hi hc => by rw [hI]; have hc1 : c < 1 := hc; obtain rfl : c = 0 := (by omega); exact mid_c ha (fun i h => rfl) rfl (fun i => off_eq (cF R) a i) (by simp) rfl i) ?_
                    refine cval 7 (.sl 291 0 (refL (ss.getD i []) key (n + 1) (refS ss key i)).length) rfl (congrArg (SV.sl 291 0) (by rw [hI, mid_len ha]; simp only [Int.toNat_natCast, Int.toNat_zero]; omega)) ?_
                    refine cval 8 (.sl 371 0 (refL (ss.getD i []) key (n + 1) (refS ss key i)).length) rfl (congrArg (SV.sl 371 0) (by rw [hI, mid_len ha]; simp only [Int.toNat_natCast, Int.toNat_zero]; omega)) ?_
                    refine r0 ?_
                    refine sA 92 387 1 rfl rfl rfl rfl rfl rfl rfl rfl rfl (by unfold inRange; omega) ?_
                    refine s1 30 395 2 rfl rfl rfl rfl rfl rfl trivial ?_
                    refine e1 403 rfl ?_
                    refine tn ?_
                    exact again ((n + 1 : Nat)) [291, 371] (show (n + 1) ≤ (ss.getD i []).length from (by omega)) (show (ss.getD i []).length - (n + 1) < (ss.getD i []).length - n from (by omega)) rfl ⟨rfl, rfl, rfl, rfl, rfl, rfl, rfl, rfl, rfl, trivial⟩ ⟨rfl, rfl, trivial⟩
                · skip
                  try simp only [cs, ne_eq] at hg15_57
                  refine g0 4 true 57 58 6 rfl rfl rfl rfl rfl rfl ?_
                  refine g0 4 true 57 59 7 rfl rfl rfl rfl rfl rfl ?_
                  refine g0 4 true 57 60 8 rfl rfl rfl rfl rfl rfl ?_
                  refine g0 4 true 57 61 9 rfl rfl rfl rfl rfl rfl ?_
                  refine g0 4 true 57 62 10 rfl rfl rfl rfl rfl rfl ?_
                  refine g0 4 true 57 63 11 rfl rfl rfl rfl rfl rfl ?_
                  refine g0 4 true 57 64 12 rfl rfl rfl rfl rfl rfl ?_
                  refine d1 65 203 13 rfl rfl rfl rfl rfl rfl trivial ?_
                  refine de1 211 rfl (by kernel_rfl) ?_
                  refine keep [1, 7, 8, 12, 13, 22, 23, 24, 28, 29, 30, 65] rfl ?_
                  refine q1 rfl (fun hc15 => ?_) (fun hc15 => ?_)
                  · skip
                    exact absurd hc15 (by decide)
                  · skip
                    try simp only [cs, ne_eq] at hc15
                    refine W_skip ?_
                    refine tn ?_
                    refine rd1 rfl ?_
                    refine d1 72 211 1 rfl rfl rfl rfl rfl rfl trivial ?_
                    refine d1 73 219 2 rfl rfl rfl rfl rfl rfl trivial ?_
                    refine d1 74 227 3 rfl rfl rfl rfl rfl rfl (by first | trivial | omega) ?_
                    refine d1 75 235 4 rfl rfl rfl rfl rfl rfl trivial ?_
                    refine d1 76 243 5 rfl rfl rfl rfl rfl rfl (by first | trivial | omega) ?_
                    refine d1 77 251 6 rfl rfl rfl rfl rfl rfl trivial ?_
                    refine d1 78 259 7 rfl rfl rfl rfl rfl rfl trivial ?_
                    refine d1 79 267 8 rfl rfl rfl rfl rfl rfl trivial ?_
                    refine d1 80 275 9 rfl rfl rfl rfl rfl rfl (by first | trivial | omega) ?_
                    refine d1 81 283 10 rfl rfl rfl rfl rfl rfl ⟨by simp only [Int.toNat_natCast]; omega, (by show (1 + ((R.length : Int).toNat - (a : Int).toNat)) * 16 ≤ 140737488355328; simp only [Int.toNat_natCast]; omega), (by simp only [maxLen, Int.toNat_natCast]; omega)⟩ ?_
                    refine d1 82 291 11 rfl rfl rfl rfl rfl rfl ⟨by simp only [Int.toNat_natCast]; omega, by omega, (by show ((a : Int).toNat - Int.toNat 0 + (1 + ((R.length : Int).toNat - (a : Int).toNat))) * 16 ≤ 140737488355328; simp only [Int.toNat_natCast, Int.toNat_zero]; omega), (by simp only [maxLen, Int.toNat_natCast, Int.toNat_zero]; omega)⟩ ?_
                    refine d1 7 299 12 rfl rfl rfl rfl rfl rfl trivial ?_
                    refine de1 307 rfl (by kernel_rfl) ?_
                    refine keep [1, 7, 8, 13, 22, 23, 24, 28, 29, 30] rfl ?_
                    refine rd0 rfl ?_
                    refine d1 83 307 1 rfl rfl rfl rfl rfl rfl trivial ?_
                    refine d1 84 315 2 rfl rfl rfl rfl rfl rfl trivial ?_
                    refine d1 85 323 3 rfl rfl rfl rfl rfl rfl (by first | trivial | omega) ?_
                    refine d1 86 331 4 rfl rfl rfl rfl rfl rfl trivial ?_
                    refine d1 87 339 5 rfl rfl rfl rfl rfl rfl trivial ?_
                    refine d1 88 347 6 rfl rfl rfl rfl rfl rfl trivial ?_
                    refine d1 89 355 7 rfl rfl rfl rfl rfl rfl (by first | trivial | omega) ?_
                    refine d1 90 363 8 rfl rfl rfl rfl rfl rfl ⟨by simp only [Int.toNat_natCast]; omega, (by show (1 + ((R.length : Int).toNat - (a : Int).toNat)) * 8 ≤ 140737488355328; simp only [Int.toNat_natCast]; omega), (by simp only [maxLen, Int.toNat_natCast]; omega)⟩ ?_
                    refine d1 91 371 9 rfl rfl rfl rfl rfl rfl ⟨by simp only [Int.toNat_natCast]; omega, by omega, (by show ((a : Int).toNat - Int.toNat 0 + (1 + ((R.length : Int).toNat - (a : Int).toNat))) * 8 ≤ 140737488355328; simp only [Int.toNat_natCast, Int.toNat_zero]; omega), (by simp only [maxLen, Int.toNat_natCast, Int.toNat_zero]; omega)⟩ ?_
                    refine d1 8 379 10 rfl rfl rfl rfl rfl rfl trivial ?_
                    refine de1 387 rfl (by kernel_rfl) ?_
                    refine bn ?_
                    refine tn ?_
                    have hnew : a < R.length → ¬ (R.getD a rlD).1 < ofB ((ss.getD i []).getD n default).val ∧ ¬ (R.getD a rlD).1 = ofB ((ss.getD i []).getD n default).val := (fun h => ⟨by first | (exfalso; omega) | (rw [less_iff h] at hc13; simpa using hc13), by first | (exfalso; omega) | exact fun e => hc15 ((same_iff h _).2 e)⟩)
                    have hI : (refL (ss.getD i []) key (n + 1) (refS ss key i)) = R.take a ++ (ofB ((ss.getD i []).getD n default).val, 1) :: R.drop a := (by rw [refL_yes hkey, hR]; exact ins_new hlt ha hnew)
                    refine rowsc 291 (refL (ss.getD i []) key (n + 1) (refS ss key i)).length (vF (refL (ss.getD i []) key (n + 1) (refS ss key i))) rfl (by rw [hI, mid_len ha]; simp only [Int.toNat_natCast, Int.toNat_zero]; omega) (fun i c hi hc => by rw [hI]; have hc1 : c < 1 := hc; obtain rfl : c = 0 := (by omega); exact mid_v ha (fun i h => rfl) rfl (fun i => off_eq (vF R) a i) (by simp) rfl i) ?_
                    refine rowsc 371 (refL (ss.getD i []) key (n + 1) (refS ss key i)).length (cF (refL (ss.getD i []) key (n + 1) (refS ss key i))) rfl (by rw [hI, mid_len ha]; simp only [Int.toNat_natCast, Int.toNat_zero]; omega) (fun i c hi hc => by rw [hI]; have hc1 : c < 1 := hc; obtain rfl : c = 0 := (by omega); exact mid_c ha (fun i h => rfl) rfl (fun i => off_eq (cF R) a i) (by simp) rfl i) ?_
                    refine cval 7 (.sl 291 0 (refL (ss.getD i []) key (n + 1) (refS ss key i)).length) rfl (congrArg (SV.sl 291 0) (by rw [hI, mid_len ha]; simp only [Int.toNat_natCast, Int.toNat_zero]; omega)) ?_
                    refine cval 8 (.sl 371 0 (refL (ss.getD i []) key (n + 1) (refS ss key i)).length) rfl (congrArg (SV.sl 371 0) (by rw [hI, mid_len ha]; simp only [Int.toNat_natCast, Int.toNat_zero]; omega)) ?_
                    refine r0 ?_
                    refine sA 92 387 1 rfl rfl rfl rfl rfl rfl rfl rfl rfl (by unfold inRange; omega) ?_
                    refine s1 30 395 2 rfl rfl rfl rfl rfl rfl trivial ?_
                    refine e1 403 rfl ?_
                    refine tn ?_
                    exact again ((n + 1 : Nat)) [291, 371] (show (n + 1) ≤ (ss.getD i []).length from (by omega)) (show (ss.getD i []).length - (n + 1) < (ss.getD i []).length - n from (by omega)) rfl ⟨rfl, rfl, rfl, rfl, rfl, rfl, rfl, rfl, rfl, trivial⟩ ⟨rfl, rfl, trivial⟩
            · skip
              try simp only [cs, ne_eq] at hg13_42
              refine g0 4 true 42 43 6 rfl rfl rfl rfl rfl rfl ?_
              refine g0 4 true 42 44 7 rfl rfl rfl rfl rfl rfl ?_
              refine g0 4 true 42 45 8 rfl rfl rfl rfl rfl rfl ?_
              refine g0 4 true 42 46 9 rfl rfl rfl rfl rfl rfl ?_
              refine g0 4 true 42 47 10 rfl rfl rfl rfl rfl rfl ?_
              refine g0 4 true 42 48 11 rfl rfl rfl rfl rfl rfl ?_
              refine g0 4 true 42 49 12 rfl rfl rfl rfl rfl rfl ?_
              refine d1 50 99 13 rfl rfl rfl rfl rfl rfl trivial ?_
              refine de1 107 rfl (by kernel_rfl) ?_
              refine keep [1, 7, 8, 12, 13, 22, 23, 24, 28, 29, 30, 50] rfl ?_
              refine q1 rfl (fun hc13 => ?_) (fun hc13 => ?_)
              · skip
                exact absurd hc13 (by decide)
              · skip
                try simp only [cs, ne_eq] at hc13
                refine W_exit ?_
                refine tx ?_
                refine tx ?_
                refine bx ?_
                refine tn ?_
                refine W_seq ?_
                refine rd1 rfl ?_
                refine d1 53 107 1 rfl rfl rfl rfl rfl rfl trivial ?_
                refine d1 54 115 2 rfl rfl rfl rfl rfl rfl trivial ?_
                refine d1 55 123 3 rfl rfl rfl rfl rfl rfl (by first | trivial | omega) ?_
                refine d1 56 131 4 rfl rfl rfl rfl rfl rfl (by first | trivial | omega) ?_
                refine d1 57 139 5 rfl rfl rfl rfl rfl rfl trivial ?_
                refine ask 57 rfl (fun hg15_57 => ?_) (fun hg15_57 => ?_)
                · skip
                  try simp only [cs, ne_eq] at hg15_57
                  refine g1 4 true 57 58 6 rfl rfl rfl rfl rfl ?_
                  refine d1 58 147 6 rfl rfl rfl rfl rfl rfl trivial ?_
                  refine g1 4 true 57 59 7 rfl rfl rfl rfl rfl ?_
                  refine d1 59 155 7 rfl rfl rfl rfl rfl rfl trivial ?_
                  refine g1 4 true 57 60 8 rfl rfl rfl rfl rfl ?_
                  refine d1 60 163 8 rfl rfl rfl rfl rfl rfl (by first | trivial | omega) ?_
                  refine g1 4 true 57 61 9 rfl rfl rfl rfl rfl ?_
                  refine d1 61 171 9 rfl rfl rfl rfl rfl rfl (by first | trivial | omega) ?_
                  refine g1 4 true 57 62 10 rfl rfl rfl rfl rfl ?_
                  refine d1 62 179 10 rfl rfl rfl rfl rfl rfl trivial ?_
                  refine g1 4 true 57 63 11 rfl rfl rfl rfl rfl ?_
                  refine d1 63 187 11 rfl rfl rfl rfl rfl rfl (by first | trivial | omega) ?_
                  refine g1 4 true 57 64 12 rfl rfl rfl rfl rfl ?_
                  refine d1 64 195 12 rfl rfl rfl rfl rfl rfl (by first | trivial | omega) ?_
                  refine d1 65 203 13 rfl rfl rfl rfl rfl rfl trivial ?_
                  refine de1 211 rfl (by kernel_rfl) ?_
                  refine keep [1, 7, 8, 12, 13, 22, 23, 24, 28, 29, 30, 65] rfl ?_
                  refine q1 rfl (fun hc15 => ?_) (fun hc15 => ?_)
                  · skip
                    try simp only [cs, ne_eq] at hc15
                    refine r1 ?_
                    refine s1 66 211 1 rfl rfl rfl rfl rfl rfl trivial ?_
                    refine s1 67 219 2 rfl rfl rfl rfl rfl rfl trivial ?_
                    refine s1 68 227 3 rfl rfl rfl rfl rfl rfl (by first | trivial | omega) ?_
                    refine s1 69 235 4 rfl rfl rfl rfl rfl rfl (by first | trivial | omega) ?_
                    refine sA 70 243 5 rfl rfl rfl rfl rfl rfl rfl rfl rfl (by rw [at_c (by omega)]; have := low_at hlow2 (a := a) (by omega); unfold inRange; omega) ?_
                    refine s1 71 251 6 rfl rfl rfl rfl rfl rfl (by first | trivial | omega) ?_
                    refine s0 259 7 rfl rfl rfl rfl rfl (by first | trivial | omega) ?_
                    refine e1 267 rfl ?_
                    refine keep [1, 7, 8, 22, 23, 24, 28, 29, 30] rfl ?_
                    refine W_exit ?_
                    refine tx ?_
                    refine bx ?_
                    refine tn ?_
                    have haR : a < R.length := (by omega)
                    have hat : (R.getD a rlD).1 = ofB ((ss.getD i []).getD n default).val := (same_iff haR _).1 hc15
                    have hI : (refL (ss.getD i []) key (n + 1) (refS ss key i)) = R.set a (ofB ((ss.getD i []).getD n default).val, (R.getD a rlD).2 + 1) := (by rw [refL_yes hkey, hR]; exact ins_at hlt haR hat)
                    refine rowsc 0 (refL (ss.getD i []) key (n + 1) (refS ss key i)).length (vF (refL (ss.getD i []) key (n + 1) (refS ss key i))) rfl (by rw [hI, List.length_set]) (fun i c hi hc => by rw [hI]; exact (set_v haR hat _ i c).symm) ?_
                    refine rowsc 1 (refL (ss.getD i []) key (n + 1) (refS ss key i)).length (cF (refL (ss.getD i []) key (n + 1) (refS ss key i))) rfl (by rw [hI, List.length_set]) (fun i c hi hc => by rw [hI, set_c haR]; have hc1 : c < 1 := hc; obtain rfl : c = 0 := (by omega); exact upd_c haR i) ?_
                    refine cval 7 (.sl 0 0 (refL (ss.getD i []) key (n + 1) (refS ss key i)).length) rfl (by rw [hI, List.length_set]) ?_
                    refine cval 8 (.sl 1 0 (refL (ss.getD i []) key (n + 1) (refS ss key i)).length) rfl (by rw [hI, List.length_set]) ?_
                    refine r0 ?_
                    refine sA 92 267 1 rfl rfl rfl rfl rfl rfl rfl rfl rfl (by unfold inRange; omega) ?_
                    refine s1 30 275 2 rfl rfl rfl rfl rfl rfl trivial ?_
                    refine e1 283 rfl ?_
                    refine tn ?_
                    exact again ((n + 1 : Nat)) [0, 1] (show (n + 1) ≤ (ss.getD i []).length from (by omega)) (show (ss.getD i []).length - (n + 1) < (ss.getD i []).length - n from (by omega)) rfl ⟨rfl, rfl, rfl, rfl, rfl, rfl, rfl, rfl, rfl, trivial⟩ ⟨rfl, rfl, trivial⟩
                  · skip
                    try simp only [cs, ne_eq] at hc15
                    refine W_skip ?_
                    refine tn ?_
                    refine rd1 rfl ?_
                    refine d1 72 211 1 rfl rfl rfl rfl rfl rfl trivial ?_
                    refine d1 73 219 2 rfl rfl rfl rfl rfl rfl trivial ?_
                    refine d1 74 227 3 rfl rfl rfl rfl rfl rfl (by first | trivial | omega) ?_
                    refine d1 75 235 4 rfl rfl rfl rfl rfl rfl trivial ?_
                    refine d1 76 243 5 rfl rfl rfl rfl rfl rfl (by first | trivial | omega) ?_
                    refine d1 77 251 6 rfl rfl rfl rfl rfl rfl trivial ?_
                    refine d1 78 259 7 rfl rfl rfl rfl rfl rfl trivial ?_
                    refine d1 79 267 8 rfl rfl rfl rfl rfl rfl trivial ?_
                    refine d1 80 275 9 rfl rfl rfl rfl rfl rfl (by first | trivial | omega) ?_
                    refine d1 81 283 10 rfl rfl rfl rfl rfl rfl ⟨by simp only [Int.toNat_natCast]; omega, (by show (1 + ((R.length : Int).toNat - (a : Int).toNat)) * 16 ≤ 140737488355328; simp only [Int.toNat_natCast]; omega), (by simp only [maxLen, Int.toNat_natCast]; omega)⟩ ?_
                    refine d1 82 291 11 rfl rfl rfl rfl rfl rfl ⟨by simp only [Int.toNat_natCast]; omega, by omega, (by show ((a : Int).toNat - Int.toNat 0 + (1 + ((R.length : Int).toNat - (a : Int).toNat))) * 16 ≤ 140737488355328; simp only [Int.toNat_natCast, Int.toNat_zero]; omega), (by simp only [maxLen, Int.toNat_natCast, Int.toNat_zero]; omega)⟩ ?_
                    refine d1 7 299 12 rfl rfl rfl rfl rfl rfl trivial ?_
                    refine de1 307 rfl (by kernel_rfl) ?_
                    refine keep [1, 7, 8, 13, 22, 23, 24, 28, 29, 30] rfl ?_
                    refine rd0 rfl ?_
                    refine d1 83 307 1 rfl rfl rfl rfl rfl rfl trivial ?_
                    refine d1 84 315 2 rfl rfl rfl rfl rfl rfl trivial ?_
                    refine d1 85 323 3 rfl rfl rfl rfl rfl rfl (by first | trivial | omega) ?_
                    refine d1 86 331 4 rfl rfl rfl rfl rfl rfl trivial ?_
                    refine d1 87 339 5 rfl rfl rfl rfl rfl rfl trivial ?_
                    refine d1 88 347 6 rfl rfl rfl rfl rfl rfl trivial ?_
                    refine d1 89 355 7 rfl rfl rfl rfl rfl rfl (by first | trivial | omega) ?_
                    refine d1 90 363 8 rfl rfl rfl rfl rfl rfl ⟨by simp only [Int.toNat_natCast]; omega, (by show (1 + ((R.length : Int).toNat - (a : Int).toNat)) * 8 ≤ 140737488355328; simp only [Int.toNat_natCast]; omega), (by simp only [maxLen, Int.toNat_natCast]; omega)⟩ ?_
                    refine d1 91 371 9 rfl rfl rfl rfl rfl rfl ⟨by simp only [Int.toNat_natCast]; omega, by omega, (by show ((a : Int).toNat - Int.toNat 0 + (1 + ((R.length : Int).toNat - (a : Int).toNat))) * 8 ≤ 140737488355328; simp only [Int.toNat_natCast, Int.toNat_zero]; omega), (by simp only [maxLen, Int.toNat_natCast, Int.toNat_zero]; omega)⟩ ?_
                    refine d1 8 379 10 rfl rfl rfl rfl rfl rfl trivial ?_
                    refine de1 387 rfl (by kernel_rfl) ?_
                    refine bn ?_
                    refine tn ?_
                    have hnew : a < R.length → ¬ (R.getD a rlD).1 < ofB ((ss.getD i []).getD n default).val ∧ ¬ (R.getD a rlD).1 = ofB ((ss.getD i []).getD n default).val := (fun h => ⟨by first | (exfalso; omega) | (rw [less_iff h] at hc13; simpa using hc13), by first | (exfalso; omega) | exact fun e => hc15 ((same_iff h _).2 e)⟩)
                    have hI : (refL (ss.getD i []) key (n + 1) (refS ss key i)) = R.take a ++ (ofB ((ss.getD i []).getD n default).val, 1) :: R.drop a := (by rw [refL_yes hkey, hR]; exact ins_new hlt ha hnew)
                    refine rowsc 291 (refL (ss.getD i []) key (n + 1) (refS ss key i)).length (vF (refL (ss.getD i []) key (n + 1) (refS ss key i))) rfl (by rw [hI, mid_len ha]; simp only [Int.toNat_natCast, Int.toNat_zero]; omega) (fun i c hi hc => by rw [hI]; have hc1 : c < 1 := hc; obtain rfl : c = 0 := (by omega); exact mid_v ha (fun i h => rfl) rfl (fun i => off_eq (vF R) a i) (by simp) rfl i) ?_
                    refine rowsc 371 (refL (ss.getD i []) key (n + 1) (refS ss key i)).length (cF (refL (ss.getD i []) key (n + 1) (refS ss key i))) rfl (by rw [hI, mid_len ha]; simp only [Int.toNat_natCast, Int.toNat_zero]; omega) (fun i c hi hc => by rw [hI]; have hc1 : c < 1 := hc; obtain rfl : c = 0 := (by omega); exact mid_c ha (fun i h => rfl) rfl (fun i => off_eq (cF R) a i) (by simp) rfl i) ?_
                    refine cval 7 (.sl 291 0 (refL (ss.getD i []) key (n + 1) (refS ss key i)).length) rfl (congrArg (SV.sl 291 0) (by rw [hI, mid_len ha]; simp only [Int.toNat_natCast, Int.toNat_zero]; omega)) ?_
                    refine cval 8 (.sl 371 0 (refL (ss.getD i []) key (n + 1) (refS ss key i)).length) rfl (congrArg (SV.sl 371 0) (by rw [hI, mid_len ha]; simp only [Int.toNat_natCast, Int.toNat_zero]; omega)) ?_
                    refine r0 ?_
                    refine sA 92 387 1 rfl rfl rfl rfl rfl rfl rfl rfl rfl (by unfold inRange; omega) ?_
                    refine s1 30 395 2 rfl rfl rfl rfl rfl rfl trivial ?_
                    refine e1 403 rfl ?_
                    refine tn ?_
                    exact again ((n + 1 : Nat)) [291, 371] (show (n + 1) ≤ (ss.getD i []).length from (by omega)) (show (ss.getD i []).length - (n + 1) < (ss.getD i []).length - n from (by omega)) rfl ⟨rfl, rfl, rfl, rfl, rfl, rfl, rfl, rfl, rfl, trivial⟩ ⟨rfl, rfl, trivial⟩
                · skip
                  try simp only [cs, ne_eq] at hg15_57
                  refine g0 4 true 57 58 6 rfl rfl rfl rfl rfl rfl ?_
                  refine g0 4 true 57 59 7 rfl rfl rfl rfl rfl rfl ?_
                  refine g0 4 true 57 60 8 rfl rfl rfl rfl rfl rfl ?_
                  refine g0 4 true 57 61 9 rfl rfl rfl rfl rfl rfl ?_
                  refine g0 4 true 57 62 10 rfl rfl rfl rfl rfl rfl ?_
                  refine g0 4 true 57 63 11 rfl rfl rfl rfl rfl rfl ?_
                  refine g0 4 true 57 64 12 rfl rfl rfl rfl rfl rfl ?_
                  refine d1 65 203 13 rfl rfl rfl rfl rfl rfl trivial ?_
                  refine de1 211 rfl (by kernel_rfl) ?_
                  refine keep [1, 7, 8, 12, 13, 22, 23, 24, 28, 29, 30, 65] rfl ?_
                  refine q1 rfl (fun hc15 => ?_) (fun hc15 => ?_)
                  · skip
                    exact absurd hc15 (by decide)
                  · skip
                    try simp only [cs, ne_eq] at hc15
                    refine W_skip ?_
                    refine tn ?_
                    refine rd1 rfl ?_
                    refine d1 72 211 1 rfl rfl rfl rfl rfl rfl trivial ?_
                    refine d1 73 219 2 rfl rfl rfl rfl rfl rfl trivial ?_
                    refine d1 74 227 3 rfl rfl rfl rfl rfl rfl (by first | trivial | omega) ?_
                    refine d1 75 235 4 rfl rfl rfl rfl rfl rfl trivial ?_
                    refine d1 76 243 5 rfl rfl rfl rfl rfl rfl (by first | trivial | omega) ?_
                    refine d1 77 251 6 rfl rfl rfl rfl rfl rfl trivial ?_
                    refine d1 78 259 7 rfl rfl rfl rfl rfl rfl trivial ?_
                    refine d1 79 267 8 rfl rfl rfl rfl rfl rfl trivial ?_
                    refine d1 80 275 9 rfl rfl rfl rfl rfl rfl (by first | trivial | omega) ?_
                    refine d1 81 283 10 rfl rfl rfl rfl rfl rfl ⟨by simp only [Int.toNat_natCast]; omega, (by show (1 + ((R.length : Int).toNat - (a : Int).toNat)) * 16 ≤ 140737488355328; simp only [Int.toNat_natCast]; omega), (by simp only [maxLen, Int.toNat_natCast]; omega)⟩ ?_
                    refine d1 82 291 11 rfl rfl rfl rfl rfl rfl ⟨by simp only [Int.toNat_natCast]; omega, by omega, (by show ((a : Int).toNat - Int.toNat 0 + (1 + ((R.length : Int).toNat - (a : Int).toNat))) * 16 ≤ 140737488355328; simp only [Int.toNat_natCast, Int.toNat_zero]; omega), (by simp only [maxLen, Int.toNat_natCast, Int.toNat_zero]; omega)⟩ ?_
                    refine d1 7 299 12 rfl rfl rfl rfl rfl rfl trivial ?_
                    refine de1 307 rfl (by kernel_rfl) ?_
                    refine keep [1, 7, 8, 13, 22, 23, 24, 28, 29, 30] rfl ?_
                    refine rd0 rfl ?_
                    refine d1 83 307 1 rfl rfl rfl rfl rfl rfl trivial ?_
                    refine d1 84 315 2 rfl rfl rfl rfl rfl rfl trivial ?_
                    refine d1 85 323 3 rfl rfl rfl rfl rfl rfl (by first | trivial | omega) ?_
                    refine d1 86 331 4 rfl rfl rfl rfl rfl rfl trivial ?_
                    refine d1 87 339 5 rfl rfl rfl rfl rfl rfl trivial ?_
                    refine d1 88 347 6 rfl rfl rfl rfl rfl rfl trivial ?_
                    refine d1 89 355 7 rfl rfl rfl rfl rfl rfl (by first | trivial | omega) ?_
                    refine d1 90 363 8 rfl rfl rfl rfl rfl rfl ⟨by simp only [Int.toNat_natCast]; omega, (by show (1 + ((R.length : Int).toNat - (a : Int).toNat)) * 8 ≤ 140737488355328; simp only [Int.toNat_natCast]; omega), (by simp only [maxLen, Int.toNat_natCast]; omega)⟩ ?_
                    refine d1 91 371 9 rfl rfl rfl rfl rfl rfl ⟨by simp only [Int.toNat_natCast]; omega, by omega, (by show ((a : Int).toNat - Int.toNat 0 + (1 + ((R.length : Int).toNat - (a : Int).toNat))) * 8 ≤ 140737488355328; simp only [Int.toNat_natCast, Int.toNat_zero]; omega), (by simp only [maxLen, Int.toNat_natCast, Int.toNat_zero]; omega)⟩ ?_
                    refine d1 8 379 10 rfl rfl rfl rfl rfl rfl trivial ?_
                    refine de1 387 rfl (by kernel_rfl) ?_
                    refine bn ?_
                    refine tn ?_
                    have hnew : a < R.length → ¬ (R.getD a rlD).1 < ofB ((ss.getD i []).getD n default).val ∧ ¬ (R.getD a rlD).1 = ofB ((ss.getD i []).getD n default).val := (fun h => ⟨by first | (exfalso; omega) | (rw [less_iff h] at hc13; simpa using hc13), by first | (exfalso; omega) | exact fun e => hc15 ((same_iff h _).2 e)⟩)
                    have hI : (refL (ss.getD i []) key (n + 1) (refS ss key i)) = R.take a ++ (ofB ((ss.getD i []).getD n default).val, 1) :: R.drop a := (by rw [refL_yes hkey, hR]; exact ins_new hlt ha hnew)
                    refine rowsc 291 (refL (ss.getD i []) key (n + 1) (refS ss key i)).length (vF (refL (ss.getD i []) key (n + 1) (refS ss key i))) rfl (by rw [hI, mid_len ha]; simp only [Int.toNat_natCast, Int.toNat_zero]; omega) (fun i c hi hc => by rw [hI]; have hc1 : c < 1 := hc; obtain rfl : c = 0 := (by omega); exact mid_v ha (fun i h => rfl) rfl (fun i => off_eq (vF R) a i) (by simp) rfl i) ?_
                    refine rowsc 371 (refL (ss.getD i []) key (n + 1) (refS ss key i)).length (cF (refL (ss.getD i []) key (n + 1) (refS ss key i))) rfl (by rw [hI, mid_len ha]; simp only [Int.toNat_natCast, Int.toNat_zero]; omega) (fun i c hi hc => by rw [hI]; have hc1 : c < 1 := hc; obtain rfl : c = 0 := (by omega); exact mid_c ha (fun i h => rfl) rfl (fun i => off_eq (cF R) a i) (by simp) rfl i) ?_
                    refine cval 7 (.sl 291 0 (refL (ss.getD i []) key (n + 1) (refS ss key i)).length) rfl (congrArg (SV.sl 291 0) (by rw [hI, mid_len ha]; simp only [Int.toNat_natCast, Int.toNat_zero]; omega)) ?_
                    refine cval 8 (.sl 371 0 (refL (ss.getD i []) key (n + 1) (refS ss key i)).length) rfl (congrArg (SV.sl 371 0) (by rw [hI, mid_len ha]; simp only [Int.toNat_natCast, Int.toNat_zero]; omega)) ?_
                    refine r0 ?_
                    refine sA 92 387 1 rfl rfl rfl rfl rfl rfl rfl rfl rfl (by unfold inRange; omega) ?_
                    refine s1 30 395 2 rfl rfl rfl rfl rfl rfl trivial ?_
                    refine e1 403 rfl ?_
                    refine tn ?_
                    exact again ((n + 1 : Nat)) [291, 371] (show (n + 1) ≤ (ss.getD i []).length from (by omega)) (show (ss.getD i []).length - (n + 1) < (ss.getD i []).length - n from (by omega)) rfl ⟨rfl, rfl, rfl, rfl, rfl, rfl, rfl, rfl, rfl, trivial⟩ ⟨rfl, rfl, trivial⟩
        · skip
          try simp only [cs, ne_eq] at hc9
          refine W_exit ?_
          refine tx ?_
          refine tx ?_
          refine bx ?_
          refine bn ?_
          refine tn ?_
          refine r0 ?_
          refine sA 93 10 1 rfl rfl rfl rfl rfl rfl rfl rfl rfl (by unfold inRange; omega) ?_
          refine s1 24 18 2 rfl rfl rfl rfl rfl rfl trivial ?_
          refine e1 26 rfl ?_
          refine tn ?_
          obtain rfl : n = (ss.getD i []).length := (by omega)
          exact again ((i + 1 : Nat)) [0, 1] (show (i + 1) ≤ ss.length from (by omega)) (show ss.length - (i + 1) < ss.length - i from (by omega)) rfl ⟨rfl, rfl, rfl, rfl, rfl, rfl, trivial⟩ ⟨rfl, rfl, trivial⟩
      · skip
        try simp only [cs, ne_eq] at hc6
        refine W_exit ?_
        refine tx ?_
        refine tx ?_
        refine bx ?_
        refine tn ?_
        obtain rfl : i = ss.length := (by omega)
        refine freeze 7 0 (refS ss key ss.length).length rfl rfl (Nat.le_refl _) ?_
        refine freeze 8 1 (refS ss key ss.length).length rfl rfl (Nat.le_refl _) ?_
        refine r1 ?_
        refine s1 94 10 1 rfl rfl rfl rfl rfl rfl trivial ?_
        refine s1 95 18 2 rfl rfl rfl rfl rfl rfl trivial ?_
        refine s1 4 26 3 rfl rfl rfl rfl rfl rfl trivial ?_
        refine s1 5 34 4 rfl rfl rfl rfl rfl rfl trivial ?_
        refine s1 6 42 5 rfl rfl rfl rfl rfl rfl trivial ?_
        refine e1 50 rfl ?_
        refine keep [4, 5, 6] rfl ?_
        refine W_ret ?_
        exact out3 4 5 6 (strsV (refP p ss key).1) (intsV (refP p ss key).2.1) (SV.i (refP p ss key).2.2) (π := []) (hout := []) Try.results25 rfl rfl rfl (by rw [ref_yes hpt hnt]; first | rfl | (show SV.d _ = SV.d (.vec 1 (List.map _ _).length _); rw [List.length_map]; rfl)) (by rw [ref_yes hpt hnt]; first | rfl | (show SV.d _ = SV.d (.vec 1 (List.map _ _).length _); rw [List.length_map]; rfl)) (by rw [ref_yes hpt hnt]; first | rfl | (show SV.d _ = SV.d (.vec 1 (List.map _ _).length _); rw [List.length_map]; rfl)) rfl rfl trivial ⟨rfl, rfl⟩

end Go.Proofs.Ytlhncpbcbpdcfaa.Nice
