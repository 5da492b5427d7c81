/- Small things of the laws of the whole. -/
import Derived.Test.YtnnjobmiepnedaaDoorZMPl
import Derived.Test.YtnnjobmiepnedaaDoorNiceV
namespace Go.Proofs.YtnnjobmiepnedaaDoor.Nice
open Go
set_option linter.unusedVariables false
set_option linter.unusedSimpArgs false
set_option maxRecDepth 100000
set_option maxHeartbeats 4000000

/-- What a function hands back in a block of its own is data from then on. -/
theorem Spec.still {P : Program} {G : Nat → SV} {f : FuncId} {args : List SV} {ty k L : Nat} {F : Nat → Nat → D} (h : Spec P G f args [] (fun r ho => r = .sl 0 0 L ∧ ho = [some (.rows ty k L F)])) : Spec P G f args [] (fun r ho => r = .d (.vec k L F) ∧ ho = []) := by
  intro M F' ρ vs w hG hH hsz hargs hfr
  refine (h M F' ρ vs w hG hH hsz hargs hfr).mono ?_
  rintro e w' ⟨M', ρ', r, ho, u, rfl, h1, h2, h3, h4, h5, h6, rfl, rfl⟩
  obtain ⟨M2, k1, k2, k3⟩ := freeze_all h4 (n := 0) (len := L) rfl (Nat.le_refl _)
  refine ⟨M2, ρ', _, [], u, rfl, Imm.le_trans h1 k1, h2, k3 u h3, ?_, rfl, h6, rfl, rfl⟩
  have e : upd (hOf [some (.rows ty k L F)]) 0 none = hOf [] := by
    funext n; rw [upd_eq]
    match n with
    | 0 => rfl
    | n + 1 => rfl
  rw [e] at k2; exact k2
theorem HR.none_of {M F : Imm} {ρ ρ' : Names} {h h' : Heap} {w : World} (H : HR M F ρ h w) (hn : ∀ n, h' n = none) : HR M F ρ' h' w :=
  ⟨H.imm, H.frm, H.dis, fun n b e => (by rw [hn] at e; cases e), fun n m x y e => absurd (hn n) e, fun n S es e => (by rw [hn] at e; cases e)⟩
/-- A slice of the call's own handed in where data is asked for: it is given away. -/
theorem Spec.give {P : Program} {G : Nat → SV} {f : FuncId} {a0 : SV} {ty k L : Nat} {F : Nat → Nat → D} {R : SV} (ha : ∀ M ρ ρ' v, VR M ρ a0 v → VR M ρ' a0 v) (hR : ∀ M ρ ρ' v, VR M ρ R v → VR M ρ' R v) (hu : R.under 1 = true)
    (h : Spec P G f [a0, .d (.vec k L F)] [] (fun r ho => r = R ∧ ho = [])) : Spec P G f [a0, .sl 0 0 L] [.rows ty k L F] (fun r ho => r = R ∧ ho = [none]) := by
  intro M F' ρ vs w hG hH hsz hargs hfr
  obtain ⟨M2, k1, k2, k3⟩ := freeze_all hH (n := 0) (len := L) rfl (Nat.le_refl _)
  have hn : ∀ n, upd (hOf ([Blk.rows ty k L F].map some)) 0 none n = none := by
    intro n; rw [upd_eq]
    match n with
    | 0 => rfl
    | n + 1 => rfl
  refine (h M2 F' (fun _ => none) vs w (fun g ρ => (hG g ρ).mono k1 (Names.le_refl _)) (k2.none_of (fun n => rfl)) hsz ?_ (fun _ _ => rfl)).mono ?_
  · intro i x hx
    match i, hx with
    | 0, hx =>
      obtain ⟨u, hu, hv⟩ := hargs 0 _ rfl
      cases hx
      exact ⟨u, hu, ha _ _ _ _ (hv.mono k1 (Names.le_refl _))⟩
    | 1, hx =>
      obtain ⟨u, hu, hv⟩ := hargs 1 _ rfl
      cases hx
      have := k3 u hv
      refine ⟨u, hu, ?_⟩
      cases this with | d _ _ h => exact .d _ _ h
    | n + 2, hx => simp at hx
  · rintro e w' ⟨M', ρ', r, ho, u, rfl, h1, h2, h3, h4, h5, h6, rfl, rfl⟩
    refine ⟨M', ρ, _, [none], u, rfl, Imm.le_trans k1 h1, Names.le_refl _, hR _ _ _ _ h3, h4.none_of (fun n => ?_), ?_, h6, rfl, rfl⟩
    · match n with
      | 0 => rfl
      | n + 1 => rfl
    · show (Nat.ble 1 1 && (Nat.ble 1 (1 + 8) && (r.under 1 && hUnder 1 [none]))) = true
      rw [hu]; rfl
/-- Rows of data as cells, one by one. -/
theorem tocells {C : Ctx} {c : Code} {Q : Exit → St → Prop} {t : Nat → SV} {h : Heap} {nx : Nat} (n : Nat) (xs : List SV) {ty L : Nat} {f : Nat → Nat → D} (hn : h n = some (.rows ty 1 L f)) (hx : xs = (List.range L).map fun i => SV.d (f i 0)) (hL : 0 < L)
    (kk : W C c Q ⟨t, upd h n (some (.cells ty 1 xs)), nx⟩) : W C c Q ⟨t, h, nx⟩ := by
  intro M F pin ρ a w hsr
  refine kk M F pin ρ a w ⟨⟨hsr.tm, hsr.sz, hsr.df, ?_, hsr.pn, hsr.pm, hsr.gl⟩, hsr.fr⟩
  refine hsr.hr.swap n hn (fun x obj hb => ?_) (fun h => ?_)
  · cases obj with
    | cells cur T fz =>
      obtain ⟨h1, h2, h3, h4, h5, h6⟩ := hb
      subst hx
      refine ⟨h1, h2, h3, h4, by simp [h4]; exact h5, fun j s hs => ?_⟩
      rw [List.getElem?_map] at hs
      have hj : j < L := by
        rcases Nat.lt_or_ge j L with h | h
        · exact h
        · rw [List.getElem?_eq_none (by simpa using h)] at hs; cases hs
      rw [List.getElem?_range hj] at hs
      cases hs
      obtain ⟨v, hv, hr⟩ := h6 j 0 hj (by omega)
      exact ⟨v, by simpa using hv, .d _ _ hr⟩
    | _ => exact hb.elim
  · exfalso
    cases L with
    | zero => exact absurd hL (Nat.lt_irrefl _)
    | succ m => cases h
def u8F (l : List Int) : Nat → Nat → D := fun i _ => .val (.int .u8 (l.getD i 0))
def u8V (l : List Int) : SV := .d (.vec 1 l.length (u8F l))
structure Bytes (l : List Int) : Prop where
  n : l.length ≤ 9223372036854775807
  b : ∀ i, 0 ≤ l.getD i 0 ∧ l.getD i 0 ≤ 255
def pickI (a n : Int) : Int := if a.tmod n < 0 then a.tmod n + n else a.tmod n
theorem pick_in (a : Int) {n : Int} (h : 0 < n) : 0 ≤ pickI a n ∧ pickI a n < n := by
  have h1 := Int.tmod_lt_of_pos a h
  have h2 : -n < a.tmod n := by
    have := Int.neg_lt_neg (Int.tmod_lt_of_pos (-a) h)
    rw [Int.neg_tmod] at this; omega
  unfold pickI; split <;> omega
def schedL (l : List Int) (n : Int) (most : Nat) : List Int := (l.take most).map fun x => x % n
theorem sched_succ {l : List Int} {n : Int} {i : Nat} (h : i < l.length) : schedL l n (i + 1) = schedL l n i ++ [l.getD i 0 % n] := by
  unfold schedL
  rw [List.take_add_one, List.getElem?_eq_getElem h, List.map_append, show l.getD i 0 = l[i] from by simp [List.getD, h]]
  rfl
theorem sched_len (l : List Int) (n : Int) (i : Nat) : (schedL l n i).length ≤ i := by
  unfold schedL; rw [List.length_map, List.length_take]; exact Nat.min_le_left _ _
theorem sched_full {l : List Int} {n : Int} {i most : Nat} (h1 : i ≤ most) (h : i = l.length ∨ i = most) (hl : i ≤ l.length) : schedL l n i = schedL l n most := by
  rcases h with rfl | rfl
  · unfold schedL; rw [List.take_length, List.take_of_length_le h1]
  · rfl
theorem sched_rng {l : List Int} {n : Int} (h : 0 < n) (most : Nat) : ∀ v, v ∈ schedL l n most → 0 ≤ v ∧ v < n := by
  intro v hv
  obtain ⟨x, _, rfl⟩ := List.mem_map.1 hv
  exact ⟨Int.emod_nonneg _ (by omega), Int.emod_lt_of_pos _ h⟩
theorem wrapS_in {x : Int} (h : 0 ≤ x ∧ x ≤ 100000) : IntKind.i64.wrap x = x := by
  simp [IntKind.wrap, IntKind.signed, IntKind.bits]; omega

theorem picked_any (a n : Int) (hn : 0 < n ∧ n ≤ 1000) : Spec Tryd.prog GV 7 [SV.i a, SV.i n] [] (fun r ho => r = SV.i (pickI a n) ∧ ho = []) := by
  refine start 14 0 Tryd.func7 rfl rfl rfl rfl ?_
  refine r1 ?_
  refine s1 4 0 1 rfl rfl rfl rfl rfl rfl trivial ?_
  refine e1 8 rfl ?_
  refine keep [0, 1] rfl ?_
  refine r1 ?_
  refine s1 5 8 1 rfl rfl rfl rfl rfl rfl trivial ?_
  refine s1 6 16 2 rfl rfl rfl rfl rfl rfl trivial ?_
  refine s1 7 24 3 rfl rfl rfl rfl rfl rfl (by first | trivial | omega) ?_
  refine s1 0 32 4 rfl rfl rfl rfl rfl rfl trivial ?_
  refine e1 40 rfl ?_
  refine keep [0, 1] rfl ?_
  refine W_seq ?_
  refine r1 ?_
  refine s1 8 40 1 rfl rfl rfl rfl rfl rfl trivial ?_
  refine s1 9 48 2 rfl rfl rfl rfl rfl rfl (by first | trivial | omega) ?_
  refine e1 56 rfl ?_
  refine keep [0, 1, 9] rfl ?_
  refine q1 rfl (fun hc2 => ?_) (fun hc2 => ?_)
  · skip
    try simp only [cs, ne_eq] at hc2
    refine r1 ?_
    refine s1 10 56 1 rfl rfl rfl rfl rfl rfl trivial ?_
    refine s1 11 64 2 rfl rfl rfl rfl rfl rfl trivial ?_
    refine sA 12 72 3 rfl rfl rfl rfl rfl rfl rfl rfl rfl (by have h1 := Int.tmod_lt_of_pos a hn.1; have h2 : -n < a.tmod n := (by have := Int.neg_lt_neg (Int.tmod_lt_of_pos (-a) hn.1); rw [Int.neg_tmod] at this; omega); unfold inRange; omega) ?_
    refine s1 4 80 4 rfl rfl rfl rfl rfl rfl trivial ?_
    refine e1 88 rfl ?_
    refine keep [4] rfl ?_
    refine W_ret ?_
    refine tr ?_
    exact out1 4 (SV.i (pickI a n)) (π := []) (hout := []) Tryd.results7 rfl (by unfold pickI; first | (rw [if_pos (by assumption)]; rfl) | (rw [if_neg (by omega)]; rfl)) rfl rfl trivial ⟨rfl, rfl⟩
  try simp only [cs, ne_eq] at hc2
  refine W_skip ?_
  refine tn ?_
  refine r1 ?_
  refine s1 13 56 1 rfl rfl rfl rfl rfl rfl trivial ?_
  refine s1 4 64 2 rfl rfl rfl rfl rfl rfl trivial ?_
  refine e1 72 rfl ?_
  refine keep [4] rfl ?_
  refine W_ret ?_
  exact out1 4 (SV.i (pickI a n)) (π := []) (hout := []) Tryd.results7 rfl (by unfold pickI; first | (rw [if_pos (by assumption)]; rfl) | (rw [if_neg (by omega)]; rfl)) rfl rfl trivial ⟨rfl, rfl⟩

theorem schedule_any (l : List Int) (hl : Bytes l) (n : Int) (hn : 0 < n ∧ n ≤ 1000) (most : Nat) (hm : most ≤ 5000) : Spec Tryd.prog GV 13 [u8V l, SV.i n, SV.i most] [] (fun r ho => r = intsV (schedL l n most) ∧ ho = []) := by
  have hln := hl.n
  refine start 31 0 Tryd.func13 rfl rfl rfl rfl ?_
  refine r1 ?_
  refine s1 6 0 1 rfl rfl rfl rfl rfl rfl trivial ?_
  refine e1 8 rfl ?_
  refine keep [0, 1, 2] rfl ?_
  refine r1 ?_
  refine s1 7 8 1 rfl rfl rfl rfl rfl rfl trivial ?_
  refine e1 16 rfl ?_
  refine keep [0, 1, 2, 7] rfl ?_
  refine W_seq ?_
  refine r1 ?_
  refine s1 8 16 1 rfl rfl rfl rfl rfl rfl trivial ?_
  refine e1 24 rfl ?_
  refine keep [0, 1, 2, 7, 8] rfl ?_
  refine W_block ?_
  refine ghostly 7 3 1 (intsF []) rfl ?_
  refine loop (α := Nat) 1 (fun i => [(0, u8V l), (1, SV.i n), (2, SV.i most), (7, .sl 0 0 (schedL l n (i)).length), (8, SV.i (i))]) (fun i => [some (.rows 3 1 (schedL l n (i)).length (intsF (schedL l n (i))))]) (fun i => (i) ≤ l.length ∧ (i) ≤ most) (fun i => l.length - (i)) (((0) : Nat)) [24] (fun _ => rfl) (show (0) ≤ l.length ∧ (0) ≤ most from ⟨Nat.zero_le _, Nat.zero_le _⟩) rfl ⟨rfl, rfl, rfl, rfl, rfl, trivial⟩ ⟨rfl, trivial⟩ (fun i hx => ?_)
  show W _ _ _ ⟨tOf [(0, u8V l), (1, SV.i n), (2, SV.i most), (7, .sl 0 0 (schedL l n i).length), (8, SV.i i)], hOf [some (.rows 3 1 (schedL l n i).length (intsF (schedL l n i)))], 1⟩
  have hx : i ≤ l.length ∧ i ≤ most := hx
  obtain ⟨hi1, hi2⟩ := hx
  have hsl := sched_len l n i
  have hbi := hl.b i
  refine W_seq ?_
  refine r1 ?_
  refine s1 9 1 1 rfl rfl rfl rfl rfl rfl trivial ?_
  refine s1 10 9 2 rfl rfl rfl rfl rfl rfl trivial ?_
  refine s1 11 17 3 rfl rfl rfl rfl rfl rfl (by first | trivial | omega) ?_
  refine s1 12 25 4 rfl rfl rfl rfl rfl rfl (by first | trivial | omega) ?_
  refine s1 13 33 5 rfl rfl rfl rfl rfl rfl trivial ?_
  refine ask 13 rfl (fun hg3_13 => ?_) (fun hg3_13 => ?_)
  · skip
    try simp only [cs, ne_eq] at hg3_13
    refine g1 4 true 13 14 6 rfl rfl rfl rfl rfl ?_
    refine s1 14 41 6 rfl rfl rfl rfl rfl rfl trivial ?_
    refine g1 4 true 13 15 7 rfl rfl rfl rfl rfl ?_
    refine s1 15 49 7 rfl rfl rfl rfl rfl rfl trivial ?_
    refine g1 4 true 13 16 8 rfl rfl rfl rfl rfl ?_
    refine s1 16 57 8 rfl rfl rfl rfl rfl rfl (by first | trivial | omega) ?_
    refine s1 17 65 9 rfl rfl rfl rfl rfl rfl trivial ?_
    refine e1 73 rfl ?_
    refine keep [0, 1, 2, 7, 8, 17] rfl ?_
    refine q1 rfl (fun hc3 => ?_) (fun hc3 => ?_)
    · skip
      try simp only [cs, ne_eq] at hc3
      refine W_skip ?_
      refine tn ?_
      refine W_seq ?_
      refine W_block ?_
      refine r0 ?_
      refine s1 20 73 1 rfl rfl rfl rfl rfl rfl trivial ?_
      refine s1 21 81 2 rfl rfl rfl rfl rfl rfl trivial ?_
      refine s1 22 89 3 rfl rfl rfl rfl rfl rfl trivial ?_
      refine s1 23 97 4 rfl rfl rfl rfl rfl rfl (by first | trivial | omega) ?_
      refine s1 24 105 5 rfl rfl rfl rfl rfl rfl (by first | trivial | omega) ?_
      refine s1 25 113 6 rfl rfl rfl rfl rfl rfl trivial ?_
      refine val 25 (SV.i (l.getD i 0)) rfl (by show SV.i _ = SV.i _; refine congrArg SV.i ?_; simp only [Int.toNat_natCast]; exact wrapS_in ⟨by omega, by omega⟩) ?_
      refine s1 26 121 7 rfl rfl rfl rfl rfl rfl trivial ?_
      refine sD 27 129 8 rfl rfl rfl rfl rfl rfl rfl rfl rfl (by omega) ?_
      refine s1 28 137 9 rfl rfl rfl rfl rfl rfl trivial ?_
      refine s1 29 145 10 rfl rfl rfl rfl rfl rfl ⟨Nat.le_refl _, trivial, (by show (_ + 1) * 8 ≤ 140737488355328; omega), (by simp only [maxLen]; omega)⟩ ?_
      refine s1 7 153 11 rfl rfl rfl rfl rfl rfl trivial ?_
      refine e1 161 rfl ?_
      refine bn ?_
      refine tn ?_
      refine rowsc 145 (schedL l n (i + 1)).length (intsF (schedL l n (i + 1))) rfl (by rw [sched_succ (by omega)]; simp) (fun j c hj hc => by rw [sched_succ (by omega)]; exact ints_cat _ _ j c hj hc) ?_
      refine cval 7 (.sl 145 0 (schedL l n (i + 1)).length) rfl (by rw [sched_succ (by omega)]; simp) ?_
      refine r0 ?_
      refine s1 18 161 1 rfl rfl rfl rfl rfl rfl trivial ?_
      refine sA 19 169 2 rfl rfl rfl rfl rfl rfl rfl rfl rfl (by unfold inRange; omega) ?_
      refine s1 8 177 3 rfl rfl rfl rfl rfl rfl trivial ?_
      refine e1 185 rfl ?_
      refine tn ?_
      exact again ((i + 1 : Nat)) [145] (show (i + 1) ≤ l.length ∧ (i + 1) ≤ most from (by omega)) (show l.length - (i + 1) < l.length - i from (by omega)) rfl ⟨rfl, rfl, rfl, rfl, rfl, trivial⟩ ⟨rfl, trivial⟩
    try simp only [cs, ne_eq] at hc3
    refine W_exit ?_
    refine tx ?_
    refine tx ?_
    refine bx ?_
    refine tn ?_
    have hfull : schedL l n i = schedL l n most := sched_full hi2 (by omega) hi1
    refine freeze 7 0 (schedL l n i).length rfl rfl (Nat.le_refl _) ?_
    refine cval 7 (intsV (schedL l n most)) rfl (by rw [← hfull]; rfl) ?_
    refine r1 ?_
    refine s1 30 73 1 rfl rfl rfl rfl rfl rfl trivial ?_
    refine s1 6 81 2 rfl rfl rfl rfl rfl rfl trivial ?_
    refine e1 89 rfl ?_
    refine keep [6] rfl ?_
    refine W_ret ?_
    exact out1 6 (intsV (schedL l n most)) (π := []) (hout := []) Tryd.results13 rfl rfl rfl rfl trivial ⟨rfl, rfl⟩
  try simp only [cs, ne_eq] at hg3_13
  refine g0 4 true 13 14 6 rfl rfl rfl rfl rfl rfl ?_
  refine g0 4 true 13 15 7 rfl rfl rfl rfl rfl rfl ?_
  refine g0 4 true 13 16 8 rfl rfl rfl rfl rfl rfl ?_
  refine s1 17 65 9 rfl rfl rfl rfl rfl rfl trivial ?_
  refine e1 73 rfl ?_
  refine keep [0, 1, 2, 7, 8, 17] rfl ?_
  refine q1 rfl (fun hc3 => ?_) (fun hc3 => ?_)
  · skip
    exact absurd hc3 (by decide)
  try simp only [cs, ne_eq] at hc3
  refine W_exit ?_
  refine tx ?_
  refine tx ?_
  refine bx ?_
  refine tn ?_
  have hfull : schedL l n i = schedL l n most := sched_full hi2 (by omega) hi1
  refine freeze 7 0 (schedL l n i).length rfl rfl (Nat.le_refl _) ?_
  refine cval 7 (intsV (schedL l n most)) rfl (by rw [← hfull]; rfl) ?_
  refine r1 ?_
  refine s1 30 73 1 rfl rfl rfl rfl rfl rfl trivial ?_
  refine s1 6 81 2 rfl rfl rfl rfl rfl rfl trivial ?_
  refine e1 89 rfl ?_
  refine keep [6] rfl ?_
  refine W_ret ?_
  exact out1 6 (intsV (schedL l n most)) (π := []) (hout := []) Tryd.results13 rfl rfl rfl rfl trivial ⟨rfl, rfl⟩

end Go.Proofs.YtnnjobmiepnedaaDoor.Nice
