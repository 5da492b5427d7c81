/- The history of a run, as a plain function. -/
import Derived.Test.YtnnjobmiepnedaaDoorZLinz
import Derived.Test.YtnnjobmiepnedaaDoorZTopBase
import Derived.Test.YtnnjobmiepnedaaDoorZPlay3
namespace Go.Proofs.YtnnjobmiepnedaaDoor.Nice
open Go
set_option linter.unusedVariables false
set_option linter.unusedSimpArgs false
set_option maxRecDepth 100000
set_option maxHeartbeats 4000000

/-- What a call put (or took), as the history tells it. -/
abbrev PutF := CallD → List Int → Bool → Bool × Int × Bool
def midA (q : Mach) (p : PutF) (o : Opn) : Lin.Act := if o.e = -1 then ⟨o.b, -1, false, 0, 0⟩ else ⟨o.b, o.e, (p (cAt q o) o.r true).1, (p (cAt q o) o.r true).2.1, 0⟩
def finA (q : Mach) (p : PutF) (o : Opn) : Lin.Act := if o.e = -1 then ⟨o.b, -1, (p (cAt q o) [] false).1, (p (cAt q o) [] false).2.1, 0⟩ else ⟨o.b, o.e, (p (cAt q o) o.r true).1, (p (cAt q o) o.r true).2.1, 0⟩
def hist (q : Mach) (p : PutF) (l : List Opn) : List Lin.Act := l.map (finA q p)
def keyI (o : Opn) : Int := 100 * o.th + o.n
def midF (q : Mach) (p : PutF) (l : List Opn) : Nat → Nat → D := fun m c => Lin.actC (midA q p (opAt l m)) c
def midU (q : Mach) (p : PutF) (l : List Opn) (x : Ev) (k : Nat) : Nat → Nat → D := fun m c => Lin.actC (midA q p (if m < k then opEnd x (opAt l m) else opAt l m)) c
def finU (q : Mach) (p : PutF) (l : List Opn) (k : Nat) : Nat → Nat → D := fun m c => Lin.actC (if m < k then finA q p (opAt l m) else midA q p (opAt l m)) c
def keyF (l : List Opn) : Nat → Nat → D := fun m _ => .val (.int .i64 (keyI (opAt l m)))
theorem lt5 {c : Nat} (h : c < 5) : c = 0 ∨ c = 1 ∨ c = 2 ∨ c = 3 ∨ c = 4 := by omega
theorem mid_cat (q : Mach) (p : PutF) (l : List Opn) (th n b : Int) (m c : Nat) (hm : m < l.length + 1) (hc : c < 5) : catR (midF q p l) l.length (litR 5 [.val (.int .i64 b), .val (.int .i64 (-1)), .val (.bool false), .val (.int .i64 0), .val (.int .i64 0)]) m c = midF q p (l ++ [⟨th, n, b, -1, []⟩]) m c := by
  unfold catR
  by_cases h : m < l.length
  · rw [if_pos h]; unfold midF; rw [opAt_snoc h]
  · obtain rfl : m = l.length := by omega
    rw [if_neg h, Nat.sub_self]
    unfold midF
    rw [opAt_last]
    unfold midA
    rw [if_pos rfl]
    rcases lt5 hc with rfl | rfl | rfl | rfl | rfl <;> rfl
theorem key_cat (l : List Opn) (o : Opn) (v : Int) (hv : v = keyI o) (m c : Nat) (hm : m < l.length + 1) (hc : c < 1) : catR (keyF l) l.length (litR 1 [.val (.int .i64 v)]) m c = keyF (l ++ [o]) m c := by
  subst hv
  obtain rfl : c = 0 := by omega
  unfold catR
  by_cases h : m < l.length
  · rw [if_pos h]; unfold keyF; rw [opAt_snoc h]
  · obtain rfl : m = l.length := by omega
    rw [if_neg h, Nat.sub_self]
    unfold keyF
    rw [opAt_last]; rfl
theorem midU_0 (q : Mach) (p : PutF) (l : List Opn) (x : Ev) : midF q p l = midU q p l x 0 := by
  funext m c; unfold midF midU; rw [if_neg (Nat.not_lt_zero _)]
theorem midU_end (q : Mach) (p : PutF) (l : List Opn) (x : Ev) (m c : Nat) (hm : m < l.length) : midU q p l x l.length m c = midF q p (l.map (opEnd x)) m c := by
  unfold midU midF; rw [if_pos hm, opAt_map hm]
theorem midU_skip (q : Mach) (p : PutF) (l : List Opn) (x : Ev) (k : Nat) (h : ¬ ((opAt l k).th = x.th ∧ (opAt l k).n = x.call)) (m c : Nat) : midU q p l x k m c = midU q p l x (k + 1) m c := by
  unfold midU
  by_cases e : m = k
  · subst e
    rw [if_neg (Nat.lt_irrefl _), if_pos (Nat.lt_succ_self _)]
    unfold opEnd; rw [if_neg h]
  · by_cases h1 : m < k
    · rw [if_pos h1, if_pos (by omega)]
    · rw [if_neg h1, if_neg (by omega)]
theorem midU_hit (q : Mach) (p : PutF) (l : List Opn) (x : Ev) (k : Nat) (h : (opAt l k).th = x.th ∧ (opAt l k).n = x.call) (hst : 0 ≤ x.st) (m c : Nat) (hc : c < 5) :
    updR (updR (updR (midU q p l x k) k 1 [.val (.int .i64 x.st)]) k 2 [.val (.bool (p (callAt q x.th.toNat x.call) x.told true).1)]) k 3 [.val (.int .i64 (p (callAt q x.th.toNat x.call) x.told true).2.1)] m c = midU q p l x (k + 1) m c := by
  by_cases e : m = k
  · subst e
    have e2 : midU q p l x (m + 1) m c = Lin.actC ⟨(opAt l m).b, x.st, (p (callAt q x.th.toNat x.call) x.told true).1, (p (callAt q x.th.toNat x.call) x.told true).2.1, 0⟩ c := by
      unfold midU
      rw [if_pos (Nat.lt_succ_self _)]
      unfold opEnd midA; rw [if_pos h]
      simp only
      rw [if_neg (by omega)]
      unfold cAt; simp only
      rw [h.1, h.2]
    have e1 : ∀ c, midU q p l x m m c = Lin.actC (midA q p (opAt l m)) c := by
      intro c; unfold midU; rw [if_neg (Nat.lt_irrefl _)]
    rw [e2]
    have b0 : (midA q p (opAt l m)).b = (opAt l m).b ∧ (midA q p (opAt l m)).y = 0 := by unfold midA; split <;> exact ⟨rfl, rfl⟩
    rcases lt5 hc with rfl | rfl | rfl | rfl | rfl
    · simp only [updR, true_and]; rw [if_neg (by omega), if_neg (by omega), if_neg (by omega), e1]
      show D.val (.int .i64 _) = D.val (.int .i64 _); rw [b0.1]
    · simp [updR, Lin.actC]
    · simp [updR, Lin.actC]
    · simp [updR, Lin.actC]
    · simp only [updR, true_and]; simp [e1]
      show D.val (.int .i64 (midA q p (opAt l m)).y) = D.val (.int .i64 0); rw [b0.2]
  · have : ∀ (f : Nat → Nat → D) (c0 : Nat) (ds : List D), updR f k c0 ds m c = f m c := by
      intro f c0 ds; unfold updR; rw [if_neg (fun h => e h.1)]
    rw [this, this, this]
    unfold midU
    by_cases h1 : m < k
    · rw [if_pos h1, if_pos (by omega)]
    · rw [if_neg h1, if_neg (by omega)]
theorem finU_0 (q : Mach) (p : PutF) (l : List Opn) : midF q p l = finU q p l 0 := by
  funext m c; unfold midF finU; rw [if_neg (Nat.not_lt_zero _)]
theorem finU_e (q : Mach) (p : PutF) (l : List Opn) (k : Nat) : finU q p l k k 1 = .val (.int .i64 (opAt l k).e) := by
  unfold finU
  rw [if_neg (Nat.lt_irrefl _)]
  unfold midA
  split
  · next h => rw [h]; rfl
  · rfl
theorem finU_skip (q : Mach) (p : PutF) (l : List Opn) (k : Nat) (h : ¬ (opAt l k).e = -1) (m c : Nat) : finU q p l k m c = finU q p l (k + 1) m c := by
  unfold finU
  by_cases e : m = k
  · subst e
    rw [if_neg (Nat.lt_irrefl _), if_pos (Nat.lt_succ_self _)]
    unfold midA finA; rw [if_neg h, if_neg h]
  · by_cases h1 : m < k
    · rw [if_pos h1, if_pos (by omega)]
    · rw [if_neg h1, if_neg (by omega)]
theorem finU_hit (q : Mach) (p : PutF) (l : List Opn) (k : Nat) (h : (opAt l k).e = -1) (m c : Nat) (hc : c < 5) :
    updR (updR (finU q p l k) k 2 [.val (.bool (p (cAt q (opAt l k)) [] false).1)]) k 3 [.val (.int .i64 (p (cAt q (opAt l k)) [] false).2.1)] m c = finU q p l (k + 1) m c := by
  by_cases e : m = k
  · subst e
    have e2 : finU q p l (m + 1) m c = Lin.actC ⟨(opAt l m).b, -1, (p (cAt q (opAt l m)) [] false).1, (p (cAt q (opAt l m)) [] false).2.1, 0⟩ c := by
      unfold finU; rw [if_pos (Nat.lt_succ_self _)]; unfold finA; rw [if_pos h]
    have e1 : ∀ c, finU q p l m m c = Lin.actC ⟨(opAt l m).b, -1, false, 0, 0⟩ c := by
      intro c; unfold finU; rw [if_neg (Nat.lt_irrefl _)]; unfold midA; rw [if_pos h]
    rw [e2]
    rcases lt5 hc with rfl | rfl | rfl | rfl | rfl
    · simp [updR, e1]; rfl
    · simp [updR, e1]; rfl
    · simp [updR, Lin.actC]
    · simp [updR, Lin.actC]
    · simp [updR, e1]; rfl
  · have : ∀ (f : Nat → Nat → D) (c0 : Nat) (ds : List D), updR f k c0 ds m c = f m c := by
      intro f c0 ds; unfold updR; rw [if_neg (fun h => e h.1)]
    rw [this, this]
    unfold finU
    by_cases h1 : m < k
    · rw [if_pos h1, if_pos (by omega)]
    · rw [if_neg h1, if_neg (by omega)]
theorem finU_end (q : Mach) (p : PutF) (l : List Opn) (m c : Nat) (hm : m < l.length) : finU q p l l.length m c = Lin.actF (hist q p l) m c := by
  unfold finU Lin.actF hist
  rw [if_pos hm]
  have : (l.map (finA q p)).getD m default = finA q p (opAt l m) := by simp [opAt, List.getD, hm]
  rw [this]
def opsTo (R : PRes) (i : Nat) : List Opn := opsOf (R.out.take i)
theorem opsTo_0 (R : PRes) : opsTo R 0 = [] := rfl
theorem opsTo_succ {R : PRes} {i : Nat} {x : Ev} (h : i < R.out.length) (hx : R.out.getD i default = x) : opsTo R (i + 1) = opStep (opsTo R i) x := by
  unfold opsTo
  rw [List.take_add_one, List.getElem?_eq_getElem h, show R.out[i] = x from by rw [← hx]; simp [List.getD, h]]
  exact opsOf_snoc _ _
theorem ops_len : ∀ (out : List Ev) (l : List Opn), (out.foldl opStep l).length ≤ l.length + out.length
  | [], l => Nat.le_refl _
  | x :: r, l => by
    rw [List.foldl_cons, List.length_cons]
    have := ops_len r (opStep l x)
    have h2 : (opStep l x).length ≤ l.length + 1 := by unfold opStep; split <;> simp
    omega
theorem opsTo_len (R : PRes) (i : Nat) : (opsTo R i).length ≤ i := by
  have := ops_len (R.out.take i) []
  unfold opsTo opsOf
  rw [List.length_take] at this
  simp only [List.length_nil] at this; omega
theorem ops_in (p : Opn → Prop) (hp : ∀ o o' : Opn, o.th = o'.th → o.n = o'.n → p o → p o') : ∀ (out : List Ev) (l : List Opn), (∀ o, o ∈ l → p o) → (∀ x, x ∈ out → p ⟨x.th, x.call, 0, 0, []⟩) → ∀ o, o ∈ out.foldl opStep l → p o
  | [], l, h, _ => h
  | x :: r, l, h, hx => by
    rw [List.foldl_cons]
    refine ops_in p hp r _ (fun o ho => ?_) (fun y hy => hx y (List.mem_cons_of_mem _ hy))
    unfold opStep at ho
    split at ho
    · rcases List.mem_append.1 ho with ho | ho
      · exact h o ho
      · rw [List.mem_singleton.1 ho]; exact hp ⟨x.th, x.call, 0, 0, []⟩ _ rfl rfl (hx x (List.mem_cons_self ..))
    · obtain ⟨o', ho', rfl⟩ := List.mem_map.1 ho
      refine hp o' _ ?_ ?_ (h o' ho') <;> (unfold opEnd; split <;> rfl)
theorem opsTo_in {R : PRes} {q : Mach} (hev : ∀ x, x ∈ R.out → 0 ≤ x.th ∧ x.th < 3 ∧ 0 ≤ x.call ∧ x.call < (q.ts.getD x.th.toNat []).length ∧ 0 ≤ x.st ∧ x.st ≤ 6000) {i m : Nat} (hm : m < (opsTo R i).length) : 0 ≤ (opAt (opsTo R i) m).th ∧ (opAt (opsTo R i) m).th < 3 ∧ 0 ≤ (opAt (opsTo R i) m).n ∧ (opAt (opsTo R i) m).n < (q.ts.getD (opAt (opsTo R i) m).th.toNat []).length := by
  refine ops_in (fun o => 0 ≤ o.th ∧ o.th < 3 ∧ 0 ≤ o.n ∧ o.n < (q.ts.getD o.th.toNat []).length) (fun o o' h1 h2 h => by rw [← h1, ← h2]; exact h) (R.out.take i) [] (fun o ho => by cases ho) (fun x hx => ?_) _ ?_
  · have := hev x (List.mem_of_mem_take hx)
    exact ⟨this.1, this.2.1, this.2.2.1, this.2.2.2.1⟩
  · show opAt (opsTo R i) m ∈ opsTo R i
    unfold opAt
    rw [show (opsTo R i).getD m default = (opsTo R i)[m] from by simp [List.getD, hm]]; exact List.getElem_mem hm
theorem key_eq {o : Opn} {x : Ev} (h1 : 0 ≤ o.th) (h2 : 0 ≤ o.n ∧ o.n < 100) (h3 : 0 ≤ x.th) (h4 : 0 ≤ x.call ∧ x.call < 100) : keyI o = 100 * x.th + x.call ↔ o.th = x.th ∧ o.n = x.call := by
  unfold keyI; omega

theorem play_own3 (q : Mach) (hq : q.ok) (h3 : q.ts.length = 3) (sc : List Int) (hsc : sc.length ≤ 9223372036854775807) (R : PRes) (hR : played q sc = R) : Spec Tryd.prog GV 20 [machS q, .sl 0 0 sc.length] [.rows 3 1 sc.length (intsF sc)] (fun r ho => r = SV.tup [evV R.out, intsV R.ws, SV.i R.e] ∧ ho = [none]) :=
  Spec.give (fun M ρ ρ' v h => VR.fwd (π := []) (n := 0) (fun i hi => absurd hi (Nat.not_lt_zero _)) h rfl) (fun M ρ ρ' v h => VR.fwd (π := []) (n := 0) (fun i hi => absurd hi (Nat.not_lt_zero _)) h rfl) rfl (play_3 q hq h3 sc hsc R hR)
end Go.Proofs.YtnnjobmiepnedaaDoor.Nice

/- barographtop.history. -/
namespace Go.Proofs.YtnnjobmiepnedaaDoor.Nice
open Go
set_option linter.unusedVariables false
set_option linter.unusedSimpArgs false
set_option maxRecDepth 100000
set_option maxHeartbeats 4000000

theorem history_any (q : Mach) (hq : q.ok) (h3 : q.ts.length = 3) (hn : ∀ j : Int, 0 ≤ j → (q.ts.getD j.toNat []).length ≤ 20) (sc : List Int) (hl : sc.length ≤ 6000) (R : PRes) (hR : played q sc = R) (he : R.e = 0) (hev : ∀ x, x ∈ R.out → 0 ≤ x.th ∧ x.th < 3 ∧ 0 ≤ x.call ∧ x.call < (q.ts.getD x.th.toNat []).length ∧ 0 ≤ x.st ∧ x.st ≤ 6000) (putF : PutF) (fP : Nat) (fnP : Func) (hfn1 : Tryd.prog.funcs[fP]? = some fnP) (hfn2 : fnOK fnP = true) (hput : ∀ (j n : Int) (told : List Int), 0 ≤ j → j < 3 → 0 ≤ n → n < (q.ts.getD j.toNat []).length → told.length ≤ 200 → Spec Tryd.prog GV fP [callS (callAt q j.toNat n), intsV told, SV.b true] [] (fun r ho => r = SV.tup [SV.b (putF (callAt q j.toNat n) told true).1, SV.i (putF (callAt q j.toNat n) told true).2.1, SV.b (putF (callAt q j.toNat n) told true).2.2] ∧ ho = [])) (hput0 : ∀ (j n : Int), 0 ≤ j → j < 3 → 0 ≤ n → n < (q.ts.getD j.toNat []).length → Spec Tryd.prog GV fP [callS (callAt q j.toNat n), .d .nils, SV.b false] [] (fun r ho => r = SV.tup [SV.b (putF (callAt q j.toNat n) [] false).1, SV.i (putF (callAt q j.toNat n) [] false).2.1, SV.b (putF (callAt q j.toNat n) [] false).2.2] ∧ ho = [])) (hok : ∀ x, x ∈ R.out → x.fin = true → (putF (callAt q x.th.toNat x.call) x.told true).2.2 = true) (hok0 : ∀ c, (putF c [] false).2.2 = true) : Spec Tryd.prog GV 17 [machS q, intsV sc, .fn fP []] [] (fun r ho => r = .tup [.sl 0 0 (hist q putF (opsTo R R.out.length)).length, SV.b true] ∧ ho = [some (.rows 52 5 (hist q putF (opsTo R R.out.length)).length (Lin.actF (hist q putF (opsTo R R.out.length))))]) := by
  have hRn : R.out.length ≤ 12000 ∧ ∀ e, e ∈ R.out → e.told.length ≤ 200 := by have := played_ok q sc; rw [hR] at this; exact ⟨this.2.2, this.2.1⟩
  obtain ⟨hRl, htold⟩ := hRn
  refine start 186 0 Tryd.func17 rfl rfl rfl rfl ?_
  refine r1 ?_
  refine s1 3 0 1 rfl rfl rfl rfl rfl rfl trivial ?_
  refine s1 6 8 2 rfl rfl rfl rfl rfl rfl trivial ?_
  refine s1 7 16 3 rfl rfl rfl rfl rfl rfl trivial ?_
  refine e1 24 rfl ?_
  refine keep [1, 2, 3] rfl ?_
  refine rd1 rfl ?_
  refine d1 25 24 1 rfl rfl rfl rfl rfl rfl (by first | trivial | omega) ?_
  refine d1 26 32 2 rfl rfl rfl rfl rfl rfl trivial ?_
  refine d1 27 40 3 rfl rfl rfl rfl rfl rfl ⟨trivial, (by show sc.length * 8 ≤ 140737488355328; omega), (by simp only [maxLen]; omega)⟩ ?_
  refine dc1 (play_own3 q hq h3 sc (by omega) R hR) [40] [40] 28 48 4 rfl rfl rfl rfl rfl rfl rfl rfl Tryd.func20 rfl rfl rfl rfl ⟨rfl, trivial⟩ rfl rfl ?_
  refine d1 24 56 5 rfl rfl rfl rfl rfl rfl trivial ?_
  refine d1 29 64 6 rfl rfl rfl rfl rfl rfl trivial ?_
  refine d1 30 72 7 rfl rfl rfl rfl rfl rfl trivial ?_
  refine d1 31 80 8 rfl rfl rfl rfl rfl rfl trivial ?_
  refine d1 8 88 9 rfl rfl rfl rfl rfl rfl trivial ?_
  refine d1 9 96 10 rfl rfl rfl rfl rfl rfl trivial ?_
  refine d1 10 104 11 rfl rfl rfl rfl rfl rfl trivial ?_
  refine de1 112 rfl (by kernel_rfl) ?_
  refine keep [2, 3, 8, 10] rfl ?_
  refine W_seq ?_
  refine r1 ?_
  refine s1 32 112 1 rfl rfl rfl rfl rfl rfl trivial ?_
  refine s1 33 120 2 rfl rfl rfl rfl rfl rfl (by first | trivial | omega) ?_
  refine e1 128 rfl ?_
  refine keep [2, 3, 8, 33] rfl ?_
  refine q1 rfl (fun hc2 => ?_) (fun hc2 => ?_)
  · skip
    first | exact absurd he hc2 | exact absurd he (by simpa using hc2)
  try simp only [cs, ne_eq] at hc2
  refine W_skip ?_
  refine tn ?_
  refine r1 ?_
  refine s1 11 128 1 rfl rfl rfl rfl rfl rfl trivial ?_
  refine e1 136 rfl ?_
  refine keep [2, 3, 8, 11] rfl ?_
  refine r1 ?_
  refine s1 12 136 1 rfl rfl rfl rfl rfl rfl trivial ?_
  refine e1 144 rfl ?_
  refine keep [2, 3, 8, 11, 12] rfl ?_
  refine W_seq ?_
  refine r1 ?_
  refine s1 13 144 1 rfl rfl rfl rfl rfl rfl trivial ?_
  refine e1 152 rfl ?_
  refine keep [2, 3, 8, 11, 12, 13] rfl ?_
  refine W_block ?_
  refine ghostly 11 52 5 (midF q putF (opsTo R 0)) rfl ?_
  refine ghostly 12 3 1 (keyF (opsTo R 0)) rfl ?_
  refine loop (α := Nat) 3 (fun i => [(2, .fn fP []), (3, .ptr 0 0 0), (8, evV R.out), (11, .sl 1 0 (opsTo R (i)).length), (12, .sl 2 0 (opsTo R (i)).length), (13, SV.i (i))]) (fun i => [some (machBlk q), some (.rows 52 5 (opsTo R (i)).length (midF q putF (opsTo R (i)))), some (.rows 3 1 (opsTo R (i)).length (keyF (opsTo R (i))))]) (fun i => (i) ≤ R.out.length) (fun i => R.out.length - (i)) (((0) : Nat)) [0, 152, 160] (fun _ => rfl) (show (0) ≤ R.out.length from (by omega)) rfl ⟨rfl, rfl, rfl, rfl, rfl, rfl, trivial⟩ ⟨rfl, rfl, rfl, trivial⟩ (fun i hx => ?_)
  show W _ _ _ ⟨tOf [(2, .fn fP []), (3, .ptr 0 0 0), (8, evV R.out), (11, .sl 1 0 (opsTo R i).length), (12, .sl 2 0 (opsTo R i).length), (13, SV.i i)], hOf [some (machBlk q), some (.rows 52 5 (opsTo R i).length (midF q putF (opsTo R i))), some (.rows 3 1 (opsTo R i).length (keyF (opsTo R i)))], 3⟩
  have hx : i ≤ R.out.length := hx
  have hol := opsTo_len R i
  refine W_seq ?_
  refine r1 ?_
  refine s1 34 3 1 rfl rfl rfl rfl rfl rfl trivial ?_
  refine s1 35 11 2 rfl rfl rfl rfl rfl rfl trivial ?_
  refine s1 36 19 3 rfl rfl rfl rfl rfl rfl (by first | trivial | omega) ?_
  refine s1 37 27 4 rfl rfl rfl rfl rfl rfl (by first | trivial | omega) ?_
  refine e1 35 rfl ?_
  refine keep [2, 3, 8, 11, 12, 13, 37] rfl ?_
  refine q1 rfl (fun hc7 => ?_) (fun hc7 => ?_)
  · skip
    try simp only [cs, ne_eq] at hc7
    refine W_skip ?_
    refine tn ?_
    refine W_seq ?_
    refine W_block ?_
    refine r1 ?_
    refine s1 40 35 1 rfl rfl rfl rfl rfl rfl trivial ?_
    refine s1 41 43 2 rfl rfl rfl rfl rfl rfl trivial ?_
    refine s1 42 51 3 rfl rfl rfl rfl rfl rfl (by first | trivial | omega) ?_
    refine s1 43 59 4 rfl rfl rfl rfl rfl rfl (by first | trivial | omega) ?_
    refine s1 14 67 5 rfl rfl rfl rfl rfl rfl trivial ?_
    refine s0 75 6 rfl rfl rfl rfl rfl (by first | trivial | omega) ?_
    refine e1 83 rfl ?_
    refine keep [2, 3, 8, 11, 12, 13, 14] rfl ?_
    have hi7 : i < R.out.length := by omega
    have hxe := hev _ (ev_mem hi7)
    have hxn := hn _ hxe.1
    have hst := opsTo_succ hi7 rfl
    have hpk := fun hf => hok _ (ev_mem hi7) hf
    have htl := htold _ (ev_mem hi7)
    refine chval 67 (.cells 50 6 [SV.i (R.out.getD i default).st, SV.i (R.out.getD i default).th, SV.i (R.out.getD i default).call, SV.b (R.out.getD i default).fin, SV.i (R.out.getD i default).code, intsV (R.out.getD i default).told]) rfl rfl ?_
    generalize R.out.getD i default = x at hxe hxn hst hpk htl ⊢
    obtain ⟨v1, v2, v3, v4, v5, v6⟩ := hxe
    refine W_seq ?_
    refine rd1 rfl ?_
    refine d1 44 83 1 rfl rfl rfl rfl rfl rfl trivial ?_
    refine d1 45 91 2 rfl rfl rfl rfl rfl rfl (by first | trivial | omega) ?_
    refine d1 46 99 3 rfl rfl rfl rfl rfl rfl (by first | trivial | omega) ?_
    refine d1 47 107 4 rfl rfl rfl rfl rfl rfl trivial ?_
    refine ask 47 rfl (fun hg10_47 => ?_) (fun hg10_47 => ?_)
    · skip
      try simp only [cs, ne_eq] at hg10_47
      exfalso; omega
    try simp only [cs, ne_eq] at hg10_47
    refine g1 3 false 47 48 5 rfl rfl rfl rfl rfl ?_
    refine d1 48 115 5 rfl rfl rfl rfl rfl rfl trivial ?_
    refine g1 3 false 47 49 6 rfl rfl rfl rfl rfl ?_
    refine d1 49 123 6 rfl rfl rfl rfl rfl rfl (by first | trivial | omega) ?_
    refine g1 3 false 47 50 7 rfl rfl rfl rfl rfl ?_
    refine d1 50 131 7 rfl rfl rfl rfl rfl rfl trivial ?_
    refine g1 3 false 47 51 8 rfl rfl rfl rfl rfl ?_
    refine d1 51 139 8 rfl rfl rfl rfl rfl rfl (by first | trivial | omega) ?_
    refine g1 3 false 47 52 9 rfl rfl rfl rfl rfl ?_
    refine d1 52 147 9 rfl rfl rfl rfl rfl rfl (by first | trivial | omega) ?_
    refine g1 3 false 47 53 10 rfl rfl rfl rfl rfl ?_
    refine d1 53 155 10 rfl rfl rfl rfl rfl rfl (by first | trivial | omega) ?_
    refine d1 54 163 11 rfl rfl rfl rfl rfl rfl trivial ?_
    refine d1 55 171 12 rfl rfl rfl rfl rfl rfl trivial ?_
    refine ask 55 rfl (fun hg10_55 => ?_) (fun hg10_55 => ?_)
    · skip
      try simp only [cs, ne_eq] at hg10_55
      exfalso; omega
    try simp only [cs, ne_eq] at hg10_55
    refine g1 11 false 55 56 13 rfl rfl rfl rfl rfl ?_
    refine d1 56 179 13 rfl rfl rfl rfl rfl rfl trivial ?_
    refine g1 11 false 55 57 14 rfl rfl rfl rfl rfl ?_
    refine d1 57 187 14 rfl rfl rfl rfl rfl rfl (by first | trivial | omega) ?_
    refine g1 11 false 55 58 15 rfl rfl rfl rfl rfl ?_
    refine d1 58 195 15 rfl rfl rfl rfl rfl rfl (by first | trivial | omega) ?_
    refine d1 59 203 16 rfl rfl rfl rfl rfl rfl trivial ?_
    refine d1 60 211 17 rfl rfl rfl rfl rfl rfl trivial ?_
    refine ask 60 rfl (fun hg10_60 => ?_) (fun hg10_60 => ?_)
    · skip
      try simp only [cs, ne_eq] at hg10_60
      exfalso; omega
    try simp only [cs, ne_eq] at hg10_60
    refine g1 16 false 60 61 18 rfl rfl rfl rfl rfl ?_
    refine d1 61 219 18 rfl rfl rfl rfl rfl rfl trivial ?_
    refine g1 16 false 60 62 19 rfl rfl rfl rfl rfl ?_
    refine d1 62 227 19 rfl rfl rfl rfl rfl rfl (by first | trivial | omega) ?_
    refine g1 16 false 60 63 20 rfl rfl rfl rfl rfl ?_
    refine d1 63 235 20 rfl rfl rfl rfl rfl rfl trivial ?_
    refine g1 16 false 60 64 21 rfl rfl rfl rfl rfl ?_
    refine d1 64 243 21 rfl rfl rfl rfl rfl rfl (by first | trivial | omega) ?_
    refine g1 16 false 60 65 22 rfl rfl rfl rfl rfl ?_
    refine d1 65 251 22 rfl rfl rfl rfl rfl rfl trivial ?_
    refine g1 16 false 60 66 23 rfl rfl rfl rfl rfl ?_
    refine d1 66 259 23 rfl rfl rfl rfl rfl rfl (by first | trivial | omega) ?_
    refine g1 16 false 60 67 24 rfl rfl rfl rfl rfl ?_
    refine d1 67 267 24 rfl rfl rfl rfl rfl rfl (by first | trivial | omega) ?_
    refine g1 16 false 60 68 25 rfl rfl rfl rfl rfl ?_
    refine d1 68 275 25 rfl rfl rfl rfl rfl rfl (by first | trivial | omega) ?_
    refine g1 16 false 60 69 26 rfl rfl rfl rfl rfl ?_
    refine d1 69 283 26 rfl rfl rfl rfl rfl rfl (by first | trivial | omega) ?_
    refine g1 16 false 60 70 27 rfl rfl rfl rfl rfl ?_
    refine d1 70 291 27 rfl rfl rfl rfl rfl rfl (by first | trivial | omega) ?_
    refine d1 71 299 28 rfl rfl rfl rfl rfl rfl trivial ?_
    refine de1 307 rfl (by kernel_rfl) ?_
    refine keep [2, 3, 8, 11, 12, 13, 14, 71] rfl ?_
    refine q1 rfl (fun hc10 => ?_) (fun hc10 => ?_)
    · skip
      exfalso; simp only [cs] at hc10; omega
    try simp only [cs, ne_eq] at hc10
    refine W_skip ?_
    refine tn ?_
    refine r1 ?_
    refine s1 72 307 1 rfl rfl rfl rfl rfl rfl trivial ?_
    refine s1 73 315 2 rfl rfl rfl rfl rfl rfl (by first | trivial | omega) ?_
    refine sA 74 323 3 rfl rfl rfl rfl rfl rfl rfl rfl rfl (by unfold inRange; omega) ?_
    refine s1 75 331 4 rfl rfl rfl rfl rfl rfl trivial ?_
    refine s1 76 339 5 rfl rfl rfl rfl rfl rfl (by first | trivial | omega) ?_
    refine sA 77 347 6 rfl rfl rfl rfl rfl rfl rfl rfl rfl (by unfold inRange; omega) ?_
    refine s1 15 355 7 rfl rfl rfl rfl rfl rfl trivial ?_
    refine e1 363 rfl ?_
    refine keep [2, 3, 8, 11, 12, 13, 14, 15] rfl ?_
    refine W_seq ?_
    refine r1 ?_
    refine s1 78 363 1 rfl rfl rfl rfl rfl rfl trivial ?_
    refine s1 79 371 2 rfl rfl rfl rfl rfl rfl (by first | trivial | omega) ?_
    refine s1 80 379 3 rfl rfl rfl rfl rfl rfl trivial ?_
    refine e1 387 rfl ?_
    refine keep [2, 3, 8, 11, 12, 13, 14, 15, 80] rfl ?_
    refine q1 rfl (fun hc13 => ?_) (fun hc13 => ?_)
    · skip
      try simp only [cs, ne_eq] at hc13
      refine r1 ?_
      refine s1 81 387 1 rfl rfl rfl rfl rfl rfl trivial ?_
      refine s1 82 395 2 rfl rfl rfl rfl rfl rfl trivial ?_
      refine s1 83 403 3 rfl rfl rfl rfl rfl rfl (by first | trivial | omega) ?_
      refine s1 84 411 4 rfl rfl rfl rfl rfl rfl trivial ?_
      refine s1 85 419 5 rfl rfl rfl rfl rfl rfl trivial ?_
      refine s1 86 427 6 rfl rfl rfl rfl rfl rfl ⟨Nat.le_refl _, trivial, (by show ((opsTo R i).length + 1) * 40 ≤ 140737488355328; omega), (by simp only [maxLen]; omega)⟩ ?_
      refine s1 11 435 7 rfl rfl rfl rfl rfl rfl trivial ?_
      refine e1 443 rfl ?_
      refine keep [2, 3, 8, 11, 12, 13, 15] rfl ?_
      refine r1 ?_
      refine s1 87 443 1 rfl rfl rfl rfl rfl rfl trivial ?_
      refine s1 88 451 2 rfl rfl rfl rfl rfl rfl trivial ?_
      refine s1 89 459 3 rfl rfl rfl rfl rfl rfl trivial ?_
      refine s1 90 467 4 rfl rfl rfl rfl rfl rfl ⟨Nat.le_refl _, trivial, (by show ((opsTo R i).length + 1) * 8 ≤ 140737488355328; omega), (by simp only [maxLen]; omega)⟩ ?_
      refine s1 12 475 5 rfl rfl rfl rfl rfl rfl trivial ?_
      refine e1 483 rfl ?_
      refine keep [2, 3, 8, 11, 12, 13] rfl ?_
      refine W_exit ?_
      refine tx ?_
      refine bx ?_
      refine tn ?_
      have hst2 : opsTo R (i + 1) = opsTo R i ++ [⟨x.th, x.call, x.st, -1, []⟩] := by rw [hst]; unfold opStep; rw [if_pos hc13]
      refine rowsc (k := 5) (L := (opsTo R i).length + 1) 427 (opsTo R (i + 1)).length (midF q putF (opsTo R (i + 1))) rfl (by rw [hst2]; simp) (fun m c hm hc => by rw [hst2]; exact mid_cat q putF _ x.th x.call x.st m c hm hc) ?_
      refine rowsc (k := 1) (L := (opsTo R i).length + 1) 467 (opsTo R (i + 1)).length (keyF (opsTo R (i + 1))) rfl (by rw [hst2]; simp) (fun m c hm hc => by rw [hst2]; exact key_cat _ ⟨x.th, x.call, x.st, -1, []⟩ (100 * x.th + x.call) rfl m c hm hc) ?_
      refine cval 11 (.sl 427 0 (opsTo R (i + 1)).length) rfl (by rw [hst2]; simp) ?_
      refine cval 12 (.sl 467 0 (opsTo R (i + 1)).length) rfl (by rw [hst2]; simp) ?_
      refine r0 ?_
      refine s1 38 483 1 rfl rfl rfl rfl rfl rfl trivial ?_
      refine sA 39 491 2 rfl rfl rfl rfl rfl rfl rfl rfl rfl (by unfold inRange; omega) ?_
      refine s1 13 499 3 rfl rfl rfl rfl rfl rfl trivial ?_
      refine e1 507 rfl ?_
      refine tn ?_
      exact again ((i + 1 : Nat)) [0, 427, 467] (show (i + 1) ≤ R.out.length from (by omega)) (show R.out.length - (i + 1) < R.out.length - i from (by omega)) rfl ⟨rfl, rfl, rfl, rfl, rfl, rfl, trivial⟩ ⟨rfl, rfl, rfl, trivial⟩
    try simp only [cs, ne_eq] at hc13
    refine W_skip ?_
    refine tn ?_
    refine r1 ?_
    refine s1 16 387 1 rfl rfl rfl rfl rfl rfl trivial ?_
    refine e1 395 rfl ?_
    refine keep [2, 3, 8, 11, 12, 13, 14, 15, 16] rfl ?_
    refine W_block ?_
    refine chval 1 (.rows 52 5 (opsTo R i).length (midU q putF (opsTo R i) x 0)) rfl (by rw [midU_0 q putF _ x]) ?_
    refine loop (α := Nat) 4 (fun k => [(2, .fn fP []), (3, .ptr 0 0 0), (8, evV R.out), (11, .sl 1 0 (opsTo R i).length), (12, .sl 2 0 (opsTo R i).length), (13, SV.i i), (14, .ptr 3 0 0), (15, SV.i (100 * x.th + x.call)), (16, SV.i (k))]) (fun k => [some (machBlk q), some (.rows 52 5 (opsTo R i).length (midU q putF (opsTo R i) x (k))), some (.rows 3 1 (opsTo R i).length (keyF (opsTo R i))), some (.cells 50 6 [SV.i x.st, SV.i x.th, SV.i x.call, SV.b x.fin, SV.i x.code, intsV x.told])]) (fun k => (k) ≤ (opsTo R i).length) (fun k => (opsTo R i).length - (k)) (((0) : Nat)) [0, 1, 2, 67] (fun _ => rfl) (show (0) ≤ (opsTo R i).length from (by omega)) rfl ⟨rfl, rfl, rfl, rfl, rfl, rfl, rfl, rfl, rfl, trivial⟩ ⟨rfl, rfl, rfl, rfl, trivial⟩ (fun k hx => ?_)
    show W _ _ _ ⟨tOf [(2, .fn fP []), (3, .ptr 0 0 0), (8, evV R.out), (11, .sl 1 0 (opsTo R i).length), (12, .sl 2 0 (opsTo R i).length), (13, SV.i i), (14, .ptr 3 0 0), (15, SV.i (100 * x.th + x.call)), (16, SV.i k)], hOf [some (machBlk q), some (.rows 52 5 (opsTo R i).length (midU q putF (opsTo R i) x k)), some (.rows 3 1 (opsTo R i).length (keyF (opsTo R i))), some (.cells 50 6 [SV.i x.st, SV.i x.th, SV.i x.call, SV.b x.fin, SV.i x.code, intsV x.told])], 4⟩
    have hx : k ≤ (opsTo R i).length := hx
    refine W_seq ?_
    refine r1 ?_
    refine s1 91 4 1 rfl rfl rfl rfl rfl rfl trivial ?_
    refine s1 92 12 2 rfl rfl rfl rfl rfl rfl trivial ?_
    refine s1 93 20 3 rfl rfl rfl rfl rfl rfl (by first | trivial | omega) ?_
    refine s1 94 28 4 rfl rfl rfl rfl rfl rfl (by first | trivial | omega) ?_
    refine e1 36 rfl ?_
    refine keep [2, 3, 8, 11, 12, 13, 14, 15, 16, 94] rfl ?_
    refine q1 rfl (fun hc17 => ?_) (fun hc17 => ?_)
    · skip
      try simp only [cs, ne_eq] at hc17
      have hop := opsTo_in hev (q := q) (i := i) (m := k) (by omega)
      have hopn := hn _ hop.1
      refine W_skip ?_
      refine tn ?_
      refine W_seq ?_
      refine W_block ?_
      refine r1 ?_
      refine s1 97 36 1 rfl rfl rfl rfl rfl rfl trivial ?_
      refine s1 98 44 2 rfl rfl rfl rfl rfl rfl trivial ?_
      refine s1 99 52 3 rfl rfl rfl rfl rfl rfl (by first | trivial | omega) ?_
      refine s1 100 60 4 rfl rfl rfl rfl rfl rfl (by first | trivial | omega) ?_
      refine val 100 (SV.i (keyI (opAt (opsTo R i) k))) rfl (by simp only [Int.toNat_natCast, Nat.zero_add]) ?_
      refine s1 101 68 5 rfl rfl rfl rfl rfl rfl trivial ?_
      refine s1 102 76 6 rfl rfl rfl rfl rfl rfl (by first | trivial | omega) ?_
      refine e1 84 rfl ?_
      refine keep [2, 3, 8, 11, 12, 13, 14, 15, 16, 102] rfl ?_
      refine q1 rfl (fun hc19 => ?_) (fun hc19 => ?_)
      · skip
        try simp only [cs, ne_eq] at hc19
        refine r1 ?_
        refine s1 103 84 1 rfl rfl rfl rfl rfl rfl trivial ?_
        refine s1 104 92 2 rfl rfl rfl rfl rfl rfl trivial ?_
        refine s1 105 100 3 rfl rfl rfl rfl rfl rfl trivial ?_
        refine s1 106 108 4 rfl rfl rfl rfl rfl rfl (by first | trivial | omega) ?_
        refine s1 107 116 5 rfl rfl rfl rfl rfl rfl (by first | trivial | omega) ?_
        refine s1 108 124 6 rfl rfl rfl rfl rfl rfl trivial ?_
        refine s0 132 7 rfl rfl rfl rfl rfl (by first | trivial | omega) ?_
        refine e1 140 rfl ?_
        refine keep [2, 3, 8, 11, 12, 13, 14, 15, 16] rfl ?_
        refine rd1 rfl ?_
        refine d1 110 140 1 rfl rfl rfl rfl rfl rfl trivial ?_
        refine d1 111 148 2 rfl rfl rfl rfl rfl rfl trivial ?_
        refine d1 112 156 3 rfl rfl rfl rfl rfl rfl (by first | trivial | omega) ?_
        refine d1 113 164 4 rfl rfl rfl rfl rfl rfl trivial ?_
        refine d1 114 172 5 rfl rfl rfl rfl rfl rfl (by first | trivial | omega) ?_
        refine d1 115 180 6 rfl rfl rfl rfl rfl rfl (by first | trivial | omega) ?_
        refine d1 116 188 7 rfl rfl rfl rfl rfl rfl (by first | trivial | omega) ?_
        refine d1 117 196 8 rfl rfl rfl rfl rfl rfl trivial ?_
        refine d1 118 204 9 rfl rfl rfl rfl rfl rfl (by first | trivial | omega) ?_
        refine d1 119 212 10 rfl rfl rfl rfl rfl rfl (by first | trivial | omega) ?_
        refine d1 120 220 11 rfl rfl rfl rfl rfl rfl (by first | trivial | omega) ?_
        refine val 120 (callS (callAt q x.th.toNat x.call)) rfl rfl ?_
        refine d1 121 228 12 rfl rfl rfl rfl rfl rfl trivial ?_
        refine d1 122 236 13 rfl rfl rfl rfl rfl rfl (by first | trivial | omega) ?_
        refine dc1 (hput x.th x.call x.told v1 v2 v3 v4 htl) [] [] 123 244 14 rfl rfl rfl rfl rfl rfl rfl rfl hfn1 hfn2 rfl rfl rfl trivial rfl rfl ?_
        refine d1 109 252 15 rfl rfl rfl rfl rfl rfl trivial ?_
        refine d1 124 260 16 rfl rfl rfl rfl rfl rfl trivial ?_
        refine d1 125 268 17 rfl rfl rfl rfl rfl rfl trivial ?_
        refine d1 126 276 18 rfl rfl rfl rfl rfl rfl trivial ?_
        refine d1 17 284 19 rfl rfl rfl rfl rfl rfl trivial ?_
        refine d1 18 292 20 rfl rfl rfl rfl rfl rfl trivial ?_
        refine d1 19 300 21 rfl rfl rfl rfl rfl rfl trivial ?_
        refine de1 308 rfl (by kernel_rfl) ?_
        refine keep [2, 3, 8, 11, 12, 13, 14, 15, 16, 17, 18, 19] rfl ?_
        refine W_seq ?_
        refine r1 ?_
        refine s1 127 308 1 rfl rfl rfl rfl rfl rfl trivial ?_
        refine s1 128 316 2 rfl rfl rfl rfl rfl rfl trivial ?_
        refine e1 324 rfl ?_
        refine keep [2, 3, 8, 11, 12, 13, 14, 15, 16, 17, 18, 128] rfl ?_
        refine q1 rfl (fun hc22 => ?_) (fun hc22 => ?_)
        · skip
          rw [hpk hc13] at hc22; exact absurd hc22 (by decide)
        try simp only [cs, ne_eq] at hc22
        refine W_skip ?_
        refine tn ?_
        refine r1 ?_
        refine s1 129 324 1 rfl rfl rfl rfl rfl rfl trivial ?_
        refine s1 130 332 2 rfl rfl rfl rfl rfl rfl trivial ?_
        refine s1 131 340 3 rfl rfl rfl rfl rfl rfl trivial ?_
        refine s1 132 348 4 rfl rfl rfl rfl rfl rfl (by first | trivial | omega) ?_
        refine s1 133 356 5 rfl rfl rfl rfl rfl rfl trivial ?_
        refine s0 364 6 rfl rfl rfl rfl rfl (by first | trivial | omega) ?_
        refine e1 372 rfl ?_
        refine keep [2, 3, 8, 11, 12, 13, 14, 15, 16, 18] rfl ?_
        refine r0 ?_
        refine s1 134 372 1 rfl rfl rfl rfl rfl rfl trivial ?_
        refine s1 135 380 2 rfl rfl rfl rfl rfl rfl trivial ?_
        refine s1 136 388 3 rfl rfl rfl rfl rfl rfl trivial ?_
        refine s1 137 396 4 rfl rfl rfl rfl rfl rfl (by first | trivial | omega) ?_
        refine s1 138 404 5 rfl rfl rfl rfl rfl rfl trivial ?_
        refine s0 412 6 rfl rfl rfl rfl rfl (by first | trivial | omega) ?_
        refine e1 420 rfl ?_
        refine bn ?_
        refine tn ?_
        have hk1 := (key_eq (o := opAt (opsTo R i) k) (x := x) hop.1 ⟨hop.2.2.1, by omega⟩ v1 ⟨v3, by omega⟩).1 hc19
        refine rowsc (k := 5) 1 (opsTo R i).length (midU q putF (opsTo R i) x (k + 1)) rfl rfl (fun m c hm hc => by simp only [Int.toNat_natCast, Nat.zero_add]; exact midU_hit q putF _ x k hk1 v5 m c hc) ?_
        refine r0 ?_
        refine s1 95 420 1 rfl rfl rfl rfl rfl rfl trivial ?_
        refine sA 96 428 2 rfl rfl rfl rfl rfl rfl rfl rfl rfl (by unfold inRange; omega) ?_
        refine s1 16 436 3 rfl rfl rfl rfl rfl rfl trivial ?_
        refine e1 444 rfl ?_
        refine tn ?_
        exact again ((k + 1 : Nat)) [0, 1, 2, 3] (show (k + 1) ≤ (opsTo R i).length from (by omega)) (show (opsTo R i).length - (k + 1) < (opsTo R i).length - k from (by omega)) rfl ⟨rfl, rfl, rfl, rfl, rfl, rfl, rfl, rfl, rfl, trivial⟩ ⟨rfl, rfl, rfl, rfl, trivial⟩
      try simp only [cs, ne_eq] at hc19
      refine W_skip ?_
      refine bn ?_
      refine tn ?_
      have hk1 := fun h => hc19 ((key_eq (o := opAt (opsTo R i) k) (x := x) hop.1 ⟨hop.2.2.1, by omega⟩ v1 ⟨v3, by omega⟩).2 h)
      refine rowsc (k := 5) 1 (opsTo R i).length (midU q putF (opsTo R i) x (k + 1)) rfl rfl (fun m c hm hc => midU_skip q putF _ x k hk1 m c) ?_
      refine r0 ?_
      refine s1 95 84 1 rfl rfl rfl rfl rfl rfl trivial ?_
      refine sA 96 92 2 rfl rfl rfl rfl rfl rfl rfl rfl rfl (by unfold inRange; omega) ?_
      refine s1 16 100 3 rfl rfl rfl rfl rfl rfl trivial ?_
      refine e1 108 rfl ?_
      refine tn ?_
      exact again ((k + 1 : Nat)) [0, 1, 2, 3] (show (k + 1) ≤ (opsTo R i).length from (by omega)) (show (opsTo R i).length - (k + 1) < (opsTo R i).length - k from (by omega)) rfl ⟨rfl, rfl, rfl, rfl, rfl, rfl, rfl, rfl, rfl, trivial⟩ ⟨rfl, rfl, rfl, rfl, trivial⟩
    try simp only [cs, ne_eq] at hc17
    obtain rfl : k = (opsTo R i).length := by omega
    refine W_exit ?_
    refine tx ?_
    refine tx ?_
    refine bx ?_
    refine bn ?_
    refine tn ?_
    have hst2 : opsTo R (i + 1) = (opsTo R i).map (opEnd x) := by rw [hst]; unfold opStep; rw [if_neg (by rw [hc13]; decide)]
    have hlen2 : (opsTo R i).length = (opsTo R (i + 1)).length := by rw [hst2]; simp
    have hkey : ∀ m, m < (opsTo R i).length → keyI (opAt (opsTo R i) m) = keyI (opAt (opsTo R (i + 1)) m) := by intro m hm; rw [hst2, opAt_map hm]; unfold opEnd keyI; split <;> rfl
    refine rowsc (k := 5) 1 (opsTo R (i + 1)).length (midF q putF (opsTo R (i + 1))) rfl hlen2 (fun m c hm hc => by rw [hst2]; exact midU_end q putF _ x m c hm) ?_
    refine rowsc (k := 1) 2 (opsTo R (i + 1)).length (keyF (opsTo R (i + 1))) rfl hlen2 (fun m c hm hc => by unfold keyF; rw [hkey m hm]) ?_
    refine cval 11 (.sl 1 0 (opsTo R (i + 1)).length) rfl (by rw [hlen2]) ?_
    refine cval 12 (.sl 2 0 (opsTo R (i + 1)).length) rfl (by rw [hlen2]) ?_
    refine r0 ?_
    refine s1 38 36 1 rfl rfl rfl rfl rfl rfl trivial ?_
    refine sA 39 44 2 rfl rfl rfl rfl rfl rfl rfl rfl rfl (by unfold inRange; omega) ?_
    refine s1 13 52 3 rfl rfl rfl rfl rfl rfl trivial ?_
    refine e1 60 rfl ?_
    refine tn ?_
    exact again ((i + 1 : Nat)) [0, 1, 2] (show (i + 1) ≤ R.out.length from (by omega)) (show R.out.length - (i + 1) < R.out.length - i from (by omega)) rfl ⟨rfl, rfl, rfl, rfl, rfl, rfl, trivial⟩ ⟨rfl, rfl, rfl, trivial⟩
  try simp only [cs, ne_eq] at hc7
  obtain rfl : i = R.out.length := by omega
  refine W_exit ?_
  refine tx ?_
  refine tx ?_
  refine bx ?_
  refine tn ?_
  refine W_seq ?_
  refine r1 ?_
  refine s1 20 35 1 rfl rfl rfl rfl rfl rfl trivial ?_
  refine e1 43 rfl ?_
  refine keep [2, 3, 11, 12, 20] rfl ?_
  refine W_block ?_
  refine chval 1 (.rows 52 5 (opsTo R R.out.length).length (finU q putF (opsTo R R.out.length) 0)) rfl (by rw [finU_0]) ?_
  refine loop (α := Nat) 3 (fun k => [(2, .fn fP []), (3, .ptr 0 0 0), (11, .sl 1 0 (opsTo R R.out.length).length), (12, .sl 2 0 (opsTo R R.out.length).length), (20, SV.i (k))]) (fun k => [some (machBlk q), some (.rows 52 5 (opsTo R R.out.length).length (finU q putF (opsTo R R.out.length) (k))), some (.rows 3 1 (opsTo R R.out.length).length (keyF (opsTo R R.out.length)))]) (fun k => (k) ≤ (opsTo R R.out.length).length) (fun k => (opsTo R R.out.length).length - (k)) (((0) : Nat)) [0, 1, 2] (fun _ => rfl) (show (0) ≤ (opsTo R R.out.length).length from (by omega)) rfl ⟨rfl, rfl, rfl, rfl, rfl, trivial⟩ ⟨rfl, rfl, rfl, trivial⟩ (fun k hx => ?_)
  show W _ _ _ ⟨tOf [(2, .fn fP []), (3, .ptr 0 0 0), (11, .sl 1 0 (opsTo R R.out.length).length), (12, .sl 2 0 (opsTo R R.out.length).length), (20, SV.i k)], hOf [some (machBlk q), some (.rows 52 5 (opsTo R R.out.length).length (finU q putF (opsTo R R.out.length) k)), some (.rows 3 1 (opsTo R R.out.length).length (keyF (opsTo R R.out.length)))], 3⟩
  have hx : k ≤ (opsTo R R.out.length).length := hx
  refine W_seq ?_
  refine r1 ?_
  refine s1 139 3 1 rfl rfl rfl rfl rfl rfl trivial ?_
  refine s1 140 11 2 rfl rfl rfl rfl rfl rfl trivial ?_
  refine s1 141 19 3 rfl rfl rfl rfl rfl rfl (by first | trivial | omega) ?_
  refine s1 142 27 4 rfl rfl rfl rfl rfl rfl (by first | trivial | omega) ?_
  refine e1 35 rfl ?_
  refine keep [2, 3, 11, 12, 20, 142] rfl ?_
  refine q1 rfl (fun hc27 => ?_) (fun hc27 => ?_)
  · skip
    try simp only [cs, ne_eq] at hc27
    have hop := opsTo_in hev (q := q) (i := R.out.length) (m := k) (by omega)
    have hopn := hn _ hop.1
    refine W_skip ?_
    refine tn ?_
    refine W_seq ?_
    refine W_block ?_
    refine r1 ?_
    refine s1 145 35 1 rfl rfl rfl rfl rfl rfl trivial ?_
    refine s1 146 43 2 rfl rfl rfl rfl rfl rfl trivial ?_
    refine s1 147 51 3 rfl rfl rfl rfl rfl rfl (by first | trivial | omega) ?_
    refine s1 148 59 4 rfl rfl rfl rfl rfl rfl trivial ?_
    refine s1 149 67 5 rfl rfl rfl rfl rfl rfl (by first | trivial | omega) ?_
    refine val 149 (SV.i (opAt (opsTo R R.out.length) k).e) rfl (by have h := finU_e q putF (opsTo R R.out.length) k; simp only [Int.toNat_natCast, Nat.zero_add]; exact congrArg SV.d h) ?_
    refine s1 150 75 6 rfl rfl rfl rfl rfl rfl (by first | trivial | omega) ?_
    refine e1 83 rfl ?_
    refine keep [2, 3, 11, 12, 20, 150] rfl ?_
    refine q1 rfl (fun hc29 => ?_) (fun hc29 => ?_)
    · skip
      try simp only [cs, ne_eq] at hc29
      refine rd1 rfl ?_
      refine d1 152 83 1 rfl rfl rfl rfl rfl rfl trivial ?_
      refine d1 153 91 2 rfl rfl rfl rfl rfl rfl trivial ?_
      refine d1 154 99 3 rfl rfl rfl rfl rfl rfl (by first | trivial | omega) ?_
      refine d1 155 107 4 rfl rfl rfl rfl rfl rfl trivial ?_
      refine d1 156 115 5 rfl rfl rfl rfl rfl rfl trivial ?_
      refine d1 157 123 6 rfl rfl rfl rfl rfl rfl (by first | trivial | omega) ?_
      refine d1 158 131 7 rfl rfl rfl rfl rfl rfl (by first | trivial | omega) ?_
      refine val 158 (SV.i (keyI (opAt (opsTo R R.out.length) k))) rfl (by simp only [Int.toNat_natCast, Nat.zero_add]) ?_
      refine dD 159 139 8 rfl rfl rfl rfl rfl rfl rfl rfl rfl (by unfold keyI; omega) ?_
      refine val 159 (SV.i (opAt (opsTo R R.out.length) k).th) rfl (by show SV.i _ = SV.i _; refine congrArg SV.i ?_; unfold keyI; omega) ?_
      refine d1 160 147 9 rfl rfl rfl rfl rfl rfl (by first | trivial | omega) ?_
      refine d1 161 155 10 rfl rfl rfl rfl rfl rfl (by first | trivial | omega) ?_
      refine d1 162 163 11 rfl rfl rfl rfl rfl rfl trivial ?_
      refine d1 163 171 12 rfl rfl rfl rfl rfl rfl trivial ?_
      refine d1 164 179 13 rfl rfl rfl rfl rfl rfl (by first | trivial | omega) ?_
      refine d1 165 187 14 rfl rfl rfl rfl rfl rfl (by first | trivial | omega) ?_
      refine val 165 (SV.i (keyI (opAt (opsTo R R.out.length) k))) rfl (by simp only [Int.toNat_natCast, Nat.zero_add]) ?_
      refine dD 166 195 15 rfl rfl rfl rfl rfl rfl rfl rfl rfl (by unfold keyI; omega) ?_
      refine val 166 (SV.i (opAt (opsTo R R.out.length) k).n) rfl (by show SV.i _ = SV.i _; refine congrArg SV.i ?_; unfold keyI; omega) ?_
      refine d1 167 203 16 rfl rfl rfl rfl rfl rfl (by first | trivial | omega) ?_
      refine d1 168 211 17 rfl rfl rfl rfl rfl rfl (by first | trivial | omega) ?_
      refine val 168 (callS (callAt q (opAt (opsTo R R.out.length) k).th.toNat (opAt (opsTo R R.out.length) k).n)) rfl rfl ?_
      refine dc1 (hput0 (opAt (opsTo R R.out.length) k).th (opAt (opsTo R R.out.length) k).n hop.1 hop.2.1 hop.2.2.1 hop.2.2.2) [] [] 169 219 18 rfl rfl rfl rfl rfl rfl rfl rfl hfn1 hfn2 rfl rfl rfl trivial rfl rfl ?_
      refine d1 151 227 19 rfl rfl rfl rfl rfl rfl trivial ?_
      refine d1 170 235 20 rfl rfl rfl rfl rfl rfl trivial ?_
      refine d1 171 243 21 rfl rfl rfl rfl rfl rfl trivial ?_
      refine d1 172 251 22 rfl rfl rfl rfl rfl rfl trivial ?_
      refine d1 21 259 23 rfl rfl rfl rfl rfl rfl trivial ?_
      refine d1 22 267 24 rfl rfl rfl rfl rfl rfl trivial ?_
      refine d1 23 275 25 rfl rfl rfl rfl rfl rfl trivial ?_
      refine de1 283 rfl (by kernel_rfl) ?_
      refine keep [2, 3, 11, 12, 20, 21, 22, 23] rfl ?_
      refine W_seq ?_
      refine r1 ?_
      refine s1 173 283 1 rfl rfl rfl rfl rfl rfl trivial ?_
      refine s1 174 291 2 rfl rfl rfl rfl rfl rfl trivial ?_
      refine e1 299 rfl ?_
      refine keep [2, 3, 11, 12, 20, 21, 22, 174] rfl ?_
      refine q1 rfl (fun hc31 => ?_) (fun hc31 => ?_)
      · skip
        rw [hok0] at hc31; exact absurd hc31 (by decide)
      try simp only [cs, ne_eq] at hc31
      refine W_skip ?_
      refine tn ?_
      refine r1 ?_
      refine s1 175 299 1 rfl rfl rfl rfl rfl rfl trivial ?_
      refine s1 176 307 2 rfl rfl rfl rfl rfl rfl trivial ?_
      refine s1 177 315 3 rfl rfl rfl rfl rfl rfl trivial ?_
      refine s1 178 323 4 rfl rfl rfl rfl rfl rfl (by first | trivial | omega) ?_
      refine s1 179 331 5 rfl rfl rfl rfl rfl rfl trivial ?_
      refine s0 339 6 rfl rfl rfl rfl rfl (by first | trivial | omega) ?_
      refine e1 347 rfl ?_
      refine keep [2, 3, 11, 12, 20, 22] rfl ?_
      refine r0 ?_
      refine s1 180 347 1 rfl rfl rfl rfl rfl rfl trivial ?_
      refine s1 181 355 2 rfl rfl rfl rfl rfl rfl trivial ?_
      refine s1 182 363 3 rfl rfl rfl rfl rfl rfl trivial ?_
      refine s1 183 371 4 rfl rfl rfl rfl rfl rfl (by first | trivial | omega) ?_
      refine s1 184 379 5 rfl rfl rfl rfl rfl rfl trivial ?_
      refine s0 387 6 rfl rfl rfl rfl rfl (by first | trivial | omega) ?_
      refine e1 395 rfl ?_
      refine bn ?_
      refine tn ?_
      refine rowsc (k := 5) 1 (opsTo R R.out.length).length (finU q putF (opsTo R R.out.length) (k + 1)) rfl rfl (fun m c hm hc => by simp only [Int.toNat_natCast, Nat.zero_add]; exact finU_hit q putF _ k hc29 m c hc) ?_
      refine r0 ?_
      refine s1 143 395 1 rfl rfl rfl rfl rfl rfl trivial ?_
      refine sA 144 403 2 rfl rfl rfl rfl rfl rfl rfl rfl rfl (by unfold inRange; omega) ?_
      refine s1 20 411 3 rfl rfl rfl rfl rfl rfl trivial ?_
      refine e1 419 rfl ?_
      refine tn ?_
      exact again ((k + 1 : Nat)) [0, 1, 2] (show (k + 1) ≤ (opsTo R R.out.length).length from (by omega)) (show (opsTo R R.out.length).length - (k + 1) < (opsTo R R.out.length).length - k from (by omega)) rfl ⟨rfl, rfl, rfl, rfl, rfl, trivial⟩ ⟨rfl, rfl, rfl, trivial⟩
    try simp only [cs, ne_eq] at hc29
    refine W_skip ?_
    refine bn ?_
    refine tn ?_
    refine rowsc (k := 5) 1 (opsTo R R.out.length).length (finU q putF (opsTo R R.out.length) (k + 1)) rfl rfl (fun m c hm hc => finU_skip q putF _ k hc29 m c) ?_
    refine r0 ?_
    refine s1 143 83 1 rfl rfl rfl rfl rfl rfl trivial ?_
    refine sA 144 91 2 rfl rfl rfl rfl rfl rfl rfl rfl rfl (by unfold inRange; omega) ?_
    refine s1 20 99 3 rfl rfl rfl rfl rfl rfl trivial ?_
    refine e1 107 rfl ?_
    refine tn ?_
    exact again ((k + 1 : Nat)) [0, 1, 2] (show (k + 1) ≤ (opsTo R R.out.length).length from (by omega)) (show (opsTo R R.out.length).length - (k + 1) < (opsTo R R.out.length).length - k from (by omega)) rfl ⟨rfl, rfl, rfl, rfl, rfl, trivial⟩ ⟨rfl, rfl, rfl, trivial⟩
  try simp only [cs, ne_eq] at hc27
  obtain rfl : k = (opsTo R R.out.length).length := by omega
  refine W_exit ?_
  refine tx ?_
  refine tx ?_
  refine bx ?_
  refine tn ?_
  have hhl : (opsTo R R.out.length).length = (hist q putF (opsTo R R.out.length)).length := by unfold hist; simp
  refine rowsc (k := 5) 1 (hist q putF (opsTo R R.out.length)).length (Lin.actF (hist q putF (opsTo R R.out.length))) rfl hhl (fun m c hm hc => finU_end q putF _ m c hm) ?_
  refine cval 11 (.sl 1 0 (hist q putF (opsTo R R.out.length)).length) rfl (by rw [hhl]) ?_
  refine r1 ?_
  refine s1 185 35 1 rfl rfl rfl rfl rfl rfl trivial ?_
  refine s1 6 43 2 rfl rfl rfl rfl rfl rfl trivial ?_
  refine s1 7 51 3 rfl rfl rfl rfl rfl rfl trivial ?_
  refine e1 59 rfl ?_
  refine keep [6, 7] rfl ?_
  refine W_ret ?_
  exact out2 6 7 (.sl 0 0 (hist q putF (opsTo R R.out.length)).length) (SV.b true) (π := [1]) (hout := [some (.rows 52 5 (hist q putF (opsTo R R.out.length)).length (Lin.actF (hist q putF (opsTo R R.out.length))))]) Tryd.results17 rfl rfl rfl rfl rfl rfl ⟨rfl, trivial⟩ ⟨rfl, rfl⟩

end Go.Proofs.YtnnjobmiepnedaaDoor.Nice
