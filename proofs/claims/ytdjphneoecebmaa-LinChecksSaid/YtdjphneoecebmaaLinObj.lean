/- The objects of histories: what they have behind an act, and whether they are the same. -/
import Derived.Test.YtdjphneoecebmaaLinMay
import Derived.Test.YtdjphneoecebmaaNiceV
namespace Go.Proofs.Ytdjphneoecebmaa.Nice
open Go
set_option linter.unusedVariables false
set_option linter.unusedSimpArgs false
set_option maxRecDepth 100000
set_option maxHeartbeats 4000000

def intsF (l : List Int) : Nat → Nat → D := fun i _ => .val (.int .i64 (l.getD i 0))
def intsV (l : List Int) : SV := .d (.vec 1 l.length (intsF l))
def intsB (l : List Int) : Blk := .rows 3 1 l.length (intsF l)
def wrp (x : Int) : Int := IntKind.i64.wrap x
theorem getG {α : Type} [Inhabited α] {l : List α} {k : Nat} {z : α} (h : k < l.length) : l.getD k z = l[k] := by simp [List.getD, h]
theorem ints_cat (l : List Int) (v : Int) (i c : Nat) (hi : i < l.length + 1) (hc : c < 1) : catR (intsF l) l.length (litR 1 [.val (.int .i64 v)]) i c = intsF (l ++ [v]) i c := by
  obtain rfl : c = 0 := by omega
  unfold catR intsF litR
  by_cases h : i < l.length
  · rw [if_pos h]; simp [List.getD, List.getElem?_append_left h]
  · obtain rfl : i = l.length := by omega
    rw [if_neg (Nat.lt_irrefl _), Nat.sub_self]
    simp [List.getD]
/-- An object: a register, a counter, a heap of numbers. -/
inductive Ob where
  | reg (n : Int)
  | cnt (n : Int)
  | hp (last : Bool) (l : List Int)
instance : Inhabited Ob := ⟨.reg 0⟩
def onext : Ob → Act → Ob × Int
  | .reg n, a => if a.p = true then (.reg a.v, a.v) else (.reg n, n)
  | .cnt n, a => (.cnt (wrp (n + a.y)), n)
  | .hp last l, a => if a.p = true then (.hp last (l ++ [a.v]), a.v) else if l.length = 0 then (.hp last l, -1) else if last = true then (.hp true (l.take (l.length - 1)), l.getD (l.length - 1) 0) else (.hp false (l.drop 1), l.getD 0 0)
theorem onext_reg_put {n : Int} {a : Act} (h : a.p = true) : onext (.reg n) a = (.reg a.v, a.v) := by show (if _ then _ else _) = _; rw [if_pos h]
theorem onext_reg_get {n : Int} {a : Act} (h : a.p = false) : onext (.reg n) a = (.reg n, n) := by show (if _ then _ else _) = _; rw [if_neg (by rw [h]; decide)]
theorem onext_put {b : Bool} {l : List Int} {a : Act} (h : a.p = true) : onext (.hp b l) a = (.hp b (l ++ [a.v]), a.v) := by show (if _ then _ else _) = _; rw [if_pos h]
theorem onext_none {b : Bool} {l : List Int} {a : Act} (h : a.p = false) (h2 : l.length = 0) : onext (.hp b l) a = (.hp b l, -1) := by show (if _ then _ else _) = _; rw [if_neg (by rw [h]; decide), if_pos h2]
theorem onext_last {b : Bool} {l : List Int} {a : Act} (h : a.p = false) (h2 : ¬ l.length = 0) (h3 : b = true) : onext (.hp b l) a = (.hp true (l.take (l.length - 1)), l.getD (l.length - 1) 0) := by show (if _ then _ else _) = _; rw [if_neg (by rw [h]; decide), if_neg h2, if_pos h3]
theorem onext_first {b : Bool} {l : List Int} {a : Act} (h : a.p = false) (h2 : ¬ l.length = 0) (h3 : b = false) : onext (.hp b l) a = (.hp false (l.drop 1), l.getD 0 0) := by show (if _ then _ else _) = _; rw [if_neg (by rw [h]; decide), if_neg h2, if_neg (by rw [h3]; decide)]
def osame : Ob → Ob → Bool
  | .reg a, .reg b => b == a
  | .cnt a, .cnt b => b == a
  | .hp _ a, .hp _ b => decide (b = a)
  | _, _ => false
/-- Of one kind. -/
def okind : Ob → Nat
  | .reg _ => 0
  | .cnt _ => 1
  | .hp false _ => 2
  | .hp true _ => 3
def osize : Ob → Nat
  | .hp _ l => l.length
  | _ => 0
def obPr (M : Imm) : Ob → Value → Prop
  | .reg n, v => v = .iface 36 (.int .i64 n)
  | .cnt n, v => v = .iface 37 (.int .i64 n)
  | .hp last l, v => ∃ u, v = .iface 40 (.agg #[.bool last, u]) ∧ DR M (.vec 1 l.length (intsF l)) u
theorem obPr_iface {M : Imm} {o : Ob} {v : Value} (h : obPr M o v) : ∃ T z, v = .iface T z := by
  cases o with
  | reg n => exact ⟨_, _, h⟩
  | cnt n => exact ⟨_, _, h⟩
  | hp b l => obtain ⟨u, hu, _⟩ := h; exact ⟨_, _, hu⟩
def objP (o : Ob) : MP := ⟨fun M v => obPr M o v, fun M M' v hM h => by
  cases o with
  | reg n => exact h
  | cnt n => exact h
  | hp b l => obtain ⟨u, hu, hr⟩ := h; exact ⟨u, hu, hr.mono hM⟩, fun M v h => by obtain ⟨T, z, rfl⟩ := obPr_iface h; rfl⟩
def objV (o : Ob) : SV := .d (.pr (objP o))
theorem ob_reg {M : Imm} {ρ : Names} {n : Int} {x : Value} (h : VR M ρ (SV.i n) x) : VR M ρ (objV (.reg n)) (.iface 36 x) := pr_mk (by rw [h.val]; rfl)
theorem ob_cnt {M : Imm} {ρ : Names} {n : Int} {x : Value} (h : VR M ρ (SV.i n) x) : VR M ρ (objV (.cnt n)) (.iface 37 x) := pr_mk (by rw [h.val]; rfl)
theorem ob_hp {M : Imm} {ρ : Names} {b : Bool} {l : List Int} {n : Nat} {f : Nat → Nat → D} {x : Value} (h : VR M ρ (.agg [SV.b b, .d (.vec 1 n f)]) x) (hn : n = l.length) (hf : ∀ i c, i < l.length → c < 1 → f i c = intsF l i c) : VR M ρ (objV (.hp b l)) (.iface 40 x) := by
  obtain ⟨vs, rfl, hs, hr⟩ := agg_case h
  obtain ⟨u0, e0, r0⟩ := hr 0 _ rfl
  obtain ⟨u1, e1, r1⟩ := hr 1 _ rfl
  refine pr_mk ⟨u1, ?_, ?_⟩
  · have : vs = #[.bool b, u1] := by
      apply Array.ext'
      have h2 : vs.toList.length = 2 := by simpa using hs
      match hq : vs.toList, h2 with
      | [a, c], _ =>
        have a0 : vs[0]? = some a := by rw [← Array.getElem?_toList, hq]; rfl
        have a1 : vs[1]? = some c := by rw [← Array.getElem?_toList, hq]; rfl
        rw [e0] at a0; rw [e1] at a1
        rw [← Option.some.inj a0, ← Option.some.inj a1, r0.bool]
    rw [this]
  · subst hn
    cases r1 with | d _ _ h => exact DR.vec_congr h hf
theorem reg_case {M : Imm} {ρ : Names} {n : Int} {x : Value} (h : VR M ρ (objV (.reg n)) x) : ∃ z, x = .iface 36 z ∧ VR M ρ (SV.i n) z := ⟨_, pr_case h, .d _ _ (.val _ rfl)⟩
theorem cnt_case {M : Imm} {ρ : Names} {n : Int} {x : Value} (h : VR M ρ (objV (.cnt n)) x) : ∃ z, x = .iface 37 z ∧ VR M ρ (SV.i n) z := ⟨_, pr_case h, .d _ _ (.val _ rfl)⟩
theorem hp_case {M : Imm} {ρ : Names} {b : Bool} {l : List Int} {x : Value} (h : VR M ρ (objV (.hp b l)) x) : ∃ z, x = .iface 40 z ∧ VR M ρ (.agg [SV.b b, intsV l]) z := by
  obtain ⟨u, hu, hr⟩ := pr_case h
  refine ⟨_, hu, .aggOf _ _ rfl fun i s hs => ?_⟩
  match i, hs with
  | 0, hs => cases hs; exact ⟨_, rfl, .d _ _ (.val _ rfl)⟩
  | 1, hs => cases hs; exact ⟨_, rfl, .d _ _ hr⟩
  | n + 2, hs => simp at hs
theorem take_F (l : List Int) (k i c : Nat) (hi : i < (l.take k).length) (hc : c < 1) : intsF l i c = intsF (l.take k) i c := by
  unfold intsF
  rw [List.length_take] at hi
  rw [List.getD_eq_getElem?_getD, List.getD_eq_getElem?_getD, List.getElem?_take, if_pos (by omega)]
theorem drop_F (l : List Int) (i c : Nat) (hc : c < 1) : intsF l (1 + i) c = intsF (l.drop 1) i c := by
  unfold intsF
  rw [List.getD_eq_getElem?_getD, List.getD_eq_getElem?_getD, List.getElem?_drop]

theorem reg_next (n : Int) (a : Act) : Spec Try.prog G0 35 [SV.i n, actS a] [] (fun r ho => r = SV.tup [objV (onext (.reg n) a).1, SV.i (onext (.reg n) a).2] ∧ ho = []) := by
  refine start 16 0 Try.func35 rfl rfl rfl rfl ?_
  refine r1 ?_
  refine s1 3 0 1 rfl rfl rfl rfl rfl rfl trivial ?_
  refine s1 4 8 2 rfl rfl rfl rfl rfl rfl trivial ?_
  refine s1 5 16 3 rfl rfl rfl rfl rfl rfl trivial ?_
  refine e1 24 rfl ?_
  refine keep [0, 3] rfl ?_
  refine W_seq ?_
  refine r1 ?_
  refine s1 6 24 1 rfl rfl rfl rfl rfl rfl trivial ?_
  refine s1 7 32 2 rfl rfl rfl rfl rfl rfl (by first | trivial | omega) ?_
  refine e1 40 rfl ?_
  refine keep [0, 3, 7] rfl ?_
  refine q1 rfl (fun hc1 => ?_) (fun hc1 => ?_)
  · skip
    try simp only [cs, ne_eq] at hc1
    refine rd1 rfl ?_
    refine d1 8 40 1 rfl rfl rfl rfl rfl rfl trivial ?_
    refine d1 9 48 2 rfl rfl rfl rfl rfl rfl (by first | trivial | omega) ?_
    refine dIfc (objV (.reg a.v)) 10 56 3 rfl rfl rfl rfl rfl rfl Try.underlying36 rfl rfl (fun M ρ x h => ob_reg h) ?_
    refine d1 11 64 4 rfl rfl rfl rfl rfl rfl trivial ?_
    refine d1 12 72 5 rfl rfl rfl rfl rfl rfl (by first | trivial | omega) ?_
    refine d1 4 80 6 rfl rfl rfl rfl rfl rfl trivial ?_
    refine d1 5 88 7 rfl rfl rfl rfl rfl rfl trivial ?_
    refine de1 96 rfl (by kernel_rfl) ?_
    refine keep [4, 5] rfl ?_
    refine W_ret ?_
    refine tr ?_
    exact out2 4 5 (objV (onext (.reg n) a).1) (SV.i (onext (.reg n) a).2) (π := []) (hout := []) Try.results35 rfl rfl (by rw [onext_reg_put hc1]; rfl) (by rw [onext_reg_put hc1]; rfl) rfl rfl trivial ⟨rfl, rfl⟩
  try simp only [cs, ne_eq] at hc1
  refine W_skip ?_
  refine tn ?_
  refine r1 ?_
  refine s1 13 40 1 rfl rfl rfl rfl rfl rfl trivial ?_
  refine sIfc (objV (.reg n)) 14 48 2 rfl rfl rfl rfl rfl rfl Try.underlying36 rfl rfl (fun M ρ x h => ob_reg h) ?_
  refine s1 15 56 3 rfl rfl rfl rfl rfl rfl trivial ?_
  refine s1 4 64 4 rfl rfl rfl rfl rfl rfl trivial ?_
  refine s1 5 72 5 rfl rfl rfl rfl rfl rfl trivial ?_
  refine e1 80 rfl ?_
  refine keep [4, 5] rfl ?_
  refine W_ret ?_
  exact out2 4 5 (objV (onext (.reg n) a).1) (SV.i (onext (.reg n) a).2) (π := []) (hout := []) Try.results35 rfl rfl (by rw [onext_reg_get hc1]; rfl) (by rw [onext_reg_get hc1]; rfl) rfl rfl trivial ⟨rfl, rfl⟩

theorem cnt_next (n : Int) (a : Act) : Spec Try.prog G0 37 [SV.i n, actS a] [] (fun r ho => r = SV.tup [objV (onext (.cnt n) a).1, SV.i (onext (.cnt n) a).2] ∧ ho = []) := by
  refine start 12 0 Try.func37 rfl rfl rfl rfl ?_
  refine r1 ?_
  refine s1 3 0 1 rfl rfl rfl rfl rfl rfl trivial ?_
  refine s1 4 8 2 rfl rfl rfl rfl rfl rfl trivial ?_
  refine s1 5 16 3 rfl rfl rfl rfl rfl rfl trivial ?_
  refine e1 24 rfl ?_
  refine keep [0, 3] rfl ?_
  refine r1 ?_
  refine s1 6 24 1 rfl rfl rfl rfl rfl rfl trivial ?_
  refine s1 7 32 2 rfl rfl rfl rfl rfl rfl trivial ?_
  refine s1 8 40 3 rfl rfl rfl rfl rfl rfl (by first | trivial | omega) ?_
  refine s1 9 48 4 rfl rfl rfl rfl rfl rfl (by first | trivial | omega) ?_
  refine val 9 (SV.i (wrp (n + a.y))) rfl rfl ?_
  refine sIfc (objV (.cnt (wrp (n + a.y)))) 10 56 5 rfl rfl rfl rfl rfl rfl Try.underlying37 rfl rfl (fun M ρ x h => ob_cnt h) ?_
  refine s1 11 64 6 rfl rfl rfl rfl rfl rfl trivial ?_
  refine s1 4 72 7 rfl rfl rfl rfl rfl rfl trivial ?_
  refine s1 5 80 8 rfl rfl rfl rfl rfl rfl trivial ?_
  refine e1 88 rfl ?_
  refine keep [4, 5] rfl ?_
  refine W_ret ?_
  exact out2 4 5 (objV (onext (.cnt n) a).1) (SV.i (onext (.cnt n) a).2) (π := []) (hout := []) Try.results37 rfl rfl rfl rfl rfl rfl trivial ⟨rfl, rfl⟩

theorem clone_any (l : List Int) (hl : l.length ≤ 1048576) : Spec Try.prog G0 41 [intsV l] [] (fun r ho => r = .sl 0 0 l.length ∧ ho = [some (intsB l)]) := by
  refine start 8 0 Try.func41 rfl rfl rfl rfl ?_
  refine r1 ?_
  refine s1 2 0 1 rfl rfl rfl rfl rfl rfl trivial ?_
  refine e1 8 rfl ?_
  refine keep [0] rfl ?_
  refine W_seq ?_
  refine r1 ?_
  refine s1 3 8 1 rfl rfl rfl rfl rfl rfl trivial ?_
  refine sNilQ 4 16 2 rfl rfl rfl rfl rfl rfl rfl rfl (fun b hb => ?_)
  refine e1 24 rfl ?_
  refine keep [0, 4] rfl ?_
  refine q1 rfl (fun hc1 => ?_) (fun hc1 => ?_)
  · skip
    try simp only [cs, ne_eq] at hc1
    obtain rfl : l = [] := List.length_eq_zero_iff.1 (hb hc1)
    refine r1 ?_
    refine s1 2 24 1 rfl rfl rfl rfl rfl rfl trivial ?_
    refine e1 32 rfl ?_
    refine keep [2] rfl ?_
    refine ghostly 2 3 1 (intsF []) rfl ?_
    refine W_ret ?_
    refine tr ?_
    exact out1 2 (.sl 0 0 0) (π := [32]) (hout := [some (intsB [])]) Try.results41 rfl rfl rfl rfl ⟨rfl, trivial⟩ ⟨rfl, rfl⟩
  try simp only [cs, ne_eq] at hc1
  refine W_skip ?_
  refine tn ?_
  refine r1 ?_
  refine s1 5 24 1 rfl rfl rfl rfl rfl rfl trivial ?_
  refine s1 6 32 2 rfl rfl rfl rfl rfl rfl trivial ?_
  refine s1 7 40 3 rfl rfl rfl rfl rfl rfl ⟨trivial, (by show l.length * 8 ≤ 140737488355328; omega), (by simp only [maxLen]; omega)⟩ ?_
  refine s1 2 48 4 rfl rfl rfl rfl rfl rfl trivial ?_
  refine e1 56 rfl ?_
  refine keep [2] rfl ?_
  refine W_ret ?_
  exact out1 2 (.sl 0 0 l.length) (π := [40]) (hout := [some (intsB l)]) Try.results41 rfl rfl rfl rfl ⟨rfl, trivial⟩ ⟨rfl, rfl⟩

theorem hp_frozen {M M' : Imm} {ρ : Names} (hM : M.le M') {n : Nat} {b : Bool} {l : List Int} (hv : ∀ v, VR M ρ (.sl n 0 l.length) v → VR M' ρ (.d (.vec 1 l.length (intsF l))) v) {v : Value} (h : VR M ρ (.iface 40 (.agg [SV.b b, .sl n 0 l.length])) v) : VR M' ρ (objV (.hp b l)) v := by
  cases h with
  | iface _ _ x h =>
    obtain ⟨vs, rfl, hs, hr⟩ := agg_case h
    refine ob_hp (n := l.length) (f := intsF l) ?_ rfl (fun _ _ _ _ => rfl)
    refine .aggOf _ _ hs fun i s hi => ?_
    match i, hi with
    | 0, hi => cases hi; obtain ⟨u, e, r⟩ := hr 0 _ rfl; exact ⟨u, e, r.mono hM (Names.le_refl _)⟩
    | 1, hi => cases hi; obtain ⟨u, e, r⟩ := hr 1 _ rfl; exact ⟨u, e, hv u r⟩
    | n + 2, hi => simp at hi
theorem hp_next (b : Bool) (l : List Int) (hl : l.length ≤ 1048575) (a : Act) : Spec Try.prog G0 39 [.agg [SV.b b, intsV l], actS a] [] (fun r ho => r = SV.tup [objV (onext (.hp b l) a).1, SV.i (onext (.hp b l) a).2] ∧ ho = []) := by
  refine start 56 0 Try.func39 rfl rfl rfl rfl ?_
  refine r1 ?_
  refine s1 2 0 1 rfl rfl rfl rfl rfl rfl trivial ?_
  refine s1 3 8 2 rfl rfl rfl rfl rfl rfl trivial ?_
  refine s1 4 16 3 rfl rfl rfl rfl rfl rfl trivial ?_
  refine s1 5 24 4 rfl rfl rfl rfl rfl rfl trivial ?_
  refine e1 32 rfl ?_
  refine keep [2, 3] rfl ?_
  refine r1 ?_
  refine s1 7 32 1 rfl rfl rfl rfl rfl rfl trivial ?_
  refine s1 8 40 2 rfl rfl rfl rfl rfl rfl (by first | trivial | omega) ?_
  refine s1 9 48 3 rfl rfl rfl rfl rfl rfl (by first | trivial | omega) ?_
  refine s1 6 56 4 rfl rfl rfl rfl rfl rfl trivial ?_
  refine e1 64 rfl ?_
  refine keep [2, 3, 6] rfl ?_
  refine W_seq ?_
  refine W_block ?_
  refine r1 ?_
  refine s1 11 64 1 rfl rfl rfl rfl rfl rfl trivial ?_
  refine s1 12 72 2 rfl rfl rfl rfl rfl rfl (by first | trivial | omega) ?_
  refine s1 10 80 3 rfl rfl rfl rfl rfl rfl trivial ?_
  refine e1 88 rfl ?_
  refine keep [2, 3, 6, 10] rfl ?_
  refine q1 rfl (fun hc2 => ?_) (fun hc2 => ?_)
  · skip
    try simp only [cs, ne_eq] at hc2
    refine rd1 rfl ?_
    refine d1 13 88 1 rfl rfl rfl rfl rfl rfl trivial ?_
    refine d1 14 96 2 rfl rfl rfl rfl rfl rfl (by first | trivial | omega) ?_
    refine d1 15 104 3 rfl rfl rfl rfl rfl rfl trivial ?_
    refine d1 16 112 4 rfl rfl rfl rfl rfl rfl (by first | trivial | omega) ?_
    refine dc1 (clone_any l (by omega)) [] [120] 17 120 5 rfl rfl rfl rfl rfl rfl rfl rfl Try.func41 rfl rfl rfl rfl trivial rfl rfl ?_
    refine d1 18 128 6 rfl rfl rfl rfl rfl rfl trivial ?_
    refine d1 19 136 7 rfl rfl rfl rfl rfl rfl (by first | trivial | omega) ?_
    refine d1 20 144 8 rfl rfl rfl rfl rfl rfl trivial ?_
    refine d1 21 152 9 rfl rfl rfl rfl rfl rfl ⟨Nat.le_refl _, trivial, (by show (l.length + 1) * 8 ≤ 140737488355328; omega), (by simp only [maxLen]; omega)⟩ ?_
    refine d1 22 160 10 rfl rfl rfl rfl rfl rfl trivial ?_
    refine dIfc (.iface 40 (.agg [SV.b b, .sl 152 0 (l.length + 1)])) 23 168 11 rfl rfl rfl rfl rfl rfl Try.underlying40 rfl rfl (fun M ρ x h => .iface _ _ _ h) ?_
    refine d1 24 176 12 rfl rfl rfl rfl rfl rfl trivial ?_
    refine d1 25 184 13 rfl rfl rfl rfl rfl rfl (by first | trivial | omega) ?_
    refine d1 4 192 14 rfl rfl rfl rfl rfl rfl trivial ?_
    refine d1 5 200 15 rfl rfl rfl rfl rfl rfl trivial ?_
    refine de1 208 rfl (by kernel_rfl) ?_
    refine keep [4, 5] rfl ?_
    refine rowsc 152 (l ++ [a.v]).length (intsF (l ++ [a.v])) rfl (by simp) (fun i c hi hc => ints_cat l a.v i c hi hc) ?_
    refine cval 4 (.iface 40 (.agg [SV.b b, .sl 152 0 (l ++ [a.v]).length])) rfl (by rw [List.length_append]; rfl) ?_
    refine refreeze 4 152 (l ++ [a.v]).length (objV (.hp b (l ++ [a.v]))) rfl rfl (Nat.le_refl _) (fun M M' ρ hM hv v h => hp_frozen hM hv h) ?_
    refine W_ret ?_
    refine br ?_
    refine tr ?_
    exact out2 4 5 (objV (onext (.hp b l) a).1) (SV.i (onext (.hp b l) a).2) (π := []) (hout := []) Try.results39 rfl rfl (by rw [onext_put hc2]; rfl) (by rw [onext_put hc2]; rfl) rfl rfl trivial ⟨rfl, rfl⟩
  try simp only [cs, ne_eq] at hc2
  refine r1 ?_
  refine s1 27 88 1 rfl rfl rfl rfl rfl rfl trivial ?_
  refine s1 28 96 2 rfl rfl rfl rfl rfl rfl (by first | trivial | omega) ?_
  refine s1 26 104 3 rfl rfl rfl rfl rfl rfl trivial ?_
  refine e1 112 rfl ?_
  refine keep [2, 6, 26] rfl ?_
  refine q1 rfl (fun hc4 => ?_) (fun hc4 => ?_)
  · skip
    try simp only [cs, ne_eq] at hc4
    refine r1 ?_
    refine s1 29 112 1 rfl rfl rfl rfl rfl rfl (by first | trivial | omega) ?_
    refine sIfc (objV (.hp b l)) 30 120 2 rfl rfl rfl rfl rfl rfl Try.underlying40 rfl rfl (fun M ρ x h => ob_hp h rfl (fun _ _ _ _ => rfl)) ?_
    refine s1 4 128 3 rfl rfl rfl rfl rfl rfl trivial ?_
    refine s1 5 136 4 rfl rfl rfl rfl rfl rfl trivial ?_
    refine e1 144 rfl ?_
    refine keep [4, 5] rfl ?_
    refine W_ret ?_
    refine br ?_
    refine tr ?_
    exact out2 4 5 (objV (onext (.hp b l) a).1) (SV.i (onext (.hp b l) a).2) (π := []) (hout := []) Try.results39 rfl rfl (by rw [onext_none hc2 (by omega)]; rfl) (by rw [onext_none hc2 (by omega)]; rfl) rfl rfl trivial ⟨rfl, rfl⟩
  try simp only [cs, ne_eq] at hc4
  refine r1 ?_
  refine s1 32 112 1 rfl rfl rfl rfl rfl rfl trivial ?_
  refine s1 33 120 2 rfl rfl rfl rfl rfl rfl (by first | trivial | omega) ?_
  refine s1 31 128 3 rfl rfl rfl rfl rfl rfl trivial ?_
  refine e1 136 rfl ?_
  refine keep [2, 6, 31] rfl ?_
  refine q1 rfl (fun hc6 => ?_) (fun hc6 => ?_)
  · skip
    try simp only [cs, ne_eq] at hc6
    refine rd1 rfl ?_
    refine d1 34 136 1 rfl rfl rfl rfl rfl rfl trivial ?_
    refine d1 35 144 2 rfl rfl rfl rfl rfl rfl (by first | trivial | omega) ?_
    refine d1 36 152 3 rfl rfl rfl rfl rfl rfl trivial ?_
    refine dA 37 160 4 rfl rfl rfl rfl rfl rfl rfl rfl rfl (by unfold inRange; omega) ?_
    refine d1 38 168 5 rfl rfl rfl rfl rfl rfl (by omega) ?_
    refine d1 39 176 6 rfl rfl rfl rfl rfl rfl trivial ?_
    refine dIfc (objV (.hp true (l.take (l.length - 1)))) 40 184 7 rfl rfl rfl rfl rfl rfl Try.underlying40 rfl rfl (fun M ρ x h => ob_hp h (by rw [List.length_take]; omega) (fun i c hi hc => by first | exact take_F l _ i c hi hc | (rw [Nat.zero_add]; exact take_F l _ i c hi hc))) ?_
    refine d1 41 192 8 rfl rfl rfl rfl rfl rfl trivial ?_
    refine d1 42 200 9 rfl rfl rfl rfl rfl rfl (by first | trivial | omega) ?_
    refine d1 43 208 10 rfl rfl rfl rfl rfl rfl trivial ?_
    refine dA 44 216 11 rfl rfl rfl rfl rfl rfl rfl rfl rfl (by unfold inRange; omega) ?_
    refine d1 45 224 12 rfl rfl rfl rfl rfl rfl (by first | trivial | omega) ?_
    refine d1 46 232 13 rfl rfl rfl rfl rfl rfl (by first | trivial | omega) ?_
    refine d1 4 240 14 rfl rfl rfl rfl rfl rfl trivial ?_
    refine d1 5 248 15 rfl rfl rfl rfl rfl rfl trivial ?_
    refine de1 256 rfl (by kernel_rfl) ?_
    refine keep [4, 5] rfl ?_
    refine W_ret ?_
    refine br ?_
    refine tr ?_
    exact out2 4 5 (objV (onext (.hp b l) a).1) (SV.i (onext (.hp b l) a).2) (π := []) (hout := []) Try.results39 rfl rfl (by rw [onext_last hc2 (by omega) hc6]; rfl) (by rw [onext_last hc2 (by omega) hc6]; rw [show ((l.length : Int) - 1).toNat = l.length - 1 from by omega]; rfl) rfl rfl trivial ⟨rfl, rfl⟩
  try simp only [cs, ne_eq] at hc6
  refine W_skip ?_
  refine bn ?_
  refine tn ?_
  refine rd1 rfl ?_
  refine d1 47 136 1 rfl rfl rfl rfl rfl rfl trivial ?_
  refine d1 48 144 2 rfl rfl rfl rfl rfl rfl (by first | trivial | omega) ?_
  refine d1 49 152 3 rfl rfl rfl rfl rfl rfl (by omega) ?_
  refine d1 50 160 4 rfl rfl rfl rfl rfl rfl trivial ?_
  refine dIfc (objV (.hp false (l.drop 1))) 51 168 5 rfl rfl rfl rfl rfl rfl Try.underlying40 rfl rfl (fun M ρ x h => ob_hp h (by rw [List.length_drop]; omega) (fun i c hi hc => by first | exact drop_F l i c hc | (rw [Nat.add_comm]; exact drop_F l i c hc))) ?_
  refine d1 52 176 6 rfl rfl rfl rfl rfl rfl trivial ?_
  refine d1 53 184 7 rfl rfl rfl rfl rfl rfl (by first | trivial | omega) ?_
  refine d1 54 192 8 rfl rfl rfl rfl rfl rfl (by first | trivial | omega) ?_
  refine d1 55 200 9 rfl rfl rfl rfl rfl rfl (by first | trivial | omega) ?_
  refine d1 4 208 10 rfl rfl rfl rfl rfl rfl trivial ?_
  refine d1 5 216 11 rfl rfl rfl rfl rfl rfl trivial ?_
  refine de1 224 rfl (by kernel_rfl) ?_
  refine keep [4, 5] rfl ?_
  refine W_ret ?_
  exact out2 4 5 (objV (onext (.hp b l) a).1) (SV.i (onext (.hp b l) a).2) (π := []) (hout := []) Try.results39 rfl rfl (by rw [onext_first hc2 (by omega) hc6]; rfl) (by rw [onext_first hc2 (by omega) hc6]; rfl) rfl rfl trivial ⟨rfl, rfl⟩

end Go.Proofs.Ytdjphneoecebmaa.Nice
