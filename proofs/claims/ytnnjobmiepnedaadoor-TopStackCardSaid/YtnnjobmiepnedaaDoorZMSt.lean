/- The stack that many use: its words, its lists, and what a step may do to them. -/
import Derived.Test.YtnnjobmiepnedaaDoorZMHi
import Derived.Test.YtnnjobmiepnedaaDoorZStackT
namespace Go.Proofs.YtnnjobmiepnedaaDoor.Nice
open Go
set_option linter.unusedVariables false
set_option linter.unusedSimpArgs false
set_option maxRecDepth 100000
set_option maxHeartbeats 4000000
def pushL : List Ins := [⟨1, 1, 1, 0, 0⟩, ⟨1, 2, 2, 0, 0⟩, ⟨1, 3, 64, 0, 0⟩, ⟨13, 4, 5, 1, 0⟩, ⟨7, 6, 4, 3, 0⟩, ⟨12, 6, 27, 0, 0⟩, ⟨5, 7, 6, 2, 0⟩, ⟨13, 8, 7, 1, 0⟩, ⟨13, 9, 7, 0, 0⟩, ⟨6, 10, 4, 3, 0⟩, ⟨3, 10, 10, 1, 0⟩, ⟨5, 10, 10, 3, 0⟩, ⟨3, 10, 10, 8, 0⟩, ⟨15, 10, 5, 1, 4⟩, ⟨12, 10, 3, 0, 0⟩,
  ⟨14, 0, 7, 0, 0⟩, ⟨13, 4, 5, 0, 0⟩, ⟨7, 8, 4, 3, 0⟩, ⟨14, 8, 7, 1, 0⟩, ⟨6, 10, 4, 3, 0⟩, ⟨3, 10, 10, 1, 0⟩, ⟨5, 10, 10, 3, 0⟩, ⟨3, 10, 10, 6, 0⟩, ⟨15, 10, 5, 0, 4⟩, ⟨12, 10, 16, 0, 0⟩, ⟨16, 1, 0, 0, 0⟩, ⟨17, 0, 0, 0, 0⟩, ⟨16, 5, 0, 0, 0⟩]
def popL : List Ins := [⟨1, 0, 1, 0, 0⟩, ⟨1, 1, 2, 0, 0⟩, ⟨1, 2, 64, 0, 0⟩, ⟨13, 3, 4, 0, 0⟩, ⟨7, 5, 3, 2, 0⟩, ⟨12, 5, 27, 0, 0⟩, ⟨5, 6, 5, 1, 0⟩, ⟨13, 7, 6, 1, 0⟩, ⟨13, 8, 6, 0, 0⟩, ⟨6, 9, 3, 2, 0⟩, ⟨3, 9, 9, 0, 0⟩, ⟨5, 9, 9, 2, 0⟩, ⟨3, 9, 9, 7, 0⟩, ⟨15, 9, 4, 0, 3⟩, ⟨12, 9, 3, 0, 0⟩,
  ⟨2, 10, 8, 0, 0⟩, ⟨13, 3, 4, 1, 0⟩, ⟨7, 7, 3, 2, 0⟩, ⟨14, 7, 6, 1, 0⟩, ⟨6, 9, 3, 2, 0⟩, ⟨3, 9, 9, 0, 0⟩, ⟨5, 9, 9, 2, 0⟩, ⟨3, 9, 9, 5, 0⟩, ⟨15, 9, 4, 1, 3⟩, ⟨12, 9, 16, 0, 0⟩, ⟨16, 10, 0, 0, 0⟩, ⟨17, 0, 0, 0, 0⟩, ⟨1, 10, -1, 0, 0⟩, ⟨16, 10, 0, 0, 0⟩]
theorem fin_push : fin (B_Push 8) = pushL := by kernel_rfl
theorem fin_pop : fin (B_Pop 8) = popL := by kernel_rfl
/- instructions -/
section
variable {C : List Ins} {ws : List Int} {r : Nat → Int} {pc : Int} {told : List Int} {e : Int} {o : Ins}
theorem i_alu (ho : C.getD pc.toNat default = o) (hk : o.k ≤ 9) (hl : decide (pc + 1 = C.length) = false) : vstep C ws ⟨r, pc, told, e, false⟩ = (⟨setR r o.a (alu o r), pc + 1, told, e, false⟩, ws) := by
  unfold vstep
  rw [if_neg (by simp), ho]
  unfold vexec vend
  rw [if_pos hk]
  simp only [hl, Bool.or_self]
theorem i_word (ho : C.getD pc.toNat default = o) (hk : 13 ≤ o.k ∧ o.k ≤ 15) {m : Nat} (hm : wrp (r o.b.toNat + o.c) = m) (hlt : m < ws.length) (hl : decide (pc + 1 = C.length) = false) {r' : Nat → Int} {ws' : List Int}
    (hw : vword o m ws ⟨r, pc + 1, told, e, false⟩ = (⟨r', pc + 1, told, e, false⟩, ws')) : vstep C ws ⟨r, pc, told, e, false⟩ = (⟨r', pc + 1, told, e, false⟩, ws') := by
  unfold vstep
  rw [if_neg (by simp), ho]
  unfold vexec vother vend
  rw [if_neg (by omega), if_neg (by omega), if_neg (by omega), if_neg (by omega), if_neg (by omega)]
  simp only
  rw [hm, if_neg (by omega), Int.toNat_natCast, hw]
  simp only [hl, Bool.or_self]
theorem i_load (ho : C.getD pc.toNat default = o) (hk : o.k = 13) {m : Nat} (hm : wrp (r o.b.toNat + o.c) = m) (hlt : m < ws.length) (hl : decide (pc + 1 = C.length) = false) : vstep C ws ⟨r, pc, told, e, false⟩ = (⟨setR r o.a (ws.getD m 0), pc + 1, told, e, false⟩, ws) :=
  i_word ho (by omega) hm hlt hl (by unfold vword; rw [if_pos hk])
theorem i_store (ho : C.getD pc.toNat default = o) (hk : o.k = 14) {m : Nat} (hm : wrp (r o.b.toNat + o.c) = m) (hlt : m < ws.length) (hl : decide (pc + 1 = C.length) = false) : vstep C ws ⟨r, pc, told, e, false⟩ = (⟨r, pc + 1, told, e, false⟩, ws.set m (r o.a.toNat)) :=
  i_word ho (by omega) hm hlt hl (by unfold vword; rw [if_neg (by omega), if_pos hk])
theorem i_cas (ho : C.getD pc.toNat default = o) (hk : o.k = 15) {m : Nat} (hm : wrp (r o.b.toNat + o.c) = m) (hlt : m < ws.length) (hl : decide (pc + 1 = C.length) = false) : vstep C ws ⟨r, pc, told, e, false⟩ = (⟨setR r o.a (if ws.getD m 0 = r o.d.toNat then 1 else 0), pc + 1, told, e, false⟩, if ws.getD m 0 = r o.d.toNat then ws.set m (r o.a.toNat) else ws) :=
  i_word ho (by omega) hm hlt hl (by unfold vword; rw [if_neg (by omega), if_neg (by omega), if_pos hk]; split <;> rfl)
theorem i_unless (ho : C.getD pc.toNat default = o) (hk : o.k = 12) (hl : decide (pc + 1 = C.length) = false) (hb : decide (o.b = C.length) = false) : vstep C ws ⟨r, pc, told, e, false⟩ = (⟨r, if r o.a.toNat = 0 then o.b else pc + 1, told, e, false⟩, ws) := by
  unfold vstep
  rw [if_neg (by simp), ho]
  unfold vexec vother vend
  rw [if_neg (by omega), if_neg (by omega), if_pos (by omega)]
  by_cases h : r o.a.toNat = 0
  · simp [h, hk, hb]
  · simp [h, hk, hl]
end
theorem alu_set (a b : Int) (r : Nat → Int) : alu ⟨1, a, b, 0, 0⟩ r = b := rfl
theorem alu_rem {r : Nat → Int} {a b c : Int} (h : r c.toNat = 64) (h0 : 0 ≤ r b.toNat) : alu ⟨7, a, b, c, 0⟩ r = r b.toNat % 64 := by
  show quoI (r b.toNat) (r c.toNat) true = _
  unfold quoI
  rw [h, if_neg (by decide), if_pos rfl, Int.tmod_eq_emod_of_nonneg h0]
theorem wrp_k {x : Int} (h : 0 ≤ x ∧ x ≤ 1000000) : wrp x = x := by
  unfold wrp; simp [IntKind.wrap, IntKind.signed, IntKind.bits]; omega
theorem alu_div {r : Nat → Int} {a b c : Int} (h : r c.toNat = 64) (h0 : 0 ≤ r b.toNat ∧ r b.toNat ≤ 1000000) : alu ⟨6, a, b, c, 0⟩ r = r b.toNat / 64 := by
  show quoI (r b.toNat) (r c.toNat) false = _
  unfold quoI
  rw [h, if_neg (by decide), if_neg (by decide), Int.tdiv_eq_ediv_of_nonneg h0.1, wrp_k (by omega)]
theorem alu_add {r : Nat → Int} {a b c : Int} (h : 0 ≤ r b.toNat + r c.toNat ∧ r b.toNat + r c.toNat ≤ 1000000) : alu ⟨3, a, b, c, 0⟩ r = r b.toNat + r c.toNat := wrp_k h
theorem alu_mul {r : Nat → Int} {a b c : Int} {x : Int} (h : r b.toNat * r c.toNat = x) (hx : 0 ≤ x ∧ x ≤ 1000000) : alu ⟨5, a, b, c, 0⟩ r = x := by
  show wrp (r b.toNat * r c.toNat) = x
  rw [h, wrp_k hx]
/- lists in the words -/
def hdI : List Nat → Int
  | [] => 0
  | a :: _ => a
def Chain (ws : List Int) : List Nat → Prop
  | [] => True
  | a :: l => ws.getD (2 * a + 1) 0 = hdI l ∧ Chain ws l
theorem Chain.keep {ws ws' : List Int} : ∀ {l : List Nat}, Chain ws l → (∀ a, a ∈ l → ws'.getD (2 * a + 1) 0 = ws.getD (2 * a + 1) 0) → Chain ws' l
  | [], _, _ => trivial
  | a :: l, h, hk => ⟨by rw [hk a (List.mem_cons_self ..)]; exact h.1, h.2.keep fun b hb => hk b (List.mem_cons_of_mem _ hb)⟩
theorem hdI_le {l : List Nat} (h : ∀ a, a ∈ l → 1 ≤ a ∧ a ≤ 8) : 0 ≤ hdI l ∧ hdI l ≤ 8 := by
  cases l with
  | nil => exact ⟨Int.le_refl _, by decide⟩
  | cons a l => have := h a (List.mem_cons_self ..); show 0 ≤ (a : Int) ∧ (a : Int) ≤ 8; omega
def nz (n : Nat) : Nat := if n = 0 then 0 else 1
def lenJ (j : Nat) : Int := if j = 2 then 2 else 3
structure SGh where
  S : List Nat
  F : List Nat
  H : Nat → Nat
  d : Nat → Int
structure SC (ws : List Int) (g : SGh) : Prop where
  len : ws.length = 18
  t0 : 0 ≤ ws.getD 0 0 ∧ ws.getD 0 0 % 64 = hdI g.S
  t1 : 0 ≤ ws.getD 1 0 ∧ ws.getD 1 0 % 64 = hdI g.F
  tb : ws.getD 0 0 / 64 + ws.getD 1 0 / 64 ≤ g.d 0 + g.d 1 + g.d 2
  cS : Chain ws g.S
  cF : Chain ws g.F
  nd : (g.S ++ g.F).Nodup
  rg : ∀ a, a ∈ g.S ++ g.F → 1 ≤ a ∧ a ≤ 8
  hr : ∀ j, j < 3 → g.H j ≠ 0 → 1 ≤ g.H j ∧ g.H j ≤ 8 ∧ g.H j ∉ g.S ++ g.F
  hh : ∀ i j, i < 3 → j < 3 → i ≠ j → g.H i ≠ 0 → g.H i ≠ g.H j
  ct : g.S.length + g.F.length + nz (g.H 0) + nz (g.H 1) + nz (g.H 2) = 8
  ou : (g.S.length : Int) + nz (g.H 0) + nz (g.H 1) + nz (g.H 2) ≤ (g.d 0 + 1) / 2 + (g.d 1 + 1) / 2 + (g.d 2 + 1) / 2
  dl : ∀ j, j < 3 → 0 ≤ g.d j ∧ g.d j ≤ 2 * lenJ j
theorem SC.tb2 {ws : List Int} {g : SGh} (h : SC ws g) : ws.getD 0 0 / 64 + ws.getD 1 0 / 64 ≤ 16 := by
  have h0 := h.dl 0 (by omega); have h1 := h.dl 1 (by omega); have h2 := h.dl 2 (by omega); have := h.tb
  unfold lenJ at h0 h1 h2; simp at h0 h1 h2; omega
theorem SC.w {ws : List Int} {g : SGh} (h : SC ws g) {w : Nat} (hw : w < 2) : 0 ≤ ws.getD w 0 ∧ ws.getD w 0 ≤ 1100 ∧ ws.getD w 0 % 64 ≤ 8 := by
  have := h.tb2; have h0 := h.t0; have h1 := h.t1
  have a := hdI_le (l := g.S) (fun a ha => h.rg a (List.mem_append_left _ ha)); have b := hdI_le (l := g.F) (fun a ha => h.rg a (List.mem_append_right _ ha))
  rcases (show w = 0 ∨ w = 1 by omega) with rfl | rfl <;> omega
def lOf (g : SGh) (w : Nat) : List Nat := if w = 0 then g.S else g.F
theorem SC.hd {ws : List Int} {g : SGh} (h : SC ws g) {w : Nat} (hw : w < 2) {node : Int} (hn : ws.getD w 0 % 64 = node) (h1 : 1 ≤ node) : ∃ a l, lOf g w = a :: l ∧ node = a ∧ ws.getD (2 * a + 1) 0 = hdI l ∧ a ∈ g.S ++ g.F ∧ a ≤ 8 := by
  have key : ∀ l : List Nat, ws.getD w 0 % 64 = hdI l → Chain ws l → (∀ a, a ∈ l → a ∈ g.S ++ g.F) → ∃ a r, l = a :: r ∧ node = a ∧ ws.getD (2 * a + 1) 0 = hdI r ∧ a ∈ g.S ++ g.F ∧ a ≤ 8 := by
    intro l e hc hm
    cases l with
    | nil => rw [hn] at e; have : node = 0 := e; omega
    | cons a r => exact ⟨a, r, rfl, by rw [← hn, e]; rfl, hc.1, hm a (List.mem_cons_self ..), (h.rg a (hm a (List.mem_cons_self ..))).2⟩
  rcases (show w = 0 ∨ w = 1 by omega) with rfl | rfl
  · exact key g.S h.t0.2 h.cS fun a ha => List.mem_append_left _ ha
  · exact key g.F h.t1.2 h.cF fun a ha => List.mem_append_right _ ha
def putF1 {α : Type} (f : Nat → α) (j : Nat) (x : α) : Nat → α := fun i => if i = j then x else f i
theorem putF1_same {α : Type} (f : Nat → α) (j : Nat) (x : α) : putF1 f j x j = x := if_pos rfl
theorem putF1_else {α : Type} {f : Nat → α} {j i : Nat} {x : α} (h : i ≠ j) : putF1 f j x i = f i := if_neg h
theorem gset {ws : List Int} {m n : Nat} {v : Int} (h : m < ws.length) : (ws.set m v).getD n 0 = if m = n then v else ws.getD n 0 := by
  rw [List.getD_eq_getElem?_getD, List.getElem?_set]
  by_cases e : m = n
  · subst e; simp [h]
  · simp [e]
/-- What a step of thread j may do. -/
structure Mv (j : Nat) (ws : List Int) (g : SGh) (ws' : List Int) (g' : SGh) : Prop where
  up : ∀ w, w < 2 → ws.getD w 0 / 64 ≤ ws'.getD w 0 / 64 ∧ (ws'.getD w 0 / 64 = ws.getD w 0 / 64 → ws'.getD w 0 = ws.getD w 0)
  ce : ∀ a b, 1 ≤ a → b < 2 → a ≠ g.H j → ws'.getD (2 * a + b) 0 = ws.getD (2 * a + b) 0
  ot : ∀ i, i ≠ j → g'.H i = g.H i ∧ g'.d i = g.d i
theorem Mv.refl (j : Nat) (ws : List Int) (g : SGh) : Mv j ws g ws g := ⟨fun _ _ => ⟨Int.le_refl _, fun _ => rfl⟩, fun _ _ _ _ _ => rfl, fun _ _ => ⟨rfl, rfl⟩⟩
/- a node's cell is written by its holder -/
theorem SC.cell {ws : List Int} {g : SGh} (h : SC ws g) {j : Nat} (hj : j < 3) {node b : Nat} (hb : b < 2) (hH : g.H j = node) (hn : 1 ≤ node) (v : Int) : SC (ws.set (2 * node + b) v) g ∧ Mv j ws g (ws.set (2 * node + b) v) g ∧ (∀ a, a ∈ g.S → (ws.set (2 * node + b) v).getD (2 * a) 0 = ws.getD (2 * a) 0) := by
  obtain ⟨h1, h8, hno⟩ := h.hr j hj (by omega)
  rw [hH] at h8 hno
  have hlt : 2 * node + b < ws.length := by rw [h.len]; omega
  have w0 : ∀ w, w < 2 → (ws.set (2 * node + b) v).getD w 0 = ws.getD w 0 := fun w hw => by rw [gset hlt, if_neg (by omega)]
  have ce : ∀ a c, c < 2 → a ≠ node → (ws.set (2 * node + b) v).getD (2 * a + c) 0 = ws.getD (2 * a + c) 0 := fun a c hc hne => by rw [gset hlt, if_neg (by omega)]
  have inS : ∀ a, a ∈ g.S → a ≠ node := fun a ha e => hno (by rw [← e]; exact List.mem_append_left _ ha)
  have inF : ∀ a, a ∈ g.F → a ≠ node := fun a ha e => hno (by rw [← e]; exact List.mem_append_right _ ha)
  refine ⟨⟨by rw [List.length_set]; exact h.len, by rw [w0 0 (by omega)]; exact h.t0, by rw [w0 1 (by omega)]; exact h.t1, by rw [w0 0 (by omega), w0 1 (by omega)]; exact h.tb, h.cS.keep fun a ha => ce a 1 (by omega) (inS a ha), h.cF.keep fun a ha => ce a 1 (by omega) (inF a ha), h.nd, h.rg, h.hr, h.hh, h.ct, h.ou, h.dl⟩, ⟨fun w hw => by rw [w0 w hw]; exact ⟨Int.le_refl _, fun _ => rfl⟩, fun a c h1 hc hne => ce a c hc (by rw [← hH]; exact hne), fun _ _ => ⟨rfl, rfl⟩⟩, fun a ha => ce a 0 (by omega) (inS a ha)⟩
theorem nz_0 : nz 0 = 0 := rfl
theorem nz_pos {n : Nat} (h : 1 ≤ n) : nz n = 1 := if_neg (by omega)
theorem sum3 (H : Nat → Nat) (j : Nat) (hj : j < 3) (x : Nat) : nz (putF1 H j x 0) + nz (putF1 H j x 1) + nz (putF1 H j x 2) + nz (H j) = nz (H 0) + nz (H 1) + nz (H 2) + nz x := by
  rcases (show j = 0 ∨ j = 1 ∨ j = 2 by omega) with rfl | rfl | rfl <;> simp [putF1] <;> omega
theorem sumd (d : Nat → Int) (j : Nat) (hj : j < 3) : putF1 d j (d j + 1) 0 + putF1 d j (d j + 1) 1 + putF1 d j (d j + 1) 2 = d 0 + d 1 + d 2 + 1 := by
  rcases (show j = 0 ∨ j = 1 ∨ j = 2 by omega) with rfl | rfl | rfl <;> simp [putF1] <;> omega
theorem sumk (d : Nat → Int) (j : Nat) (hj : j < 3) : (putF1 d j (d j + 1) 0 + 1) / 2 + (putF1 d j (d j + 1) 1 + 1) / 2 + (putF1 d j (d j + 1) 2 + 1) / 2 = (d 0 + 1) / 2 + (d 1 + 1) / 2 + (d 2 + 1) / 2 + (if d j % 2 = 0 then 1 else 0) := by
  rcases (show j = 0 ∨ j = 1 ∨ j = 2 by omega) with rfl | rfl | rfl <;> simp [putF1] <;> split <;> omega
/- printed -/
theorem SC.takeS {ws : List Int} {g : SGh} (h : SC ws g) {j : Nat} (hj : j < 3) (hH : g.H j = 0) (hd : g.d j % 2 = 0) (hdl : g.d j + 1 ≤ 2 * lenJ j) {node : Nat} {rest : List Nat} (hL : g.S = node :: rest) {v : Int} (hv : v = (ws.getD 0 0 / 64 + 1) * 64 + hdI rest) :
    SC (ws.set 0 v) ⟨rest, g.F, putF1 g.H j node, putF1 g.d j (g.d j + 1)⟩ ∧ Mv j ws g (ws.set 0 v) ⟨rest, g.F, putF1 g.H j node, putF1 g.d j (g.d j + 1)⟩ := by
  have hlt : 0 < ws.length := by rw [h.len]; omega
  have wn : (ws.set 0 v).getD 0 0 = v := by rw [gset hlt, if_pos rfl]
  have wo : (ws.set 0 v).getD 1 0 = ws.getD 1 0 := by rw [gset hlt, if_neg (by omega)]
  have ce : ∀ a b, 1 ≤ a → (ws.set 0 v).getD (2 * a + b) 0 = ws.getD (2 * a + b) 0 := fun a b ha => by rw [gset hlt, if_neg (by omega)]
  have hin : node ∈ g.S ++ g.F := by rw [hL]; exact List.mem_append_left _ (List.mem_cons_self ..)
  have hnd := h.nd
  have hrg := h.rg
  have hct := h.ct
  have hou := h.ou
  have hcl := h.cS
  have hhr := h.hr
  have htb := h.tb
  have ht := h.t0
  rw [hL] at hnd hrg hct hou hcl hhr ht hin
  have hn8 := hrg node hin
  have hr8 := hdI_le (l := rest) (fun a ha => hrg a (List.mem_append_left _ (List.mem_cons_of_mem _ ha)))
  have hno : node ∉ rest ++ g.F := (List.nodup_cons.1 hnd).1
  have hle : ∀ a, a ∈ rest ++ g.F → a ∈ node :: rest ++ g.F := fun a ha => List.mem_cons_of_mem _ ha
  have s3 := sum3 g.H j hj node
  have sd := sumd g.d j hj
  have sk := sumk g.d j hj
  rw [hH, nz_0, nz_pos hn8.1] at s3
  rw [if_pos hd] at sk
  have hl1 : (node :: rest).length = rest.length + 1 := rfl
  refine ⟨⟨by rw [List.length_set]; exact h.len, ?_, ?_, ?_, ?_, ?_, ?_, fun a ha => hrg a (hle a ha), fun i hi hi0 => ?_, fun i k hi hk hne hi0 => ?_, ?_, ?_, fun i hi => ?_⟩, ⟨fun x hx => ?_, fun a b ha _ _ => ce a b ha, fun i hi => ⟨putF1_else hi, putF1_else hi⟩⟩⟩
  · simp only; rw [wn, hv]; omega
  · rw [wo]; exact h.t1
  · simp only; rw [wn, wo, hv, sd]; omega
  · simp only; exact hcl.2.keep fun a ha => ce a 1 (hrg a (hle a (List.mem_append_left _ ha))).1
  · simp only; exact h.cF.keep fun a ha => ce a 1 (hrg a (hle a (List.mem_append_right _ ha))).1
  · simp only; exact (List.nodup_cons.1 hnd).2
  · simp only at hi0 ⊢
    by_cases e : i = j
    · subst e; rw [putF1_same]; exact ⟨hn8.1, hn8.2, hno⟩
    · rw [putF1_else e] at hi0 ⊢
      obtain ⟨a1, a2, a3⟩ := hhr i hi hi0
      exact ⟨a1, a2, fun hm => a3 (hle _ hm)⟩
  · simp only at hi0 ⊢
    by_cases e : i = j
    · subst e
      rw [putF1_same, putF1_else (Ne.symm hne)]
      intro e2
      by_cases hk0 : g.H k = 0
      · omega
      · exact (hhr k hk hk0).2.2 (by rw [← e2]; exact hin)
    · rw [putF1_else e] at hi0 ⊢
      by_cases e2 : k = j
      · subst e2; rw [putF1_same]; intro e3; exact (hhr i hi hi0).2.2 (by rw [e3]; exact hin)
      · rw [putF1_else e2]; exact h.hh i k hi hk hne hi0
  · simp only; omega
  · simp only; omega
  · simp only
    have := h.dl i hi
    by_cases e : i = j
    · subst e; rw [putF1_same]; omega
    · rw [putF1_else e]; exact this
  · rcases (show x = 0 ∨ x = 1 by omega) with rfl | rfl
    · rw [wn]; omega
    · rw [wo]; exact ⟨Int.le_refl _, fun _ => rfl⟩
theorem SC.giveS {ws : List Int} {g : SGh} (h : SC ws g) {j : Nat} (hj : j < 3) {node : Nat} (hH : g.H j = node) (hn : 1 ≤ node) (hd : g.d j % 2 = 1) (hdl : g.d j + 1 ≤ 2 * lenJ j) (hnx : ws.getD (2 * node + 1) 0 = hdI g.S) {v : Int} (hv : v = (ws.getD 0 0 / 64 + 1) * 64 + node) :
    SC (ws.set 0 v) ⟨node :: g.S, g.F, putF1 g.H j 0, putF1 g.d j (g.d j + 1)⟩ ∧ Mv j ws g (ws.set 0 v) ⟨node :: g.S, g.F, putF1 g.H j 0, putF1 g.d j (g.d j + 1)⟩ := by
  have hlt : 0 < ws.length := by rw [h.len]; omega
  have wn : (ws.set 0 v).getD 0 0 = v := by rw [gset hlt, if_pos rfl]
  have wo : (ws.set 0 v).getD 1 0 = ws.getD 1 0 := by rw [gset hlt, if_neg (by omega)]
  have ce : ∀ a b, 1 ≤ a → (ws.set 0 v).getD (2 * a + b) 0 = ws.getD (2 * a + b) 0 := fun a b ha => by rw [gset hlt, if_neg (by omega)]
  obtain ⟨_, hn8, hno⟩ := h.hr j hj (by omega)
  rw [hH] at hn8 hno
  have hct := h.ct
  have hou := h.ou
  have htb := h.tb
  have ht := h.t0
  have s3 := sum3 g.H j hj 0
  have sd := sumd g.d j hj
  have sk := sumk g.d j hj
  rw [hH, nz_0, nz_pos hn] at s3
  rw [if_neg (by omega)] at sk
  have hl1 : (node :: g.S).length = g.S.length + 1 := rfl
  have hle : ∀ a, a ∈ node :: g.S ++ g.F → a = node ∨ a ∈ g.S ++ g.F := fun a ha => List.mem_cons.1 ha
  refine ⟨⟨by rw [List.length_set]; exact h.len, ?_, ?_, ?_, ?_, ?_, ?_, fun a ha => ?_, fun i hi hi0 => ?_, fun i k hi hk hne hi0 => ?_, ?_, ?_, fun i hi => ?_⟩, ⟨fun x hx => ?_, fun a b ha _ _ => ce a b ha, fun i hi => ⟨putF1_else hi, putF1_else hi⟩⟩⟩
  · simp only; rw [wn, hv]; show _ ∧ _ = (node : Int); omega
  · rw [wo]; exact h.t1
  · simp only; rw [wn, wo, hv, sd]; omega
  · simp only; exact ⟨by rw [ce node 1 hn]; exact hnx, h.cS.keep fun a ha => ce a 1 (h.rg a (List.mem_append_left _ ha)).1⟩
  · simp only; exact h.cF.keep fun a ha => ce a 1 (h.rg a (List.mem_append_right _ ha)).1
  · simp only; exact List.nodup_cons.2 ⟨hno, h.nd⟩
  · rcases hle a ha with rfl | ha
    · exact ⟨hn, hn8⟩
    · exact h.rg a ha
  · simp only at hi0 ⊢
    by_cases e : i = j
    · subst e; rw [putF1_same] at hi0; exact absurd rfl hi0
    · rw [putF1_else e] at hi0 ⊢
      obtain ⟨a1, a2, a3⟩ := h.hr i hi hi0
      refine ⟨a1, a2, fun hm => ?_⟩
      rcases hle _ hm with e2 | hm
      · exact h.hh i j hi hj e hi0 (e2.trans hH.symm)
      · exact a3 hm
  · simp only at hi0 ⊢
    by_cases e : i = j
    · subst e; rw [putF1_same] at hi0; exact absurd rfl hi0
    · rw [putF1_else e] at hi0 ⊢
      by_cases e2 : k = j
      · subst e2; rw [putF1_same]; exact hi0
      · rw [putF1_else e2]; exact h.hh i k hi hk hne hi0
  · simp only; omega
  · simp only; omega
  · simp only
    have := h.dl i hi
    by_cases e : i = j
    · subst e; rw [putF1_same]; omega
    · rw [putF1_else e]; exact this
  · rcases (show x = 0 ∨ x = 1 by omega) with rfl | rfl
    · rw [wn]; omega
    · rw [wo]; exact ⟨Int.le_refl _, fun _ => rfl⟩
theorem SC.takeF {ws : List Int} {g : SGh} (h : SC ws g) {j : Nat} (hj : j < 3) (hH : g.H j = 0) (hd : g.d j % 2 = 0) (hdl : g.d j + 1 ≤ 2 * lenJ j) {node : Nat} {rest : List Nat} (hL : g.F = node :: rest) {v : Int} (hv : v = (ws.getD 1 0 / 64 + 1) * 64 + hdI rest) :
    SC (ws.set 1 v) ⟨g.S, rest, putF1 g.H j node, putF1 g.d j (g.d j + 1)⟩ ∧ Mv j ws g (ws.set 1 v) ⟨g.S, rest, putF1 g.H j node, putF1 g.d j (g.d j + 1)⟩ := by
  have hlt : 1 < ws.length := by rw [h.len]; omega
  have wn : (ws.set 1 v).getD 1 0 = v := by rw [gset hlt, if_pos rfl]
  have wo : (ws.set 1 v).getD 0 0 = ws.getD 0 0 := by rw [gset hlt, if_neg (by omega)]
  have ce : ∀ a b, 1 ≤ a → (ws.set 1 v).getD (2 * a + b) 0 = ws.getD (2 * a + b) 0 := fun a b ha => by rw [gset hlt, if_neg (by omega)]
  have hin : node ∈ g.S ++ g.F := by rw [hL]; exact List.mem_append_right _ (List.mem_cons_self ..)
  have hnd := h.nd
  have hrg := h.rg
  have hct := h.ct
  have hou := h.ou
  have hcl := h.cF
  have hhr := h.hr
  have htb := h.tb
  have ht := h.t1
  rw [hL] at hnd hrg hct hcl hhr ht hin
  have hn8 := hrg node hin
  have hr8 := hdI_le (l := rest) (fun a ha => hrg a (List.mem_append_right _ (List.mem_cons_of_mem _ ha)))
  have hno : node ∉ g.S ++ rest := (fun hm => by rcases List.mem_append.1 hm with hm | hm; (exact (List.nodup_append.1 hnd).2.2 node hm node (List.mem_cons_self ..) rfl); (exact (List.nodup_cons.1 (List.nodup_append.1 hnd).2.1).1 hm))
  have hle : ∀ a, a ∈ g.S ++ rest → a ∈ g.S ++ node :: rest := fun a ha => by rcases List.mem_append.1 ha with ha | ha; (exact List.mem_append_left _ ha); (exact List.mem_append_right _ (List.mem_cons_of_mem _ ha))
  have s3 := sum3 g.H j hj node
  have sd := sumd g.d j hj
  have sk := sumk g.d j hj
  rw [hH, nz_0, nz_pos hn8.1] at s3
  rw [if_pos hd] at sk
  have hl1 : (node :: rest).length = rest.length + 1 := rfl
  refine ⟨⟨by rw [List.length_set]; exact h.len, ?_, ?_, ?_, ?_, ?_, ?_, fun a ha => hrg a (hle a ha), fun i hi hi0 => ?_, fun i k hi hk hne hi0 => ?_, ?_, ?_, fun i hi => ?_⟩, ⟨fun x hx => ?_, fun a b ha _ _ => ce a b ha, fun i hi => ⟨putF1_else hi, putF1_else hi⟩⟩⟩
  · rw [wo]; exact h.t0
  · simp only; rw [wn, hv]; omega
  · simp only; rw [wo, wn, hv, sd]; omega
  · simp only; exact h.cS.keep fun a ha => ce a 1 (hrg a (hle a (List.mem_append_left _ ha))).1
  · simp only; exact hcl.2.keep fun a ha => ce a 1 (hrg a (hle a (List.mem_append_right _ ha))).1
  · simp only; exact List.nodup_append.2 ⟨(List.nodup_append.1 hnd).1, (List.nodup_cons.1 (List.nodup_append.1 hnd).2.1).2, fun a ha b hb => (List.nodup_append.1 hnd).2.2 a ha b (List.mem_cons_of_mem _ hb)⟩
  · simp only at hi0 ⊢
    by_cases e : i = j
    · subst e; rw [putF1_same]; exact ⟨hn8.1, hn8.2, hno⟩
    · rw [putF1_else e] at hi0 ⊢
      obtain ⟨a1, a2, a3⟩ := hhr i hi hi0
      exact ⟨a1, a2, fun hm => a3 (hle _ hm)⟩
  · simp only at hi0 ⊢
    by_cases e : i = j
    · subst e
      rw [putF1_same, putF1_else (Ne.symm hne)]
      intro e2
      by_cases hk0 : g.H k = 0
      · omega
      · exact (hhr k hk hk0).2.2 (by rw [← e2]; exact hin)
    · rw [putF1_else e] at hi0 ⊢
      by_cases e2 : k = j
      · subst e2; rw [putF1_same]; intro e3; exact (hhr i hi hi0).2.2 (by rw [e3]; exact hin)
      · rw [putF1_else e2]; exact h.hh i k hi hk hne hi0
  · simp only; omega
  · simp only; omega
  · simp only
    have := h.dl i hi
    by_cases e : i = j
    · subst e; rw [putF1_same]; omega
    · rw [putF1_else e]; exact this
  · rcases (show x = 1 ∨ x = 0 by omega) with rfl | rfl
    · rw [wn]; omega
    · rw [wo]; exact ⟨Int.le_refl _, fun _ => rfl⟩
theorem SC.giveF {ws : List Int} {g : SGh} (h : SC ws g) {j : Nat} (hj : j < 3) {node : Nat} (hH : g.H j = node) (hn : 1 ≤ node) (hd : g.d j % 2 = 1) (hdl : g.d j + 1 ≤ 2 * lenJ j) (hnx : ws.getD (2 * node + 1) 0 = hdI g.F) {v : Int} (hv : v = (ws.getD 1 0 / 64 + 1) * 64 + node) :
    SC (ws.set 1 v) ⟨g.S, node :: g.F, putF1 g.H j 0, putF1 g.d j (g.d j + 1)⟩ ∧ Mv j ws g (ws.set 1 v) ⟨g.S, node :: g.F, putF1 g.H j 0, putF1 g.d j (g.d j + 1)⟩ := by
  have hlt : 1 < ws.length := by rw [h.len]; omega
  have wn : (ws.set 1 v).getD 1 0 = v := by rw [gset hlt, if_pos rfl]
  have wo : (ws.set 1 v).getD 0 0 = ws.getD 0 0 := by rw [gset hlt, if_neg (by omega)]
  have ce : ∀ a b, 1 ≤ a → (ws.set 1 v).getD (2 * a + b) 0 = ws.getD (2 * a + b) 0 := fun a b ha => by rw [gset hlt, if_neg (by omega)]
  obtain ⟨_, hn8, hno⟩ := h.hr j hj (by omega)
  rw [hH] at hn8 hno
  have hct := h.ct
  have hou := h.ou
  have htb := h.tb
  have ht := h.t1
  have s3 := sum3 g.H j hj 0
  have sd := sumd g.d j hj
  have sk := sumk g.d j hj
  rw [hH, nz_0, nz_pos hn] at s3
  rw [if_neg (by omega)] at sk
  have hl1 : (node :: g.F).length = g.F.length + 1 := rfl
  have hle : ∀ a, a ∈ g.S ++ node :: g.F → a = node ∨ a ∈ g.S ++ g.F := fun a ha => by rcases List.mem_append.1 ha with ha | ha; (exact .inr (List.mem_append_left _ ha)); (rcases List.mem_cons.1 ha with ha | ha; (exact .inl ha); (exact .inr (List.mem_append_right _ ha)))
  refine ⟨⟨by rw [List.length_set]; exact h.len, ?_, ?_, ?_, ?_, ?_, ?_, fun a ha => ?_, fun i hi hi0 => ?_, fun i k hi hk hne hi0 => ?_, ?_, ?_, fun i hi => ?_⟩, ⟨fun x hx => ?_, fun a b ha _ _ => ce a b ha, fun i hi => ⟨putF1_else hi, putF1_else hi⟩⟩⟩
  · rw [wo]; exact h.t0
  · simp only; rw [wn, hv]; show _ ∧ _ = (node : Int); omega
  · simp only; rw [wo, wn, hv, sd]; omega
  · simp only; exact h.cS.keep fun a ha => ce a 1 (h.rg a (List.mem_append_left _ ha)).1
  · simp only; exact ⟨by rw [ce node 1 hn]; exact hnx, h.cF.keep fun a ha => ce a 1 (h.rg a (List.mem_append_right _ ha)).1⟩
  · simp only; exact List.nodup_append.2 ⟨(List.nodup_append.1 h.nd).1, List.nodup_cons.2 ⟨fun hm => hno (List.mem_append_right _ hm), (List.nodup_append.1 h.nd).2.1⟩, fun a ha b hb => by rcases List.mem_cons.1 hb with rfl | hb; (exact fun e => hno (by rw [← e]; exact List.mem_append_left _ ha)); (exact (List.nodup_append.1 h.nd).2.2 a ha b hb)⟩
  · rcases hle a ha with rfl | ha
    · exact ⟨hn, hn8⟩
    · exact h.rg a ha
  · simp only at hi0 ⊢
    by_cases e : i = j
    · subst e; rw [putF1_same] at hi0; exact absurd rfl hi0
    · rw [putF1_else e] at hi0 ⊢
      obtain ⟨a1, a2, a3⟩ := h.hr i hi hi0
      refine ⟨a1, a2, fun hm => ?_⟩
      rcases hle _ hm with e2 | hm
      · exact h.hh i j hi hj e hi0 (e2.trans hH.symm)
      · exact a3 hm
  · simp only at hi0 ⊢
    by_cases e : i = j
    · subst e; rw [putF1_same] at hi0; exact absurd rfl hi0
    · rw [putF1_else e] at hi0 ⊢
      by_cases e2 : k = j
      · subst e2; rw [putF1_same]; exact hi0
      · rw [putF1_else e2]; exact h.hh i k hi hk hne hi0
  · simp only; omega
  · simp only; omega
  · simp only
    have := h.dl i hi
    by_cases e : i = j
    · subst e; rw [putF1_same]; omega
    · rw [putF1_else e]; exact this
  · rcases (show x = 1 ∨ x = 0 by omega) with rfl | rfl
    · rw [wn]; omega
    · rw [wo]; exact ⟨Int.le_refl _, fun _ => rfl⟩
end Go.Proofs.YtnnjobmiepnedaaDoor.Nice

/- The codes of the stack, step by step. -/
namespace Go.Proofs.YtnnjobmiepnedaaDoor.Nice
open Go
set_option linter.unusedVariables false
set_option linter.unusedSimpArgs false
set_option maxRecDepth 100000
set_option maxHeartbeats 4000000
section
variable {C : List Ins} {ws : List Int} {r : Nat → Int} {pc : Int} {told : List Int} {e : Int}
theorem j_alu (o : Ins) (a x pc' : Int) (ho : C.getD pc.toNat default = o) (hk : decide (o.k ≤ 9) = true) (ha : o.a = a) (hx : alu o r = x) (hp : pc + 1 = pc') (hl : decide (pc' = C.length) = false) : vstep C ws ⟨r, pc, told, e, false⟩ = (⟨setR r a x, pc', told, e, false⟩, ws) := by
  subst ha; subst hx; subst hp; exact i_alu ho (of_decide_eq_true hk) hl
theorem j_load (o : Ins) (a pc' : Int) (m : Nat) (ho : C.getD pc.toNat default = o) (hk : o.k = 13) (ha : o.a = a) (hm : wrp (r o.b.toNat + o.c) = m) (hlt : m < ws.length) (hp : pc + 1 = pc') (hl : decide (pc' = C.length) = false) : vstep C ws ⟨r, pc, told, e, false⟩ = (⟨setR r a (ws.getD m 0), pc', told, e, false⟩, ws) := by
  subst ha; subst hp; exact i_load ho hk hm hlt hl
theorem j_store (o : Ins) (v pc' : Int) (m : Nat) (ho : C.getD pc.toNat default = o) (hk : o.k = 14) (hv : r o.a.toNat = v) (hm : wrp (r o.b.toNat + o.c) = m) (hlt : m < ws.length) (hp : pc + 1 = pc') (hl : decide (pc' = C.length) = false) : vstep C ws ⟨r, pc, told, e, false⟩ = (⟨r, pc', told, e, false⟩, ws.set m v) := by
  subst hv; subst hp; exact i_store ho hk hm hlt hl
theorem j_cas1 (o : Ins) (a v pc' : Int) (m : Nat) (ho : C.getD pc.toNat default = o) (hk : o.k = 15) (ha : o.a = a) (hv : r o.a.toNat = v) (hc : ws.getD m 0 = r o.d.toNat) (hm : wrp (r o.b.toNat + o.c) = m) (hlt : m < ws.length) (hp : pc + 1 = pc') (hl : decide (pc' = C.length) = false) : vstep C ws ⟨r, pc, told, e, false⟩ = (⟨setR r a 1, pc', told, e, false⟩, ws.set m v) := by
  subst ha; subst hv; subst hp
  have h := i_cas (C := C) (told := told) (e := e) ho hk hm hlt hl
  rw [if_pos hc, if_pos hc] at h; exact h
theorem j_cas0 (o : Ins) (a pc' : Int) (m : Nat) (ho : C.getD pc.toNat default = o) (hk : o.k = 15) (ha : o.a = a) (hc : ¬ ws.getD m 0 = r o.d.toNat) (hm : wrp (r o.b.toNat + o.c) = m) (hlt : m < ws.length) (hp : pc + 1 = pc') (hl : decide (pc' = C.length) = false) : vstep C ws ⟨r, pc, told, e, false⟩ = (⟨setR r a 0, pc', told, e, false⟩, ws) := by
  subst ha; subst hp
  have h := i_cas (C := C) (told := told) (e := e) ho hk hm hlt hl
  rw [if_neg hc, if_neg hc] at h; exact h
theorem j_un0 (o : Ins) (pc' : Int) (ho : C.getD pc.toNat default = o) (hk : o.k = 12) (h0 : r o.a.toNat = 0) (hb : o.b = pc') (hl : decide (pc + 1 = C.length) = false) (hl2 : decide (pc' = C.length) = false) : vstep C ws ⟨r, pc, told, e, false⟩ = (⟨r, pc', told, e, false⟩, ws) := by
  subst hb
  have h := i_unless (C := C) (ws := ws) (r := r) (told := told) (e := e) ho hk hl hl2
  rw [if_pos h0] at h; exact h
theorem j_un1 (o : Ins) (pc' : Int) (ho : C.getD pc.toNat default = o) (hk : o.k = 12) (h0 : ¬ r o.a.toNat = 0) (hp : pc + 1 = pc') (hl : decide (pc' = C.length) = false) (hl2 : decide (o.b = C.length) = false) : vstep C ws ⟨r, pc, told, e, false⟩ = (⟨r, pc', told, e, false⟩, ws) := by
  subst hp
  have h := i_unless (C := C) (ws := ws) (r := r) (told := told) (e := e) ho hk hl hl2
  rw [if_neg h0] at h; exact h
theorem j_tell (o : Ins) (v pc' : Int) (b : Bool) (ho : C.getD pc.toNat default = o) (hk : o.k = 16) (hv : r o.a.toNat = v) (hp : pc + 1 = pc') (hl : decide (pc' = C.length) = b) : vstep C ws ⟨r, pc, [], e, false⟩ = (⟨r, pc', [v], e, b⟩, ws) := by
  subst hv; subst hp
  unfold vstep
  rw [if_neg (by simp), ho]
  unfold vexec vother vend
  rw [if_neg (by omega), if_neg (by omega), if_neg (by omega), if_pos hk]
  simp [hl]
theorem j_done (o : Ins) (pc' : Int) (ho : C.getD pc.toNat default = o) (hk : o.k = 17) (hp : pc + 1 = pc') : vstep C ws ⟨r, pc, told, e, false⟩ = (⟨r, pc', told, e, true⟩, ws) := by
  subst hp
  unfold vstep
  rw [if_neg (by simp), ho]
  unfold vexec vother vend
  rw [if_neg (by omega), if_neg (by omega), if_neg (by omega), if_neg (by omega), if_pos hk]
  simp
end
abbrev nwP (ws : List Int) (w : Nat) (now : Int) : Prop := 0 ≤ now ∧ now / 64 ≤ ws.getD w 0 / 64 ∧ now ≤ 1100
abbrev ndP (node now : Int) : Prop := node = now % 64 ∧ 1 ≤ node ∧ node ≤ 8
abbrev nxP (ws : List Int) (w b : Nat) (now node x : Int) : Prop := ws.getD w 0 = now → x = ws.getD (2 * node.toNat + b) 0
abbrev tuP (ws : List Int) (w : Nat) (now node turn : Int) : Prop := ws.getD w 0 = now → turn = (now / 64 + 1) * 64 + ws.getD (2 * node.toNat + 1) 0
abbrev idP (g : SGh) (j : Nat) (n : Int) : Prop := g.H j = 0 ∧ g.d j % 2 = 0 ∧ g.d j ≤ 2 * n
abbrev hoP (g : SGh) (j : Nat) (n node at_ : Int) : Prop := g.H j = node.toNat ∧ 1 ≤ node ∧ node ≤ 8 ∧ at_ = 2 * node ∧ g.d j % 2 = 1 ∧ g.d j ≤ 2 * n + 1
def obS (ws : List Int) (S : List Nat) : Lin.Ob := .hp true ((S.map fun a => ws.getD (2 * a) 0).reverse)
theorem obS_keep {ws ws' : List Int} {S : List Nat} (h : ∀ a, a ∈ S → ws'.getD (2 * a) 0 = ws.getD (2 * a) 0) : obS ws' S = obS ws S := by
  unfold obS; rw [List.map_congr_left h]
theorem keep_nw {j : Nat} {ws ws' : List Int} {g g' : SGh} (m : Mv j ws g ws' g') {w : Nat} (hw : w < 2) {now : Int} (h : nwP ws w now) : nwP ws' w now := by
  have := (m.up w hw).1; exact ⟨h.1, by omega, h.2.2⟩
theorem keep_cell {j : Nat} {ws ws' : List Int} {g g' : SGh} (sc : SC ws g) (m : Mv j ws g ws' g') (hj : j < 3) {w : Nat} (hw : w < 2) {now node : Int} (h : nwP ws w now) (hn : ndP node now) (e : ws'.getD w 0 = now) : ws.getD w 0 = now ∧ ∀ b, b < 2 → ws'.getD (2 * node.toNat + b) 0 = ws.getD (2 * node.toNat + b) 0 := by
  have h1 := m.up w hw
  have h2 : ws'.getD w 0 = ws.getD w 0 := h1.2 (by rw [e] at h1 ⊢; have := h.2.1; omega)
  have h3 : ws.getD w 0 = now := h2.symm.trans e
  refine ⟨h3, fun b hb => m.ce _ b (by omega) hb fun e2 => ?_⟩
  obtain ⟨a, l, _, h5, _, h6, _⟩ := sc.hd hw (node := node) (by rw [h3]; exact hn.1.symm) hn.2.1
  have e3 : a = g.H j := by rw [← e2, h5]; simp
  exact (sc.hr j hj (by have := hn.2.1; omega)).2.2 (by rw [← e3]; exact h6)
theorem keep_nx {j : Nat} {ws ws' : List Int} {g g' : SGh} (sc : SC ws g) (m : Mv j ws g ws' g') (hj : j < 3) {w b : Nat} (hw : w < 2) (hb : b < 2) {now node x : Int} (h : nwP ws w now) (hn : ndP node now) (hx : nxP ws w b now node x) : nxP ws' w b now node x := by
  intro e
  obtain ⟨h1, h2⟩ := keep_cell sc m hj hw h hn e
  rw [h2 b hb]; exact hx h1
theorem keep_tu {j : Nat} {ws ws' : List Int} {g g' : SGh} (sc : SC ws g) (m : Mv j ws g ws' g') (hj : j < 3) {w : Nat} (hw : w < 2) {now node x : Int} (h : nwP ws w now) (hn : ndP node now) (hx : tuP ws w now node x) : tuP ws' w now node x := by
  intro e
  obtain ⟨h1, h2⟩ := keep_cell sc m hj hw h hn e
  rw [h2 1 (by omega)]; exact hx h1
theorem keep_held {i j : Nat} {ws ws' : List Int} {g g' : SGh} (sc : SC ws g) (m : Mv j ws g ws' g') (hj : j < 3) (hi : i < 3) (hne : i ≠ j) {n node at_ : Int} (h : hoP g i n node at_) {b : Nat} (hb : b < 2) : ws'.getD (2 * node.toNat + b) 0 = ws.getD (2 * node.toNat + b) 0 := by
  refine m.ce _ b (by have := h.2.1; omega) hb fun e => ?_
  exact sc.hh i j hi hj hne (by have := h.2.1; rw [h.1]; omega) (h.1.trans e)
theorem keep_id {i j : Nat} {ws ws' : List Int} {g g' : SGh} (m : Mv j ws g ws' g') (hne : i ≠ j) {n : Int} (h : idP g i n) : idP g' i n := by
  have := m.ot i hne; unfold idP; rw [this.1, this.2]; exact h
theorem keep_ho {i j : Nat} {ws ws' : List Int} {g g' : SGh} (m : Mv j ws g ws' g') (hne : i ≠ j) {n node at_ : Int} (h : hoP g i n node at_) : hoP g' i n node at_ := by
  have := m.ot i hne; unfold hoP; rw [this.1, this.2]; exact h
theorem nxt_le {ws : List Int} {g : SGh} (sc : SC ws g) {w : Nat} (hw : w < 2) {now node : Int} (h : ws.getD w 0 = now) (hn : ndP node now) : 0 ≤ ws.getD (2 * node.toNat + 1) 0 ∧ ws.getD (2 * node.toNat + 1) 0 ≤ 8 := by
  obtain ⟨a, l, h4, h5, h6, h7, _⟩ := sc.hd hw (node := node) (by rw [h]; exact hn.1.symm) hn.2.1
  have e : node.toNat = a := by omega
  rw [e, h6]
  refine hdI_le fun b hb => sc.rg b ?_
  rcases (show w = 0 ∨ w = 1 by omega) with rfl | rfl
  · have : g.S = a :: l := h4
    exact List.mem_append_left _ (by rw [this]; exact List.mem_cons_of_mem _ hb)
  · have : g.F = a :: l := h4
    exact List.mem_append_right _ (by rw [this]; exact List.mem_cons_of_mem _ hb)
/-- There is always a spare node. -/
theorem cap {ws : List Int} {g : SGh} (sc : SC ws g) {j : Nat} (hj : j < 3) {n : Int} (hn : n < lenJ j) (hd : idP g j n) : 1 ≤ ws.getD 1 0 % 64 := by
  have h0 := sc.dl 0 (by omega); have h1 := sc.dl 1 (by omega); have h2 := sc.dl 2 (by omega)
  have ct := sc.ct; have ou := sc.ou
  unfold lenJ at h0 h1 h2 hn; simp at h0 h1 h2
  have hF : g.F ≠ [] := by
    intro e
    rw [e] at ct
    simp only [List.length_nil] at ct
    have hd2 := hd.2.2
    rcases (show j = 0 ∨ j = 1 ∨ j = 2 by omega) with rfl | rfl | rfl <;> simp at hn <;> omega
  rw [sc.t1.2]
  cases hg : g.F with
  | nil => exact absurd hg hF
  | cons a l => have := sc.rg a (by rw [hg]; exact List.mem_append_right _ (List.mem_cons_self ..)); show (1 : Int) ≤ a; omega
theorem empty_S {ws : List Int} {g : SGh} (sc : SC ws g) (h : ws.getD 0 0 % 64 = 0) : g.S = [] := by
  have e := sc.t0.2
  rw [h] at e
  cases hg : g.S with
  | nil => rfl
  | cons a l =>
    have := sc.rg a (by rw [hg]; exact List.mem_append_left _ (List.mem_cons_self ..))
    rw [hg] at e
    have e : (0 : Int) = a := e
    omega
theorem ob_pop (ws : List Int) (a : Nat) (l : List Nat) : Lin.onext (obS ws (a :: l)) ⟨0, 0, false, 0, 0⟩ = (obS ws l, ws.getD (2 * a) 0) := by
  unfold obS
  rw [List.map_cons, List.reverse_cons, Lin.onext_last rfl (by simp) rfl]
  simp
theorem ob_push (ws : List Int) (a : Nat) (l : List Nat) (y : Int) : Lin.onext (obS ws l) ⟨0, 0, true, ws.getD (2 * a) 0, y⟩ = (obS ws (a :: l), ws.getD (2 * a) 0) := by
  unfold obS
  rw [List.map_cons, List.reverse_cons, Lin.onext_put rfl]
inductive SPu (ws : List Int) (g : SGh) (j : Nat) (n : Int) (arg : Int) (r : Nat → Int) : Int → List Int → Option Lf → Prop
  | s0 (hb : r 5 = 0) (hv : r 0 = arg) (hi : idP g j n)  : SPu ws g j n arg r 0 [] none
  | s1 (hb : r 5 = 0) (hv : r 0 = arg) (hi : idP g j n) (h1 : r 1 = 1)  : SPu ws g j n arg r 1 [] none
  | s2 (hb : r 5 = 0) (hv : r 0 = arg) (hi : idP g j n) (h1 : r 1 = 1) (h2 : r 2 = 2)  : SPu ws g j n arg r 2 [] none
  | s3 (hb : r 5 = 0) (hv : r 0 = arg) (hi : idP g j n) (h1 : r 1 = 1) (h2 : r 2 = 2) (h3 : r 3 = 64)  : SPu ws g j n arg r 3 [] none
  | s4 (hb : r 5 = 0) (hv : r 0 = arg) (hi : idP g j n) (h1 : r 1 = 1) (h2 : r 2 = 2) (h3 : r 3 = 64) (nw : nwP ws 1 (r 4)) (hz : 1 ≤ r 4 % 64 ∧ r 4 % 64 ≤ 8)  : SPu ws g j n arg r 4 [] none
  | s5 (hb : r 5 = 0) (hv : r 0 = arg) (hi : idP g j n) (h1 : r 1 = 1) (h2 : r 2 = 2) (h3 : r 3 = 64) (nw : nwP ws 1 (r 4)) (nd : ndP (r 6) (r 4))  : SPu ws g j n arg r 5 [] none
  | s6 (hb : r 5 = 0) (hv : r 0 = arg) (hi : idP g j n) (h1 : r 1 = 1) (h2 : r 2 = 2) (h3 : r 3 = 64) (nw : nwP ws 1 (r 4)) (nd : ndP (r 6) (r 4))  : SPu ws g j n arg r 6 [] none
  | s7 (hb : r 5 = 0) (hv : r 0 = arg) (hi : idP g j n) (h1 : r 1 = 1) (h2 : r 2 = 2) (h3 : r 3 = 64) (nw : nwP ws 1 (r 4)) (nd : ndP (r 6) (r 4)) (ha : r 7 = 2 * r 6)  : SPu ws g j n arg r 7 [] none
  | s8 (hb : r 5 = 0) (hv : r 0 = arg) (hi : idP g j n) (h1 : r 1 = 1) (h2 : r 2 = 2) (h3 : r 3 = 64) (nw : nwP ws 1 (r 4)) (nd : ndP (r 6) (r 4)) (ha : r 7 = 2 * r 6) (nx : nxP ws 1 1 (r 4) (r 6) (r 8))  : SPu ws g j n arg r 8 [] none
  | s9 (hb : r 5 = 0) (hv : r 0 = arg) (hi : idP g j n) (h1 : r 1 = 1) (h2 : r 2 = 2) (h3 : r 3 = 64) (nw : nwP ws 1 (r 4)) (nd : ndP (r 6) (r 4)) (ha : r 7 = 2 * r 6) (nx : nxP ws 1 1 (r 4) (r 6) (r 8)) (vl : nxP ws 1 0 (r 4) (r 6) (r 9))  : SPu ws g j n arg r 9 [] none
  | s10 (hb : r 5 = 0) (hv : r 0 = arg) (hi : idP g j n) (h1 : r 1 = 1) (h2 : r 2 = 2) (h3 : r 3 = 64) (nw : nwP ws 1 (r 4)) (nd : ndP (r 6) (r 4)) (ha : r 7 = 2 * r 6) (nx : nxP ws 1 1 (r 4) (r 6) (r 8)) (vl : nxP ws 1 0 (r 4) (r 6) (r 9)) (t : r 10 = r 4 / 64)  : SPu ws g j n arg r 10 [] none
  | s11 (hb : r 5 = 0) (hv : r 0 = arg) (hi : idP g j n) (h1 : r 1 = 1) (h2 : r 2 = 2) (h3 : r 3 = 64) (nw : nwP ws 1 (r 4)) (nd : ndP (r 6) (r 4)) (ha : r 7 = 2 * r 6) (nx : nxP ws 1 1 (r 4) (r 6) (r 8)) (vl : nxP ws 1 0 (r 4) (r 6) (r 9)) (t : r 10 = r 4 / 64 + 1)  : SPu ws g j n arg r 11 [] none
  | s12 (hb : r 5 = 0) (hv : r 0 = arg) (hi : idP g j n) (h1 : r 1 = 1) (h2 : r 2 = 2) (h3 : r 3 = 64) (nw : nwP ws 1 (r 4)) (nd : ndP (r 6) (r 4)) (ha : r 7 = 2 * r 6) (nx : nxP ws 1 1 (r 4) (r 6) (r 8)) (vl : nxP ws 1 0 (r 4) (r 6) (r 9)) (t : r 10 = (r 4 / 64 + 1) * 64)  : SPu ws g j n arg r 12 [] none
  | s13 (hb : r 5 = 0) (hv : r 0 = arg) (hi : idP g j n) (h1 : r 1 = 1) (h2 : r 2 = 2) (h3 : r 3 = 64) (nw : nwP ws 1 (r 4)) (nd : ndP (r 6) (r 4)) (ha : r 7 = 2 * r 6) (nx : nxP ws 1 1 (r 4) (r 6) (r 8)) (vl : nxP ws 1 0 (r 4) (r 6) (r 9)) (t : tuP ws 1 (r 4) (r 6) (r 10))  : SPu ws g j n arg r 13 [] none
  | s14n (hb : r 5 = 0) (hv : r 0 = arg) (hi : idP g j n) (h1 : r 1 = 1) (h2 : r 2 = 2) (h3 : r 3 = 64) (t : r 10 = 0)  : SPu ws g j n arg r 14 [] none
  | s14y (hb : r 5 = 0) (hi : hoP g j n (r 6) (r 7)) (h1 : r 1 = 1) (h2 : r 2 = 2) (h3 : r 3 = 64) (hv : r 0 = arg) (t : r 10 = 1)  : SPu ws g j n arg r 14 [] none
  | s15 (hb : r 5 = 0) (hi : hoP g j n (r 6) (r 7)) (h1 : r 1 = 1) (h2 : r 2 = 2) (h3 : r 3 = 64) (hv : r 0 = arg)  : SPu ws g j n arg r 15 [] none
  | s16 (hb : r 5 = 0) (hi : hoP g j n (r 6) (r 7)) (h1 : r 1 = 1) (h2 : r 2 = 2) (h3 : r 3 = 64) (st : ws.getD (2 * (r 6).toNat) 0 = arg)  : SPu ws g j n arg r 16 [] none
  | s17 (hb : r 5 = 0) (hi : hoP g j n (r 6) (r 7)) (h1 : r 1 = 1) (h2 : r 2 = 2) (h3 : r 3 = 64) (st : ws.getD (2 * (r 6).toNat) 0 = arg) (nw : nwP ws 0 (r 4))  : SPu ws g j n arg r 17 [] none
  | s18 (hb : r 5 = 0) (hi : hoP g j n (r 6) (r 7)) (h1 : r 1 = 1) (h2 : r 2 = 2) (h3 : r 3 = 64) (st : ws.getD (2 * (r 6).toNat) 0 = arg) (nw : nwP ws 0 (r 4)) (nx : r 8 = r 4 % 64)  : SPu ws g j n arg r 18 [] none
  | s19 (hb : r 5 = 0) (hi : hoP g j n (r 6) (r 7)) (h1 : r 1 = 1) (h2 : r 2 = 2) (h3 : r 3 = 64) (st : ws.getD (2 * (r 6).toNat) 0 = arg) (nw : nwP ws 0 (r 4)) (st2 : ws.getD (2 * (r 6).toNat + 1) 0 = r 4 % 64)  : SPu ws g j n arg r 19 [] none
  | s20 (hb : r 5 = 0) (hi : hoP g j n (r 6) (r 7)) (h1 : r 1 = 1) (h2 : r 2 = 2) (h3 : r 3 = 64) (st : ws.getD (2 * (r 6).toNat) 0 = arg) (nw : nwP ws 0 (r 4)) (st2 : ws.getD (2 * (r 6).toNat + 1) 0 = r 4 % 64) (t : r 10 = r 4 / 64)  : SPu ws g j n arg r 20 [] none
  | s21 (hb : r 5 = 0) (hi : hoP g j n (r 6) (r 7)) (h1 : r 1 = 1) (h2 : r 2 = 2) (h3 : r 3 = 64) (st : ws.getD (2 * (r 6).toNat) 0 = arg) (nw : nwP ws 0 (r 4)) (st2 : ws.getD (2 * (r 6).toNat + 1) 0 = r 4 % 64) (t : r 10 = r 4 / 64 + 1)  : SPu ws g j n arg r 21 [] none
  | s22 (hb : r 5 = 0) (hi : hoP g j n (r 6) (r 7)) (h1 : r 1 = 1) (h2 : r 2 = 2) (h3 : r 3 = 64) (st : ws.getD (2 * (r 6).toNat) 0 = arg) (nw : nwP ws 0 (r 4)) (st2 : ws.getD (2 * (r 6).toNat + 1) 0 = r 4 % 64) (t : r 10 = (r 4 / 64 + 1) * 64)  : SPu ws g j n arg r 22 [] none
  | s23 (hb : r 5 = 0) (hi : hoP g j n (r 6) (r 7)) (h1 : r 1 = 1) (h2 : r 2 = 2) (h3 : r 3 = 64) (st : ws.getD (2 * (r 6).toNat) 0 = arg) (nw : nwP ws 0 (r 4)) (st2 : ws.getD (2 * (r 6).toNat + 1) 0 = r 4 % 64) (t : r 10 = (r 4 / 64 + 1) * 64 + r 6)  : SPu ws g j n arg r 23 [] none
  | s24n (hb : r 5 = 0) (hi : hoP g j n (r 6) (r 7)) (h1 : r 1 = 1) (h2 : r 2 = 2) (h3 : r 3 = 64) (st : ws.getD (2 * (r 6).toNat) 0 = arg) (t : r 10 = 0)  : SPu ws g j n arg r 24 [] none
  | s24y (hi : idP g j (n + 1)) (h1 : r 1 = 1) (t : r 10 = 1) (f : Lf) (hf : f = ⟨true, arg, 0, arg⟩) : SPu ws g j n arg r 24 [] (some f)
  | s25 (hi : idP g j (n + 1)) (h1 : r 1 = 1) (f : Lf) (hf : f = ⟨true, arg, 0, arg⟩) : SPu ws g j n arg r 25 [] (some f)
  | s26 (hi : idP g j (n + 1)) (f : Lf) (hf : f = ⟨true, arg, 0, arg⟩) : SPu ws g j n arg r 26 [1] (some f)
theorem SPu.keep {i j : Nat} {ws ws' : List Int} {g g' : SGh} (sc : SC ws g) (m : Mv j ws g ws' g') (hj : j < 3) (hi3 : i < 3) (hne : i ≠ j) {n arg : Int} {r : Nat → Int} {pc : Int} {told : List Int} {f : Option Lf} (h : SPu ws g i n arg r pc told f) : SPu ws' g' i n arg r pc told f := by
  cases h with
  | s0 hb hv hi => exact .s0 hb hv (keep_id m hne hi)
  | s1 hb hv hi h1 => exact .s1 hb hv (keep_id m hne hi) h1
  | s2 hb hv hi h1 h2 => exact .s2 hb hv (keep_id m hne hi) h1 h2
  | s3 hb hv hi h1 h2 h3 => exact .s3 hb hv (keep_id m hne hi) h1 h2 h3
  | s4 hb hv hi h1 h2 h3 nw hz => exact .s4 hb hv (keep_id m hne hi) h1 h2 h3 (keep_nw m (by decide) nw) hz
  | s5 hb hv hi h1 h2 h3 nw nd => exact .s5 hb hv (keep_id m hne hi) h1 h2 h3 (keep_nw m (by decide) nw) nd
  | s6 hb hv hi h1 h2 h3 nw nd => exact .s6 hb hv (keep_id m hne hi) h1 h2 h3 (keep_nw m (by decide) nw) nd
  | s7 hb hv hi h1 h2 h3 nw nd ha => exact .s7 hb hv (keep_id m hne hi) h1 h2 h3 (keep_nw m (by decide) nw) nd ha
  | s8 hb hv hi h1 h2 h3 nw nd ha nx => exact .s8 hb hv (keep_id m hne hi) h1 h2 h3 (keep_nw m (by decide) nw) nd ha (keep_nx sc m hj (by decide) (by decide) nw nd nx)
  | s9 hb hv hi h1 h2 h3 nw nd ha nx vl => exact .s9 hb hv (keep_id m hne hi) h1 h2 h3 (keep_nw m (by decide) nw) nd ha (keep_nx sc m hj (by decide) (by decide) nw nd nx) (keep_nx sc m hj (by decide) (by decide) nw nd vl)
  | s10 hb hv hi h1 h2 h3 nw nd ha nx vl t => exact .s10 hb hv (keep_id m hne hi) h1 h2 h3 (keep_nw m (by decide) nw) nd ha (keep_nx sc m hj (by decide) (by decide) nw nd nx) (keep_nx sc m hj (by decide) (by decide) nw nd vl) t
  | s11 hb hv hi h1 h2 h3 nw nd ha nx vl t => exact .s11 hb hv (keep_id m hne hi) h1 h2 h3 (keep_nw m (by decide) nw) nd ha (keep_nx sc m hj (by decide) (by decide) nw nd nx) (keep_nx sc m hj (by decide) (by decide) nw nd vl) t
  | s12 hb hv hi h1 h2 h3 nw nd ha nx vl t => exact .s12 hb hv (keep_id m hne hi) h1 h2 h3 (keep_nw m (by decide) nw) nd ha (keep_nx sc m hj (by decide) (by decide) nw nd nx) (keep_nx sc m hj (by decide) (by decide) nw nd vl) t
  | s13 hb hv hi h1 h2 h3 nw nd ha nx vl t => exact .s13 hb hv (keep_id m hne hi) h1 h2 h3 (keep_nw m (by decide) nw) nd ha (keep_nx sc m hj (by decide) (by decide) nw nd nx) (keep_nx sc m hj (by decide) (by decide) nw nd vl) (keep_tu sc m hj (by decide) nw nd t)
  | s14n hb hv hi h1 h2 h3 t => exact .s14n hb hv (keep_id m hne hi) h1 h2 h3 t
  | s14y hb hi h1 h2 h3 hv t => exact .s14y hb (keep_ho m hne hi) h1 h2 h3 hv t
  | s15 hb hi h1 h2 h3 hv => exact .s15 hb (keep_ho m hne hi) h1 h2 h3 hv
  | s16 hb hi h1 h2 h3 st => exact .s16 hb (keep_ho m hne hi) h1 h2 h3 ((keep_held sc m hj hi3 hne hi (b := 0) (by decide)).trans st)
  | s17 hb hi h1 h2 h3 st nw => exact .s17 hb (keep_ho m hne hi) h1 h2 h3 ((keep_held sc m hj hi3 hne hi (b := 0) (by decide)).trans st) (keep_nw m (by decide) nw)
  | s18 hb hi h1 h2 h3 st nw nx => exact .s18 hb (keep_ho m hne hi) h1 h2 h3 ((keep_held sc m hj hi3 hne hi (b := 0) (by decide)).trans st) (keep_nw m (by decide) nw) nx
  | s19 hb hi h1 h2 h3 st nw st2 => exact .s19 hb (keep_ho m hne hi) h1 h2 h3 ((keep_held sc m hj hi3 hne hi (b := 0) (by decide)).trans st) (keep_nw m (by decide) nw) ((keep_held sc m hj hi3 hne hi (b := 1) (by decide)).trans st2)
  | s20 hb hi h1 h2 h3 st nw st2 t => exact .s20 hb (keep_ho m hne hi) h1 h2 h3 ((keep_held sc m hj hi3 hne hi (b := 0) (by decide)).trans st) (keep_nw m (by decide) nw) ((keep_held sc m hj hi3 hne hi (b := 1) (by decide)).trans st2) t
  | s21 hb hi h1 h2 h3 st nw st2 t => exact .s21 hb (keep_ho m hne hi) h1 h2 h3 ((keep_held sc m hj hi3 hne hi (b := 0) (by decide)).trans st) (keep_nw m (by decide) nw) ((keep_held sc m hj hi3 hne hi (b := 1) (by decide)).trans st2) t
  | s22 hb hi h1 h2 h3 st nw st2 t => exact .s22 hb (keep_ho m hne hi) h1 h2 h3 ((keep_held sc m hj hi3 hne hi (b := 0) (by decide)).trans st) (keep_nw m (by decide) nw) ((keep_held sc m hj hi3 hne hi (b := 1) (by decide)).trans st2) t
  | s23 hb hi h1 h2 h3 st nw st2 t => exact .s23 hb (keep_ho m hne hi) h1 h2 h3 ((keep_held sc m hj hi3 hne hi (b := 0) (by decide)).trans st) (keep_nw m (by decide) nw) ((keep_held sc m hj hi3 hne hi (b := 1) (by decide)).trans st2) t
  | s24n hb hi h1 h2 h3 st t => exact .s24n hb (keep_ho m hne hi) h1 h2 h3 ((keep_held sc m hj hi3 hne hi (b := 0) (by decide)).trans st) t
  | s24y hi h1 t f hf => exact .s24y (keep_id m hne hi) h1 t f hf
  | s25 hi h1 f hf => exact .s25 (keep_id m hne hi) h1 f hf
  | s26 hi f hf => exact .s26 (keep_id m hne hi) f hf
theorem push_step {ws : List Int} {g : SGh} {ob : Lin.Ob} (sc : SC ws g) (hob : ob = obS ws g.S) {j : Nat} (hj : j < 3) {n arg : Int} (h0 : 0 ≤ n) (hn : n < lenJ j) {r : Nat → Int} {pc : Int} {told : List Int} {f : Option Lf} (e : Int) (h : SPu ws g j n arg r pc told f) :
    ∃ g' ob' f', (f' = f ∧ ob' = ob ∨ f = none ∧ ∃ x, f' = some x ∧ Lin.onext ob (fAct x) = (ob', x.r) ∧ x = ⟨true, arg, 0, arg⟩) ∧ SC (vstep pushL ws ⟨r, pc, told, e, false⟩).2 g' ∧ ob' = obS (vstep pushL ws ⟨r, pc, told, e, false⟩).2 g'.S ∧ Mv j ws g (vstep pushL ws ⟨r, pc, told, e, false⟩).2 g' ∧
      ((vstep pushL ws ⟨r, pc, told, e, false⟩).1.ov = false → SPu (vstep pushL ws ⟨r, pc, told, e, false⟩).2 g' j n arg (vstep pushL ws ⟨r, pc, told, e, false⟩).1.r (vstep pushL ws ⟨r, pc, told, e, false⟩).1.pc (vstep pushL ws ⟨r, pc, told, e, false⟩).1.told f') ∧ ((vstep pushL ws ⟨r, pc, told, e, false⟩).1.ov = true → idP g' j (n + 1) ∧ ∃ x, f' = some x ∧ (vstep pushL ws ⟨r, pc, told, e, false⟩).1.told = [1]) := by
  have w0 := sc.w (w := 0) (by decide)
  have w1 := sc.w (w := 1) (by decide)
  cases h with
  | s0 hb hv hi =>
    rw [j_alu (C := pushL) ⟨1, 1, 1, 0, 0⟩ 1 (1) 1 rfl rfl rfl (rfl) rfl rfl]
    refine ⟨g, ob, _, .inl ⟨rfl, rfl⟩, sc, hob, Mv.refl _ _ _, fun _ => ?_, fun h => (by cases h)⟩
    exact .s1 (r := (setR r 1 (1))) (hb := hb) (hv := hv) (hi := hi) (h1 := rfl)
  | s1 hb hv hi h1 =>
    rw [j_alu (C := pushL) ⟨1, 2, 2, 0, 0⟩ 2 (2) 2 rfl rfl rfl (rfl) rfl rfl]
    refine ⟨g, ob, _, .inl ⟨rfl, rfl⟩, sc, hob, Mv.refl _ _ _, fun _ => ?_, fun h => (by cases h)⟩
    exact .s2 (r := (setR r 2 (2))) (hb := hb) (hv := hv) (hi := hi) (h1 := h1) (h2 := rfl)
  | s2 hb hv hi h1 h2 =>
    rw [j_alu (C := pushL) ⟨1, 3, 64, 0, 0⟩ 3 (64) 3 rfl rfl rfl (rfl) rfl rfl]
    refine ⟨g, ob, _, .inl ⟨rfl, rfl⟩, sc, hob, Mv.refl _ _ _, fun _ => ?_, fun h => (by cases h)⟩
    exact .s3 (r := (setR r 3 (64))) (hb := hb) (hv := hv) (hi := hi) (h1 := h1) (h2 := h2) (h3 := rfl)
  | s3 hb hv hi h1 h2 h3 =>
    rw [j_load (C := pushL) ⟨13, 4, 5, 1, 0⟩ 4 4 1 rfl rfl rfl (show wrp (r 5 + 1) = _ by rw [hb]; rfl) (by rw [sc.len]; decide) rfl rfl]
    refine ⟨g, ob, _, .inl ⟨rfl, rfl⟩, sc, hob, Mv.refl _ _ _, fun _ => ?_, fun h => (by cases h)⟩
    exact .s4 (r := (setR r 4 (ws.getD 1 0))) (hb := hb) (hv := hv) (hi := hi) (h1 := h1) (h2 := h2) (h3 := h3) (nw := ⟨w1.1, Int.le_refl _, w1.2.1⟩) (hz := ⟨cap sc hj hn hi, w1.2.2⟩)
  | s4 hb hv hi h1 h2 h3 nw hz =>
    rw [j_alu (C := pushL) ⟨7, 6, 4, 3, 0⟩ 6 (r 4 % 64) 5 rfl rfl rfl (alu_rem h3 nw.1) rfl rfl]
    refine ⟨g, ob, _, .inl ⟨rfl, rfl⟩, sc, hob, Mv.refl _ _ _, fun _ => ?_, fun h => (by cases h)⟩
    exact .s5 (r := (setR r 6 (r 4 % 64))) (hb := hb) (hv := hv) (hi := hi) (h1 := h1) (h2 := h2) (h3 := h3) (nw := nw) (nd := ⟨rfl, hz.1, hz.2⟩)
  | s5 hb hv hi h1 h2 h3 nw nd =>
    rw [j_un1 (C := pushL) ⟨12, 6, 27, 0, 0⟩ 6 rfl rfl (show ¬ r 6 = 0 by have := nd.2.1; omega) rfl rfl rfl]
    refine ⟨g, ob, _, .inl ⟨rfl, rfl⟩, sc, hob, Mv.refl _ _ _, fun _ => ?_, fun h => (by cases h)⟩
    exact .s6 (r := r) (hb := hb) (hv := hv) (hi := hi) (h1 := h1) (h2 := h2) (h3 := h3) (nw := nw) (nd := nd)
  | s6 hb hv hi h1 h2 h3 nw nd =>
    rw [j_alu (C := pushL) ⟨5, 7, 6, 2, 0⟩ 7 (2 * r 6) 7 rfl rfl rfl (alu_mul (show r 6 * r 2 = _ by rw [h2]; omega) (by have := nd.2; omega)) rfl rfl]
    refine ⟨g, ob, _, .inl ⟨rfl, rfl⟩, sc, hob, Mv.refl _ _ _, fun _ => ?_, fun h => (by cases h)⟩
    exact .s7 (r := (setR r 7 (2 * r 6))) (hb := hb) (hv := hv) (hi := hi) (h1 := h1) (h2 := h2) (h3 := h3) (nw := nw) (nd := nd) (ha := rfl)
  | s7 hb hv hi h1 h2 h3 nw nd ha =>
    rw [j_load (C := pushL) ⟨13, 8, 7, 1, 0⟩ 8 8 (2 * (r 6).toNat + 1) rfl rfl rfl (show wrp (r 7 + 1) = _ by have hq := nd.2; rw [ha, wrp_k (by omega)]; omega) (by have hq := nd.2; rw [sc.len]; omega) rfl rfl]
    refine ⟨g, ob, _, .inl ⟨rfl, rfl⟩, sc, hob, Mv.refl _ _ _, fun _ => ?_, fun h => (by cases h)⟩
    exact .s8 (r := (setR r 8 (ws.getD (2 * (r 6).toNat + 1) 0))) (hb := hb) (hv := hv) (hi := hi) (h1 := h1) (h2 := h2) (h3 := h3) (nw := nw) (nd := nd) (ha := ha) (nx := fun _ => rfl)
  | s8 hb hv hi h1 h2 h3 nw nd ha nx =>
    rw [j_load (C := pushL) ⟨13, 9, 7, 0, 0⟩ 9 9 (2 * (r 6).toNat + 0) rfl rfl rfl (show wrp (r 7 + 0) = _ by have hq := nd.2; rw [ha, wrp_k (by omega)]; omega) (by have hq := nd.2; rw [sc.len]; omega) rfl rfl]
    refine ⟨g, ob, _, .inl ⟨rfl, rfl⟩, sc, hob, Mv.refl _ _ _, fun _ => ?_, fun h => (by cases h)⟩
    exact .s9 (r := (setR r 9 (ws.getD (2 * (r 6).toNat + 0) 0))) (hb := hb) (hv := hv) (hi := hi) (h1 := h1) (h2 := h2) (h3 := h3) (nw := nw) (nd := nd) (ha := ha) (nx := nx) (vl := fun _ => rfl)
  | s9 hb hv hi h1 h2 h3 nw nd ha nx vl =>
    rw [j_alu (C := pushL) ⟨6, 10, 4, 3, 0⟩ 10 (r 4 / 64) 10 rfl rfl rfl (alu_div h3 ⟨nw.1, (show r 4 ≤ 1000000 by have := nw.2.2; omega)⟩) rfl rfl]
    refine ⟨g, ob, _, .inl ⟨rfl, rfl⟩, sc, hob, Mv.refl _ _ _, fun _ => ?_, fun h => (by cases h)⟩
    exact .s10 (r := (setR r 10 (r 4 / 64))) (hb := hb) (hv := hv) (hi := hi) (h1 := h1) (h2 := h2) (h3 := h3) (nw := nw) (nd := nd) (ha := ha) (nx := nx) (vl := vl) (t := rfl)
  | s10 hb hv hi h1 h2 h3 nw nd ha nx vl t =>
    rw [j_alu (C := pushL) ⟨3, 10, 10, 1, 0⟩ 10 (r 4 / 64 + 1) 11 rfl rfl rfl ((alu_add (show 0 ≤ r 10 + r 1 ∧ r 10 + r 1 ≤ 1000000 by rw [t, h1]; have := nw.1; have := nw.2.2; omega)).trans (show r 10 + r 1 = _ by rw [t, h1])) rfl rfl]
    refine ⟨g, ob, _, .inl ⟨rfl, rfl⟩, sc, hob, Mv.refl _ _ _, fun _ => ?_, fun h => (by cases h)⟩
    exact .s11 (r := (setR r 10 (r 4 / 64 + 1))) (hb := hb) (hv := hv) (hi := hi) (h1 := h1) (h2 := h2) (h3 := h3) (nw := nw) (nd := nd) (ha := ha) (nx := nx) (vl := vl) (t := rfl)
  | s11 hb hv hi h1 h2 h3 nw nd ha nx vl t =>
    rw [j_alu (C := pushL) ⟨5, 10, 10, 3, 0⟩ 10 ((r 4 / 64 + 1) * 64) 12 rfl rfl rfl (alu_mul (show r 10 * r 3 = _ by rw [t, h3]) (by have := nw.1; have := nw.2.2; omega)) rfl rfl]
    refine ⟨g, ob, _, .inl ⟨rfl, rfl⟩, sc, hob, Mv.refl _ _ _, fun _ => ?_, fun h => (by cases h)⟩
    exact .s12 (r := (setR r 10 ((r 4 / 64 + 1) * 64))) (hb := hb) (hv := hv) (hi := hi) (h1 := h1) (h2 := h2) (h3 := h3) (nw := nw) (nd := nd) (ha := ha) (nx := nx) (vl := vl) (t := rfl)
  | s12 hb hv hi h1 h2 h3 nw nd ha nx vl t =>
    rw [j_alu (C := pushL) ⟨3, 10, 10, 8, 0⟩ 10 (alu ⟨3, 10, 10, 8, 0⟩ r) 13 rfl rfl rfl (rfl) rfl rfl]
    refine ⟨g, ob, _, .inl ⟨rfl, rfl⟩, sc, hob, Mv.refl _ _ _, fun _ => ?_, fun h => (by cases h)⟩
    exact .s13 (r := (setR r 10 (alu ⟨3, 10, 10, 8, 0⟩ r))) (hb := hb) (hv := hv) (hi := hi) (h1 := h1) (h2 := h2) (h3 := h3) (nw := nw) (nd := nd) (ha := ha) (nx := nx) (vl := vl) (t := (fun he => by have he : ws.getD 1 0 = r 4 := he; have hq := nxt_le sc (by decide) he nd; have hx := nx he; show alu ⟨3, 10, 10, 8, 0⟩ r = (r 4 / 64 + 1) * 64 + ws.getD (2 * (r 6).toNat + 1) 0; rw [← hx] at hq ⊢; exact (alu_add (show 0 ≤ r 10 + r 8 ∧ r 10 + r 8 ≤ 1000000 by rw [t]; have := nw.1; have := nw.2.2; omega)).trans (show r 10 + r 8 = _ by rw [t])))
  | s13 hb hv hi h1 h2 h3 nw nd ha nx vl t =>
    by_cases hc : ws.getD 1 0 = r 4
    · obtain ⟨a, l, b1, b2, b3, b4, b5⟩ := sc.hd (w := 1) (by decide) (node := r 6) (by rw [hc]; exact nd.1.symm) nd.2.1
      have b1 : g.F = a :: l := b1
      have ea : (r 6).toNat = a := by rw [b2]; simp
      have tv : r 10 = (ws.getD 1 0 / 64 + 1) * 64 + hdI l := by rw [t hc, hc, ea, b3]
      obtain ⟨q1, q2⟩ := sc.takeF hj hi.1 hi.2.1 (by have := hi.2.2; omega) b1 tv
      rw [j_cas1 (C := pushL) ⟨15, 10, 5, 1, 4⟩ 10 (r 10) 14 1 rfl rfl rfl rfl hc (show wrp (r 5 + 1) = _ by rw [hb]; rfl) (by rw [sc.len]; decide) rfl rfl]
      have hho : hoP ⟨g.S, l, putF1 g.H j a, putF1 g.d j (g.d j + 1)⟩ j n (r 6) (r 7) := ⟨(putF1_same _ _ _).trans ea.symm, nd.2.1, nd.2.2, ha, by show putF1 g.d j (g.d j + 1) j % 2 = 1; rw [putF1_same]; have := hi.2.1; omega, by show putF1 g.d j (g.d j + 1) j ≤ 2 * n + 1; rw [putF1_same]; have := hi.2.2; omega⟩
      have cw : ∀ b, 1 ≤ b → (ws.set 1 (r 10)).getD (2 * b) 0 = ws.getD (2 * b) 0 := fun b hb => by rw [gset (by rw [sc.len]; decide), if_neg (by omega)]
      refine ⟨_, ob, _, .inl ⟨rfl, rfl⟩, q1, ?_, q2, fun _ => .s14y (r := (setR r 10 1)) (hb := hb) (hi := hho) (h1 := h1) (h2 := h2) (h3 := h3) (hv := hv) (t := rfl), fun h => (by cases h)⟩
      rw [hob]; exact (obS_keep fun b hb => cw b (sc.rg b (List.mem_append_left _ hb)).1).symm
    · rw [j_cas0 (C := pushL) ⟨15, 10, 5, 1, 4⟩ 10 14 1 rfl rfl rfl hc (show wrp (r 5 + 1) = _ by rw [hb]; rfl) (by rw [sc.len]; decide) rfl rfl]
      refine ⟨g, ob, _, .inl ⟨rfl, rfl⟩, sc, hob, Mv.refl _ _ _, fun _ => ?_, fun h => (by cases h)⟩
      exact .s14n (r := (setR r 10 0)) (hb := hb) (hv := hv) (hi := hi) (h1 := h1) (h2 := h2) (h3 := h3) (t := rfl)
  | s14n hb hv hi h1 h2 h3 t =>
    rw [j_un0 (C := pushL) ⟨12, 10, 3, 0, 0⟩ 3 rfl rfl (show r 10 = 0 from t) rfl rfl rfl]
    refine ⟨g, ob, _, .inl ⟨rfl, rfl⟩, sc, hob, Mv.refl _ _ _, fun _ => ?_, fun h => (by cases h)⟩
    exact .s3 (r := r) (hb := hb) (hv := hv) (hi := hi) (h1 := h1) (h2 := h2) (h3 := h3)
  | s14y hb hi h1 h2 h3 hv t =>
    rw [j_un1 (C := pushL) ⟨12, 10, 3, 0, 0⟩ 15 rfl rfl (show ¬ r 10 = 0 by omega) rfl rfl rfl]
    refine ⟨g, ob, _, .inl ⟨rfl, rfl⟩, sc, hob, Mv.refl _ _ _, fun _ => ?_, fun h => (by cases h)⟩
    exact .s15 (r := r) (hb := hb) (hi := hi) (h1 := h1) (h2 := h2) (h3 := h3) (hv := hv)
  | s15 hb hi h1 h2 h3 hv =>
    obtain ⟨q1, q2, q3⟩ := sc.cell hj (b := 0) (by decide) hi.1 (by have := hi.2.1; omega) (arg)
    have hlt : (2 * (r 6).toNat + 0) < ws.length := (by have hq := (show 1 ≤ r 6 ∧ r 6 ≤ 8 from ⟨hi.2.1, hi.2.2.1⟩); rw [sc.len]; omega)
    rw [j_store (C := pushL) ⟨14, 0, 7, 0, 0⟩ (arg) 16 (2 * (r 6).toNat + 0) rfl rfl (show r 0 = _ from hv) (show wrp (r 7 + 0) = _ by have hq := (show 1 ≤ r 6 ∧ r 6 ≤ 8 from ⟨hi.2.1, hi.2.2.1⟩); rw [hi.2.2.2.1, wrp_k (by omega)]; omega) hlt rfl rfl]
    refine ⟨g, ob, _, .inl ⟨rfl, rfl⟩, q1, ?_, q2, fun _ => .s16 (r := r) (hb := hb) (hi := hi) (h1 := h1) (h2 := h2) (h3 := h3) (st := (by show (ws.set (2 * (r 6).toNat + 0) (arg)).getD (2 * (r 6).toNat) 0 = arg; rw [gset hlt, if_pos (by omega)])), fun h => (by cases h)⟩
    rw [hob]; exact (obS_keep q3).symm
  | s16 hb hi h1 h2 h3 st =>
    rw [j_load (C := pushL) ⟨13, 4, 5, 0, 0⟩ 4 17 0 rfl rfl rfl (show wrp (r 5 + 0) = _ by rw [hb]; rfl) (by rw [sc.len]; decide) rfl rfl]
    refine ⟨g, ob, _, .inl ⟨rfl, rfl⟩, sc, hob, Mv.refl _ _ _, fun _ => ?_, fun h => (by cases h)⟩
    exact .s17 (r := (setR r 4 (ws.getD 0 0))) (hb := hb) (hi := hi) (h1 := h1) (h2 := h2) (h3 := h3) (st := st) (nw := ⟨w0.1, Int.le_refl _, w0.2.1⟩)
  | s17 hb hi h1 h2 h3 st nw =>
    rw [j_alu (C := pushL) ⟨7, 8, 4, 3, 0⟩ 8 (r 4 % 64) 18 rfl rfl rfl (alu_rem h3 nw.1) rfl rfl]
    refine ⟨g, ob, _, .inl ⟨rfl, rfl⟩, sc, hob, Mv.refl _ _ _, fun _ => ?_, fun h => (by cases h)⟩
    exact .s18 (r := (setR r 8 (r 4 % 64))) (hb := hb) (hi := hi) (h1 := h1) (h2 := h2) (h3 := h3) (st := st) (nw := nw) (nx := rfl)
  | s18 hb hi h1 h2 h3 st nw nx =>
    obtain ⟨q1, q2, q3⟩ := sc.cell hj (b := 1) (by decide) hi.1 (by have := hi.2.1; omega) (r 4 % 64)
    have hlt : (2 * (r 6).toNat + 1) < ws.length := (by have hq := (show 1 ≤ r 6 ∧ r 6 ≤ 8 from ⟨hi.2.1, hi.2.2.1⟩); rw [sc.len]; omega)
    rw [j_store (C := pushL) ⟨14, 8, 7, 1, 0⟩ (r 4 % 64) 19 (2 * (r 6).toNat + 1) rfl rfl (show r 8 = _ from nx) (show wrp (r 7 + 1) = _ by have hq := (show 1 ≤ r 6 ∧ r 6 ≤ 8 from ⟨hi.2.1, hi.2.2.1⟩); rw [hi.2.2.2.1, wrp_k (by omega)]; omega) hlt rfl rfl]
    refine ⟨g, ob, _, .inl ⟨rfl, rfl⟩, q1, ?_, q2, fun _ => .s19 (r := r) (hb := hb) (hi := hi) (h1 := h1) (h2 := h2) (h3 := h3) (st := (by show (ws.set (2 * (r 6).toNat + 1) (r 4 % 64)).getD (2 * (r 6).toNat) 0 = arg; rw [gset hlt, if_neg (by omega)]; exact st)) (nw := (keep_nw q2 (by decide) nw)) (st2 := (by show (ws.set (2 * (r 6).toNat + 1) (r 4 % 64)).getD (2 * (r 6).toNat + 1) 0 = _; rw [gset hlt, if_pos rfl])), fun h => (by cases h)⟩
    rw [hob]; exact (obS_keep q3).symm
  | s19 hb hi h1 h2 h3 st nw st2 =>
    rw [j_alu (C := pushL) ⟨6, 10, 4, 3, 0⟩ 10 (r 4 / 64) 20 rfl rfl rfl (alu_div h3 ⟨nw.1, (show r 4 ≤ 1000000 by have := nw.2.2; omega)⟩) rfl rfl]
    refine ⟨g, ob, _, .inl ⟨rfl, rfl⟩, sc, hob, Mv.refl _ _ _, fun _ => ?_, fun h => (by cases h)⟩
    exact .s20 (r := (setR r 10 (r 4 / 64))) (hb := hb) (hi := hi) (h1 := h1) (h2 := h2) (h3 := h3) (st := st) (nw := nw) (st2 := st2) (t := rfl)
  | s20 hb hi h1 h2 h3 st nw st2 t =>
    rw [j_alu (C := pushL) ⟨3, 10, 10, 1, 0⟩ 10 (r 4 / 64 + 1) 21 rfl rfl rfl ((alu_add (show 0 ≤ r 10 + r 1 ∧ r 10 + r 1 ≤ 1000000 by rw [t, h1]; have := nw.1; have := nw.2.2; omega)).trans (show r 10 + r 1 = _ by rw [t, h1])) rfl rfl]
    refine ⟨g, ob, _, .inl ⟨rfl, rfl⟩, sc, hob, Mv.refl _ _ _, fun _ => ?_, fun h => (by cases h)⟩
    exact .s21 (r := (setR r 10 (r 4 / 64 + 1))) (hb := hb) (hi := hi) (h1 := h1) (h2 := h2) (h3 := h3) (st := st) (nw := nw) (st2 := st2) (t := rfl)
  | s21 hb hi h1 h2 h3 st nw st2 t =>
    rw [j_alu (C := pushL) ⟨5, 10, 10, 3, 0⟩ 10 ((r 4 / 64 + 1) * 64) 22 rfl rfl rfl (alu_mul (show r 10 * r 3 = _ by rw [t, h3]) (by have := nw.1; have := nw.2.2; omega)) rfl rfl]
    refine ⟨g, ob, _, .inl ⟨rfl, rfl⟩, sc, hob, Mv.refl _ _ _, fun _ => ?_, fun h => (by cases h)⟩
    exact .s22 (r := (setR r 10 ((r 4 / 64 + 1) * 64))) (hb := hb) (hi := hi) (h1 := h1) (h2 := h2) (h3 := h3) (st := st) (nw := nw) (st2 := st2) (t := rfl)
  | s22 hb hi h1 h2 h3 st nw st2 t =>
    rw [j_alu (C := pushL) ⟨3, 10, 10, 6, 0⟩ 10 ((r 4 / 64 + 1) * 64 + r 6) 23 rfl rfl rfl ((alu_add (show 0 ≤ r 10 + r 6 ∧ r 10 + r 6 ≤ 1000000 by rw [t]; have := nw.1; have := nw.2.2; have := hi.2.1; have := hi.2.2.1; omega)).trans (show r 10 + r 6 = _ by rw [t])) rfl rfl]
    refine ⟨g, ob, _, .inl ⟨rfl, rfl⟩, sc, hob, Mv.refl _ _ _, fun _ => ?_, fun h => (by cases h)⟩
    exact .s23 (r := (setR r 10 ((r 4 / 64 + 1) * 64 + r 6))) (hb := hb) (hi := hi) (h1 := h1) (h2 := h2) (h3 := h3) (st := st) (nw := nw) (st2 := st2) (t := rfl)
  | s23 hb hi h1 h2 h3 st nw st2 t =>
    by_cases hc : ws.getD 0 0 = r 4
    · have hnx : ws.getD (2 * (r 6).toNat + 1) 0 = hdI g.S := by rw [st2, ← hc]; exact sc.t0.2
      have hq := hi.2.1
      have tv : r 10 = (ws.getD 0 0 / 64 + 1) * 64 + ((r 6).toNat : Int) := by rw [t, hc]; omega
      obtain ⟨q1, q2⟩ := sc.giveS hj hi.1 (by omega) hi.2.2.2.2.1 (by have := hi.2.2.2.2.2; omega) hnx tv
      rw [j_cas1 (C := pushL) ⟨15, 10, 5, 0, 4⟩ 10 (r 10) 24 0 rfl rfl rfl rfl hc (show wrp (r 5 + 0) = _ by rw [hb]; rfl) (by rw [sc.len]; decide) rfl rfl]
      have hid : idP ⟨(r 6).toNat :: g.S, g.F, putF1 g.H j 0, putF1 g.d j (g.d j + 1)⟩ j (n + 1) := ⟨putF1_same _ _ _, by show putF1 g.d j (g.d j + 1) j % 2 = 0; rw [putF1_same]; have := hi.2.2.2.2.1; omega, by show putF1 g.d j (g.d j + 1) j ≤ 2 * (n + 1); rw [putF1_same]; have := hi.2.2.2.2.2; omega⟩
      have cw : ∀ b, 1 ≤ b → (ws.set 0 (r 10)).getD (2 * b) 0 = ws.getD (2 * b) 0 := fun b hb => by rw [gset (by rw [sc.len]; decide), if_neg (by omega)]
      refine ⟨_, obS ws ((r 6).toNat :: g.S), some ⟨true, arg, 0, arg⟩, .inr ⟨rfl, _, rfl, ?_, rfl⟩, q1, ?_, q2, fun _ => .s24y (r := (setR r 10 1)) (hi := hid) (h1 := h1) (t := rfl) (f := ⟨true, arg, 0, arg⟩) (hf := rfl), fun h => (by cases h)⟩
      · rw [hob]; have hp := ob_push ws (r 6).toNat g.S 0; rw [st] at hp; exact hp
      · refine (obS_keep fun b hb => cw b ?_).symm
        rcases List.mem_cons.1 hb with rfl | hb
        · omega
        · exact (sc.rg b (List.mem_append_left _ hb)).1
    · rw [j_cas0 (C := pushL) ⟨15, 10, 5, 0, 4⟩ 10 24 0 rfl rfl rfl hc (show wrp (r 5 + 0) = _ by rw [hb]; rfl) (by rw [sc.len]; decide) rfl rfl]
      refine ⟨g, ob, _, .inl ⟨rfl, rfl⟩, sc, hob, Mv.refl _ _ _, fun _ => ?_, fun h => (by cases h)⟩
      exact .s24n (r := (setR r 10 0)) (hb := hb) (hi := hi) (h1 := h1) (h2 := h2) (h3 := h3) (st := st) (t := rfl)
  | s24n hb hi h1 h2 h3 st t =>
    rw [j_un0 (C := pushL) ⟨12, 10, 16, 0, 0⟩ 16 rfl rfl (show r 10 = 0 from t) rfl rfl rfl]
    refine ⟨g, ob, _, .inl ⟨rfl, rfl⟩, sc, hob, Mv.refl _ _ _, fun _ => ?_, fun h => (by cases h)⟩
    exact .s16 (r := r) (hb := hb) (hi := hi) (h1 := h1) (h2 := h2) (h3 := h3) (st := st)
  | s24y hi h1 t f hf =>
    rw [j_un1 (C := pushL) ⟨12, 10, 16, 0, 0⟩ 25 rfl rfl (show ¬ r 10 = 0 by omega) rfl rfl rfl]
    refine ⟨g, ob, _, .inl ⟨rfl, rfl⟩, sc, hob, Mv.refl _ _ _, fun _ => ?_, fun h => (by cases h)⟩
    exact .s25 (r := r) (hi := hi) (h1 := h1) (f := f) (hf := hf)
  | s25 hi h1 f hf =>
    rw [j_tell (C := pushL) ⟨16, 1, 0, 0, 0⟩ 1 26 false rfl rfl (show r 1 = 1 from h1) rfl rfl]
    refine ⟨g, ob, _, .inl ⟨rfl, rfl⟩, sc, hob, Mv.refl _ _ _, fun _ => ?_, fun h => (by cases h)⟩
    exact .s26 (r := r) (hi := hi) (f := f) (hf := hf)
  | s26 hi f hf =>
    rw [j_done (C := pushL) ⟨17, 0, 0, 0, 0⟩ 27 rfl rfl rfl]
    exact ⟨g, ob, _, .inl ⟨rfl, rfl⟩, sc, hob, Mv.refl _ _ _, fun h => (by cases h), fun _ => ⟨hi, _, rfl, rfl⟩⟩
inductive SPo (ws : List Int) (g : SGh) (j : Nat) (n : Int) (r : Nat → Int) : Int → List Int → Option Lf → Prop
  | s0 (hb : r 4 = 0) (hi : idP g j n)  : SPo ws g j n r 0 [] none
  | s1 (hb : r 4 = 0) (hi : idP g j n) (h1 : r 0 = 1)  : SPo ws g j n r 1 [] none
  | s2 (hb : r 4 = 0) (hi : idP g j n) (h1 : r 0 = 1) (h2 : r 1 = 2)  : SPo ws g j n r 2 [] none
  | s3 (hb : r 4 = 0) (hi : idP g j n) (h1 : r 0 = 1) (h2 : r 1 = 2) (h3 : r 2 = 64)  : SPo ws g j n r 3 [] none
  | s4 (hb : r 4 = 0) (hi : idP g j n) (h1 : r 0 = 1) (h2 : r 1 = 2) (h3 : r 2 = 64) (nw : nwP ws 0 (r 3)) (hz : 1 ≤ r 3 % 64 ∧ r 3 % 64 ≤ 8)  : SPo ws g j n r 4 [] none
  | s5 (hb : r 4 = 0) (hi : idP g j n) (h1 : r 0 = 1) (h2 : r 1 = 2) (h3 : r 2 = 64) (nw : nwP ws 0 (r 3)) (nd : ndP (r 5) (r 3))  : SPo ws g j n r 5 [] none
  | s6 (hb : r 4 = 0) (hi : idP g j n) (h1 : r 0 = 1) (h2 : r 1 = 2) (h3 : r 2 = 64) (nw : nwP ws 0 (r 3)) (nd : ndP (r 5) (r 3))  : SPo ws g j n r 6 [] none
  | s7 (hb : r 4 = 0) (hi : idP g j n) (h1 : r 0 = 1) (h2 : r 1 = 2) (h3 : r 2 = 64) (nw : nwP ws 0 (r 3)) (nd : ndP (r 5) (r 3)) (ha : r 6 = 2 * r 5)  : SPo ws g j n r 7 [] none
  | s8 (hb : r 4 = 0) (hi : idP g j n) (h1 : r 0 = 1) (h2 : r 1 = 2) (h3 : r 2 = 64) (nw : nwP ws 0 (r 3)) (nd : ndP (r 5) (r 3)) (ha : r 6 = 2 * r 5) (nx : nxP ws 0 1 (r 3) (r 5) (r 7))  : SPo ws g j n r 8 [] none
  | s9 (hb : r 4 = 0) (hi : idP g j n) (h1 : r 0 = 1) (h2 : r 1 = 2) (h3 : r 2 = 64) (nw : nwP ws 0 (r 3)) (nd : ndP (r 5) (r 3)) (ha : r 6 = 2 * r 5) (nx : nxP ws 0 1 (r 3) (r 5) (r 7)) (vl : nxP ws 0 0 (r 3) (r 5) (r 8))  : SPo ws g j n r 9 [] none
  | s10 (hb : r 4 = 0) (hi : idP g j n) (h1 : r 0 = 1) (h2 : r 1 = 2) (h3 : r 2 = 64) (nw : nwP ws 0 (r 3)) (nd : ndP (r 5) (r 3)) (ha : r 6 = 2 * r 5) (nx : nxP ws 0 1 (r 3) (r 5) (r 7)) (vl : nxP ws 0 0 (r 3) (r 5) (r 8)) (t : r 9 = r 3 / 64)  : SPo ws g j n r 10 [] none
  | s11 (hb : r 4 = 0) (hi : idP g j n) (h1 : r 0 = 1) (h2 : r 1 = 2) (h3 : r 2 = 64) (nw : nwP ws 0 (r 3)) (nd : ndP (r 5) (r 3)) (ha : r 6 = 2 * r 5) (nx : nxP ws 0 1 (r 3) (r 5) (r 7)) (vl : nxP ws 0 0 (r 3) (r 5) (r 8)) (t : r 9 = r 3 / 64 + 1)  : SPo ws g j n r 11 [] none
  | s12 (hb : r 4 = 0) (hi : idP g j n) (h1 : r 0 = 1) (h2 : r 1 = 2) (h3 : r 2 = 64) (nw : nwP ws 0 (r 3)) (nd : ndP (r 5) (r 3)) (ha : r 6 = 2 * r 5) (nx : nxP ws 0 1 (r 3) (r 5) (r 7)) (vl : nxP ws 0 0 (r 3) (r 5) (r 8)) (t : r 9 = (r 3 / 64 + 1) * 64)  : SPo ws g j n r 12 [] none
  | s13 (hb : r 4 = 0) (hi : idP g j n) (h1 : r 0 = 1) (h2 : r 1 = 2) (h3 : r 2 = 64) (nw : nwP ws 0 (r 3)) (nd : ndP (r 5) (r 3)) (ha : r 6 = 2 * r 5) (nx : nxP ws 0 1 (r 3) (r 5) (r 7)) (vl : nxP ws 0 0 (r 3) (r 5) (r 8)) (t : tuP ws 0 (r 3) (r 5) (r 9))  : SPo ws g j n r 13 [] none
  | s14n (hb : r 4 = 0) (hi : idP g j n) (h1 : r 0 = 1) (h2 : r 1 = 2) (h3 : r 2 = 64) (t : r 9 = 0)  : SPo ws g j n r 14 [] none
  | s14y (hb : r 4 = 0) (hi : hoP g j n (r 5) (r 6)) (h1 : r 0 = 1) (h2 : r 1 = 2) (h3 : r 2 = 64) (t : r 9 = 1) (f : Lf) (hf : f = ⟨false, 0, 0, r 8⟩) : SPo ws g j n r 14 [] (some f)
  | s15 (hb : r 4 = 0) (hi : hoP g j n (r 5) (r 6)) (h1 : r 0 = 1) (h2 : r 1 = 2) (h3 : r 2 = 64) (f : Lf) (hf : f = ⟨false, 0, 0, r 8⟩) : SPo ws g j n r 15 [] (some f)
  | s16 (hb : r 4 = 0) (hi : hoP g j n (r 5) (r 6)) (h1 : r 0 = 1) (h2 : r 1 = 2) (h3 : r 2 = 64) (f : Lf) (hf : f = ⟨false, 0, 0, r 10⟩) : SPo ws g j n r 16 [] (some f)
  | s17 (hb : r 4 = 0) (hi : hoP g j n (r 5) (r 6)) (h1 : r 0 = 1) (h2 : r 1 = 2) (h3 : r 2 = 64) (nw : nwP ws 1 (r 3)) (f : Lf) (hf : f = ⟨false, 0, 0, r 10⟩) : SPo ws g j n r 17 [] (some f)
  | s18 (hb : r 4 = 0) (hi : hoP g j n (r 5) (r 6)) (h1 : r 0 = 1) (h2 : r 1 = 2) (h3 : r 2 = 64) (nw : nwP ws 1 (r 3)) (nx : r 7 = r 3 % 64) (f : Lf) (hf : f = ⟨false, 0, 0, r 10⟩) : SPo ws g j n r 18 [] (some f)
  | s19 (hb : r 4 = 0) (hi : hoP g j n (r 5) (r 6)) (h1 : r 0 = 1) (h2 : r 1 = 2) (h3 : r 2 = 64) (nw : nwP ws 1 (r 3)) (st2 : ws.getD (2 * (r 5).toNat + 1) 0 = r 3 % 64) (f : Lf) (hf : f = ⟨false, 0, 0, r 10⟩) : SPo ws g j n r 19 [] (some f)
  | s20 (hb : r 4 = 0) (hi : hoP g j n (r 5) (r 6)) (h1 : r 0 = 1) (h2 : r 1 = 2) (h3 : r 2 = 64) (nw : nwP ws 1 (r 3)) (st2 : ws.getD (2 * (r 5).toNat + 1) 0 = r 3 % 64) (t : r 9 = r 3 / 64) (f : Lf) (hf : f = ⟨false, 0, 0, r 10⟩) : SPo ws g j n r 20 [] (some f)
  | s21 (hb : r 4 = 0) (hi : hoP g j n (r 5) (r 6)) (h1 : r 0 = 1) (h2 : r 1 = 2) (h3 : r 2 = 64) (nw : nwP ws 1 (r 3)) (st2 : ws.getD (2 * (r 5).toNat + 1) 0 = r 3 % 64) (t : r 9 = r 3 / 64 + 1) (f : Lf) (hf : f = ⟨false, 0, 0, r 10⟩) : SPo ws g j n r 21 [] (some f)
  | s22 (hb : r 4 = 0) (hi : hoP g j n (r 5) (r 6)) (h1 : r 0 = 1) (h2 : r 1 = 2) (h3 : r 2 = 64) (nw : nwP ws 1 (r 3)) (st2 : ws.getD (2 * (r 5).toNat + 1) 0 = r 3 % 64) (t : r 9 = (r 3 / 64 + 1) * 64) (f : Lf) (hf : f = ⟨false, 0, 0, r 10⟩) : SPo ws g j n r 22 [] (some f)
  | s23 (hb : r 4 = 0) (hi : hoP g j n (r 5) (r 6)) (h1 : r 0 = 1) (h2 : r 1 = 2) (h3 : r 2 = 64) (nw : nwP ws 1 (r 3)) (st2 : ws.getD (2 * (r 5).toNat + 1) 0 = r 3 % 64) (t : r 9 = (r 3 / 64 + 1) * 64 + r 5) (f : Lf) (hf : f = ⟨false, 0, 0, r 10⟩) : SPo ws g j n r 23 [] (some f)
  | s24n (hb : r 4 = 0) (hi : hoP g j n (r 5) (r 6)) (h1 : r 0 = 1) (h2 : r 1 = 2) (h3 : r 2 = 64) (t : r 9 = 0) (f : Lf) (hf : f = ⟨false, 0, 0, r 10⟩) : SPo ws g j n r 24 [] (some f)
  | s24y (hi : idP g j (n + 1)) (t : r 9 = 1) (f : Lf) (hf : f = ⟨false, 0, 0, r 10⟩) : SPo ws g j n r 24 [] (some f)
  | s25 (hi : idP g j (n + 1)) (f : Lf) (hf : f = ⟨false, 0, 0, r 10⟩) : SPo ws g j n r 25 [] (some f)
  | s26 (hi : idP g j (n + 1)) (f : Lf) : SPo ws g j n r 26 [f.r] (some f)
  | s4y (hb : r 4 = 0) (hi : idP g j n) (h1 : r 0 = 1) (h2 : r 1 = 2) (h3 : r 2 = 64) (nw : nwP ws 0 (r 3)) (hz : r 3 % 64 = 0) (f : Lf) (hf : f = ⟨false, 0, 0, -1⟩) : SPo ws g j n r 4 [] (some f)
  | s5y (hb : r 4 = 0) (hi : idP g j n) (h1 : r 0 = 1) (h2 : r 1 = 2) (h3 : r 2 = 64) (hz : r 5 = 0) (f : Lf) (hf : f = ⟨false, 0, 0, -1⟩) : SPo ws g j n r 5 [] (some f)
  | s27 (hi : idP g j n) (f : Lf) (hf : f = ⟨false, 0, 0, -1⟩) : SPo ws g j n r 27 [] (some f)
  | s28 (hi : idP g j n) (hv : r 10 = -1) (f : Lf) (hf : f = ⟨false, 0, 0, -1⟩) : SPo ws g j n r 28 [] (some f)
theorem SPo.keep {i j : Nat} {ws ws' : List Int} {g g' : SGh} (sc : SC ws g) (m : Mv j ws g ws' g') (hj : j < 3) (hi3 : i < 3) (hne : i ≠ j) {n : Int} {r : Nat → Int} {pc : Int} {told : List Int} {f : Option Lf} (h : SPo ws g i n r pc told f) : SPo ws' g' i n r pc told f := by
  cases h with
  | s0 hb hi => exact .s0 hb (keep_id m hne hi)
  | s1 hb hi h1 => exact .s1 hb (keep_id m hne hi) h1
  | s2 hb hi h1 h2 => exact .s2 hb (keep_id m hne hi) h1 h2
  | s3 hb hi h1 h2 h3 => exact .s3 hb (keep_id m hne hi) h1 h2 h3
  | s4 hb hi h1 h2 h3 nw hz => exact .s4 hb (keep_id m hne hi) h1 h2 h3 (keep_nw m (by decide) nw) hz
  | s5 hb hi h1 h2 h3 nw nd => exact .s5 hb (keep_id m hne hi) h1 h2 h3 (keep_nw m (by decide) nw) nd
  | s6 hb hi h1 h2 h3 nw nd => exact .s6 hb (keep_id m hne hi) h1 h2 h3 (keep_nw m (by decide) nw) nd
  | s7 hb hi h1 h2 h3 nw nd ha => exact .s7 hb (keep_id m hne hi) h1 h2 h3 (keep_nw m (by decide) nw) nd ha
  | s8 hb hi h1 h2 h3 nw nd ha nx => exact .s8 hb (keep_id m hne hi) h1 h2 h3 (keep_nw m (by decide) nw) nd ha (keep_nx sc m hj (by decide) (by decide) nw nd nx)
  | s9 hb hi h1 h2 h3 nw nd ha nx vl => exact .s9 hb (keep_id m hne hi) h1 h2 h3 (keep_nw m (by decide) nw) nd ha (keep_nx sc m hj (by decide) (by decide) nw nd nx) (keep_nx sc m hj (by decide) (by decide) nw nd vl)
  | s10 hb hi h1 h2 h3 nw nd ha nx vl t => exact .s10 hb (keep_id m hne hi) h1 h2 h3 (keep_nw m (by decide) nw) nd ha (keep_nx sc m hj (by decide) (by decide) nw nd nx) (keep_nx sc m hj (by decide) (by decide) nw nd vl) t
  | s11 hb hi h1 h2 h3 nw nd ha nx vl t => exact .s11 hb (keep_id m hne hi) h1 h2 h3 (keep_nw m (by decide) nw) nd ha (keep_nx sc m hj (by decide) (by decide) nw nd nx) (keep_nx sc m hj (by decide) (by decide) nw nd vl) t
  | s12 hb hi h1 h2 h3 nw nd ha nx vl t => exact .s12 hb (keep_id m hne hi) h1 h2 h3 (keep_nw m (by decide) nw) nd ha (keep_nx sc m hj (by decide) (by decide) nw nd nx) (keep_nx sc m hj (by decide) (by decide) nw nd vl) t
  | s13 hb hi h1 h2 h3 nw nd ha nx vl t => exact .s13 hb (keep_id m hne hi) h1 h2 h3 (keep_nw m (by decide) nw) nd ha (keep_nx sc m hj (by decide) (by decide) nw nd nx) (keep_nx sc m hj (by decide) (by decide) nw nd vl) (keep_tu sc m hj (by decide) nw nd t)
  | s14n hb hi h1 h2 h3 t => exact .s14n hb (keep_id m hne hi) h1 h2 h3 t
  | s14y hb hi h1 h2 h3 t f hf => exact .s14y hb (keep_ho m hne hi) h1 h2 h3 t f hf
  | s15 hb hi h1 h2 h3 f hf => exact .s15 hb (keep_ho m hne hi) h1 h2 h3 f hf
  | s16 hb hi h1 h2 h3 f hf => exact .s16 hb (keep_ho m hne hi) h1 h2 h3 f hf
  | s17 hb hi h1 h2 h3 nw f hf => exact .s17 hb (keep_ho m hne hi) h1 h2 h3 (keep_nw m (by decide) nw) f hf
  | s18 hb hi h1 h2 h3 nw nx f hf => exact .s18 hb (keep_ho m hne hi) h1 h2 h3 (keep_nw m (by decide) nw) nx f hf
  | s19 hb hi h1 h2 h3 nw st2 f hf => exact .s19 hb (keep_ho m hne hi) h1 h2 h3 (keep_nw m (by decide) nw) ((keep_held sc m hj hi3 hne hi (b := 1) (by decide)).trans st2) f hf
  | s20 hb hi h1 h2 h3 nw st2 t f hf => exact .s20 hb (keep_ho m hne hi) h1 h2 h3 (keep_nw m (by decide) nw) ((keep_held sc m hj hi3 hne hi (b := 1) (by decide)).trans st2) t f hf
  | s21 hb hi h1 h2 h3 nw st2 t f hf => exact .s21 hb (keep_ho m hne hi) h1 h2 h3 (keep_nw m (by decide) nw) ((keep_held sc m hj hi3 hne hi (b := 1) (by decide)).trans st2) t f hf
  | s22 hb hi h1 h2 h3 nw st2 t f hf => exact .s22 hb (keep_ho m hne hi) h1 h2 h3 (keep_nw m (by decide) nw) ((keep_held sc m hj hi3 hne hi (b := 1) (by decide)).trans st2) t f hf
  | s23 hb hi h1 h2 h3 nw st2 t f hf => exact .s23 hb (keep_ho m hne hi) h1 h2 h3 (keep_nw m (by decide) nw) ((keep_held sc m hj hi3 hne hi (b := 1) (by decide)).trans st2) t f hf
  | s24n hb hi h1 h2 h3 t f hf => exact .s24n hb (keep_ho m hne hi) h1 h2 h3 t f hf
  | s24y hi t f hf => exact .s24y (keep_id m hne hi) t f hf
  | s25 hi f hf => exact .s25 (keep_id m hne hi) f hf
  | s26 hi f => exact .s26 (keep_id m hne hi) f
  | s4y hb hi h1 h2 h3 nw hz f hf => exact .s4y hb (keep_id m hne hi) h1 h2 h3 (keep_nw m (by decide) nw) hz f hf
  | s5y hb hi h1 h2 h3 hz f hf => exact .s5y hb (keep_id m hne hi) h1 h2 h3 hz f hf
  | s27 hi f hf => exact .s27 (keep_id m hne hi) f hf
  | s28 hi hv f hf => exact .s28 (keep_id m hne hi) hv f hf
theorem pop_step {ws : List Int} {g : SGh} {ob : Lin.Ob} (sc : SC ws g) (hob : ob = obS ws g.S) {j : Nat} (hj : j < 3) {n : Int} (h0 : 0 ≤ n) (hn : n < lenJ j) {r : Nat → Int} {pc : Int} {told : List Int} {f : Option Lf} (e : Int) (h : SPo ws g j n r pc told f) :
    ∃ g' ob' f', (f' = f ∧ ob' = ob ∨ f = none ∧ ∃ x, f' = some x ∧ Lin.onext ob (fAct x) = (ob', x.r) ∧ x.p = false) ∧ SC (vstep popL ws ⟨r, pc, told, e, false⟩).2 g' ∧ ob' = obS (vstep popL ws ⟨r, pc, told, e, false⟩).2 g'.S ∧ Mv j ws g (vstep popL ws ⟨r, pc, told, e, false⟩).2 g' ∧
      ((vstep popL ws ⟨r, pc, told, e, false⟩).1.ov = false → SPo (vstep popL ws ⟨r, pc, told, e, false⟩).2 g' j n (vstep popL ws ⟨r, pc, told, e, false⟩).1.r (vstep popL ws ⟨r, pc, told, e, false⟩).1.pc (vstep popL ws ⟨r, pc, told, e, false⟩).1.told f') ∧ ((vstep popL ws ⟨r, pc, told, e, false⟩).1.ov = true → idP g' j (n + 1) ∧ ∃ x, f' = some x ∧ (vstep popL ws ⟨r, pc, told, e, false⟩).1.told = [x.r]) := by
  have w0 := sc.w (w := 0) (by decide)
  have w1 := sc.w (w := 1) (by decide)
  cases h with
  | s0 hb hi =>
    rw [j_alu (C := popL) ⟨1, 0, 1, 0, 0⟩ 0 (1) 1 rfl rfl rfl (rfl) rfl rfl]
    refine ⟨g, ob, _, .inl ⟨rfl, rfl⟩, sc, hob, Mv.refl _ _ _, fun _ => ?_, fun h => (by cases h)⟩
    exact .s1 (r := (setR r 0 (1))) (hb := hb) (hi := hi) (h1 := rfl)
  | s1 hb hi h1 =>
    rw [j_alu (C := popL) ⟨1, 1, 2, 0, 0⟩ 1 (2) 2 rfl rfl rfl (rfl) rfl rfl]
    refine ⟨g, ob, _, .inl ⟨rfl, rfl⟩, sc, hob, Mv.refl _ _ _, fun _ => ?_, fun h => (by cases h)⟩
    exact .s2 (r := (setR r 1 (2))) (hb := hb) (hi := hi) (h1 := h1) (h2 := rfl)
  | s2 hb hi h1 h2 =>
    rw [j_alu (C := popL) ⟨1, 2, 64, 0, 0⟩ 2 (64) 3 rfl rfl rfl (rfl) rfl rfl]
    refine ⟨g, ob, _, .inl ⟨rfl, rfl⟩, sc, hob, Mv.refl _ _ _, fun _ => ?_, fun h => (by cases h)⟩
    exact .s3 (r := (setR r 2 (64))) (hb := hb) (hi := hi) (h1 := h1) (h2 := h2) (h3 := rfl)
  | s3 hb hi h1 h2 h3 =>
    rw [j_load (C := popL) ⟨13, 3, 4, 0, 0⟩ 3 4 0 rfl rfl rfl (show wrp (r 4 + 0) = _ by rw [hb]; rfl) (by rw [sc.len]; decide) rfl rfl]
    by_cases hz : ws.getD 0 0 % 64 = 0
    · refine ⟨g, ob, some ⟨false, 0, 0, -1⟩, .inr ⟨rfl, _, rfl, ?_, rfl⟩, sc, hob, Mv.refl _ _ _, fun _ => .s4y (r := (setR r 3 (ws.getD 0 0))) (hb := hb) (hi := hi) (h1 := h1) (h2 := h2) (h3 := h3) (nw := ⟨w0.1, Int.le_refl _, w0.2.1⟩) (hz := hz) (f := ⟨false, 0, 0, -1⟩) (hf := rfl), fun h => (by cases h)⟩
      rw [hob, empty_S sc hz]; rfl
    · refine ⟨g, ob, _, .inl ⟨rfl, rfl⟩, sc, hob, Mv.refl _ _ _, fun _ => ?_, fun h => (by cases h)⟩
      have hw := w0.1
      exact .s4 (r := (setR r 3 (ws.getD 0 0))) (hb := hb) (hi := hi) (h1 := h1) (h2 := h2) (h3 := h3) (nw := ⟨w0.1, Int.le_refl _, w0.2.1⟩) (hz := ⟨(show 1 ≤ ws.getD 0 0 % 64 by omega), w0.2.2⟩)
  | s4 hb hi h1 h2 h3 nw hz =>
    rw [j_alu (C := popL) ⟨7, 5, 3, 2, 0⟩ 5 (r 3 % 64) 5 rfl rfl rfl (alu_rem h3 nw.1) rfl rfl]
    refine ⟨g, ob, _, .inl ⟨rfl, rfl⟩, sc, hob, Mv.refl _ _ _, fun _ => ?_, fun h => (by cases h)⟩
    exact .s5 (r := (setR r 5 (r 3 % 64))) (hb := hb) (hi := hi) (h1 := h1) (h2 := h2) (h3 := h3) (nw := nw) (nd := ⟨rfl, hz.1, hz.2⟩)
  | s5 hb hi h1 h2 h3 nw nd =>
    rw [j_un1 (C := popL) ⟨12, 5, 27, 0, 0⟩ 6 rfl rfl (show ¬ r 5 = 0 by have := nd.2.1; omega) rfl rfl rfl]
    refine ⟨g, ob, _, .inl ⟨rfl, rfl⟩, sc, hob, Mv.refl _ _ _, fun _ => ?_, fun h => (by cases h)⟩
    exact .s6 (r := r) (hb := hb) (hi := hi) (h1 := h1) (h2 := h2) (h3 := h3) (nw := nw) (nd := nd)
  | s6 hb hi h1 h2 h3 nw nd =>
    rw [j_alu (C := popL) ⟨5, 6, 5, 1, 0⟩ 6 (2 * r 5) 7 rfl rfl rfl (alu_mul (show r 5 * r 1 = _ by rw [h2]; omega) (by have := nd.2; omega)) rfl rfl]
    refine ⟨g, ob, _, .inl ⟨rfl, rfl⟩, sc, hob, Mv.refl _ _ _, fun _ => ?_, fun h => (by cases h)⟩
    exact .s7 (r := (setR r 6 (2 * r 5))) (hb := hb) (hi := hi) (h1 := h1) (h2 := h2) (h3 := h3) (nw := nw) (nd := nd) (ha := rfl)
  | s7 hb hi h1 h2 h3 nw nd ha =>
    rw [j_load (C := popL) ⟨13, 7, 6, 1, 0⟩ 7 8 (2 * (r 5).toNat + 1) rfl rfl rfl (show wrp (r 6 + 1) = _ by have hq := nd.2; rw [ha, wrp_k (by omega)]; omega) (by have hq := nd.2; rw [sc.len]; omega) rfl rfl]
    refine ⟨g, ob, _, .inl ⟨rfl, rfl⟩, sc, hob, Mv.refl _ _ _, fun _ => ?_, fun h => (by cases h)⟩
    exact .s8 (r := (setR r 7 (ws.getD (2 * (r 5).toNat + 1) 0))) (hb := hb) (hi := hi) (h1 := h1) (h2 := h2) (h3 := h3) (nw := nw) (nd := nd) (ha := ha) (nx := fun _ => rfl)
  | s8 hb hi h1 h2 h3 nw nd ha nx =>
    rw [j_load (C := popL) ⟨13, 8, 6, 0, 0⟩ 8 9 (2 * (r 5).toNat + 0) rfl rfl rfl (show wrp (r 6 + 0) = _ by have hq := nd.2; rw [ha, wrp_k (by omega)]; omega) (by have hq := nd.2; rw [sc.len]; omega) rfl rfl]
    refine ⟨g, ob, _, .inl ⟨rfl, rfl⟩, sc, hob, Mv.refl _ _ _, fun _ => ?_, fun h => (by cases h)⟩
    exact .s9 (r := (setR r 8 (ws.getD (2 * (r 5).toNat + 0) 0))) (hb := hb) (hi := hi) (h1 := h1) (h2 := h2) (h3 := h3) (nw := nw) (nd := nd) (ha := ha) (nx := nx) (vl := fun _ => rfl)
  | s9 hb hi h1 h2 h3 nw nd ha nx vl =>
    rw [j_alu (C := popL) ⟨6, 9, 3, 2, 0⟩ 9 (r 3 / 64) 10 rfl rfl rfl (alu_div h3 ⟨nw.1, (show r 3 ≤ 1000000 by have := nw.2.2; omega)⟩) rfl rfl]
    refine ⟨g, ob, _, .inl ⟨rfl, rfl⟩, sc, hob, Mv.refl _ _ _, fun _ => ?_, fun h => (by cases h)⟩
    exact .s10 (r := (setR r 9 (r 3 / 64))) (hb := hb) (hi := hi) (h1 := h1) (h2 := h2) (h3 := h3) (nw := nw) (nd := nd) (ha := ha) (nx := nx) (vl := vl) (t := rfl)
  | s10 hb hi h1 h2 h3 nw nd ha nx vl t =>
    rw [j_alu (C := popL) ⟨3, 9, 9, 0, 0⟩ 9 (r 3 / 64 + 1) 11 rfl rfl rfl ((alu_add (show 0 ≤ r 9 + r 0 ∧ r 9 + r 0 ≤ 1000000 by rw [t, h1]; have := nw.1; have := nw.2.2; omega)).trans (show r 9 + r 0 = _ by rw [t, h1])) rfl rfl]
    refine ⟨g, ob, _, .inl ⟨rfl, rfl⟩, sc, hob, Mv.refl _ _ _, fun _ => ?_, fun h => (by cases h)⟩
    exact .s11 (r := (setR r 9 (r 3 / 64 + 1))) (hb := hb) (hi := hi) (h1 := h1) (h2 := h2) (h3 := h3) (nw := nw) (nd := nd) (ha := ha) (nx := nx) (vl := vl) (t := rfl)
  | s11 hb hi h1 h2 h3 nw nd ha nx vl t =>
    rw [j_alu (C := popL) ⟨5, 9, 9, 2, 0⟩ 9 ((r 3 / 64 + 1) * 64) 12 rfl rfl rfl (alu_mul (show r 9 * r 2 = _ by rw [t, h3]) (by have := nw.1; have := nw.2.2; omega)) rfl rfl]
    refine ⟨g, ob, _, .inl ⟨rfl, rfl⟩, sc, hob, Mv.refl _ _ _, fun _ => ?_, fun h => (by cases h)⟩
    exact .s12 (r := (setR r 9 ((r 3 / 64 + 1) * 64))) (hb := hb) (hi := hi) (h1 := h1) (h2 := h2) (h3 := h3) (nw := nw) (nd := nd) (ha := ha) (nx := nx) (vl := vl) (t := rfl)
  | s12 hb hi h1 h2 h3 nw nd ha nx vl t =>
    rw [j_alu (C := popL) ⟨3, 9, 9, 7, 0⟩ 9 (alu ⟨3, 9, 9, 7, 0⟩ r) 13 rfl rfl rfl (rfl) rfl rfl]
    refine ⟨g, ob, _, .inl ⟨rfl, rfl⟩, sc, hob, Mv.refl _ _ _, fun _ => ?_, fun h => (by cases h)⟩
    exact .s13 (r := (setR r 9 (alu ⟨3, 9, 9, 7, 0⟩ r))) (hb := hb) (hi := hi) (h1 := h1) (h2 := h2) (h3 := h3) (nw := nw) (nd := nd) (ha := ha) (nx := nx) (vl := vl) (t := (fun he => by have he : ws.getD 0 0 = r 3 := he; have hq := nxt_le sc (by decide) he nd; have hx := nx he; show alu ⟨3, 9, 9, 7, 0⟩ r = (r 3 / 64 + 1) * 64 + ws.getD (2 * (r 5).toNat + 1) 0; rw [← hx] at hq ⊢; exact (alu_add (show 0 ≤ r 9 + r 7 ∧ r 9 + r 7 ≤ 1000000 by rw [t]; have := nw.1; have := nw.2.2; omega)).trans (show r 9 + r 7 = _ by rw [t])))
  | s13 hb hi h1 h2 h3 nw nd ha nx vl t =>
    by_cases hc : ws.getD 0 0 = r 3
    · obtain ⟨a, l, b1, b2, b3, b4, b5⟩ := sc.hd (w := 0) (by decide) (node := r 5) (by rw [hc]; exact nd.1.symm) nd.2.1
      have b1 : g.S = a :: l := b1
      have ea : (r 5).toNat = a := by rw [b2]; simp
      have tv : r 9 = (ws.getD 0 0 / 64 + 1) * 64 + hdI l := by rw [t hc, hc, ea, b3]
      obtain ⟨q1, q2⟩ := sc.takeS hj hi.1 hi.2.1 (by have := hi.2.2; omega) b1 tv
      rw [j_cas1 (C := popL) ⟨15, 9, 4, 0, 3⟩ 9 (r 9) 14 0 rfl rfl rfl rfl hc (show wrp (r 4 + 0) = _ by rw [hb]; rfl) (by rw [sc.len]; decide) rfl rfl]
      have hho : hoP ⟨l, g.F, putF1 g.H j a, putF1 g.d j (g.d j + 1)⟩ j n (r 5) (r 6) := ⟨(putF1_same _ _ _).trans ea.symm, nd.2.1, nd.2.2, ha, by show putF1 g.d j (g.d j + 1) j % 2 = 1; rw [putF1_same]; have := hi.2.1; omega, by show putF1 g.d j (g.d j + 1) j ≤ 2 * n + 1; rw [putF1_same]; have := hi.2.2; omega⟩
      have cw : ∀ b, 1 ≤ b → (ws.set 0 (r 9)).getD (2 * b) 0 = ws.getD (2 * b) 0 := fun b hb => by rw [gset (by rw [sc.len]; decide), if_neg (by omega)]
      have hvl := vl hc
      refine ⟨_, obS ws l, some ⟨false, 0, 0, r 8⟩, .inr ⟨rfl, _, rfl, ?_, rfl⟩, q1, ?_, q2, fun _ => .s14y (r := (setR r 9 1)) (hb := hb) (hi := hho) (h1 := h1) (h2 := h2) (h3 := h3) (t := rfl) (f := ⟨false, 0, 0, r 8⟩) (hf := rfl), fun h => (by cases h)⟩
      · rw [hob, b1]; show Lin.onext (obS ws (a :: l)) ⟨0, 0, false, 0, 0⟩ = _; rw [ob_pop, hvl, ea]; rfl
      · exact (obS_keep fun b hb => cw b (sc.rg b (by rw [b1]; exact List.mem_append_left _ (List.mem_cons_of_mem _ hb))).1).symm
    · rw [j_cas0 (C := popL) ⟨15, 9, 4, 0, 3⟩ 9 14 0 rfl rfl rfl hc (show wrp (r 4 + 0) = _ by rw [hb]; rfl) (by rw [sc.len]; decide) rfl rfl]
      refine ⟨g, ob, _, .inl ⟨rfl, rfl⟩, sc, hob, Mv.refl _ _ _, fun _ => ?_, fun h => (by cases h)⟩
      exact .s14n (r := (setR r 9 0)) (hb := hb) (hi := hi) (h1 := h1) (h2 := h2) (h3 := h3) (t := rfl)
  | s14n hb hi h1 h2 h3 t =>
    rw [j_un0 (C := popL) ⟨12, 9, 3, 0, 0⟩ 3 rfl rfl (show r 9 = 0 from t) rfl rfl rfl]
    refine ⟨g, ob, _, .inl ⟨rfl, rfl⟩, sc, hob, Mv.refl _ _ _, fun _ => ?_, fun h => (by cases h)⟩
    exact .s3 (r := r) (hb := hb) (hi := hi) (h1 := h1) (h2 := h2) (h3 := h3)
  | s14y hb hi h1 h2 h3 t f hf =>
    rw [j_un1 (C := popL) ⟨12, 9, 3, 0, 0⟩ 15 rfl rfl (show ¬ r 9 = 0 by omega) rfl rfl rfl]
    refine ⟨g, ob, _, .inl ⟨rfl, rfl⟩, sc, hob, Mv.refl _ _ _, fun _ => ?_, fun h => (by cases h)⟩
    exact .s15 (r := r) (hb := hb) (hi := hi) (h1 := h1) (h2 := h2) (h3 := h3) (f := f) (hf := hf)
  | s15 hb hi h1 h2 h3 f hf =>
    rw [j_alu (C := popL) ⟨2, 10, 8, 0, 0⟩ 10 (r 8) 16 rfl rfl rfl (rfl) rfl rfl]
    refine ⟨g, ob, _, .inl ⟨rfl, rfl⟩, sc, hob, Mv.refl _ _ _, fun _ => ?_, fun h => (by cases h)⟩
    exact .s16 (r := (setR r 10 (r 8))) (hb := hb) (hi := hi) (h1 := h1) (h2 := h2) (h3 := h3) (f := f) (hf := hf)
  | s16 hb hi h1 h2 h3 f hf =>
    rw [j_load (C := popL) ⟨13, 3, 4, 1, 0⟩ 3 17 1 rfl rfl rfl (show wrp (r 4 + 1) = _ by rw [hb]; rfl) (by rw [sc.len]; decide) rfl rfl]
    refine ⟨g, ob, _, .inl ⟨rfl, rfl⟩, sc, hob, Mv.refl _ _ _, fun _ => ?_, fun h => (by cases h)⟩
    exact .s17 (r := (setR r 3 (ws.getD 1 0))) (hb := hb) (hi := hi) (h1 := h1) (h2 := h2) (h3 := h3) (nw := ⟨w1.1, Int.le_refl _, w1.2.1⟩) (f := f) (hf := hf)
  | s17 hb hi h1 h2 h3 nw f hf =>
    rw [j_alu (C := popL) ⟨7, 7, 3, 2, 0⟩ 7 (r 3 % 64) 18 rfl rfl rfl (alu_rem h3 nw.1) rfl rfl]
    refine ⟨g, ob, _, .inl ⟨rfl, rfl⟩, sc, hob, Mv.refl _ _ _, fun _ => ?_, fun h => (by cases h)⟩
    exact .s18 (r := (setR r 7 (r 3 % 64))) (hb := hb) (hi := hi) (h1 := h1) (h2 := h2) (h3 := h3) (nw := nw) (nx := rfl) (f := f) (hf := hf)
  | s18 hb hi h1 h2 h3 nw nx f hf =>
    obtain ⟨q1, q2, q3⟩ := sc.cell hj (b := 1) (by decide) hi.1 (by have := hi.2.1; omega) (r 3 % 64)
    have hlt : (2 * (r 5).toNat + 1) < ws.length := (by have hq := (show 1 ≤ r 5 ∧ r 5 ≤ 8 from ⟨hi.2.1, hi.2.2.1⟩); rw [sc.len]; omega)
    rw [j_store (C := popL) ⟨14, 7, 6, 1, 0⟩ (r 3 % 64) 19 (2 * (r 5).toNat + 1) rfl rfl (show r 7 = _ from nx) (show wrp (r 6 + 1) = _ by have hq := (show 1 ≤ r 5 ∧ r 5 ≤ 8 from ⟨hi.2.1, hi.2.2.1⟩); rw [hi.2.2.2.1, wrp_k (by omega)]; omega) hlt rfl rfl]
    refine ⟨g, ob, _, .inl ⟨rfl, rfl⟩, q1, ?_, q2, fun _ => .s19 (r := r) (hb := hb) (hi := hi) (h1 := h1) (h2 := h2) (h3 := h3) (nw := (keep_nw q2 (by decide) nw)) (st2 := (by show (ws.set (2 * (r 5).toNat + 1) (r 3 % 64)).getD (2 * (r 5).toNat + 1) 0 = _; rw [gset hlt, if_pos rfl])) (f := f) (hf := hf), fun h => (by cases h)⟩
    rw [hob]; exact (obS_keep q3).symm
  | s19 hb hi h1 h2 h3 nw st2 f hf =>
    rw [j_alu (C := popL) ⟨6, 9, 3, 2, 0⟩ 9 (r 3 / 64) 20 rfl rfl rfl (alu_div h3 ⟨nw.1, (show r 3 ≤ 1000000 by have := nw.2.2; omega)⟩) rfl rfl]
    refine ⟨g, ob, _, .inl ⟨rfl, rfl⟩, sc, hob, Mv.refl _ _ _, fun _ => ?_, fun h => (by cases h)⟩
    exact .s20 (r := (setR r 9 (r 3 / 64))) (hb := hb) (hi := hi) (h1 := h1) (h2 := h2) (h3 := h3) (nw := nw) (st2 := st2) (t := rfl) (f := f) (hf := hf)
  | s20 hb hi h1 h2 h3 nw st2 t f hf =>
    rw [j_alu (C := popL) ⟨3, 9, 9, 0, 0⟩ 9 (r 3 / 64 + 1) 21 rfl rfl rfl ((alu_add (show 0 ≤ r 9 + r 0 ∧ r 9 + r 0 ≤ 1000000 by rw [t, h1]; have := nw.1; have := nw.2.2; omega)).trans (show r 9 + r 0 = _ by rw [t, h1])) rfl rfl]
    refine ⟨g, ob, _, .inl ⟨rfl, rfl⟩, sc, hob, Mv.refl _ _ _, fun _ => ?_, fun h => (by cases h)⟩
    exact .s21 (r := (setR r 9 (r 3 / 64 + 1))) (hb := hb) (hi := hi) (h1 := h1) (h2 := h2) (h3 := h3) (nw := nw) (st2 := st2) (t := rfl) (f := f) (hf := hf)
  | s21 hb hi h1 h2 h3 nw st2 t f hf =>
    rw [j_alu (C := popL) ⟨5, 9, 9, 2, 0⟩ 9 ((r 3 / 64 + 1) * 64) 22 rfl rfl rfl (alu_mul (show r 9 * r 2 = _ by rw [t, h3]) (by have := nw.1; have := nw.2.2; omega)) rfl rfl]
    refine ⟨g, ob, _, .inl ⟨rfl, rfl⟩, sc, hob, Mv.refl _ _ _, fun _ => ?_, fun h => (by cases h)⟩
    exact .s22 (r := (setR r 9 ((r 3 / 64 + 1) * 64))) (hb := hb) (hi := hi) (h1 := h1) (h2 := h2) (h3 := h3) (nw := nw) (st2 := st2) (t := rfl) (f := f) (hf := hf)
  | s22 hb hi h1 h2 h3 nw st2 t f hf =>
    rw [j_alu (C := popL) ⟨3, 9, 9, 5, 0⟩ 9 ((r 3 / 64 + 1) * 64 + r 5) 23 rfl rfl rfl ((alu_add (show 0 ≤ r 9 + r 5 ∧ r 9 + r 5 ≤ 1000000 by rw [t]; have := nw.1; have := nw.2.2; have := hi.2.1; have := hi.2.2.1; omega)).trans (show r 9 + r 5 = _ by rw [t])) rfl rfl]
    refine ⟨g, ob, _, .inl ⟨rfl, rfl⟩, sc, hob, Mv.refl _ _ _, fun _ => ?_, fun h => (by cases h)⟩
    exact .s23 (r := (setR r 9 ((r 3 / 64 + 1) * 64 + r 5))) (hb := hb) (hi := hi) (h1 := h1) (h2 := h2) (h3 := h3) (nw := nw) (st2 := st2) (t := rfl) (f := f) (hf := hf)
  | s23 hb hi h1 h2 h3 nw st2 t f hf =>
    by_cases hc : ws.getD 1 0 = r 3
    · have hnx : ws.getD (2 * (r 5).toNat + 1) 0 = hdI g.F := by rw [st2, ← hc]; exact sc.t1.2
      have hq := hi.2.1
      have tv : r 9 = (ws.getD 1 0 / 64 + 1) * 64 + ((r 5).toNat : Int) := by rw [t, hc]; omega
      obtain ⟨q1, q2⟩ := sc.giveF hj hi.1 (by omega) hi.2.2.2.2.1 (by have := hi.2.2.2.2.2; omega) hnx tv
      rw [j_cas1 (C := popL) ⟨15, 9, 4, 1, 3⟩ 9 (r 9) 24 1 rfl rfl rfl rfl hc (show wrp (r 4 + 1) = _ by rw [hb]; rfl) (by rw [sc.len]; decide) rfl rfl]
      have hid : idP ⟨g.S, (r 5).toNat :: g.F, putF1 g.H j 0, putF1 g.d j (g.d j + 1)⟩ j (n + 1) := ⟨putF1_same _ _ _, by show putF1 g.d j (g.d j + 1) j % 2 = 0; rw [putF1_same]; have := hi.2.2.2.2.1; omega, by show putF1 g.d j (g.d j + 1) j ≤ 2 * (n + 1); rw [putF1_same]; have := hi.2.2.2.2.2; omega⟩
      have cw : ∀ b, 1 ≤ b → (ws.set 1 (r 9)).getD (2 * b) 0 = ws.getD (2 * b) 0 := fun b hb => by rw [gset (by rw [sc.len]; decide), if_neg (by omega)]
      refine ⟨_, ob, _, .inl ⟨rfl, rfl⟩, q1, ?_, q2, fun _ => .s24y (r := (setR r 9 1)) (hi := hid) (t := rfl) (f := f) (hf := hf), fun h => (by cases h)⟩
      rw [hob]; exact (obS_keep fun b hb => cw b (sc.rg b (List.mem_append_left _ hb)).1).symm
    · rw [j_cas0 (C := popL) ⟨15, 9, 4, 1, 3⟩ 9 24 1 rfl rfl rfl hc (show wrp (r 4 + 1) = _ by rw [hb]; rfl) (by rw [sc.len]; decide) rfl rfl]
      refine ⟨g, ob, _, .inl ⟨rfl, rfl⟩, sc, hob, Mv.refl _ _ _, fun _ => ?_, fun h => (by cases h)⟩
      exact .s24n (r := (setR r 9 0)) (hb := hb) (hi := hi) (h1 := h1) (h2 := h2) (h3 := h3) (t := rfl) (f := f) (hf := hf)
  | s24n hb hi h1 h2 h3 t f hf =>
    rw [j_un0 (C := popL) ⟨12, 9, 16, 0, 0⟩ 16 rfl rfl (show r 9 = 0 from t) rfl rfl rfl]
    refine ⟨g, ob, _, .inl ⟨rfl, rfl⟩, sc, hob, Mv.refl _ _ _, fun _ => ?_, fun h => (by cases h)⟩
    exact .s16 (r := r) (hb := hb) (hi := hi) (h1 := h1) (h2 := h2) (h3 := h3) (f := f) (hf := hf)
  | s24y hi t f hf =>
    rw [j_un1 (C := popL) ⟨12, 9, 16, 0, 0⟩ 25 rfl rfl (show ¬ r 9 = 0 by omega) rfl rfl rfl]
    refine ⟨g, ob, _, .inl ⟨rfl, rfl⟩, sc, hob, Mv.refl _ _ _, fun _ => ?_, fun h => (by cases h)⟩
    exact .s25 (r := r) (hi := hi) (f := f) (hf := hf)
  | s25 hi f hf =>
    rw [j_tell (C := popL) ⟨16, 10, 0, 0, 0⟩ f.r 26 false rfl rfl (show r 10 = f.r by rw [hf]) rfl rfl]
    refine ⟨g, ob, _, .inl ⟨rfl, rfl⟩, sc, hob, Mv.refl _ _ _, fun _ => ?_, fun h => (by cases h)⟩
    exact .s26 (r := r) (hi := hi) (f := f)
  | s26 hi f =>
    rw [j_done (C := popL) ⟨17, 0, 0, 0, 0⟩ 27 rfl rfl rfl]
    exact ⟨g, ob, _, .inl ⟨rfl, rfl⟩, sc, hob, Mv.refl _ _ _, fun h => (by cases h), fun _ => ⟨hi, _, rfl, rfl⟩⟩
  | s4y hb hi h1 h2 h3 nw hz f hf =>
    rw [j_alu (C := popL) ⟨7, 5, 3, 2, 0⟩ 5 (r 3 % 64) 5 rfl rfl rfl (alu_rem h3 nw.1) rfl rfl]
    refine ⟨g, ob, _, .inl ⟨rfl, rfl⟩, sc, hob, Mv.refl _ _ _, fun _ => ?_, fun h => (by cases h)⟩
    exact .s5y (r := (setR r 5 (r 3 % 64))) (hb := hb) (hi := hi) (h1 := h1) (h2 := h2) (h3 := h3) (hz := hz) (f := f) (hf := hf)
  | s5y hb hi h1 h2 h3 hz f hf =>
    rw [j_un0 (C := popL) ⟨12, 5, 27, 0, 0⟩ 27 rfl rfl (show r 5 = 0 from hz) rfl rfl rfl]
    refine ⟨g, ob, _, .inl ⟨rfl, rfl⟩, sc, hob, Mv.refl _ _ _, fun _ => ?_, fun h => (by cases h)⟩
    exact .s27 (r := r) (hi := hi) (f := f) (hf := hf)
  | s27 hi f hf =>
    rw [j_alu (C := popL) ⟨1, 10, -1, 0, 0⟩ 10 (-1) 28 rfl rfl rfl (rfl) rfl rfl]
    refine ⟨g, ob, _, .inl ⟨rfl, rfl⟩, sc, hob, Mv.refl _ _ _, fun _ => ?_, fun h => (by cases h)⟩
    exact .s28 (r := (setR r 10 (-1))) (hi := hi) (hv := rfl) (f := f) (hf := hf)
  | s28 hi hv f hf =>
    rw [j_tell (C := popL) ⟨16, 10, 0, 0, 0⟩ (-1) 29 true rfl rfl (show r 10 = -1 from hv) rfl rfl]
    exact ⟨g, ob, _, .inl ⟨rfl, rfl⟩, sc, hob, Mv.refl _ _ _, fun h => (by cases h), fun _ => ⟨⟨hi.1, hi.2.1, by have := hi.2.2; omega⟩, _, rfl, by rw [hf]⟩⟩
end Go.Proofs.YtnnjobmiepnedaaDoor.Nice

/- The stack's histories could be one behind the other. -/
namespace Go.Proofs.YtnnjobmiepnedaaDoor.Nice
open Go
set_option linter.unusedVariables false
set_option linter.unusedSimpArgs false
set_option maxRecDepth 100000
set_option maxHeartbeats 4000000
def stW : List Int := [0, 1, 0, 2, 0, 3, 0, 4, 0, 5, 0, 6, 0, 7, 0, 8, 0, 0]
def sq (c : Nat → CallD) : Mach := ⟨stW, [pushL, popL], [[c 0, c 3, c 6], [c 1, c 4, c 7], [c 2, c 5]]⟩
def okS (c : CallD) : Prop := c.code = 0 ∧ (∃ v, 0 ≤ v ∧ c.args = [v]) ∨ c.code = 1 ∧ c.args = []
def sArg (c : CallD) : Int := c.args.getD 0 0
theorem sq_len (c : Nat → CallD) {j : Nat} (hj : j < 3) : (((sq c).ts.getD j []).length : Int) = lenJ j := by
  rcases (show j = 0 ∨ j = 1 ∨ j = 2 by omega) with rfl | rfl | rfl <;> rfl
theorem sq_call (c : Nat → CallD) {j : Nat} {n : Int} (hj : j < 3) (h0 : 0 ≤ n) (h1 : n < lenJ j) : callAt (sq c) j n = c (j + 3 * n.toNat) := by
  rcases (show j = 0 ∨ j = 1 ∨ j = 2 by omega) with rfl | rfl | rfl
  · have h1 : n < 3 := h1
    rcases (show n = 0 ∨ n = 1 ∨ n = 2 by omega) with rfl | rfl | rfl <;> rfl
  · have h1 : n < 3 := h1
    rcases (show n = 0 ∨ n = 1 ∨ n = 2 by omega) with rfl | rfl | rfl <;> rfl
  · have h1 : n < 2 := h1
    rcases (show n = 0 ∨ n = 1 by omega) with rfl | rfl <;> rfl
theorem sq_code (c : Nat → CallD) {j : Nat} {n : Int} : codeOf (sq c) j n = [pushL, popL].getD (callAt (sq c) j n).code.toNat [] := rfl
def sg0 : SGh := ⟨[], [1, 2, 3, 4, 5, 6, 7, 8], fun _ => 0, fun _ => 0⟩
theorem sc0 : SC stW sg0 := by
  refine ⟨rfl, ⟨by decide, rfl⟩, ⟨by decide, rfl⟩, by decide, trivial, ⟨rfl, rfl, rfl, rfl, rfl, rfl, rfl, rfl, trivial⟩, by decide, by decide, fun j _ h => absurd rfl h, fun i j _ _ _ h => absurd rfl h, rfl, by decide, fun j hj => ?_⟩
  show (0 : Int) ≤ 0 ∧ (0 : Int) ≤ 2 * lenJ j
  unfold lenJ; split <;> decide
def sTA (c : CallD) (ws : List Int) (g : SGh) (j : Nat) (n : Int) (C : List Ins) (t : Thr) (f : Option Lf) : Prop :=
  j < 3 ∧ t.ov = false ∧ ((c.code = 0 ∧ C = pushL ∧ SPu ws g j n (sArg c) t.r t.pc t.told f) ∨ (c.code = 1 ∧ C = popL ∧ SPo ws g j n t.r t.pc t.told f))
def sFit (c : CallD) (f : Lf) : Prop := (c.code = 0 ∧ f.p = true ∧ f.v = sArg c ∧ f.r = sArg c) ∨ (c.code = 1 ∧ f.p = false)
def sTl (c : CallD) (f : Lf) (told : List Int) : Prop := (c.code = 0 → told = [1]) ∧ (c.code = 1 → told = [f.r])
def stackA (c : Nat → CallD) (hc : ∀ i, okS (c i)) : Alg where
  q := sq c
  o0 := .hp true []
  G := SGh
  g0 := sg0
  Sh ws ob g := SC ws g ∧ ob = obS ws g.S
  Idle g j n := idP g j n
  TA ws g j n C t f := sTA (callAt (sq c) j n) ws g j n C t f
  Fit := sFit
  Tl := sTl
  three := rfl
  init := ⟨⟨sc0, rfl⟩, fun j => ⟨rfl, rfl, Int.le_refl _⟩⟩
  start ws ob g j n hj h0 h1 hs hi := by
    have h1 : n < lenJ j := by rw [← sq_len c hj]; exact h1
    refine ⟨g, hs, ⟨hj, ?_, ?_⟩, fun _ _ _ h => h, fun _ _ _ _ _ _ h => h⟩
    · rw [sq_code, sq_call c hj h0 h1]
      rcases hc (j + 3 * n.toNat) with ⟨h2, _⟩ | ⟨h2, _⟩ <;> rw [h2] <;> rfl
    · rw [sq_code, sq_call c hj h0 h1]
      have nil : ∀ (l : List Int) (k : Nat), l.length ≤ k → l.getD k 0 = 0 := fun l k h => by rw [List.getD_eq_getElem?_getD, List.getElem?_eq_none h]; rfl
      rcases hc (j + 3 * n.toNat) with ⟨h2, v, hv, h3⟩ | ⟨h2, h3⟩
      · rw [h2]
        refine .inl ⟨rfl, rfl, .s0 ?_ rfl hi⟩
        show (c (j + 3 * n.toNat)).args.getD 5 0 = 0
        exact nil _ _ (by rw [h3]; show 1 ≤ 5; decide)
      · rw [h2]
        refine .inr ⟨rfl, rfl, .s0 ?_ hi⟩
        show (c (j + 3 * n.toNat)).args.getD 4 0 = 0
        exact nil _ _ (by rw [h3]; decide)
  step ws ob g j n C t f hj h0 h1 hs ht := by
    have h1 : n < lenJ j := by rw [← sq_len c hj]; exact h1
    obtain ⟨sc, hob⟩ := hs
    obtain ⟨_, hov, ht⟩ := ht
    obtain ⟨r, pc, told, e, ov⟩ := t
    simp only at hov
    subst hov
    rcases ht with ⟨hk, rfl, ht⟩ | ⟨hk, rfl, ht⟩
    · obtain ⟨g', ob', f', s1, s2, s3, s4, s5, s6⟩ := push_step sc hob hj h0 h1 e ht
      refine ⟨g', ob', f', s1.imp id (fun ⟨a, x, b, d, hx⟩ => ⟨a, x, b, d, .inl ⟨hk, by rw [hx], by rw [hx], by rw [hx]⟩⟩), ⟨s2, s3⟩, fun h => ⟨hj, h, .inl ⟨hk, rfl, s5 h⟩⟩, fun h => ?_, fun i m hi h => keep_id s4 hi h, fun i m C' t' f hi h => ?_⟩
      · obtain ⟨a, x, b, d⟩ := s6 h
        exact ⟨a, x, b, fun _ => d, fun h1 => by rw [hk] at h1; cases h1⟩
      · obtain ⟨a, b, h⟩ := h
        exact ⟨a, b, h.imp (fun ⟨p, q, h⟩ => ⟨p, q, h.keep sc s4 hj a hi⟩) (fun ⟨p, q, h⟩ => ⟨p, q, h.keep sc s4 hj a hi⟩)⟩
    · obtain ⟨g', ob', f', s1, s2, s3, s4, s5, s6⟩ := pop_step sc hob hj h0 h1 e ht
      refine ⟨g', ob', f', s1.imp id (fun ⟨a, x, b, d, hx⟩ => ⟨a, x, b, d, .inr ⟨hk, hx⟩⟩), ⟨s2, s3⟩, fun h => ⟨hj, h, .inr ⟨hk, rfl, s5 h⟩⟩, fun h => ?_, fun i m hi h => keep_id s4 hi h, fun i m C' t' f hi h => ?_⟩
      · obtain ⟨a, x, b, d⟩ := s6 h
        exact ⟨a, x, b, fun h1 => (by rw [hk] at h1; cases h1), fun _ => d⟩
      · obtain ⟨a, b, h⟩ := h
        exact ⟨a, b, h.imp (fun ⟨p, q, h⟩ => ⟨p, q, h.keep sc s4 hj a hi⟩) (fun ⟨p, q, h⟩ => ⟨p, q, h.keep sc s4 hj a hi⟩)⟩
def putS : PutF := fun c told fin => if c.code = 0 then (true, c.args.getD 0 0, !fin || (decide (told.length = 1) && decide (told.getD 0 0 = 1))) else if fin = false then (false, -1, true) else if told.length = 1 then (false, told.getD 0 0, true) else (false, 0, false)
theorem seq_nonneg : ∀ (ord : List Lz), (∀ x, x ∈ ord → x.f.p = true → 0 ≤ x.f.v) → seqO (.hp true []) ord → (∃ l, stO (.hp true []) ord = .hp true l ∧ ∀ v, v ∈ l → 0 ≤ v) ∧ ∀ x, x ∈ ord → x.f.p = false → 0 ≤ x.f.r ∨ x.f.r = -1
  | [], _, _ => ⟨⟨[], rfl, fun v hv => by cases hv⟩, fun x hx => by cases hx⟩
  | x :: ord, hp, hs => by
    obtain ⟨⟨l, h1, h2⟩, h3⟩ := seq_nonneg ord (fun y hy => hp y (List.mem_cons_of_mem _ hy)) hs.2
    have hr := hs.1
    rw [h1] at hr
    have hst : stO (.hp true []) (x :: ord) = (Lin.onext (.hp true l) (fAct x.f)).1 := by rw [stO, h1]
    cases hxp : x.f.p with
    | true =>
      have ha : (fAct x.f).p = true := hxp
      rw [Lin.onext_put ha] at hr hst
      refine ⟨⟨_, hst, fun v hv => ?_⟩, fun y hy hyp => ?_⟩
      · rcases List.mem_append.1 hv with hv | hv
        · exact h2 v hv
        · rw [List.mem_singleton.1 hv]; exact hp x (List.mem_cons_self ..) hxp
      · rcases List.mem_cons.1 hy with rfl | hy
        · rw [hxp] at hyp; cases hyp
        · exact h3 y hy hyp
    | false =>
      have ha : (fAct x.f).p = false := hxp
      by_cases hl : l.length = 0
      · rw [Lin.onext_none ha hl] at hr hst
        refine ⟨⟨_, hst, h2⟩, fun y hy hyp => ?_⟩
        rcases List.mem_cons.1 hy with rfl | hy
        · exact .inr hr.symm
        · exact h3 y hy hyp
      · rw [Lin.onext_last ha hl rfl] at hr hst
        refine ⟨⟨_, hst, fun v hv => h2 v (List.mem_of_mem_take hv)⟩, fun y hy hyp => ?_⟩
        rcases List.mem_cons.1 hy with rfl | hy
        · left; rw [← hr]; show 0 ≤ l.getD (l.length - 1) 0
          rw [Lin.getG (by omega)]; exact h2 _ (List.getElem_mem _)
        · exact h3 y hy hyp
theorem stack_yes {c : Nat → CallD} (hc : ∀ i, okS (c i)) {R : PRes} {ord : List Lz} {m : Nat} (hm : m ≤ 6000) (h : RunOk (stackA c hc) R ord m) :
    Lin.FF (hist (sq c) putS (opsOf R.out)) 0 (.hp true []) = true ∧ Lin.mayB 4 (hist (sq c) putS (opsOf R.out)) = true := by
  have get : ∀ i, i < (opsOf R.out).length → (hist (sq c) putS (opsOf R.out)).getD i default = finA (sq c) putS (opAt (opsOf R.out) i) := by
    intro i hi; simp [hist, opAt, List.getD, hi]
  have hlen : (hist (sq c) putS (opsOf R.out)).length = (opsOf R.out).length := List.length_map ..
  have eb : ∀ o, (finA (sq c) putS o).b = o.b := by intro o; unfold finA; split <;> rfl
  have ee : ∀ o, (finA (sq c) putS o).e = o.e := by intro o; unfold finA; split <;> simp_all
  have okc : ∀ i, i < (opsOf R.out).length → okS (cAt (sq c) (opAt (opsOf R.out) i)) := by
    intro i hi
    obtain ⟨t0, t3⟩ := h.th i hi
    obtain ⟨l0, l1⟩ := h.lo i hi
    have l1 : (opAt (opsOf R.out) i).n < (((sq c).ts.getD (opAt (opsOf R.out) i).th.toNat []).length : Int) := l1
    rw [sq_len c (by omega)] at l1
    unfold cAt; rw [sq_call c (by omega) l0 l1]; exact hc _
  have pput : ∀ o, (cAt (sq c) o).code = 0 → (finA (sq c) putS o).p = true ∧ (finA (sq c) putS o).v = sArg (cAt (sq c) o) := by
    intro o h1
    unfold finA putS
    split <;> (first | exact ⟨rfl, rfl⟩ | (rw [if_pos h1]; exact ⟨rfl, rfl⟩))
  have ppop : ∀ o, (cAt (sq c) o).code = 1 → (finA (sq c) putS o).p = false := by
    intro o h1
    unfold finA putS
    split
    · rw [if_neg (by omega), if_pos rfl]
    · rw [if_neg (by omega), if_neg (by decide)]; split <;> rfl
  have pval : ∀ x, x ∈ ord → (cAt (sq c) (opAt (opsOf R.out) x.i)).code = 1 → (opAt (opsOf R.out) x.i).e ≠ -1 → (finA (sq c) putS (opAt (opsOf R.out) x.i)).v = x.f.r := by
    intro x hx h1 he
    have ht : (opAt (opsOf R.out) x.i).r = [x.f.r] := (h.tl x hx he).2 h1
    unfold finA putS
    rw [if_neg he, if_neg (by omega), if_neg (by decide), ht]; rfl
  constructor
  · refine lin_yes (ord := ord) (fun x hx => by rw [hlen]; exact h.gi.lt x hx) h.gi.nd (fun i hi he => ?_) ?_ h.sq (fun x hx o ho => ?_)
    · rw [hlen] at hi; rw [get i hi, ee] at he; exact h.gi.en i hi he
    · rw [hlen]
      refine RT_congr h.gi.rt (fun i hi => by rw [get i hi, ee]) (fun x hx => by rw [get x.i (h.gi.lt x hx), eb])
    · rw [get x.i (h.gi.lt x hx)]
      have hf : sFit (cAt (sq c) (opAt (opsOf R.out) x.i)) x.f := h.ft x hx
      cases o with
      | cnt n => cases ho
      | reg n => cases ho
      | hp b l =>
        cases b with
        | false => cases ho
        | true =>
          rcases hf with ⟨h1, h2, h3, h4⟩ | ⟨h1, h2⟩
          · obtain ⟨p1, p2⟩ := pput _ h1
            rw [Lin.onext_put p1, Lin.onext_put (show (fAct x.f).p = true from h2), p2]
            refine ⟨?_, fun _ _ => rfl⟩
            show Lin.Ob.hp true (l ++ [_]) = Lin.Ob.hp true (l ++ [x.f.v]); rw [h3]
          · have p1 := ppop _ h1
            by_cases hl : l.length = 0
            · rw [Lin.onext_none p1 hl, Lin.onext_none (show (fAct x.f).p = false from h2) hl]
              refine ⟨rfl, fun he hr => ?_⟩
              rw [ee] at he
              rw [pval x hx h1 he]; exact hr
            · rw [Lin.onext_last p1 hl rfl, Lin.onext_last (show (fAct x.f).p = false from h2) hl rfl]
              refine ⟨rfl, fun he hr => ?_⟩
              rw [ee] at he
              rw [pval x hx h1 he]; exact hr
  · unfold Lin.mayB
    have h9 : (opsOf R.out).length ≤ 9 := Nat.le_trans h.ct (by show 3 + 3 + 2 ≤ 9; decide)
    rw [Bool.and_eq_true, Bool.and_eq_true, hlen]
    refine ⟨⟨by decide, by simpa using h9⟩, ?_⟩
    rw [Bool.not_eq_true', List.any_eq_false]
    intro a ha
    obtain ⟨o, ho, rfl⟩ := List.mem_map.1 ha
    obtain ⟨i, hi, rfl⟩ := List.mem_iff_getElem.1 ho
    have e : opAt (opsOf R.out) i = (opsOf R.out)[i] := by simp [opAt, List.getD, hi]
    have tm := h.gi.tm i hi
    have hok := okc i hi
    rw [← e]
    have hy : (finA (sq c) putS (opAt (opsOf R.out) i)).y = 0 := by unfold finA; split <;> rfl
    have hv : ¬ (finA (sq c) putS (opAt (opsOf R.out) i)).v < 0 ∨ (finA (sq c) putS (opAt (opsOf R.out) i)).p = false ∧ (finA (sq c) putS (opAt (opsOf R.out) i)).v = -1 := by
      rcases hok with ⟨h1, v, h2, h3⟩ | ⟨h1, h2⟩
      · left; rw [(pput _ h1).2]; unfold sArg; rw [h3]; show ¬ v < 0; omega
      · by_cases he : (opAt (opsOf R.out) i).e = -1
        · right
          refine ⟨ppop _ h1, ?_⟩
          unfold finA putS
          rw [if_pos he, if_neg (by omega), if_pos rfl]
        · have hin := h.gi.en i hi he
          obtain ⟨x, hx, hxi⟩ := List.mem_map.1 hin
          subst hxi
          have hr := (seq_nonneg ord (fun y hy hyp => by
            rcases h.ft y hy with ⟨g1, g2, g3, g4⟩ | ⟨g1, g2⟩
            · rcases okc y.i (h.gi.lt y hy) with ⟨_, v, k2, k3⟩ | ⟨k1, _⟩
              · have g3 : y.f.v = sArg (cAt (sq c) (opAt (opsOf R.out) y.i)) := g3
                rw [g3]; unfold sArg; rw [k3]; exact k2
              · have g1 : (cAt (sq c) (opAt (opsOf R.out) y.i)).code = 0 := g1
                omega
            · rw [g2] at hyp; cases hyp) h.sq).2 x hx (by
            rcases h.ft x hx with ⟨g1, _⟩ | ⟨_, g2⟩
            · have g1 : (cAt (sq c) (opAt (opsOf R.out) x.i)).code = 0 := g1
              omega
            · exact g2)
          rw [pval x hx h1 he]
          rcases hr with hr | hr
          · left; omega
          · exact .inr ⟨ppop _ h1, hr⟩
    unfold Lin.oddB Lin.inB Lin.heldB
    rw [eb, ee, hy]
    have := tm.2.2
    generalize (opAt (opsOf R.out) i).b = B at tm this ⊢
    generalize (opAt (opsOf R.out) i).e = E at tm this ⊢
    generalize (finA (sq c) putS (opAt (opsOf R.out) i)).v = W at hv ⊢
    generalize (finA (sq c) putS (opAt (opsOf R.out) i)).p = B2 at hv ⊢
    rcases hv with hv | ⟨hv1, hv2⟩
    · simp [hv]; omega
    · rw [hv1, hv2]; simp; omega
end Go.Proofs.YtnnjobmiepnedaaDoor.Nice
