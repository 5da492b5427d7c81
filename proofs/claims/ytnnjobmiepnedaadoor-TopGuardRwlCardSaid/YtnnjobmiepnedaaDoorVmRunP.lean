/- Runs of codes, as plain functions. -/
import Derived.Test.YtnnjobmiepnedaaDoorVmStep
namespace Go.Proofs.YtnnjobmiepnedaaDoor.Nice
open Go
set_option linter.unusedVariables false
set_option linter.unusedSimpArgs false
set_option maxRecDepth 100000
set_option maxHeartbeats 4000000
theorem thrX_copy (c : SV) (pc : Int) (tl : SV) (e : Int) (ov : Bool) (l : List Int) (hl : l.length ≤ 8) : (thrX c (fun _ => 0) pc tl e ov).take 1 ++ copyL (intsF l) (Nat.min l.length 24) ++ (thrX c (fun _ => 0) pc tl e ov).drop (1 + Nat.min l.length 24) = thrX c (fun j => l.getD j 0) pc tl e ov := by
  match l, hl with
  | [], _ => rfl
  | [_], _ => rfl
  | [_, _], _ => rfl
  | [_, _, _], _ => rfl
  | [_, _, _, _], _ => rfl
  | [_, _, _, _, _], _ => rfl
  | [_, _, _, _, _, _], _ => rfl
  | [_, _, _, _, _, _, _], _ => rfl
  | [_, _, _, _, _, _, _, _], _ => rfl
  | _ :: _ :: _ :: _ :: _ :: _ :: _ :: _ :: _ :: l, h => simp at h
def vnew (C : List Ins) (l : List Int) : Thr := ⟨fun j => l.getD j 0, 0, [], 0, (C.length : Int) == 0⟩
def vrun (C : List Ins) : Nat → Thr × List Int → Nat × (Thr × List Int)
  | 0, s => (0, s)
  | f + 1, s => if s.1.ov = true then (0, s) else ((vrun C f (vstep C s.2 s.1)).1 + 1, (vrun C f (vstep C s.2 s.1)).2)
/-- The thread goes on in its code, or it is over. -/
structure ThrOk (C : List Ins) (m : Nat) (s : Thr × List Int) : Prop where
  pc : s.1.ov = false → 0 ≤ s.1.pc ∧ s.1.pc < C.length
  told : s.1.told.length ≤ 200
  ws : s.2.length = m
structure VRes where
  told : List Int
  after : List Int
  n : Int
  e : Int
def vresOf (p : Nat × (Thr × List Int)) : VRes := ⟨p.2.1.told, p.2.2, p.1, if p.2.1.ov = true then p.2.1.e else 11⟩
def vran (C : List Ins) (l ws : List Int) (limit : Int) : VRes :=
  if mayB C = false then ⟨[], [], 0, 4⟩
  else if 8 < l.length ∨ 200 < ws.length then ⟨[], [], 0, 1⟩
  else if limit < 0 ∨ 6000 < limit then ⟨[], [], 0, 2⟩
  else vresOf (vrun C limit.toNat (vnew C l, ws))
theorem vnew_ok {C : List Ins} {l ws : List Int} : ThrOk C ws.length (vnew C l, ws) := by
  refine ⟨fun h => ?_, by simp [vnew], rfl⟩
  have : ((C.length : Int) == 0) = false := h
  simp at this
  have hc : 0 < C.length := by cases C <;> simp_all
  show (0 : Int) ≤ 0 ∧ (0 : Int) < _
  omega
theorem vword_told (o : Ins) (n : Nat) (ws : List Int) (t : Thr) : (vword o n ws t).1.told = t.told ∧ (vword o n ws t).1.pc = t.pc ∧ (vword o n ws t).1.ov = t.ov ∧ (vword o n ws t).2.length = ws.length := by
  unfold vword
  repeat' split
  all_goals simp
theorem vother_ok {C : List Ins} {o : Ins} {ws : List Int} {t : Thr} (fit : Fit C.length o) (hk : ¬ o.k ≤ 9) (hp : 0 ≤ t.pc ∧ t.pc ≤ C.length) (ht : t.told.length ≤ 200) : (0 ≤ (vother o ws t).1.pc ∧ (vother o ws t).1.pc ≤ C.length) ∧ (vother o ws t).1.told.length ≤ 200 ∧ (vother o ws t).2.length = ws.length := by
  obtain ⟨_, _, ha10, _, hb11, _, _⟩ := fit
  have hw := vword_told o (wrp (t.r o.b.toNat + o.c)).toNat ws t
  unfold vother
  repeat' split
  all_goals first
    | exact ⟨ha10 (by assumption), ht, rfl⟩
    | exact ⟨hb11 (by omega), ht, rfl⟩
    | (refine ⟨hp, ?_, rfl⟩; show (_ ++ [_]).length ≤ 200; rw [List.length_append]; simp only [List.length_singleton]; omega)
    | exact ⟨hp, ht, rfl⟩
    | (rw [hw.1, hw.2.1, hw.2.2.2]; exact ⟨hp, ht, rfl⟩)
theorem vstep_ok {C : List Ins} (hC : mayB C = true) {m : Nat} {s : Thr × List Int} (h : ThrOk C m s) : ThrOk C m (vstep C s.2 s.1) := by
  unfold vstep
  split
  · exact h
  · next hov =>
    have hov : s.1.ov = false := by cases e : s.1.ov <;> simp_all
    have hp := h.pc hov
    have fit := fit_at hC (n := s.1.pc.toNat) (by omega)
    have key : ∀ q : Thr × List Int, (0 ≤ q.1.pc ∧ q.1.pc ≤ C.length) ∧ q.1.told.length ≤ 200 ∧ q.2.length = m → ThrOk C m (vend C.length q) := by
      rintro q ⟨h1, h2, h3⟩
      refine ⟨fun he => ?_, h2, h3⟩
      have : (q.1.ov || decide (q.1.pc = C.length)) = false := he
      simp only [Bool.or_eq_false_iff, decide_eq_false_iff_not] at this
      show 0 ≤ q.1.pc ∧ q.1.pc < _
      omega
    refine key _ ?_
    unfold vexec
    split
    · exact ⟨⟨by show 0 ≤ s.1.pc + 1; omega, by show s.1.pc + 1 ≤ _; omega⟩, h.told, h.ws⟩
    · next hk =>
      have := vother_ok (ws := s.2) (t := ⟨s.1.r, s.1.pc + 1, s.1.told, s.1.e, s.1.ov⟩) fit hk ⟨by show 0 ≤ s.1.pc + 1; omega, by show s.1.pc + 1 ≤ _; omega⟩ h.told
      rw [h.ws] at this; exact this
theorem vrun_over {C : List Ins} {f : Nat} {s : Thr × List Int} (h : s.1.ov = true ∨ f = 0) : vrun C f s = (0, s) := by
  cases f with
  | zero => rfl
  | succ f => unfold vrun; rw [if_pos (h.resolve_right (by omega))]
theorem vrun_go {C : List Ins} {f : Nat} {s : Thr × List Int} (h : s.1.ov = false) (hf : 0 < f) : vrun C f s = ((vrun C (f - 1) (vstep C s.2 s.1)).1 + 1, (vrun C (f - 1) (vstep C s.2 s.1)).2) := by
  cases f with
  | zero => omega
  | succ f => rw [vrun, if_neg (by rw [h]; decide)]; rfl

end Go.Proofs.YtnnjobmiepnedaaDoor.Nice
