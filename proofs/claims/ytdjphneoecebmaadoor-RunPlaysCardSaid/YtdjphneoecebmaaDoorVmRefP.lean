/- The document's worker: the plain functions. -/
import Derived.Test.YtdjphneoecebmaaDoorVmRunW
namespace Go.Proofs.YtdjphneoecebmaaDoor.Nice
open Go
set_option linter.unusedVariables false
set_option linter.unusedSimpArgs false
set_option maxRecDepth 100000
set_option maxHeartbeats 4000000
def mapL (L : List (Int × Int)) : List (Value × D) := L.map fun p => (.int .i64 p.1, .val (.int .i64 p.2))
def lkD (L : List (Int × Int)) (k : Int) : Option D := (L.find? fun p => k == p.1).map fun p => .val (.int .i64 p.2)
def lk (L : List (Int × Int)) (k : Int) : Int := match L.find? fun p => k == p.1 with | some p => p.2 | none => 0
def stL : List (Int × Int) → Int → Int → List (Int × Int)
  | [], k, v => [(k, v)]
  | p :: r, k, v => if k = p.1 then (k, v) :: r else p :: stL r k v
theorem mfind_L (k : Int) : ∀ L, mfind (.int .i64) (.int .i64 k) (mapL L) = some (lkD L k)
  | [] => rfl
  | p :: r => by
    simp only [mapL, List.map_cons, mfind, Instr.sameNow, lkD, List.find?_cons, if_true]
    cases h : k == p.1 with
    | true => simp
    | false => simpa [mapL, lkD] using mfind_L k r
theorem mset_L (k v : Int) : ∀ L, mset (.int .i64) (.int .i64 k) (.val (.int .i64 v)) (mapL L) = mapL (stL L k v)
  | [] => rfl
  | p :: r => by
    simp only [mapL, List.map_cons, mset, Instr.sameNow, stL, if_true]
    by_cases h : k = p.1
    · subst h; simp
    · have : (k == p.1) = false := by simp [h]
      rw [this, if_neg h]; simpa [mapL] using mset_L k v r
theorem lk_hd (L : List (Int × Int)) (k : Int) : (foundS false (orZero (lkD L k) (.int .i64 0)) (lkD L k).isSome).hd = some (SV.i (lk L k)) := by
  unfold lkD lk
  cases L.find? fun p => k == p.1 <;> rfl
theorem lk_st (k v j : Int) : ∀ L, lk (stL L k v) j = if j = k then v else lk L j
  | [] => by
    unfold stL lk
    simp only [List.find?_cons, List.find?_nil]
    by_cases h : j = k
    · subst h; simp
    · have : (j == k) = false := by simp [h]
      rw [this, if_neg h]
  | p :: r => by
    have ih := lk_st k v j r
    unfold stL
    by_cases hk : k = p.1
    · rw [if_pos hk]
      unfold lk
      simp only [List.find?_cons]
      by_cases h : j = k
      · subst h; simp
      · have e1 : (j == k) = false := by simp [h]
        have e2 : (j == p.1) = false := by rw [← hk]; exact e1
        rw [e1, e2, if_neg h]
    · rw [if_neg hk]
      unfold lk at ih ⊢
      simp only [List.find?_cons]
      cases h : j == p.1 with
      | true =>
        have : ¬ j = k := by rintro rfl; simp at h; exact hk h
        rw [if_neg this]
      | false => exact ih
structure Wkr where
  L : List (Int × Int)
  pc : Int
  told : List Int
  e : Int
  ov : Bool
def wkrL (q : Nat) (C : List Ins) (w : Wkr) : List SV := [insV C, .map 1, SV.i w.pc, .sl q 0 w.told.length, SV.i w.e, SV.b w.ov]
def wkrB (q : Nat) (C : List Ins) (w : Wkr) : Blk := .cells 58 6 (wkrL q C w)
def rfin (n : Nat) (L : List (Int × Int)) (told : List Int) (e : Int) (next : Int) (ws : List Int) : Wkr × List Int := (⟨L, next, told, e, decide (next = n)⟩, ws)
def rexec (n : Nat) (o : Ins) (ws : List Int) (w : Wkr) : Wkr × List Int :=
  if o.k = 1 then rfin n (stL w.L o.a o.b) w.told w.e (w.pc + 1) ws
  else if o.k = 2 then rfin n (stL w.L o.a (lk w.L o.b)) w.told w.e (w.pc + 1) ws
  else if o.k = 3 then rfin n (stL w.L o.a (wrp (lk w.L o.b + lk w.L o.c))) w.told w.e (w.pc + 1) ws
  else if o.k = 4 then rfin n (stL w.L o.a (wrp (lk w.L o.b - lk w.L o.c))) w.told w.e (w.pc + 1) ws
  else if o.k = 5 then rfin n (stL w.L o.a (wrp (lk w.L o.b * lk w.L o.c))) w.told w.e (w.pc + 1) ws
  else if o.k = 6 then rfin n (if lk w.L o.c = 0 then stL w.L o.a 0 else stL (stL w.L o.a 0) o.a (wrp ((lk w.L o.b).tdiv (lk w.L o.c)))) w.told w.e (w.pc + 1) ws
  else if o.k = 7 then rfin n (if lk w.L o.c = 0 then stL w.L o.a 0 else stL (stL w.L o.a 0) o.a (wrp (lk w.L o.b - wrp (wrp ((lk w.L o.b).tdiv (lk w.L o.c)) * lk w.L o.c)))) w.told w.e (w.pc + 1) ws
  else if o.k = 8 then rfin n (stL w.L o.a (boolI (decide (lk w.L o.b = lk w.L o.c)))) w.told w.e (w.pc + 1) ws
  else if o.k = 9 then rfin n (stL w.L o.a (boolI (decide (lk w.L o.b < lk w.L o.c)))) w.told w.e (w.pc + 1) ws
  else if o.k = 10 then rfin n w.L w.told w.e o.a ws
  else if o.k = 11 then rfin n w.L w.told w.e (if lk w.L o.a ≠ 0 then o.b else w.pc + 1) ws
  else if o.k = 12 then rfin n w.L w.told w.e (if lk w.L o.a = 0 then o.b else w.pc + 1) ws
  else if o.k = 16 then if 200 ≤ w.told.length then (⟨w.L, w.pc, w.told, 8, true⟩, ws) else rfin n w.L (w.told ++ [lk w.L o.a]) w.e (w.pc + 1) ws
  else if o.k = 17 then rfin n w.L w.told w.e n ws
  else if wrp (lk w.L o.b + o.c) < 0 ∨ (ws.length : Int) ≤ wrp (lk w.L o.b + o.c) then (⟨w.L, w.pc, w.told, 2, true⟩, ws)
  else if o.k = 13 then rfin n (stL w.L o.a (ws.getD (wrp (lk w.L o.b + o.c)).toNat 0)) w.told w.e (w.pc + 1) ws
  else if o.k = 14 then rfin n w.L w.told w.e (w.pc + 1) (ws.set (wrp (lk w.L o.b + o.c)).toNat (lk w.L o.a))
  else if ws.getD (wrp (lk w.L o.b + o.c)).toNat 0 = lk w.L o.d then rfin n (stL w.L o.a 1) w.told w.e (w.pc + 1) (ws.set (wrp (lk w.L o.b + o.c)).toNat (lk w.L o.a))
  else rfin n (stL w.L o.a 0) w.told w.e (w.pc + 1) ws
def rone (C : List Ins) (ws : List Int) (w : Wkr) : Wkr × List Int := if w.ov = true then (w, ws) else rexec C.length (C.getD w.pc.toNat default) ws w
theorem rone_over {C : List Ins} {ws : List Int} {w : Wkr} (h : w.ov = true) : rone C ws w = (w, ws) := by unfold rone; rw [if_pos h]
theorem rone_go {C : List Ins} {ws : List Int} {w : Wkr} {q : Wkr × List Int} (h : w.ov = false) (hq : rexec C.length (C.getD w.pc.toNat default) ws w = q) : rone C ws w = q := by unfold rone; rw [if_neg (by rw [h]; decide), hq]
theorem rx_1 {n : Nat} {o : Ins} {ws : List Int} {w : Wkr} (h : o.k = 1) : rexec n o ws w = rfin n (stL w.L o.a o.b) w.told w.e (w.pc + 1) ws := by unfold rexec; rw [if_pos h]
theorem rx_2 {n : Nat} {o : Ins} {ws : List Int} {w : Wkr} (h : o.k = 2) : rexec n o ws w = rfin n (stL w.L o.a (lk w.L o.b)) w.told w.e (w.pc + 1) ws := by unfold rexec; rw [if_neg (by omega), if_pos h]
theorem rx_3 {n : Nat} {o : Ins} {ws : List Int} {w : Wkr} (h : o.k = 3) : rexec n o ws w = rfin n (stL w.L o.a (wrp (lk w.L o.b + lk w.L o.c))) w.told w.e (w.pc + 1) ws := by unfold rexec; rw [if_neg (by omega), if_neg (by omega), if_pos h]
theorem rx_4 {n : Nat} {o : Ins} {ws : List Int} {w : Wkr} (h : o.k = 4) : rexec n o ws w = rfin n (stL w.L o.a (wrp (lk w.L o.b - lk w.L o.c))) w.told w.e (w.pc + 1) ws := by unfold rexec; rw [if_neg (by omega), if_neg (by omega), if_neg (by omega), if_pos h]
theorem rx_5 {n : Nat} {o : Ins} {ws : List Int} {w : Wkr} (h : o.k = 5) : rexec n o ws w = rfin n (stL w.L o.a (wrp (lk w.L o.b * lk w.L o.c))) w.told w.e (w.pc + 1) ws := by unfold rexec; rw [if_neg (by omega), if_neg (by omega), if_neg (by omega), if_neg (by omega), if_pos h]
theorem rx_6z {n : Nat} {o : Ins} {ws : List Int} {w : Wkr} (h : o.k = 6) (h2 : lk w.L o.c = 0) : rexec n o ws w = rfin n (stL w.L o.a 0) w.told w.e (w.pc + 1) ws := by unfold rexec; rw [if_neg (by omega), if_neg (by omega), if_neg (by omega), if_neg (by omega), if_neg (by omega), if_pos h, if_pos h2]
theorem rx_6q {n : Nat} {o : Ins} {ws : List Int} {w : Wkr} (h : o.k = 6) (h2 : ¬ lk w.L o.c = 0) : rexec n o ws w = rfin n (stL (stL w.L o.a 0) o.a (wrp ((lk w.L o.b).tdiv (lk w.L o.c)))) w.told w.e (w.pc + 1) ws := by unfold rexec; rw [if_neg (by omega), if_neg (by omega), if_neg (by omega), if_neg (by omega), if_neg (by omega), if_pos h, if_neg h2]
theorem rx_7z {n : Nat} {o : Ins} {ws : List Int} {w : Wkr} (h : o.k = 7) (h2 : lk w.L o.c = 0) : rexec n o ws w = rfin n (stL w.L o.a 0) w.told w.e (w.pc + 1) ws := by unfold rexec; rw [if_neg (by omega), if_neg (by omega), if_neg (by omega), if_neg (by omega), if_neg (by omega), if_neg (by omega), if_pos h, if_pos h2]
theorem rx_7q {n : Nat} {o : Ins} {ws : List Int} {w : Wkr} (h : o.k = 7) (h2 : ¬ lk w.L o.c = 0) : rexec n o ws w = rfin n (stL (stL w.L o.a 0) o.a (wrp (lk w.L o.b - wrp (wrp ((lk w.L o.b).tdiv (lk w.L o.c)) * lk w.L o.c)))) w.told w.e (w.pc + 1) ws := by unfold rexec; rw [if_neg (by omega), if_neg (by omega), if_neg (by omega), if_neg (by omega), if_neg (by omega), if_neg (by omega), if_pos h, if_neg h2]
theorem rx_8 {n : Nat} {o : Ins} {ws : List Int} {w : Wkr} (h : o.k = 8) : rexec n o ws w = rfin n (stL w.L o.a (boolI (decide (lk w.L o.b = lk w.L o.c)))) w.told w.e (w.pc + 1) ws := by unfold rexec; rw [if_neg (by omega), if_neg (by omega), if_neg (by omega), if_neg (by omega), if_neg (by omega), if_neg (by omega), if_neg (by omega), if_pos h]
theorem rx_9 {n : Nat} {o : Ins} {ws : List Int} {w : Wkr} (h : o.k = 9) : rexec n o ws w = rfin n (stL w.L o.a (boolI (decide (lk w.L o.b < lk w.L o.c)))) w.told w.e (w.pc + 1) ws := by unfold rexec; rw [if_neg (by omega), if_neg (by omega), if_neg (by omega), if_neg (by omega), if_neg (by omega), if_neg (by omega), if_neg (by omega), if_neg (by omega), if_pos h]
theorem rx_10 {n : Nat} {o : Ins} {ws : List Int} {w : Wkr} (h : o.k = 10) : rexec n o ws w = rfin n w.L w.told w.e o.a ws := by unfold rexec; rw [if_neg (by omega), if_neg (by omega), if_neg (by omega), if_neg (by omega), if_neg (by omega), if_neg (by omega), if_neg (by omega), if_neg (by omega), if_neg (by omega), if_pos h]
theorem rx_11y {n : Nat} {o : Ins} {ws : List Int} {w : Wkr} (h : o.k = 11) (h2 : lk w.L o.a ≠ 0) : rexec n o ws w = rfin n w.L w.told w.e o.b ws := by unfold rexec; rw [if_neg (by omega), if_neg (by omega), if_neg (by omega), if_neg (by omega), if_neg (by omega), if_neg (by omega), if_neg (by omega), if_neg (by omega), if_neg (by omega), if_neg (by omega), if_pos h, if_pos h2]
theorem rx_11n {n : Nat} {o : Ins} {ws : List Int} {w : Wkr} (h : o.k = 11) (h2 : ¬ lk w.L o.a ≠ 0) : rexec n o ws w = rfin n w.L w.told w.e (w.pc + 1) ws := by unfold rexec; rw [if_neg (by omega), if_neg (by omega), if_neg (by omega), if_neg (by omega), if_neg (by omega), if_neg (by omega), if_neg (by omega), if_neg (by omega), if_neg (by omega), if_neg (by omega), if_pos h, if_neg h2]
theorem rx_12y {n : Nat} {o : Ins} {ws : List Int} {w : Wkr} (h : o.k = 12) (h2 : lk w.L o.a = 0) : rexec n o ws w = rfin n w.L w.told w.e o.b ws := by unfold rexec; rw [if_neg (by omega), if_neg (by omega), if_neg (by omega), if_neg (by omega), if_neg (by omega), if_neg (by omega), if_neg (by omega), if_neg (by omega), if_neg (by omega), if_neg (by omega), if_neg (by omega), if_pos h, if_pos h2]
theorem rx_12n {n : Nat} {o : Ins} {ws : List Int} {w : Wkr} (h : o.k = 12) (h2 : ¬ lk w.L o.a = 0) : rexec n o ws w = rfin n w.L w.told w.e (w.pc + 1) ws := by unfold rexec; rw [if_neg (by omega), if_neg (by omega), if_neg (by omega), if_neg (by omega), if_neg (by omega), if_neg (by omega), if_neg (by omega), if_neg (by omega), if_neg (by omega), if_neg (by omega), if_neg (by omega), if_pos h, if_neg h2]
theorem rx_16f {n : Nat} {o : Ins} {ws : List Int} {w : Wkr} (h : o.k = 16) (h2 : 200 ≤ w.told.length) : rexec n o ws w = (⟨w.L, w.pc, w.told, 8, true⟩, ws) := by unfold rexec; rw [if_neg (by omega), if_neg (by omega), if_neg (by omega), if_neg (by omega), if_neg (by omega), if_neg (by omega), if_neg (by omega), if_neg (by omega), if_neg (by omega), if_neg (by omega), if_neg (by omega), if_neg (by omega), if_pos h, if_pos h2]
theorem rx_16t {n : Nat} {o : Ins} {ws : List Int} {w : Wkr} (h : o.k = 16) (h2 : ¬ 200 ≤ w.told.length) : rexec n o ws w = rfin n w.L (w.told ++ [lk w.L o.a]) w.e (w.pc + 1) ws := by unfold rexec; rw [if_neg (by omega), if_neg (by omega), if_neg (by omega), if_neg (by omega), if_neg (by omega), if_neg (by omega), if_neg (by omega), if_neg (by omega), if_neg (by omega), if_neg (by omega), if_neg (by omega), if_neg (by omega), if_pos h, if_neg h2]
theorem rx_17 {n : Nat} {o : Ins} {ws : List Int} {w : Wkr} (h : o.k = 17) : rexec n o ws w = rfin n w.L w.told w.e n ws := by unfold rexec; rw [if_neg (by omega), if_neg (by omega), if_neg (by omega), if_neg (by omega), if_neg (by omega), if_neg (by omega), if_neg (by omega), if_neg (by omega), if_neg (by omega), if_neg (by omega), if_neg (by omega), if_neg (by omega), if_neg (by omega), if_pos h]
theorem rx_far {n : Nat} {o : Ins} {ws : List Int} {w : Wkr} (h : 13 ≤ o.k ∧ o.k ≤ 15) (h2 : (wrp (lk w.L o.b + o.c)) < 0 ∨ (ws.length : Int) ≤ (wrp (lk w.L o.b + o.c))) : rexec n o ws w = (⟨w.L, w.pc, w.told, 2, true⟩, ws) := by unfold rexec; rw [if_neg (by omega), if_neg (by omega), if_neg (by omega), if_neg (by omega), if_neg (by omega), if_neg (by omega), if_neg (by omega), if_neg (by omega), if_neg (by omega), if_neg (by omega), if_neg (by omega), if_neg (by omega), if_neg (by omega), if_neg (by omega), if_pos h2]
theorem rx_13 {n : Nat} {o : Ins} {ws : List Int} {w : Wkr} (h : o.k = 13) (h2 : ¬ ((wrp (lk w.L o.b + o.c)) < 0 ∨ (ws.length : Int) ≤ (wrp (lk w.L o.b + o.c)))) : rexec n o ws w = rfin n (stL w.L o.a (ws.getD (wrp (lk w.L o.b + o.c)).toNat 0)) w.told w.e (w.pc + 1) ws := by unfold rexec; rw [if_neg (by omega), if_neg (by omega), if_neg (by omega), if_neg (by omega), if_neg (by omega), if_neg (by omega), if_neg (by omega), if_neg (by omega), if_neg (by omega), if_neg (by omega), if_neg (by omega), if_neg (by omega), if_neg (by omega), if_neg (by omega), if_neg h2, if_pos h]
theorem rx_14 {n : Nat} {o : Ins} {ws : List Int} {w : Wkr} (h : o.k = 14) (h2 : ¬ ((wrp (lk w.L o.b + o.c)) < 0 ∨ (ws.length : Int) ≤ (wrp (lk w.L o.b + o.c)))) : rexec n o ws w = rfin n w.L w.told w.e (w.pc + 1) (ws.set (wrp (lk w.L o.b + o.c)).toNat (lk w.L o.a)) := by unfold rexec; rw [if_neg (by omega), if_neg (by omega), if_neg (by omega), if_neg (by omega), if_neg (by omega), if_neg (by omega), if_neg (by omega), if_neg (by omega), if_neg (by omega), if_neg (by omega), if_neg (by omega), if_neg (by omega), if_neg (by omega), if_neg (by omega), if_neg h2, if_neg (by omega), if_pos h]
theorem rx_15y {n : Nat} {o : Ins} {ws : List Int} {w : Wkr} (h : o.k = 15) (h2 : ¬ ((wrp (lk w.L o.b + o.c)) < 0 ∨ (ws.length : Int) ≤ (wrp (lk w.L o.b + o.c)))) (h3 : ws.getD (wrp (lk w.L o.b + o.c)).toNat 0 = lk w.L o.d) : rexec n o ws w = rfin n (stL w.L o.a 1) w.told w.e (w.pc + 1) (ws.set (wrp (lk w.L o.b + o.c)).toNat (lk w.L o.a)) := by unfold rexec; rw [if_neg (by omega), if_neg (by omega), if_neg (by omega), if_neg (by omega), if_neg (by omega), if_neg (by omega), if_neg (by omega), if_neg (by omega), if_neg (by omega), if_neg (by omega), if_neg (by omega), if_neg (by omega), if_neg (by omega), if_neg (by omega), if_neg h2, if_neg (by omega), if_neg (by omega), if_pos h3]
theorem rx_15n {n : Nat} {o : Ins} {ws : List Int} {w : Wkr} (h : o.k = 15) (h2 : ¬ ((wrp (lk w.L o.b + o.c)) < 0 ∨ (ws.length : Int) ≤ (wrp (lk w.L o.b + o.c)))) (h3 : ¬ ws.getD (wrp (lk w.L o.b + o.c)).toNat 0 = lk w.L o.d) : rexec n o ws w = rfin n (stL w.L o.a 0) w.told w.e (w.pc + 1) ws := by unfold rexec; rw [if_neg (by omega), if_neg (by omega), if_neg (by omega), if_neg (by omega), if_neg (by omega), if_neg (by omega), if_neg (by omega), if_neg (by omega), if_neg (by omega), if_neg (by omega), if_neg (by omega), if_neg (by omega), if_neg (by omega), if_neg (by omega), if_neg h2, if_neg (by omega), if_neg (by omega), if_neg h3]

end Go.Proofs.YtdjphneoecebmaaDoor.Nice
