/- TopGuardRwl. -/
import Derived.Test.YtnnjobmiepnedaaDoorTopGuard
import Derived.Test.YtnnjobmiepnedaaDoorTopKept
import Derived.Test.YtnnjobmiepnedaaDoorRwlT
namespace Go.Proofs.YtnnjobmiepnedaaDoor.Nice
open Go
set_option linter.unusedVariables false
set_option linter.unusedSimpArgs false
set_option maxRecDepth 100000
set_option maxHeartbeats 4000000

theorem topguard_1 (a : Int) (hp : pickI a 4 = 0) (l : List Int) (hl : Bytes l) : Spec Tryd.prog GV 3 [SV.i a, u8V l] [] (fun r ho => r = SV.b true ∧ ho = []) := by
  obtain ⟨pk1, ⟨w0, pk2⟩, pk3, pk4, pk5, pk6, pk7, pk8, pk9⟩ := played_keeps (n := 1) (by decide) (by decide) (schedL l 1 3000) (sched_len _ _ _) (fun v hv => by have := sched_rng (n := 1) (by decide) 3000 v hv; omega)
  have hsl := sched_len l 1 3000
  refine start 27 0 Tryd.func3 rfl rfl rfl rfl ?_
  refine r1 ?_
  refine s1 4 0 1 rfl rfl rfl rfl rfl rfl trivial ?_
  refine e1 8 rfl ?_
  refine keep [0, 1] rfl ?_
  refine r1 ?_
  refine s1 8 8 1 rfl rfl rfl rfl rfl rfl trivial ?_
  refine c1 (picked_any a 4 (by decide)) [] [] 9 16 2 rfl rfl rfl rfl rfl rfl rfl rfl Tryd.func7 rfl rfl rfl rfl trivial rfl rfl ?_
  refine sA 10 24 3 rfl rfl rfl rfl rfl rfl rfl rfl rfl (by rw [hp]; unfold inRange; omega) ?_
  refine val 10 (SV.i 1) rfl (by rw [hp]; rfl) ?_
  refine s1 5 32 4 rfl rfl rfl rfl rfl rfl trivial ?_
  refine e1 40 rfl ?_
  refine keep [1, 5] rfl ?_
  refine r1 ?_
  refine c1 (Spec.still words_rwl) [] [] 12 40 1 rfl rfl rfl rfl rfl rfl rfl rfl Tryd.func9 rfl rfl rfl rfl trivial rfl rfl ?_
  refine c1 (Spec.still yes_WriteIn) [] [] 13 48 2 rfl rfl rfl rfl rfl rfl rfl rfl Tryd.func10 rfl rfl rfl rfl trivial rfl rfl ?_
  refine val 13 (insV winL) rfl (by show insV (fin B_WriteIn) = _; rw [fin_win]) ?_
  refine c1 (Spec.still yes_WriteOut) [] [] 14 56 3 rfl rfl rfl rfl rfl rfl rfl rfl Tryd.func11 rfl rfl rfl rfl trivial rfl rfl ?_
  refine val 14 (insV woutL) rfl (by show insV (fin B_WriteOut) = _; rw [fin_wout]) ?_
  refine s1 15 64 4 rfl rfl rfl rfl rfl rfl trivial ?_
  refine c1 (guarded_1) [] [] 16 72 5 rfl rfl rfl rfl rfl rfl rfl rfl Tryd.func8 rfl rfl rfl rfl trivial rfl rfl ?_
  refine s1 11 80 6 rfl rfl rfl rfl rfl rfl trivial ?_
  refine s1 17 88 7 rfl rfl rfl rfl rfl rfl trivial ?_
  refine s1 18 96 8 rfl rfl rfl rfl rfl rfl trivial ?_
  refine s1 6 104 9 rfl rfl rfl rfl rfl rfl trivial ?_
  refine s0 112 10 rfl rfl rfl rfl rfl (by first | trivial | omega) ?_
  refine s1 7 120 11 rfl rfl rfl rfl rfl rfl trivial ?_
  refine e1 128 rfl ?_
  refine keep [1, 5, 6, 7] rfl ?_
  refine rd1 rfl ?_
  refine d1 19 128 1 rfl rfl rfl rfl rfl rfl trivial ?_
  refine d1 20 136 2 rfl rfl rfl rfl rfl rfl trivial ?_
  refine ask 20 rfl (fun hg3_20 => ?_) (fun hg3_20 => ?_)
  · skip
    try simp only [cs, ne_eq] at hg3_20
    refine g1 1 true 20 21 3 rfl rfl rfl rfl rfl ?_
    refine d1 21 144 3 rfl rfl rfl rfl rfl rfl (by first | trivial | omega) ?_
    refine g1 1 true 20 22 4 rfl rfl rfl rfl rfl ?_
    refine d1 22 152 4 rfl rfl rfl rfl rfl rfl trivial ?_
    refine g1 1 true 20 23 5 rfl rfl rfl rfl rfl ?_
    refine d1 23 160 5 rfl rfl rfl rfl rfl rfl trivial ?_
    refine g1 1 true 20 24 6 rfl rfl rfl rfl rfl ?_
    refine dc1 (schedule_any l hl 1 (by decide) 3000 (by decide)) [] [] 24 168 6 rfl rfl rfl rfl rfl rfl rfl rfl Tryd.func13 rfl rfl rfl rfl trivial rfl rfl ?_
    refine g1 1 true 20 25 7 rfl rfl rfl rfl rfl ?_
    refine dc1 (kept_any (qM 1) (okq 1 (by decide)) (schedL l 1 3000) (by omega) _ rfl pk1 w0 pk2 rfl (by omega) pk9 pk3 ⟨pk5, by omega, pk7, by omega⟩) [] [] 25 176 7 rfl rfl rfl rfl rfl rfl rfl rfl Tryd.func12 rfl rfl rfl rfl trivial rfl rfl ?_
    refine d1 26 184 8 rfl rfl rfl rfl rfl rfl trivial ?_
    refine d1 4 192 9 rfl rfl rfl rfl rfl rfl trivial ?_
    refine de1 200 rfl (by kernel_rfl) ?_
    refine keep [4] rfl ?_
    refine W_ret ?_
    exact out1 4 (SV.b true) (π := []) (hout := []) Tryd.results3 rfl rfl rfl rfl trivial ⟨rfl, rfl⟩
  · skip
    try simp only [cs, ne_eq] at hg3_20
    exact absurd hg3_20 (by decide)

theorem topguard_2 (a : Int) (hp : pickI a 4 = 1) (l : List Int) (hl : Bytes l) : Spec Tryd.prog GV 3 [SV.i a, u8V l] [] (fun r ho => r = SV.b true ∧ ho = []) := by
  obtain ⟨pk1, ⟨w0, pk2⟩, pk3, pk4, pk5, pk6, pk7, pk8, pk9⟩ := played_keeps (n := 2) (by decide) (by decide) (schedL l 2 3000) (sched_len _ _ _) (fun v hv => by have := sched_rng (n := 2) (by decide) 3000 v hv; omega)
  have hsl := sched_len l 2 3000
  refine start 27 0 Tryd.func3 rfl rfl rfl rfl ?_
  refine r1 ?_
  refine s1 4 0 1 rfl rfl rfl rfl rfl rfl trivial ?_
  refine e1 8 rfl ?_
  refine keep [0, 1] rfl ?_
  refine r1 ?_
  refine s1 8 8 1 rfl rfl rfl rfl rfl rfl trivial ?_
  refine c1 (picked_any a 4 (by decide)) [] [] 9 16 2 rfl rfl rfl rfl rfl rfl rfl rfl Tryd.func7 rfl rfl rfl rfl trivial rfl rfl ?_
  refine sA 10 24 3 rfl rfl rfl rfl rfl rfl rfl rfl rfl (by rw [hp]; unfold inRange; omega) ?_
  refine val 10 (SV.i 2) rfl (by rw [hp]; rfl) ?_
  refine s1 5 32 4 rfl rfl rfl rfl rfl rfl trivial ?_
  refine e1 40 rfl ?_
  refine keep [1, 5] rfl ?_
  refine r1 ?_
  refine c1 (Spec.still words_rwl) [] [] 12 40 1 rfl rfl rfl rfl rfl rfl rfl rfl Tryd.func9 rfl rfl rfl rfl trivial rfl rfl ?_
  refine c1 (Spec.still yes_WriteIn) [] [] 13 48 2 rfl rfl rfl rfl rfl rfl rfl rfl Tryd.func10 rfl rfl rfl rfl trivial rfl rfl ?_
  refine val 13 (insV winL) rfl (by show insV (fin B_WriteIn) = _; rw [fin_win]) ?_
  refine c1 (Spec.still yes_WriteOut) [] [] 14 56 3 rfl rfl rfl rfl rfl rfl rfl rfl Tryd.func11 rfl rfl rfl rfl trivial rfl rfl ?_
  refine val 14 (insV woutL) rfl (by show insV (fin B_WriteOut) = _; rw [fin_wout]) ?_
  refine s1 15 64 4 rfl rfl rfl rfl rfl rfl trivial ?_
  refine c1 (guarded_2) [] [] 16 72 5 rfl rfl rfl rfl rfl rfl rfl rfl Tryd.func8 rfl rfl rfl rfl trivial rfl rfl ?_
  refine s1 11 80 6 rfl rfl rfl rfl rfl rfl trivial ?_
  refine s1 17 88 7 rfl rfl rfl rfl rfl rfl trivial ?_
  refine s1 18 96 8 rfl rfl rfl rfl rfl rfl trivial ?_
  refine s1 6 104 9 rfl rfl rfl rfl rfl rfl trivial ?_
  refine s0 112 10 rfl rfl rfl rfl rfl (by first | trivial | omega) ?_
  refine s1 7 120 11 rfl rfl rfl rfl rfl rfl trivial ?_
  refine e1 128 rfl ?_
  refine keep [1, 5, 6, 7] rfl ?_
  refine rd1 rfl ?_
  refine d1 19 128 1 rfl rfl rfl rfl rfl rfl trivial ?_
  refine d1 20 136 2 rfl rfl rfl rfl rfl rfl trivial ?_
  refine ask 20 rfl (fun hg3_20 => ?_) (fun hg3_20 => ?_)
  · skip
    try simp only [cs, ne_eq] at hg3_20
    refine g1 1 true 20 21 3 rfl rfl rfl rfl rfl ?_
    refine d1 21 144 3 rfl rfl rfl rfl rfl rfl (by first | trivial | omega) ?_
    refine g1 1 true 20 22 4 rfl rfl rfl rfl rfl ?_
    refine d1 22 152 4 rfl rfl rfl rfl rfl rfl trivial ?_
    refine g1 1 true 20 23 5 rfl rfl rfl rfl rfl ?_
    refine d1 23 160 5 rfl rfl rfl rfl rfl rfl trivial ?_
    refine g1 1 true 20 24 6 rfl rfl rfl rfl rfl ?_
    refine dc1 (schedule_any l hl 2 (by decide) 3000 (by decide)) [] [] 24 168 6 rfl rfl rfl rfl rfl rfl rfl rfl Tryd.func13 rfl rfl rfl rfl trivial rfl rfl ?_
    refine g1 1 true 20 25 7 rfl rfl rfl rfl rfl ?_
    refine dc1 (kept_any (qM 2) (okq 2 (by decide)) (schedL l 2 3000) (by omega) _ rfl pk1 w0 pk2 rfl (by omega) pk9 pk3 ⟨pk5, by omega, pk7, by omega⟩) [] [] 25 176 7 rfl rfl rfl rfl rfl rfl rfl rfl Tryd.func12 rfl rfl rfl rfl trivial rfl rfl ?_
    refine d1 26 184 8 rfl rfl rfl rfl rfl rfl trivial ?_
    refine d1 4 192 9 rfl rfl rfl rfl rfl rfl trivial ?_
    refine de1 200 rfl (by kernel_rfl) ?_
    refine keep [4] rfl ?_
    refine W_ret ?_
    exact out1 4 (SV.b true) (π := []) (hout := []) Tryd.results3 rfl rfl rfl rfl trivial ⟨rfl, rfl⟩
  · skip
    try simp only [cs, ne_eq] at hg3_20
    exact absurd hg3_20 (by decide)

theorem topguard_3 (a : Int) (hp : pickI a 4 = 2) (l : List Int) (hl : Bytes l) : Spec Tryd.prog GV 3 [SV.i a, u8V l] [] (fun r ho => r = SV.b true ∧ ho = []) := by
  obtain ⟨pk1, ⟨w0, pk2⟩, pk3, pk4, pk5, pk6, pk7, pk8, pk9⟩ := played_keeps (n := 3) (by decide) (by decide) (schedL l 3 3000) (sched_len _ _ _) (fun v hv => by have := sched_rng (n := 3) (by decide) 3000 v hv; omega)
  have hsl := sched_len l 3 3000
  refine start 27 0 Tryd.func3 rfl rfl rfl rfl ?_
  refine r1 ?_
  refine s1 4 0 1 rfl rfl rfl rfl rfl rfl trivial ?_
  refine e1 8 rfl ?_
  refine keep [0, 1] rfl ?_
  refine r1 ?_
  refine s1 8 8 1 rfl rfl rfl rfl rfl rfl trivial ?_
  refine c1 (picked_any a 4 (by decide)) [] [] 9 16 2 rfl rfl rfl rfl rfl rfl rfl rfl Tryd.func7 rfl rfl rfl rfl trivial rfl rfl ?_
  refine sA 10 24 3 rfl rfl rfl rfl rfl rfl rfl rfl rfl (by rw [hp]; unfold inRange; omega) ?_
  refine val 10 (SV.i 3) rfl (by rw [hp]; rfl) ?_
  refine s1 5 32 4 rfl rfl rfl rfl rfl rfl trivial ?_
  refine e1 40 rfl ?_
  refine keep [1, 5] rfl ?_
  refine r1 ?_
  refine c1 (Spec.still words_rwl) [] [] 12 40 1 rfl rfl rfl rfl rfl rfl rfl rfl Tryd.func9 rfl rfl rfl rfl trivial rfl rfl ?_
  refine c1 (Spec.still yes_WriteIn) [] [] 13 48 2 rfl rfl rfl rfl rfl rfl rfl rfl Tryd.func10 rfl rfl rfl rfl trivial rfl rfl ?_
  refine val 13 (insV winL) rfl (by show insV (fin B_WriteIn) = _; rw [fin_win]) ?_
  refine c1 (Spec.still yes_WriteOut) [] [] 14 56 3 rfl rfl rfl rfl rfl rfl rfl rfl Tryd.func11 rfl rfl rfl rfl trivial rfl rfl ?_
  refine val 14 (insV woutL) rfl (by show insV (fin B_WriteOut) = _; rw [fin_wout]) ?_
  refine s1 15 64 4 rfl rfl rfl rfl rfl rfl trivial ?_
  refine c1 (guarded_3) [] [] 16 72 5 rfl rfl rfl rfl rfl rfl rfl rfl Tryd.func8 rfl rfl rfl rfl trivial rfl rfl ?_
  refine s1 11 80 6 rfl rfl rfl rfl rfl rfl trivial ?_
  refine s1 17 88 7 rfl rfl rfl rfl rfl rfl trivial ?_
  refine s1 18 96 8 rfl rfl rfl rfl rfl rfl trivial ?_
  refine s1 6 104 9 rfl rfl rfl rfl rfl rfl trivial ?_
  refine s0 112 10 rfl rfl rfl rfl rfl (by first | trivial | omega) ?_
  refine s1 7 120 11 rfl rfl rfl rfl rfl rfl trivial ?_
  refine e1 128 rfl ?_
  refine keep [1, 5, 6, 7] rfl ?_
  refine rd1 rfl ?_
  refine d1 19 128 1 rfl rfl rfl rfl rfl rfl trivial ?_
  refine d1 20 136 2 rfl rfl rfl rfl rfl rfl trivial ?_
  refine ask 20 rfl (fun hg3_20 => ?_) (fun hg3_20 => ?_)
  · skip
    try simp only [cs, ne_eq] at hg3_20
    refine g1 1 true 20 21 3 rfl rfl rfl rfl rfl ?_
    refine d1 21 144 3 rfl rfl rfl rfl rfl rfl (by first | trivial | omega) ?_
    refine g1 1 true 20 22 4 rfl rfl rfl rfl rfl ?_
    refine d1 22 152 4 rfl rfl rfl rfl rfl rfl trivial ?_
    refine g1 1 true 20 23 5 rfl rfl rfl rfl rfl ?_
    refine d1 23 160 5 rfl rfl rfl rfl rfl rfl trivial ?_
    refine g1 1 true 20 24 6 rfl rfl rfl rfl rfl ?_
    refine dc1 (schedule_any l hl 3 (by decide) 3000 (by decide)) [] [] 24 168 6 rfl rfl rfl rfl rfl rfl rfl rfl Tryd.func13 rfl rfl rfl rfl trivial rfl rfl ?_
    refine g1 1 true 20 25 7 rfl rfl rfl rfl rfl ?_
    refine dc1 (kept_any (qM 3) (okq 3 (by decide)) (schedL l 3 3000) (by omega) _ rfl pk1 w0 pk2 rfl (by omega) pk9 pk3 ⟨pk5, by omega, pk7, by omega⟩) [] [] 25 176 7 rfl rfl rfl rfl rfl rfl rfl rfl Tryd.func12 rfl rfl rfl rfl trivial rfl rfl ?_
    refine d1 26 184 8 rfl rfl rfl rfl rfl rfl trivial ?_
    refine d1 4 192 9 rfl rfl rfl rfl rfl rfl trivial ?_
    refine de1 200 rfl (by kernel_rfl) ?_
    refine keep [4] rfl ?_
    refine W_ret ?_
    exact out1 4 (SV.b true) (π := []) (hout := []) Tryd.results3 rfl rfl rfl rfl trivial ⟨rfl, rfl⟩
  · skip
    try simp only [cs, ne_eq] at hg3_20
    exact absurd hg3_20 (by decide)

theorem topguard_4 (a : Int) (hp : pickI a 4 = 3) (l : List Int) (hl : Bytes l) : Spec Tryd.prog GV 3 [SV.i a, u8V l] [] (fun r ho => r = SV.b true ∧ ho = []) := by
  obtain ⟨pk1, ⟨w0, pk2⟩, pk3, pk4, pk5, pk6, pk7, pk8, pk9⟩ := played_keeps (n := 4) (by decide) (by decide) (schedL l 4 3000) (sched_len _ _ _) (fun v hv => by have := sched_rng (n := 4) (by decide) 3000 v hv; omega)
  have hsl := sched_len l 4 3000
  refine start 27 0 Tryd.func3 rfl rfl rfl rfl ?_
  refine r1 ?_
  refine s1 4 0 1 rfl rfl rfl rfl rfl rfl trivial ?_
  refine e1 8 rfl ?_
  refine keep [0, 1] rfl ?_
  refine r1 ?_
  refine s1 8 8 1 rfl rfl rfl rfl rfl rfl trivial ?_
  refine c1 (picked_any a 4 (by decide)) [] [] 9 16 2 rfl rfl rfl rfl rfl rfl rfl rfl Tryd.func7 rfl rfl rfl rfl trivial rfl rfl ?_
  refine sA 10 24 3 rfl rfl rfl rfl rfl rfl rfl rfl rfl (by rw [hp]; unfold inRange; omega) ?_
  refine val 10 (SV.i 4) rfl (by rw [hp]; rfl) ?_
  refine s1 5 32 4 rfl rfl rfl rfl rfl rfl trivial ?_
  refine e1 40 rfl ?_
  refine keep [1, 5] rfl ?_
  refine r1 ?_
  refine c1 (Spec.still words_rwl) [] [] 12 40 1 rfl rfl rfl rfl rfl rfl rfl rfl Tryd.func9 rfl rfl rfl rfl trivial rfl rfl ?_
  refine c1 (Spec.still yes_WriteIn) [] [] 13 48 2 rfl rfl rfl rfl rfl rfl rfl rfl Tryd.func10 rfl rfl rfl rfl trivial rfl rfl ?_
  refine val 13 (insV winL) rfl (by show insV (fin B_WriteIn) = _; rw [fin_win]) ?_
  refine c1 (Spec.still yes_WriteOut) [] [] 14 56 3 rfl rfl rfl rfl rfl rfl rfl rfl Tryd.func11 rfl rfl rfl rfl trivial rfl rfl ?_
  refine val 14 (insV woutL) rfl (by show insV (fin B_WriteOut) = _; rw [fin_wout]) ?_
  refine s1 15 64 4 rfl rfl rfl rfl rfl rfl trivial ?_
  refine c1 (guarded_4) [] [] 16 72 5 rfl rfl rfl rfl rfl rfl rfl rfl Tryd.func8 rfl rfl rfl rfl trivial rfl rfl ?_
  refine s1 11 80 6 rfl rfl rfl rfl rfl rfl trivial ?_
  refine s1 17 88 7 rfl rfl rfl rfl rfl rfl trivial ?_
  refine s1 18 96 8 rfl rfl rfl rfl rfl rfl trivial ?_
  refine s1 6 104 9 rfl rfl rfl rfl rfl rfl trivial ?_
  refine s0 112 10 rfl rfl rfl rfl rfl (by first | trivial | omega) ?_
  refine s1 7 120 11 rfl rfl rfl rfl rfl rfl trivial ?_
  refine e1 128 rfl ?_
  refine keep [1, 5, 6, 7] rfl ?_
  refine rd1 rfl ?_
  refine d1 19 128 1 rfl rfl rfl rfl rfl rfl trivial ?_
  refine d1 20 136 2 rfl rfl rfl rfl rfl rfl trivial ?_
  refine ask 20 rfl (fun hg3_20 => ?_) (fun hg3_20 => ?_)
  · skip
    try simp only [cs, ne_eq] at hg3_20
    refine g1 1 true 20 21 3 rfl rfl rfl rfl rfl ?_
    refine d1 21 144 3 rfl rfl rfl rfl rfl rfl (by first | trivial | omega) ?_
    refine g1 1 true 20 22 4 rfl rfl rfl rfl rfl ?_
    refine d1 22 152 4 rfl rfl rfl rfl rfl rfl trivial ?_
    refine g1 1 true 20 23 5 rfl rfl rfl rfl rfl ?_
    refine d1 23 160 5 rfl rfl rfl rfl rfl rfl trivial ?_
    refine g1 1 true 20 24 6 rfl rfl rfl rfl rfl ?_
    refine dc1 (schedule_any l hl 4 (by decide) 3000 (by decide)) [] [] 24 168 6 rfl rfl rfl rfl rfl rfl rfl rfl Tryd.func13 rfl rfl rfl rfl trivial rfl rfl ?_
    refine g1 1 true 20 25 7 rfl rfl rfl rfl rfl ?_
    refine dc1 (kept_any (qM 4) (okq 4 (by decide)) (schedL l 4 3000) (by omega) _ rfl pk1 w0 pk2 rfl (by omega) pk9 pk3 ⟨pk5, by omega, pk7, by omega⟩) [] [] 25 176 7 rfl rfl rfl rfl rfl rfl rfl rfl Tryd.func12 rfl rfl rfl rfl trivial rfl rfl ?_
    refine d1 26 184 8 rfl rfl rfl rfl rfl rfl trivial ?_
    refine d1 4 192 9 rfl rfl rfl rfl rfl rfl trivial ?_
    refine de1 200 rfl (by kernel_rfl) ?_
    refine keep [4] rfl ?_
    refine W_ret ?_
    exact out1 4 (SV.b true) (π := []) (hout := []) Tryd.results3 rfl rfl rfl rfl trivial ⟨rfl, rfl⟩
  · skip
    try simp only [cs, ne_eq] at hg3_20
    exact absurd hg3_20 (by decide)

theorem topguard_any (a : Int) (l : List Int) (hl : Bytes l) : Spec Tryd.prog GV 3 [SV.i a, u8V l] [] (fun r ho => r = SV.b true ∧ ho = []) := by
  have h := pick_in a (n := 4) (by decide)
  rcases (show pickI a 4 = 0 ∨ pickI a 4 = 1 ∨ pickI a 4 = 2 ∨ pickI a 4 = 3 by omega) with h | h | h | h
  · exact topguard_1 a h l hl
  · exact topguard_2 a h l hl
  · exact topguard_3 a h l hl
  · exact topguard_4 a h l hl
end Go.Proofs.YtnnjobmiepnedaaDoor.Nice
