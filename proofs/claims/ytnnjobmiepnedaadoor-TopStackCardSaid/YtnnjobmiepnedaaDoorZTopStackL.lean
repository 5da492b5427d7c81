/- TopStack. -/
import Derived.Test.YtnnjobmiepnedaaDoorZStackR
namespace Go.Proofs.YtnnjobmiepnedaaDoor.Nice
open Go
set_option linter.unusedVariables false
set_option linter.unusedSimpArgs false
set_option maxRecDepth 100000
set_option maxHeartbeats 4000000

theorem topstack_any (ks : List Bool) (hks : ks.length ≤ 9223372036854775807) (l : List Int) (hl : Bytes l) (R : PRes) (hR : played (sQ ks) (schedL l 3 800) = R) : Spec Tryd.prog GV 5 [boolsV ks, u8V l] [] (fun r ho => r = SV.b true ∧ ho = []) := by
  have hsl := sched_len l 3 800
  have hcr := stack_run ks l R hR
  refine start 104 0 Tryd.func5 rfl rfl rfl rfl ?_
  refine r1 ?_
  refine s1 4 0 1 rfl rfl rfl rfl rfl rfl trivial ?_
  refine e1 8 rfl ?_
  refine keep [0, 1] rfl ?_
  refine r1 ?_
  refine c1 (Spec.stillT words_stack) [] [] 19 8 1 rfl rfl rfl rfl rfl rfl rfl rfl Tryd.func22 rfl rfl rfl rfl trivial rfl rfl ?_
  refine s1 18 16 2 rfl rfl rfl rfl rfl rfl trivial ?_
  refine s1 20 24 3 rfl rfl rfl rfl rfl rfl trivial ?_
  refine s1 21 32 4 rfl rfl rfl rfl rfl rfl trivial ?_
  refine s1 5 40 5 rfl rfl rfl rfl rfl rfl trivial ?_
  refine s1 6 48 6 rfl rfl rfl rfl rfl rfl trivial ?_
  refine e1 56 rfl ?_
  refine keep [0, 1, 5, 6] rfl ?_
  refine r1 ?_
  refine c1 (Spec.stillT (yes_Push 8 (by decide))) [] [] 23 56 1 rfl rfl rfl rfl rfl rfl rfl rfl Tryd.func23 rfl rfl rfl rfl trivial rfl rfl ?_
  refine s1 22 64 2 rfl rfl rfl rfl rfl rfl trivial ?_
  refine s1 24 72 3 rfl rfl rfl rfl rfl rfl trivial ?_
  refine val 24 (insV pushL) rfl (by show insV (fin (B_Push 8)) = _; rw [fin_push]) ?_
  refine s1 25 80 4 rfl rfl rfl rfl rfl rfl trivial ?_
  refine s1 7 88 5 rfl rfl rfl rfl rfl rfl trivial ?_
  refine s1 8 96 6 rfl rfl rfl rfl rfl rfl trivial ?_
  refine e1 104 rfl ?_
  refine keep [0, 1, 5, 6, 7, 8] rfl ?_
  refine r1 ?_
  refine c1 (Spec.stillT (yes_Pop 8 (by decide))) [] [] 27 104 1 rfl rfl rfl rfl rfl rfl rfl rfl Tryd.func24 rfl rfl rfl rfl trivial rfl rfl ?_
  refine s1 26 112 2 rfl rfl rfl rfl rfl rfl trivial ?_
  refine s1 28 120 3 rfl rfl rfl rfl rfl rfl trivial ?_
  refine val 28 (insV popL) rfl (by show insV (fin (B_Pop 8)) = _; rw [fin_pop]) ?_
  refine s1 29 128 4 rfl rfl rfl rfl rfl rfl trivial ?_
  refine s1 9 136 5 rfl rfl rfl rfl rfl rfl trivial ?_
  refine s1 10 144 6 rfl rfl rfl rfl rfl rfl trivial ?_
  refine e1 152 rfl ?_
  refine keep [0, 1, 5, 6, 7, 8, 9, 10] rfl ?_
  refine r1 ?_
  refine s1 30 152 1 rfl rfl rfl rfl rfl rfl trivial ?_
  refine s1 31 160 2 rfl rfl rfl rfl rfl rfl trivial ?_
  refine s1 32 168 3 rfl rfl rfl rfl rfl rfl trivial ?_
  refine s1 33 176 4 rfl rfl rfl rfl rfl rfl trivial ?_
  refine s1 34 184 5 rfl rfl rfl rfl rfl rfl ⟨by decide, rfl, by decide, by decide⟩ ?_
  refine s1 35 192 6 rfl rfl rfl rfl rfl rfl trivial ?_
  refine s1 11 200 7 rfl rfl rfl rfl rfl rfl trivial ?_
  refine s0 208 8 rfl rfl rfl rfl rfl (by first | trivial | omega) ?_
  refine e1 216 rfl ?_
  refine keep [0, 1, 6, 8, 10, 11] rfl ?_
  refine chval 176 (.cells 32 1 [insV pushL, insV popL]) rfl rfl ?_
  refine torows (k := 1) 176 2 (codR [pushL, popL]) rfl (by decide) (by decide) (cod_cells _ _) ?_
  refine cfreeze 200 1 176 2 rfl rfl rfl (Nat.le_refl _) rfl ?_
  refine tocells 184 [.d .nils, .d .nils, .d .nils] rfl rfl (by decide) ?_
  refine chval 200 (.cells 28 3 [.d (.vec 1 18 (intsF stW)), .d (.vec 1 2 (codR [pushL, popL])), .sl 184 0 3]) rfl rfl ?_
  refine W_seq ?_
  refine cghostly 184 0 38 2 (callF []) rfl rfl rfl ?_
  refine cghostly 184 1 38 2 (callF []) rfl rfl rfl ?_
  refine cghostly 184 2 38 2 (callF []) rfl rfl rfl ?_
  refine r1 ?_
  refine s1 12 240 1 rfl rfl rfl rfl rfl rfl trivial ?_
  refine e1 248 rfl ?_
  refine keep [0, 1, 6, 8, 10, 11, 12] rfl ?_
  refine W_block ?_
  refine W_unroll 9 ?_
  refine unr ?_
  refine W_seq ?_
  refine r1 ?_
  refine s1 36 248 1 rfl rfl rfl rfl rfl rfl trivial ?_
  refine s1 37 256 2 rfl rfl rfl rfl rfl rfl (by first | trivial | omega) ?_
  refine e1 264 rfl ?_
  refine keep [0, 1, 6, 8, 10, 11, 12, 37] rfl ?_
  refine q1 rfl (fun hc6 => ?_) (fun hc6 => ?_)
  · skip
    try simp only [cs, ne_eq] at hc6
    refine W_skip ?_
    refine tn ?_
    refine W_seq ?_
    refine W_block ?_
    refine r1 ?_
    refine s1 40 264 1 rfl rfl rfl rfl rfl rfl trivial ?_
    refine sA 41 272 2 rfl rfl rfl rfl rfl rfl rfl rfl rfl (by unfold inRange; omega) ?_
    refine val 41 (SV.i 100) rfl rfl ?_
    refine sLit 1 (intsF [100]) 42 280 3 rfl rfl rfl rfl rfl rfl rfl rfl rfl (by intro i c hi hc; obtain rfl : i = 0 := (by omega); obtain rfl : c = 0 := (by omega); rfl) ?_
    refine s1 43 288 4 rfl rfl rfl rfl rfl rfl trivial ?_
    refine s1 13 296 5 rfl rfl rfl rfl rfl rfl trivial ?_
    refine s0 304 6 rfl rfl rfl rfl rfl (by first | trivial | omega) ?_
    refine e1 312 rfl ?_
    refine keep [0, 1, 6, 8, 10, 11, 12, 13] rfl ?_
    refine cut (α := Unit) 6 (fun _u => [(0, boolsV ks), (1, u8V l), (6, SV.i 0), (8, SV.i 0), (10, SV.i 0), (11, .ptr 0 0 0), (12, SV.i 0), (13, .ptr 5 0 0)]) (fun _u => [some (.cells 28 3 [.d (.vec 1 18 (intsF stW)), .d (.vec 1 2 (codR [pushL, popL])), .sl 1 0 3]), some (.cells 39 1 [.sl 2 0 ([] : List CallD).length, .sl 3 0 ([] : List CallD).length, .sl 4 0 ([] : List CallD).length]), some (.rows 38 2 (([] : List CallD)).length (callF (([] : List CallD)))), some (.rows 38 2 (([] : List CallD)).length (callF (([] : List CallD)))), some (.rows 38 2 (([] : List CallD)).length (callF (([] : List CallD)))), some (.cells 38 2 [SV.i (cS ks 0).code, .d (.vec 1 (cS ks 0).args.length (intsF (cS ks 0).args))])]) (fun _u => True) (fun _ => rfl) ?_ (fun _u hz => ?_)
    · skip
      refine r1 ?_
      refine s1 44 312 1 rfl rfl rfl rfl rfl rfl trivial ?_
      refine s1 45 320 2 rfl rfl rfl rfl rfl rfl trivial ?_
      refine s1 46 328 3 rfl rfl rfl rfl rfl rfl (by first | trivial | omega) ?_
      refine s1 47 336 4 rfl rfl rfl rfl rfl rfl (by first | trivial | omega) ?_
      refine s1 48 344 5 rfl rfl rfl rfl rfl rfl trivial ?_
      refine ask 48 rfl (fun hg9_48 => ?_) (fun hg9_48 => ?_)
      · skip
        try simp only [cs, ne_eq] at hg9_48
        refine g1 4 true 48 49 6 rfl rfl rfl rfl rfl ?_
        refine s1 49 352 6 rfl rfl rfl rfl rfl rfl trivial ?_
        refine g1 4 true 48 50 7 rfl rfl rfl rfl rfl ?_
        refine s1 50 360 7 rfl rfl rfl rfl rfl rfl trivial ?_
        refine g1 4 true 48 51 8 rfl rfl rfl rfl rfl ?_
        refine s1 51 368 8 rfl rfl rfl rfl rfl rfl (by first | trivial | omega) ?_
        refine g1 4 true 48 52 9 rfl rfl rfl rfl rfl ?_
        refine s1 52 376 9 rfl rfl rfl rfl rfl rfl (by first | trivial | omega) ?_
        refine val 52 (SV.b (ks.getD 0 false)) rfl rfl ?_
        refine s1 53 384 10 rfl rfl rfl rfl rfl rfl trivial ?_
        refine e1 392 rfl ?_
        refine keep [0, 1, 6, 8, 10, 11, 12, 13, 53] rfl ?_
        refine q1 rfl (fun hc9 => ?_) (fun hc9 => ?_)
        · skip
          try simp only [cs, ne_eq] at hc9
          refine r0n ?_
          refine s1 54 392 1 rfl rfl rfl rfl rfl rfl trivial ?_
          refine s0 400 2 rfl rfl rfl rfl rfl (by first | trivial | omega) ?_
          refine e1 408 rfl ?_
          refine ccelln 296 1 (.d (.vec 1 0 (intsF []))) rfl rfl (fun M ρ v h => h.nil_vec) ?_
          refine chvaln 296 (.cells 38 2 [SV.i (cS ks 0).code, .d (.vec 1 (cS ks 0).args.length (intsF (cS ks 0).args))]) rfl (by rw [cS_yes (ks := ks) (i := 0) hc9]; rfl) ?_
          refine wn ?_
          refine tn ?_
          exact meet (()) [200, 184, 216, 224, 232, 296] trivial rfl ⟨rfl, rfl, rfl, rfl, rfl, rfl, rfl, rfl, trivial⟩ ⟨rfl, rfl, rfl, rfl, rfl, rfl, trivial⟩
        try simp only [cs, ne_eq] at hc9
        refine chval 296 (.cells 38 2 [SV.i (cS ks 0).code, .d (.vec 1 (cS ks 0).args.length (intsF (cS ks 0).args))]) rfl (by rw [cS_no (ks := ks) (i := 0) (by first | exact hc9 | simpa using hc9)]; rfl) ?_
        refine W_skip ?_
        refine tn ?_
        exact meet (()) [200, 184, 216, 224, 232, 296] trivial rfl ⟨rfl, rfl, rfl, rfl, rfl, rfl, rfl, rfl, trivial⟩ ⟨rfl, rfl, rfl, rfl, rfl, rfl, trivial⟩
      try simp only [cs, ne_eq] at hg9_48
      refine g0 4 true 48 49 6 rfl rfl rfl rfl rfl rfl ?_
      refine g0 4 true 48 50 7 rfl rfl rfl rfl rfl rfl ?_
      refine g0 4 true 48 51 8 rfl rfl rfl rfl rfl rfl ?_
      refine g0 4 true 48 52 9 rfl rfl rfl rfl rfl rfl ?_
      refine s1 53 384 10 rfl rfl rfl rfl rfl rfl trivial ?_
      refine e1 392 rfl ?_
      refine keep [0, 1, 6, 8, 10, 11, 12, 13, 53] rfl ?_
      refine q1 rfl (fun hc9 => ?_) (fun hc9 => ?_)
      · skip
        exact absurd hc9 (by decide)
      try simp only [cs, ne_eq] at hc9
      refine chval 296 (.cells 38 2 [SV.i (cS ks 0).code, .d (.vec 1 (cS ks 0).args.length (intsF (cS ks 0).args))]) rfl (by rw [cS_no (ks := ks) (i := 0) (out_no (by omega))]; rfl) ?_
      refine W_skip ?_
      refine tn ?_
      exact meet (()) [200, 184, 216, 224, 232, 296] trivial rfl ⟨rfl, rfl, rfl, rfl, rfl, rfl, rfl, rfl, trivial⟩ ⟨rfl, rfl, rfl, rfl, rfl, rfl, trivial⟩
    refine rd0 rfl ?_
    refine d1 55 6 1 rfl rfl rfl rfl rfl rfl trivial ?_
    refine d1 56 14 2 rfl rfl rfl rfl rfl rfl (by first | trivial | omega) ?_
    refine d1 57 22 3 rfl rfl rfl rfl rfl rfl trivial ?_
    refine dD 58 30 4 rfl rfl rfl rfl rfl rfl rfl rfl rfl (by omega) ?_
    refine val 58 (SV.i 0) rfl rfl ?_
    refine d1 59 38 5 rfl rfl rfl rfl rfl rfl trivial ?_
    refine d1 60 46 6 rfl rfl rfl rfl rfl rfl (by first | trivial | omega) ?_
    refine d1 61 54 7 rfl rfl rfl rfl rfl rfl trivial ?_
    refine dD 62 62 8 rfl rfl rfl rfl rfl rfl rfl rfl rfl (by omega) ?_
    refine val 62 (SV.i 0) rfl rfl ?_
    refine d1 63 70 9 rfl rfl rfl rfl rfl rfl (by first | trivial | omega) ?_
    refine d1 64 78 10 rfl rfl rfl rfl rfl rfl (by first | trivial | omega) ?_
    refine d1 65 86 11 rfl rfl rfl rfl rfl rfl (by first | trivial | omega) ?_
    refine d1 66 94 12 rfl rfl rfl rfl rfl rfl trivial ?_
    refine d1 67 102 13 rfl rfl rfl rfl rfl rfl ⟨Nat.le_refl _, trivial, (by show ((([] : List CallD)).length + 1) * 32 ≤ 140737488355328; simp), (by simp [maxLen])⟩ ?_
    refine d1 68 110 14 rfl rfl rfl rfl rfl rfl (by first | trivial | omega) ?_
    refine d0 118 15 rfl rfl rfl rfl rfl (by first | trivial | omega) ?_
    refine de1 126 rfl (by kernel_rfl) ?_
    refine bn ?_
    refine tn ?_
    refine rowsc (k := 2) (L := ([] : List CallD).length + 1) 102 ([cS ks 0] : List CallD).length (callF ([cS ks 0] : List CallD)) rfl rfl (fun m c hm hc => call_snoc ([] : List CallD) (cS ks 0) _ rfl m c hm hc) ?_
    refine chval 1 (.cells 39 1 [.sl 102 0 ([cS ks 0] : List CallD).length, .sl 3 0 ([] : List CallD).length, .sl 4 0 ([] : List CallD).length]) rfl rfl ?_
    refine r0 ?_
    refine s1 38 126 1 rfl rfl rfl rfl rfl rfl trivial ?_
    refine sA 39 134 2 rfl rfl rfl rfl rfl rfl rfl rfl rfl (by unfold inRange; omega) ?_
    refine val 39 (SV.i 1) rfl rfl ?_
    refine s1 12 142 3 rfl rfl rfl rfl rfl rfl trivial ?_
    refine e1 150 rfl ?_
    refine tn ?_
    refine unr ?_
    refine W_seq ?_
    refine r1 ?_
    refine s1 36 150 1 rfl rfl rfl rfl rfl rfl trivial ?_
    refine s1 37 158 2 rfl rfl rfl rfl rfl rfl (by first | trivial | omega) ?_
    refine e1 166 rfl ?_
    refine keep [0, 1, 6, 8, 10, 11, 12, 37] rfl ?_
    refine q1 rfl (fun hc6 => ?_) (fun hc6 => ?_)
    · skip
      try simp only [cs, ne_eq] at hc6
      refine W_skip ?_
      refine tn ?_
      refine W_seq ?_
      refine W_block ?_
      refine r1 ?_
      refine s1 40 166 1 rfl rfl rfl rfl rfl rfl trivial ?_
      refine sA 41 174 2 rfl rfl rfl rfl rfl rfl rfl rfl rfl (by unfold inRange; omega) ?_
      refine val 41 (SV.i 101) rfl rfl ?_
      refine sLit 1 (intsF [101]) 42 182 3 rfl rfl rfl rfl rfl rfl rfl rfl rfl (by intro i c hi hc; obtain rfl : i = 0 := (by omega); obtain rfl : c = 0 := (by omega); rfl) ?_
      refine s1 43 190 4 rfl rfl rfl rfl rfl rfl trivial ?_
      refine s1 13 198 5 rfl rfl rfl rfl rfl rfl trivial ?_
      refine s0 206 6 rfl rfl rfl rfl rfl (by first | trivial | omega) ?_
      refine e1 214 rfl ?_
      refine keep [0, 1, 6, 8, 10, 11, 12, 13] rfl ?_
      refine cut (α := Unit) 6 (fun _u => [(0, boolsV ks), (1, u8V l), (6, SV.i 0), (8, SV.i 0), (10, SV.i 0), (11, .ptr 0 0 0), (12, SV.i 1), (13, .ptr 5 0 0)]) (fun _u => [some (.cells 28 3 [.d (.vec 1 18 (intsF stW)), .d (.vec 1 2 (codR [pushL, popL])), .sl 1 0 3]), some (.cells 39 1 [.sl 2 0 ([cS ks 0] : List CallD).length, .sl 3 0 ([] : List CallD).length, .sl 4 0 ([] : List CallD).length]), some (.rows 38 2 (([cS ks 0] : List CallD)).length (callF (([cS ks 0] : List CallD)))), some (.rows 38 2 (([] : List CallD)).length (callF (([] : List CallD)))), some (.rows 38 2 (([] : List CallD)).length (callF (([] : List CallD)))), some (.cells 38 2 [SV.i (cS ks 1).code, .d (.vec 1 (cS ks 1).args.length (intsF (cS ks 1).args))])]) (fun _u => True) (fun _ => rfl) ?_ (fun _u hz => ?_)
      · skip
        refine r1 ?_
        refine s1 44 214 1 rfl rfl rfl rfl rfl rfl trivial ?_
        refine s1 45 222 2 rfl rfl rfl rfl rfl rfl trivial ?_
        refine s1 46 230 3 rfl rfl rfl rfl rfl rfl (by first | trivial | omega) ?_
        refine s1 47 238 4 rfl rfl rfl rfl rfl rfl (by first | trivial | omega) ?_
        refine s1 48 246 5 rfl rfl rfl rfl rfl rfl trivial ?_
        refine ask 48 rfl (fun hg9_48 => ?_) (fun hg9_48 => ?_)
        · skip
          try simp only [cs, ne_eq] at hg9_48
          refine g1 4 true 48 49 6 rfl rfl rfl rfl rfl ?_
          refine s1 49 254 6 rfl rfl rfl rfl rfl rfl trivial ?_
          refine g1 4 true 48 50 7 rfl rfl rfl rfl rfl ?_
          refine s1 50 262 7 rfl rfl rfl rfl rfl rfl trivial ?_
          refine g1 4 true 48 51 8 rfl rfl rfl rfl rfl ?_
          refine s1 51 270 8 rfl rfl rfl rfl rfl rfl (by first | trivial | omega) ?_
          refine g1 4 true 48 52 9 rfl rfl rfl rfl rfl ?_
          refine s1 52 278 9 rfl rfl rfl rfl rfl rfl (by first | trivial | omega) ?_
          refine val 52 (SV.b (ks.getD 1 false)) rfl rfl ?_
          refine s1 53 286 10 rfl rfl rfl rfl rfl rfl trivial ?_
          refine e1 294 rfl ?_
          refine keep [0, 1, 6, 8, 10, 11, 12, 13, 53] rfl ?_
          refine q1 rfl (fun hc9 => ?_) (fun hc9 => ?_)
          · skip
            try simp only [cs, ne_eq] at hc9
            refine r0n ?_
            refine s1 54 294 1 rfl rfl rfl rfl rfl rfl trivial ?_
            refine s0 302 2 rfl rfl rfl rfl rfl (by first | trivial | omega) ?_
            refine e1 310 rfl ?_
            refine ccelln 198 1 (.d (.vec 1 0 (intsF []))) rfl rfl (fun M ρ v h => h.nil_vec) ?_
            refine chvaln 198 (.cells 38 2 [SV.i (cS ks 1).code, .d (.vec 1 (cS ks 1).args.length (intsF (cS ks 1).args))]) rfl (by rw [cS_yes (ks := ks) (i := 1) hc9]; rfl) ?_
            refine wn ?_
            refine tn ?_
            exact meet (()) [0, 1, 102, 3, 4, 198] trivial rfl ⟨rfl, rfl, rfl, rfl, rfl, rfl, rfl, rfl, trivial⟩ ⟨rfl, rfl, rfl, rfl, rfl, rfl, trivial⟩
          try simp only [cs, ne_eq] at hc9
          refine chval 198 (.cells 38 2 [SV.i (cS ks 1).code, .d (.vec 1 (cS ks 1).args.length (intsF (cS ks 1).args))]) rfl (by rw [cS_no (ks := ks) (i := 1) (by first | exact hc9 | simpa using hc9)]; rfl) ?_
          refine W_skip ?_
          refine tn ?_
          exact meet (()) [0, 1, 102, 3, 4, 198] trivial rfl ⟨rfl, rfl, rfl, rfl, rfl, rfl, rfl, rfl, trivial⟩ ⟨rfl, rfl, rfl, rfl, rfl, rfl, trivial⟩
        try simp only [cs, ne_eq] at hg9_48
        refine g0 4 true 48 49 6 rfl rfl rfl rfl rfl rfl ?_
        refine g0 4 true 48 50 7 rfl rfl rfl rfl rfl rfl ?_
        refine g0 4 true 48 51 8 rfl rfl rfl rfl rfl rfl ?_
        refine g0 4 true 48 52 9 rfl rfl rfl rfl rfl rfl ?_
        refine s1 53 286 10 rfl rfl rfl rfl rfl rfl trivial ?_
        refine e1 294 rfl ?_
        refine keep [0, 1, 6, 8, 10, 11, 12, 13, 53] rfl ?_
        refine q1 rfl (fun hc9 => ?_) (fun hc9 => ?_)
        · skip
          exact absurd hc9 (by decide)
        try simp only [cs, ne_eq] at hc9
        refine chval 198 (.cells 38 2 [SV.i (cS ks 1).code, .d (.vec 1 (cS ks 1).args.length (intsF (cS ks 1).args))]) rfl (by rw [cS_no (ks := ks) (i := 1) (out_no (by omega))]; rfl) ?_
        refine W_skip ?_
        refine tn ?_
        exact meet (()) [0, 1, 102, 3, 4, 198] trivial rfl ⟨rfl, rfl, rfl, rfl, rfl, rfl, rfl, rfl, trivial⟩ ⟨rfl, rfl, rfl, rfl, rfl, rfl, trivial⟩
      refine rd0 rfl ?_
      refine d1 55 6 1 rfl rfl rfl rfl rfl rfl trivial ?_
      refine d1 56 14 2 rfl rfl rfl rfl rfl rfl (by first | trivial | omega) ?_
      refine d1 57 22 3 rfl rfl rfl rfl rfl rfl trivial ?_
      refine dD 58 30 4 rfl rfl rfl rfl rfl rfl rfl rfl rfl (by omega) ?_
      refine val 58 (SV.i 1) rfl rfl ?_
      refine d1 59 38 5 rfl rfl rfl rfl rfl rfl trivial ?_
      refine d1 60 46 6 rfl rfl rfl rfl rfl rfl (by first | trivial | omega) ?_
      refine d1 61 54 7 rfl rfl rfl rfl rfl rfl trivial ?_
      refine dD 62 62 8 rfl rfl rfl rfl rfl rfl rfl rfl rfl (by omega) ?_
      refine val 62 (SV.i 1) rfl rfl ?_
      refine d1 63 70 9 rfl rfl rfl rfl rfl rfl (by first | trivial | omega) ?_
      refine d1 64 78 10 rfl rfl rfl rfl rfl rfl (by first | trivial | omega) ?_
      refine d1 65 86 11 rfl rfl rfl rfl rfl rfl (by first | trivial | omega) ?_
      refine d1 66 94 12 rfl rfl rfl rfl rfl rfl trivial ?_
      refine d1 67 102 13 rfl rfl rfl rfl rfl rfl ⟨Nat.le_refl _, trivial, (by show ((([] : List CallD)).length + 1) * 32 ≤ 140737488355328; simp), (by simp [maxLen])⟩ ?_
      refine d1 68 110 14 rfl rfl rfl rfl rfl rfl (by first | trivial | omega) ?_
      refine d0 118 15 rfl rfl rfl rfl rfl (by first | trivial | omega) ?_
      refine de1 126 rfl (by kernel_rfl) ?_
      refine bn ?_
      refine tn ?_
      refine rowsc (k := 2) (L := ([] : List CallD).length + 1) 102 ([cS ks 1] : List CallD).length (callF ([cS ks 1] : List CallD)) rfl rfl (fun m c hm hc => call_snoc ([] : List CallD) (cS ks 1) _ rfl m c hm hc) ?_
      refine chval 1 (.cells 39 1 [.sl 2 0 ([cS ks 0] : List CallD).length, .sl 102 0 ([cS ks 1] : List CallD).length, .sl 4 0 ([] : List CallD).length]) rfl rfl ?_
      refine r0 ?_
      refine s1 38 126 1 rfl rfl rfl rfl rfl rfl trivial ?_
      refine sA 39 134 2 rfl rfl rfl rfl rfl rfl rfl rfl rfl (by unfold inRange; omega) ?_
      refine val 39 (SV.i 2) rfl rfl ?_
      refine s1 12 142 3 rfl rfl rfl rfl rfl rfl trivial ?_
      refine e1 150 rfl ?_
      refine tn ?_
      refine unr ?_
      refine W_seq ?_
      refine r1 ?_
      refine s1 36 150 1 rfl rfl rfl rfl rfl rfl trivial ?_
      refine s1 37 158 2 rfl rfl rfl rfl rfl rfl (by first | trivial | omega) ?_
      refine e1 166 rfl ?_
      refine keep [0, 1, 6, 8, 10, 11, 12, 37] rfl ?_
      refine q1 rfl (fun hc6 => ?_) (fun hc6 => ?_)
      · skip
        try simp only [cs, ne_eq] at hc6
        refine W_skip ?_
        refine tn ?_
        refine W_seq ?_
        refine W_block ?_
        refine r1 ?_
        refine s1 40 166 1 rfl rfl rfl rfl rfl rfl trivial ?_
        refine sA 41 174 2 rfl rfl rfl rfl rfl rfl rfl rfl rfl (by unfold inRange; omega) ?_
        refine val 41 (SV.i 102) rfl rfl ?_
        refine sLit 1 (intsF [102]) 42 182 3 rfl rfl rfl rfl rfl rfl rfl rfl rfl (by intro i c hi hc; obtain rfl : i = 0 := (by omega); obtain rfl : c = 0 := (by omega); rfl) ?_
        refine s1 43 190 4 rfl rfl rfl rfl rfl rfl trivial ?_
        refine s1 13 198 5 rfl rfl rfl rfl rfl rfl trivial ?_
        refine s0 206 6 rfl rfl rfl rfl rfl (by first | trivial | omega) ?_
        refine e1 214 rfl ?_
        refine keep [0, 1, 6, 8, 10, 11, 12, 13] rfl ?_
        refine cut (α := Unit) 6 (fun _u => [(0, boolsV ks), (1, u8V l), (6, SV.i 0), (8, SV.i 0), (10, SV.i 0), (11, .ptr 0 0 0), (12, SV.i 2), (13, .ptr 5 0 0)]) (fun _u => [some (.cells 28 3 [.d (.vec 1 18 (intsF stW)), .d (.vec 1 2 (codR [pushL, popL])), .sl 1 0 3]), some (.cells 39 1 [.sl 2 0 ([cS ks 0] : List CallD).length, .sl 3 0 ([cS ks 1] : List CallD).length, .sl 4 0 ([] : List CallD).length]), some (.rows 38 2 (([cS ks 0] : List CallD)).length (callF (([cS ks 0] : List CallD)))), some (.rows 38 2 (([cS ks 1] : List CallD)).length (callF (([cS ks 1] : List CallD)))), some (.rows 38 2 (([] : List CallD)).length (callF (([] : List CallD)))), some (.cells 38 2 [SV.i (cS ks 2).code, .d (.vec 1 (cS ks 2).args.length (intsF (cS ks 2).args))])]) (fun _u => True) (fun _ => rfl) ?_ (fun _u hz => ?_)
        · skip
          refine r1 ?_
          refine s1 44 214 1 rfl rfl rfl rfl rfl rfl trivial ?_
          refine s1 45 222 2 rfl rfl rfl rfl rfl rfl trivial ?_
          refine s1 46 230 3 rfl rfl rfl rfl rfl rfl (by first | trivial | omega) ?_
          refine s1 47 238 4 rfl rfl rfl rfl rfl rfl (by first | trivial | omega) ?_
          refine s1 48 246 5 rfl rfl rfl rfl rfl rfl trivial ?_
          refine ask 48 rfl (fun hg9_48 => ?_) (fun hg9_48 => ?_)
          · skip
            try simp only [cs, ne_eq] at hg9_48
            refine g1 4 true 48 49 6 rfl rfl rfl rfl rfl ?_
            refine s1 49 254 6 rfl rfl rfl rfl rfl rfl trivial ?_
            refine g1 4 true 48 50 7 rfl rfl rfl rfl rfl ?_
            refine s1 50 262 7 rfl rfl rfl rfl rfl rfl trivial ?_
            refine g1 4 true 48 51 8 rfl rfl rfl rfl rfl ?_
            refine s1 51 270 8 rfl rfl rfl rfl rfl rfl (by first | trivial | omega) ?_
            refine g1 4 true 48 52 9 rfl rfl rfl rfl rfl ?_
            refine s1 52 278 9 rfl rfl rfl rfl rfl rfl (by first | trivial | omega) ?_
            refine val 52 (SV.b (ks.getD 2 false)) rfl rfl ?_
            refine s1 53 286 10 rfl rfl rfl rfl rfl rfl trivial ?_
            refine e1 294 rfl ?_
            refine keep [0, 1, 6, 8, 10, 11, 12, 13, 53] rfl ?_
            refine q1 rfl (fun hc9 => ?_) (fun hc9 => ?_)
            · skip
              try simp only [cs, ne_eq] at hc9
              refine r0n ?_
              refine s1 54 294 1 rfl rfl rfl rfl rfl rfl trivial ?_
              refine s0 302 2 rfl rfl rfl rfl rfl (by first | trivial | omega) ?_
              refine e1 310 rfl ?_
              refine ccelln 198 1 (.d (.vec 1 0 (intsF []))) rfl rfl (fun M ρ v h => h.nil_vec) ?_
              refine chvaln 198 (.cells 38 2 [SV.i (cS ks 2).code, .d (.vec 1 (cS ks 2).args.length (intsF (cS ks 2).args))]) rfl (by rw [cS_yes (ks := ks) (i := 2) hc9]; rfl) ?_
              refine wn ?_
              refine tn ?_
              exact meet (()) [0, 1, 2, 102, 4, 198] trivial rfl ⟨rfl, rfl, rfl, rfl, rfl, rfl, rfl, rfl, trivial⟩ ⟨rfl, rfl, rfl, rfl, rfl, rfl, trivial⟩
            try simp only [cs, ne_eq] at hc9
            refine chval 198 (.cells 38 2 [SV.i (cS ks 2).code, .d (.vec 1 (cS ks 2).args.length (intsF (cS ks 2).args))]) rfl (by rw [cS_no (ks := ks) (i := 2) (by first | exact hc9 | simpa using hc9)]; rfl) ?_
            refine W_skip ?_
            refine tn ?_
            exact meet (()) [0, 1, 2, 102, 4, 198] trivial rfl ⟨rfl, rfl, rfl, rfl, rfl, rfl, rfl, rfl, trivial⟩ ⟨rfl, rfl, rfl, rfl, rfl, rfl, trivial⟩
          try simp only [cs, ne_eq] at hg9_48
          refine g0 4 true 48 49 6 rfl rfl rfl rfl rfl rfl ?_
          refine g0 4 true 48 50 7 rfl rfl rfl rfl rfl rfl ?_
          refine g0 4 true 48 51 8 rfl rfl rfl rfl rfl rfl ?_
          refine g0 4 true 48 52 9 rfl rfl rfl rfl rfl rfl ?_
          refine s1 53 286 10 rfl rfl rfl rfl rfl rfl trivial ?_
          refine e1 294 rfl ?_
          refine keep [0, 1, 6, 8, 10, 11, 12, 13, 53] rfl ?_
          refine q1 rfl (fun hc9 => ?_) (fun hc9 => ?_)
          · skip
            exact absurd hc9 (by decide)
          try simp only [cs, ne_eq] at hc9
          refine chval 198 (.cells 38 2 [SV.i (cS ks 2).code, .d (.vec 1 (cS ks 2).args.length (intsF (cS ks 2).args))]) rfl (by rw [cS_no (ks := ks) (i := 2) (out_no (by omega))]; rfl) ?_
          refine W_skip ?_
          refine tn ?_
          exact meet (()) [0, 1, 2, 102, 4, 198] trivial rfl ⟨rfl, rfl, rfl, rfl, rfl, rfl, rfl, rfl, trivial⟩ ⟨rfl, rfl, rfl, rfl, rfl, rfl, trivial⟩
        refine rd0 rfl ?_
        refine d1 55 6 1 rfl rfl rfl rfl rfl rfl trivial ?_
        refine d1 56 14 2 rfl rfl rfl rfl rfl rfl (by first | trivial | omega) ?_
        refine d1 57 22 3 rfl rfl rfl rfl rfl rfl trivial ?_
        refine dD 58 30 4 rfl rfl rfl rfl rfl rfl rfl rfl rfl (by omega) ?_
        refine val 58 (SV.i 2) rfl rfl ?_
        refine d1 59 38 5 rfl rfl rfl rfl rfl rfl trivial ?_
        refine d1 60 46 6 rfl rfl rfl rfl rfl rfl (by first | trivial | omega) ?_
        refine d1 61 54 7 rfl rfl rfl rfl rfl rfl trivial ?_
        refine dD 62 62 8 rfl rfl rfl rfl rfl rfl rfl rfl rfl (by omega) ?_
        refine val 62 (SV.i 2) rfl rfl ?_
        refine d1 63 70 9 rfl rfl rfl rfl rfl rfl (by first | trivial | omega) ?_
        refine d1 64 78 10 rfl rfl rfl rfl rfl rfl (by first | trivial | omega) ?_
        refine d1 65 86 11 rfl rfl rfl rfl rfl rfl (by first | trivial | omega) ?_
        refine d1 66 94 12 rfl rfl rfl rfl rfl rfl trivial ?_
        refine d1 67 102 13 rfl rfl rfl rfl rfl rfl ⟨Nat.le_refl _, trivial, (by show ((([] : List CallD)).length + 1) * 32 ≤ 140737488355328; simp), (by simp [maxLen])⟩ ?_
        refine d1 68 110 14 rfl rfl rfl rfl rfl rfl (by first | trivial | omega) ?_
        refine d0 118 15 rfl rfl rfl rfl rfl (by first | trivial | omega) ?_
        refine de1 126 rfl (by kernel_rfl) ?_
        refine bn ?_
        refine tn ?_
        refine rowsc (k := 2) (L := ([] : List CallD).length + 1) 102 ([cS ks 2] : List CallD).length (callF ([cS ks 2] : List CallD)) rfl rfl (fun m c hm hc => call_snoc ([] : List CallD) (cS ks 2) _ rfl m c hm hc) ?_
        refine chval 1 (.cells 39 1 [.sl 2 0 ([cS ks 0] : List CallD).length, .sl 3 0 ([cS ks 1] : List CallD).length, .sl 102 0 ([cS ks 2] : List CallD).length]) rfl rfl ?_
        refine r0 ?_
        refine s1 38 126 1 rfl rfl rfl rfl rfl rfl trivial ?_
        refine sA 39 134 2 rfl rfl rfl rfl rfl rfl rfl rfl rfl (by unfold inRange; omega) ?_
        refine val 39 (SV.i 3) rfl rfl ?_
        refine s1 12 142 3 rfl rfl rfl rfl rfl rfl trivial ?_
        refine e1 150 rfl ?_
        refine tn ?_
        refine unr ?_
        refine W_seq ?_
        refine r1 ?_
        refine s1 36 150 1 rfl rfl rfl rfl rfl rfl trivial ?_
        refine s1 37 158 2 rfl rfl rfl rfl rfl rfl (by first | trivial | omega) ?_
        refine e1 166 rfl ?_
        refine keep [0, 1, 6, 8, 10, 11, 12, 37] rfl ?_
        refine q1 rfl (fun hc6 => ?_) (fun hc6 => ?_)
        · skip
          try simp only [cs, ne_eq] at hc6
          refine W_skip ?_
          refine tn ?_
          refine W_seq ?_
          refine W_block ?_
          refine r1 ?_
          refine s1 40 166 1 rfl rfl rfl rfl rfl rfl trivial ?_
          refine sA 41 174 2 rfl rfl rfl rfl rfl rfl rfl rfl rfl (by unfold inRange; omega) ?_
          refine val 41 (SV.i 103) rfl rfl ?_
          refine sLit 1 (intsF [103]) 42 182 3 rfl rfl rfl rfl rfl rfl rfl rfl rfl (by intro i c hi hc; obtain rfl : i = 0 := (by omega); obtain rfl : c = 0 := (by omega); rfl) ?_
          refine s1 43 190 4 rfl rfl rfl rfl rfl rfl trivial ?_
          refine s1 13 198 5 rfl rfl rfl rfl rfl rfl trivial ?_
          refine s0 206 6 rfl rfl rfl rfl rfl (by first | trivial | omega) ?_
          refine e1 214 rfl ?_
          refine keep [0, 1, 6, 8, 10, 11, 12, 13] rfl ?_
          refine cut (α := Unit) 6 (fun _u => [(0, boolsV ks), (1, u8V l), (6, SV.i 0), (8, SV.i 0), (10, SV.i 0), (11, .ptr 0 0 0), (12, SV.i 3), (13, .ptr 5 0 0)]) (fun _u => [some (.cells 28 3 [.d (.vec 1 18 (intsF stW)), .d (.vec 1 2 (codR [pushL, popL])), .sl 1 0 3]), some (.cells 39 1 [.sl 2 0 ([cS ks 0] : List CallD).length, .sl 3 0 ([cS ks 1] : List CallD).length, .sl 4 0 ([cS ks 2] : List CallD).length]), some (.rows 38 2 (([cS ks 0] : List CallD)).length (callF (([cS ks 0] : List CallD)))), some (.rows 38 2 (([cS ks 1] : List CallD)).length (callF (([cS ks 1] : List CallD)))), some (.rows 38 2 (([cS ks 2] : List CallD)).length (callF (([cS ks 2] : List CallD)))), some (.cells 38 2 [SV.i (cS ks 3).code, .d (.vec 1 (cS ks 3).args.length (intsF (cS ks 3).args))])]) (fun _u => True) (fun _ => rfl) ?_ (fun _u hz => ?_)
          · skip
            refine r1 ?_
            refine s1 44 214 1 rfl rfl rfl rfl rfl rfl trivial ?_
            refine s1 45 222 2 rfl rfl rfl rfl rfl rfl trivial ?_
            refine s1 46 230 3 rfl rfl rfl rfl rfl rfl (by first | trivial | omega) ?_
            refine s1 47 238 4 rfl rfl rfl rfl rfl rfl (by first | trivial | omega) ?_
            refine s1 48 246 5 rfl rfl rfl rfl rfl rfl trivial ?_
            refine ask 48 rfl (fun hg9_48 => ?_) (fun hg9_48 => ?_)
            · skip
              try simp only [cs, ne_eq] at hg9_48
              refine g1 4 true 48 49 6 rfl rfl rfl rfl rfl ?_
              refine s1 49 254 6 rfl rfl rfl rfl rfl rfl trivial ?_
              refine g1 4 true 48 50 7 rfl rfl rfl rfl rfl ?_
              refine s1 50 262 7 rfl rfl rfl rfl rfl rfl trivial ?_
              refine g1 4 true 48 51 8 rfl rfl rfl rfl rfl ?_
              refine s1 51 270 8 rfl rfl rfl rfl rfl rfl (by first | trivial | omega) ?_
              refine g1 4 true 48 52 9 rfl rfl rfl rfl rfl ?_
              refine s1 52 278 9 rfl rfl rfl rfl rfl rfl (by first | trivial | omega) ?_
              refine val 52 (SV.b (ks.getD 3 false)) rfl rfl ?_
              refine s1 53 286 10 rfl rfl rfl rfl rfl rfl trivial ?_
              refine e1 294 rfl ?_
              refine keep [0, 1, 6, 8, 10, 11, 12, 13, 53] rfl ?_
              refine q1 rfl (fun hc9 => ?_) (fun hc9 => ?_)
              · skip
                try simp only [cs, ne_eq] at hc9
                refine r0n ?_
                refine s1 54 294 1 rfl rfl rfl rfl rfl rfl trivial ?_
                refine s0 302 2 rfl rfl rfl rfl rfl (by first | trivial | omega) ?_
                refine e1 310 rfl ?_
                refine ccelln 198 1 (.d (.vec 1 0 (intsF []))) rfl rfl (fun M ρ v h => h.nil_vec) ?_
                refine chvaln 198 (.cells 38 2 [SV.i (cS ks 3).code, .d (.vec 1 (cS ks 3).args.length (intsF (cS ks 3).args))]) rfl (by rw [cS_yes (ks := ks) (i := 3) hc9]; rfl) ?_
                refine wn ?_
                refine tn ?_
                exact meet (()) [0, 1, 2, 3, 102, 198] trivial rfl ⟨rfl, rfl, rfl, rfl, rfl, rfl, rfl, rfl, trivial⟩ ⟨rfl, rfl, rfl, rfl, rfl, rfl, trivial⟩
              try simp only [cs, ne_eq] at hc9
              refine chval 198 (.cells 38 2 [SV.i (cS ks 3).code, .d (.vec 1 (cS ks 3).args.length (intsF (cS ks 3).args))]) rfl (by rw [cS_no (ks := ks) (i := 3) (by first | exact hc9 | simpa using hc9)]; rfl) ?_
              refine W_skip ?_
              refine tn ?_
              exact meet (()) [0, 1, 2, 3, 102, 198] trivial rfl ⟨rfl, rfl, rfl, rfl, rfl, rfl, rfl, rfl, trivial⟩ ⟨rfl, rfl, rfl, rfl, rfl, rfl, trivial⟩
            try simp only [cs, ne_eq] at hg9_48
            refine g0 4 true 48 49 6 rfl rfl rfl rfl rfl rfl ?_
            refine g0 4 true 48 50 7 rfl rfl rfl rfl rfl rfl ?_
            refine g0 4 true 48 51 8 rfl rfl rfl rfl rfl rfl ?_
            refine g0 4 true 48 52 9 rfl rfl rfl rfl rfl rfl ?_
            refine s1 53 286 10 rfl rfl rfl rfl rfl rfl trivial ?_
            refine e1 294 rfl ?_
            refine keep [0, 1, 6, 8, 10, 11, 12, 13, 53] rfl ?_
            refine q1 rfl (fun hc9 => ?_) (fun hc9 => ?_)
            · skip
              exact absurd hc9 (by decide)
            try simp only [cs, ne_eq] at hc9
            refine chval 198 (.cells 38 2 [SV.i (cS ks 3).code, .d (.vec 1 (cS ks 3).args.length (intsF (cS ks 3).args))]) rfl (by rw [cS_no (ks := ks) (i := 3) (out_no (by omega))]; rfl) ?_
            refine W_skip ?_
            refine tn ?_
            exact meet (()) [0, 1, 2, 3, 102, 198] trivial rfl ⟨rfl, rfl, rfl, rfl, rfl, rfl, rfl, rfl, trivial⟩ ⟨rfl, rfl, rfl, rfl, rfl, rfl, trivial⟩
          refine rd0 rfl ?_
          refine d1 55 6 1 rfl rfl rfl rfl rfl rfl trivial ?_
          refine d1 56 14 2 rfl rfl rfl rfl rfl rfl (by first | trivial | omega) ?_
          refine d1 57 22 3 rfl rfl rfl rfl rfl rfl trivial ?_
          refine dD 58 30 4 rfl rfl rfl rfl rfl rfl rfl rfl rfl (by omega) ?_
          refine val 58 (SV.i 0) rfl rfl ?_
          refine d1 59 38 5 rfl rfl rfl rfl rfl rfl trivial ?_
          refine d1 60 46 6 rfl rfl rfl rfl rfl rfl (by first | trivial | omega) ?_
          refine d1 61 54 7 rfl rfl rfl rfl rfl rfl trivial ?_
          refine dD 62 62 8 rfl rfl rfl rfl rfl rfl rfl rfl rfl (by omega) ?_
          refine val 62 (SV.i 0) rfl rfl ?_
          refine d1 63 70 9 rfl rfl rfl rfl rfl rfl (by first | trivial | omega) ?_
          refine d1 64 78 10 rfl rfl rfl rfl rfl rfl (by first | trivial | omega) ?_
          refine d1 65 86 11 rfl rfl rfl rfl rfl rfl (by first | trivial | omega) ?_
          refine d1 66 94 12 rfl rfl rfl rfl rfl rfl trivial ?_
          refine d1 67 102 13 rfl rfl rfl rfl rfl rfl ⟨Nat.le_refl _, trivial, (by show ((([cS ks 0] : List CallD)).length + 1) * 32 ≤ 140737488355328; simp), (by simp [maxLen])⟩ ?_
          refine d1 68 110 14 rfl rfl rfl rfl rfl rfl (by first | trivial | omega) ?_
          refine d0 118 15 rfl rfl rfl rfl rfl (by first | trivial | omega) ?_
          refine de1 126 rfl (by kernel_rfl) ?_
          refine bn ?_
          refine tn ?_
          refine rowsc (k := 2) (L := ([cS ks 0] : List CallD).length + 1) 102 ([cS ks 0, cS ks 3] : List CallD).length (callF ([cS ks 0, cS ks 3] : List CallD)) rfl rfl (fun m c hm hc => call_snoc ([cS ks 0] : List CallD) (cS ks 3) _ rfl m c hm hc) ?_
          refine chval 1 (.cells 39 1 [.sl 102 0 ([cS ks 0, cS ks 3] : List CallD).length, .sl 3 0 ([cS ks 1] : List CallD).length, .sl 4 0 ([cS ks 2] : List CallD).length]) rfl rfl ?_
          refine r0 ?_
          refine s1 38 126 1 rfl rfl rfl rfl rfl rfl trivial ?_
          refine sA 39 134 2 rfl rfl rfl rfl rfl rfl rfl rfl rfl (by unfold inRange; omega) ?_
          refine val 39 (SV.i 4) rfl rfl ?_
          refine s1 12 142 3 rfl rfl rfl rfl rfl rfl trivial ?_
          refine e1 150 rfl ?_
          refine tn ?_
          refine unr ?_
          refine W_seq ?_
          refine r1 ?_
          refine s1 36 150 1 rfl rfl rfl rfl rfl rfl trivial ?_
          refine s1 37 158 2 rfl rfl rfl rfl rfl rfl (by first | trivial | omega) ?_
          refine e1 166 rfl ?_
          refine keep [0, 1, 6, 8, 10, 11, 12, 37] rfl ?_
          refine q1 rfl (fun hc6 => ?_) (fun hc6 => ?_)
          · skip
            try simp only [cs, ne_eq] at hc6
            refine W_skip ?_
            refine tn ?_
            refine W_seq ?_
            refine W_block ?_
            refine r1 ?_
            refine s1 40 166 1 rfl rfl rfl rfl rfl rfl trivial ?_
            refine sA 41 174 2 rfl rfl rfl rfl rfl rfl rfl rfl rfl (by unfold inRange; omega) ?_
            refine val 41 (SV.i 104) rfl rfl ?_
            refine sLit 1 (intsF [104]) 42 182 3 rfl rfl rfl rfl rfl rfl rfl rfl rfl (by intro i c hi hc; obtain rfl : i = 0 := (by omega); obtain rfl : c = 0 := (by omega); rfl) ?_
            refine s1 43 190 4 rfl rfl rfl rfl rfl rfl trivial ?_
            refine s1 13 198 5 rfl rfl rfl rfl rfl rfl trivial ?_
            refine s0 206 6 rfl rfl rfl rfl rfl (by first | trivial | omega) ?_
            refine e1 214 rfl ?_
            refine keep [0, 1, 6, 8, 10, 11, 12, 13] rfl ?_
            refine cut (α := Unit) 6 (fun _u => [(0, boolsV ks), (1, u8V l), (6, SV.i 0), (8, SV.i 0), (10, SV.i 0), (11, .ptr 0 0 0), (12, SV.i 4), (13, .ptr 5 0 0)]) (fun _u => [some (.cells 28 3 [.d (.vec 1 18 (intsF stW)), .d (.vec 1 2 (codR [pushL, popL])), .sl 1 0 3]), some (.cells 39 1 [.sl 2 0 ([cS ks 0, cS ks 3] : List CallD).length, .sl 3 0 ([cS ks 1] : List CallD).length, .sl 4 0 ([cS ks 2] : List CallD).length]), some (.rows 38 2 (([cS ks 0, cS ks 3] : List CallD)).length (callF (([cS ks 0, cS ks 3] : List CallD)))), some (.rows 38 2 (([cS ks 1] : List CallD)).length (callF (([cS ks 1] : List CallD)))), some (.rows 38 2 (([cS ks 2] : List CallD)).length (callF (([cS ks 2] : List CallD)))), some (.cells 38 2 [SV.i (cS ks 4).code, .d (.vec 1 (cS ks 4).args.length (intsF (cS ks 4).args))])]) (fun _u => True) (fun _ => rfl) ?_ (fun _u hz => ?_)
            · skip
              refine r1 ?_
              refine s1 44 214 1 rfl rfl rfl rfl rfl rfl trivial ?_
              refine s1 45 222 2 rfl rfl rfl rfl rfl rfl trivial ?_
              refine s1 46 230 3 rfl rfl rfl rfl rfl rfl (by first | trivial | omega) ?_
              refine s1 47 238 4 rfl rfl rfl rfl rfl rfl (by first | trivial | omega) ?_
              refine s1 48 246 5 rfl rfl rfl rfl rfl rfl trivial ?_
              refine ask 48 rfl (fun hg9_48 => ?_) (fun hg9_48 => ?_)
              · skip
                try simp only [cs, ne_eq] at hg9_48
                refine g1 4 true 48 49 6 rfl rfl rfl rfl rfl ?_
                refine s1 49 254 6 rfl rfl rfl rfl rfl rfl trivial ?_
                refine g1 4 true 48 50 7 rfl rfl rfl rfl rfl ?_
                refine s1 50 262 7 rfl rfl rfl rfl rfl rfl trivial ?_
                refine g1 4 true 48 51 8 rfl rfl rfl rfl rfl ?_
                refine s1 51 270 8 rfl rfl rfl rfl rfl rfl (by first | trivial | omega) ?_
                refine g1 4 true 48 52 9 rfl rfl rfl rfl rfl ?_
                refine s1 52 278 9 rfl rfl rfl rfl rfl rfl (by first | trivial | omega) ?_
                refine val 52 (SV.b (ks.getD 4 false)) rfl rfl ?_
                refine s1 53 286 10 rfl rfl rfl rfl rfl rfl trivial ?_
                refine e1 294 rfl ?_
                refine keep [0, 1, 6, 8, 10, 11, 12, 13, 53] rfl ?_
                refine q1 rfl (fun hc9 => ?_) (fun hc9 => ?_)
                · skip
                  try simp only [cs, ne_eq] at hc9
                  refine r0n ?_
                  refine s1 54 294 1 rfl rfl rfl rfl rfl rfl trivial ?_
                  refine s0 302 2 rfl rfl rfl rfl rfl (by first | trivial | omega) ?_
                  refine e1 310 rfl ?_
                  refine ccelln 198 1 (.d (.vec 1 0 (intsF []))) rfl rfl (fun M ρ v h => h.nil_vec) ?_
                  refine chvaln 198 (.cells 38 2 [SV.i (cS ks 4).code, .d (.vec 1 (cS ks 4).args.length (intsF (cS ks 4).args))]) rfl (by rw [cS_yes (ks := ks) (i := 4) hc9]; rfl) ?_
                  refine wn ?_
                  refine tn ?_
                  exact meet (()) [0, 1, 102, 3, 4, 198] trivial rfl ⟨rfl, rfl, rfl, rfl, rfl, rfl, rfl, rfl, trivial⟩ ⟨rfl, rfl, rfl, rfl, rfl, rfl, trivial⟩
                try simp only [cs, ne_eq] at hc9
                refine chval 198 (.cells 38 2 [SV.i (cS ks 4).code, .d (.vec 1 (cS ks 4).args.length (intsF (cS ks 4).args))]) rfl (by rw [cS_no (ks := ks) (i := 4) (by first | exact hc9 | simpa using hc9)]; rfl) ?_
                refine W_skip ?_
                refine tn ?_
                exact meet (()) [0, 1, 102, 3, 4, 198] trivial rfl ⟨rfl, rfl, rfl, rfl, rfl, rfl, rfl, rfl, trivial⟩ ⟨rfl, rfl, rfl, rfl, rfl, rfl, trivial⟩
              try simp only [cs, ne_eq] at hg9_48
              refine g0 4 true 48 49 6 rfl rfl rfl rfl rfl rfl ?_
              refine g0 4 true 48 50 7 rfl rfl rfl rfl rfl rfl ?_
              refine g0 4 true 48 51 8 rfl rfl rfl rfl rfl rfl ?_
              refine g0 4 true 48 52 9 rfl rfl rfl rfl rfl rfl ?_
              refine s1 53 286 10 rfl rfl rfl rfl rfl rfl trivial ?_
              refine e1 294 rfl ?_
              refine keep [0, 1, 6, 8, 10, 11, 12, 13, 53] rfl ?_
              refine q1 rfl (fun hc9 => ?_) (fun hc9 => ?_)
              · skip
                exact absurd hc9 (by decide)
              try simp only [cs, ne_eq] at hc9
              refine chval 198 (.cells 38 2 [SV.i (cS ks 4).code, .d (.vec 1 (cS ks 4).args.length (intsF (cS ks 4).args))]) rfl (by rw [cS_no (ks := ks) (i := 4) (out_no (by omega))]; rfl) ?_
              refine W_skip ?_
              refine tn ?_
              exact meet (()) [0, 1, 102, 3, 4, 198] trivial rfl ⟨rfl, rfl, rfl, rfl, rfl, rfl, rfl, rfl, trivial⟩ ⟨rfl, rfl, rfl, rfl, rfl, rfl, trivial⟩
            refine rd0 rfl ?_
            refine d1 55 6 1 rfl rfl rfl rfl rfl rfl trivial ?_
            refine d1 56 14 2 rfl rfl rfl rfl rfl rfl (by first | trivial | omega) ?_
            refine d1 57 22 3 rfl rfl rfl rfl rfl rfl trivial ?_
            refine dD 58 30 4 rfl rfl rfl rfl rfl rfl rfl rfl rfl (by omega) ?_
            refine val 58 (SV.i 1) rfl rfl ?_
            refine d1 59 38 5 rfl rfl rfl rfl rfl rfl trivial ?_
            refine d1 60 46 6 rfl rfl rfl rfl rfl rfl (by first | trivial | omega) ?_
            refine d1 61 54 7 rfl rfl rfl rfl rfl rfl trivial ?_
            refine dD 62 62 8 rfl rfl rfl rfl rfl rfl rfl rfl rfl (by omega) ?_
            refine val 62 (SV.i 1) rfl rfl ?_
            refine d1 63 70 9 rfl rfl rfl rfl rfl rfl (by first | trivial | omega) ?_
            refine d1 64 78 10 rfl rfl rfl rfl rfl rfl (by first | trivial | omega) ?_
            refine d1 65 86 11 rfl rfl rfl rfl rfl rfl (by first | trivial | omega) ?_
            refine d1 66 94 12 rfl rfl rfl rfl rfl rfl trivial ?_
            refine d1 67 102 13 rfl rfl rfl rfl rfl rfl ⟨Nat.le_refl _, trivial, (by show ((([cS ks 1] : List CallD)).length + 1) * 32 ≤ 140737488355328; simp), (by simp [maxLen])⟩ ?_
            refine d1 68 110 14 rfl rfl rfl rfl rfl rfl (by first | trivial | omega) ?_
            refine d0 118 15 rfl rfl rfl rfl rfl (by first | trivial | omega) ?_
            refine de1 126 rfl (by kernel_rfl) ?_
            refine bn ?_
            refine tn ?_
            refine rowsc (k := 2) (L := ([cS ks 1] : List CallD).length + 1) 102 ([cS ks 1, cS ks 4] : List CallD).length (callF ([cS ks 1, cS ks 4] : List CallD)) rfl rfl (fun m c hm hc => call_snoc ([cS ks 1] : List CallD) (cS ks 4) _ rfl m c hm hc) ?_
            refine chval 1 (.cells 39 1 [.sl 2 0 ([cS ks 0, cS ks 3] : List CallD).length, .sl 102 0 ([cS ks 1, cS ks 4] : List CallD).length, .sl 4 0 ([cS ks 2] : List CallD).length]) rfl rfl ?_
            refine r0 ?_
            refine s1 38 126 1 rfl rfl rfl rfl rfl rfl trivial ?_
            refine sA 39 134 2 rfl rfl rfl rfl rfl rfl rfl rfl rfl (by unfold inRange; omega) ?_
            refine val 39 (SV.i 5) rfl rfl ?_
            refine s1 12 142 3 rfl rfl rfl rfl rfl rfl trivial ?_
            refine e1 150 rfl ?_
            refine tn ?_
            refine unr ?_
            refine W_seq ?_
            refine r1 ?_
            refine s1 36 150 1 rfl rfl rfl rfl rfl rfl trivial ?_
            refine s1 37 158 2 rfl rfl rfl rfl rfl rfl (by first | trivial | omega) ?_
            refine e1 166 rfl ?_
            refine keep [0, 1, 6, 8, 10, 11, 12, 37] rfl ?_
            refine q1 rfl (fun hc6 => ?_) (fun hc6 => ?_)
            · skip
              try simp only [cs, ne_eq] at hc6
              refine W_skip ?_
              refine tn ?_
              refine W_seq ?_
              refine W_block ?_
              refine r1 ?_
              refine s1 40 166 1 rfl rfl rfl rfl rfl rfl trivial ?_
              refine sA 41 174 2 rfl rfl rfl rfl rfl rfl rfl rfl rfl (by unfold inRange; omega) ?_
              refine val 41 (SV.i 105) rfl rfl ?_
              refine sLit 1 (intsF [105]) 42 182 3 rfl rfl rfl rfl rfl rfl rfl rfl rfl (by intro i c hi hc; obtain rfl : i = 0 := (by omega); obtain rfl : c = 0 := (by omega); rfl) ?_
              refine s1 43 190 4 rfl rfl rfl rfl rfl rfl trivial ?_
              refine s1 13 198 5 rfl rfl rfl rfl rfl rfl trivial ?_
              refine s0 206 6 rfl rfl rfl rfl rfl (by first | trivial | omega) ?_
              refine e1 214 rfl ?_
              refine keep [0, 1, 6, 8, 10, 11, 12, 13] rfl ?_
              refine cut (α := Unit) 6 (fun _u => [(0, boolsV ks), (1, u8V l), (6, SV.i 0), (8, SV.i 0), (10, SV.i 0), (11, .ptr 0 0 0), (12, SV.i 5), (13, .ptr 5 0 0)]) (fun _u => [some (.cells 28 3 [.d (.vec 1 18 (intsF stW)), .d (.vec 1 2 (codR [pushL, popL])), .sl 1 0 3]), some (.cells 39 1 [.sl 2 0 ([cS ks 0, cS ks 3] : List CallD).length, .sl 3 0 ([cS ks 1, cS ks 4] : List CallD).length, .sl 4 0 ([cS ks 2] : List CallD).length]), some (.rows 38 2 (([cS ks 0, cS ks 3] : List CallD)).length (callF (([cS ks 0, cS ks 3] : List CallD)))), some (.rows 38 2 (([cS ks 1, cS ks 4] : List CallD)).length (callF (([cS ks 1, cS ks 4] : List CallD)))), some (.rows 38 2 (([cS ks 2] : List CallD)).length (callF (([cS ks 2] : List CallD)))), some (.cells 38 2 [SV.i (cS ks 5).code, .d (.vec 1 (cS ks 5).args.length (intsF (cS ks 5).args))])]) (fun _u => True) (fun _ => rfl) ?_ (fun _u hz => ?_)
              · skip
                refine r1 ?_
                refine s1 44 214 1 rfl rfl rfl rfl rfl rfl trivial ?_
                refine s1 45 222 2 rfl rfl rfl rfl rfl rfl trivial ?_
                refine s1 46 230 3 rfl rfl rfl rfl rfl rfl (by first | trivial | omega) ?_
                refine s1 47 238 4 rfl rfl rfl rfl rfl rfl (by first | trivial | omega) ?_
                refine s1 48 246 5 rfl rfl rfl rfl rfl rfl trivial ?_
                refine ask 48 rfl (fun hg9_48 => ?_) (fun hg9_48 => ?_)
                · skip
                  try simp only [cs, ne_eq] at hg9_48
                  refine g1 4 true 48 49 6 rfl rfl rfl rfl rfl ?_
                  refine s1 49 254 6 rfl rfl rfl rfl rfl rfl trivial ?_
                  refine g1 4 true 48 50 7 rfl rfl rfl rfl rfl ?_
                  refine s1 50 262 7 rfl rfl rfl rfl rfl rfl trivial ?_
                  refine g1 4 true 48 51 8 rfl rfl rfl rfl rfl ?_
                  refine s1 51 270 8 rfl rfl rfl rfl rfl rfl (by first | trivial | omega) ?_
                  refine g1 4 true 48 52 9 rfl rfl rfl rfl rfl ?_
                  refine s1 52 278 9 rfl rfl rfl rfl rfl rfl (by first | trivial | omega) ?_
                  refine val 52 (SV.b (ks.getD 5 false)) rfl rfl ?_
                  refine s1 53 286 10 rfl rfl rfl rfl rfl rfl trivial ?_
                  refine e1 294 rfl ?_
                  refine keep [0, 1, 6, 8, 10, 11, 12, 13, 53] rfl ?_
                  refine q1 rfl (fun hc9 => ?_) (fun hc9 => ?_)
                  · skip
                    try simp only [cs, ne_eq] at hc9
                    refine r0n ?_
                    refine s1 54 294 1 rfl rfl rfl rfl rfl rfl trivial ?_
                    refine s0 302 2 rfl rfl rfl rfl rfl (by first | trivial | omega) ?_
                    refine e1 310 rfl ?_
                    refine ccelln 198 1 (.d (.vec 1 0 (intsF []))) rfl rfl (fun M ρ v h => h.nil_vec) ?_
                    refine chvaln 198 (.cells 38 2 [SV.i (cS ks 5).code, .d (.vec 1 (cS ks 5).args.length (intsF (cS ks 5).args))]) rfl (by rw [cS_yes (ks := ks) (i := 5) hc9]; rfl) ?_
                    refine wn ?_
                    refine tn ?_
                    exact meet (()) [0, 1, 2, 102, 4, 198] trivial rfl ⟨rfl, rfl, rfl, rfl, rfl, rfl, rfl, rfl, trivial⟩ ⟨rfl, rfl, rfl, rfl, rfl, rfl, trivial⟩
                  try simp only [cs, ne_eq] at hc9
                  refine chval 198 (.cells 38 2 [SV.i (cS ks 5).code, .d (.vec 1 (cS ks 5).args.length (intsF (cS ks 5).args))]) rfl (by rw [cS_no (ks := ks) (i := 5) (by first | exact hc9 | simpa using hc9)]; rfl) ?_
                  refine W_skip ?_
                  refine tn ?_
                  exact meet (()) [0, 1, 2, 102, 4, 198] trivial rfl ⟨rfl, rfl, rfl, rfl, rfl, rfl, rfl, rfl, trivial⟩ ⟨rfl, rfl, rfl, rfl, rfl, rfl, trivial⟩
                try simp only [cs, ne_eq] at hg9_48
                refine g0 4 true 48 49 6 rfl rfl rfl rfl rfl rfl ?_
                refine g0 4 true 48 50 7 rfl rfl rfl rfl rfl rfl ?_
                refine g0 4 true 48 51 8 rfl rfl rfl rfl rfl rfl ?_
                refine g0 4 true 48 52 9 rfl rfl rfl rfl rfl rfl ?_
                refine s1 53 286 10 rfl rfl rfl rfl rfl rfl trivial ?_
                refine e1 294 rfl ?_
                refine keep [0, 1, 6, 8, 10, 11, 12, 13, 53] rfl ?_
                refine q1 rfl (fun hc9 => ?_) (fun hc9 => ?_)
                · skip
                  exact absurd hc9 (by decide)
                try simp only [cs, ne_eq] at hc9
                refine chval 198 (.cells 38 2 [SV.i (cS ks 5).code, .d (.vec 1 (cS ks 5).args.length (intsF (cS ks 5).args))]) rfl (by rw [cS_no (ks := ks) (i := 5) (out_no (by omega))]; rfl) ?_
                refine W_skip ?_
                refine tn ?_
                exact meet (()) [0, 1, 2, 102, 4, 198] trivial rfl ⟨rfl, rfl, rfl, rfl, rfl, rfl, rfl, rfl, trivial⟩ ⟨rfl, rfl, rfl, rfl, rfl, rfl, trivial⟩
              refine rd0 rfl ?_
              refine d1 55 6 1 rfl rfl rfl rfl rfl rfl trivial ?_
              refine d1 56 14 2 rfl rfl rfl rfl rfl rfl (by first | trivial | omega) ?_
              refine d1 57 22 3 rfl rfl rfl rfl rfl rfl trivial ?_
              refine dD 58 30 4 rfl rfl rfl rfl rfl rfl rfl rfl rfl (by omega) ?_
              refine val 58 (SV.i 2) rfl rfl ?_
              refine d1 59 38 5 rfl rfl rfl rfl rfl rfl trivial ?_
              refine d1 60 46 6 rfl rfl rfl rfl rfl rfl (by first | trivial | omega) ?_
              refine d1 61 54 7 rfl rfl rfl rfl rfl rfl trivial ?_
              refine dD 62 62 8 rfl rfl rfl rfl rfl rfl rfl rfl rfl (by omega) ?_
              refine val 62 (SV.i 2) rfl rfl ?_
              refine d1 63 70 9 rfl rfl rfl rfl rfl rfl (by first | trivial | omega) ?_
              refine d1 64 78 10 rfl rfl rfl rfl rfl rfl (by first | trivial | omega) ?_
              refine d1 65 86 11 rfl rfl rfl rfl rfl rfl (by first | trivial | omega) ?_
              refine d1 66 94 12 rfl rfl rfl rfl rfl rfl trivial ?_
              refine d1 67 102 13 rfl rfl rfl rfl rfl rfl ⟨Nat.le_refl _, trivial, (by show ((([cS ks 2] : List CallD)).length + 1) * 32 ≤ 140737488355328; simp), (by simp [maxLen])⟩ ?_
              refine d1 68 110 14 rfl rfl rfl rfl rfl rfl (by first | trivial | omega) ?_
              refine d0 118 15 rfl rfl rfl rfl rfl (by first | trivial | omega) ?_
              refine de1 126 rfl (by kernel_rfl) ?_
              refine bn ?_
              refine tn ?_
              refine rowsc (k := 2) (L := ([cS ks 2] : List CallD).length + 1) 102 ([cS ks 2, cS ks 5] : List CallD).length (callF ([cS ks 2, cS ks 5] : List CallD)) rfl rfl (fun m c hm hc => call_snoc ([cS ks 2] : List CallD) (cS ks 5) _ rfl m c hm hc) ?_
              refine chval 1 (.cells 39 1 [.sl 2 0 ([cS ks 0, cS ks 3] : List CallD).length, .sl 3 0 ([cS ks 1, cS ks 4] : List CallD).length, .sl 102 0 ([cS ks 2, cS ks 5] : List CallD).length]) rfl rfl ?_
              refine r0 ?_
              refine s1 38 126 1 rfl rfl rfl rfl rfl rfl trivial ?_
              refine sA 39 134 2 rfl rfl rfl rfl rfl rfl rfl rfl rfl (by unfold inRange; omega) ?_
              refine val 39 (SV.i 6) rfl rfl ?_
              refine s1 12 142 3 rfl rfl rfl rfl rfl rfl trivial ?_
              refine e1 150 rfl ?_
              refine tn ?_
              refine unr ?_
              refine W_seq ?_
              refine r1 ?_
              refine s1 36 150 1 rfl rfl rfl rfl rfl rfl trivial ?_
              refine s1 37 158 2 rfl rfl rfl rfl rfl rfl (by first | trivial | omega) ?_
              refine e1 166 rfl ?_
              refine keep [0, 1, 6, 8, 10, 11, 12, 37] rfl ?_
              refine q1 rfl (fun hc6 => ?_) (fun hc6 => ?_)
              · skip
                try simp only [cs, ne_eq] at hc6
                refine W_skip ?_
                refine tn ?_
                refine W_seq ?_
                refine W_block ?_
                refine r1 ?_
                refine s1 40 166 1 rfl rfl rfl rfl rfl rfl trivial ?_
                refine sA 41 174 2 rfl rfl rfl rfl rfl rfl rfl rfl rfl (by unfold inRange; omega) ?_
                refine val 41 (SV.i 106) rfl rfl ?_
                refine sLit 1 (intsF [106]) 42 182 3 rfl rfl rfl rfl rfl rfl rfl rfl rfl (by intro i c hi hc; obtain rfl : i = 0 := (by omega); obtain rfl : c = 0 := (by omega); rfl) ?_
                refine s1 43 190 4 rfl rfl rfl rfl rfl rfl trivial ?_
                refine s1 13 198 5 rfl rfl rfl rfl rfl rfl trivial ?_
                refine s0 206 6 rfl rfl rfl rfl rfl (by first | trivial | omega) ?_
                refine e1 214 rfl ?_
                refine keep [0, 1, 6, 8, 10, 11, 12, 13] rfl ?_
                refine cut (α := Unit) 6 (fun _u => [(0, boolsV ks), (1, u8V l), (6, SV.i 0), (8, SV.i 0), (10, SV.i 0), (11, .ptr 0 0 0), (12, SV.i 6), (13, .ptr 5 0 0)]) (fun _u => [some (.cells 28 3 [.d (.vec 1 18 (intsF stW)), .d (.vec 1 2 (codR [pushL, popL])), .sl 1 0 3]), some (.cells 39 1 [.sl 2 0 ([cS ks 0, cS ks 3] : List CallD).length, .sl 3 0 ([cS ks 1, cS ks 4] : List CallD).length, .sl 4 0 ([cS ks 2, cS ks 5] : List CallD).length]), some (.rows 38 2 (([cS ks 0, cS ks 3] : List CallD)).length (callF (([cS ks 0, cS ks 3] : List CallD)))), some (.rows 38 2 (([cS ks 1, cS ks 4] : List CallD)).length (callF (([cS ks 1, cS ks 4] : List CallD)))), some (.rows 38 2 (([cS ks 2, cS ks 5] : List CallD)).length (callF (([cS ks 2, cS ks 5] : List CallD)))), some (.cells 38 2 [SV.i (cS ks 6).code, .d (.vec 1 (cS ks 6).args.length (intsF (cS ks 6).args))])]) (fun _u => True) (fun _ => rfl) ?_ (fun _u hz => ?_)
                · skip
                  refine r1 ?_
                  refine s1 44 214 1 rfl rfl rfl rfl rfl rfl trivial ?_
                  refine s1 45 222 2 rfl rfl rfl rfl rfl rfl trivial ?_
                  refine s1 46 230 3 rfl rfl rfl rfl rfl rfl (by first | trivial | omega) ?_
                  refine s1 47 238 4 rfl rfl rfl rfl rfl rfl (by first | trivial | omega) ?_
                  refine s1 48 246 5 rfl rfl rfl rfl rfl rfl trivial ?_
                  refine ask 48 rfl (fun hg9_48 => ?_) (fun hg9_48 => ?_)
                  · skip
                    try simp only [cs, ne_eq] at hg9_48
                    refine g1 4 true 48 49 6 rfl rfl rfl rfl rfl ?_
                    refine s1 49 254 6 rfl rfl rfl rfl rfl rfl trivial ?_
                    refine g1 4 true 48 50 7 rfl rfl rfl rfl rfl ?_
                    refine s1 50 262 7 rfl rfl rfl rfl rfl rfl trivial ?_
                    refine g1 4 true 48 51 8 rfl rfl rfl rfl rfl ?_
                    refine s1 51 270 8 rfl rfl rfl rfl rfl rfl (by first | trivial | omega) ?_
                    refine g1 4 true 48 52 9 rfl rfl rfl rfl rfl ?_
                    refine s1 52 278 9 rfl rfl rfl rfl rfl rfl (by first | trivial | omega) ?_
                    refine val 52 (SV.b (ks.getD 6 false)) rfl rfl ?_
                    refine s1 53 286 10 rfl rfl rfl rfl rfl rfl trivial ?_
                    refine e1 294 rfl ?_
                    refine keep [0, 1, 6, 8, 10, 11, 12, 13, 53] rfl ?_
                    refine q1 rfl (fun hc9 => ?_) (fun hc9 => ?_)
                    · skip
                      try simp only [cs, ne_eq] at hc9
                      refine r0n ?_
                      refine s1 54 294 1 rfl rfl rfl rfl rfl rfl trivial ?_
                      refine s0 302 2 rfl rfl rfl rfl rfl (by first | trivial | omega) ?_
                      refine e1 310 rfl ?_
                      refine ccelln 198 1 (.d (.vec 1 0 (intsF []))) rfl rfl (fun M ρ v h => h.nil_vec) ?_
                      refine chvaln 198 (.cells 38 2 [SV.i (cS ks 6).code, .d (.vec 1 (cS ks 6).args.length (intsF (cS ks 6).args))]) rfl (by rw [cS_yes (ks := ks) (i := 6) hc9]; rfl) ?_
                      refine wn ?_
                      refine tn ?_
                      exact meet (()) [0, 1, 2, 3, 102, 198] trivial rfl ⟨rfl, rfl, rfl, rfl, rfl, rfl, rfl, rfl, trivial⟩ ⟨rfl, rfl, rfl, rfl, rfl, rfl, trivial⟩
                    try simp only [cs, ne_eq] at hc9
                    refine chval 198 (.cells 38 2 [SV.i (cS ks 6).code, .d (.vec 1 (cS ks 6).args.length (intsF (cS ks 6).args))]) rfl (by rw [cS_no (ks := ks) (i := 6) (by first | exact hc9 | simpa using hc9)]; rfl) ?_
                    refine W_skip ?_
                    refine tn ?_
                    exact meet (()) [0, 1, 2, 3, 102, 198] trivial rfl ⟨rfl, rfl, rfl, rfl, rfl, rfl, rfl, rfl, trivial⟩ ⟨rfl, rfl, rfl, rfl, rfl, rfl, trivial⟩
                  try simp only [cs, ne_eq] at hg9_48
                  refine g0 4 true 48 49 6 rfl rfl rfl rfl rfl rfl ?_
                  refine g0 4 true 48 50 7 rfl rfl rfl rfl rfl rfl ?_
                  refine g0 4 true 48 51 8 rfl rfl rfl rfl rfl rfl ?_
                  refine g0 4 true 48 52 9 rfl rfl rfl rfl rfl rfl ?_
                  refine s1 53 286 10 rfl rfl rfl rfl rfl rfl trivial ?_
                  refine e1 294 rfl ?_
                  refine keep [0, 1, 6, 8, 10, 11, 12, 13, 53] rfl ?_
                  refine q1 rfl (fun hc9 => ?_) (fun hc9 => ?_)
                  · skip
                    exact absurd hc9 (by decide)
                  try simp only [cs, ne_eq] at hc9
                  refine chval 198 (.cells 38 2 [SV.i (cS ks 6).code, .d (.vec 1 (cS ks 6).args.length (intsF (cS ks 6).args))]) rfl (by rw [cS_no (ks := ks) (i := 6) (out_no (by omega))]; rfl) ?_
                  refine W_skip ?_
                  refine tn ?_
                  exact meet (()) [0, 1, 2, 3, 102, 198] trivial rfl ⟨rfl, rfl, rfl, rfl, rfl, rfl, rfl, rfl, trivial⟩ ⟨rfl, rfl, rfl, rfl, rfl, rfl, trivial⟩
                refine rd0 rfl ?_
                refine d1 55 6 1 rfl rfl rfl rfl rfl rfl trivial ?_
                refine d1 56 14 2 rfl rfl rfl rfl rfl rfl (by first | trivial | omega) ?_
                refine d1 57 22 3 rfl rfl rfl rfl rfl rfl trivial ?_
                refine dD 58 30 4 rfl rfl rfl rfl rfl rfl rfl rfl rfl (by omega) ?_
                refine val 58 (SV.i 0) rfl rfl ?_
                refine d1 59 38 5 rfl rfl rfl rfl rfl rfl trivial ?_
                refine d1 60 46 6 rfl rfl rfl rfl rfl rfl (by first | trivial | omega) ?_
                refine d1 61 54 7 rfl rfl rfl rfl rfl rfl trivial ?_
                refine dD 62 62 8 rfl rfl rfl rfl rfl rfl rfl rfl rfl (by omega) ?_
                refine val 62 (SV.i 0) rfl rfl ?_
                refine d1 63 70 9 rfl rfl rfl rfl rfl rfl (by first | trivial | omega) ?_
                refine d1 64 78 10 rfl rfl rfl rfl rfl rfl (by first | trivial | omega) ?_
                refine d1 65 86 11 rfl rfl rfl rfl rfl rfl (by first | trivial | omega) ?_
                refine d1 66 94 12 rfl rfl rfl rfl rfl rfl trivial ?_
                refine d1 67 102 13 rfl rfl rfl rfl rfl rfl ⟨Nat.le_refl _, trivial, (by show ((([cS ks 0, cS ks 3] : List CallD)).length + 1) * 32 ≤ 140737488355328; simp), (by simp [maxLen])⟩ ?_
                refine d1 68 110 14 rfl rfl rfl rfl rfl rfl (by first | trivial | omega) ?_
                refine d0 118 15 rfl rfl rfl rfl rfl (by first | trivial | omega) ?_
                refine de1 126 rfl (by kernel_rfl) ?_
                refine bn ?_
                refine tn ?_
                refine rowsc (k := 2) (L := ([cS ks 0, cS ks 3] : List CallD).length + 1) 102 ([cS ks 0, cS ks 3, cS ks 6] : List CallD).length (callF ([cS ks 0, cS ks 3, cS ks 6] : List CallD)) rfl rfl (fun m c hm hc => call_snoc ([cS ks 0, cS ks 3] : List CallD) (cS ks 6) _ rfl m c hm hc) ?_
                refine chval 1 (.cells 39 1 [.sl 102 0 ([cS ks 0, cS ks 3, cS ks 6] : List CallD).length, .sl 3 0 ([cS ks 1, cS ks 4] : List CallD).length, .sl 4 0 ([cS ks 2, cS ks 5] : List CallD).length]) rfl rfl ?_
                refine r0 ?_
                refine s1 38 126 1 rfl rfl rfl rfl rfl rfl trivial ?_
                refine sA 39 134 2 rfl rfl rfl rfl rfl rfl rfl rfl rfl (by unfold inRange; omega) ?_
                refine val 39 (SV.i 7) rfl rfl ?_
                refine s1 12 142 3 rfl rfl rfl rfl rfl rfl trivial ?_
                refine e1 150 rfl ?_
                refine tn ?_
                refine unr ?_
                refine W_seq ?_
                refine r1 ?_
                refine s1 36 150 1 rfl rfl rfl rfl rfl rfl trivial ?_
                refine s1 37 158 2 rfl rfl rfl rfl rfl rfl (by first | trivial | omega) ?_
                refine e1 166 rfl ?_
                refine keep [0, 1, 6, 8, 10, 11, 12, 37] rfl ?_
                refine q1 rfl (fun hc6 => ?_) (fun hc6 => ?_)
                · skip
                  try simp only [cs, ne_eq] at hc6
                  refine W_skip ?_
                  refine tn ?_
                  refine W_seq ?_
                  refine W_block ?_
                  refine r1 ?_
                  refine s1 40 166 1 rfl rfl rfl rfl rfl rfl trivial ?_
                  refine sA 41 174 2 rfl rfl rfl rfl rfl rfl rfl rfl rfl (by unfold inRange; omega) ?_
                  refine val 41 (SV.i 107) rfl rfl ?_
                  refine sLit 1 (intsF [107]) 42 182 3 rfl rfl rfl rfl rfl rfl rfl rfl rfl (by intro i c hi hc; obtain rfl : i = 0 := (by omega); obtain rfl : c = 0 := (by omega); rfl) ?_
                  refine s1 43 190 4 rfl rfl rfl rfl rfl rfl trivial ?_
                  refine s1 13 198 5 rfl rfl rfl rfl rfl rfl trivial ?_
                  refine s0 206 6 rfl rfl rfl rfl rfl (by first | trivial | omega) ?_
                  refine e1 214 rfl ?_
                  refine keep [0, 1, 6, 8, 10, 11, 12, 13] rfl ?_
                  refine cut (α := Unit) 6 (fun _u => [(0, boolsV ks), (1, u8V l), (6, SV.i 0), (8, SV.i 0), (10, SV.i 0), (11, .ptr 0 0 0), (12, SV.i 7), (13, .ptr 5 0 0)]) (fun _u => [some (.cells 28 3 [.d (.vec 1 18 (intsF stW)), .d (.vec 1 2 (codR [pushL, popL])), .sl 1 0 3]), some (.cells 39 1 [.sl 2 0 ([cS ks 0, cS ks 3, cS ks 6] : List CallD).length, .sl 3 0 ([cS ks 1, cS ks 4] : List CallD).length, .sl 4 0 ([cS ks 2, cS ks 5] : List CallD).length]), some (.rows 38 2 (([cS ks 0, cS ks 3, cS ks 6] : List CallD)).length (callF (([cS ks 0, cS ks 3, cS ks 6] : List CallD)))), some (.rows 38 2 (([cS ks 1, cS ks 4] : List CallD)).length (callF (([cS ks 1, cS ks 4] : List CallD)))), some (.rows 38 2 (([cS ks 2, cS ks 5] : List CallD)).length (callF (([cS ks 2, cS ks 5] : List CallD)))), some (.cells 38 2 [SV.i (cS ks 7).code, .d (.vec 1 (cS ks 7).args.length (intsF (cS ks 7).args))])]) (fun _u => True) (fun _ => rfl) ?_ (fun _u hz => ?_)
                  · skip
                    refine r1 ?_
                    refine s1 44 214 1 rfl rfl rfl rfl rfl rfl trivial ?_
                    refine s1 45 222 2 rfl rfl rfl rfl rfl rfl trivial ?_
                    refine s1 46 230 3 rfl rfl rfl rfl rfl rfl (by first | trivial | omega) ?_
                    refine s1 47 238 4 rfl rfl rfl rfl rfl rfl (by first | trivial | omega) ?_
                    refine s1 48 246 5 rfl rfl rfl rfl rfl rfl trivial ?_
                    refine ask 48 rfl (fun hg9_48 => ?_) (fun hg9_48 => ?_)
                    · skip
                      try simp only [cs, ne_eq] at hg9_48
                      refine g1 4 true 48 49 6 rfl rfl rfl rfl rfl ?_
                      refine s1 49 254 6 rfl rfl rfl rfl rfl rfl trivial ?_
                      refine g1 4 true 48 50 7 rfl rfl rfl rfl rfl ?_
                      refine s1 50 262 7 rfl rfl rfl rfl rfl rfl trivial ?_
                      refine g1 4 true 48 51 8 rfl rfl rfl rfl rfl ?_
                      refine s1 51 270 8 rfl rfl rfl rfl rfl rfl (by first | trivial | omega) ?_
                      refine g1 4 true 48 52 9 rfl rfl rfl rfl rfl ?_
                      refine s1 52 278 9 rfl rfl rfl rfl rfl rfl (by first | trivial | omega) ?_
                      refine val 52 (SV.b (ks.getD 7 false)) rfl rfl ?_
                      refine s1 53 286 10 rfl rfl rfl rfl rfl rfl trivial ?_
                      refine e1 294 rfl ?_
                      refine keep [0, 1, 6, 8, 10, 11, 12, 13, 53] rfl ?_
                      refine q1 rfl (fun hc9 => ?_) (fun hc9 => ?_)
                      · skip
                        try simp only [cs, ne_eq] at hc9
                        refine r0n ?_
                        refine s1 54 294 1 rfl rfl rfl rfl rfl rfl trivial ?_
                        refine s0 302 2 rfl rfl rfl rfl rfl (by first | trivial | omega) ?_
                        refine e1 310 rfl ?_
                        refine ccelln 198 1 (.d (.vec 1 0 (intsF []))) rfl rfl (fun M ρ v h => h.nil_vec) ?_
                        refine chvaln 198 (.cells 38 2 [SV.i (cS ks 7).code, .d (.vec 1 (cS ks 7).args.length (intsF (cS ks 7).args))]) rfl (by rw [cS_yes (ks := ks) (i := 7) hc9]; rfl) ?_
                        refine wn ?_
                        refine tn ?_
                        exact meet (()) [0, 1, 102, 3, 4, 198] trivial rfl ⟨rfl, rfl, rfl, rfl, rfl, rfl, rfl, rfl, trivial⟩ ⟨rfl, rfl, rfl, rfl, rfl, rfl, trivial⟩
                      try simp only [cs, ne_eq] at hc9
                      refine chval 198 (.cells 38 2 [SV.i (cS ks 7).code, .d (.vec 1 (cS ks 7).args.length (intsF (cS ks 7).args))]) rfl (by rw [cS_no (ks := ks) (i := 7) (by first | exact hc9 | simpa using hc9)]; rfl) ?_
                      refine W_skip ?_
                      refine tn ?_
                      exact meet (()) [0, 1, 102, 3, 4, 198] trivial rfl ⟨rfl, rfl, rfl, rfl, rfl, rfl, rfl, rfl, trivial⟩ ⟨rfl, rfl, rfl, rfl, rfl, rfl, trivial⟩
                    try simp only [cs, ne_eq] at hg9_48
                    refine g0 4 true 48 49 6 rfl rfl rfl rfl rfl rfl ?_
                    refine g0 4 true 48 50 7 rfl rfl rfl rfl rfl rfl ?_
                    refine g0 4 true 48 51 8 rfl rfl rfl rfl rfl rfl ?_
                    refine g0 4 true 48 52 9 rfl rfl rfl rfl rfl rfl ?_
                    refine s1 53 286 10 rfl rfl rfl rfl rfl rfl trivial ?_
                    refine e1 294 rfl ?_
                    refine keep [0, 1, 6, 8, 10, 11, 12, 13, 53] rfl ?_
                    refine q1 rfl (fun hc9 => ?_) (fun hc9 => ?_)
                    · skip
                      exact absurd hc9 (by decide)
                    try simp only [cs, ne_eq] at hc9
                    refine chval 198 (.cells 38 2 [SV.i (cS ks 7).code, .d (.vec 1 (cS ks 7).args.length (intsF (cS ks 7).args))]) rfl (by rw [cS_no (ks := ks) (i := 7) (out_no (by omega))]; rfl) ?_
                    refine W_skip ?_
                    refine tn ?_
                    exact meet (()) [0, 1, 102, 3, 4, 198] trivial rfl ⟨rfl, rfl, rfl, rfl, rfl, rfl, rfl, rfl, trivial⟩ ⟨rfl, rfl, rfl, rfl, rfl, rfl, trivial⟩
                  refine rd0 rfl ?_
                  refine d1 55 6 1 rfl rfl rfl rfl rfl rfl trivial ?_
                  refine d1 56 14 2 rfl rfl rfl rfl rfl rfl (by first | trivial | omega) ?_
                  refine d1 57 22 3 rfl rfl rfl rfl rfl rfl trivial ?_
                  refine dD 58 30 4 rfl rfl rfl rfl rfl rfl rfl rfl rfl (by omega) ?_
                  refine val 58 (SV.i 1) rfl rfl ?_
                  refine d1 59 38 5 rfl rfl rfl rfl rfl rfl trivial ?_
                  refine d1 60 46 6 rfl rfl rfl rfl rfl rfl (by first | trivial | omega) ?_
                  refine d1 61 54 7 rfl rfl rfl rfl rfl rfl trivial ?_
                  refine dD 62 62 8 rfl rfl rfl rfl rfl rfl rfl rfl rfl (by omega) ?_
                  refine val 62 (SV.i 1) rfl rfl ?_
                  refine d1 63 70 9 rfl rfl rfl rfl rfl rfl (by first | trivial | omega) ?_
                  refine d1 64 78 10 rfl rfl rfl rfl rfl rfl (by first | trivial | omega) ?_
                  refine d1 65 86 11 rfl rfl rfl rfl rfl rfl (by first | trivial | omega) ?_
                  refine d1 66 94 12 rfl rfl rfl rfl rfl rfl trivial ?_
                  refine d1 67 102 13 rfl rfl rfl rfl rfl rfl ⟨Nat.le_refl _, trivial, (by show ((([cS ks 1, cS ks 4] : List CallD)).length + 1) * 32 ≤ 140737488355328; simp), (by simp [maxLen])⟩ ?_
                  refine d1 68 110 14 rfl rfl rfl rfl rfl rfl (by first | trivial | omega) ?_
                  refine d0 118 15 rfl rfl rfl rfl rfl (by first | trivial | omega) ?_
                  refine de1 126 rfl (by kernel_rfl) ?_
                  refine bn ?_
                  refine tn ?_
                  refine rowsc (k := 2) (L := ([cS ks 1, cS ks 4] : List CallD).length + 1) 102 ([cS ks 1, cS ks 4, cS ks 7] : List CallD).length (callF ([cS ks 1, cS ks 4, cS ks 7] : List CallD)) rfl rfl (fun m c hm hc => call_snoc ([cS ks 1, cS ks 4] : List CallD) (cS ks 7) _ rfl m c hm hc) ?_
                  refine chval 1 (.cells 39 1 [.sl 2 0 ([cS ks 0, cS ks 3, cS ks 6] : List CallD).length, .sl 102 0 ([cS ks 1, cS ks 4, cS ks 7] : List CallD).length, .sl 4 0 ([cS ks 2, cS ks 5] : List CallD).length]) rfl rfl ?_
                  refine r0 ?_
                  refine s1 38 126 1 rfl rfl rfl rfl rfl rfl trivial ?_
                  refine sA 39 134 2 rfl rfl rfl rfl rfl rfl rfl rfl rfl (by unfold inRange; omega) ?_
                  refine val 39 (SV.i 8) rfl rfl ?_
                  refine s1 12 142 3 rfl rfl rfl rfl rfl rfl trivial ?_
                  refine e1 150 rfl ?_
                  refine tn ?_
                  refine unr ?_
                  refine W_seq ?_
                  refine r1 ?_
                  refine s1 36 150 1 rfl rfl rfl rfl rfl rfl trivial ?_
                  refine s1 37 158 2 rfl rfl rfl rfl rfl rfl (by first | trivial | omega) ?_
                  refine e1 166 rfl ?_
                  refine keep [0, 1, 6, 8, 10, 11, 12, 37] rfl ?_
                  refine q1 rfl (fun hc6 => ?_) (fun hc6 => ?_)
                  · skip
                    exact absurd hc6 (by decide)
                  try simp only [cs, ne_eq] at hc6
                  refine W_exit ?_
                  refine tx ?_
                  refine tx ?_
                  refine bx ?_
                  refine tn ?_
                  refine cfreeze 1 0 2 ([cS ks 0, cS ks 3, cS ks 6] : List CallD).length rfl rfl rfl (Nat.le_refl _) rfl ?_
                  refine cfreeze 1 1 102 ([cS ks 1, cS ks 4, cS ks 7] : List CallD).length rfl rfl rfl (Nat.le_refl _) rfl ?_
                  refine cfreeze 1 2 4 ([cS ks 2, cS ks 5] : List CallD).length rfl rfl rfl (Nat.le_refl _) rfl ?_
                  refine torows (k := 1) 1 3 (thrR [([cS ks 0, cS ks 3, cS ks 6] : List CallD), ([cS ks 1, cS ks 4, cS ks 7] : List CallD), ([cS ks 2, cS ks 5] : List CallD)]) rfl (by decide) (Nat.le_refl _) (thr_cells ([cS ks 0, cS ks 3, cS ks 6] : List CallD) ([cS ks 1, cS ks 4, cS ks 7] : List CallD) ([cS ks 2, cS ks 5] : List CallD)) ?_
                  refine cfreeze 0 2 1 3 rfl rfl rfl (Nat.le_refl _) rfl ?_
                  refine chval 0 (machBlk (sQ ks)) rfl rfl ?_
                  refine rd1 rfl ?_
                  refine d1 70 166 1 rfl rfl rfl rfl rfl rfl (by first | trivial | omega) ?_
                  refine d1 71 174 2 rfl rfl rfl rfl rfl rfl trivial ?_
                  refine dc1 (schedule_any l hl 3 (by decide) 800 (by decide)) [] [] 72 182 3 rfl rfl rfl rfl rfl rfl rfl rfl Tryd.func13 rfl rfl rfl rfl trivial rfl rfl ?_
                  refine dc1 (history_any (sQ ks) (sq_ok _) rfl (sq_20 _) (schedL l 3 800) (by omega) R hR hcr.e hcr.ev putS 25 Tryd.f25 Tryd.func25 rfl (fun j n told h0 h3 hn0 hn ht => putS_any _ (sQ_args h0 h3 hn0 hn) told true ht) (fun j n h0 h3 hn0 hn => putS_nil _ (sQ_args h0 h3 hn0 hn)) hcr.ok (fun c => by unfold putS; split <;> rfl)) [] [190] 73 190 4 rfl rfl rfl rfl rfl rfl rfl rfl Tryd.func17 rfl rfl rfl rfl trivial rfl rfl ?_
                  refine d1 69 198 5 rfl rfl rfl rfl rfl rfl trivial ?_
                  refine d1 74 206 6 rfl rfl rfl rfl rfl rfl trivial ?_
                  refine d1 75 214 7 rfl rfl rfl rfl rfl rfl trivial ?_
                  refine d1 14 222 8 rfl rfl rfl rfl rfl rfl trivial ?_
                  refine d1 15 230 9 rfl rfl rfl rfl rfl rfl trivial ?_
                  refine de1 238 rfl (by kernel_rfl) ?_
                  refine keep [6, 8, 10, 14, 15] rfl ?_
                  refine W_seq ?_
                  refine r1 ?_
                  refine s1 76 238 1 rfl rfl rfl rfl rfl rfl trivial ?_
                  refine s1 77 246 2 rfl rfl rfl rfl rfl rfl (by first | trivial | omega) ?_
                  refine s1 78 254 3 rfl rfl rfl rfl rfl rfl trivial ?_
                  refine ask 78 rfl (fun hg13_78 => ?_) (fun hg13_78 => ?_)
                  · skip
                    try simp only [cs, ne_eq] at hg13_78
                    exact absurd hg13_78 (by decide)
                  try simp only [cs, ne_eq] at hg13_78
                  refine g1 2 false 78 79 4 rfl rfl rfl rfl rfl ?_
                  refine s1 79 262 4 rfl rfl rfl rfl rfl rfl trivial ?_
                  refine g1 2 false 78 80 5 rfl rfl rfl rfl rfl ?_
                  refine s1 80 270 5 rfl rfl rfl rfl rfl rfl (by first | trivial | omega) ?_
                  refine s1 81 278 6 rfl rfl rfl rfl rfl rfl trivial ?_
                  refine s1 82 286 7 rfl rfl rfl rfl rfl rfl trivial ?_
                  refine ask 82 rfl (fun hg13_82 => ?_) (fun hg13_82 => ?_)
                  · skip
                    try simp only [cs, ne_eq] at hg13_82
                    exact absurd hg13_82 (by decide)
                  try simp only [cs, ne_eq] at hg13_82
                  refine g1 6 false 82 83 8 rfl rfl rfl rfl rfl ?_
                  refine s1 83 294 8 rfl rfl rfl rfl rfl rfl trivial ?_
                  refine g1 6 false 82 84 9 rfl rfl rfl rfl rfl ?_
                  refine s1 84 302 9 rfl rfl rfl rfl rfl rfl (by first | trivial | omega) ?_
                  refine s1 85 310 10 rfl rfl rfl rfl rfl rfl trivial ?_
                  refine s1 86 318 11 rfl rfl rfl rfl rfl rfl trivial ?_
                  refine ask 86 rfl (fun hg13_86 => ?_) (fun hg13_86 => ?_)
                  · skip
                    try simp only [cs, ne_eq] at hg13_86
                    exact absurd hg13_86 (by decide)
                  try simp only [cs, ne_eq] at hg13_86
                  refine g1 10 false 86 87 12 rfl rfl rfl rfl rfl ?_
                  refine s1 87 326 12 rfl rfl rfl rfl rfl rfl trivial ?_
                  refine g1 10 false 86 88 13 rfl rfl rfl rfl rfl ?_
                  refine s1 88 334 13 rfl rfl rfl rfl rfl rfl trivial ?_
                  refine s1 89 342 14 rfl rfl rfl rfl rfl rfl trivial ?_
                  refine s1 90 350 15 rfl rfl rfl rfl rfl rfl trivial ?_
                  refine ask 90 rfl (fun hg13_90 => ?_) (fun hg13_90 => ?_)
                  · skip
                    try simp only [cs, ne_eq] at hg13_90
                    exact absurd hg13_90 (by decide)
                  try simp only [cs, ne_eq] at hg13_90
                  refine g1 14 false 90 91 16 rfl rfl rfl rfl rfl ?_
                  refine c1 (sure_any) [] [] 91 358 16 rfl rfl rfl rfl rfl rfl rfl rfl Tryd.func19 rfl rfl rfl rfl trivial rfl rfl ?_
                  refine g1 14 false 90 92 17 rfl rfl rfl rfl rfl ?_
                  refine s1 92 366 17 rfl rfl rfl rfl rfl rfl trivial ?_
                  refine s1 93 374 18 rfl rfl rfl rfl rfl rfl trivial ?_
                  refine e1 382 rfl ?_
                  refine keep [14, 93] rfl ?_
                  refine q1 rfl (fun hc13 => ?_) (fun hc13 => ?_)
                  · skip
                    exact absurd hc13 (by decide)
                  try simp only [cs, ne_eq] at hc13
                  refine W_skip ?_
                  refine tn ?_
                  refine freeze 14 190 (hist (sQ ks) putS (opsTo R R.out.length)).length rfl rfl (Nat.le_refl _) ?_
                  refine cval 14 (Lin.actsV (hist (sQ ks) putS (opsTo R R.out.length))) rfl rfl ?_
                  refine r1 ?_
                  refine s1 95 382 1 rfl rfl rfl rfl rfl rfl trivial ?_
                  refine c1 (lin_check 4 0 (hist (sQ ks) putS (opsTo R R.out.length)) (by have := hcr.len; omega)) [] [] 96 390 2 rfl rfl rfl rfl rfl rfl rfl rfl Tryd.func21 rfl rfl rfl rfl trivial rfl rfl ?_
                  refine s1 94 398 3 rfl rfl rfl rfl rfl rfl trivial ?_
                  refine s1 97 406 4 rfl rfl rfl rfl rfl rfl trivial ?_
                  refine val 97 (SV.b true) rfl (by show SV.b (Lin.mayB 4 _ && Lin.FF _ 0 (.hp true [])) = SV.b true; rw [hcr.may, hcr.yes]; rfl) ?_
                  refine s1 98 414 5 rfl rfl rfl rfl rfl rfl trivial ?_
                  refine val 98 (SV.i 0) rfl (by rw [hcr.may]; rfl) ?_
                  refine s1 16 422 6 rfl rfl rfl rfl rfl rfl trivial ?_
                  refine s1 17 430 7 rfl rfl rfl rfl rfl rfl trivial ?_
                  refine e1 438 rfl ?_
                  refine keep [16, 17] rfl ?_
                  refine r1 ?_
                  refine s1 99 438 1 rfl rfl rfl rfl rfl rfl trivial ?_
                  refine s1 100 446 2 rfl rfl rfl rfl rfl rfl (by first | trivial | omega) ?_
                  refine s1 101 454 3 rfl rfl rfl rfl rfl rfl trivial ?_
                  refine ask 101 rfl (fun hg16_101 => ?_) (fun hg16_101 => ?_)
                  · skip
                    try simp only [cs, ne_eq] at hg16_101
                    refine g1 2 true 101 102 4 rfl rfl rfl rfl rfl ?_
                    refine s1 102 462 4 rfl rfl rfl rfl rfl rfl trivial ?_
                    refine s1 103 470 5 rfl rfl rfl rfl rfl rfl trivial ?_
                    refine s1 4 478 6 rfl rfl rfl rfl rfl rfl trivial ?_
                    refine e1 486 rfl ?_
                    refine keep [4] rfl ?_
                    refine W_ret ?_
                    exact out1 4 (SV.b true) (π := []) (hout := []) Tryd.results5 rfl rfl rfl rfl trivial ⟨rfl, rfl⟩
                  try simp only [cs, ne_eq] at hg16_101
                  exact absurd hg16_101 (by decide)
                exact absurd hc6 (by decide)
              exact absurd hc6 (by decide)
            exact absurd hc6 (by decide)
          exact absurd hc6 (by decide)
        exact absurd hc6 (by decide)
      exact absurd hc6 (by decide)
    exact absurd hc6 (by decide)
  exact absurd hc6 (by decide)

end Go.Proofs.YtnnjobmiepnedaaDoor.Nice
