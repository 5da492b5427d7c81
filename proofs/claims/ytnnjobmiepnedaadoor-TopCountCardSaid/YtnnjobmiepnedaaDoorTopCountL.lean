/- TopCount. -/
import Derived.Test.YtnnjobmiepnedaaDoorMCo
namespace Go.Proofs.YtnnjobmiepnedaaDoor.Nice
open Go
set_option linter.unusedVariables false
set_option linter.unusedSimpArgs false
set_option maxRecDepth 100000
set_option maxHeartbeats 4000000

theorem topcount_any (bs : List Int) (hbs : bs.length ≤ 9223372036854775807) (l : List Int) (hl : Bytes l) (R : PRes) (hR : played (tQ bs) (schedL l 3 400) = R) : Spec Tryd.prog GV 4 [intsV bs, u8V l] [] (fun r ho => r = SV.b true ∧ ho = []) := by
  have hsl := sched_len l 3 400
  have hcr := count_run bs l R hR
  have hln := opsTo_len R R.out.length
  have hRl : R.out.length ≤ 12000 := by have := (played_ok (tQ bs) (schedL l 3 400)).2.2; rw [hR] at this; exact this
  refine start 152 0 Tryd.func4 rfl rfl rfl rfl ?_
  refine r1 ?_
  refine s1 4 0 1 rfl rfl rfl rfl rfl rfl trivial ?_
  refine e1 8 rfl ?_
  refine keep [0, 1] rfl ?_
  refine rd1 rfl ?_
  refine dc1 (Spec.still words_count) [] [] 19 8 1 rfl rfl rfl rfl rfl rfl rfl rfl Tryd.func14 rfl rfl rfl rfl trivial rfl rfl ?_
  refine dc1 (Spec.still yes_Add) [] [] 20 16 2 rfl rfl rfl rfl rfl rfl rfl rfl Tryd.func15 rfl rfl rfl rfl trivial rfl rfl ?_
  refine val 20 (insV caddL) rfl (by show insV (fin B_Add) = _; rw [fin_cadd]) ?_
  refine dc1 (Spec.still yes_Get) [] [] 21 24 3 rfl rfl rfl rfl rfl rfl rfl rfl Tryd.func16 rfl rfl rfl rfl trivial rfl rfl ?_
  refine val 21 (insV cgetL) rfl (by show insV (fin B_Get) = _; rw [fin_cget]) ?_
  refine d1 22 32 4 rfl rfl rfl rfl rfl rfl trivial ?_
  refine d1 23 40 5 rfl rfl rfl rfl rfl rfl ⟨by decide, rfl, by decide, by decide⟩ ?_
  refine d1 24 48 6 rfl rfl rfl rfl rfl rfl trivial ?_
  refine d1 5 56 7 rfl rfl rfl rfl rfl rfl trivial ?_
  refine d0 64 8 rfl rfl rfl rfl rfl (by first | trivial | omega) ?_
  refine de1 72 rfl (by kernel_rfl) ?_
  refine keep [0, 1, 5] rfl ?_
  refine chval 32 (.cells 32 1 [insV caddL, insV cgetL]) rfl rfl ?_
  refine torows (k := 1) 32 2 (codR [caddL, cgetL]) rfl (by decide) (by decide) (cod_cells _ _) ?_
  refine cfreeze 56 1 32 2 rfl rfl rfl (Nat.le_refl _) rfl ?_
  refine tocells 40 [.d .nils, .d .nils, .d .nils] rfl rfl (by decide) ?_
  refine W_seq ?_
  refine cghostly 40 0 38 2 (callF []) rfl rfl rfl ?_
  refine cghostly 40 1 38 2 (callF []) rfl rfl rfl ?_
  refine cghostly 40 2 38 2 (callF []) rfl rfl rfl ?_
  refine r1 ?_
  refine s1 6 96 1 rfl rfl rfl rfl rfl rfl trivial ?_
  refine e1 104 rfl ?_
  refine keep [0, 1, 5, 6] rfl ?_
  refine W_block ?_
  refine W_unroll 10 ?_
  refine unr ?_
  refine W_seq ?_
  refine r1 ?_
  refine s1 25 104 1 rfl rfl rfl rfl rfl rfl trivial ?_
  refine s1 26 112 2 rfl rfl rfl rfl rfl rfl (by first | trivial | omega) ?_
  refine e1 120 rfl ?_
  refine keep [0, 1, 5, 6, 26] rfl ?_
  refine q1 rfl (fun hc3 => ?_) (fun hc3 => ?_)
  · skip
    try simp only [cs, ne_eq] at hc3
    refine W_skip ?_
    refine tn ?_
    refine W_seq ?_
    refine W_block ?_
    refine r1 ?_
    refine s1 29 120 1 rfl rfl rfl rfl rfl rfl trivial ?_
    refine s1 7 128 2 rfl rfl rfl rfl rfl rfl trivial ?_
    refine s0 136 3 rfl rfl rfl rfl rfl (by first | trivial | omega) ?_
    refine e1 144 rfl ?_
    refine keep [0, 1, 5, 6, 7] rfl ?_
    refine cut (α := Unit) 6 (fun _u => [(0, intsV bs), (1, u8V l), (5, .ptr 0 0 0), (6, SV.i 0), (7, .ptr 5 0 0)]) (fun _u => [some (.cells 28 3 [.d (.vec 1 1 (intsF [0])), .d (.vec 1 2 (codR [caddL, cgetL])), .sl 1 0 3]), some (.cells 39 1 [.sl 2 0 ([] : List CallD).length, .sl 3 0 ([] : List CallD).length, .sl 4 0 ([] : List CallD).length]), some (.rows 38 2 (([] : List CallD)).length (callF (([] : List CallD)))), some (.rows 38 2 (([] : List CallD)).length (callF (([] : List CallD)))), some (.rows 38 2 (([] : List CallD)).length (callF (([] : List CallD)))), some (.cells 38 2 [SV.i (cOf bs 0).code, .d (.vec 1 (cOf bs 0).args.length (intsF (cOf bs 0).args))])]) (fun _u => True) (fun _ => rfl) ?_ (fun _u hz => ?_)
    · skip
      refine r1 ?_
      refine s1 30 144 1 rfl rfl rfl rfl rfl rfl trivial ?_
      refine s1 31 152 2 rfl rfl rfl rfl rfl rfl trivial ?_
      refine s1 32 160 3 rfl rfl rfl rfl rfl rfl (by first | trivial | omega) ?_
      refine s1 33 168 4 rfl rfl rfl rfl rfl rfl (by first | trivial | omega) ?_
      refine s1 34 176 5 rfl rfl rfl rfl rfl rfl trivial ?_
      refine ask 34 rfl (fun hg6_34 => ?_) (fun hg6_34 => ?_)
      · skip
        try simp only [cs, ne_eq] at hg6_34
        refine g1 4 true 34 35 6 rfl rfl rfl rfl rfl ?_
        refine s1 35 184 6 rfl rfl rfl rfl rfl rfl trivial ?_
        refine g1 4 true 34 36 7 rfl rfl rfl rfl rfl ?_
        refine s1 36 192 7 rfl rfl rfl rfl rfl rfl trivial ?_
        refine g1 4 true 34 37 8 rfl rfl rfl rfl rfl ?_
        refine s1 37 200 8 rfl rfl rfl rfl rfl rfl (by first | trivial | omega) ?_
        refine g1 4 true 34 38 9 rfl rfl rfl rfl rfl ?_
        refine s1 38 208 9 rfl rfl rfl rfl rfl rfl (by first | trivial | omega) ?_
        refine val 38 (SV.i (bs.getD 0 0)) rfl rfl ?_
        refine g1 4 true 34 39 10 rfl rfl rfl rfl rfl ?_
        refine c1 (picked_any (bs.getD 0 0) 3 (by decide)) [] [] 39 216 10 rfl rfl rfl rfl rfl rfl rfl rfl Tryd.func7 rfl rfl rfl rfl trivial rfl rfl ?_
        refine g1 4 true 34 40 11 rfl rfl rfl rfl rfl ?_
        refine s1 40 224 11 rfl rfl rfl rfl rfl rfl (by first | trivial | omega) ?_
        refine s1 41 232 12 rfl rfl rfl rfl rfl rfl trivial ?_
        refine e1 240 rfl ?_
        refine keep [0, 1, 5, 6, 7, 41] rfl ?_
        refine q1 rfl (fun hc6 => ?_) (fun hc6 => ?_)
        · skip
          try simp only [cs, ne_eq] at hc6
          refine r0n ?_
          refine s1 42 240 1 rfl rfl rfl rfl rfl rfl trivial ?_
          refine s1 43 248 2 rfl rfl rfl rfl rfl rfl trivial ?_
          refine s1 44 256 3 rfl rfl rfl rfl rfl rfl (by first | trivial | omega) ?_
          refine s1 45 264 4 rfl rfl rfl rfl rfl rfl (by first | trivial | omega) ?_
          refine val 45 (SV.i (bs.getD 0 0)) rfl rfl ?_
          refine c1 (picked_any (bs.getD 0 0) 3 (by decide)) [] [] 46 272 5 rfl rfl rfl rfl rfl rfl rfl rfl Tryd.func7 rfl rfl rfl rfl trivial rfl rfl ?_
          refine sLit 1 (intsF [pickI (bs.getD 0 0) 3]) 47 280 6 rfl rfl rfl rfl rfl rfl rfl rfl rfl (by intro i c hi hc; obtain rfl : i = 0 := (by omega); obtain rfl : c = 0 := (by omega); rfl) ?_
          refine s1 48 288 7 rfl rfl rfl rfl rfl rfl trivial ?_
          refine s0 296 8 rfl rfl rfl rfl rfl (by first | trivial | omega) ?_
          refine e1 304 rfl ?_
          refine chvaln 128 (.cells 38 2 [SV.i (cOf bs 0).code, .d (.vec 1 (cOf bs 0).args.length (intsF (cOf bs 0).args))]) rfl (by rw [cOf_yes (i := 0) (bs := bs) (by omega) hc6]; rfl) ?_
          refine wn ?_
          refine tn ?_
          exact meet (()) [56, 40, 72, 80, 88, 128] trivial rfl ⟨rfl, rfl, rfl, rfl, rfl, trivial⟩ ⟨rfl, rfl, rfl, rfl, rfl, rfl, trivial⟩
        · skip
          try simp only [cs, ne_eq] at hc6
          refine ccell 128 1 (.d (.vec 1 0 (intsF []))) rfl rfl (fun M ρ v h => h.nil_vec) ?_
          refine chval 128 (.cells 38 2 [SV.i (cOf bs 0).code, .d (.vec 1 (cOf bs 0).args.length (intsF (cOf bs 0).args))]) rfl (by rw [cOf_no2 (i := 0) (bs := bs) (by omega)]; rfl) ?_
          refine W_skip ?_
          refine tn ?_
          exact meet (()) [56, 40, 72, 80, 88, 128] trivial rfl ⟨rfl, rfl, rfl, rfl, rfl, trivial⟩ ⟨rfl, rfl, rfl, rfl, rfl, rfl, trivial⟩
      · skip
        try simp only [cs, ne_eq] at hg6_34
        refine g0 4 true 34 35 6 rfl rfl rfl rfl rfl rfl ?_
        refine g0 4 true 34 36 7 rfl rfl rfl rfl rfl rfl ?_
        refine g0 4 true 34 37 8 rfl rfl rfl rfl rfl rfl ?_
        refine g0 4 true 34 38 9 rfl rfl rfl rfl rfl rfl ?_
        refine g0 4 true 34 39 10 rfl rfl rfl rfl rfl rfl ?_
        refine g0 4 true 34 40 11 rfl rfl rfl rfl rfl rfl ?_
        refine s1 41 232 12 rfl rfl rfl rfl rfl rfl trivial ?_
        refine e1 240 rfl ?_
        refine keep [0, 1, 5, 6, 7, 41] rfl ?_
        refine q1 rfl (fun hc6 => ?_) (fun hc6 => ?_)
        · skip
          exact absurd hc6 (by decide)
        · skip
          try simp only [cs, ne_eq] at hc6
          refine ccell 128 1 (.d (.vec 1 0 (intsF []))) rfl rfl (fun M ρ v h => h.nil_vec) ?_
          refine chval 128 (.cells 38 2 [SV.i (cOf bs 0).code, .d (.vec 1 (cOf bs 0).args.length (intsF (cOf bs 0).args))]) rfl (by rw [cOf_no1 (i := 0) (bs := bs) (by omega)]; rfl) ?_
          refine W_skip ?_
          refine tn ?_
          exact meet (()) [56, 40, 72, 80, 88, 128] trivial rfl ⟨rfl, rfl, rfl, rfl, rfl, trivial⟩ ⟨rfl, rfl, rfl, rfl, rfl, rfl, trivial⟩
    · skip
      refine rd0 rfl ?_
      refine d1 49 6 1 rfl rfl rfl rfl rfl rfl trivial ?_
      refine d1 50 14 2 rfl rfl rfl rfl rfl rfl (by first | trivial | omega) ?_
      refine d1 51 22 3 rfl rfl rfl rfl rfl rfl trivial ?_
      refine dD 52 30 4 rfl rfl rfl rfl rfl rfl rfl rfl rfl (by omega) ?_
      refine val 52 (SV.i 0) rfl rfl ?_
      refine d1 53 38 5 rfl rfl rfl rfl rfl rfl trivial ?_
      refine d1 54 46 6 rfl rfl rfl rfl rfl rfl (by first | trivial | omega) ?_
      refine d1 55 54 7 rfl rfl rfl rfl rfl rfl trivial ?_
      refine dD 56 62 8 rfl rfl rfl rfl rfl rfl rfl rfl rfl (by omega) ?_
      refine val 56 (SV.i 0) rfl rfl ?_
      refine d1 57 70 9 rfl rfl rfl rfl rfl rfl (by first | trivial | omega) ?_
      refine d1 58 78 10 rfl rfl rfl rfl rfl rfl (by first | trivial | omega) ?_
      refine d1 59 86 11 rfl rfl rfl rfl rfl rfl (by first | trivial | omega) ?_
      refine d1 60 94 12 rfl rfl rfl rfl rfl rfl trivial ?_
      refine d1 61 102 13 rfl rfl rfl rfl rfl rfl ⟨Nat.le_refl _, trivial, (by show ((([] : List CallD)).length + 1) * 32 ≤ 140737488355328; simp), (by simp [maxLen])⟩ ?_
      refine d1 62 110 14 rfl rfl rfl rfl rfl rfl (by first | trivial | omega) ?_
      refine d0 118 15 rfl rfl rfl rfl rfl (by first | trivial | omega) ?_
      refine de1 126 rfl (by kernel_rfl) ?_
      refine bn ?_
      refine tn ?_
      refine rowsc (k := 2) (L := ([] : List CallD).length + 1) 102 ([cOf bs 0] : List CallD).length (callF ([cOf bs 0] : List CallD)) rfl rfl (fun m c hm hc => call_snoc ([] : List CallD) (cOf bs 0) _ rfl m c hm hc) ?_
      refine chval 1 (.cells 39 1 [.sl 102 0 ([cOf bs 0] : List CallD).length, .sl 3 0 ([] : List CallD).length, .sl 4 0 ([] : List CallD).length]) rfl rfl ?_
      refine r0 ?_
      refine s1 27 126 1 rfl rfl rfl rfl rfl rfl trivial ?_
      refine sA 28 134 2 rfl rfl rfl rfl rfl rfl rfl rfl rfl (by unfold inRange; omega) ?_
      refine val 28 (SV.i 1) rfl rfl ?_
      refine s1 6 142 3 rfl rfl rfl rfl rfl rfl trivial ?_
      refine e1 150 rfl ?_
      refine tn ?_
      refine unr ?_
      refine W_seq ?_
      refine r1 ?_
      refine s1 25 150 1 rfl rfl rfl rfl rfl rfl trivial ?_
      refine s1 26 158 2 rfl rfl rfl rfl rfl rfl (by first | trivial | omega) ?_
      refine e1 166 rfl ?_
      refine keep [0, 1, 5, 6, 26] rfl ?_
      refine q1 rfl (fun hc3 => ?_) (fun hc3 => ?_)
      · skip
        try simp only [cs, ne_eq] at hc3
        refine W_skip ?_
        refine tn ?_
        refine W_seq ?_
        refine W_block ?_
        refine r1 ?_
        refine s1 29 166 1 rfl rfl rfl rfl rfl rfl trivial ?_
        refine s1 7 174 2 rfl rfl rfl rfl rfl rfl trivial ?_
        refine s0 182 3 rfl rfl rfl rfl rfl (by first | trivial | omega) ?_
        refine e1 190 rfl ?_
        refine keep [0, 1, 5, 6, 7] rfl ?_
        refine cut (α := Unit) 6 (fun _u => [(0, intsV bs), (1, u8V l), (5, .ptr 0 0 0), (6, SV.i 1), (7, .ptr 5 0 0)]) (fun _u => [some (.cells 28 3 [.d (.vec 1 1 (intsF [0])), .d (.vec 1 2 (codR [caddL, cgetL])), .sl 1 0 3]), some (.cells 39 1 [.sl 2 0 ([cOf bs 0] : List CallD).length, .sl 3 0 ([] : List CallD).length, .sl 4 0 ([] : List CallD).length]), some (.rows 38 2 (([cOf bs 0] : List CallD)).length (callF (([cOf bs 0] : List CallD)))), some (.rows 38 2 (([] : List CallD)).length (callF (([] : List CallD)))), some (.rows 38 2 (([] : List CallD)).length (callF (([] : List CallD)))), some (.cells 38 2 [SV.i (cOf bs 1).code, .d (.vec 1 (cOf bs 1).args.length (intsF (cOf bs 1).args))])]) (fun _u => True) (fun _ => rfl) ?_ (fun _u hz => ?_)
        · skip
          refine r1 ?_
          refine s1 30 190 1 rfl rfl rfl rfl rfl rfl trivial ?_
          refine s1 31 198 2 rfl rfl rfl rfl rfl rfl trivial ?_
          refine s1 32 206 3 rfl rfl rfl rfl rfl rfl (by first | trivial | omega) ?_
          refine s1 33 214 4 rfl rfl rfl rfl rfl rfl (by first | trivial | omega) ?_
          refine s1 34 222 5 rfl rfl rfl rfl rfl rfl trivial ?_
          refine ask 34 rfl (fun hg6_34 => ?_) (fun hg6_34 => ?_)
          · skip
            try simp only [cs, ne_eq] at hg6_34
            refine g1 4 true 34 35 6 rfl rfl rfl rfl rfl ?_
            refine s1 35 230 6 rfl rfl rfl rfl rfl rfl trivial ?_
            refine g1 4 true 34 36 7 rfl rfl rfl rfl rfl ?_
            refine s1 36 238 7 rfl rfl rfl rfl rfl rfl trivial ?_
            refine g1 4 true 34 37 8 rfl rfl rfl rfl rfl ?_
            refine s1 37 246 8 rfl rfl rfl rfl rfl rfl (by first | trivial | omega) ?_
            refine g1 4 true 34 38 9 rfl rfl rfl rfl rfl ?_
            refine s1 38 254 9 rfl rfl rfl rfl rfl rfl (by first | trivial | omega) ?_
            refine val 38 (SV.i (bs.getD 1 0)) rfl rfl ?_
            refine g1 4 true 34 39 10 rfl rfl rfl rfl rfl ?_
            refine c1 (picked_any (bs.getD 1 0) 3 (by decide)) [] [] 39 262 10 rfl rfl rfl rfl rfl rfl rfl rfl Tryd.func7 rfl rfl rfl rfl trivial rfl rfl ?_
            refine g1 4 true 34 40 11 rfl rfl rfl rfl rfl ?_
            refine s1 40 270 11 rfl rfl rfl rfl rfl rfl (by first | trivial | omega) ?_
            refine s1 41 278 12 rfl rfl rfl rfl rfl rfl trivial ?_
            refine e1 286 rfl ?_
            refine keep [0, 1, 5, 6, 7, 41] rfl ?_
            refine q1 rfl (fun hc6 => ?_) (fun hc6 => ?_)
            · skip
              try simp only [cs, ne_eq] at hc6
              refine r0n ?_
              refine s1 42 286 1 rfl rfl rfl rfl rfl rfl trivial ?_
              refine s1 43 294 2 rfl rfl rfl rfl rfl rfl trivial ?_
              refine s1 44 302 3 rfl rfl rfl rfl rfl rfl (by first | trivial | omega) ?_
              refine s1 45 310 4 rfl rfl rfl rfl rfl rfl (by first | trivial | omega) ?_
              refine val 45 (SV.i (bs.getD 1 0)) rfl rfl ?_
              refine c1 (picked_any (bs.getD 1 0) 3 (by decide)) [] [] 46 318 5 rfl rfl rfl rfl rfl rfl rfl rfl Tryd.func7 rfl rfl rfl rfl trivial rfl rfl ?_
              refine sLit 1 (intsF [pickI (bs.getD 1 0) 3]) 47 326 6 rfl rfl rfl rfl rfl rfl rfl rfl rfl (by intro i c hi hc; obtain rfl : i = 0 := (by omega); obtain rfl : c = 0 := (by omega); rfl) ?_
              refine s1 48 334 7 rfl rfl rfl rfl rfl rfl trivial ?_
              refine s0 342 8 rfl rfl rfl rfl rfl (by first | trivial | omega) ?_
              refine e1 350 rfl ?_
              refine chvaln 174 (.cells 38 2 [SV.i (cOf bs 1).code, .d (.vec 1 (cOf bs 1).args.length (intsF (cOf bs 1).args))]) rfl (by rw [cOf_yes (i := 1) (bs := bs) (by omega) hc6]; rfl) ?_
              refine wn ?_
              refine tn ?_
              exact meet (()) [0, 1, 102, 3, 4, 174] trivial rfl ⟨rfl, rfl, rfl, rfl, rfl, trivial⟩ ⟨rfl, rfl, rfl, rfl, rfl, rfl, trivial⟩
            · skip
              try simp only [cs, ne_eq] at hc6
              refine ccell 174 1 (.d (.vec 1 0 (intsF []))) rfl rfl (fun M ρ v h => h.nil_vec) ?_
              refine chval 174 (.cells 38 2 [SV.i (cOf bs 1).code, .d (.vec 1 (cOf bs 1).args.length (intsF (cOf bs 1).args))]) rfl (by rw [cOf_no2 (i := 1) (bs := bs) (by omega)]; rfl) ?_
              refine W_skip ?_
              refine tn ?_
              exact meet (()) [0, 1, 102, 3, 4, 174] trivial rfl ⟨rfl, rfl, rfl, rfl, rfl, trivial⟩ ⟨rfl, rfl, rfl, rfl, rfl, rfl, trivial⟩
          · skip
            try simp only [cs, ne_eq] at hg6_34
            refine g0 4 true 34 35 6 rfl rfl rfl rfl rfl rfl ?_
            refine g0 4 true 34 36 7 rfl rfl rfl rfl rfl rfl ?_
            refine g0 4 true 34 37 8 rfl rfl rfl rfl rfl rfl ?_
            refine g0 4 true 34 38 9 rfl rfl rfl rfl rfl rfl ?_
            refine g0 4 true 34 39 10 rfl rfl rfl rfl rfl rfl ?_
            refine g0 4 true 34 40 11 rfl rfl rfl rfl rfl rfl ?_
            refine s1 41 278 12 rfl rfl rfl rfl rfl rfl trivial ?_
            refine e1 286 rfl ?_
            refine keep [0, 1, 5, 6, 7, 41] rfl ?_
            refine q1 rfl (fun hc6 => ?_) (fun hc6 => ?_)
            · skip
              exact absurd hc6 (by decide)
            · skip
              try simp only [cs, ne_eq] at hc6
              refine ccell 174 1 (.d (.vec 1 0 (intsF []))) rfl rfl (fun M ρ v h => h.nil_vec) ?_
              refine chval 174 (.cells 38 2 [SV.i (cOf bs 1).code, .d (.vec 1 (cOf bs 1).args.length (intsF (cOf bs 1).args))]) rfl (by rw [cOf_no1 (i := 1) (bs := bs) (by omega)]; rfl) ?_
              refine W_skip ?_
              refine tn ?_
              exact meet (()) [0, 1, 102, 3, 4, 174] trivial rfl ⟨rfl, rfl, rfl, rfl, rfl, trivial⟩ ⟨rfl, rfl, rfl, rfl, rfl, rfl, trivial⟩
        · skip
          refine rd0 rfl ?_
          refine d1 49 6 1 rfl rfl rfl rfl rfl rfl trivial ?_
          refine d1 50 14 2 rfl rfl rfl rfl rfl rfl (by first | trivial | omega) ?_
          refine d1 51 22 3 rfl rfl rfl rfl rfl rfl trivial ?_
          refine dD 52 30 4 rfl rfl rfl rfl rfl rfl rfl rfl rfl (by omega) ?_
          refine val 52 (SV.i 1) rfl rfl ?_
          refine d1 53 38 5 rfl rfl rfl rfl rfl rfl trivial ?_
          refine d1 54 46 6 rfl rfl rfl rfl rfl rfl (by first | trivial | omega) ?_
          refine d1 55 54 7 rfl rfl rfl rfl rfl rfl trivial ?_
          refine dD 56 62 8 rfl rfl rfl rfl rfl rfl rfl rfl rfl (by omega) ?_
          refine val 56 (SV.i 1) rfl rfl ?_
          refine d1 57 70 9 rfl rfl rfl rfl rfl rfl (by first | trivial | omega) ?_
          refine d1 58 78 10 rfl rfl rfl rfl rfl rfl (by first | trivial | omega) ?_
          refine d1 59 86 11 rfl rfl rfl rfl rfl rfl (by first | trivial | omega) ?_
          refine d1 60 94 12 rfl rfl rfl rfl rfl rfl trivial ?_
          refine d1 61 102 13 rfl rfl rfl rfl rfl rfl ⟨Nat.le_refl _, trivial, (by show ((([] : List CallD)).length + 1) * 32 ≤ 140737488355328; simp), (by simp [maxLen])⟩ ?_
          refine d1 62 110 14 rfl rfl rfl rfl rfl rfl (by first | trivial | omega) ?_
          refine d0 118 15 rfl rfl rfl rfl rfl (by first | trivial | omega) ?_
          refine de1 126 rfl (by kernel_rfl) ?_
          refine bn ?_
          refine tn ?_
          refine rowsc (k := 2) (L := ([] : List CallD).length + 1) 102 ([cOf bs 1] : List CallD).length (callF ([cOf bs 1] : List CallD)) rfl rfl (fun m c hm hc => call_snoc ([] : List CallD) (cOf bs 1) _ rfl m c hm hc) ?_
          refine chval 1 (.cells 39 1 [.sl 2 0 ([cOf bs 0] : List CallD).length, .sl 102 0 ([cOf bs 1] : List CallD).length, .sl 4 0 ([] : List CallD).length]) rfl rfl ?_
          refine r0 ?_
          refine s1 27 126 1 rfl rfl rfl rfl rfl rfl trivial ?_
          refine sA 28 134 2 rfl rfl rfl rfl rfl rfl rfl rfl rfl (by unfold inRange; omega) ?_
          refine val 28 (SV.i 2) rfl rfl ?_
          refine s1 6 142 3 rfl rfl rfl rfl rfl rfl trivial ?_
          refine e1 150 rfl ?_
          refine tn ?_
          refine unr ?_
          refine W_seq ?_
          refine r1 ?_
          refine s1 25 150 1 rfl rfl rfl rfl rfl rfl trivial ?_
          refine s1 26 158 2 rfl rfl rfl rfl rfl rfl (by first | trivial | omega) ?_
          refine e1 166 rfl ?_
          refine keep [0, 1, 5, 6, 26] rfl ?_
          refine q1 rfl (fun hc3 => ?_) (fun hc3 => ?_)
          · skip
            try simp only [cs, ne_eq] at hc3
            refine W_skip ?_
            refine tn ?_
            refine W_seq ?_
            refine W_block ?_
            refine r1 ?_
            refine s1 29 166 1 rfl rfl rfl rfl rfl rfl trivial ?_
            refine s1 7 174 2 rfl rfl rfl rfl rfl rfl trivial ?_
            refine s0 182 3 rfl rfl rfl rfl rfl (by first | trivial | omega) ?_
            refine e1 190 rfl ?_
            refine keep [0, 1, 5, 6, 7] rfl ?_
            refine cut (α := Unit) 6 (fun _u => [(0, intsV bs), (1, u8V l), (5, .ptr 0 0 0), (6, SV.i 2), (7, .ptr 5 0 0)]) (fun _u => [some (.cells 28 3 [.d (.vec 1 1 (intsF [0])), .d (.vec 1 2 (codR [caddL, cgetL])), .sl 1 0 3]), some (.cells 39 1 [.sl 2 0 ([cOf bs 0] : List CallD).length, .sl 3 0 ([cOf bs 1] : List CallD).length, .sl 4 0 ([] : List CallD).length]), some (.rows 38 2 (([cOf bs 0] : List CallD)).length (callF (([cOf bs 0] : List CallD)))), some (.rows 38 2 (([cOf bs 1] : List CallD)).length (callF (([cOf bs 1] : List CallD)))), some (.rows 38 2 (([] : List CallD)).length (callF (([] : List CallD)))), some (.cells 38 2 [SV.i (cOf bs 2).code, .d (.vec 1 (cOf bs 2).args.length (intsF (cOf bs 2).args))])]) (fun _u => True) (fun _ => rfl) ?_ (fun _u hz => ?_)
            · skip
              refine r1 ?_
              refine s1 30 190 1 rfl rfl rfl rfl rfl rfl trivial ?_
              refine s1 31 198 2 rfl rfl rfl rfl rfl rfl trivial ?_
              refine s1 32 206 3 rfl rfl rfl rfl rfl rfl (by first | trivial | omega) ?_
              refine s1 33 214 4 rfl rfl rfl rfl rfl rfl (by first | trivial | omega) ?_
              refine s1 34 222 5 rfl rfl rfl rfl rfl rfl trivial ?_
              refine ask 34 rfl (fun hg6_34 => ?_) (fun hg6_34 => ?_)
              · skip
                try simp only [cs, ne_eq] at hg6_34
                refine g1 4 true 34 35 6 rfl rfl rfl rfl rfl ?_
                refine s1 35 230 6 rfl rfl rfl rfl rfl rfl trivial ?_
                refine g1 4 true 34 36 7 rfl rfl rfl rfl rfl ?_
                refine s1 36 238 7 rfl rfl rfl rfl rfl rfl trivial ?_
                refine g1 4 true 34 37 8 rfl rfl rfl rfl rfl ?_
                refine s1 37 246 8 rfl rfl rfl rfl rfl rfl (by first | trivial | omega) ?_
                refine g1 4 true 34 38 9 rfl rfl rfl rfl rfl ?_
                refine s1 38 254 9 rfl rfl rfl rfl rfl rfl (by first | trivial | omega) ?_
                refine val 38 (SV.i (bs.getD 2 0)) rfl rfl ?_
                refine g1 4 true 34 39 10 rfl rfl rfl rfl rfl ?_
                refine c1 (picked_any (bs.getD 2 0) 3 (by decide)) [] [] 39 262 10 rfl rfl rfl rfl rfl rfl rfl rfl Tryd.func7 rfl rfl rfl rfl trivial rfl rfl ?_
                refine g1 4 true 34 40 11 rfl rfl rfl rfl rfl ?_
                refine s1 40 270 11 rfl rfl rfl rfl rfl rfl (by first | trivial | omega) ?_
                refine s1 41 278 12 rfl rfl rfl rfl rfl rfl trivial ?_
                refine e1 286 rfl ?_
                refine keep [0, 1, 5, 6, 7, 41] rfl ?_
                refine q1 rfl (fun hc6 => ?_) (fun hc6 => ?_)
                · skip
                  try simp only [cs, ne_eq] at hc6
                  refine r0n ?_
                  refine s1 42 286 1 rfl rfl rfl rfl rfl rfl trivial ?_
                  refine s1 43 294 2 rfl rfl rfl rfl rfl rfl trivial ?_
                  refine s1 44 302 3 rfl rfl rfl rfl rfl rfl (by first | trivial | omega) ?_
                  refine s1 45 310 4 rfl rfl rfl rfl rfl rfl (by first | trivial | omega) ?_
                  refine val 45 (SV.i (bs.getD 2 0)) rfl rfl ?_
                  refine c1 (picked_any (bs.getD 2 0) 3 (by decide)) [] [] 46 318 5 rfl rfl rfl rfl rfl rfl rfl rfl Tryd.func7 rfl rfl rfl rfl trivial rfl rfl ?_
                  refine sLit 1 (intsF [pickI (bs.getD 2 0) 3]) 47 326 6 rfl rfl rfl rfl rfl rfl rfl rfl rfl (by intro i c hi hc; obtain rfl : i = 0 := (by omega); obtain rfl : c = 0 := (by omega); rfl) ?_
                  refine s1 48 334 7 rfl rfl rfl rfl rfl rfl trivial ?_
                  refine s0 342 8 rfl rfl rfl rfl rfl (by first | trivial | omega) ?_
                  refine e1 350 rfl ?_
                  refine chvaln 174 (.cells 38 2 [SV.i (cOf bs 2).code, .d (.vec 1 (cOf bs 2).args.length (intsF (cOf bs 2).args))]) rfl (by rw [cOf_yes (i := 2) (bs := bs) (by omega) hc6]; rfl) ?_
                  refine wn ?_
                  refine tn ?_
                  exact meet (()) [0, 1, 2, 102, 4, 174] trivial rfl ⟨rfl, rfl, rfl, rfl, rfl, trivial⟩ ⟨rfl, rfl, rfl, rfl, rfl, rfl, trivial⟩
                · skip
                  try simp only [cs, ne_eq] at hc6
                  refine ccell 174 1 (.d (.vec 1 0 (intsF []))) rfl rfl (fun M ρ v h => h.nil_vec) ?_
                  refine chval 174 (.cells 38 2 [SV.i (cOf bs 2).code, .d (.vec 1 (cOf bs 2).args.length (intsF (cOf bs 2).args))]) rfl (by rw [cOf_no2 (i := 2) (bs := bs) (by omega)]; rfl) ?_
                  refine W_skip ?_
                  refine tn ?_
                  exact meet (()) [0, 1, 2, 102, 4, 174] trivial rfl ⟨rfl, rfl, rfl, rfl, rfl, trivial⟩ ⟨rfl, rfl, rfl, rfl, rfl, rfl, trivial⟩
              · skip
                try simp only [cs, ne_eq] at hg6_34
                refine g0 4 true 34 35 6 rfl rfl rfl rfl rfl rfl ?_
                refine g0 4 true 34 36 7 rfl rfl rfl rfl rfl rfl ?_
                refine g0 4 true 34 37 8 rfl rfl rfl rfl rfl rfl ?_
                refine g0 4 true 34 38 9 rfl rfl rfl rfl rfl rfl ?_
                refine g0 4 true 34 39 10 rfl rfl rfl rfl rfl rfl ?_
                refine g0 4 true 34 40 11 rfl rfl rfl rfl rfl rfl ?_
                refine s1 41 278 12 rfl rfl rfl rfl rfl rfl trivial ?_
                refine e1 286 rfl ?_
                refine keep [0, 1, 5, 6, 7, 41] rfl ?_
                refine q1 rfl (fun hc6 => ?_) (fun hc6 => ?_)
                · skip
                  exact absurd hc6 (by decide)
                · skip
                  try simp only [cs, ne_eq] at hc6
                  refine ccell 174 1 (.d (.vec 1 0 (intsF []))) rfl rfl (fun M ρ v h => h.nil_vec) ?_
                  refine chval 174 (.cells 38 2 [SV.i (cOf bs 2).code, .d (.vec 1 (cOf bs 2).args.length (intsF (cOf bs 2).args))]) rfl (by rw [cOf_no1 (i := 2) (bs := bs) (by omega)]; rfl) ?_
                  refine W_skip ?_
                  refine tn ?_
                  exact meet (()) [0, 1, 2, 102, 4, 174] trivial rfl ⟨rfl, rfl, rfl, rfl, rfl, trivial⟩ ⟨rfl, rfl, rfl, rfl, rfl, rfl, trivial⟩
            · skip
              refine rd0 rfl ?_
              refine d1 49 6 1 rfl rfl rfl rfl rfl rfl trivial ?_
              refine d1 50 14 2 rfl rfl rfl rfl rfl rfl (by first | trivial | omega) ?_
              refine d1 51 22 3 rfl rfl rfl rfl rfl rfl trivial ?_
              refine dD 52 30 4 rfl rfl rfl rfl rfl rfl rfl rfl rfl (by omega) ?_
              refine val 52 (SV.i 2) rfl rfl ?_
              refine d1 53 38 5 rfl rfl rfl rfl rfl rfl trivial ?_
              refine d1 54 46 6 rfl rfl rfl rfl rfl rfl (by first | trivial | omega) ?_
              refine d1 55 54 7 rfl rfl rfl rfl rfl rfl trivial ?_
              refine dD 56 62 8 rfl rfl rfl rfl rfl rfl rfl rfl rfl (by omega) ?_
              refine val 56 (SV.i 2) rfl rfl ?_
              refine d1 57 70 9 rfl rfl rfl rfl rfl rfl (by first | trivial | omega) ?_
              refine d1 58 78 10 rfl rfl rfl rfl rfl rfl (by first | trivial | omega) ?_
              refine d1 59 86 11 rfl rfl rfl rfl rfl rfl (by first | trivial | omega) ?_
              refine d1 60 94 12 rfl rfl rfl rfl rfl rfl trivial ?_
              refine d1 61 102 13 rfl rfl rfl rfl rfl rfl ⟨Nat.le_refl _, trivial, (by show ((([] : List CallD)).length + 1) * 32 ≤ 140737488355328; simp), (by simp [maxLen])⟩ ?_
              refine d1 62 110 14 rfl rfl rfl rfl rfl rfl (by first | trivial | omega) ?_
              refine d0 118 15 rfl rfl rfl rfl rfl (by first | trivial | omega) ?_
              refine de1 126 rfl (by kernel_rfl) ?_
              refine bn ?_
              refine tn ?_
              refine rowsc (k := 2) (L := ([] : List CallD).length + 1) 102 ([cOf bs 2] : List CallD).length (callF ([cOf bs 2] : List CallD)) rfl rfl (fun m c hm hc => call_snoc ([] : List CallD) (cOf bs 2) _ rfl m c hm hc) ?_
              refine chval 1 (.cells 39 1 [.sl 2 0 ([cOf bs 0] : List CallD).length, .sl 3 0 ([cOf bs 1] : List CallD).length, .sl 102 0 ([cOf bs 2] : List CallD).length]) rfl rfl ?_
              refine r0 ?_
              refine s1 27 126 1 rfl rfl rfl rfl rfl rfl trivial ?_
              refine sA 28 134 2 rfl rfl rfl rfl rfl rfl rfl rfl rfl (by unfold inRange; omega) ?_
              refine val 28 (SV.i 3) rfl rfl ?_
              refine s1 6 142 3 rfl rfl rfl rfl rfl rfl trivial ?_
              refine e1 150 rfl ?_
              refine tn ?_
              refine unr ?_
              refine W_seq ?_
              refine r1 ?_
              refine s1 25 150 1 rfl rfl rfl rfl rfl rfl trivial ?_
              refine s1 26 158 2 rfl rfl rfl rfl rfl rfl (by first | trivial | omega) ?_
              refine e1 166 rfl ?_
              refine keep [0, 1, 5, 6, 26] rfl ?_
              refine q1 rfl (fun hc3 => ?_) (fun hc3 => ?_)
              · skip
                try simp only [cs, ne_eq] at hc3
                refine W_skip ?_
                refine tn ?_
                refine W_seq ?_
                refine W_block ?_
                refine r1 ?_
                refine s1 29 166 1 rfl rfl rfl rfl rfl rfl trivial ?_
                refine s1 7 174 2 rfl rfl rfl rfl rfl rfl trivial ?_
                refine s0 182 3 rfl rfl rfl rfl rfl (by first | trivial | omega) ?_
                refine e1 190 rfl ?_
                refine keep [0, 1, 5, 6, 7] rfl ?_
                refine cut (α := Unit) 6 (fun _u => [(0, intsV bs), (1, u8V l), (5, .ptr 0 0 0), (6, SV.i 3), (7, .ptr 5 0 0)]) (fun _u => [some (.cells 28 3 [.d (.vec 1 1 (intsF [0])), .d (.vec 1 2 (codR [caddL, cgetL])), .sl 1 0 3]), some (.cells 39 1 [.sl 2 0 ([cOf bs 0] : List CallD).length, .sl 3 0 ([cOf bs 1] : List CallD).length, .sl 4 0 ([cOf bs 2] : List CallD).length]), some (.rows 38 2 (([cOf bs 0] : List CallD)).length (callF (([cOf bs 0] : List CallD)))), some (.rows 38 2 (([cOf bs 1] : List CallD)).length (callF (([cOf bs 1] : List CallD)))), some (.rows 38 2 (([cOf bs 2] : List CallD)).length (callF (([cOf bs 2] : List CallD)))), some (.cells 38 2 [SV.i (cOf bs 3).code, .d (.vec 1 (cOf bs 3).args.length (intsF (cOf bs 3).args))])]) (fun _u => True) (fun _ => rfl) ?_ (fun _u hz => ?_)
                · skip
                  refine r1 ?_
                  refine s1 30 190 1 rfl rfl rfl rfl rfl rfl trivial ?_
                  refine s1 31 198 2 rfl rfl rfl rfl rfl rfl trivial ?_
                  refine s1 32 206 3 rfl rfl rfl rfl rfl rfl (by first | trivial | omega) ?_
                  refine s1 33 214 4 rfl rfl rfl rfl rfl rfl (by first | trivial | omega) ?_
                  refine s1 34 222 5 rfl rfl rfl rfl rfl rfl trivial ?_
                  refine ask 34 rfl (fun hg6_34 => ?_) (fun hg6_34 => ?_)
                  · skip
                    try simp only [cs, ne_eq] at hg6_34
                    refine g1 4 true 34 35 6 rfl rfl rfl rfl rfl ?_
                    refine s1 35 230 6 rfl rfl rfl rfl rfl rfl trivial ?_
                    refine g1 4 true 34 36 7 rfl rfl rfl rfl rfl ?_
                    refine s1 36 238 7 rfl rfl rfl rfl rfl rfl trivial ?_
                    refine g1 4 true 34 37 8 rfl rfl rfl rfl rfl ?_
                    refine s1 37 246 8 rfl rfl rfl rfl rfl rfl (by first | trivial | omega) ?_
                    refine g1 4 true 34 38 9 rfl rfl rfl rfl rfl ?_
                    refine s1 38 254 9 rfl rfl rfl rfl rfl rfl (by first | trivial | omega) ?_
                    refine val 38 (SV.i (bs.getD 3 0)) rfl rfl ?_
                    refine g1 4 true 34 39 10 rfl rfl rfl rfl rfl ?_
                    refine c1 (picked_any (bs.getD 3 0) 3 (by decide)) [] [] 39 262 10 rfl rfl rfl rfl rfl rfl rfl rfl Tryd.func7 rfl rfl rfl rfl trivial rfl rfl ?_
                    refine g1 4 true 34 40 11 rfl rfl rfl rfl rfl ?_
                    refine s1 40 270 11 rfl rfl rfl rfl rfl rfl (by first | trivial | omega) ?_
                    refine s1 41 278 12 rfl rfl rfl rfl rfl rfl trivial ?_
                    refine e1 286 rfl ?_
                    refine keep [0, 1, 5, 6, 7, 41] rfl ?_
                    refine q1 rfl (fun hc6 => ?_) (fun hc6 => ?_)
                    · skip
                      try simp only [cs, ne_eq] at hc6
                      refine r0n ?_
                      refine s1 42 286 1 rfl rfl rfl rfl rfl rfl trivial ?_
                      refine s1 43 294 2 rfl rfl rfl rfl rfl rfl trivial ?_
                      refine s1 44 302 3 rfl rfl rfl rfl rfl rfl (by first | trivial | omega) ?_
                      refine s1 45 310 4 rfl rfl rfl rfl rfl rfl (by first | trivial | omega) ?_
                      refine val 45 (SV.i (bs.getD 3 0)) rfl rfl ?_
                      refine c1 (picked_any (bs.getD 3 0) 3 (by decide)) [] [] 46 318 5 rfl rfl rfl rfl rfl rfl rfl rfl Tryd.func7 rfl rfl rfl rfl trivial rfl rfl ?_
                      refine sLit 1 (intsF [pickI (bs.getD 3 0) 3]) 47 326 6 rfl rfl rfl rfl rfl rfl rfl rfl rfl (by intro i c hi hc; obtain rfl : i = 0 := (by omega); obtain rfl : c = 0 := (by omega); rfl) ?_
                      refine s1 48 334 7 rfl rfl rfl rfl rfl rfl trivial ?_
                      refine s0 342 8 rfl rfl rfl rfl rfl (by first | trivial | omega) ?_
                      refine e1 350 rfl ?_
                      refine chvaln 174 (.cells 38 2 [SV.i (cOf bs 3).code, .d (.vec 1 (cOf bs 3).args.length (intsF (cOf bs 3).args))]) rfl (by rw [cOf_yes (i := 3) (bs := bs) (by omega) hc6]; rfl) ?_
                      refine wn ?_
                      refine tn ?_
                      exact meet (()) [0, 1, 2, 3, 102, 174] trivial rfl ⟨rfl, rfl, rfl, rfl, rfl, trivial⟩ ⟨rfl, rfl, rfl, rfl, rfl, rfl, trivial⟩
                    · skip
                      try simp only [cs, ne_eq] at hc6
                      refine ccell 174 1 (.d (.vec 1 0 (intsF []))) rfl rfl (fun M ρ v h => h.nil_vec) ?_
                      refine chval 174 (.cells 38 2 [SV.i (cOf bs 3).code, .d (.vec 1 (cOf bs 3).args.length (intsF (cOf bs 3).args))]) rfl (by rw [cOf_no2 (i := 3) (bs := bs) (by omega)]; rfl) ?_
                      refine W_skip ?_
                      refine tn ?_
                      exact meet (()) [0, 1, 2, 3, 102, 174] trivial rfl ⟨rfl, rfl, rfl, rfl, rfl, trivial⟩ ⟨rfl, rfl, rfl, rfl, rfl, rfl, trivial⟩
                  · skip
                    try simp only [cs, ne_eq] at hg6_34
                    refine g0 4 true 34 35 6 rfl rfl rfl rfl rfl rfl ?_
                    refine g0 4 true 34 36 7 rfl rfl rfl rfl rfl rfl ?_
                    refine g0 4 true 34 37 8 rfl rfl rfl rfl rfl rfl ?_
                    refine g0 4 true 34 38 9 rfl rfl rfl rfl rfl rfl ?_
                    refine g0 4 true 34 39 10 rfl rfl rfl rfl rfl rfl ?_
                    refine g0 4 true 34 40 11 rfl rfl rfl rfl rfl rfl ?_
                    refine s1 41 278 12 rfl rfl rfl rfl rfl rfl trivial ?_
                    refine e1 286 rfl ?_
                    refine keep [0, 1, 5, 6, 7, 41] rfl ?_
                    refine q1 rfl (fun hc6 => ?_) (fun hc6 => ?_)
                    · skip
                      exact absurd hc6 (by decide)
                    · skip
                      try simp only [cs, ne_eq] at hc6
                      refine ccell 174 1 (.d (.vec 1 0 (intsF []))) rfl rfl (fun M ρ v h => h.nil_vec) ?_
                      refine chval 174 (.cells 38 2 [SV.i (cOf bs 3).code, .d (.vec 1 (cOf bs 3).args.length (intsF (cOf bs 3).args))]) rfl (by rw [cOf_no1 (i := 3) (bs := bs) (by omega)]; rfl) ?_
                      refine W_skip ?_
                      refine tn ?_
                      exact meet (()) [0, 1, 2, 3, 102, 174] trivial rfl ⟨rfl, rfl, rfl, rfl, rfl, trivial⟩ ⟨rfl, rfl, rfl, rfl, rfl, rfl, trivial⟩
                · skip
                  refine rd0 rfl ?_
                  refine d1 49 6 1 rfl rfl rfl rfl rfl rfl trivial ?_
                  refine d1 50 14 2 rfl rfl rfl rfl rfl rfl (by first | trivial | omega) ?_
                  refine d1 51 22 3 rfl rfl rfl rfl rfl rfl trivial ?_
                  refine dD 52 30 4 rfl rfl rfl rfl rfl rfl rfl rfl rfl (by omega) ?_
                  refine val 52 (SV.i 0) rfl rfl ?_
                  refine d1 53 38 5 rfl rfl rfl rfl rfl rfl trivial ?_
                  refine d1 54 46 6 rfl rfl rfl rfl rfl rfl (by first | trivial | omega) ?_
                  refine d1 55 54 7 rfl rfl rfl rfl rfl rfl trivial ?_
                  refine dD 56 62 8 rfl rfl rfl rfl rfl rfl rfl rfl rfl (by omega) ?_
                  refine val 56 (SV.i 0) rfl rfl ?_
                  refine d1 57 70 9 rfl rfl rfl rfl rfl rfl (by first | trivial | omega) ?_
                  refine d1 58 78 10 rfl rfl rfl rfl rfl rfl (by first | trivial | omega) ?_
                  refine d1 59 86 11 rfl rfl rfl rfl rfl rfl (by first | trivial | omega) ?_
                  refine d1 60 94 12 rfl rfl rfl rfl rfl rfl trivial ?_
                  refine d1 61 102 13 rfl rfl rfl rfl rfl rfl ⟨Nat.le_refl _, trivial, (by show ((([cOf bs 0] : List CallD)).length + 1) * 32 ≤ 140737488355328; simp), (by simp [maxLen])⟩ ?_
                  refine d1 62 110 14 rfl rfl rfl rfl rfl rfl (by first | trivial | omega) ?_
                  refine d0 118 15 rfl rfl rfl rfl rfl (by first | trivial | omega) ?_
                  refine de1 126 rfl (by kernel_rfl) ?_
                  refine bn ?_
                  refine tn ?_
                  refine rowsc (k := 2) (L := ([cOf bs 0] : List CallD).length + 1) 102 ([cOf bs 0, cOf bs 3] : List CallD).length (callF ([cOf bs 0, cOf bs 3] : List CallD)) rfl rfl (fun m c hm hc => call_snoc ([cOf bs 0] : List CallD) (cOf bs 3) _ rfl m c hm hc) ?_
                  refine chval 1 (.cells 39 1 [.sl 102 0 ([cOf bs 0, cOf bs 3] : List CallD).length, .sl 3 0 ([cOf bs 1] : List CallD).length, .sl 4 0 ([cOf bs 2] : List CallD).length]) rfl rfl ?_
                  refine r0 ?_
                  refine s1 27 126 1 rfl rfl rfl rfl rfl rfl trivial ?_
                  refine sA 28 134 2 rfl rfl rfl rfl rfl rfl rfl rfl rfl (by unfold inRange; omega) ?_
                  refine val 28 (SV.i 4) rfl rfl ?_
                  refine s1 6 142 3 rfl rfl rfl rfl rfl rfl trivial ?_
                  refine e1 150 rfl ?_
                  refine tn ?_
                  refine unr ?_
                  refine W_seq ?_
                  refine r1 ?_
                  refine s1 25 150 1 rfl rfl rfl rfl rfl rfl trivial ?_
                  refine s1 26 158 2 rfl rfl rfl rfl rfl rfl (by first | trivial | omega) ?_
                  refine e1 166 rfl ?_
                  refine keep [0, 1, 5, 6, 26] rfl ?_
                  refine q1 rfl (fun hc3 => ?_) (fun hc3 => ?_)
                  · skip
                    try simp only [cs, ne_eq] at hc3
                    refine W_skip ?_
                    refine tn ?_
                    refine W_seq ?_
                    refine W_block ?_
                    refine r1 ?_
                    refine s1 29 166 1 rfl rfl rfl rfl rfl rfl trivial ?_
                    refine s1 7 174 2 rfl rfl rfl rfl rfl rfl trivial ?_
                    refine s0 182 3 rfl rfl rfl rfl rfl (by first | trivial | omega) ?_
                    refine e1 190 rfl ?_
                    refine keep [0, 1, 5, 6, 7] rfl ?_
                    refine cut (α := Unit) 6 (fun _u => [(0, intsV bs), (1, u8V l), (5, .ptr 0 0 0), (6, SV.i 4), (7, .ptr 5 0 0)]) (fun _u => [some (.cells 28 3 [.d (.vec 1 1 (intsF [0])), .d (.vec 1 2 (codR [caddL, cgetL])), .sl 1 0 3]), some (.cells 39 1 [.sl 2 0 ([cOf bs 0, cOf bs 3] : List CallD).length, .sl 3 0 ([cOf bs 1] : List CallD).length, .sl 4 0 ([cOf bs 2] : List CallD).length]), some (.rows 38 2 (([cOf bs 0, cOf bs 3] : List CallD)).length (callF (([cOf bs 0, cOf bs 3] : List CallD)))), some (.rows 38 2 (([cOf bs 1] : List CallD)).length (callF (([cOf bs 1] : List CallD)))), some (.rows 38 2 (([cOf bs 2] : List CallD)).length (callF (([cOf bs 2] : List CallD)))), some (.cells 38 2 [SV.i (cOf bs 4).code, .d (.vec 1 (cOf bs 4).args.length (intsF (cOf bs 4).args))])]) (fun _u => True) (fun _ => rfl) ?_ (fun _u hz => ?_)
                    · skip
                      refine r1 ?_
                      refine s1 30 190 1 rfl rfl rfl rfl rfl rfl trivial ?_
                      refine s1 31 198 2 rfl rfl rfl rfl rfl rfl trivial ?_
                      refine s1 32 206 3 rfl rfl rfl rfl rfl rfl (by first | trivial | omega) ?_
                      refine s1 33 214 4 rfl rfl rfl rfl rfl rfl (by first | trivial | omega) ?_
                      refine s1 34 222 5 rfl rfl rfl rfl rfl rfl trivial ?_
                      refine ask 34 rfl (fun hg6_34 => ?_) (fun hg6_34 => ?_)
                      · skip
                        try simp only [cs, ne_eq] at hg6_34
                        refine g1 4 true 34 35 6 rfl rfl rfl rfl rfl ?_
                        refine s1 35 230 6 rfl rfl rfl rfl rfl rfl trivial ?_
                        refine g1 4 true 34 36 7 rfl rfl rfl rfl rfl ?_
                        refine s1 36 238 7 rfl rfl rfl rfl rfl rfl trivial ?_
                        refine g1 4 true 34 37 8 rfl rfl rfl rfl rfl ?_
                        refine s1 37 246 8 rfl rfl rfl rfl rfl rfl (by first | trivial | omega) ?_
                        refine g1 4 true 34 38 9 rfl rfl rfl rfl rfl ?_
                        refine s1 38 254 9 rfl rfl rfl rfl rfl rfl (by first | trivial | omega) ?_
                        refine val 38 (SV.i (bs.getD 4 0)) rfl rfl ?_
                        refine g1 4 true 34 39 10 rfl rfl rfl rfl rfl ?_
                        refine c1 (picked_any (bs.getD 4 0) 3 (by decide)) [] [] 39 262 10 rfl rfl rfl rfl rfl rfl rfl rfl Tryd.func7 rfl rfl rfl rfl trivial rfl rfl ?_
                        refine g1 4 true 34 40 11 rfl rfl rfl rfl rfl ?_
                        refine s1 40 270 11 rfl rfl rfl rfl rfl rfl (by first | trivial | omega) ?_
                        refine s1 41 278 12 rfl rfl rfl rfl rfl rfl trivial ?_
                        refine e1 286 rfl ?_
                        refine keep [0, 1, 5, 6, 7, 41] rfl ?_
                        refine q1 rfl (fun hc6 => ?_) (fun hc6 => ?_)
                        · skip
                          try simp only [cs, ne_eq] at hc6
                          refine r0n ?_
                          refine s1 42 286 1 rfl rfl rfl rfl rfl rfl trivial ?_
                          refine s1 43 294 2 rfl rfl rfl rfl rfl rfl trivial ?_
                          refine s1 44 302 3 rfl rfl rfl rfl rfl rfl (by first | trivial | omega) ?_
                          refine s1 45 310 4 rfl rfl rfl rfl rfl rfl (by first | trivial | omega) ?_
                          refine val 45 (SV.i (bs.getD 4 0)) rfl rfl ?_
                          refine c1 (picked_any (bs.getD 4 0) 3 (by decide)) [] [] 46 318 5 rfl rfl rfl rfl rfl rfl rfl rfl Tryd.func7 rfl rfl rfl rfl trivial rfl rfl ?_
                          refine sLit 1 (intsF [pickI (bs.getD 4 0) 3]) 47 326 6 rfl rfl rfl rfl rfl rfl rfl rfl rfl (by intro i c hi hc; obtain rfl : i = 0 := (by omega); obtain rfl : c = 0 := (by omega); rfl) ?_
                          refine s1 48 334 7 rfl rfl rfl rfl rfl rfl trivial ?_
                          refine s0 342 8 rfl rfl rfl rfl rfl (by first | trivial | omega) ?_
                          refine e1 350 rfl ?_
                          refine chvaln 174 (.cells 38 2 [SV.i (cOf bs 4).code, .d (.vec 1 (cOf bs 4).args.length (intsF (cOf bs 4).args))]) rfl (by rw [cOf_yes (i := 4) (bs := bs) (by omega) hc6]; rfl) ?_
                          refine wn ?_
                          refine tn ?_
                          exact meet (()) [0, 1, 102, 3, 4, 174] trivial rfl ⟨rfl, rfl, rfl, rfl, rfl, trivial⟩ ⟨rfl, rfl, rfl, rfl, rfl, rfl, trivial⟩
                        · skip
                          try simp only [cs, ne_eq] at hc6
                          refine ccell 174 1 (.d (.vec 1 0 (intsF []))) rfl rfl (fun M ρ v h => h.nil_vec) ?_
                          refine chval 174 (.cells 38 2 [SV.i (cOf bs 4).code, .d (.vec 1 (cOf bs 4).args.length (intsF (cOf bs 4).args))]) rfl (by rw [cOf_no2 (i := 4) (bs := bs) (by omega)]; rfl) ?_
                          refine W_skip ?_
                          refine tn ?_
                          exact meet (()) [0, 1, 102, 3, 4, 174] trivial rfl ⟨rfl, rfl, rfl, rfl, rfl, trivial⟩ ⟨rfl, rfl, rfl, rfl, rfl, rfl, trivial⟩
                      · skip
                        try simp only [cs, ne_eq] at hg6_34
                        refine g0 4 true 34 35 6 rfl rfl rfl rfl rfl rfl ?_
                        refine g0 4 true 34 36 7 rfl rfl rfl rfl rfl rfl ?_
                        refine g0 4 true 34 37 8 rfl rfl rfl rfl rfl rfl ?_
                        refine g0 4 true 34 38 9 rfl rfl rfl rfl rfl rfl ?_
                        refine g0 4 true 34 39 10 rfl rfl rfl rfl rfl rfl ?_
                        refine g0 4 true 34 40 11 rfl rfl rfl rfl rfl rfl ?_
                        refine s1 41 278 12 rfl rfl rfl rfl rfl rfl trivial ?_
                        refine e1 286 rfl ?_
                        refine keep [0, 1, 5, 6, 7, 41] rfl ?_
                        refine q1 rfl (fun hc6 => ?_) (fun hc6 => ?_)
                        · skip
                          exact absurd hc6 (by decide)
                        · skip
                          try simp only [cs, ne_eq] at hc6
                          refine ccell 174 1 (.d (.vec 1 0 (intsF []))) rfl rfl (fun M ρ v h => h.nil_vec) ?_
                          refine chval 174 (.cells 38 2 [SV.i (cOf bs 4).code, .d (.vec 1 (cOf bs 4).args.length (intsF (cOf bs 4).args))]) rfl (by rw [cOf_no1 (i := 4) (bs := bs) (by omega)]; rfl) ?_
                          refine W_skip ?_
                          refine tn ?_
                          exact meet (()) [0, 1, 102, 3, 4, 174] trivial rfl ⟨rfl, rfl, rfl, rfl, rfl, trivial⟩ ⟨rfl, rfl, rfl, rfl, rfl, rfl, trivial⟩
                    · skip
                      refine rd0 rfl ?_
                      refine d1 49 6 1 rfl rfl rfl rfl rfl rfl trivial ?_
                      refine d1 50 14 2 rfl rfl rfl rfl rfl rfl (by first | trivial | omega) ?_
                      refine d1 51 22 3 rfl rfl rfl rfl rfl rfl trivial ?_
                      refine dD 52 30 4 rfl rfl rfl rfl rfl rfl rfl rfl rfl (by omega) ?_
                      refine val 52 (SV.i 1) rfl rfl ?_
                      refine d1 53 38 5 rfl rfl rfl rfl rfl rfl trivial ?_
                      refine d1 54 46 6 rfl rfl rfl rfl rfl rfl (by first | trivial | omega) ?_
                      refine d1 55 54 7 rfl rfl rfl rfl rfl rfl trivial ?_
                      refine dD 56 62 8 rfl rfl rfl rfl rfl rfl rfl rfl rfl (by omega) ?_
                      refine val 56 (SV.i 1) rfl rfl ?_
                      refine d1 57 70 9 rfl rfl rfl rfl rfl rfl (by first | trivial | omega) ?_
                      refine d1 58 78 10 rfl rfl rfl rfl rfl rfl (by first | trivial | omega) ?_
                      refine d1 59 86 11 rfl rfl rfl rfl rfl rfl (by first | trivial | omega) ?_
                      refine d1 60 94 12 rfl rfl rfl rfl rfl rfl trivial ?_
                      refine d1 61 102 13 rfl rfl rfl rfl rfl rfl ⟨Nat.le_refl _, trivial, (by show ((([cOf bs 1] : List CallD)).length + 1) * 32 ≤ 140737488355328; simp), (by simp [maxLen])⟩ ?_
                      refine d1 62 110 14 rfl rfl rfl rfl rfl rfl (by first | trivial | omega) ?_
                      refine d0 118 15 rfl rfl rfl rfl rfl (by first | trivial | omega) ?_
                      refine de1 126 rfl (by kernel_rfl) ?_
                      refine bn ?_
                      refine tn ?_
                      refine rowsc (k := 2) (L := ([cOf bs 1] : List CallD).length + 1) 102 ([cOf bs 1, cOf bs 4] : List CallD).length (callF ([cOf bs 1, cOf bs 4] : List CallD)) rfl rfl (fun m c hm hc => call_snoc ([cOf bs 1] : List CallD) (cOf bs 4) _ rfl m c hm hc) ?_
                      refine chval 1 (.cells 39 1 [.sl 2 0 ([cOf bs 0, cOf bs 3] : List CallD).length, .sl 102 0 ([cOf bs 1, cOf bs 4] : List CallD).length, .sl 4 0 ([cOf bs 2] : List CallD).length]) rfl rfl ?_
                      refine r0 ?_
                      refine s1 27 126 1 rfl rfl rfl rfl rfl rfl trivial ?_
                      refine sA 28 134 2 rfl rfl rfl rfl rfl rfl rfl rfl rfl (by unfold inRange; omega) ?_
                      refine val 28 (SV.i 5) rfl rfl ?_
                      refine s1 6 142 3 rfl rfl rfl rfl rfl rfl trivial ?_
                      refine e1 150 rfl ?_
                      refine tn ?_
                      refine unr ?_
                      refine W_seq ?_
                      refine r1 ?_
                      refine s1 25 150 1 rfl rfl rfl rfl rfl rfl trivial ?_
                      refine s1 26 158 2 rfl rfl rfl rfl rfl rfl (by first | trivial | omega) ?_
                      refine e1 166 rfl ?_
                      refine keep [0, 1, 5, 6, 26] rfl ?_
                      refine q1 rfl (fun hc3 => ?_) (fun hc3 => ?_)
                      · skip
                        try simp only [cs, ne_eq] at hc3
                        refine W_skip ?_
                        refine tn ?_
                        refine W_seq ?_
                        refine W_block ?_
                        refine r1 ?_
                        refine s1 29 166 1 rfl rfl rfl rfl rfl rfl trivial ?_
                        refine s1 7 174 2 rfl rfl rfl rfl rfl rfl trivial ?_
                        refine s0 182 3 rfl rfl rfl rfl rfl (by first | trivial | omega) ?_
                        refine e1 190 rfl ?_
                        refine keep [0, 1, 5, 6, 7] rfl ?_
                        refine cut (α := Unit) 6 (fun _u => [(0, intsV bs), (1, u8V l), (5, .ptr 0 0 0), (6, SV.i 5), (7, .ptr 5 0 0)]) (fun _u => [some (.cells 28 3 [.d (.vec 1 1 (intsF [0])), .d (.vec 1 2 (codR [caddL, cgetL])), .sl 1 0 3]), some (.cells 39 1 [.sl 2 0 ([cOf bs 0, cOf bs 3] : List CallD).length, .sl 3 0 ([cOf bs 1, cOf bs 4] : List CallD).length, .sl 4 0 ([cOf bs 2] : List CallD).length]), some (.rows 38 2 (([cOf bs 0, cOf bs 3] : List CallD)).length (callF (([cOf bs 0, cOf bs 3] : List CallD)))), some (.rows 38 2 (([cOf bs 1, cOf bs 4] : List CallD)).length (callF (([cOf bs 1, cOf bs 4] : List CallD)))), some (.rows 38 2 (([cOf bs 2] : List CallD)).length (callF (([cOf bs 2] : List CallD)))), some (.cells 38 2 [SV.i (cOf bs 5).code, .d (.vec 1 (cOf bs 5).args.length (intsF (cOf bs 5).args))])]) (fun _u => True) (fun _ => rfl) ?_ (fun _u hz => ?_)
                        · skip
                          refine r1 ?_
                          refine s1 30 190 1 rfl rfl rfl rfl rfl rfl trivial ?_
                          refine s1 31 198 2 rfl rfl rfl rfl rfl rfl trivial ?_
                          refine s1 32 206 3 rfl rfl rfl rfl rfl rfl (by first | trivial | omega) ?_
                          refine s1 33 214 4 rfl rfl rfl rfl rfl rfl (by first | trivial | omega) ?_
                          refine s1 34 222 5 rfl rfl rfl rfl rfl rfl trivial ?_
                          refine ask 34 rfl (fun hg6_34 => ?_) (fun hg6_34 => ?_)
                          · skip
                            try simp only [cs, ne_eq] at hg6_34
                            refine g1 4 true 34 35 6 rfl rfl rfl rfl rfl ?_
                            refine s1 35 230 6 rfl rfl rfl rfl rfl rfl trivial ?_
                            refine g1 4 true 34 36 7 rfl rfl rfl rfl rfl ?_
                            refine s1 36 238 7 rfl rfl rfl rfl rfl rfl trivial ?_
                            refine g1 4 true 34 37 8 rfl rfl rfl rfl rfl ?_
                            refine s1 37 246 8 rfl rfl rfl rfl rfl rfl (by first | trivial | omega) ?_
                            refine g1 4 true 34 38 9 rfl rfl rfl rfl rfl ?_
                            refine s1 38 254 9 rfl rfl rfl rfl rfl rfl (by first | trivial | omega) ?_
                            refine val 38 (SV.i (bs.getD 5 0)) rfl rfl ?_
                            refine g1 4 true 34 39 10 rfl rfl rfl rfl rfl ?_
                            refine c1 (picked_any (bs.getD 5 0) 3 (by decide)) [] [] 39 262 10 rfl rfl rfl rfl rfl rfl rfl rfl Tryd.func7 rfl rfl rfl rfl trivial rfl rfl ?_
                            refine g1 4 true 34 40 11 rfl rfl rfl rfl rfl ?_
                            refine s1 40 270 11 rfl rfl rfl rfl rfl rfl (by first | trivial | omega) ?_
                            refine s1 41 278 12 rfl rfl rfl rfl rfl rfl trivial ?_
                            refine e1 286 rfl ?_
                            refine keep [0, 1, 5, 6, 7, 41] rfl ?_
                            refine q1 rfl (fun hc6 => ?_) (fun hc6 => ?_)
                            · skip
                              try simp only [cs, ne_eq] at hc6
                              refine r0n ?_
                              refine s1 42 286 1 rfl rfl rfl rfl rfl rfl trivial ?_
                              refine s1 43 294 2 rfl rfl rfl rfl rfl rfl trivial ?_
                              refine s1 44 302 3 rfl rfl rfl rfl rfl rfl (by first | trivial | omega) ?_
                              refine s1 45 310 4 rfl rfl rfl rfl rfl rfl (by first | trivial | omega) ?_
                              refine val 45 (SV.i (bs.getD 5 0)) rfl rfl ?_
                              refine c1 (picked_any (bs.getD 5 0) 3 (by decide)) [] [] 46 318 5 rfl rfl rfl rfl rfl rfl rfl rfl Tryd.func7 rfl rfl rfl rfl trivial rfl rfl ?_
                              refine sLit 1 (intsF [pickI (bs.getD 5 0) 3]) 47 326 6 rfl rfl rfl rfl rfl rfl rfl rfl rfl (by intro i c hi hc; obtain rfl : i = 0 := (by omega); obtain rfl : c = 0 := (by omega); rfl) ?_
                              refine s1 48 334 7 rfl rfl rfl rfl rfl rfl trivial ?_
                              refine s0 342 8 rfl rfl rfl rfl rfl (by first | trivial | omega) ?_
                              refine e1 350 rfl ?_
                              refine chvaln 174 (.cells 38 2 [SV.i (cOf bs 5).code, .d (.vec 1 (cOf bs 5).args.length (intsF (cOf bs 5).args))]) rfl (by rw [cOf_yes (i := 5) (bs := bs) (by omega) hc6]; rfl) ?_
                              refine wn ?_
                              refine tn ?_
                              exact meet (()) [0, 1, 2, 102, 4, 174] trivial rfl ⟨rfl, rfl, rfl, rfl, rfl, trivial⟩ ⟨rfl, rfl, rfl, rfl, rfl, rfl, trivial⟩
                            · skip
                              try simp only [cs, ne_eq] at hc6
                              refine ccell 174 1 (.d (.vec 1 0 (intsF []))) rfl rfl (fun M ρ v h => h.nil_vec) ?_
                              refine chval 174 (.cells 38 2 [SV.i (cOf bs 5).code, .d (.vec 1 (cOf bs 5).args.length (intsF (cOf bs 5).args))]) rfl (by rw [cOf_no2 (i := 5) (bs := bs) (by omega)]; rfl) ?_
                              refine W_skip ?_
                              refine tn ?_
                              exact meet (()) [0, 1, 2, 102, 4, 174] trivial rfl ⟨rfl, rfl, rfl, rfl, rfl, trivial⟩ ⟨rfl, rfl, rfl, rfl, rfl, rfl, trivial⟩
                          · skip
                            try simp only [cs, ne_eq] at hg6_34
                            refine g0 4 true 34 35 6 rfl rfl rfl rfl rfl rfl ?_
                            refine g0 4 true 34 36 7 rfl rfl rfl rfl rfl rfl ?_
                            refine g0 4 true 34 37 8 rfl rfl rfl rfl rfl rfl ?_
                            refine g0 4 true 34 38 9 rfl rfl rfl rfl rfl rfl ?_
                            refine g0 4 true 34 39 10 rfl rfl rfl rfl rfl rfl ?_
                            refine g0 4 true 34 40 11 rfl rfl rfl rfl rfl rfl ?_
                            refine s1 41 278 12 rfl rfl rfl rfl rfl rfl trivial ?_
                            refine e1 286 rfl ?_
                            refine keep [0, 1, 5, 6, 7, 41] rfl ?_
                            refine q1 rfl (fun hc6 => ?_) (fun hc6 => ?_)
                            · skip
                              exact absurd hc6 (by decide)
                            · skip
                              try simp only [cs, ne_eq] at hc6
                              refine ccell 174 1 (.d (.vec 1 0 (intsF []))) rfl rfl (fun M ρ v h => h.nil_vec) ?_
                              refine chval 174 (.cells 38 2 [SV.i (cOf bs 5).code, .d (.vec 1 (cOf bs 5).args.length (intsF (cOf bs 5).args))]) rfl (by rw [cOf_no1 (i := 5) (bs := bs) (by omega)]; rfl) ?_
                              refine W_skip ?_
                              refine tn ?_
                              exact meet (()) [0, 1, 2, 102, 4, 174] trivial rfl ⟨rfl, rfl, rfl, rfl, rfl, trivial⟩ ⟨rfl, rfl, rfl, rfl, rfl, rfl, trivial⟩
                        · skip
                          refine rd0 rfl ?_
                          refine d1 49 6 1 rfl rfl rfl rfl rfl rfl trivial ?_
                          refine d1 50 14 2 rfl rfl rfl rfl rfl rfl (by first | trivial | omega) ?_
                          refine d1 51 22 3 rfl rfl rfl rfl rfl rfl trivial ?_
                          refine dD 52 30 4 rfl rfl rfl rfl rfl rfl rfl rfl rfl (by omega) ?_
                          refine val 52 (SV.i 2) rfl rfl ?_
                          refine d1 53 38 5 rfl rfl rfl rfl rfl rfl trivial ?_
                          refine d1 54 46 6 rfl rfl rfl rfl rfl rfl (by first | trivial | omega) ?_
                          refine d1 55 54 7 rfl rfl rfl rfl rfl rfl trivial ?_
                          refine dD 56 62 8 rfl rfl rfl rfl rfl rfl rfl rfl rfl (by omega) ?_
                          refine val 56 (SV.i 2) rfl rfl ?_
                          refine d1 57 70 9 rfl rfl rfl rfl rfl rfl (by first | trivial | omega) ?_
                          refine d1 58 78 10 rfl rfl rfl rfl rfl rfl (by first | trivial | omega) ?_
                          refine d1 59 86 11 rfl rfl rfl rfl rfl rfl (by first | trivial | omega) ?_
                          refine d1 60 94 12 rfl rfl rfl rfl rfl rfl trivial ?_
                          refine d1 61 102 13 rfl rfl rfl rfl rfl rfl ⟨Nat.le_refl _, trivial, (by show ((([cOf bs 2] : List CallD)).length + 1) * 32 ≤ 140737488355328; simp), (by simp [maxLen])⟩ ?_
                          refine d1 62 110 14 rfl rfl rfl rfl rfl rfl (by first | trivial | omega) ?_
                          refine d0 118 15 rfl rfl rfl rfl rfl (by first | trivial | omega) ?_
                          refine de1 126 rfl (by kernel_rfl) ?_
                          refine bn ?_
                          refine tn ?_
                          refine rowsc (k := 2) (L := ([cOf bs 2] : List CallD).length + 1) 102 ([cOf bs 2, cOf bs 5] : List CallD).length (callF ([cOf bs 2, cOf bs 5] : List CallD)) rfl rfl (fun m c hm hc => call_snoc ([cOf bs 2] : List CallD) (cOf bs 5) _ rfl m c hm hc) ?_
                          refine chval 1 (.cells 39 1 [.sl 2 0 ([cOf bs 0, cOf bs 3] : List CallD).length, .sl 3 0 ([cOf bs 1, cOf bs 4] : List CallD).length, .sl 102 0 ([cOf bs 2, cOf bs 5] : List CallD).length]) rfl rfl ?_
                          refine r0 ?_
                          refine s1 27 126 1 rfl rfl rfl rfl rfl rfl trivial ?_
                          refine sA 28 134 2 rfl rfl rfl rfl rfl rfl rfl rfl rfl (by unfold inRange; omega) ?_
                          refine val 28 (SV.i 6) rfl rfl ?_
                          refine s1 6 142 3 rfl rfl rfl rfl rfl rfl trivial ?_
                          refine e1 150 rfl ?_
                          refine tn ?_
                          refine unr ?_
                          refine W_seq ?_
                          refine r1 ?_
                          refine s1 25 150 1 rfl rfl rfl rfl rfl rfl trivial ?_
                          refine s1 26 158 2 rfl rfl rfl rfl rfl rfl (by first | trivial | omega) ?_
                          refine e1 166 rfl ?_
                          refine keep [0, 1, 5, 6, 26] rfl ?_
                          refine q1 rfl (fun hc3 => ?_) (fun hc3 => ?_)
                          · skip
                            try simp only [cs, ne_eq] at hc3
                            refine W_skip ?_
                            refine tn ?_
                            refine W_seq ?_
                            refine W_block ?_
                            refine r1 ?_
                            refine s1 29 166 1 rfl rfl rfl rfl rfl rfl trivial ?_
                            refine s1 7 174 2 rfl rfl rfl rfl rfl rfl trivial ?_
                            refine s0 182 3 rfl rfl rfl rfl rfl (by first | trivial | omega) ?_
                            refine e1 190 rfl ?_
                            refine keep [0, 1, 5, 6, 7] rfl ?_
                            refine cut (α := Unit) 6 (fun _u => [(0, intsV bs), (1, u8V l), (5, .ptr 0 0 0), (6, SV.i 6), (7, .ptr 5 0 0)]) (fun _u => [some (.cells 28 3 [.d (.vec 1 1 (intsF [0])), .d (.vec 1 2 (codR [caddL, cgetL])), .sl 1 0 3]), some (.cells 39 1 [.sl 2 0 ([cOf bs 0, cOf bs 3] : List CallD).length, .sl 3 0 ([cOf bs 1, cOf bs 4] : List CallD).length, .sl 4 0 ([cOf bs 2, cOf bs 5] : List CallD).length]), some (.rows 38 2 (([cOf bs 0, cOf bs 3] : List CallD)).length (callF (([cOf bs 0, cOf bs 3] : List CallD)))), some (.rows 38 2 (([cOf bs 1, cOf bs 4] : List CallD)).length (callF (([cOf bs 1, cOf bs 4] : List CallD)))), some (.rows 38 2 (([cOf bs 2, cOf bs 5] : List CallD)).length (callF (([cOf bs 2, cOf bs 5] : List CallD)))), some (.cells 38 2 [SV.i (cOf bs 6).code, .d (.vec 1 (cOf bs 6).args.length (intsF (cOf bs 6).args))])]) (fun _u => True) (fun _ => rfl) ?_ (fun _u hz => ?_)
                            · skip
                              refine r1 ?_
                              refine s1 30 190 1 rfl rfl rfl rfl rfl rfl trivial ?_
                              refine s1 31 198 2 rfl rfl rfl rfl rfl rfl trivial ?_
                              refine s1 32 206 3 rfl rfl rfl rfl rfl rfl (by first | trivial | omega) ?_
                              refine s1 33 214 4 rfl rfl rfl rfl rfl rfl (by first | trivial | omega) ?_
                              refine s1 34 222 5 rfl rfl rfl rfl rfl rfl trivial ?_
                              refine ask 34 rfl (fun hg6_34 => ?_) (fun hg6_34 => ?_)
                              · skip
                                try simp only [cs, ne_eq] at hg6_34
                                refine g1 4 true 34 35 6 rfl rfl rfl rfl rfl ?_
                                refine s1 35 230 6 rfl rfl rfl rfl rfl rfl trivial ?_
                                refine g1 4 true 34 36 7 rfl rfl rfl rfl rfl ?_
                                refine s1 36 238 7 rfl rfl rfl rfl rfl rfl trivial ?_
                                refine g1 4 true 34 37 8 rfl rfl rfl rfl rfl ?_
                                refine s1 37 246 8 rfl rfl rfl rfl rfl rfl (by first | trivial | omega) ?_
                                refine g1 4 true 34 38 9 rfl rfl rfl rfl rfl ?_
                                refine s1 38 254 9 rfl rfl rfl rfl rfl rfl (by first | trivial | omega) ?_
                                refine val 38 (SV.i (bs.getD 6 0)) rfl rfl ?_
                                refine g1 4 true 34 39 10 rfl rfl rfl rfl rfl ?_
                                refine c1 (picked_any (bs.getD 6 0) 3 (by decide)) [] [] 39 262 10 rfl rfl rfl rfl rfl rfl rfl rfl Tryd.func7 rfl rfl rfl rfl trivial rfl rfl ?_
                                refine g1 4 true 34 40 11 rfl rfl rfl rfl rfl ?_
                                refine s1 40 270 11 rfl rfl rfl rfl rfl rfl (by first | trivial | omega) ?_
                                refine s1 41 278 12 rfl rfl rfl rfl rfl rfl trivial ?_
                                refine e1 286 rfl ?_
                                refine keep [0, 1, 5, 6, 7, 41] rfl ?_
                                refine q1 rfl (fun hc6 => ?_) (fun hc6 => ?_)
                                · skip
                                  try simp only [cs, ne_eq] at hc6
                                  refine r0n ?_
                                  refine s1 42 286 1 rfl rfl rfl rfl rfl rfl trivial ?_
                                  refine s1 43 294 2 rfl rfl rfl rfl rfl rfl trivial ?_
                                  refine s1 44 302 3 rfl rfl rfl rfl rfl rfl (by first | trivial | omega) ?_
                                  refine s1 45 310 4 rfl rfl rfl rfl rfl rfl (by first | trivial | omega) ?_
                                  refine val 45 (SV.i (bs.getD 6 0)) rfl rfl ?_
                                  refine c1 (picked_any (bs.getD 6 0) 3 (by decide)) [] [] 46 318 5 rfl rfl rfl rfl rfl rfl rfl rfl Tryd.func7 rfl rfl rfl rfl trivial rfl rfl ?_
                                  refine sLit 1 (intsF [pickI (bs.getD 6 0) 3]) 47 326 6 rfl rfl rfl rfl rfl rfl rfl rfl rfl (by intro i c hi hc; obtain rfl : i = 0 := (by omega); obtain rfl : c = 0 := (by omega); rfl) ?_
                                  refine s1 48 334 7 rfl rfl rfl rfl rfl rfl trivial ?_
                                  refine s0 342 8 rfl rfl rfl rfl rfl (by first | trivial | omega) ?_
                                  refine e1 350 rfl ?_
                                  refine chvaln 174 (.cells 38 2 [SV.i (cOf bs 6).code, .d (.vec 1 (cOf bs 6).args.length (intsF (cOf bs 6).args))]) rfl (by rw [cOf_yes (i := 6) (bs := bs) (by omega) hc6]; rfl) ?_
                                  refine wn ?_
                                  refine tn ?_
                                  exact meet (()) [0, 1, 2, 3, 102, 174] trivial rfl ⟨rfl, rfl, rfl, rfl, rfl, trivial⟩ ⟨rfl, rfl, rfl, rfl, rfl, rfl, trivial⟩
                                · skip
                                  try simp only [cs, ne_eq] at hc6
                                  refine ccell 174 1 (.d (.vec 1 0 (intsF []))) rfl rfl (fun M ρ v h => h.nil_vec) ?_
                                  refine chval 174 (.cells 38 2 [SV.i (cOf bs 6).code, .d (.vec 1 (cOf bs 6).args.length (intsF (cOf bs 6).args))]) rfl (by rw [cOf_no2 (i := 6) (bs := bs) (by omega)]; rfl) ?_
                                  refine W_skip ?_
                                  refine tn ?_
                                  exact meet (()) [0, 1, 2, 3, 102, 174] trivial rfl ⟨rfl, rfl, rfl, rfl, rfl, trivial⟩ ⟨rfl, rfl, rfl, rfl, rfl, rfl, trivial⟩
                              · skip
                                try simp only [cs, ne_eq] at hg6_34
                                refine g0 4 true 34 35 6 rfl rfl rfl rfl rfl rfl ?_
                                refine g0 4 true 34 36 7 rfl rfl rfl rfl rfl rfl ?_
                                refine g0 4 true 34 37 8 rfl rfl rfl rfl rfl rfl ?_
                                refine g0 4 true 34 38 9 rfl rfl rfl rfl rfl rfl ?_
                                refine g0 4 true 34 39 10 rfl rfl rfl rfl rfl rfl ?_
                                refine g0 4 true 34 40 11 rfl rfl rfl rfl rfl rfl ?_
                                refine s1 41 278 12 rfl rfl rfl rfl rfl rfl trivial ?_
                                refine e1 286 rfl ?_
                                refine keep [0, 1, 5, 6, 7, 41] rfl ?_
                                refine q1 rfl (fun hc6 => ?_) (fun hc6 => ?_)
                                · skip
                                  exact absurd hc6 (by decide)
                                · skip
                                  try simp only [cs, ne_eq] at hc6
                                  refine ccell 174 1 (.d (.vec 1 0 (intsF []))) rfl rfl (fun M ρ v h => h.nil_vec) ?_
                                  refine chval 174 (.cells 38 2 [SV.i (cOf bs 6).code, .d (.vec 1 (cOf bs 6).args.length (intsF (cOf bs 6).args))]) rfl (by rw [cOf_no1 (i := 6) (bs := bs) (by omega)]; rfl) ?_
                                  refine W_skip ?_
                                  refine tn ?_
                                  exact meet (()) [0, 1, 2, 3, 102, 174] trivial rfl ⟨rfl, rfl, rfl, rfl, rfl, trivial⟩ ⟨rfl, rfl, rfl, rfl, rfl, rfl, trivial⟩
                            · skip
                              refine rd0 rfl ?_
                              refine d1 49 6 1 rfl rfl rfl rfl rfl rfl trivial ?_
                              refine d1 50 14 2 rfl rfl rfl rfl rfl rfl (by first | trivial | omega) ?_
                              refine d1 51 22 3 rfl rfl rfl rfl rfl rfl trivial ?_
                              refine dD 52 30 4 rfl rfl rfl rfl rfl rfl rfl rfl rfl (by omega) ?_
                              refine val 52 (SV.i 0) rfl rfl ?_
                              refine d1 53 38 5 rfl rfl rfl rfl rfl rfl trivial ?_
                              refine d1 54 46 6 rfl rfl rfl rfl rfl rfl (by first | trivial | omega) ?_
                              refine d1 55 54 7 rfl rfl rfl rfl rfl rfl trivial ?_
                              refine dD 56 62 8 rfl rfl rfl rfl rfl rfl rfl rfl rfl (by omega) ?_
                              refine val 56 (SV.i 0) rfl rfl ?_
                              refine d1 57 70 9 rfl rfl rfl rfl rfl rfl (by first | trivial | omega) ?_
                              refine d1 58 78 10 rfl rfl rfl rfl rfl rfl (by first | trivial | omega) ?_
                              refine d1 59 86 11 rfl rfl rfl rfl rfl rfl (by first | trivial | omega) ?_
                              refine d1 60 94 12 rfl rfl rfl rfl rfl rfl trivial ?_
                              refine d1 61 102 13 rfl rfl rfl rfl rfl rfl ⟨Nat.le_refl _, trivial, (by show ((([cOf bs 0, cOf bs 3] : List CallD)).length + 1) * 32 ≤ 140737488355328; simp), (by simp [maxLen])⟩ ?_
                              refine d1 62 110 14 rfl rfl rfl rfl rfl rfl (by first | trivial | omega) ?_
                              refine d0 118 15 rfl rfl rfl rfl rfl (by first | trivial | omega) ?_
                              refine de1 126 rfl (by kernel_rfl) ?_
                              refine bn ?_
                              refine tn ?_
                              refine rowsc (k := 2) (L := ([cOf bs 0, cOf bs 3] : List CallD).length + 1) 102 ([cOf bs 0, cOf bs 3, cOf bs 6] : List CallD).length (callF ([cOf bs 0, cOf bs 3, cOf bs 6] : List CallD)) rfl rfl (fun m c hm hc => call_snoc ([cOf bs 0, cOf bs 3] : List CallD) (cOf bs 6) _ rfl m c hm hc) ?_
                              refine chval 1 (.cells 39 1 [.sl 102 0 ([cOf bs 0, cOf bs 3, cOf bs 6] : List CallD).length, .sl 3 0 ([cOf bs 1, cOf bs 4] : List CallD).length, .sl 4 0 ([cOf bs 2, cOf bs 5] : List CallD).length]) rfl rfl ?_
                              refine r0 ?_
                              refine s1 27 126 1 rfl rfl rfl rfl rfl rfl trivial ?_
                              refine sA 28 134 2 rfl rfl rfl rfl rfl rfl rfl rfl rfl (by unfold inRange; omega) ?_
                              refine val 28 (SV.i 7) rfl rfl ?_
                              refine s1 6 142 3 rfl rfl rfl rfl rfl rfl trivial ?_
                              refine e1 150 rfl ?_
                              refine tn ?_
                              refine unr ?_
                              refine W_seq ?_
                              refine r1 ?_
                              refine s1 25 150 1 rfl rfl rfl rfl rfl rfl trivial ?_
                              refine s1 26 158 2 rfl rfl rfl rfl rfl rfl (by first | trivial | omega) ?_
                              refine e1 166 rfl ?_
                              refine keep [0, 1, 5, 6, 26] rfl ?_
                              refine q1 rfl (fun hc3 => ?_) (fun hc3 => ?_)
                              · skip
                                try simp only [cs, ne_eq] at hc3
                                refine W_skip ?_
                                refine tn ?_
                                refine W_seq ?_
                                refine W_block ?_
                                refine r1 ?_
                                refine s1 29 166 1 rfl rfl rfl rfl rfl rfl trivial ?_
                                refine s1 7 174 2 rfl rfl rfl rfl rfl rfl trivial ?_
                                refine s0 182 3 rfl rfl rfl rfl rfl (by first | trivial | omega) ?_
                                refine e1 190 rfl ?_
                                refine keep [0, 1, 5, 6, 7] rfl ?_
                                refine cut (α := Unit) 6 (fun _u => [(0, intsV bs), (1, u8V l), (5, .ptr 0 0 0), (6, SV.i 7), (7, .ptr 5 0 0)]) (fun _u => [some (.cells 28 3 [.d (.vec 1 1 (intsF [0])), .d (.vec 1 2 (codR [caddL, cgetL])), .sl 1 0 3]), some (.cells 39 1 [.sl 2 0 ([cOf bs 0, cOf bs 3, cOf bs 6] : List CallD).length, .sl 3 0 ([cOf bs 1, cOf bs 4] : List CallD).length, .sl 4 0 ([cOf bs 2, cOf bs 5] : List CallD).length]), some (.rows 38 2 (([cOf bs 0, cOf bs 3, cOf bs 6] : List CallD)).length (callF (([cOf bs 0, cOf bs 3, cOf bs 6] : List CallD)))), some (.rows 38 2 (([cOf bs 1, cOf bs 4] : List CallD)).length (callF (([cOf bs 1, cOf bs 4] : List CallD)))), some (.rows 38 2 (([cOf bs 2, cOf bs 5] : List CallD)).length (callF (([cOf bs 2, cOf bs 5] : List CallD)))), some (.cells 38 2 [SV.i (cOf bs 7).code, .d (.vec 1 (cOf bs 7).args.length (intsF (cOf bs 7).args))])]) (fun _u => True) (fun _ => rfl) ?_ (fun _u hz => ?_)
                                · skip
                                  refine r1 ?_
                                  refine s1 30 190 1 rfl rfl rfl rfl rfl rfl trivial ?_
                                  refine s1 31 198 2 rfl rfl rfl rfl rfl rfl trivial ?_
                                  refine s1 32 206 3 rfl rfl rfl rfl rfl rfl (by first | trivial | omega) ?_
                                  refine s1 33 214 4 rfl rfl rfl rfl rfl rfl (by first | trivial | omega) ?_
                                  refine s1 34 222 5 rfl rfl rfl rfl rfl rfl trivial ?_
                                  refine ask 34 rfl (fun hg6_34 => ?_) (fun hg6_34 => ?_)
                                  · skip
                                    try simp only [cs, ne_eq] at hg6_34
                                    refine g1 4 true 34 35 6 rfl rfl rfl rfl rfl ?_
                                    refine s1 35 230 6 rfl rfl rfl rfl rfl rfl trivial ?_
                                    refine g1 4 true 34 36 7 rfl rfl rfl rfl rfl ?_
                                    refine s1 36 238 7 rfl rfl rfl rfl rfl rfl trivial ?_
                                    refine g1 4 true 34 37 8 rfl rfl rfl rfl rfl ?_
                                    refine s1 37 246 8 rfl rfl rfl rfl rfl rfl (by first | trivial | omega) ?_
                                    refine g1 4 true 34 38 9 rfl rfl rfl rfl rfl ?_
                                    refine s1 38 254 9 rfl rfl rfl rfl rfl rfl (by first | trivial | omega) ?_
                                    refine val 38 (SV.i (bs.getD 7 0)) rfl rfl ?_
                                    refine g1 4 true 34 39 10 rfl rfl rfl rfl rfl ?_
                                    refine c1 (picked_any (bs.getD 7 0) 3 (by decide)) [] [] 39 262 10 rfl rfl rfl rfl rfl rfl rfl rfl Tryd.func7 rfl rfl rfl rfl trivial rfl rfl ?_
                                    refine g1 4 true 34 40 11 rfl rfl rfl rfl rfl ?_
                                    refine s1 40 270 11 rfl rfl rfl rfl rfl rfl (by first | trivial | omega) ?_
                                    refine s1 41 278 12 rfl rfl rfl rfl rfl rfl trivial ?_
                                    refine e1 286 rfl ?_
                                    refine keep [0, 1, 5, 6, 7, 41] rfl ?_
                                    refine q1 rfl (fun hc6 => ?_) (fun hc6 => ?_)
                                    · skip
                                      try simp only [cs, ne_eq] at hc6
                                      refine r0n ?_
                                      refine s1 42 286 1 rfl rfl rfl rfl rfl rfl trivial ?_
                                      refine s1 43 294 2 rfl rfl rfl rfl rfl rfl trivial ?_
                                      refine s1 44 302 3 rfl rfl rfl rfl rfl rfl (by first | trivial | omega) ?_
                                      refine s1 45 310 4 rfl rfl rfl rfl rfl rfl (by first | trivial | omega) ?_
                                      refine val 45 (SV.i (bs.getD 7 0)) rfl rfl ?_
                                      refine c1 (picked_any (bs.getD 7 0) 3 (by decide)) [] [] 46 318 5 rfl rfl rfl rfl rfl rfl rfl rfl Tryd.func7 rfl rfl rfl rfl trivial rfl rfl ?_
                                      refine sLit 1 (intsF [pickI (bs.getD 7 0) 3]) 47 326 6 rfl rfl rfl rfl rfl rfl rfl rfl rfl (by intro i c hi hc; obtain rfl : i = 0 := (by omega); obtain rfl : c = 0 := (by omega); rfl) ?_
                                      refine s1 48 334 7 rfl rfl rfl rfl rfl rfl trivial ?_
                                      refine s0 342 8 rfl rfl rfl rfl rfl (by first | trivial | omega) ?_
                                      refine e1 350 rfl ?_
                                      refine chvaln 174 (.cells 38 2 [SV.i (cOf bs 7).code, .d (.vec 1 (cOf bs 7).args.length (intsF (cOf bs 7).args))]) rfl (by rw [cOf_yes (i := 7) (bs := bs) (by omega) hc6]; rfl) ?_
                                      refine wn ?_
                                      refine tn ?_
                                      exact meet (()) [0, 1, 102, 3, 4, 174] trivial rfl ⟨rfl, rfl, rfl, rfl, rfl, trivial⟩ ⟨rfl, rfl, rfl, rfl, rfl, rfl, trivial⟩
                                    · skip
                                      try simp only [cs, ne_eq] at hc6
                                      refine ccell 174 1 (.d (.vec 1 0 (intsF []))) rfl rfl (fun M ρ v h => h.nil_vec) ?_
                                      refine chval 174 (.cells 38 2 [SV.i (cOf bs 7).code, .d (.vec 1 (cOf bs 7).args.length (intsF (cOf bs 7).args))]) rfl (by rw [cOf_no2 (i := 7) (bs := bs) (by omega)]; rfl) ?_
                                      refine W_skip ?_
                                      refine tn ?_
                                      exact meet (()) [0, 1, 102, 3, 4, 174] trivial rfl ⟨rfl, rfl, rfl, rfl, rfl, trivial⟩ ⟨rfl, rfl, rfl, rfl, rfl, rfl, trivial⟩
                                  · skip
                                    try simp only [cs, ne_eq] at hg6_34
                                    refine g0 4 true 34 35 6 rfl rfl rfl rfl rfl rfl ?_
                                    refine g0 4 true 34 36 7 rfl rfl rfl rfl rfl rfl ?_
                                    refine g0 4 true 34 37 8 rfl rfl rfl rfl rfl rfl ?_
                                    refine g0 4 true 34 38 9 rfl rfl rfl rfl rfl rfl ?_
                                    refine g0 4 true 34 39 10 rfl rfl rfl rfl rfl rfl ?_
                                    refine g0 4 true 34 40 11 rfl rfl rfl rfl rfl rfl ?_
                                    refine s1 41 278 12 rfl rfl rfl rfl rfl rfl trivial ?_
                                    refine e1 286 rfl ?_
                                    refine keep [0, 1, 5, 6, 7, 41] rfl ?_
                                    refine q1 rfl (fun hc6 => ?_) (fun hc6 => ?_)
                                    · skip
                                      exact absurd hc6 (by decide)
                                    · skip
                                      try simp only [cs, ne_eq] at hc6
                                      refine ccell 174 1 (.d (.vec 1 0 (intsF []))) rfl rfl (fun M ρ v h => h.nil_vec) ?_
                                      refine chval 174 (.cells 38 2 [SV.i (cOf bs 7).code, .d (.vec 1 (cOf bs 7).args.length (intsF (cOf bs 7).args))]) rfl (by rw [cOf_no1 (i := 7) (bs := bs) (by omega)]; rfl) ?_
                                      refine W_skip ?_
                                      refine tn ?_
                                      exact meet (()) [0, 1, 102, 3, 4, 174] trivial rfl ⟨rfl, rfl, rfl, rfl, rfl, trivial⟩ ⟨rfl, rfl, rfl, rfl, rfl, rfl, trivial⟩
                                · skip
                                  refine rd0 rfl ?_
                                  refine d1 49 6 1 rfl rfl rfl rfl rfl rfl trivial ?_
                                  refine d1 50 14 2 rfl rfl rfl rfl rfl rfl (by first | trivial | omega) ?_
                                  refine d1 51 22 3 rfl rfl rfl rfl rfl rfl trivial ?_
                                  refine dD 52 30 4 rfl rfl rfl rfl rfl rfl rfl rfl rfl (by omega) ?_
                                  refine val 52 (SV.i 1) rfl rfl ?_
                                  refine d1 53 38 5 rfl rfl rfl rfl rfl rfl trivial ?_
                                  refine d1 54 46 6 rfl rfl rfl rfl rfl rfl (by first | trivial | omega) ?_
                                  refine d1 55 54 7 rfl rfl rfl rfl rfl rfl trivial ?_
                                  refine dD 56 62 8 rfl rfl rfl rfl rfl rfl rfl rfl rfl (by omega) ?_
                                  refine val 56 (SV.i 1) rfl rfl ?_
                                  refine d1 57 70 9 rfl rfl rfl rfl rfl rfl (by first | trivial | omega) ?_
                                  refine d1 58 78 10 rfl rfl rfl rfl rfl rfl (by first | trivial | omega) ?_
                                  refine d1 59 86 11 rfl rfl rfl rfl rfl rfl (by first | trivial | omega) ?_
                                  refine d1 60 94 12 rfl rfl rfl rfl rfl rfl trivial ?_
                                  refine d1 61 102 13 rfl rfl rfl rfl rfl rfl ⟨Nat.le_refl _, trivial, (by show ((([cOf bs 1, cOf bs 4] : List CallD)).length + 1) * 32 ≤ 140737488355328; simp), (by simp [maxLen])⟩ ?_
                                  refine d1 62 110 14 rfl rfl rfl rfl rfl rfl (by first | trivial | omega) ?_
                                  refine d0 118 15 rfl rfl rfl rfl rfl (by first | trivial | omega) ?_
                                  refine de1 126 rfl (by kernel_rfl) ?_
                                  refine bn ?_
                                  refine tn ?_
                                  refine rowsc (k := 2) (L := ([cOf bs 1, cOf bs 4] : List CallD).length + 1) 102 ([cOf bs 1, cOf bs 4, cOf bs 7] : List CallD).length (callF ([cOf bs 1, cOf bs 4, cOf bs 7] : List CallD)) rfl rfl (fun m c hm hc => call_snoc ([cOf bs 1, cOf bs 4] : List CallD) (cOf bs 7) _ rfl m c hm hc) ?_
                                  refine chval 1 (.cells 39 1 [.sl 2 0 ([cOf bs 0, cOf bs 3, cOf bs 6] : List CallD).length, .sl 102 0 ([cOf bs 1, cOf bs 4, cOf bs 7] : List CallD).length, .sl 4 0 ([cOf bs 2, cOf bs 5] : List CallD).length]) rfl rfl ?_
                                  refine r0 ?_
                                  refine s1 27 126 1 rfl rfl rfl rfl rfl rfl trivial ?_
                                  refine sA 28 134 2 rfl rfl rfl rfl rfl rfl rfl rfl rfl (by unfold inRange; omega) ?_
                                  refine val 28 (SV.i 8) rfl rfl ?_
                                  refine s1 6 142 3 rfl rfl rfl rfl rfl rfl trivial ?_
                                  refine e1 150 rfl ?_
                                  refine tn ?_
                                  refine unr ?_
                                  refine W_seq ?_
                                  refine r1 ?_
                                  refine s1 25 150 1 rfl rfl rfl rfl rfl rfl trivial ?_
                                  refine s1 26 158 2 rfl rfl rfl rfl rfl rfl (by first | trivial | omega) ?_
                                  refine e1 166 rfl ?_
                                  refine keep [0, 1, 5, 6, 26] rfl ?_
                                  refine q1 rfl (fun hc3 => ?_) (fun hc3 => ?_)
                                  · skip
                                    try simp only [cs, ne_eq] at hc3
                                    refine W_skip ?_
                                    refine tn ?_
                                    refine W_seq ?_
                                    refine W_block ?_
                                    refine r1 ?_
                                    refine s1 29 166 1 rfl rfl rfl rfl rfl rfl trivial ?_
                                    refine s1 7 174 2 rfl rfl rfl rfl rfl rfl trivial ?_
                                    refine s0 182 3 rfl rfl rfl rfl rfl (by first | trivial | omega) ?_
                                    refine e1 190 rfl ?_
                                    refine keep [0, 1, 5, 6, 7] rfl ?_
                                    refine cut (α := Unit) 6 (fun _u => [(0, intsV bs), (1, u8V l), (5, .ptr 0 0 0), (6, SV.i 8), (7, .ptr 5 0 0)]) (fun _u => [some (.cells 28 3 [.d (.vec 1 1 (intsF [0])), .d (.vec 1 2 (codR [caddL, cgetL])), .sl 1 0 3]), some (.cells 39 1 [.sl 2 0 ([cOf bs 0, cOf bs 3, cOf bs 6] : List CallD).length, .sl 3 0 ([cOf bs 1, cOf bs 4, cOf bs 7] : List CallD).length, .sl 4 0 ([cOf bs 2, cOf bs 5] : List CallD).length]), some (.rows 38 2 (([cOf bs 0, cOf bs 3, cOf bs 6] : List CallD)).length (callF (([cOf bs 0, cOf bs 3, cOf bs 6] : List CallD)))), some (.rows 38 2 (([cOf bs 1, cOf bs 4, cOf bs 7] : List CallD)).length (callF (([cOf bs 1, cOf bs 4, cOf bs 7] : List CallD)))), some (.rows 38 2 (([cOf bs 2, cOf bs 5] : List CallD)).length (callF (([cOf bs 2, cOf bs 5] : List CallD)))), some (.cells 38 2 [SV.i (cOf bs 8).code, .d (.vec 1 (cOf bs 8).args.length (intsF (cOf bs 8).args))])]) (fun _u => True) (fun _ => rfl) ?_ (fun _u hz => ?_)
                                    · skip
                                      refine r1 ?_
                                      refine s1 30 190 1 rfl rfl rfl rfl rfl rfl trivial ?_
                                      refine s1 31 198 2 rfl rfl rfl rfl rfl rfl trivial ?_
                                      refine s1 32 206 3 rfl rfl rfl rfl rfl rfl (by first | trivial | omega) ?_
                                      refine s1 33 214 4 rfl rfl rfl rfl rfl rfl (by first | trivial | omega) ?_
                                      refine s1 34 222 5 rfl rfl rfl rfl rfl rfl trivial ?_
                                      refine ask 34 rfl (fun hg6_34 => ?_) (fun hg6_34 => ?_)
                                      · skip
                                        try simp only [cs, ne_eq] at hg6_34
                                        refine g1 4 true 34 35 6 rfl rfl rfl rfl rfl ?_
                                        refine s1 35 230 6 rfl rfl rfl rfl rfl rfl trivial ?_
                                        refine g1 4 true 34 36 7 rfl rfl rfl rfl rfl ?_
                                        refine s1 36 238 7 rfl rfl rfl rfl rfl rfl trivial ?_
                                        refine g1 4 true 34 37 8 rfl rfl rfl rfl rfl ?_
                                        refine s1 37 246 8 rfl rfl rfl rfl rfl rfl (by first | trivial | omega) ?_
                                        refine g1 4 true 34 38 9 rfl rfl rfl rfl rfl ?_
                                        refine s1 38 254 9 rfl rfl rfl rfl rfl rfl (by first | trivial | omega) ?_
                                        refine val 38 (SV.i (bs.getD 8 0)) rfl rfl ?_
                                        refine g1 4 true 34 39 10 rfl rfl rfl rfl rfl ?_
                                        refine c1 (picked_any (bs.getD 8 0) 3 (by decide)) [] [] 39 262 10 rfl rfl rfl rfl rfl rfl rfl rfl Tryd.func7 rfl rfl rfl rfl trivial rfl rfl ?_
                                        refine g1 4 true 34 40 11 rfl rfl rfl rfl rfl ?_
                                        refine s1 40 270 11 rfl rfl rfl rfl rfl rfl (by first | trivial | omega) ?_
                                        refine s1 41 278 12 rfl rfl rfl rfl rfl rfl trivial ?_
                                        refine e1 286 rfl ?_
                                        refine keep [0, 1, 5, 6, 7, 41] rfl ?_
                                        refine q1 rfl (fun hc6 => ?_) (fun hc6 => ?_)
                                        · skip
                                          try simp only [cs, ne_eq] at hc6
                                          refine r0n ?_
                                          refine s1 42 286 1 rfl rfl rfl rfl rfl rfl trivial ?_
                                          refine s1 43 294 2 rfl rfl rfl rfl rfl rfl trivial ?_
                                          refine s1 44 302 3 rfl rfl rfl rfl rfl rfl (by first | trivial | omega) ?_
                                          refine s1 45 310 4 rfl rfl rfl rfl rfl rfl (by first | trivial | omega) ?_
                                          refine val 45 (SV.i (bs.getD 8 0)) rfl rfl ?_
                                          refine c1 (picked_any (bs.getD 8 0) 3 (by decide)) [] [] 46 318 5 rfl rfl rfl rfl rfl rfl rfl rfl Tryd.func7 rfl rfl rfl rfl trivial rfl rfl ?_
                                          refine sLit 1 (intsF [pickI (bs.getD 8 0) 3]) 47 326 6 rfl rfl rfl rfl rfl rfl rfl rfl rfl (by intro i c hi hc; obtain rfl : i = 0 := (by omega); obtain rfl : c = 0 := (by omega); rfl) ?_
                                          refine s1 48 334 7 rfl rfl rfl rfl rfl rfl trivial ?_
                                          refine s0 342 8 rfl rfl rfl rfl rfl (by first | trivial | omega) ?_
                                          refine e1 350 rfl ?_
                                          refine chvaln 174 (.cells 38 2 [SV.i (cOf bs 8).code, .d (.vec 1 (cOf bs 8).args.length (intsF (cOf bs 8).args))]) rfl (by rw [cOf_yes (i := 8) (bs := bs) (by omega) hc6]; rfl) ?_
                                          refine wn ?_
                                          refine tn ?_
                                          exact meet (()) [0, 1, 2, 102, 4, 174] trivial rfl ⟨rfl, rfl, rfl, rfl, rfl, trivial⟩ ⟨rfl, rfl, rfl, rfl, rfl, rfl, trivial⟩
                                        · skip
                                          try simp only [cs, ne_eq] at hc6
                                          refine ccell 174 1 (.d (.vec 1 0 (intsF []))) rfl rfl (fun M ρ v h => h.nil_vec) ?_
                                          refine chval 174 (.cells 38 2 [SV.i (cOf bs 8).code, .d (.vec 1 (cOf bs 8).args.length (intsF (cOf bs 8).args))]) rfl (by rw [cOf_no2 (i := 8) (bs := bs) (by omega)]; rfl) ?_
                                          refine W_skip ?_
                                          refine tn ?_
                                          exact meet (()) [0, 1, 2, 102, 4, 174] trivial rfl ⟨rfl, rfl, rfl, rfl, rfl, trivial⟩ ⟨rfl, rfl, rfl, rfl, rfl, rfl, trivial⟩
                                      · skip
                                        try simp only [cs, ne_eq] at hg6_34
                                        refine g0 4 true 34 35 6 rfl rfl rfl rfl rfl rfl ?_
                                        refine g0 4 true 34 36 7 rfl rfl rfl rfl rfl rfl ?_
                                        refine g0 4 true 34 37 8 rfl rfl rfl rfl rfl rfl ?_
                                        refine g0 4 true 34 38 9 rfl rfl rfl rfl rfl rfl ?_
                                        refine g0 4 true 34 39 10 rfl rfl rfl rfl rfl rfl ?_
                                        refine g0 4 true 34 40 11 rfl rfl rfl rfl rfl rfl ?_
                                        refine s1 41 278 12 rfl rfl rfl rfl rfl rfl trivial ?_
                                        refine e1 286 rfl ?_
                                        refine keep [0, 1, 5, 6, 7, 41] rfl ?_
                                        refine q1 rfl (fun hc6 => ?_) (fun hc6 => ?_)
                                        · skip
                                          exact absurd hc6 (by decide)
                                        · skip
                                          try simp only [cs, ne_eq] at hc6
                                          refine ccell 174 1 (.d (.vec 1 0 (intsF []))) rfl rfl (fun M ρ v h => h.nil_vec) ?_
                                          refine chval 174 (.cells 38 2 [SV.i (cOf bs 8).code, .d (.vec 1 (cOf bs 8).args.length (intsF (cOf bs 8).args))]) rfl (by rw [cOf_no1 (i := 8) (bs := bs) (by omega)]; rfl) ?_
                                          refine W_skip ?_
                                          refine tn ?_
                                          exact meet (()) [0, 1, 2, 102, 4, 174] trivial rfl ⟨rfl, rfl, rfl, rfl, rfl, trivial⟩ ⟨rfl, rfl, rfl, rfl, rfl, rfl, trivial⟩
                                    · skip
                                      refine rd0 rfl ?_
                                      refine d1 49 6 1 rfl rfl rfl rfl rfl rfl trivial ?_
                                      refine d1 50 14 2 rfl rfl rfl rfl rfl rfl (by first | trivial | omega) ?_
                                      refine d1 51 22 3 rfl rfl rfl rfl rfl rfl trivial ?_
                                      refine dD 52 30 4 rfl rfl rfl rfl rfl rfl rfl rfl rfl (by omega) ?_
                                      refine val 52 (SV.i 2) rfl rfl ?_
                                      refine d1 53 38 5 rfl rfl rfl rfl rfl rfl trivial ?_
                                      refine d1 54 46 6 rfl rfl rfl rfl rfl rfl (by first | trivial | omega) ?_
                                      refine d1 55 54 7 rfl rfl rfl rfl rfl rfl trivial ?_
                                      refine dD 56 62 8 rfl rfl rfl rfl rfl rfl rfl rfl rfl (by omega) ?_
                                      refine val 56 (SV.i 2) rfl rfl ?_
                                      refine d1 57 70 9 rfl rfl rfl rfl rfl rfl (by first | trivial | omega) ?_
                                      refine d1 58 78 10 rfl rfl rfl rfl rfl rfl (by first | trivial | omega) ?_
                                      refine d1 59 86 11 rfl rfl rfl rfl rfl rfl (by first | trivial | omega) ?_
                                      refine d1 60 94 12 rfl rfl rfl rfl rfl rfl trivial ?_
                                      refine d1 61 102 13 rfl rfl rfl rfl rfl rfl ⟨Nat.le_refl _, trivial, (by show ((([cOf bs 2, cOf bs 5] : List CallD)).length + 1) * 32 ≤ 140737488355328; simp), (by simp [maxLen])⟩ ?_
                                      refine d1 62 110 14 rfl rfl rfl rfl rfl rfl (by first | trivial | omega) ?_
                                      refine d0 118 15 rfl rfl rfl rfl rfl (by first | trivial | omega) ?_
                                      refine de1 126 rfl (by kernel_rfl) ?_
                                      refine bn ?_
                                      refine tn ?_
                                      refine rowsc (k := 2) (L := ([cOf bs 2, cOf bs 5] : List CallD).length + 1) 102 ([cOf bs 2, cOf bs 5, cOf bs 8] : List CallD).length (callF ([cOf bs 2, cOf bs 5, cOf bs 8] : List CallD)) rfl rfl (fun m c hm hc => call_snoc ([cOf bs 2, cOf bs 5] : List CallD) (cOf bs 8) _ rfl m c hm hc) ?_
                                      refine chval 1 (.cells 39 1 [.sl 2 0 ([cOf bs 0, cOf bs 3, cOf bs 6] : List CallD).length, .sl 3 0 ([cOf bs 1, cOf bs 4, cOf bs 7] : List CallD).length, .sl 102 0 ([cOf bs 2, cOf bs 5, cOf bs 8] : List CallD).length]) rfl rfl ?_
                                      refine r0 ?_
                                      refine s1 27 126 1 rfl rfl rfl rfl rfl rfl trivial ?_
                                      refine sA 28 134 2 rfl rfl rfl rfl rfl rfl rfl rfl rfl (by unfold inRange; omega) ?_
                                      refine val 28 (SV.i 9) rfl rfl ?_
                                      refine s1 6 142 3 rfl rfl rfl rfl rfl rfl trivial ?_
                                      refine e1 150 rfl ?_
                                      refine tn ?_
                                      refine unr ?_
                                      refine W_seq ?_
                                      refine r1 ?_
                                      refine s1 25 150 1 rfl rfl rfl rfl rfl rfl trivial ?_
                                      refine s1 26 158 2 rfl rfl rfl rfl rfl rfl (by first | trivial | omega) ?_
                                      refine e1 166 rfl ?_
                                      refine keep [0, 1, 5, 6, 26] rfl ?_
                                      refine q1 rfl (fun hc3 => ?_) (fun hc3 => ?_)
                                      · skip
                                        exact absurd hc3 (by decide)
                                      · skip
                                        try simp only [cs, ne_eq] at hc3
                                        refine W_exit ?_
                                        refine tx ?_
                                        refine tx ?_
                                        refine bx ?_
                                        refine tn ?_
                                        refine cfreeze 1 0 2 ([cOf bs 0, cOf bs 3, cOf bs 6] : List CallD).length rfl rfl rfl (Nat.le_refl _) rfl ?_
                                        refine cfreeze 1 1 3 ([cOf bs 1, cOf bs 4, cOf bs 7] : List CallD).length rfl rfl rfl (Nat.le_refl _) rfl ?_
                                        refine cfreeze 1 2 102 ([cOf bs 2, cOf bs 5, cOf bs 8] : List CallD).length rfl rfl rfl (Nat.le_refl _) rfl ?_
                                        refine torows (k := 1) 1 3 (thrR [([cOf bs 0, cOf bs 3, cOf bs 6] : List CallD), ([cOf bs 1, cOf bs 4, cOf bs 7] : List CallD), ([cOf bs 2, cOf bs 5, cOf bs 8] : List CallD)]) rfl (by decide) (Nat.le_refl _) (thr_cells ([cOf bs 0, cOf bs 3, cOf bs 6] : List CallD) ([cOf bs 1, cOf bs 4, cOf bs 7] : List CallD) ([cOf bs 2, cOf bs 5, cOf bs 8] : List CallD)) ?_
                                        refine cfreeze 0 2 1 3 rfl rfl rfl (Nat.le_refl _) rfl ?_
                                        refine chval 0 (machBlk (tQ bs)) rfl rfl ?_
                                        refine r1 ?_
                                        refine s1 63 166 1 rfl rfl rfl rfl rfl rfl trivial ?_
                                        refine c1 (schedule_any l hl 3 (by decide) 400 (by decide)) [] [] 64 174 2 rfl rfl rfl rfl rfl rfl rfl rfl Tryd.func13 rfl rfl rfl rfl trivial rfl rfl ?_
                                        refine s1 8 182 3 rfl rfl rfl rfl rfl rfl trivial ?_
                                        refine e1 190 rfl ?_
                                        refine keep [5, 8] rfl ?_
                                        refine r1 ?_
                                        refine s1 66 190 1 rfl rfl rfl rfl rfl rfl (by first | trivial | omega) ?_
                                        refine s1 67 198 2 rfl rfl rfl rfl rfl rfl trivial ?_
                                        refine c1 (history_any (tQ bs) (cq_ok _) rfl (cq_20 _) (schedL l 3 400) (by omega) R hR hcr.e hcr.ev putC 18 Tryd.f18 Tryd.func18 rfl (fun j n told _ _ _ _ ht => putC_any _ told true ht) (fun j n _ _ _ _ => putC_nil _) hcr.ok (fun c => rfl)) [] [206] 68 206 3 rfl rfl rfl rfl rfl rfl rfl rfl Tryd.func17 rfl rfl rfl rfl trivial rfl rfl ?_
                                        refine s1 65 214 4 rfl rfl rfl rfl rfl rfl trivial ?_
                                        refine s1 69 222 5 rfl rfl rfl rfl rfl rfl trivial ?_
                                        refine s1 70 230 6 rfl rfl rfl rfl rfl rfl trivial ?_
                                        refine s1 9 238 7 rfl rfl rfl rfl rfl rfl trivial ?_
                                        refine s1 10 246 8 rfl rfl rfl rfl rfl rfl trivial ?_
                                        refine e1 254 rfl ?_
                                        refine keep [5, 8, 9, 10] rfl ?_
                                        refine W_seq ?_
                                        refine r1 ?_
                                        refine s1 71 254 1 rfl rfl rfl rfl rfl rfl trivial ?_
                                        refine s1 72 262 2 rfl rfl rfl rfl rfl rfl trivial ?_
                                        refine s1 73 270 3 rfl rfl rfl rfl rfl rfl trivial ?_
                                        refine ask 73 rfl (fun hg11_73 => ?_) (fun hg11_73 => ?_)
                                        · skip
                                          try simp only [cs, ne_eq] at hg11_73
                                          exact absurd hg11_73 (by decide)
                                        · skip
                                          try simp only [cs, ne_eq] at hg11_73
                                          refine g1 2 false 73 74 4 rfl rfl rfl rfl rfl ?_
                                          refine c1 (sure_any) [] [] 74 278 4 rfl rfl rfl rfl rfl rfl rfl rfl Tryd.func19 rfl rfl rfl rfl trivial rfl rfl ?_
                                          refine g1 2 false 73 75 5 rfl rfl rfl rfl rfl ?_
                                          refine s1 75 286 5 rfl rfl rfl rfl rfl rfl trivial ?_
                                          refine s1 76 294 6 rfl rfl rfl rfl rfl rfl trivial ?_
                                          refine e1 302 rfl ?_
                                          refine keep [5, 8, 9, 76] rfl ?_
                                          refine q1 rfl (fun hc11 => ?_) (fun hc11 => ?_)
                                          · skip
                                            exact absurd hc11 (by decide)
                                          · skip
                                            try simp only [cs, ne_eq] at hc11
                                            refine W_skip ?_
                                            refine tn ?_
                                            refine rd1 rfl ?_
                                            refine d1 78 302 1 rfl rfl rfl rfl rfl rfl (by first | trivial | omega) ?_
                                            refine d1 79 310 2 rfl rfl rfl rfl rfl rfl trivial ?_
                                            refine d1 80 318 3 rfl rfl rfl rfl rfl rfl ⟨trivial, (by show (schedL l 3 400).length * 8 ≤ 140737488355328; omega), (by simp only [maxLen]; omega)⟩ ?_
                                            refine dc1 (play_own3 (tQ bs) (cq_ok _) rfl (schedL l 3 400) (by omega) R hR) [318] [318] 81 326 4 rfl rfl rfl rfl rfl rfl rfl rfl Tryd.func20 rfl rfl rfl rfl ⟨rfl, trivial⟩ rfl rfl ?_
                                            refine d1 77 334 5 rfl rfl rfl rfl rfl rfl trivial ?_
                                            refine d1 82 342 6 rfl rfl rfl rfl rfl rfl trivial ?_
                                            refine d1 83 350 7 rfl rfl rfl rfl rfl rfl trivial ?_
                                            refine d1 84 358 8 rfl rfl rfl rfl rfl rfl trivial ?_
                                            refine d1 11 366 9 rfl rfl rfl rfl rfl rfl trivial ?_
                                            refine d1 12 374 10 rfl rfl rfl rfl rfl rfl trivial ?_
                                            refine d1 13 382 11 rfl rfl rfl rfl rfl rfl trivial ?_
                                            refine de1 390 rfl (by kernel_rfl) ?_
                                            refine keep [5, 9, 11, 13] rfl ?_
                                            refine r1 ?_
                                            refine s1 14 390 1 rfl rfl rfl rfl rfl rfl trivial ?_
                                            refine e1 398 rfl ?_
                                            refine keep [5, 9, 11, 13, 14] rfl ?_
                                            refine W_seq ?_
                                            refine r1 ?_
                                            refine s1 15 398 1 rfl rfl rfl rfl rfl rfl trivial ?_
                                            refine e1 406 rfl ?_
                                            refine keep [5, 9, 11, 13, 14, 15] rfl ?_
                                            refine W_block ?_
                                            refine rowsc (k := 5) 206 (opsTo R R.out.length).length (byU (tQ bs) (opsTo R R.out.length) 0) rfl (by unfold hist; simp) (fun m c hm hc => byU_0 (tQ bs) _ m c (by simpa [hist] using hm)) ?_
                                            refine cval 9 (.sl 206 0 (opsTo R R.out.length).length) rfl (by unfold hist; simp) ?_
                                            refine loop (α := Nat) 2 (fun i => [(5, .ptr 0 0 0), (9, .sl 1 0 (opsTo R R.out.length).length), (11, evV R.out), (13, SV.i R.e), (14, SV.i (opsTo R (i)).length), (15, SV.i (i))]) (fun i => [some (machBlk (tQ bs)), some (.rows 52 5 (opsTo R R.out.length).length (byU (tQ bs) (opsTo R R.out.length) (opsTo R (i)).length))]) (fun i => (i) ≤ R.out.length) (fun i => R.out.length - (i)) (((0) : Nat)) [0, 206] (fun _ => rfl) (show (0) ≤ R.out.length from (by omega)) rfl ⟨rfl, rfl, rfl, rfl, rfl, rfl, trivial⟩ ⟨rfl, rfl, trivial⟩ (fun i hx => ?_)
                                            show W _ _ _ ⟨tOf [(5, .ptr 0 0 0), (9, .sl 1 0 (opsTo R R.out.length).length), (11, evV R.out), (13, SV.i R.e), (14, SV.i (opsTo R i).length), (15, SV.i i)], hOf [some (machBlk (tQ bs)), some (.rows 52 5 (opsTo R R.out.length).length (byU (tQ bs) (opsTo R R.out.length) (opsTo R i).length))], 2⟩
                                            have hx : i ≤ R.out.length := hx
                                            refine W_seq ?_
                                            refine r1 ?_
                                            refine s1 85 2 1 rfl rfl rfl rfl rfl rfl trivial ?_
                                            refine s1 86 10 2 rfl rfl rfl rfl rfl rfl trivial ?_
                                            refine s1 87 18 3 rfl rfl rfl rfl rfl rfl (by first | trivial | omega) ?_
                                            refine s1 88 26 4 rfl rfl rfl rfl rfl rfl (by first | trivial | omega) ?_
                                            refine e1 34 rfl ?_
                                            refine keep [5, 9, 11, 13, 14, 15, 88] rfl ?_
                                            refine q1 rfl (fun hc16 => ?_) (fun hc16 => ?_)
                                            · skip
                                              try simp only [cs, ne_eq] at hc16
                                              have hi16 : i < R.out.length := by omega
                                              have hxe := hcr.ev _ (ev_mem hi16)
                                              obtain ⟨v1, v2, v3, v4, v5, v6⟩ := hxe
                                              refine W_skip ?_
                                              refine tn ?_
                                              refine W_seq ?_
                                              refine W_block ?_
                                              refine r1 ?_
                                              refine s1 91 34 1 rfl rfl rfl rfl rfl rfl trivial ?_
                                              refine s1 92 42 2 rfl rfl rfl rfl rfl rfl trivial ?_
                                              refine s1 93 50 3 rfl rfl rfl rfl rfl rfl (by first | trivial | omega) ?_
                                              refine s1 94 58 4 rfl rfl rfl rfl rfl rfl trivial ?_
                                              refine s1 95 66 5 rfl rfl rfl rfl rfl rfl (by first | trivial | omega) ?_
                                              refine val 95 (SV.b (R.out.getD i default).fin) rfl (by simp only [Int.toNat_natCast, Nat.zero_add]) ?_
                                              refine s1 96 74 6 rfl rfl rfl rfl rfl rfl trivial ?_
                                              refine s1 97 82 7 rfl rfl rfl rfl rfl rfl trivial ?_
                                              refine ask 97 rfl (fun hg18_97 => ?_) (fun hg18_97 => ?_)
                                              · skip
                                                try simp only [cs, ne_eq] at hg18_97
                                                refine g1 6 true 97 98 8 rfl rfl rfl rfl rfl ?_
                                                refine s1 98 90 8 rfl rfl rfl rfl rfl rfl trivial ?_
                                                refine g1 6 true 97 99 9 rfl rfl rfl rfl rfl ?_
                                                refine s1 99 98 9 rfl rfl rfl rfl rfl rfl trivial ?_
                                                refine g1 6 true 97 100 10 rfl rfl rfl rfl rfl ?_
                                                refine s1 100 106 10 rfl rfl rfl rfl rfl rfl (by first | trivial | omega) ?_
                                                refine g1 6 true 97 101 11 rfl rfl rfl rfl rfl ?_
                                                refine s1 101 114 11 rfl rfl rfl rfl rfl rfl (by first | trivial | omega) ?_
                                                refine val 101 (SV.b true) rfl (by show SV.b _ = SV.b true; refine congrArg SV.b ?_; have h := (begin_static hi16 rfl (by first | exact hg18_97 | simpa using hg18_97)).2.1; simp; omega) ?_
                                                refine s1 102 122 12 rfl rfl rfl rfl rfl rfl trivial ?_
                                                refine e1 130 rfl ?_
                                                refine keep [5, 9, 11, 13, 14, 15, 102] rfl ?_
                                                refine q1 rfl (fun hc18 => ?_) (fun hc18 => ?_)
                                                · skip
                                                  try simp only [cs, ne_eq] at hc18
                                                  obtain ⟨bs1, bs2, bs3, bs4⟩ := begin_static hi16 rfl (by first | exact hg18_97 | simpa using hg18_97)
                                                  have hca : cAt (tQ bs) (opAt (opsTo R R.out.length) (opsTo R i).length) = (callAt (tQ bs) (R.out.getD i default).th.toNat (R.out.getD i default).call) := by unfold cAt; rw [bs3, bs4]
                                                  refine rd1 rfl ?_
                                                  refine d1 103 130 1 rfl rfl rfl rfl rfl rfl trivial ?_
                                                  refine d1 104 138 2 rfl rfl rfl rfl rfl rfl (by first | trivial | omega) ?_
                                                  refine d1 105 146 3 rfl rfl rfl rfl rfl rfl trivial ?_
                                                  refine d1 106 154 4 rfl rfl rfl rfl rfl rfl trivial ?_
                                                  refine d1 107 162 5 rfl rfl rfl rfl rfl rfl (by first | trivial | omega) ?_
                                                  refine d1 108 170 6 rfl rfl rfl rfl rfl rfl trivial ?_
                                                  refine d1 109 178 7 rfl rfl rfl rfl rfl rfl (by first | trivial | omega) ?_
                                                  refine val 109 (SV.i (R.out.getD i default).th) rfl (by simp only [Int.toNat_natCast, Nat.zero_add]) ?_
                                                  refine d1 110 186 8 rfl rfl rfl rfl rfl rfl (by have h3 : (tQ bs).ts.length = 3 := rfl; omega) ?_
                                                  refine d1 111 194 9 rfl rfl rfl rfl rfl rfl (by have h3 : (tQ bs).ts.length = 3 := rfl; omega) ?_
                                                  refine d1 112 202 10 rfl rfl rfl rfl rfl rfl trivial ?_
                                                  refine d1 113 210 11 rfl rfl rfl rfl rfl rfl trivial ?_
                                                  refine d1 114 218 12 rfl rfl rfl rfl rfl rfl (by first | trivial | omega) ?_
                                                  refine d1 115 226 13 rfl rfl rfl rfl rfl rfl trivial ?_
                                                  refine d1 116 234 14 rfl rfl rfl rfl rfl rfl (by first | trivial | omega) ?_
                                                  refine val 116 (SV.i (R.out.getD i default).call) rfl (by simp only [Int.toNat_natCast, Nat.zero_add]) ?_
                                                  refine d1 117 242 15 rfl rfl rfl rfl rfl rfl (by first | trivial | omega) ?_
                                                  refine d1 118 250 16 rfl rfl rfl rfl rfl rfl (by first | trivial | omega) ?_
                                                  refine val 118 (callS (callAt (tQ bs) (R.out.getD i default).th.toNat (R.out.getD i default).call)) rfl rfl ?_
                                                  refine d1 16 258 17 rfl rfl rfl rfl rfl rfl trivial ?_
                                                  refine d0 266 18 rfl rfl rfl rfl rfl (by first | trivial | omega) ?_
                                                  refine de1 274 rfl (by kernel_rfl) ?_
                                                  refine keep [5, 9, 11, 13, 14, 15, 16] rfl ?_
                                                  refine W_seq ?_
                                                  refine r1 ?_
                                                  refine s1 119 274 1 rfl rfl rfl rfl rfl rfl trivial ?_
                                                  refine s1 120 282 2 rfl rfl rfl rfl rfl rfl (by first | trivial | omega) ?_
                                                  refine s1 121 290 3 rfl rfl rfl rfl rfl rfl (by first | trivial | omega) ?_
                                                  refine e1 298 rfl ?_
                                                  refine keep [5, 9, 11, 13, 14, 15, 16, 121] rfl ?_
                                                  refine q1 rfl (fun hc20 => ?_) (fun hc20 => ?_)
                                                  · skip
                                                    try simp only [cs, ne_eq] at hc20
                                                    have harg := hcr.args _ (ev_mem hi16) hc20
                                                    refine r0 ?_
                                                    refine s1 122 298 1 rfl rfl rfl rfl rfl rfl trivial ?_
                                                    refine s1 123 306 2 rfl rfl rfl rfl rfl rfl trivial ?_
                                                    refine s1 124 314 3 rfl rfl rfl rfl rfl rfl trivial ?_
                                                    refine s1 125 322 4 rfl rfl rfl rfl rfl rfl (by first | trivial | omega) ?_
                                                    refine s1 126 330 5 rfl rfl rfl rfl rfl rfl (by refine ⟨Int.le_refl _, ?_⟩; show (0 : Int) < (((callAt (tQ bs) (R.out.getD i default).th.toNat (R.out.getD i default).call).args.length : Nat) : Int); omega) ?_
                                                    refine s1 127 338 6 rfl rfl rfl rfl rfl rfl (by first | trivial | omega) ?_
                                                    refine val 127 (SV.i (cArg (callAt (tQ bs) (R.out.getD i default).th.toNat (R.out.getD i default).call))) rfl rfl ?_
                                                    refine s1 128 346 7 rfl rfl rfl rfl rfl rfl (by first | trivial | omega) ?_
                                                    refine s1 129 354 8 rfl rfl rfl rfl rfl rfl trivial ?_
                                                    refine s0 362 9 rfl rfl rfl rfl rfl (by first | trivial | omega) ?_
                                                    refine e1 370 rfl ?_
                                                    refine tn ?_
                                                    refine r0 ?_
                                                    refine s1 130 370 1 rfl rfl rfl rfl rfl rfl trivial ?_
                                                    refine sA 131 378 2 rfl rfl rfl rfl rfl rfl rfl rfl rfl (by unfold inRange; omega) ?_
                                                    refine s1 14 386 3 rfl rfl rfl rfl rfl rfl trivial ?_
                                                    refine e1 394 rfl ?_
                                                    refine bn ?_
                                                    refine tn ?_
                                                    have hK : (opsTo R (i + 1)).length = (opsTo R i).length + 1 := by rw [bs1]; simp
                                                    refine rowsc (k := 5) 1 (opsTo R R.out.length).length (byU (tQ bs) (opsTo R R.out.length) (opsTo R (i + 1)).length) rfl rfl (fun m c hm hc => by rw [hK]; simp only [Int.toNat_natCast, Nat.zero_add]; exact byU_hit (tQ bs) (opsTo R R.out.length) _ (by rw [hca]; exact hc20) _ (by rw [hca]) m c hc) ?_
                                                    refine cval 14 (SV.i (opsTo R (i + 1)).length) rfl (by rw [hK]; simp) ?_
                                                    refine r0 ?_
                                                    refine s1 89 394 1 rfl rfl rfl rfl rfl rfl trivial ?_
                                                    refine sA 90 402 2 rfl rfl rfl rfl rfl rfl rfl rfl rfl (by unfold inRange; omega) ?_
                                                    refine s1 15 410 3 rfl rfl rfl rfl rfl rfl trivial ?_
                                                    refine e1 418 rfl ?_
                                                    refine tn ?_
                                                    exact again ((i + 1 : Nat)) [0, 1] (show (i + 1) ≤ R.out.length from (by omega)) (show R.out.length - (i + 1) < R.out.length - i from (by omega)) rfl ⟨rfl, rfl, rfl, rfl, rfl, rfl, trivial⟩ ⟨rfl, rfl, trivial⟩
                                                  · skip
                                                    try simp only [cs, ne_eq] at hc20
                                                    refine W_skip ?_
                                                    refine tn ?_
                                                    refine r0 ?_
                                                    refine s1 130 298 1 rfl rfl rfl rfl rfl rfl trivial ?_
                                                    refine sA 131 306 2 rfl rfl rfl rfl rfl rfl rfl rfl rfl (by unfold inRange; omega) ?_
                                                    refine s1 14 314 3 rfl rfl rfl rfl rfl rfl trivial ?_
                                                    refine e1 322 rfl ?_
                                                    refine bn ?_
                                                    refine tn ?_
                                                    have hK : (opsTo R (i + 1)).length = (opsTo R i).length + 1 := by rw [bs1]; simp
                                                    refine rowsc (k := 5) 1 (opsTo R R.out.length).length (byU (tQ bs) (opsTo R R.out.length) (opsTo R (i + 1)).length) rfl rfl (fun m c hm hc => by rw [hK]; exact byU_skip (tQ bs) (opsTo R R.out.length) _ (by rw [hca]; exact hc20) m c) ?_
                                                    refine cval 14 (SV.i (opsTo R (i + 1)).length) rfl (by rw [hK]; simp) ?_
                                                    refine r0 ?_
                                                    refine s1 89 322 1 rfl rfl rfl rfl rfl rfl trivial ?_
                                                    refine sA 90 330 2 rfl rfl rfl rfl rfl rfl rfl rfl rfl (by unfold inRange; omega) ?_
                                                    refine s1 15 338 3 rfl rfl rfl rfl rfl rfl trivial ?_
                                                    refine e1 346 rfl ?_
                                                    refine tn ?_
                                                    exact again ((i + 1 : Nat)) [0, 1] (show (i + 1) ≤ R.out.length from (by omega)) (show R.out.length - (i + 1) < R.out.length - i from (by omega)) rfl ⟨rfl, rfl, rfl, rfl, rfl, rfl, trivial⟩ ⟨rfl, rfl, trivial⟩
                                                · skip
                                                  exact absurd hc18 (by decide)
                                              · skip
                                                try simp only [cs, ne_eq] at hg18_97
                                                refine g0 6 true 97 98 8 rfl rfl rfl rfl rfl rfl ?_
                                                refine g0 6 true 97 99 9 rfl rfl rfl rfl rfl rfl ?_
                                                refine g0 6 true 97 100 10 rfl rfl rfl rfl rfl rfl ?_
                                                refine g0 6 true 97 101 11 rfl rfl rfl rfl rfl rfl ?_
                                                refine s1 102 122 12 rfl rfl rfl rfl rfl rfl trivial ?_
                                                refine e1 130 rfl ?_
                                                refine keep [5, 9, 11, 13, 14, 15, 102] rfl ?_
                                                refine q1 rfl (fun hc18 => ?_) (fun hc18 => ?_)
                                                · skip
                                                  exact absurd hc18 (by decide)
                                                · skip
                                                  try simp only [cs, ne_eq] at hc18
                                                  refine W_skip ?_
                                                  refine bn ?_
                                                  refine tn ?_
                                                  have hK := end_static hi16 rfl (by first | exact hg18_97 | simpa using hg18_97)
                                                  refine chval 1 (.rows 52 5 (opsTo R R.out.length).length (byU (tQ bs) (opsTo R R.out.length) (opsTo R (i + 1)).length)) rfl (by rw [hK]) ?_
                                                  refine cval 14 (SV.i (opsTo R (i + 1)).length) rfl (by rw [hK]) ?_
                                                  refine r0 ?_
                                                  refine s1 89 130 1 rfl rfl rfl rfl rfl rfl trivial ?_
                                                  refine sA 90 138 2 rfl rfl rfl rfl rfl rfl rfl rfl rfl (by unfold inRange; omega) ?_
                                                  refine s1 15 146 3 rfl rfl rfl rfl rfl rfl trivial ?_
                                                  refine e1 154 rfl ?_
                                                  refine tn ?_
                                                  exact again ((i + 1 : Nat)) [0, 1] (show (i + 1) ≤ R.out.length from (by omega)) (show R.out.length - (i + 1) < R.out.length - i from (by omega)) rfl ⟨rfl, rfl, rfl, rfl, rfl, rfl, trivial⟩ ⟨rfl, rfl, trivial⟩
                                            · skip
                                              try simp only [cs, ne_eq] at hc16
                                              obtain rfl : i = R.out.length := by omega
                                              refine W_exit ?_
                                              refine tx ?_
                                              refine tx ?_
                                              refine bx ?_
                                              refine tn ?_
                                              refine rowsc (k := 5) 1 ((opsTo R R.out.length).map (byA (tQ bs))).length (Lin.actF ((opsTo R R.out.length).map (byA (tQ bs)))) rfl (by simp) (fun m c hm hc => byU_end (tQ bs) _ m c hm) ?_
                                              refine cval 9 (.sl 1 0 ((opsTo R R.out.length).map (byA (tQ bs))).length) rfl (by simp) ?_
                                              refine freeze 9 1 ((opsTo R R.out.length).map (byA (tQ bs))).length rfl rfl (Nat.le_refl _) ?_
                                              refine cval 9 (Lin.actsV ((opsTo R R.out.length).map (byA (tQ bs)))) rfl rfl ?_
                                              refine r1 ?_
                                              refine s1 133 34 1 rfl rfl rfl rfl rfl rfl trivial ?_
                                              refine c1 (lin_check 2 0 ((opsTo R R.out.length).map (byA (tQ bs))) (by simp; omega)) [] [] 134 42 2 rfl rfl rfl rfl rfl rfl rfl rfl Tryd.func21 rfl rfl rfl rfl trivial rfl rfl ?_
                                              refine s1 132 50 3 rfl rfl rfl rfl rfl rfl trivial ?_
                                              refine s1 135 58 4 rfl rfl rfl rfl rfl rfl trivial ?_
                                              refine val 135 (SV.b true) rfl (by show SV.b (Lin.mayB 2 _ && Lin.FF _ 0 (.cnt 0)) = SV.b true; rw [hcr.may, hcr.yes]; rfl) ?_
                                              refine s1 136 66 5 rfl rfl rfl rfl rfl rfl trivial ?_
                                              refine val 136 (SV.i 0) rfl (by rw [hcr.may]; rfl) ?_
                                              refine s1 17 74 6 rfl rfl rfl rfl rfl rfl trivial ?_
                                              refine s1 18 82 7 rfl rfl rfl rfl rfl rfl trivial ?_
                                              refine e1 90 rfl ?_
                                              refine keep [9, 13, 14, 17, 18] rfl ?_
                                              refine r1 ?_
                                              refine s1 137 90 1 rfl rfl rfl rfl rfl rfl trivial ?_
                                              refine s1 138 98 2 rfl rfl rfl rfl rfl rfl (by first | trivial | omega) ?_
                                              refine s1 139 106 3 rfl rfl rfl rfl rfl rfl trivial ?_
                                              refine ask 139 rfl (fun hg24_139 => ?_) (fun hg24_139 => ?_)
                                              · skip
                                                try simp only [cs, ne_eq] at hg24_139
                                                refine g1 2 true 139 140 4 rfl rfl rfl rfl rfl ?_
                                                refine s1 140 114 4 rfl rfl rfl rfl rfl rfl trivial ?_
                                                refine g1 2 true 139 141 5 rfl rfl rfl rfl rfl ?_
                                                refine s1 141 122 5 rfl rfl rfl rfl rfl rfl trivial ?_
                                                refine g1 2 true 139 142 6 rfl rfl rfl rfl rfl ?_
                                                refine s1 142 130 6 rfl rfl rfl rfl rfl rfl (by first | trivial | omega) ?_
                                                refine g1 2 true 139 143 7 rfl rfl rfl rfl rfl ?_
                                                refine s1 143 138 7 rfl rfl rfl rfl rfl rfl (by first | trivial | omega) ?_
                                                refine s1 144 146 8 rfl rfl rfl rfl rfl rfl trivial ?_
                                                refine s1 145 154 9 rfl rfl rfl rfl rfl rfl trivial ?_
                                                refine ask 145 rfl (fun hg24_145 => ?_) (fun hg24_145 => ?_)
                                                · skip
                                                  try simp only [cs, ne_eq] at hg24_145
                                                  refine g1 8 true 145 146 10 rfl rfl rfl rfl rfl ?_
                                                  refine s1 146 162 10 rfl rfl rfl rfl rfl rfl trivial ?_
                                                  refine g1 8 true 145 147 11 rfl rfl rfl rfl rfl ?_
                                                  refine s1 147 170 11 rfl rfl rfl rfl rfl rfl (by first | trivial | omega) ?_
                                                  refine s1 148 178 12 rfl rfl rfl rfl rfl rfl trivial ?_
                                                  refine s1 149 186 13 rfl rfl rfl rfl rfl rfl trivial ?_
                                                  refine ask 149 rfl (fun hg24_149 => ?_) (fun hg24_149 => ?_)
                                                  · skip
                                                    try simp only [cs, ne_eq] at hg24_149
                                                    refine g1 12 true 149 150 14 rfl rfl rfl rfl rfl ?_
                                                    refine s1 150 194 14 rfl rfl rfl rfl rfl rfl trivial ?_
                                                    refine s1 151 202 15 rfl rfl rfl rfl rfl rfl trivial ?_
                                                    refine s1 4 210 16 rfl rfl rfl rfl rfl rfl trivial ?_
                                                    refine e1 218 rfl ?_
                                                    refine keep [4] rfl ?_
                                                    refine W_ret ?_
                                                    exact out1 4 (SV.b true) (π := []) (hout := []) Tryd.results4 rfl rfl rfl rfl trivial ⟨rfl, rfl⟩
                                                  · skip
                                                    try simp only [cs, ne_eq] at hg24_149
                                                    first | exact absurd hcr.e hg24_149 | exact absurd rfl hg24_149 | exact absurd hg24_149 (by simp) | (simp at hg24_149; done)
                                                · skip
                                                  try simp only [cs, ne_eq] at hg24_145
                                                  first | exact absurd hcr.e hg24_145 | exact absurd rfl hg24_145 | exact absurd hg24_145 (by simp) | (simp at hg24_145; done)
                                              · skip
                                                try simp only [cs, ne_eq] at hg24_139
                                                first | exact absurd hcr.e hg24_139 | exact absurd rfl hg24_139 | exact absurd hg24_139 (by simp) | (simp at hg24_139; done)
                                  · skip
                                    exact absurd hc3 (by decide)
                              · skip
                                exact absurd hc3 (by decide)
                          · skip
                            exact absurd hc3 (by decide)
                      · skip
                        exact absurd hc3 (by decide)
                  · skip
                    exact absurd hc3 (by decide)
              · skip
                exact absurd hc3 (by decide)
          · skip
            exact absurd hc3 (by decide)
      · skip
        exact absurd hc3 (by decide)
  · skip
    exact absurd hc3 (by decide)

end Go.Proofs.YtnnjobmiepnedaaDoor.Nice
