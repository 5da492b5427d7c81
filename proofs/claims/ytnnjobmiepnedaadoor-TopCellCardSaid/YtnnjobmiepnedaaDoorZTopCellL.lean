/- TopCell. -/
import Derived.Test.YtnnjobmiepnedaaDoorZMCe
namespace Go.Proofs.YtnnjobmiepnedaaDoor.Nice
open Go
set_option linter.unusedVariables false
set_option linter.unusedSimpArgs false
set_option maxRecDepth 100000
set_option maxHeartbeats 4000000

theorem topcell_any (l : List Int) (hl : Bytes l) (R : PRes) (hR : played lM (schedL l 3 500) = R) : Spec Tryd.prog GV 6 [u8V l] [] (fun r ho => r = SV.b true ∧ ho = []) := by
  have hsl := sched_len l 3 500
  have hcr := cell_run l R hR
  refine start 105 0 Tryd.func6 rfl rfl rfl rfl ?_
  refine r1 ?_
  refine s1 2 0 1 rfl rfl rfl rfl rfl rfl trivial ?_
  refine e1 8 rfl ?_
  refine keep [0] rfl ?_
  refine r1 ?_
  refine c1 (Spec.stillT words_cell) [] [] 16 8 1 rfl rfl rfl rfl rfl rfl rfl rfl Tryd.func26 rfl rfl rfl rfl trivial rfl rfl ?_
  refine s1 15 16 2 rfl rfl rfl rfl rfl rfl trivial ?_
  refine s1 17 24 3 rfl rfl rfl rfl rfl rfl trivial ?_
  refine s1 18 32 4 rfl rfl rfl rfl rfl rfl trivial ?_
  refine s1 3 40 5 rfl rfl rfl rfl rfl rfl trivial ?_
  refine s1 4 48 6 rfl rfl rfl rfl rfl rfl trivial ?_
  refine e1 56 rfl ?_
  refine keep [0, 3, 4] rfl ?_
  refine r1 ?_
  refine c1 (Spec.stillT (yes_Put 1 (by decide))) [] [] 20 56 1 rfl rfl rfl rfl rfl rfl rfl rfl Tryd.func27 rfl rfl rfl rfl trivial rfl rfl ?_
  refine s1 19 64 2 rfl rfl rfl rfl rfl rfl trivial ?_
  refine s1 21 72 3 rfl rfl rfl rfl rfl rfl trivial ?_
  refine val 21 (insV lputL) rfl (by show insV (fin (B_Put 1)) = _; rw [fin_lput]) ?_
  refine s1 22 80 4 rfl rfl rfl rfl rfl rfl trivial ?_
  refine s1 5 88 5 rfl rfl rfl rfl rfl rfl trivial ?_
  refine s1 6 96 6 rfl rfl rfl rfl rfl rfl trivial ?_
  refine e1 104 rfl ?_
  refine keep [0, 3, 4, 5, 6] rfl ?_
  refine r1 ?_
  refine c1 (Spec.stillT (yes_Get 1 (by decide))) [] [] 24 104 1 rfl rfl rfl rfl rfl rfl rfl rfl Tryd.func28 rfl rfl rfl rfl trivial rfl rfl ?_
  refine s1 23 112 2 rfl rfl rfl rfl rfl rfl trivial ?_
  refine s1 25 120 3 rfl rfl rfl rfl rfl rfl trivial ?_
  refine val 25 (insV lgetL) rfl (by show insV (fin (B_Get 1)) = _; rw [fin_lget]) ?_
  refine s1 26 128 4 rfl rfl rfl rfl rfl rfl trivial ?_
  refine s1 7 136 5 rfl rfl rfl rfl rfl rfl trivial ?_
  refine s1 8 144 6 rfl rfl rfl rfl rfl rfl trivial ?_
  refine e1 152 rfl ?_
  refine keep [0, 3, 4, 5, 6, 7, 8] rfl ?_
  refine r1 ?_
  refine s1 27 152 1 rfl rfl rfl rfl rfl rfl trivial ?_
  refine s1 28 160 2 rfl rfl rfl rfl rfl rfl trivial ?_
  refine s1 29 168 3 rfl rfl rfl rfl rfl rfl trivial ?_
  refine s1 30 176 4 rfl rfl rfl rfl rfl rfl trivial ?_
  refine s1 31 184 5 rfl rfl rfl rfl rfl rfl ⟨by decide, rfl, by decide, by decide⟩ ?_
  refine s1 32 192 6 rfl rfl rfl rfl rfl rfl trivial ?_
  refine s1 9 200 7 rfl rfl rfl rfl rfl rfl trivial ?_
  refine s0 208 8 rfl rfl rfl rfl rfl (by first | trivial | omega) ?_
  refine e1 216 rfl ?_
  refine keep [0, 4, 6, 8, 9] rfl ?_
  refine chval 176 (.cells 32 1 [insV lputL, insV lgetL]) rfl rfl ?_
  refine torows (k := 1) 176 2 (codR [lputL, lgetL]) rfl (by decide) (by decide) (cod_cells _ _) ?_
  refine cfreeze 200 1 176 2 rfl rfl rfl (Nat.le_refl _) rfl ?_
  refine tocells 184 [.d .nils, .d .nils, .d .nils] rfl rfl (by decide) ?_
  refine chval 200 (.cells 28 3 [.d (.vec 1 2 (intsF [0, 0])), .d (.vec 1 2 (codR [lputL, lgetL])), .sl 184 0 3]) rfl rfl ?_
  refine W_seq ?_
  refine cghostly 184 0 38 2 (callF []) rfl rfl rfl ?_
  refine cghostly 184 1 38 2 (callF []) rfl rfl rfl ?_
  refine cghostly 184 2 38 2 (callF []) rfl rfl rfl ?_
  refine r1 ?_
  refine s1 10 240 1 rfl rfl rfl rfl rfl rfl trivial ?_
  refine e1 248 rfl ?_
  refine keep [0, 4, 6, 8, 9, 10] rfl ?_
  refine W_block ?_
  refine W_unroll 4 ?_
  refine unr ?_
  refine W_seq ?_
  refine r1 ?_
  refine s1 33 248 1 rfl rfl rfl rfl rfl rfl trivial ?_
  refine s1 34 256 2 rfl rfl rfl rfl rfl rfl (by first | trivial | omega) ?_
  refine e1 264 rfl ?_
  refine keep [0, 4, 6, 8, 9, 10, 34] rfl ?_
  refine q1 rfl (fun hc6 => ?_) (fun hc6 => ?_)
  · skip
    try simp only [cs, ne_eq] at hc6
    refine W_skip ?_
    refine tn ?_
    refine W_seq ?_
    refine W_block ?_
    refine rd1 rfl ?_
    refine d1 37 264 1 rfl rfl rfl rfl rfl rfl trivial ?_
    refine d1 38 272 2 rfl rfl rfl rfl rfl rfl (by first | trivial | omega) ?_
    refine d1 39 280 3 rfl rfl rfl rfl rfl rfl trivial ?_
    refine d1 40 288 4 rfl rfl rfl rfl rfl rfl (by first | trivial | omega) ?_
    refine d1 41 296 5 rfl rfl rfl rfl rfl rfl (by first | trivial | omega) ?_
    refine d1 42 304 6 rfl rfl rfl rfl rfl rfl (by first | trivial | omega) ?_
    refine d1 43 312 7 rfl rfl rfl rfl rfl rfl trivial ?_
    refine dA 44 320 8 rfl rfl rfl rfl rfl rfl rfl rfl rfl (by unfold inRange; omega) ?_
    refine val 44 (SV.i 5) rfl rfl ?_
    refine dLit 1 (intsF [5]) 45 328 9 rfl rfl rfl rfl rfl rfl rfl rfl rfl (by intro i c hi hc; obtain rfl : i = 0 := (by omega); obtain rfl : c = 0 := (by omega); rfl) ?_
    refine d1 46 336 10 rfl rfl rfl rfl rfl rfl trivial ?_
    refine d1 47 344 11 rfl rfl rfl rfl rfl rfl trivial ?_
    refine d1 48 352 12 rfl rfl rfl rfl rfl rfl ⟨Nat.le_refl _, trivial, (by show (([] : List CallD).length + 1) * 32 ≤ 140737488355328; decide), (by simp [maxLen])⟩ ?_
    refine d1 49 360 13 rfl rfl rfl rfl rfl rfl (by first | trivial | omega) ?_
    refine d0 368 14 rfl rfl rfl rfl rfl (by first | trivial | omega) ?_
    refine de1 376 rfl (by kernel_rfl) ?_
    refine keep [0, 4, 6, 8, 9, 10] rfl ?_
    refine rowsc (k := 2) (L := ([] : List CallD).length + 1) 352 ([⟨0, [5]⟩] : List CallD).length (callF ([⟨0, [5]⟩] : List CallD)) rfl rfl (fun m c hm hc => call_snoc ([] : List CallD) ⟨0, [5]⟩ _ rfl m c hm hc) ?_
    refine chval 184 (.cells 39 1 [.sl 352 0 ([⟨0, [5]⟩] : List CallD).length, .sl 224 0 ([] : List CallD).length, .sl 232 0 ([] : List CallD).length]) rfl rfl ?_
    refine rd1 rfl ?_
    refine d1 50 376 1 rfl rfl rfl rfl rfl rfl trivial ?_
    refine d1 51 384 2 rfl rfl rfl rfl rfl rfl (by first | trivial | omega) ?_
    refine d1 52 392 3 rfl rfl rfl rfl rfl rfl trivial ?_
    refine d1 53 400 4 rfl rfl rfl rfl rfl rfl (by first | trivial | omega) ?_
    refine d1 54 408 5 rfl rfl rfl rfl rfl rfl (by first | trivial | omega) ?_
    refine d1 55 416 6 rfl rfl rfl rfl rfl rfl (by first | trivial | omega) ?_
    refine d1 56 424 7 rfl rfl rfl rfl rfl rfl trivial ?_
    refine d1 57 432 8 rfl rfl rfl rfl rfl rfl trivial ?_
    refine d1 58 440 9 rfl rfl rfl rfl rfl rfl ⟨Nat.le_refl _, trivial, (by show (([] : List CallD).length + 1) * 32 ≤ 140737488355328; decide), (by simp [maxLen])⟩ ?_
    refine d1 59 448 10 rfl rfl rfl rfl rfl rfl (by first | trivial | omega) ?_
    refine d0 456 11 rfl rfl rfl rfl rfl (by first | trivial | omega) ?_
    refine de1 464 rfl (by kernel_rfl) ?_
    refine keep [0, 4, 6, 8, 9, 10] rfl ?_
    refine rowsw (k := 2) (L := ([] : List CallD).length + 1) 440 ([⟨1, []⟩] : List CallD).length (callF ([⟨1, []⟩] : List CallD)) rfl rfl (fun m c hm hc M v h => call_snocN ([] : List CallD) 1 _ rfl m c hm hc M v h) ?_
    refine chval 184 (.cells 39 1 [.sl 352 0 ([⟨0, [5]⟩] : List CallD).length, .sl 440 0 ([⟨1, []⟩] : List CallD).length, .sl 232 0 ([] : List CallD).length]) rfl rfl ?_
    refine rd0 rfl ?_
    refine d1 60 464 1 rfl rfl rfl rfl rfl rfl trivial ?_
    refine d1 61 472 2 rfl rfl rfl rfl rfl rfl (by first | trivial | omega) ?_
    refine d1 62 480 3 rfl rfl rfl rfl rfl rfl trivial ?_
    refine d1 63 488 4 rfl rfl rfl rfl rfl rfl (by first | trivial | omega) ?_
    refine d1 64 496 5 rfl rfl rfl rfl rfl rfl (by first | trivial | omega) ?_
    refine d1 65 504 6 rfl rfl rfl rfl rfl rfl (by first | trivial | omega) ?_
    refine d1 66 512 7 rfl rfl rfl rfl rfl rfl trivial ?_
    refine d1 67 520 8 rfl rfl rfl rfl rfl rfl trivial ?_
    refine d1 68 528 9 rfl rfl rfl rfl rfl rfl ⟨Nat.le_refl _, trivial, (by show (([] : List CallD).length + 1) * 32 ≤ 140737488355328; decide), (by simp [maxLen])⟩ ?_
    refine d1 69 536 10 rfl rfl rfl rfl rfl rfl (by first | trivial | omega) ?_
    refine d0 544 11 rfl rfl rfl rfl rfl (by first | trivial | omega) ?_
    refine de1 552 rfl (by kernel_rfl) ?_
    refine bn ?_
    refine tn ?_
    refine rowsw (k := 2) (L := ([] : List CallD).length + 1) 528 ([⟨1, []⟩] : List CallD).length (callF ([⟨1, []⟩] : List CallD)) rfl rfl (fun m c hm hc M v h => call_snocN ([] : List CallD) 1 _ rfl m c hm hc M v h) ?_
    refine chval 184 (.cells 39 1 [.sl 352 0 ([⟨0, [5]⟩] : List CallD).length, .sl 440 0 ([⟨1, []⟩] : List CallD).length, .sl 528 0 ([⟨1, []⟩] : List CallD).length]) rfl rfl ?_
    refine r0 ?_
    refine s1 35 552 1 rfl rfl rfl rfl rfl rfl trivial ?_
    refine sA 36 560 2 rfl rfl rfl rfl rfl rfl rfl rfl rfl (by unfold inRange; omega) ?_
    refine val 36 (SV.i 1) rfl rfl ?_
    refine s1 10 568 3 rfl rfl rfl rfl rfl rfl trivial ?_
    refine e1 576 rfl ?_
    refine tn ?_
    refine unr ?_
    refine W_seq ?_
    refine r1 ?_
    refine s1 33 576 1 rfl rfl rfl rfl rfl rfl trivial ?_
    refine s1 34 584 2 rfl rfl rfl rfl rfl rfl (by first | trivial | omega) ?_
    refine e1 592 rfl ?_
    refine keep [0, 4, 6, 8, 9, 10, 34] rfl ?_
    refine q1 rfl (fun hc6 => ?_) (fun hc6 => ?_)
    · skip
      try simp only [cs, ne_eq] at hc6
      refine W_skip ?_
      refine tn ?_
      refine W_seq ?_
      refine W_block ?_
      refine rd1 rfl ?_
      refine d1 37 592 1 rfl rfl rfl rfl rfl rfl trivial ?_
      refine d1 38 600 2 rfl rfl rfl rfl rfl rfl (by first | trivial | omega) ?_
      refine d1 39 608 3 rfl rfl rfl rfl rfl rfl trivial ?_
      refine d1 40 616 4 rfl rfl rfl rfl rfl rfl (by first | trivial | omega) ?_
      refine d1 41 624 5 rfl rfl rfl rfl rfl rfl (by first | trivial | omega) ?_
      refine d1 42 632 6 rfl rfl rfl rfl rfl rfl (by first | trivial | omega) ?_
      refine d1 43 640 7 rfl rfl rfl rfl rfl rfl trivial ?_
      refine dA 44 648 8 rfl rfl rfl rfl rfl rfl rfl rfl rfl (by unfold inRange; omega) ?_
      refine val 44 (SV.i 6) rfl rfl ?_
      refine dLit 1 (intsF [6]) 45 656 9 rfl rfl rfl rfl rfl rfl rfl rfl rfl (by intro i c hi hc; obtain rfl : i = 0 := (by omega); obtain rfl : c = 0 := (by omega); rfl) ?_
      refine d1 46 664 10 rfl rfl rfl rfl rfl rfl trivial ?_
      refine d1 47 672 11 rfl rfl rfl rfl rfl rfl trivial ?_
      refine d1 48 680 12 rfl rfl rfl rfl rfl rfl ⟨Nat.le_refl _, trivial, (by show (([⟨0, [5]⟩] : List CallD).length + 1) * 32 ≤ 140737488355328; decide), (by simp [maxLen])⟩ ?_
      refine d1 49 688 13 rfl rfl rfl rfl rfl rfl (by first | trivial | omega) ?_
      refine d0 696 14 rfl rfl rfl rfl rfl (by first | trivial | omega) ?_
      refine de1 704 rfl (by kernel_rfl) ?_
      refine keep [0, 4, 6, 8, 9, 10] rfl ?_
      refine rowsc (k := 2) (L := ([⟨0, [5]⟩] : List CallD).length + 1) 680 ([⟨0, [5]⟩, ⟨0, [6]⟩] : List CallD).length (callF ([⟨0, [5]⟩, ⟨0, [6]⟩] : List CallD)) rfl rfl (fun m c hm hc => call_snoc ([⟨0, [5]⟩] : List CallD) ⟨0, [6]⟩ _ rfl m c hm hc) ?_
      refine chval 184 (.cells 39 1 [.sl 680 0 ([⟨0, [5]⟩, ⟨0, [6]⟩] : List CallD).length, .sl 440 0 ([⟨1, []⟩] : List CallD).length, .sl 528 0 ([⟨1, []⟩] : List CallD).length]) rfl rfl ?_
      refine rd1 rfl ?_
      refine d1 50 704 1 rfl rfl rfl rfl rfl rfl trivial ?_
      refine d1 51 712 2 rfl rfl rfl rfl rfl rfl (by first | trivial | omega) ?_
      refine d1 52 720 3 rfl rfl rfl rfl rfl rfl trivial ?_
      refine d1 53 728 4 rfl rfl rfl rfl rfl rfl (by first | trivial | omega) ?_
      refine d1 54 736 5 rfl rfl rfl rfl rfl rfl (by first | trivial | omega) ?_
      refine d1 55 744 6 rfl rfl rfl rfl rfl rfl (by first | trivial | omega) ?_
      refine d1 56 752 7 rfl rfl rfl rfl rfl rfl trivial ?_
      refine d1 57 760 8 rfl rfl rfl rfl rfl rfl trivial ?_
      refine d1 58 768 9 rfl rfl rfl rfl rfl rfl ⟨Nat.le_refl _, trivial, (by show (([⟨1, []⟩] : List CallD).length + 1) * 32 ≤ 140737488355328; decide), (by simp [maxLen])⟩ ?_
      refine d1 59 776 10 rfl rfl rfl rfl rfl rfl (by first | trivial | omega) ?_
      refine d0 784 11 rfl rfl rfl rfl rfl (by first | trivial | omega) ?_
      refine de1 792 rfl (by kernel_rfl) ?_
      refine keep [0, 4, 6, 8, 9, 10] rfl ?_
      refine rowsw (k := 2) (L := ([⟨1, []⟩] : List CallD).length + 1) 768 ([⟨1, []⟩, ⟨1, []⟩] : List CallD).length (callF ([⟨1, []⟩, ⟨1, []⟩] : List CallD)) rfl rfl (fun m c hm hc M v h => call_snocN ([⟨1, []⟩] : List CallD) 1 _ rfl m c hm hc M v h) ?_
      refine chval 184 (.cells 39 1 [.sl 680 0 ([⟨0, [5]⟩, ⟨0, [6]⟩] : List CallD).length, .sl 768 0 ([⟨1, []⟩, ⟨1, []⟩] : List CallD).length, .sl 528 0 ([⟨1, []⟩] : List CallD).length]) rfl rfl ?_
      refine rd0 rfl ?_
      refine d1 60 792 1 rfl rfl rfl rfl rfl rfl trivial ?_
      refine d1 61 800 2 rfl rfl rfl rfl rfl rfl (by first | trivial | omega) ?_
      refine d1 62 808 3 rfl rfl rfl rfl rfl rfl trivial ?_
      refine d1 63 816 4 rfl rfl rfl rfl rfl rfl (by first | trivial | omega) ?_
      refine d1 64 824 5 rfl rfl rfl rfl rfl rfl (by first | trivial | omega) ?_
      refine d1 65 832 6 rfl rfl rfl rfl rfl rfl (by first | trivial | omega) ?_
      refine d1 66 840 7 rfl rfl rfl rfl rfl rfl trivial ?_
      refine d1 67 848 8 rfl rfl rfl rfl rfl rfl trivial ?_
      refine d1 68 856 9 rfl rfl rfl rfl rfl rfl ⟨Nat.le_refl _, trivial, (by show (([⟨1, []⟩] : List CallD).length + 1) * 32 ≤ 140737488355328; decide), (by simp [maxLen])⟩ ?_
      refine d1 69 864 10 rfl rfl rfl rfl rfl rfl (by first | trivial | omega) ?_
      refine d0 872 11 rfl rfl rfl rfl rfl (by first | trivial | omega) ?_
      refine de1 880 rfl (by kernel_rfl) ?_
      refine bn ?_
      refine tn ?_
      refine rowsw (k := 2) (L := ([⟨1, []⟩] : List CallD).length + 1) 856 ([⟨1, []⟩, ⟨1, []⟩] : List CallD).length (callF ([⟨1, []⟩, ⟨1, []⟩] : List CallD)) rfl rfl (fun m c hm hc M v h => call_snocN ([⟨1, []⟩] : List CallD) 1 _ rfl m c hm hc M v h) ?_
      refine chval 184 (.cells 39 1 [.sl 680 0 ([⟨0, [5]⟩, ⟨0, [6]⟩] : List CallD).length, .sl 768 0 ([⟨1, []⟩, ⟨1, []⟩] : List CallD).length, .sl 856 0 ([⟨1, []⟩, ⟨1, []⟩] : List CallD).length]) rfl rfl ?_
      refine r0 ?_
      refine s1 35 880 1 rfl rfl rfl rfl rfl rfl trivial ?_
      refine sA 36 888 2 rfl rfl rfl rfl rfl rfl rfl rfl rfl (by unfold inRange; omega) ?_
      refine val 36 (SV.i 2) rfl rfl ?_
      refine s1 10 896 3 rfl rfl rfl rfl rfl rfl trivial ?_
      refine e1 904 rfl ?_
      refine tn ?_
      refine unr ?_
      refine W_seq ?_
      refine r1 ?_
      refine s1 33 904 1 rfl rfl rfl rfl rfl rfl trivial ?_
      refine s1 34 912 2 rfl rfl rfl rfl rfl rfl (by first | trivial | omega) ?_
      refine e1 920 rfl ?_
      refine keep [0, 4, 6, 8, 9, 10, 34] rfl ?_
      refine q1 rfl (fun hc6 => ?_) (fun hc6 => ?_)
      · skip
        try simp only [cs, ne_eq] at hc6
        refine W_skip ?_
        refine tn ?_
        refine W_seq ?_
        refine W_block ?_
        refine rd1 rfl ?_
        refine d1 37 920 1 rfl rfl rfl rfl rfl rfl trivial ?_
        refine d1 38 928 2 rfl rfl rfl rfl rfl rfl (by first | trivial | omega) ?_
        refine d1 39 936 3 rfl rfl rfl rfl rfl rfl trivial ?_
        refine d1 40 944 4 rfl rfl rfl rfl rfl rfl (by first | trivial | omega) ?_
        refine d1 41 952 5 rfl rfl rfl rfl rfl rfl (by first | trivial | omega) ?_
        refine d1 42 960 6 rfl rfl rfl rfl rfl rfl (by first | trivial | omega) ?_
        refine d1 43 968 7 rfl rfl rfl rfl rfl rfl trivial ?_
        refine dA 44 976 8 rfl rfl rfl rfl rfl rfl rfl rfl rfl (by unfold inRange; omega) ?_
        refine val 44 (SV.i 7) rfl rfl ?_
        refine dLit 1 (intsF [7]) 45 984 9 rfl rfl rfl rfl rfl rfl rfl rfl rfl (by intro i c hi hc; obtain rfl : i = 0 := (by omega); obtain rfl : c = 0 := (by omega); rfl) ?_
        refine d1 46 992 10 rfl rfl rfl rfl rfl rfl trivial ?_
        refine d1 47 1000 11 rfl rfl rfl rfl rfl rfl trivial ?_
        refine d1 48 1008 12 rfl rfl rfl rfl rfl rfl ⟨Nat.le_refl _, trivial, (by show (([⟨0, [5]⟩, ⟨0, [6]⟩] : List CallD).length + 1) * 32 ≤ 140737488355328; decide), (by simp [maxLen])⟩ ?_
        refine d1 49 1016 13 rfl rfl rfl rfl rfl rfl (by first | trivial | omega) ?_
        refine d0 1024 14 rfl rfl rfl rfl rfl (by first | trivial | omega) ?_
        refine de1 1032 rfl (by kernel_rfl) ?_
        refine keep [0, 4, 6, 8, 9, 10] rfl ?_
        refine rowsc (k := 2) (L := ([⟨0, [5]⟩, ⟨0, [6]⟩] : List CallD).length + 1) 1008 ([⟨0, [5]⟩, ⟨0, [6]⟩, ⟨0, [7]⟩] : List CallD).length (callF ([⟨0, [5]⟩, ⟨0, [6]⟩, ⟨0, [7]⟩] : List CallD)) rfl rfl (fun m c hm hc => call_snoc ([⟨0, [5]⟩, ⟨0, [6]⟩] : List CallD) ⟨0, [7]⟩ _ rfl m c hm hc) ?_
        refine chval 184 (.cells 39 1 [.sl 1008 0 ([⟨0, [5]⟩, ⟨0, [6]⟩, ⟨0, [7]⟩] : List CallD).length, .sl 768 0 ([⟨1, []⟩, ⟨1, []⟩] : List CallD).length, .sl 856 0 ([⟨1, []⟩, ⟨1, []⟩] : List CallD).length]) rfl rfl ?_
        refine rd1 rfl ?_
        refine d1 50 1032 1 rfl rfl rfl rfl rfl rfl trivial ?_
        refine d1 51 1040 2 rfl rfl rfl rfl rfl rfl (by first | trivial | omega) ?_
        refine d1 52 1048 3 rfl rfl rfl rfl rfl rfl trivial ?_
        refine d1 53 1056 4 rfl rfl rfl rfl rfl rfl (by first | trivial | omega) ?_
        refine d1 54 1064 5 rfl rfl rfl rfl rfl rfl (by first | trivial | omega) ?_
        refine d1 55 1072 6 rfl rfl rfl rfl rfl rfl (by first | trivial | omega) ?_
        refine d1 56 1080 7 rfl rfl rfl rfl rfl rfl trivial ?_
        refine d1 57 1088 8 rfl rfl rfl rfl rfl rfl trivial ?_
        refine d1 58 1096 9 rfl rfl rfl rfl rfl rfl ⟨Nat.le_refl _, trivial, (by show (([⟨1, []⟩, ⟨1, []⟩] : List CallD).length + 1) * 32 ≤ 140737488355328; decide), (by simp [maxLen])⟩ ?_
        refine d1 59 1104 10 rfl rfl rfl rfl rfl rfl (by first | trivial | omega) ?_
        refine d0 1112 11 rfl rfl rfl rfl rfl (by first | trivial | omega) ?_
        refine de1 1120 rfl (by kernel_rfl) ?_
        refine keep [0, 4, 6, 8, 9, 10] rfl ?_
        refine rowsw (k := 2) (L := ([⟨1, []⟩, ⟨1, []⟩] : List CallD).length + 1) 1096 ([⟨1, []⟩, ⟨1, []⟩, ⟨1, []⟩] : List CallD).length (callF ([⟨1, []⟩, ⟨1, []⟩, ⟨1, []⟩] : List CallD)) rfl rfl (fun m c hm hc M v h => call_snocN ([⟨1, []⟩, ⟨1, []⟩] : List CallD) 1 _ rfl m c hm hc M v h) ?_
        refine chval 184 (.cells 39 1 [.sl 1008 0 ([⟨0, [5]⟩, ⟨0, [6]⟩, ⟨0, [7]⟩] : List CallD).length, .sl 1096 0 ([⟨1, []⟩, ⟨1, []⟩, ⟨1, []⟩] : List CallD).length, .sl 856 0 ([⟨1, []⟩, ⟨1, []⟩] : List CallD).length]) rfl rfl ?_
        refine rd0 rfl ?_
        refine d1 60 1120 1 rfl rfl rfl rfl rfl rfl trivial ?_
        refine d1 61 1128 2 rfl rfl rfl rfl rfl rfl (by first | trivial | omega) ?_
        refine d1 62 1136 3 rfl rfl rfl rfl rfl rfl trivial ?_
        refine d1 63 1144 4 rfl rfl rfl rfl rfl rfl (by first | trivial | omega) ?_
        refine d1 64 1152 5 rfl rfl rfl rfl rfl rfl (by first | trivial | omega) ?_
        refine d1 65 1160 6 rfl rfl rfl rfl rfl rfl (by first | trivial | omega) ?_
        refine d1 66 1168 7 rfl rfl rfl rfl rfl rfl trivial ?_
        refine d1 67 1176 8 rfl rfl rfl rfl rfl rfl trivial ?_
        refine d1 68 1184 9 rfl rfl rfl rfl rfl rfl ⟨Nat.le_refl _, trivial, (by show (([⟨1, []⟩, ⟨1, []⟩] : List CallD).length + 1) * 32 ≤ 140737488355328; decide), (by simp [maxLen])⟩ ?_
        refine d1 69 1192 10 rfl rfl rfl rfl rfl rfl (by first | trivial | omega) ?_
        refine d0 1200 11 rfl rfl rfl rfl rfl (by first | trivial | omega) ?_
        refine de1 1208 rfl (by kernel_rfl) ?_
        refine bn ?_
        refine tn ?_
        refine rowsw (k := 2) (L := ([⟨1, []⟩, ⟨1, []⟩] : List CallD).length + 1) 1184 ([⟨1, []⟩, ⟨1, []⟩, ⟨1, []⟩] : List CallD).length (callF ([⟨1, []⟩, ⟨1, []⟩, ⟨1, []⟩] : List CallD)) rfl rfl (fun m c hm hc M v h => call_snocN ([⟨1, []⟩, ⟨1, []⟩] : List CallD) 1 _ rfl m c hm hc M v h) ?_
        refine chval 184 (.cells 39 1 [.sl 1008 0 ([⟨0, [5]⟩, ⟨0, [6]⟩, ⟨0, [7]⟩] : List CallD).length, .sl 1096 0 ([⟨1, []⟩, ⟨1, []⟩, ⟨1, []⟩] : List CallD).length, .sl 1184 0 ([⟨1, []⟩, ⟨1, []⟩, ⟨1, []⟩] : List CallD).length]) rfl rfl ?_
        refine r0 ?_
        refine s1 35 1208 1 rfl rfl rfl rfl rfl rfl trivial ?_
        refine sA 36 1216 2 rfl rfl rfl rfl rfl rfl rfl rfl rfl (by unfold inRange; omega) ?_
        refine val 36 (SV.i 3) rfl rfl ?_
        refine s1 10 1224 3 rfl rfl rfl rfl rfl rfl trivial ?_
        refine e1 1232 rfl ?_
        refine tn ?_
        refine unr ?_
        refine W_seq ?_
        refine r1 ?_
        refine s1 33 1232 1 rfl rfl rfl rfl rfl rfl trivial ?_
        refine s1 34 1240 2 rfl rfl rfl rfl rfl rfl (by first | trivial | omega) ?_
        refine e1 1248 rfl ?_
        refine keep [0, 4, 6, 8, 9, 10, 34] rfl ?_
        refine q1 rfl (fun hc6 => ?_) (fun hc6 => ?_)
        · skip
          exact absurd hc6 (by decide)
        · skip
          try simp only [cs, ne_eq] at hc6
          refine W_exit ?_
          refine tx ?_
          refine tx ?_
          refine bx ?_
          refine tn ?_
          refine cfreeze 184 0 1008 ([⟨0, [5]⟩, ⟨0, [6]⟩, ⟨0, [7]⟩] : List CallD).length rfl rfl rfl (Nat.le_refl _) rfl ?_
          refine cfreeze 184 1 1096 ([⟨1, []⟩, ⟨1, []⟩, ⟨1, []⟩] : List CallD).length rfl rfl rfl (Nat.le_refl _) rfl ?_
          refine cfreeze 184 2 1184 ([⟨1, []⟩, ⟨1, []⟩, ⟨1, []⟩] : List CallD).length rfl rfl rfl (Nat.le_refl _) rfl ?_
          refine torows (k := 1) 184 3 (thrR [([⟨0, [5]⟩, ⟨0, [6]⟩, ⟨0, [7]⟩] : List CallD), ([⟨1, []⟩, ⟨1, []⟩, ⟨1, []⟩] : List CallD), ([⟨1, []⟩, ⟨1, []⟩, ⟨1, []⟩] : List CallD)]) rfl (by decide) (Nat.le_refl _) (thr_cells ([⟨0, [5]⟩, ⟨0, [6]⟩, ⟨0, [7]⟩] : List CallD) ([⟨1, []⟩, ⟨1, []⟩, ⟨1, []⟩] : List CallD) ([⟨1, []⟩, ⟨1, []⟩, ⟨1, []⟩] : List CallD)) ?_
          refine cfreeze 200 2 184 3 rfl rfl rfl (Nat.le_refl _) rfl ?_
          refine chval 200 (machBlk lM) rfl rfl ?_
          refine rd1 rfl ?_
          refine d1 71 1248 1 rfl rfl rfl rfl rfl rfl (by first | trivial | omega) ?_
          refine d1 72 1256 2 rfl rfl rfl rfl rfl rfl trivial ?_
          refine dc1 (schedule_any l hl 3 (by decide) 500 (by decide)) [] [] 73 1264 3 rfl rfl rfl rfl rfl rfl rfl rfl Tryd.func13 rfl rfl rfl rfl trivial rfl rfl ?_
          refine dc1 (history_any lM lM_ok rfl lM_20 (schedL l 3 500) (by omega) R hR hcr.e hcr.ev putL 29 Tryd.f29 Tryd.func29 rfl (fun j n told h0 h3 hn0 hn ht => putL_any _ (lM_args h0 h3 hn0 hn) told true ht) (fun j n h0 h3 hn0 hn => putL_nil _ (lM_args h0 h3 hn0 hn)) hcr.ok (fun c => by unfold putL; split <;> rfl)) [] [1272] 74 1272 4 rfl rfl rfl rfl rfl rfl rfl rfl Tryd.func17 rfl rfl rfl rfl trivial rfl rfl ?_
          refine d1 70 1280 5 rfl rfl rfl rfl rfl rfl trivial ?_
          refine d1 75 1288 6 rfl rfl rfl rfl rfl rfl trivial ?_
          refine d1 76 1296 7 rfl rfl rfl rfl rfl rfl trivial ?_
          refine d1 11 1304 8 rfl rfl rfl rfl rfl rfl trivial ?_
          refine d1 12 1312 9 rfl rfl rfl rfl rfl rfl trivial ?_
          refine de1 1320 rfl (by kernel_rfl) ?_
          refine keep [4, 6, 8, 11, 12] rfl ?_
          refine W_seq ?_
          refine r1 ?_
          refine s1 77 1320 1 rfl rfl rfl rfl rfl rfl trivial ?_
          refine s1 78 1328 2 rfl rfl rfl rfl rfl rfl (by first | trivial | omega) ?_
          refine s1 79 1336 3 rfl rfl rfl rfl rfl rfl trivial ?_
          refine ask 79 rfl (fun hg12_79 => ?_) (fun hg12_79 => ?_)
          · skip
            try simp only [cs, ne_eq] at hg12_79
            exact absurd hg12_79 (by decide)
          · skip
            try simp only [cs, ne_eq] at hg12_79
            refine g1 2 false 79 80 4 rfl rfl rfl rfl rfl ?_
            refine s1 80 1344 4 rfl rfl rfl rfl rfl rfl trivial ?_
            refine g1 2 false 79 81 5 rfl rfl rfl rfl rfl ?_
            refine s1 81 1352 5 rfl rfl rfl rfl rfl rfl (by first | trivial | omega) ?_
            refine s1 82 1360 6 rfl rfl rfl rfl rfl rfl trivial ?_
            refine s1 83 1368 7 rfl rfl rfl rfl rfl rfl trivial ?_
            refine ask 83 rfl (fun hg12_83 => ?_) (fun hg12_83 => ?_)
            · skip
              try simp only [cs, ne_eq] at hg12_83
              exact absurd hg12_83 (by decide)
            · skip
              try simp only [cs, ne_eq] at hg12_83
              refine g1 6 false 83 84 8 rfl rfl rfl rfl rfl ?_
              refine s1 84 1376 8 rfl rfl rfl rfl rfl rfl trivial ?_
              refine g1 6 false 83 85 9 rfl rfl rfl rfl rfl ?_
              refine s1 85 1384 9 rfl rfl rfl rfl rfl rfl (by first | trivial | omega) ?_
              refine s1 86 1392 10 rfl rfl rfl rfl rfl rfl trivial ?_
              refine s1 87 1400 11 rfl rfl rfl rfl rfl rfl trivial ?_
              refine ask 87 rfl (fun hg12_87 => ?_) (fun hg12_87 => ?_)
              · skip
                try simp only [cs, ne_eq] at hg12_87
                exact absurd hg12_87 (by decide)
              · skip
                try simp only [cs, ne_eq] at hg12_87
                refine g1 10 false 87 88 12 rfl rfl rfl rfl rfl ?_
                refine s1 88 1408 12 rfl rfl rfl rfl rfl rfl trivial ?_
                refine g1 10 false 87 89 13 rfl rfl rfl rfl rfl ?_
                refine s1 89 1416 13 rfl rfl rfl rfl rfl rfl trivial ?_
                refine s1 90 1424 14 rfl rfl rfl rfl rfl rfl trivial ?_
                refine s1 91 1432 15 rfl rfl rfl rfl rfl rfl trivial ?_
                refine ask 91 rfl (fun hg12_91 => ?_) (fun hg12_91 => ?_)
                · skip
                  try simp only [cs, ne_eq] at hg12_91
                  exact absurd hg12_91 (by decide)
                · skip
                  try simp only [cs, ne_eq] at hg12_91
                  refine g1 14 false 91 92 16 rfl rfl rfl rfl rfl ?_
                  refine c1 (sure_any) [] [] 92 1440 16 rfl rfl rfl rfl rfl rfl rfl rfl Tryd.func19 rfl rfl rfl rfl trivial rfl rfl ?_
                  refine g1 14 false 91 93 17 rfl rfl rfl rfl rfl ?_
                  refine s1 93 1448 17 rfl rfl rfl rfl rfl rfl trivial ?_
                  refine s1 94 1456 18 rfl rfl rfl rfl rfl rfl trivial ?_
                  refine e1 1464 rfl ?_
                  refine keep [11, 94] rfl ?_
                  refine q1 rfl (fun hc12 => ?_) (fun hc12 => ?_)
                  · skip
                    exact absurd hc12 (by decide)
                  · skip
                    try simp only [cs, ne_eq] at hc12
                    refine W_skip ?_
                    refine tn ?_
                    refine freeze 11 1272 (hist lM putL (opsTo R R.out.length)).length rfl rfl (Nat.le_refl _) ?_
                    refine cval 11 (Lin.actsV (hist lM putL (opsTo R R.out.length))) rfl rfl ?_
                    refine r1 ?_
                    refine s1 96 1464 1 rfl rfl rfl rfl rfl rfl trivial ?_
                    refine c1 (lin_check 1 0 (hist lM putL (opsTo R R.out.length)) (by have := hcr.len; omega)) [] [] 97 1472 2 rfl rfl rfl rfl rfl rfl rfl rfl Tryd.func21 rfl rfl rfl rfl trivial rfl rfl ?_
                    refine s1 95 1480 3 rfl rfl rfl rfl rfl rfl trivial ?_
                    refine s1 98 1488 4 rfl rfl rfl rfl rfl rfl trivial ?_
                    refine val 98 (SV.b true) rfl (by show SV.b (Lin.mayB 1 _ && Lin.FF _ 0 (.reg 0)) = SV.b true; rw [hcr.may, hcr.yes]; rfl) ?_
                    refine s1 99 1496 5 rfl rfl rfl rfl rfl rfl trivial ?_
                    refine val 99 (SV.i 0) rfl (by rw [hcr.may]; rfl) ?_
                    refine s1 13 1504 6 rfl rfl rfl rfl rfl rfl trivial ?_
                    refine s1 14 1512 7 rfl rfl rfl rfl rfl rfl trivial ?_
                    refine e1 1520 rfl ?_
                    refine keep [13, 14] rfl ?_
                    refine r1 ?_
                    refine s1 100 1520 1 rfl rfl rfl rfl rfl rfl trivial ?_
                    refine s1 101 1528 2 rfl rfl rfl rfl rfl rfl (by first | trivial | omega) ?_
                    refine s1 102 1536 3 rfl rfl rfl rfl rfl rfl trivial ?_
                    refine ask 102 rfl (fun hg15_102 => ?_) (fun hg15_102 => ?_)
                    · skip
                      try simp only [cs, ne_eq] at hg15_102
                      refine g1 2 true 102 103 4 rfl rfl rfl rfl rfl ?_
                      refine s1 103 1544 4 rfl rfl rfl rfl rfl rfl trivial ?_
                      refine s1 104 1552 5 rfl rfl rfl rfl rfl rfl trivial ?_
                      refine s1 2 1560 6 rfl rfl rfl rfl rfl rfl trivial ?_
                      refine e1 1568 rfl ?_
                      refine keep [2] rfl ?_
                      refine W_ret ?_
                      exact out1 2 (SV.b true) (π := []) (hout := []) Tryd.results6 rfl rfl rfl rfl trivial ⟨rfl, rfl⟩
                    · skip
                      try simp only [cs, ne_eq] at hg15_102
                      exact absurd hg15_102 (by decide)
      · skip
        exact absurd hc6 (by decide)
    · skip
      exact absurd hc6 (by decide)
  · skip
    exact absurd hc6 (by decide)

end Go.Proofs.YtnnjobmiepnedaaDoor.Nice
