/- Codes that may be: the document's function, and the law's. -/
import Derived.Test.YtdjphneoecebmaaDoorVmOk
namespace Go.Proofs.YtdjphneoecebmaaDoor.Nice
open Go
set_option linter.unusedVariables false
set_option linter.unusedSimpArgs false
set_option maxRecDepth 100000
set_option maxHeartbeats 4000000

theorem codeMay_any (l : List Ins) (hl : l.length ≤ 9223372036854775807) : Spec Tryd.prog GV 8 [insV l] [] (fun r ho => r = SV.b (mayB l) ∧ ho = []) := by
  refine start 197 0 Tryd.func8 rfl rfl rfl rfl ?_
  refine r1 ?_
  refine s1 1 0 1 rfl rfl rfl rfl rfl rfl trivial ?_
  refine s1 2 8 2 rfl rfl rfl rfl rfl rfl trivial ?_
  refine e1 16 rfl ?_
  refine keep [1] rfl ?_
  refine W_seq ?_
  refine r1 ?_
  refine s1 7 16 1 rfl rfl rfl rfl rfl rfl trivial ?_
  refine s1 8 24 2 rfl rfl rfl rfl rfl rfl trivial ?_
  refine s1 9 32 3 rfl rfl rfl rfl rfl rfl trivial ?_
  refine e1 40 rfl ?_
  refine keep [1, 9] rfl ?_
  refine q1 rfl (fun hc1 => ?_) (fun hc1 => ?_)
  · skip
    try simp only [ct, ne_eq] at hc1
    refine r1 ?_
    refine s1 2 40 1 rfl rfl rfl rfl rfl rfl trivial ?_
    refine e1 48 rfl ?_
    refine keep [2] rfl ?_
    refine W_ret ?_
    refine tr ?_
    exact out1 2 (SV.b (mayB l)) (π := []) (hout := []) Tryd.results8 rfl (by show SV.b _ = SV.b _; refine congrArg SV.b ?_; unfold mayB; rw [decide_eq_false (show ¬ l.length ≤ 200 by omega)]; rfl) rfl rfl trivial ⟨rfl, rfl⟩
  try simp only [ct, ne_eq] at hc1
  refine W_skip ?_
  refine tn ?_
  refine W_seq ?_
  refine r1 ?_
  refine s1 10 40 1 rfl rfl rfl rfl rfl rfl trivial ?_
  refine s1 11 48 2 rfl rfl rfl rfl rfl rfl trivial ?_
  refine s1 12 56 3 rfl rfl rfl rfl rfl rfl trivial ?_
  refine e1 64 rfl ?_
  refine keep [1, 10, 11, 12] rfl ?_
  refine W_block ?_
  refine loop (α := Nat) 1 (fun n => [(1, .ptr 0 0 0), (10, insV l), (11, SV.i l.length), (12, SV.i n)]) (fun n => [some (.cells 22 1 [insV l])]) (fun n => n ≤ l.length ∧ ∀ j, j < n → okB l.length (l.getD j default) = true) (fun n => l.length - n) (0) [0] (fun _ => rfl) ⟨Nat.zero_le _, fun j hj => by omega⟩ rfl ⟨rfl, rfl, rfl, rfl, trivial⟩ ⟨rfl, trivial⟩ (fun n hx => ?_)
  obtain ⟨hn, hno⟩ := hx
  refine r1 ?_
  refine s1 13 1 1 rfl rfl rfl rfl rfl rfl trivial ?_
  refine e1 9 rfl ?_
  refine keep [1, 10, 11, 12, 13] rfl ?_
  refine W_seq ?_
  refine q1 rfl (fun hc4 => ?_) (fun hc4 => ?_)
  · skip
    try simp only [ct, ne_eq] at hc4
    refine W_skip ?_
    refine tn ?_
    refine W_seq ?_
    refine W_block ?_
    refine r1 ?_
    refine s1 14 9 1 rfl rfl rfl rfl rfl rfl (by omega) ?_
    refine s1 15 17 2 rfl rfl rfl rfl rfl rfl (by omega) ?_
    refine s1 4 25 3 rfl rfl rfl rfl rfl rfl trivial ?_
    refine s0 33 4 rfl rfl rfl rfl rfl trivial ?_
    refine e1 41 rfl ?_
    refine keep [1, 4, 10, 11, 12] rfl ?_
    refine r1 ?_
    refine s1 16 41 1 rfl rfl rfl rfl rfl rfl trivial ?_
    refine s1 5 49 2 rfl rfl rfl rfl rfl rfl trivial ?_
    refine e1 57 rfl ?_
    refine keep [1, 4, 5, 10, 11, 12] rfl ?_
    refine r1 ?_
    refine s1 6 57 1 rfl rfl rfl rfl rfl rfl trivial ?_
    refine e1 65 rfl ?_
    refine keep [1, 4, 5, 6, 10, 11, 12] rfl ?_
    refine W_seq ?_
    refine r1 ?_
    refine s1 17 65 1 rfl rfl rfl rfl rfl rfl trivial ?_
    refine s1 18 73 2 rfl rfl rfl rfl rfl rfl trivial ?_
    refine e1 81 rfl ?_
    refine keep [1, 4, 5, 6, 10, 11, 12, 18] rfl ?_
    refine W_block ?_
    refine r1 ?_
    refine s1 20 81 1 rfl rfl rfl rfl rfl rfl trivial ?_
    refine s1 19 89 2 rfl rfl rfl rfl rfl rfl trivial ?_
    refine e1 97 rfl ?_
    refine keep [1, 4, 5, 6, 10, 11, 12, 18, 19] rfl ?_
    refine q1 rfl (fun hc9 => ?_) (fun hc9 => ?_)
    · skip
      try simp only [ct, ne_eq] at hc9
      refine r0 ?_
      refine s1 21 97 1 rfl rfl rfl rfl rfl rfl trivial ?_
      refine s1 22 105 2 rfl rfl rfl rfl rfl rfl trivial ?_
      refine c1 (reg_any (l.getD n default).a) [] [] 23 113 3 rfl rfl rfl rfl rfl rfl rfl rfl Tryd.func18 rfl rfl rfl rfl trivial rfl rfl ?_
      refine s1 24 121 4 rfl rfl rfl rfl rfl rfl trivial ?_
      refine ask 24 rfl (fun hg10_24 => ?_) (fun hg10_24 => ?_)
      · skip
        try simp only [ct, ne_eq] at hg10_24
        refine g1 3 true 24 25 5 rfl rfl rfl rfl rfl ?_
        refine s1 25 129 5 rfl rfl rfl rfl rfl rfl trivial ?_
        refine g1 3 true 24 26 6 rfl rfl rfl rfl rfl ?_
        refine s1 26 137 6 rfl rfl rfl rfl rfl rfl trivial ?_
        refine g1 3 true 24 27 7 rfl rfl rfl rfl rfl ?_
        refine s1 27 145 7 rfl rfl rfl rfl rfl rfl trivial ?_
        refine s1 28 153 8 rfl rfl rfl rfl rfl rfl trivial ?_
        refine s1 29 161 9 rfl rfl rfl rfl rfl rfl trivial ?_
        refine ask 29 rfl (fun hg10_29 => ?_) (fun hg10_29 => ?_)
        · skip
          try simp only [ct, ne_eq] at hg10_29
          refine g1 8 true 29 30 10 rfl rfl rfl rfl rfl ?_
          refine s1 30 169 10 rfl rfl rfl rfl rfl rfl trivial ?_
          refine g1 8 true 29 31 11 rfl rfl rfl rfl rfl ?_
          refine s1 31 177 11 rfl rfl rfl rfl rfl rfl trivial ?_
          refine g1 8 true 29 32 12 rfl rfl rfl rfl rfl ?_
          refine s1 32 185 12 rfl rfl rfl rfl rfl rfl trivial ?_
          refine s1 33 193 13 rfl rfl rfl rfl rfl rfl trivial ?_
          refine s1 6 201 14 rfl rfl rfl rfl rfl rfl trivial ?_
          refine e1 209 rfl ?_
          refine bn ?_
          refine tn ?_
          refine r1 ?_
          refine s1 194 209 1 rfl rfl rfl rfl rfl rfl trivial ?_
          refine s1 195 217 2 rfl rfl rfl rfl rfl rfl trivial ?_
          refine e1 225 rfl ?_
          refine keep [1, 10, 11, 12, 195] rfl ?_
          refine q1 rfl (fun hc35 => ?_) (fun hc35 => ?_)
          · skip
            try simp only [ct, ne_eq] at hc35
            refine r1 ?_
            refine s1 2 225 1 rfl rfl rfl rfl rfl rfl trivial ?_
            refine e1 233 rfl ?_
            refine keep [2] rfl ?_
            refine W_ret ?_
            refine br ?_
            refine tr ?_
            refine tr ?_
            refine br ?_
            refine tr ?_
            exact out1 2 (SV.b (mayB l)) (π := []) (hout := []) Tryd.results8 rfl (by have hb : okB l.length (l.getD n default) = false := (by clear hno; (try simp only [Int.toNat_natCast] at *); generalize l.getD n default = o at *; first | exact ok_kind (by omega) | (rw [← Bool.not_eq_true]; (first | rw [ok_1 (by omega)] | rw [ok_2 (by omega)] | rw [ok_3 (by omega)] | rw [ok_4 (by omega)] | rw [ok_5 (by omega)] | rw [ok_6 (by omega)] | rw [ok_7 (by omega)] | rw [ok_8 (by omega)] | rw [ok_9 (by omega)] | rw [ok_10 (by omega)] | rw [ok_11 (by omega)] | rw [ok_12 (by omega)] | rw [ok_13 (by omega)] | rw [ok_14 (by omega)] | rw [ok_15 (by omega)] | rw [ok_16 (by omega)] | rw [ok_17 (by omega)]); (try simp [regB] at *); omega)); have := all_not (by omega) hb; show SV.b _ = SV.b _; refine congrArg SV.b ?_; simp [mayB, this]) rfl rfl trivial ⟨rfl, rfl⟩
          try simp only [ct, ne_eq] at hc35
          refine W_skip ?_
          refine bn ?_
          refine tn ?_
          refine r0 ?_
          refine sA 196 225 1 rfl rfl rfl rfl rfl rfl rfl rfl rfl (by unfold inRange; omega) ?_
          refine s1 12 233 2 rfl rfl rfl rfl rfl rfl trivial ?_
          refine e1 241 rfl ?_
          refine tn ?_
          exact again (n + 1) [0] ⟨by omega, fun j hj => by by_cases e : j = n; (subst e; (clear hno; (try simp only [Int.toNat_natCast] at *); generalize l.getD j default = o at *; (first | rw [ok_1 (by omega)] | rw [ok_2 (by omega)] | rw [ok_3 (by omega)] | rw [ok_4 (by omega)] | rw [ok_5 (by omega)] | rw [ok_6 (by omega)] | rw [ok_7 (by omega)] | rw [ok_8 (by omega)] | rw [ok_9 (by omega)] | rw [ok_10 (by omega)] | rw [ok_11 (by omega)] | rw [ok_12 (by omega)] | rw [ok_13 (by omega)] | rw [ok_14 (by omega)] | rw [ok_15 (by omega)] | rw [ok_16 (by omega)] | rw [ok_17 (by omega)]); (try simp [regB] at *); omega)); exact hno j (by omega)⟩ (by omega) rfl ⟨rfl, rfl, rfl, rfl, trivial⟩ ⟨rfl, trivial⟩
        try simp only [ct, ne_eq] at hg10_29
        refine g0 8 true 29 30 10 rfl rfl rfl rfl rfl rfl ?_
        refine g0 8 true 29 31 11 rfl rfl rfl rfl rfl rfl ?_
        refine g0 8 true 29 32 12 rfl rfl rfl rfl rfl rfl ?_
        refine s1 33 193 13 rfl rfl rfl rfl rfl rfl trivial ?_
        refine s1 6 201 14 rfl rfl rfl rfl rfl rfl trivial ?_
        refine e1 209 rfl ?_
        refine bn ?_
        refine tn ?_
        refine r1 ?_
        refine s1 194 209 1 rfl rfl rfl rfl rfl rfl trivial ?_
        refine s1 195 217 2 rfl rfl rfl rfl rfl rfl trivial ?_
        refine e1 225 rfl ?_
        refine keep [1, 10, 11, 12, 195] rfl ?_
        refine q1 rfl (fun hc35 => ?_) (fun hc35 => ?_)
        · skip
          try simp only [ct, ne_eq] at hc35
          refine r1 ?_
          refine s1 2 225 1 rfl rfl rfl rfl rfl rfl trivial ?_
          refine e1 233 rfl ?_
          refine keep [2] rfl ?_
          refine W_ret ?_
          refine br ?_
          refine tr ?_
          refine tr ?_
          refine br ?_
          refine tr ?_
          exact out1 2 (SV.b (mayB l)) (π := []) (hout := []) Tryd.results8 rfl (by have hb : okB l.length (l.getD n default) = false := (by clear hno; (try simp only [Int.toNat_natCast] at *); generalize l.getD n default = o at *; first | exact ok_kind (by omega) | (rw [← Bool.not_eq_true]; (first | rw [ok_1 (by omega)] | rw [ok_2 (by omega)] | rw [ok_3 (by omega)] | rw [ok_4 (by omega)] | rw [ok_5 (by omega)] | rw [ok_6 (by omega)] | rw [ok_7 (by omega)] | rw [ok_8 (by omega)] | rw [ok_9 (by omega)] | rw [ok_10 (by omega)] | rw [ok_11 (by omega)] | rw [ok_12 (by omega)] | rw [ok_13 (by omega)] | rw [ok_14 (by omega)] | rw [ok_15 (by omega)] | rw [ok_16 (by omega)] | rw [ok_17 (by omega)]); (try simp [regB] at *); omega)); have := all_not (by omega) hb; show SV.b _ = SV.b _; refine congrArg SV.b ?_; simp [mayB, this]) rfl rfl trivial ⟨rfl, rfl⟩
        exact absurd hc35 (by decide)
      try simp only [ct, ne_eq] at hg10_24
      refine g0 3 true 24 25 5 rfl rfl rfl rfl rfl rfl ?_
      refine g0 3 true 24 26 6 rfl rfl rfl rfl rfl rfl ?_
      refine g0 3 true 24 27 7 rfl rfl rfl rfl rfl rfl ?_
      refine s1 28 153 8 rfl rfl rfl rfl rfl rfl trivial ?_
      refine s1 29 161 9 rfl rfl rfl rfl rfl rfl trivial ?_
      refine g0 8 true 29 30 10 rfl rfl rfl rfl rfl rfl ?_
      refine g0 8 true 29 31 11 rfl rfl rfl rfl rfl rfl ?_
      refine g0 8 true 29 32 12 rfl rfl rfl rfl rfl rfl ?_
      refine s1 33 193 13 rfl rfl rfl rfl rfl rfl trivial ?_
      refine s1 6 201 14 rfl rfl rfl rfl rfl rfl trivial ?_
      refine e1 209 rfl ?_
      refine bn ?_
      refine tn ?_
      refine r1 ?_
      refine s1 194 209 1 rfl rfl rfl rfl rfl rfl trivial ?_
      refine s1 195 217 2 rfl rfl rfl rfl rfl rfl trivial ?_
      refine e1 225 rfl ?_
      refine keep [1, 10, 11, 12, 195] rfl ?_
      refine q1 rfl (fun hc35 => ?_) (fun hc35 => ?_)
      · skip
        try simp only [ct, ne_eq] at hc35
        refine r1 ?_
        refine s1 2 225 1 rfl rfl rfl rfl rfl rfl trivial ?_
        refine e1 233 rfl ?_
        refine keep [2] rfl ?_
        refine W_ret ?_
        refine br ?_
        refine tr ?_
        refine tr ?_
        refine br ?_
        refine tr ?_
        exact out1 2 (SV.b (mayB l)) (π := []) (hout := []) Tryd.results8 rfl (by have hb : okB l.length (l.getD n default) = false := (by clear hno; (try simp only [Int.toNat_natCast] at *); generalize l.getD n default = o at *; first | exact ok_kind (by omega) | (rw [← Bool.not_eq_true]; (first | rw [ok_1 (by omega)] | rw [ok_2 (by omega)] | rw [ok_3 (by omega)] | rw [ok_4 (by omega)] | rw [ok_5 (by omega)] | rw [ok_6 (by omega)] | rw [ok_7 (by omega)] | rw [ok_8 (by omega)] | rw [ok_9 (by omega)] | rw [ok_10 (by omega)] | rw [ok_11 (by omega)] | rw [ok_12 (by omega)] | rw [ok_13 (by omega)] | rw [ok_14 (by omega)] | rw [ok_15 (by omega)] | rw [ok_16 (by omega)] | rw [ok_17 (by omega)]); (try simp [regB] at *); omega)); have := all_not (by omega) hb; show SV.b _ = SV.b _; refine congrArg SV.b ?_; simp [mayB, this]) rfl rfl trivial ⟨rfl, rfl⟩
      exact absurd hc35 (by decide)
    try simp only [ct, ne_eq] at hc9
    refine r1 ?_
    refine s1 35 97 1 rfl rfl rfl rfl rfl rfl trivial ?_
    refine s1 34 105 2 rfl rfl rfl rfl rfl rfl trivial ?_
    refine e1 113 rfl ?_
    refine keep [1, 4, 5, 6, 10, 11, 12, 18, 34] rfl ?_
    refine q1 rfl (fun hc11 => ?_) (fun hc11 => ?_)
    · skip
      try simp only [ct, ne_eq] at hc11
      refine r0 ?_
      refine s1 36 113 1 rfl rfl rfl rfl rfl rfl trivial ?_
      refine s1 37 121 2 rfl rfl rfl rfl rfl rfl trivial ?_
      refine c1 (reg_any (l.getD n default).a) [] [] 38 129 3 rfl rfl rfl rfl rfl rfl rfl rfl Tryd.func18 rfl rfl rfl rfl trivial rfl rfl ?_
      refine s1 39 137 4 rfl rfl rfl rfl rfl rfl trivial ?_
      refine ask 39 rfl (fun hg12_39 => ?_) (fun hg12_39 => ?_)
      · skip
        try simp only [ct, ne_eq] at hg12_39
        refine g1 3 true 39 40 5 rfl rfl rfl rfl rfl ?_
        refine s1 40 145 5 rfl rfl rfl rfl rfl rfl trivial ?_
        refine g1 3 true 39 41 6 rfl rfl rfl rfl rfl ?_
        refine s1 41 153 6 rfl rfl rfl rfl rfl rfl trivial ?_
        refine g1 3 true 39 42 7 rfl rfl rfl rfl rfl ?_
        refine c1 (reg_any (l.getD n default).b) [] [] 42 161 7 rfl rfl rfl rfl rfl rfl rfl rfl Tryd.func18 rfl rfl rfl rfl trivial rfl rfl ?_
        refine s1 43 169 8 rfl rfl rfl rfl rfl rfl trivial ?_
        refine s1 44 177 9 rfl rfl rfl rfl rfl rfl trivial ?_
        refine ask 44 rfl (fun hg12_44 => ?_) (fun hg12_44 => ?_)
        · skip
          try simp only [ct, ne_eq] at hg12_44
          refine g1 8 true 44 45 10 rfl rfl rfl rfl rfl ?_
          refine s1 45 185 10 rfl rfl rfl rfl rfl rfl trivial ?_
          refine g1 8 true 44 46 11 rfl rfl rfl rfl rfl ?_
          refine s1 46 193 11 rfl rfl rfl rfl rfl rfl trivial ?_
          refine g1 8 true 44 47 12 rfl rfl rfl rfl rfl ?_
          refine s1 47 201 12 rfl rfl rfl rfl rfl rfl trivial ?_
          refine s1 48 209 13 rfl rfl rfl rfl rfl rfl trivial ?_
          refine s1 49 217 14 rfl rfl rfl rfl rfl rfl trivial ?_
          refine ask 49 rfl (fun hg12_49 => ?_) (fun hg12_49 => ?_)
          · skip
            try simp only [ct, ne_eq] at hg12_49
            refine g1 13 true 49 50 15 rfl rfl rfl rfl rfl ?_
            refine s1 50 225 15 rfl rfl rfl rfl rfl rfl trivial ?_
            refine g1 13 true 49 51 16 rfl rfl rfl rfl rfl ?_
            refine s1 51 233 16 rfl rfl rfl rfl rfl rfl trivial ?_
            refine g1 13 true 49 52 17 rfl rfl rfl rfl rfl ?_
            refine s1 52 241 17 rfl rfl rfl rfl rfl rfl trivial ?_
            refine s1 53 249 18 rfl rfl rfl rfl rfl rfl trivial ?_
            refine s1 6 257 19 rfl rfl rfl rfl rfl rfl trivial ?_
            refine e1 265 rfl ?_
            refine bn ?_
            refine tn ?_
            refine r1 ?_
            refine s1 194 265 1 rfl rfl rfl rfl rfl rfl trivial ?_
            refine s1 195 273 2 rfl rfl rfl rfl rfl rfl trivial ?_
            refine e1 281 rfl ?_
            refine keep [1, 10, 11, 12, 195] rfl ?_
            refine q1 rfl (fun hc35 => ?_) (fun hc35 => ?_)
            · skip
              try simp only [ct, ne_eq] at hc35
              refine r1 ?_
              refine s1 2 281 1 rfl rfl rfl rfl rfl rfl trivial ?_
              refine e1 289 rfl ?_
              refine keep [2] rfl ?_
              refine W_ret ?_
              refine br ?_
              refine tr ?_
              refine tr ?_
              refine br ?_
              refine tr ?_
              exact out1 2 (SV.b (mayB l)) (π := []) (hout := []) Tryd.results8 rfl (by have hb : okB l.length (l.getD n default) = false := (by clear hno; (try simp only [Int.toNat_natCast] at *); generalize l.getD n default = o at *; first | exact ok_kind (by omega) | (rw [← Bool.not_eq_true]; (first | rw [ok_1 (by omega)] | rw [ok_2 (by omega)] | rw [ok_3 (by omega)] | rw [ok_4 (by omega)] | rw [ok_5 (by omega)] | rw [ok_6 (by omega)] | rw [ok_7 (by omega)] | rw [ok_8 (by omega)] | rw [ok_9 (by omega)] | rw [ok_10 (by omega)] | rw [ok_11 (by omega)] | rw [ok_12 (by omega)] | rw [ok_13 (by omega)] | rw [ok_14 (by omega)] | rw [ok_15 (by omega)] | rw [ok_16 (by omega)] | rw [ok_17 (by omega)]); (try simp [regB] at *); omega)); have := all_not (by omega) hb; show SV.b _ = SV.b _; refine congrArg SV.b ?_; simp [mayB, this]) rfl rfl trivial ⟨rfl, rfl⟩
            try simp only [ct, ne_eq] at hc35
            refine W_skip ?_
            refine bn ?_
            refine tn ?_
            refine r0 ?_
            refine sA 196 281 1 rfl rfl rfl rfl rfl rfl rfl rfl rfl (by unfold inRange; omega) ?_
            refine s1 12 289 2 rfl rfl rfl rfl rfl rfl trivial ?_
            refine e1 297 rfl ?_
            refine tn ?_
            exact again (n + 1) [0] ⟨by omega, fun j hj => by by_cases e : j = n; (subst e; (clear hno; (try simp only [Int.toNat_natCast] at *); generalize l.getD j default = o at *; (first | rw [ok_1 (by omega)] | rw [ok_2 (by omega)] | rw [ok_3 (by omega)] | rw [ok_4 (by omega)] | rw [ok_5 (by omega)] | rw [ok_6 (by omega)] | rw [ok_7 (by omega)] | rw [ok_8 (by omega)] | rw [ok_9 (by omega)] | rw [ok_10 (by omega)] | rw [ok_11 (by omega)] | rw [ok_12 (by omega)] | rw [ok_13 (by omega)] | rw [ok_14 (by omega)] | rw [ok_15 (by omega)] | rw [ok_16 (by omega)] | rw [ok_17 (by omega)]); (try simp [regB] at *); omega)); exact hno j (by omega)⟩ (by omega) rfl ⟨rfl, rfl, rfl, rfl, trivial⟩ ⟨rfl, trivial⟩
          try simp only [ct, ne_eq] at hg12_49
          refine g0 13 true 49 50 15 rfl rfl rfl rfl rfl rfl ?_
          refine g0 13 true 49 51 16 rfl rfl rfl rfl rfl rfl ?_
          refine g0 13 true 49 52 17 rfl rfl rfl rfl rfl rfl ?_
          refine s1 53 249 18 rfl rfl rfl rfl rfl rfl trivial ?_
          refine s1 6 257 19 rfl rfl rfl rfl rfl rfl trivial ?_
          refine e1 265 rfl ?_
          refine bn ?_
          refine tn ?_
          refine r1 ?_
          refine s1 194 265 1 rfl rfl rfl rfl rfl rfl trivial ?_
          refine s1 195 273 2 rfl rfl rfl rfl rfl rfl trivial ?_
          refine e1 281 rfl ?_
          refine keep [1, 10, 11, 12, 195] rfl ?_
          refine q1 rfl (fun hc35 => ?_) (fun hc35 => ?_)
          · skip
            try simp only [ct, ne_eq] at hc35
            refine r1 ?_
            refine s1 2 281 1 rfl rfl rfl rfl rfl rfl trivial ?_
            refine e1 289 rfl ?_
            refine keep [2] rfl ?_
            refine W_ret ?_
            refine br ?_
            refine tr ?_
            refine tr ?_
            refine br ?_
            refine tr ?_
            exact out1 2 (SV.b (mayB l)) (π := []) (hout := []) Tryd.results8 rfl (by have hb : okB l.length (l.getD n default) = false := (by clear hno; (try simp only [Int.toNat_natCast] at *); generalize l.getD n default = o at *; first | exact ok_kind (by omega) | (rw [← Bool.not_eq_true]; (first | rw [ok_1 (by omega)] | rw [ok_2 (by omega)] | rw [ok_3 (by omega)] | rw [ok_4 (by omega)] | rw [ok_5 (by omega)] | rw [ok_6 (by omega)] | rw [ok_7 (by omega)] | rw [ok_8 (by omega)] | rw [ok_9 (by omega)] | rw [ok_10 (by omega)] | rw [ok_11 (by omega)] | rw [ok_12 (by omega)] | rw [ok_13 (by omega)] | rw [ok_14 (by omega)] | rw [ok_15 (by omega)] | rw [ok_16 (by omega)] | rw [ok_17 (by omega)]); (try simp [regB] at *); omega)); have := all_not (by omega) hb; show SV.b _ = SV.b _; refine congrArg SV.b ?_; simp [mayB, this]) rfl rfl trivial ⟨rfl, rfl⟩
          exact absurd hc35 (by decide)
        try simp only [ct, ne_eq] at hg12_44
        refine g0 8 true 44 45 10 rfl rfl rfl rfl rfl rfl ?_
        refine g0 8 true 44 46 11 rfl rfl rfl rfl rfl rfl ?_
        refine g0 8 true 44 47 12 rfl rfl rfl rfl rfl rfl ?_
        refine s1 48 209 13 rfl rfl rfl rfl rfl rfl trivial ?_
        refine s1 49 217 14 rfl rfl rfl rfl rfl rfl trivial ?_
        refine g0 13 true 49 50 15 rfl rfl rfl rfl rfl rfl ?_
        refine g0 13 true 49 51 16 rfl rfl rfl rfl rfl rfl ?_
        refine g0 13 true 49 52 17 rfl rfl rfl rfl rfl rfl ?_
        refine s1 53 249 18 rfl rfl rfl rfl rfl rfl trivial ?_
        refine s1 6 257 19 rfl rfl rfl rfl rfl rfl trivial ?_
        refine e1 265 rfl ?_
        refine bn ?_
        refine tn ?_
        refine r1 ?_
        refine s1 194 265 1 rfl rfl rfl rfl rfl rfl trivial ?_
        refine s1 195 273 2 rfl rfl rfl rfl rfl rfl trivial ?_
        refine e1 281 rfl ?_
        refine keep [1, 10, 11, 12, 195] rfl ?_
        refine q1 rfl (fun hc35 => ?_) (fun hc35 => ?_)
        · skip
          try simp only [ct, ne_eq] at hc35
          refine r1 ?_
          refine s1 2 281 1 rfl rfl rfl rfl rfl rfl trivial ?_
          refine e1 289 rfl ?_
          refine keep [2] rfl ?_
          refine W_ret ?_
          refine br ?_
          refine tr ?_
          refine tr ?_
          refine br ?_
          refine tr ?_
          exact out1 2 (SV.b (mayB l)) (π := []) (hout := []) Tryd.results8 rfl (by have hb : okB l.length (l.getD n default) = false := (by clear hno; (try simp only [Int.toNat_natCast] at *); generalize l.getD n default = o at *; first | exact ok_kind (by omega) | (rw [← Bool.not_eq_true]; (first | rw [ok_1 (by omega)] | rw [ok_2 (by omega)] | rw [ok_3 (by omega)] | rw [ok_4 (by omega)] | rw [ok_5 (by omega)] | rw [ok_6 (by omega)] | rw [ok_7 (by omega)] | rw [ok_8 (by omega)] | rw [ok_9 (by omega)] | rw [ok_10 (by omega)] | rw [ok_11 (by omega)] | rw [ok_12 (by omega)] | rw [ok_13 (by omega)] | rw [ok_14 (by omega)] | rw [ok_15 (by omega)] | rw [ok_16 (by omega)] | rw [ok_17 (by omega)]); (try simp [regB] at *); omega)); have := all_not (by omega) hb; show SV.b _ = SV.b _; refine congrArg SV.b ?_; simp [mayB, this]) rfl rfl trivial ⟨rfl, rfl⟩
        exact absurd hc35 (by decide)
      try simp only [ct, ne_eq] at hg12_39
      refine g0 3 true 39 40 5 rfl rfl rfl rfl rfl rfl ?_
      refine g0 3 true 39 41 6 rfl rfl rfl rfl rfl rfl ?_
      refine g0 3 true 39 42 7 rfl rfl rfl rfl rfl rfl ?_
      refine s1 43 169 8 rfl rfl rfl rfl rfl rfl trivial ?_
      refine s1 44 177 9 rfl rfl rfl rfl rfl rfl trivial ?_
      refine g0 8 true 44 45 10 rfl rfl rfl rfl rfl rfl ?_
      refine g0 8 true 44 46 11 rfl rfl rfl rfl rfl rfl ?_
      refine g0 8 true 44 47 12 rfl rfl rfl rfl rfl rfl ?_
      refine s1 48 209 13 rfl rfl rfl rfl rfl rfl trivial ?_
      refine s1 49 217 14 rfl rfl rfl rfl rfl rfl trivial ?_
      refine g0 13 true 49 50 15 rfl rfl rfl rfl rfl rfl ?_
      refine g0 13 true 49 51 16 rfl rfl rfl rfl rfl rfl ?_
      refine g0 13 true 49 52 17 rfl rfl rfl rfl rfl rfl ?_
      refine s1 53 249 18 rfl rfl rfl rfl rfl rfl trivial ?_
      refine s1 6 257 19 rfl rfl rfl rfl rfl rfl trivial ?_
      refine e1 265 rfl ?_
      refine bn ?_
      refine tn ?_
      refine r1 ?_
      refine s1 194 265 1 rfl rfl rfl rfl rfl rfl trivial ?_
      refine s1 195 273 2 rfl rfl rfl rfl rfl rfl trivial ?_
      refine e1 281 rfl ?_
      refine keep [1, 10, 11, 12, 195] rfl ?_
      refine q1 rfl (fun hc35 => ?_) (fun hc35 => ?_)
      · skip
        try simp only [ct, ne_eq] at hc35
        refine r1 ?_
        refine s1 2 281 1 rfl rfl rfl rfl rfl rfl trivial ?_
        refine e1 289 rfl ?_
        refine keep [2] rfl ?_
        refine W_ret ?_
        refine br ?_
        refine tr ?_
        refine tr ?_
        refine br ?_
        refine tr ?_
        exact out1 2 (SV.b (mayB l)) (π := []) (hout := []) Tryd.results8 rfl (by have hb : okB l.length (l.getD n default) = false := (by clear hno; (try simp only [Int.toNat_natCast] at *); generalize l.getD n default = o at *; first | exact ok_kind (by omega) | (rw [← Bool.not_eq_true]; (first | rw [ok_1 (by omega)] | rw [ok_2 (by omega)] | rw [ok_3 (by omega)] | rw [ok_4 (by omega)] | rw [ok_5 (by omega)] | rw [ok_6 (by omega)] | rw [ok_7 (by omega)] | rw [ok_8 (by omega)] | rw [ok_9 (by omega)] | rw [ok_10 (by omega)] | rw [ok_11 (by omega)] | rw [ok_12 (by omega)] | rw [ok_13 (by omega)] | rw [ok_14 (by omega)] | rw [ok_15 (by omega)] | rw [ok_16 (by omega)] | rw [ok_17 (by omega)]); (try simp [regB] at *); omega)); have := all_not (by omega) hb; show SV.b _ = SV.b _; refine congrArg SV.b ?_; simp [mayB, this]) rfl rfl trivial ⟨rfl, rfl⟩
      exact absurd hc35 (by decide)
    try simp only [ct, ne_eq] at hc11
    refine W_seq ?_
    refine r1 ?_
    refine s1 55 113 1 rfl rfl rfl rfl rfl rfl trivial ?_
    refine s1 54 121 2 rfl rfl rfl rfl rfl rfl trivial ?_
    refine e1 129 rfl ?_
    refine keep [1, 4, 5, 6, 10, 11, 12, 18, 54] rfl ?_
    refine q1 rfl (fun hc13 => ?_) (fun hc13 => ?_)
    · skip
      try simp only [ct, ne_eq] at hc13
      refine W_skip ?_
      refine tn ?_
      refine q1 rfl (fun hc13 => ?_) (fun hc13 => ?_)
      · skip
        try simp only [ct, ne_eq] at hc13
        refine r0 ?_
        refine s1 62 129 1 rfl rfl rfl rfl rfl rfl trivial ?_
        refine s1 63 137 2 rfl rfl rfl rfl rfl rfl trivial ?_
        refine c1 (reg_any (l.getD n default).a) [] [] 64 145 3 rfl rfl rfl rfl rfl rfl rfl rfl Tryd.func18 rfl rfl rfl rfl trivial rfl rfl ?_
        refine s1 65 153 4 rfl rfl rfl rfl rfl rfl trivial ?_
        refine ask 65 rfl (fun hg20_65 => ?_) (fun hg20_65 => ?_)
        · skip
          try simp only [ct, ne_eq] at hg20_65
          refine g1 3 true 65 66 5 rfl rfl rfl rfl rfl ?_
          refine s1 66 161 5 rfl rfl rfl rfl rfl rfl trivial ?_
          refine g1 3 true 65 67 6 rfl rfl rfl rfl rfl ?_
          refine s1 67 169 6 rfl rfl rfl rfl rfl rfl trivial ?_
          refine g1 3 true 65 68 7 rfl rfl rfl rfl rfl ?_
          refine c1 (reg_any (l.getD n default).b) [] [] 68 177 7 rfl rfl rfl rfl rfl rfl rfl rfl Tryd.func18 rfl rfl rfl rfl trivial rfl rfl ?_
          refine s1 69 185 8 rfl rfl rfl rfl rfl rfl trivial ?_
          refine s1 70 193 9 rfl rfl rfl rfl rfl rfl trivial ?_
          refine ask 70 rfl (fun hg20_70 => ?_) (fun hg20_70 => ?_)
          · skip
            try simp only [ct, ne_eq] at hg20_70
            refine g1 8 true 70 71 10 rfl rfl rfl rfl rfl ?_
            refine s1 71 201 10 rfl rfl rfl rfl rfl rfl trivial ?_
            refine g1 8 true 70 72 11 rfl rfl rfl rfl rfl ?_
            refine s1 72 209 11 rfl rfl rfl rfl rfl rfl trivial ?_
            refine g1 8 true 70 73 12 rfl rfl rfl rfl rfl ?_
            refine c1 (reg_any (l.getD n default).c) [] [] 73 217 12 rfl rfl rfl rfl rfl rfl rfl rfl Tryd.func18 rfl rfl rfl rfl trivial rfl rfl ?_
            refine s1 74 225 13 rfl rfl rfl rfl rfl rfl trivial ?_
            refine s1 75 233 14 rfl rfl rfl rfl rfl rfl trivial ?_
            refine ask 75 rfl (fun hg20_75 => ?_) (fun hg20_75 => ?_)
            · skip
              try simp only [ct, ne_eq] at hg20_75
              refine g1 13 true 75 76 15 rfl rfl rfl rfl rfl ?_
              refine s1 76 241 15 rfl rfl rfl rfl rfl rfl trivial ?_
              refine g1 13 true 75 77 16 rfl rfl rfl rfl rfl ?_
              refine s1 77 249 16 rfl rfl rfl rfl rfl rfl trivial ?_
              refine g1 13 true 75 78 17 rfl rfl rfl rfl rfl ?_
              refine s1 78 257 17 rfl rfl rfl rfl rfl rfl trivial ?_
              refine s1 79 265 18 rfl rfl rfl rfl rfl rfl trivial ?_
              refine s1 6 273 19 rfl rfl rfl rfl rfl rfl trivial ?_
              refine e1 281 rfl ?_
              refine bn ?_
              refine tn ?_
              refine r1 ?_
              refine s1 194 281 1 rfl rfl rfl rfl rfl rfl trivial ?_
              refine s1 195 289 2 rfl rfl rfl rfl rfl rfl trivial ?_
              refine e1 297 rfl ?_
              refine keep [1, 10, 11, 12, 195] rfl ?_
              refine q1 rfl (fun hc35 => ?_) (fun hc35 => ?_)
              · skip
                try simp only [ct, ne_eq] at hc35
                refine r1 ?_
                refine s1 2 297 1 rfl rfl rfl rfl rfl rfl trivial ?_
                refine e1 305 rfl ?_
                refine keep [2] rfl ?_
                refine W_ret ?_
                refine br ?_
                refine tr ?_
                refine tr ?_
                refine br ?_
                refine tr ?_
                exact out1 2 (SV.b (mayB l)) (π := []) (hout := []) Tryd.results8 rfl (by have hb : okB l.length (l.getD n default) = false := (by clear hno; (try simp only [Int.toNat_natCast] at *); generalize l.getD n default = o at *; first | exact ok_kind (by omega) | (rw [← Bool.not_eq_true]; (first | rw [ok_1 (by omega)] | rw [ok_2 (by omega)] | rw [ok_3 (by omega)] | rw [ok_4 (by omega)] | rw [ok_5 (by omega)] | rw [ok_6 (by omega)] | rw [ok_7 (by omega)] | rw [ok_8 (by omega)] | rw [ok_9 (by omega)] | rw [ok_10 (by omega)] | rw [ok_11 (by omega)] | rw [ok_12 (by omega)] | rw [ok_13 (by omega)] | rw [ok_14 (by omega)] | rw [ok_15 (by omega)] | rw [ok_16 (by omega)] | rw [ok_17 (by omega)]); (try simp [regB] at *); omega)); have := all_not (by omega) hb; show SV.b _ = SV.b _; refine congrArg SV.b ?_; simp [mayB, this]) rfl rfl trivial ⟨rfl, rfl⟩
              try simp only [ct, ne_eq] at hc35
              refine W_skip ?_
              refine bn ?_
              refine tn ?_
              refine r0 ?_
              refine sA 196 297 1 rfl rfl rfl rfl rfl rfl rfl rfl rfl (by unfold inRange; omega) ?_
              refine s1 12 305 2 rfl rfl rfl rfl rfl rfl trivial ?_
              refine e1 313 rfl ?_
              refine tn ?_
              exact again (n + 1) [0] ⟨by omega, fun j hj => by by_cases e : j = n; (subst e; (clear hno; (try simp only [Int.toNat_natCast] at *); generalize l.getD j default = o at *; (first | rw [ok_1 (by omega)] | rw [ok_2 (by omega)] | rw [ok_3 (by omega)] | rw [ok_4 (by omega)] | rw [ok_5 (by omega)] | rw [ok_6 (by omega)] | rw [ok_7 (by omega)] | rw [ok_8 (by omega)] | rw [ok_9 (by omega)] | rw [ok_10 (by omega)] | rw [ok_11 (by omega)] | rw [ok_12 (by omega)] | rw [ok_13 (by omega)] | rw [ok_14 (by omega)] | rw [ok_15 (by omega)] | rw [ok_16 (by omega)] | rw [ok_17 (by omega)]); (try simp [regB] at *); omega)); exact hno j (by omega)⟩ (by omega) rfl ⟨rfl, rfl, rfl, rfl, trivial⟩ ⟨rfl, trivial⟩
            try simp only [ct, ne_eq] at hg20_75
            refine g0 13 true 75 76 15 rfl rfl rfl rfl rfl rfl ?_
            refine g0 13 true 75 77 16 rfl rfl rfl rfl rfl rfl ?_
            refine g0 13 true 75 78 17 rfl rfl rfl rfl rfl rfl ?_
            refine s1 79 265 18 rfl rfl rfl rfl rfl rfl trivial ?_
            refine s1 6 273 19 rfl rfl rfl rfl rfl rfl trivial ?_
            refine e1 281 rfl ?_
            refine bn ?_
            refine tn ?_
            refine r1 ?_
            refine s1 194 281 1 rfl rfl rfl rfl rfl rfl trivial ?_
            refine s1 195 289 2 rfl rfl rfl rfl rfl rfl trivial ?_
            refine e1 297 rfl ?_
            refine keep [1, 10, 11, 12, 195] rfl ?_
            refine q1 rfl (fun hc35 => ?_) (fun hc35 => ?_)
            · skip
              try simp only [ct, ne_eq] at hc35
              refine r1 ?_
              refine s1 2 297 1 rfl rfl rfl rfl rfl rfl trivial ?_
              refine e1 305 rfl ?_
              refine keep [2] rfl ?_
              refine W_ret ?_
              refine br ?_
              refine tr ?_
              refine tr ?_
              refine br ?_
              refine tr ?_
              exact out1 2 (SV.b (mayB l)) (π := []) (hout := []) Tryd.results8 rfl (by have hb : okB l.length (l.getD n default) = false := (by clear hno; (try simp only [Int.toNat_natCast] at *); generalize l.getD n default = o at *; first | exact ok_kind (by omega) | (rw [← Bool.not_eq_true]; (first | rw [ok_1 (by omega)] | rw [ok_2 (by omega)] | rw [ok_3 (by omega)] | rw [ok_4 (by omega)] | rw [ok_5 (by omega)] | rw [ok_6 (by omega)] | rw [ok_7 (by omega)] | rw [ok_8 (by omega)] | rw [ok_9 (by omega)] | rw [ok_10 (by omega)] | rw [ok_11 (by omega)] | rw [ok_12 (by omega)] | rw [ok_13 (by omega)] | rw [ok_14 (by omega)] | rw [ok_15 (by omega)] | rw [ok_16 (by omega)] | rw [ok_17 (by omega)]); (try simp [regB] at *); omega)); have := all_not (by omega) hb; show SV.b _ = SV.b _; refine congrArg SV.b ?_; simp [mayB, this]) rfl rfl trivial ⟨rfl, rfl⟩
            exact absurd hc35 (by decide)
          try simp only [ct, ne_eq] at hg20_70
          refine g0 8 true 70 71 10 rfl rfl rfl rfl rfl rfl ?_
          refine g0 8 true 70 72 11 rfl rfl rfl rfl rfl rfl ?_
          refine g0 8 true 70 73 12 rfl rfl rfl rfl rfl rfl ?_
          refine s1 74 225 13 rfl rfl rfl rfl rfl rfl trivial ?_
          refine s1 75 233 14 rfl rfl rfl rfl rfl rfl trivial ?_
          refine g0 13 true 75 76 15 rfl rfl rfl rfl rfl rfl ?_
          refine g0 13 true 75 77 16 rfl rfl rfl rfl rfl rfl ?_
          refine g0 13 true 75 78 17 rfl rfl rfl rfl rfl rfl ?_
          refine s1 79 265 18 rfl rfl rfl rfl rfl rfl trivial ?_
          refine s1 6 273 19 rfl rfl rfl rfl rfl rfl trivial ?_
          refine e1 281 rfl ?_
          refine bn ?_
          refine tn ?_
          refine r1 ?_
          refine s1 194 281 1 rfl rfl rfl rfl rfl rfl trivial ?_
          refine s1 195 289 2 rfl rfl rfl rfl rfl rfl trivial ?_
          refine e1 297 rfl ?_
          refine keep [1, 10, 11, 12, 195] rfl ?_
          refine q1 rfl (fun hc35 => ?_) (fun hc35 => ?_)
          · skip
            try simp only [ct, ne_eq] at hc35
            refine r1 ?_
            refine s1 2 297 1 rfl rfl rfl rfl rfl rfl trivial ?_
            refine e1 305 rfl ?_
            refine keep [2] rfl ?_
            refine W_ret ?_
            refine br ?_
            refine tr ?_
            refine tr ?_
            refine br ?_
            refine tr ?_
            exact out1 2 (SV.b (mayB l)) (π := []) (hout := []) Tryd.results8 rfl (by have hb : okB l.length (l.getD n default) = false := (by clear hno; (try simp only [Int.toNat_natCast] at *); generalize l.getD n default = o at *; first | exact ok_kind (by omega) | (rw [← Bool.not_eq_true]; (first | rw [ok_1 (by omega)] | rw [ok_2 (by omega)] | rw [ok_3 (by omega)] | rw [ok_4 (by omega)] | rw [ok_5 (by omega)] | rw [ok_6 (by omega)] | rw [ok_7 (by omega)] | rw [ok_8 (by omega)] | rw [ok_9 (by omega)] | rw [ok_10 (by omega)] | rw [ok_11 (by omega)] | rw [ok_12 (by omega)] | rw [ok_13 (by omega)] | rw [ok_14 (by omega)] | rw [ok_15 (by omega)] | rw [ok_16 (by omega)] | rw [ok_17 (by omega)]); (try simp [regB] at *); omega)); have := all_not (by omega) hb; show SV.b _ = SV.b _; refine congrArg SV.b ?_; simp [mayB, this]) rfl rfl trivial ⟨rfl, rfl⟩
          exact absurd hc35 (by decide)
        try simp only [ct, ne_eq] at hg20_65
        refine g0 3 true 65 66 5 rfl rfl rfl rfl rfl rfl ?_
        refine g0 3 true 65 67 6 rfl rfl rfl rfl rfl rfl ?_
        refine g0 3 true 65 68 7 rfl rfl rfl rfl rfl rfl ?_
        refine s1 69 185 8 rfl rfl rfl rfl rfl rfl trivial ?_
        refine s1 70 193 9 rfl rfl rfl rfl rfl rfl trivial ?_
        refine g0 8 true 70 71 10 rfl rfl rfl rfl rfl rfl ?_
        refine g0 8 true 70 72 11 rfl rfl rfl rfl rfl rfl ?_
        refine g0 8 true 70 73 12 rfl rfl rfl rfl rfl rfl ?_
        refine s1 74 225 13 rfl rfl rfl rfl rfl rfl trivial ?_
        refine s1 75 233 14 rfl rfl rfl rfl rfl rfl trivial ?_
        refine g0 13 true 75 76 15 rfl rfl rfl rfl rfl rfl ?_
        refine g0 13 true 75 77 16 rfl rfl rfl rfl rfl rfl ?_
        refine g0 13 true 75 78 17 rfl rfl rfl rfl rfl rfl ?_
        refine s1 79 265 18 rfl rfl rfl rfl rfl rfl trivial ?_
        refine s1 6 273 19 rfl rfl rfl rfl rfl rfl trivial ?_
        refine e1 281 rfl ?_
        refine bn ?_
        refine tn ?_
        refine r1 ?_
        refine s1 194 281 1 rfl rfl rfl rfl rfl rfl trivial ?_
        refine s1 195 289 2 rfl rfl rfl rfl rfl rfl trivial ?_
        refine e1 297 rfl ?_
        refine keep [1, 10, 11, 12, 195] rfl ?_
        refine q1 rfl (fun hc35 => ?_) (fun hc35 => ?_)
        · skip
          try simp only [ct, ne_eq] at hc35
          refine r1 ?_
          refine s1 2 297 1 rfl rfl rfl rfl rfl rfl trivial ?_
          refine e1 305 rfl ?_
          refine keep [2] rfl ?_
          refine W_ret ?_
          refine br ?_
          refine tr ?_
          refine tr ?_
          refine br ?_
          refine tr ?_
          exact out1 2 (SV.b (mayB l)) (π := []) (hout := []) Tryd.results8 rfl (by have hb : okB l.length (l.getD n default) = false := (by clear hno; (try simp only [Int.toNat_natCast] at *); generalize l.getD n default = o at *; first | exact ok_kind (by omega) | (rw [← Bool.not_eq_true]; (first | rw [ok_1 (by omega)] | rw [ok_2 (by omega)] | rw [ok_3 (by omega)] | rw [ok_4 (by omega)] | rw [ok_5 (by omega)] | rw [ok_6 (by omega)] | rw [ok_7 (by omega)] | rw [ok_8 (by omega)] | rw [ok_9 (by omega)] | rw [ok_10 (by omega)] | rw [ok_11 (by omega)] | rw [ok_12 (by omega)] | rw [ok_13 (by omega)] | rw [ok_14 (by omega)] | rw [ok_15 (by omega)] | rw [ok_16 (by omega)] | rw [ok_17 (by omega)]); (try simp [regB] at *); omega)); have := all_not (by omega) hb; show SV.b _ = SV.b _; refine congrArg SV.b ?_; simp [mayB, this]) rfl rfl trivial ⟨rfl, rfl⟩
        exact absurd hc35 (by decide)
      try simp only [ct, ne_eq] at hc13
      exfalso; first | omega | contradiction | (simp_all; done)
    try simp only [ct, ne_eq] at hc13
    refine r1 ?_
    refine s1 56 129 1 rfl rfl rfl rfl rfl rfl trivial ?_
    refine s1 54 137 2 rfl rfl rfl rfl rfl rfl trivial ?_
    refine e1 145 rfl ?_
    refine keep [1, 4, 5, 6, 10, 11, 12, 18, 54] rfl ?_
    refine q1 rfl (fun hc14 => ?_) (fun hc14 => ?_)
    · skip
      try simp only [ct, ne_eq] at hc14
      refine W_skip ?_
      refine tn ?_
      refine q1 rfl (fun hc14 => ?_) (fun hc14 => ?_)
      · skip
        try simp only [ct, ne_eq] at hc14
        refine r0 ?_
        refine s1 62 145 1 rfl rfl rfl rfl rfl rfl trivial ?_
        refine s1 63 153 2 rfl rfl rfl rfl rfl rfl trivial ?_
        refine c1 (reg_any (l.getD n default).a) [] [] 64 161 3 rfl rfl rfl rfl rfl rfl rfl rfl Tryd.func18 rfl rfl rfl rfl trivial rfl rfl ?_
        refine s1 65 169 4 rfl rfl rfl rfl rfl rfl trivial ?_
        refine ask 65 rfl (fun hg20_65 => ?_) (fun hg20_65 => ?_)
        · skip
          try simp only [ct, ne_eq] at hg20_65
          refine g1 3 true 65 66 5 rfl rfl rfl rfl rfl ?_
          refine s1 66 177 5 rfl rfl rfl rfl rfl rfl trivial ?_
          refine g1 3 true 65 67 6 rfl rfl rfl rfl rfl ?_
          refine s1 67 185 6 rfl rfl rfl rfl rfl rfl trivial ?_
          refine g1 3 true 65 68 7 rfl rfl rfl rfl rfl ?_
          refine c1 (reg_any (l.getD n default).b) [] [] 68 193 7 rfl rfl rfl rfl rfl rfl rfl rfl Tryd.func18 rfl rfl rfl rfl trivial rfl rfl ?_
          refine s1 69 201 8 rfl rfl rfl rfl rfl rfl trivial ?_
          refine s1 70 209 9 rfl rfl rfl rfl rfl rfl trivial ?_
          refine ask 70 rfl (fun hg20_70 => ?_) (fun hg20_70 => ?_)
          · skip
            try simp only [ct, ne_eq] at hg20_70
            refine g1 8 true 70 71 10 rfl rfl rfl rfl rfl ?_
            refine s1 71 217 10 rfl rfl rfl rfl rfl rfl trivial ?_
            refine g1 8 true 70 72 11 rfl rfl rfl rfl rfl ?_
            refine s1 72 225 11 rfl rfl rfl rfl rfl rfl trivial ?_
            refine g1 8 true 70 73 12 rfl rfl rfl rfl rfl ?_
            refine c1 (reg_any (l.getD n default).c) [] [] 73 233 12 rfl rfl rfl rfl rfl rfl rfl rfl Tryd.func18 rfl rfl rfl rfl trivial rfl rfl ?_
            refine s1 74 241 13 rfl rfl rfl rfl rfl rfl trivial ?_
            refine s1 75 249 14 rfl rfl rfl rfl rfl rfl trivial ?_
            refine ask 75 rfl (fun hg20_75 => ?_) (fun hg20_75 => ?_)
            · skip
              try simp only [ct, ne_eq] at hg20_75
              refine g1 13 true 75 76 15 rfl rfl rfl rfl rfl ?_
              refine s1 76 257 15 rfl rfl rfl rfl rfl rfl trivial ?_
              refine g1 13 true 75 77 16 rfl rfl rfl rfl rfl ?_
              refine s1 77 265 16 rfl rfl rfl rfl rfl rfl trivial ?_
              refine g1 13 true 75 78 17 rfl rfl rfl rfl rfl ?_
              refine s1 78 273 17 rfl rfl rfl rfl rfl rfl trivial ?_
              refine s1 79 281 18 rfl rfl rfl rfl rfl rfl trivial ?_
              refine s1 6 289 19 rfl rfl rfl rfl rfl rfl trivial ?_
              refine e1 297 rfl ?_
              refine bn ?_
              refine tn ?_
              refine r1 ?_
              refine s1 194 297 1 rfl rfl rfl rfl rfl rfl trivial ?_
              refine s1 195 305 2 rfl rfl rfl rfl rfl rfl trivial ?_
              refine e1 313 rfl ?_
              refine keep [1, 10, 11, 12, 195] rfl ?_
              refine q1 rfl (fun hc35 => ?_) (fun hc35 => ?_)
              · skip
                try simp only [ct, ne_eq] at hc35
                refine r1 ?_
                refine s1 2 313 1 rfl rfl rfl rfl rfl rfl trivial ?_
                refine e1 321 rfl ?_
                refine keep [2] rfl ?_
                refine W_ret ?_
                refine br ?_
                refine tr ?_
                refine tr ?_
                refine br ?_
                refine tr ?_
                exact out1 2 (SV.b (mayB l)) (π := []) (hout := []) Tryd.results8 rfl (by have hb : okB l.length (l.getD n default) = false := (by clear hno; (try simp only [Int.toNat_natCast] at *); generalize l.getD n default = o at *; first | exact ok_kind (by omega) | (rw [← Bool.not_eq_true]; (first | rw [ok_1 (by omega)] | rw [ok_2 (by omega)] | rw [ok_3 (by omega)] | rw [ok_4 (by omega)] | rw [ok_5 (by omega)] | rw [ok_6 (by omega)] | rw [ok_7 (by omega)] | rw [ok_8 (by omega)] | rw [ok_9 (by omega)] | rw [ok_10 (by omega)] | rw [ok_11 (by omega)] | rw [ok_12 (by omega)] | rw [ok_13 (by omega)] | rw [ok_14 (by omega)] | rw [ok_15 (by omega)] | rw [ok_16 (by omega)] | rw [ok_17 (by omega)]); (try simp [regB] at *); omega)); have := all_not (by omega) hb; show SV.b _ = SV.b _; refine congrArg SV.b ?_; simp [mayB, this]) rfl rfl trivial ⟨rfl, rfl⟩
              try simp only [ct, ne_eq] at hc35
              refine W_skip ?_
              refine bn ?_
              refine tn ?_
              refine r0 ?_
              refine sA 196 313 1 rfl rfl rfl rfl rfl rfl rfl rfl rfl (by unfold inRange; omega) ?_
              refine s1 12 321 2 rfl rfl rfl rfl rfl rfl trivial ?_
              refine e1 329 rfl ?_
              refine tn ?_
              exact again (n + 1) [0] ⟨by omega, fun j hj => by by_cases e : j = n; (subst e; (clear hno; (try simp only [Int.toNat_natCast] at *); generalize l.getD j default = o at *; (first | rw [ok_1 (by omega)] | rw [ok_2 (by omega)] | rw [ok_3 (by omega)] | rw [ok_4 (by omega)] | rw [ok_5 (by omega)] | rw [ok_6 (by omega)] | rw [ok_7 (by omega)] | rw [ok_8 (by omega)] | rw [ok_9 (by omega)] | rw [ok_10 (by omega)] | rw [ok_11 (by omega)] | rw [ok_12 (by omega)] | rw [ok_13 (by omega)] | rw [ok_14 (by omega)] | rw [ok_15 (by omega)] | rw [ok_16 (by omega)] | rw [ok_17 (by omega)]); (try simp [regB] at *); omega)); exact hno j (by omega)⟩ (by omega) rfl ⟨rfl, rfl, rfl, rfl, trivial⟩ ⟨rfl, trivial⟩
            try simp only [ct, ne_eq] at hg20_75
            refine g0 13 true 75 76 15 rfl rfl rfl rfl rfl rfl ?_
            refine g0 13 true 75 77 16 rfl rfl rfl rfl rfl rfl ?_
            refine g0 13 true 75 78 17 rfl rfl rfl rfl rfl rfl ?_
            refine s1 79 281 18 rfl rfl rfl rfl rfl rfl trivial ?_
            refine s1 6 289 19 rfl rfl rfl rfl rfl rfl trivial ?_
            refine e1 297 rfl ?_
            refine bn ?_
            refine tn ?_
            refine r1 ?_
            refine s1 194 297 1 rfl rfl rfl rfl rfl rfl trivial ?_
            refine s1 195 305 2 rfl rfl rfl rfl rfl rfl trivial ?_
            refine e1 313 rfl ?_
            refine keep [1, 10, 11, 12, 195] rfl ?_
            refine q1 rfl (fun hc35 => ?_) (fun hc35 => ?_)
            · skip
              try simp only [ct, ne_eq] at hc35
              refine r1 ?_
              refine s1 2 313 1 rfl rfl rfl rfl rfl rfl trivial ?_
              refine e1 321 rfl ?_
              refine keep [2] rfl ?_
              refine W_ret ?_
              refine br ?_
              refine tr ?_
              refine tr ?_
              refine br ?_
              refine tr ?_
              exact out1 2 (SV.b (mayB l)) (π := []) (hout := []) Tryd.results8 rfl (by have hb : okB l.length (l.getD n default) = false := (by clear hno; (try simp only [Int.toNat_natCast] at *); generalize l.getD n default = o at *; first | exact ok_kind (by omega) | (rw [← Bool.not_eq_true]; (first | rw [ok_1 (by omega)] | rw [ok_2 (by omega)] | rw [ok_3 (by omega)] | rw [ok_4 (by omega)] | rw [ok_5 (by omega)] | rw [ok_6 (by omega)] | rw [ok_7 (by omega)] | rw [ok_8 (by omega)] | rw [ok_9 (by omega)] | rw [ok_10 (by omega)] | rw [ok_11 (by omega)] | rw [ok_12 (by omega)] | rw [ok_13 (by omega)] | rw [ok_14 (by omega)] | rw [ok_15 (by omega)] | rw [ok_16 (by omega)] | rw [ok_17 (by omega)]); (try simp [regB] at *); omega)); have := all_not (by omega) hb; show SV.b _ = SV.b _; refine congrArg SV.b ?_; simp [mayB, this]) rfl rfl trivial ⟨rfl, rfl⟩
            exact absurd hc35 (by decide)
          try simp only [ct, ne_eq] at hg20_70
          refine g0 8 true 70 71 10 rfl rfl rfl rfl rfl rfl ?_
          refine g0 8 true 70 72 11 rfl rfl rfl rfl rfl rfl ?_
          refine g0 8 true 70 73 12 rfl rfl rfl rfl rfl rfl ?_
          refine s1 74 241 13 rfl rfl rfl rfl rfl rfl trivial ?_
          refine s1 75 249 14 rfl rfl rfl rfl rfl rfl trivial ?_
          refine g0 13 true 75 76 15 rfl rfl rfl rfl rfl rfl ?_
          refine g0 13 true 75 77 16 rfl rfl rfl rfl rfl rfl ?_
          refine g0 13 true 75 78 17 rfl rfl rfl rfl rfl rfl ?_
          refine s1 79 281 18 rfl rfl rfl rfl rfl rfl trivial ?_
          refine s1 6 289 19 rfl rfl rfl rfl rfl rfl trivial ?_
          refine e1 297 rfl ?_
          refine bn ?_
          refine tn ?_
          refine r1 ?_
          refine s1 194 297 1 rfl rfl rfl rfl rfl rfl trivial ?_
          refine s1 195 305 2 rfl rfl rfl rfl rfl rfl trivial ?_
          refine e1 313 rfl ?_
          refine keep [1, 10, 11, 12, 195] rfl ?_
          refine q1 rfl (fun hc35 => ?_) (fun hc35 => ?_)
          · skip
            try simp only [ct, ne_eq] at hc35
            refine r1 ?_
            refine s1 2 313 1 rfl rfl rfl rfl rfl rfl trivial ?_
            refine e1 321 rfl ?_
            refine keep [2] rfl ?_
            refine W_ret ?_
            refine br ?_
            refine tr ?_
            refine tr ?_
            refine br ?_
            refine tr ?_
            exact out1 2 (SV.b (mayB l)) (π := []) (hout := []) Tryd.results8 rfl (by have hb : okB l.length (l.getD n default) = false := (by clear hno; (try simp only [Int.toNat_natCast] at *); generalize l.getD n default = o at *; first | exact ok_kind (by omega) | (rw [← Bool.not_eq_true]; (first | rw [ok_1 (by omega)] | rw [ok_2 (by omega)] | rw [ok_3 (by omega)] | rw [ok_4 (by omega)] | rw [ok_5 (by omega)] | rw [ok_6 (by omega)] | rw [ok_7 (by omega)] | rw [ok_8 (by omega)] | rw [ok_9 (by omega)] | rw [ok_10 (by omega)] | rw [ok_11 (by omega)] | rw [ok_12 (by omega)] | rw [ok_13 (by omega)] | rw [ok_14 (by omega)] | rw [ok_15 (by omega)] | rw [ok_16 (by omega)] | rw [ok_17 (by omega)]); (try simp [regB] at *); omega)); have := all_not (by omega) hb; show SV.b _ = SV.b _; refine congrArg SV.b ?_; simp [mayB, this]) rfl rfl trivial ⟨rfl, rfl⟩
          exact absurd hc35 (by decide)
        try simp only [ct, ne_eq] at hg20_65
        refine g0 3 true 65 66 5 rfl rfl rfl rfl rfl rfl ?_
        refine g0 3 true 65 67 6 rfl rfl rfl rfl rfl rfl ?_
        refine g0 3 true 65 68 7 rfl rfl rfl rfl rfl rfl ?_
        refine s1 69 201 8 rfl rfl rfl rfl rfl rfl trivial ?_
        refine s1 70 209 9 rfl rfl rfl rfl rfl rfl trivial ?_
        refine g0 8 true 70 71 10 rfl rfl rfl rfl rfl rfl ?_
        refine g0 8 true 70 72 11 rfl rfl rfl rfl rfl rfl ?_
        refine g0 8 true 70 73 12 rfl rfl rfl rfl rfl rfl ?_
        refine s1 74 241 13 rfl rfl rfl rfl rfl rfl trivial ?_
        refine s1 75 249 14 rfl rfl rfl rfl rfl rfl trivial ?_
        refine g0 13 true 75 76 15 rfl rfl rfl rfl rfl rfl ?_
        refine g0 13 true 75 77 16 rfl rfl rfl rfl rfl rfl ?_
        refine g0 13 true 75 78 17 rfl rfl rfl rfl rfl rfl ?_
        refine s1 79 281 18 rfl rfl rfl rfl rfl rfl trivial ?_
        refine s1 6 289 19 rfl rfl rfl rfl rfl rfl trivial ?_
        refine e1 297 rfl ?_
        refine bn ?_
        refine tn ?_
        refine r1 ?_
        refine s1 194 297 1 rfl rfl rfl rfl rfl rfl trivial ?_
        refine s1 195 305 2 rfl rfl rfl rfl rfl rfl trivial ?_
        refine e1 313 rfl ?_
        refine keep [1, 10, 11, 12, 195] rfl ?_
        refine q1 rfl (fun hc35 => ?_) (fun hc35 => ?_)
        · skip
          try simp only [ct, ne_eq] at hc35
          refine r1 ?_
          refine s1 2 313 1 rfl rfl rfl rfl rfl rfl trivial ?_
          refine e1 321 rfl ?_
          refine keep [2] rfl ?_
          refine W_ret ?_
          refine br ?_
          refine tr ?_
          refine tr ?_
          refine br ?_
          refine tr ?_
          exact out1 2 (SV.b (mayB l)) (π := []) (hout := []) Tryd.results8 rfl (by have hb : okB l.length (l.getD n default) = false := (by clear hno; (try simp only [Int.toNat_natCast] at *); generalize l.getD n default = o at *; first | exact ok_kind (by omega) | (rw [← Bool.not_eq_true]; (first | rw [ok_1 (by omega)] | rw [ok_2 (by omega)] | rw [ok_3 (by omega)] | rw [ok_4 (by omega)] | rw [ok_5 (by omega)] | rw [ok_6 (by omega)] | rw [ok_7 (by omega)] | rw [ok_8 (by omega)] | rw [ok_9 (by omega)] | rw [ok_10 (by omega)] | rw [ok_11 (by omega)] | rw [ok_12 (by omega)] | rw [ok_13 (by omega)] | rw [ok_14 (by omega)] | rw [ok_15 (by omega)] | rw [ok_16 (by omega)] | rw [ok_17 (by omega)]); (try simp [regB] at *); omega)); have := all_not (by omega) hb; show SV.b _ = SV.b _; refine congrArg SV.b ?_; simp [mayB, this]) rfl rfl trivial ⟨rfl, rfl⟩
        exact absurd hc35 (by decide)
      try simp only [ct, ne_eq] at hc14
      exfalso; first | omega | contradiction | (simp_all; done)
    try simp only [ct, ne_eq] at hc14
    refine r1 ?_
    refine s1 57 145 1 rfl rfl rfl rfl rfl rfl trivial ?_
    refine s1 54 153 2 rfl rfl rfl rfl rfl rfl trivial ?_
    refine e1 161 rfl ?_
    refine keep [1, 4, 5, 6, 10, 11, 12, 18, 54] rfl ?_
    refine q1 rfl (fun hc15 => ?_) (fun hc15 => ?_)
    · skip
      try simp only [ct, ne_eq] at hc15
      refine W_skip ?_
      refine tn ?_
      refine q1 rfl (fun hc15 => ?_) (fun hc15 => ?_)
      · skip
        try simp only [ct, ne_eq] at hc15
        refine r0 ?_
        refine s1 62 161 1 rfl rfl rfl rfl rfl rfl trivial ?_
        refine s1 63 169 2 rfl rfl rfl rfl rfl rfl trivial ?_
        refine c1 (reg_any (l.getD n default).a) [] [] 64 177 3 rfl rfl rfl rfl rfl rfl rfl rfl Tryd.func18 rfl rfl rfl rfl trivial rfl rfl ?_
        refine s1 65 185 4 rfl rfl rfl rfl rfl rfl trivial ?_
        refine ask 65 rfl (fun hg20_65 => ?_) (fun hg20_65 => ?_)
        · skip
          try simp only [ct, ne_eq] at hg20_65
          refine g1 3 true 65 66 5 rfl rfl rfl rfl rfl ?_
          refine s1 66 193 5 rfl rfl rfl rfl rfl rfl trivial ?_
          refine g1 3 true 65 67 6 rfl rfl rfl rfl rfl ?_
          refine s1 67 201 6 rfl rfl rfl rfl rfl rfl trivial ?_
          refine g1 3 true 65 68 7 rfl rfl rfl rfl rfl ?_
          refine c1 (reg_any (l.getD n default).b) [] [] 68 209 7 rfl rfl rfl rfl rfl rfl rfl rfl Tryd.func18 rfl rfl rfl rfl trivial rfl rfl ?_
          refine s1 69 217 8 rfl rfl rfl rfl rfl rfl trivial ?_
          refine s1 70 225 9 rfl rfl rfl rfl rfl rfl trivial ?_
          refine ask 70 rfl (fun hg20_70 => ?_) (fun hg20_70 => ?_)
          · skip
            try simp only [ct, ne_eq] at hg20_70
            refine g1 8 true 70 71 10 rfl rfl rfl rfl rfl ?_
            refine s1 71 233 10 rfl rfl rfl rfl rfl rfl trivial ?_
            refine g1 8 true 70 72 11 rfl rfl rfl rfl rfl ?_
            refine s1 72 241 11 rfl rfl rfl rfl rfl rfl trivial ?_
            refine g1 8 true 70 73 12 rfl rfl rfl rfl rfl ?_
            refine c1 (reg_any (l.getD n default).c) [] [] 73 249 12 rfl rfl rfl rfl rfl rfl rfl rfl Tryd.func18 rfl rfl rfl rfl trivial rfl rfl ?_
            refine s1 74 257 13 rfl rfl rfl rfl rfl rfl trivial ?_
            refine s1 75 265 14 rfl rfl rfl rfl rfl rfl trivial ?_
            refine ask 75 rfl (fun hg20_75 => ?_) (fun hg20_75 => ?_)
            · skip
              try simp only [ct, ne_eq] at hg20_75
              refine g1 13 true 75 76 15 rfl rfl rfl rfl rfl ?_
              refine s1 76 273 15 rfl rfl rfl rfl rfl rfl trivial ?_
              refine g1 13 true 75 77 16 rfl rfl rfl rfl rfl ?_
              refine s1 77 281 16 rfl rfl rfl rfl rfl rfl trivial ?_
              refine g1 13 true 75 78 17 rfl rfl rfl rfl rfl ?_
              refine s1 78 289 17 rfl rfl rfl rfl rfl rfl trivial ?_
              refine s1 79 297 18 rfl rfl rfl rfl rfl rfl trivial ?_
              refine s1 6 305 19 rfl rfl rfl rfl rfl rfl trivial ?_
              refine e1 313 rfl ?_
              refine bn ?_
              refine tn ?_
              refine r1 ?_
              refine s1 194 313 1 rfl rfl rfl rfl rfl rfl trivial ?_
              refine s1 195 321 2 rfl rfl rfl rfl rfl rfl trivial ?_
              refine e1 329 rfl ?_
              refine keep [1, 10, 11, 12, 195] rfl ?_
              refine q1 rfl (fun hc35 => ?_) (fun hc35 => ?_)
              · skip
                try simp only [ct, ne_eq] at hc35
                refine r1 ?_
                refine s1 2 329 1 rfl rfl rfl rfl rfl rfl trivial ?_
                refine e1 337 rfl ?_
                refine keep [2] rfl ?_
                refine W_ret ?_
                refine br ?_
                refine tr ?_
                refine tr ?_
                refine br ?_
                refine tr ?_
                exact out1 2 (SV.b (mayB l)) (π := []) (hout := []) Tryd.results8 rfl (by have hb : okB l.length (l.getD n default) = false := (by clear hno; (try simp only [Int.toNat_natCast] at *); generalize l.getD n default = o at *; first | exact ok_kind (by omega) | (rw [← Bool.not_eq_true]; (first | rw [ok_1 (by omega)] | rw [ok_2 (by omega)] | rw [ok_3 (by omega)] | rw [ok_4 (by omega)] | rw [ok_5 (by omega)] | rw [ok_6 (by omega)] | rw [ok_7 (by omega)] | rw [ok_8 (by omega)] | rw [ok_9 (by omega)] | rw [ok_10 (by omega)] | rw [ok_11 (by omega)] | rw [ok_12 (by omega)] | rw [ok_13 (by omega)] | rw [ok_14 (by omega)] | rw [ok_15 (by omega)] | rw [ok_16 (by omega)] | rw [ok_17 (by omega)]); (try simp [regB] at *); omega)); have := all_not (by omega) hb; show SV.b _ = SV.b _; refine congrArg SV.b ?_; simp [mayB, this]) rfl rfl trivial ⟨rfl, rfl⟩
              try simp only [ct, ne_eq] at hc35
              refine W_skip ?_
              refine bn ?_
              refine tn ?_
              refine r0 ?_
              refine sA 196 329 1 rfl rfl rfl rfl rfl rfl rfl rfl rfl (by unfold inRange; omega) ?_
              refine s1 12 337 2 rfl rfl rfl rfl rfl rfl trivial ?_
              refine e1 345 rfl ?_
              refine tn ?_
              exact again (n + 1) [0] ⟨by omega, fun j hj => by by_cases e : j = n; (subst e; (clear hno; (try simp only [Int.toNat_natCast] at *); generalize l.getD j default = o at *; (first | rw [ok_1 (by omega)] | rw [ok_2 (by omega)] | rw [ok_3 (by omega)] | rw [ok_4 (by omega)] | rw [ok_5 (by omega)] | rw [ok_6 (by omega)] | rw [ok_7 (by omega)] | rw [ok_8 (by omega)] | rw [ok_9 (by omega)] | rw [ok_10 (by omega)] | rw [ok_11 (by omega)] | rw [ok_12 (by omega)] | rw [ok_13 (by omega)] | rw [ok_14 (by omega)] | rw [ok_15 (by omega)] | rw [ok_16 (by omega)] | rw [ok_17 (by omega)]); (try simp [regB] at *); omega)); exact hno j (by omega)⟩ (by omega) rfl ⟨rfl, rfl, rfl, rfl, trivial⟩ ⟨rfl, trivial⟩
            try simp only [ct, ne_eq] at hg20_75
            refine g0 13 true 75 76 15 rfl rfl rfl rfl rfl rfl ?_
            refine g0 13 true 75 77 16 rfl rfl rfl rfl rfl rfl ?_
            refine g0 13 true 75 78 17 rfl rfl rfl rfl rfl rfl ?_
            refine s1 79 297 18 rfl rfl rfl rfl rfl rfl trivial ?_
            refine s1 6 305 19 rfl rfl rfl rfl rfl rfl trivial ?_
            refine e1 313 rfl ?_
            refine bn ?_
            refine tn ?_
            refine r1 ?_
            refine s1 194 313 1 rfl rfl rfl rfl rfl rfl trivial ?_
            refine s1 195 321 2 rfl rfl rfl rfl rfl rfl trivial ?_
            refine e1 329 rfl ?_
            refine keep [1, 10, 11, 12, 195] rfl ?_
            refine q1 rfl (fun hc35 => ?_) (fun hc35 => ?_)
            · skip
              try simp only [ct, ne_eq] at hc35
              refine r1 ?_
              refine s1 2 329 1 rfl rfl rfl rfl rfl rfl trivial ?_
              refine e1 337 rfl ?_
              refine keep [2] rfl ?_
              refine W_ret ?_
              refine br ?_
              refine tr ?_
              refine tr ?_
              refine br ?_
              refine tr ?_
              exact out1 2 (SV.b (mayB l)) (π := []) (hout := []) Tryd.results8 rfl (by have hb : okB l.length (l.getD n default) = false := (by clear hno; (try simp only [Int.toNat_natCast] at *); generalize l.getD n default = o at *; first | exact ok_kind (by omega) | (rw [← Bool.not_eq_true]; (first | rw [ok_1 (by omega)] | rw [ok_2 (by omega)] | rw [ok_3 (by omega)] | rw [ok_4 (by omega)] | rw [ok_5 (by omega)] | rw [ok_6 (by omega)] | rw [ok_7 (by omega)] | rw [ok_8 (by omega)] | rw [ok_9 (by omega)] | rw [ok_10 (by omega)] | rw [ok_11 (by omega)] | rw [ok_12 (by omega)] | rw [ok_13 (by omega)] | rw [ok_14 (by omega)] | rw [ok_15 (by omega)] | rw [ok_16 (by omega)] | rw [ok_17 (by omega)]); (try simp [regB] at *); omega)); have := all_not (by omega) hb; show SV.b _ = SV.b _; refine congrArg SV.b ?_; simp [mayB, this]) rfl rfl trivial ⟨rfl, rfl⟩
            exact absurd hc35 (by decide)
          try simp only [ct, ne_eq] at hg20_70
          refine g0 8 true 70 71 10 rfl rfl rfl rfl rfl rfl ?_
          refine g0 8 true 70 72 11 rfl rfl rfl rfl rfl rfl ?_
          refine g0 8 true 70 73 12 rfl rfl rfl rfl rfl rfl ?_
          refine s1 74 257 13 rfl rfl rfl rfl rfl rfl trivial ?_
          refine s1 75 265 14 rfl rfl rfl rfl rfl rfl trivial ?_
          refine g0 13 true 75 76 15 rfl rfl rfl rfl rfl rfl ?_
          refine g0 13 true 75 77 16 rfl rfl rfl rfl rfl rfl ?_
          refine g0 13 true 75 78 17 rfl rfl rfl rfl rfl rfl ?_
          refine s1 79 297 18 rfl rfl rfl rfl rfl rfl trivial ?_
          refine s1 6 305 19 rfl rfl rfl rfl rfl rfl trivial ?_
          refine e1 313 rfl ?_
          refine bn ?_
          refine tn ?_
          refine r1 ?_
          refine s1 194 313 1 rfl rfl rfl rfl rfl rfl trivial ?_
          refine s1 195 321 2 rfl rfl rfl rfl rfl rfl trivial ?_
          refine e1 329 rfl ?_
          refine keep [1, 10, 11, 12, 195] rfl ?_
          refine q1 rfl (fun hc35 => ?_) (fun hc35 => ?_)
          · skip
            try simp only [ct, ne_eq] at hc35
            refine r1 ?_
            refine s1 2 329 1 rfl rfl rfl rfl rfl rfl trivial ?_
            refine e1 337 rfl ?_
            refine keep [2] rfl ?_
            refine W_ret ?_
            refine br ?_
            refine tr ?_
            refine tr ?_
            refine br ?_
            refine tr ?_
            exact out1 2 (SV.b (mayB l)) (π := []) (hout := []) Tryd.results8 rfl (by have hb : okB l.length (l.getD n default) = false := (by clear hno; (try simp only [Int.toNat_natCast] at *); generalize l.getD n default = o at *; first | exact ok_kind (by omega) | (rw [← Bool.not_eq_true]; (first | rw [ok_1 (by omega)] | rw [ok_2 (by omega)] | rw [ok_3 (by omega)] | rw [ok_4 (by omega)] | rw [ok_5 (by omega)] | rw [ok_6 (by omega)] | rw [ok_7 (by omega)] | rw [ok_8 (by omega)] | rw [ok_9 (by omega)] | rw [ok_10 (by omega)] | rw [ok_11 (by omega)] | rw [ok_12 (by omega)] | rw [ok_13 (by omega)] | rw [ok_14 (by omega)] | rw [ok_15 (by omega)] | rw [ok_16 (by omega)] | rw [ok_17 (by omega)]); (try simp [regB] at *); omega)); have := all_not (by omega) hb; show SV.b _ = SV.b _; refine congrArg SV.b ?_; simp [mayB, this]) rfl rfl trivial ⟨rfl, rfl⟩
          exact absurd hc35 (by decide)
        try simp only [ct, ne_eq] at hg20_65
        refine g0 3 true 65 66 5 rfl rfl rfl rfl rfl rfl ?_
        refine g0 3 true 65 67 6 rfl rfl rfl rfl rfl rfl ?_
        refine g0 3 true 65 68 7 rfl rfl rfl rfl rfl rfl ?_
        refine s1 69 217 8 rfl rfl rfl rfl rfl rfl trivial ?_
        refine s1 70 225 9 rfl rfl rfl rfl rfl rfl trivial ?_
        refine g0 8 true 70 71 10 rfl rfl rfl rfl rfl rfl ?_
        refine g0 8 true 70 72 11 rfl rfl rfl rfl rfl rfl ?_
        refine g0 8 true 70 73 12 rfl rfl rfl rfl rfl rfl ?_
        refine s1 74 257 13 rfl rfl rfl rfl rfl rfl trivial ?_
        refine s1 75 265 14 rfl rfl rfl rfl rfl rfl trivial ?_
        refine g0 13 true 75 76 15 rfl rfl rfl rfl rfl rfl ?_
        refine g0 13 true 75 77 16 rfl rfl rfl rfl rfl rfl ?_
        refine g0 13 true 75 78 17 rfl rfl rfl rfl rfl rfl ?_
        refine s1 79 297 18 rfl rfl rfl rfl rfl rfl trivial ?_
        refine s1 6 305 19 rfl rfl rfl rfl rfl rfl trivial ?_
        refine e1 313 rfl ?_
        refine bn ?_
        refine tn ?_
        refine r1 ?_
        refine s1 194 313 1 rfl rfl rfl rfl rfl rfl trivial ?_
        refine s1 195 321 2 rfl rfl rfl rfl rfl rfl trivial ?_
        refine e1 329 rfl ?_
        refine keep [1, 10, 11, 12, 195] rfl ?_
        refine q1 rfl (fun hc35 => ?_) (fun hc35 => ?_)
        · skip
          try simp only [ct, ne_eq] at hc35
          refine r1 ?_
          refine s1 2 329 1 rfl rfl rfl rfl rfl rfl trivial ?_
          refine e1 337 rfl ?_
          refine keep [2] rfl ?_
          refine W_ret ?_
          refine br ?_
          refine tr ?_
          refine tr ?_
          refine br ?_
          refine tr ?_
          exact out1 2 (SV.b (mayB l)) (π := []) (hout := []) Tryd.results8 rfl (by have hb : okB l.length (l.getD n default) = false := (by clear hno; (try simp only [Int.toNat_natCast] at *); generalize l.getD n default = o at *; first | exact ok_kind (by omega) | (rw [← Bool.not_eq_true]; (first | rw [ok_1 (by omega)] | rw [ok_2 (by omega)] | rw [ok_3 (by omega)] | rw [ok_4 (by omega)] | rw [ok_5 (by omega)] | rw [ok_6 (by omega)] | rw [ok_7 (by omega)] | rw [ok_8 (by omega)] | rw [ok_9 (by omega)] | rw [ok_10 (by omega)] | rw [ok_11 (by omega)] | rw [ok_12 (by omega)] | rw [ok_13 (by omega)] | rw [ok_14 (by omega)] | rw [ok_15 (by omega)] | rw [ok_16 (by omega)] | rw [ok_17 (by omega)]); (try simp [regB] at *); omega)); have := all_not (by omega) hb; show SV.b _ = SV.b _; refine congrArg SV.b ?_; simp [mayB, this]) rfl rfl trivial ⟨rfl, rfl⟩
        exact absurd hc35 (by decide)
      try simp only [ct, ne_eq] at hc15
      exfalso; first | omega | contradiction | (simp_all; done)
    try simp only [ct, ne_eq] at hc15
    refine r1 ?_
    refine s1 58 161 1 rfl rfl rfl rfl rfl rfl trivial ?_
    refine s1 54 169 2 rfl rfl rfl rfl rfl rfl trivial ?_
    refine e1 177 rfl ?_
    refine keep [1, 4, 5, 6, 10, 11, 12, 18, 54] rfl ?_
    refine q1 rfl (fun hc16 => ?_) (fun hc16 => ?_)
    · skip
      try simp only [ct, ne_eq] at hc16
      refine W_skip ?_
      refine tn ?_
      refine q1 rfl (fun hc16 => ?_) (fun hc16 => ?_)
      · skip
        try simp only [ct, ne_eq] at hc16
        refine r0 ?_
        refine s1 62 177 1 rfl rfl rfl rfl rfl rfl trivial ?_
        refine s1 63 185 2 rfl rfl rfl rfl rfl rfl trivial ?_
        refine c1 (reg_any (l.getD n default).a) [] [] 64 193 3 rfl rfl rfl rfl rfl rfl rfl rfl Tryd.func18 rfl rfl rfl rfl trivial rfl rfl ?_
        refine s1 65 201 4 rfl rfl rfl rfl rfl rfl trivial ?_
        refine ask 65 rfl (fun hg20_65 => ?_) (fun hg20_65 => ?_)
        · skip
          try simp only [ct, ne_eq] at hg20_65
          refine g1 3 true 65 66 5 rfl rfl rfl rfl rfl ?_
          refine s1 66 209 5 rfl rfl rfl rfl rfl rfl trivial ?_
          refine g1 3 true 65 67 6 rfl rfl rfl rfl rfl ?_
          refine s1 67 217 6 rfl rfl rfl rfl rfl rfl trivial ?_
          refine g1 3 true 65 68 7 rfl rfl rfl rfl rfl ?_
          refine c1 (reg_any (l.getD n default).b) [] [] 68 225 7 rfl rfl rfl rfl rfl rfl rfl rfl Tryd.func18 rfl rfl rfl rfl trivial rfl rfl ?_
          refine s1 69 233 8 rfl rfl rfl rfl rfl rfl trivial ?_
          refine s1 70 241 9 rfl rfl rfl rfl rfl rfl trivial ?_
          refine ask 70 rfl (fun hg20_70 => ?_) (fun hg20_70 => ?_)
          · skip
            try simp only [ct, ne_eq] at hg20_70
            refine g1 8 true 70 71 10 rfl rfl rfl rfl rfl ?_
            refine s1 71 249 10 rfl rfl rfl rfl rfl rfl trivial ?_
            refine g1 8 true 70 72 11 rfl rfl rfl rfl rfl ?_
            refine s1 72 257 11 rfl rfl rfl rfl rfl rfl trivial ?_
            refine g1 8 true 70 73 12 rfl rfl rfl rfl rfl ?_
            refine c1 (reg_any (l.getD n default).c) [] [] 73 265 12 rfl rfl rfl rfl rfl rfl rfl rfl Tryd.func18 rfl rfl rfl rfl trivial rfl rfl ?_
            refine s1 74 273 13 rfl rfl rfl rfl rfl rfl trivial ?_
            refine s1 75 281 14 rfl rfl rfl rfl rfl rfl trivial ?_
            refine ask 75 rfl (fun hg20_75 => ?_) (fun hg20_75 => ?_)
            · skip
              try simp only [ct, ne_eq] at hg20_75
              refine g1 13 true 75 76 15 rfl rfl rfl rfl rfl ?_
              refine s1 76 289 15 rfl rfl rfl rfl rfl rfl trivial ?_
              refine g1 13 true 75 77 16 rfl rfl rfl rfl rfl ?_
              refine s1 77 297 16 rfl rfl rfl rfl rfl rfl trivial ?_
              refine g1 13 true 75 78 17 rfl rfl rfl rfl rfl ?_
              refine s1 78 305 17 rfl rfl rfl rfl rfl rfl trivial ?_
              refine s1 79 313 18 rfl rfl rfl rfl rfl rfl trivial ?_
              refine s1 6 321 19 rfl rfl rfl rfl rfl rfl trivial ?_
              refine e1 329 rfl ?_
              refine bn ?_
              refine tn ?_
              refine r1 ?_
              refine s1 194 329 1 rfl rfl rfl rfl rfl rfl trivial ?_
              refine s1 195 337 2 rfl rfl rfl rfl rfl rfl trivial ?_
              refine e1 345 rfl ?_
              refine keep [1, 10, 11, 12, 195] rfl ?_
              refine q1 rfl (fun hc35 => ?_) (fun hc35 => ?_)
              · skip
                try simp only [ct, ne_eq] at hc35
                refine r1 ?_
                refine s1 2 345 1 rfl rfl rfl rfl rfl rfl trivial ?_
                refine e1 353 rfl ?_
                refine keep [2] rfl ?_
                refine W_ret ?_
                refine br ?_
                refine tr ?_
                refine tr ?_
                refine br ?_
                refine tr ?_
                exact out1 2 (SV.b (mayB l)) (π := []) (hout := []) Tryd.results8 rfl (by have hb : okB l.length (l.getD n default) = false := (by clear hno; (try simp only [Int.toNat_natCast] at *); generalize l.getD n default = o at *; first | exact ok_kind (by omega) | (rw [← Bool.not_eq_true]; (first | rw [ok_1 (by omega)] | rw [ok_2 (by omega)] | rw [ok_3 (by omega)] | rw [ok_4 (by omega)] | rw [ok_5 (by omega)] | rw [ok_6 (by omega)] | rw [ok_7 (by omega)] | rw [ok_8 (by omega)] | rw [ok_9 (by omega)] | rw [ok_10 (by omega)] | rw [ok_11 (by omega)] | rw [ok_12 (by omega)] | rw [ok_13 (by omega)] | rw [ok_14 (by omega)] | rw [ok_15 (by omega)] | rw [ok_16 (by omega)] | rw [ok_17 (by omega)]); (try simp [regB] at *); omega)); have := all_not (by omega) hb; show SV.b _ = SV.b _; refine congrArg SV.b ?_; simp [mayB, this]) rfl rfl trivial ⟨rfl, rfl⟩
              try simp only [ct, ne_eq] at hc35
              refine W_skip ?_
              refine bn ?_
              refine tn ?_
              refine r0 ?_
              refine sA 196 345 1 rfl rfl rfl rfl rfl rfl rfl rfl rfl (by unfold inRange; omega) ?_
              refine s1 12 353 2 rfl rfl rfl rfl rfl rfl trivial ?_
              refine e1 361 rfl ?_
              refine tn ?_
              exact again (n + 1) [0] ⟨by omega, fun j hj => by by_cases e : j = n; (subst e; (clear hno; (try simp only [Int.toNat_natCast] at *); generalize l.getD j default = o at *; (first | rw [ok_1 (by omega)] | rw [ok_2 (by omega)] | rw [ok_3 (by omega)] | rw [ok_4 (by omega)] | rw [ok_5 (by omega)] | rw [ok_6 (by omega)] | rw [ok_7 (by omega)] | rw [ok_8 (by omega)] | rw [ok_9 (by omega)] | rw [ok_10 (by omega)] | rw [ok_11 (by omega)] | rw [ok_12 (by omega)] | rw [ok_13 (by omega)] | rw [ok_14 (by omega)] | rw [ok_15 (by omega)] | rw [ok_16 (by omega)] | rw [ok_17 (by omega)]); (try simp [regB] at *); omega)); exact hno j (by omega)⟩ (by omega) rfl ⟨rfl, rfl, rfl, rfl, trivial⟩ ⟨rfl, trivial⟩
            try simp only [ct, ne_eq] at hg20_75
            refine g0 13 true 75 76 15 rfl rfl rfl rfl rfl rfl ?_
            refine g0 13 true 75 77 16 rfl rfl rfl rfl rfl rfl ?_
            refine g0 13 true 75 78 17 rfl rfl rfl rfl rfl rfl ?_
            refine s1 79 313 18 rfl rfl rfl rfl rfl rfl trivial ?_
            refine s1 6 321 19 rfl rfl rfl rfl rfl rfl trivial ?_
            refine e1 329 rfl ?_
            refine bn ?_
            refine tn ?_
            refine r1 ?_
            refine s1 194 329 1 rfl rfl rfl rfl rfl rfl trivial ?_
            refine s1 195 337 2 rfl rfl rfl rfl rfl rfl trivial ?_
            refine e1 345 rfl ?_
            refine keep [1, 10, 11, 12, 195] rfl ?_
            refine q1 rfl (fun hc35 => ?_) (fun hc35 => ?_)
            · skip
              try simp only [ct, ne_eq] at hc35
              refine r1 ?_
              refine s1 2 345 1 rfl rfl rfl rfl rfl rfl trivial ?_
              refine e1 353 rfl ?_
              refine keep [2] rfl ?_
              refine W_ret ?_
              refine br ?_
              refine tr ?_
              refine tr ?_
              refine br ?_
              refine tr ?_
              exact out1 2 (SV.b (mayB l)) (π := []) (hout := []) Tryd.results8 rfl (by have hb : okB l.length (l.getD n default) = false := (by clear hno; (try simp only [Int.toNat_natCast] at *); generalize l.getD n default = o at *; first | exact ok_kind (by omega) | (rw [← Bool.not_eq_true]; (first | rw [ok_1 (by omega)] | rw [ok_2 (by omega)] | rw [ok_3 (by omega)] | rw [ok_4 (by omega)] | rw [ok_5 (by omega)] | rw [ok_6 (by omega)] | rw [ok_7 (by omega)] | rw [ok_8 (by omega)] | rw [ok_9 (by omega)] | rw [ok_10 (by omega)] | rw [ok_11 (by omega)] | rw [ok_12 (by omega)] | rw [ok_13 (by omega)] | rw [ok_14 (by omega)] | rw [ok_15 (by omega)] | rw [ok_16 (by omega)] | rw [ok_17 (by omega)]); (try simp [regB] at *); omega)); have := all_not (by omega) hb; show SV.b _ = SV.b _; refine congrArg SV.b ?_; simp [mayB, this]) rfl rfl trivial ⟨rfl, rfl⟩
            exact absurd hc35 (by decide)
          try simp only [ct, ne_eq] at hg20_70
          refine g0 8 true 70 71 10 rfl rfl rfl rfl rfl rfl ?_
          refine g0 8 true 70 72 11 rfl rfl rfl rfl rfl rfl ?_
          refine g0 8 true 70 73 12 rfl rfl rfl rfl rfl rfl ?_
          refine s1 74 273 13 rfl rfl rfl rfl rfl rfl trivial ?_
          refine s1 75 281 14 rfl rfl rfl rfl rfl rfl trivial ?_
          refine g0 13 true 75 76 15 rfl rfl rfl rfl rfl rfl ?_
          refine g0 13 true 75 77 16 rfl rfl rfl rfl rfl rfl ?_
          refine g0 13 true 75 78 17 rfl rfl rfl rfl rfl rfl ?_
          refine s1 79 313 18 rfl rfl rfl rfl rfl rfl trivial ?_
          refine s1 6 321 19 rfl rfl rfl rfl rfl rfl trivial ?_
          refine e1 329 rfl ?_
          refine bn ?_
          refine tn ?_
          refine r1 ?_
          refine s1 194 329 1 rfl rfl rfl rfl rfl rfl trivial ?_
          refine s1 195 337 2 rfl rfl rfl rfl rfl rfl trivial ?_
          refine e1 345 rfl ?_
          refine keep [1, 10, 11, 12, 195] rfl ?_
          refine q1 rfl (fun hc35 => ?_) (fun hc35 => ?_)
          · skip
            try simp only [ct, ne_eq] at hc35
            refine r1 ?_
            refine s1 2 345 1 rfl rfl rfl rfl rfl rfl trivial ?_
            refine e1 353 rfl ?_
            refine keep [2] rfl ?_
            refine W_ret ?_
            refine br ?_
            refine tr ?_
            refine tr ?_
            refine br ?_
            refine tr ?_
            exact out1 2 (SV.b (mayB l)) (π := []) (hout := []) Tryd.results8 rfl (by have hb : okB l.length (l.getD n default) = false := (by clear hno; (try simp only [Int.toNat_natCast] at *); generalize l.getD n default = o at *; first | exact ok_kind (by omega) | (rw [← Bool.not_eq_true]; (first | rw [ok_1 (by omega)] | rw [ok_2 (by omega)] | rw [ok_3 (by omega)] | rw [ok_4 (by omega)] | rw [ok_5 (by omega)] | rw [ok_6 (by omega)] | rw [ok_7 (by omega)] | rw [ok_8 (by omega)] | rw [ok_9 (by omega)] | rw [ok_10 (by omega)] | rw [ok_11 (by omega)] | rw [ok_12 (by omega)] | rw [ok_13 (by omega)] | rw [ok_14 (by omega)] | rw [ok_15 (by omega)] | rw [ok_16 (by omega)] | rw [ok_17 (by omega)]); (try simp [regB] at *); omega)); have := all_not (by omega) hb; show SV.b _ = SV.b _; refine congrArg SV.b ?_; simp [mayB, this]) rfl rfl trivial ⟨rfl, rfl⟩
          exact absurd hc35 (by decide)
        try simp only [ct, ne_eq] at hg20_65
        refine g0 3 true 65 66 5 rfl rfl rfl rfl rfl rfl ?_
        refine g0 3 true 65 67 6 rfl rfl rfl rfl rfl rfl ?_
        refine g0 3 true 65 68 7 rfl rfl rfl rfl rfl rfl ?_
        refine s1 69 233 8 rfl rfl rfl rfl rfl rfl trivial ?_
        refine s1 70 241 9 rfl rfl rfl rfl rfl rfl trivial ?_
        refine g0 8 true 70 71 10 rfl rfl rfl rfl rfl rfl ?_
        refine g0 8 true 70 72 11 rfl rfl rfl rfl rfl rfl ?_
        refine g0 8 true 70 73 12 rfl rfl rfl rfl rfl rfl ?_
        refine s1 74 273 13 rfl rfl rfl rfl rfl rfl trivial ?_
        refine s1 75 281 14 rfl rfl rfl rfl rfl rfl trivial ?_
        refine g0 13 true 75 76 15 rfl rfl rfl rfl rfl rfl ?_
        refine g0 13 true 75 77 16 rfl rfl rfl rfl rfl rfl ?_
        refine g0 13 true 75 78 17 rfl rfl rfl rfl rfl rfl ?_
        refine s1 79 313 18 rfl rfl rfl rfl rfl rfl trivial ?_
        refine s1 6 321 19 rfl rfl rfl rfl rfl rfl trivial ?_
        refine e1 329 rfl ?_
        refine bn ?_
        refine tn ?_
        refine r1 ?_
        refine s1 194 329 1 rfl rfl rfl rfl rfl rfl trivial ?_
        refine s1 195 337 2 rfl rfl rfl rfl rfl rfl trivial ?_
        refine e1 345 rfl ?_
        refine keep [1, 10, 11, 12, 195] rfl ?_
        refine q1 rfl (fun hc35 => ?_) (fun hc35 => ?_)
        · skip
          try simp only [ct, ne_eq] at hc35
          refine r1 ?_
          refine s1 2 345 1 rfl rfl rfl rfl rfl rfl trivial ?_
          refine e1 353 rfl ?_
          refine keep [2] rfl ?_
          refine W_ret ?_
          refine br ?_
          refine tr ?_
          refine tr ?_
          refine br ?_
          refine tr ?_
          exact out1 2 (SV.b (mayB l)) (π := []) (hout := []) Tryd.results8 rfl (by have hb : okB l.length (l.getD n default) = false := (by clear hno; (try simp only [Int.toNat_natCast] at *); generalize l.getD n default = o at *; first | exact ok_kind (by omega) | (rw [← Bool.not_eq_true]; (first | rw [ok_1 (by omega)] | rw [ok_2 (by omega)] | rw [ok_3 (by omega)] | rw [ok_4 (by omega)] | rw [ok_5 (by omega)] | rw [ok_6 (by omega)] | rw [ok_7 (by omega)] | rw [ok_8 (by omega)] | rw [ok_9 (by omega)] | rw [ok_10 (by omega)] | rw [ok_11 (by omega)] | rw [ok_12 (by omega)] | rw [ok_13 (by omega)] | rw [ok_14 (by omega)] | rw [ok_15 (by omega)] | rw [ok_16 (by omega)] | rw [ok_17 (by omega)]); (try simp [regB] at *); omega)); have := all_not (by omega) hb; show SV.b _ = SV.b _; refine congrArg SV.b ?_; simp [mayB, this]) rfl rfl trivial ⟨rfl, rfl⟩
        exact absurd hc35 (by decide)
      try simp only [ct, ne_eq] at hc16
      exfalso; first | omega | contradiction | (simp_all; done)
    try simp only [ct, ne_eq] at hc16
    refine r1 ?_
    refine s1 59 177 1 rfl rfl rfl rfl rfl rfl trivial ?_
    refine s1 54 185 2 rfl rfl rfl rfl rfl rfl trivial ?_
    refine e1 193 rfl ?_
    refine keep [1, 4, 5, 6, 10, 11, 12, 18, 54] rfl ?_
    refine q1 rfl (fun hc17 => ?_) (fun hc17 => ?_)
    · skip
      try simp only [ct, ne_eq] at hc17
      refine W_skip ?_
      refine tn ?_
      refine q1 rfl (fun hc17 => ?_) (fun hc17 => ?_)
      · skip
        try simp only [ct, ne_eq] at hc17
        refine r0 ?_
        refine s1 62 193 1 rfl rfl rfl rfl rfl rfl trivial ?_
        refine s1 63 201 2 rfl rfl rfl rfl rfl rfl trivial ?_
        refine c1 (reg_any (l.getD n default).a) [] [] 64 209 3 rfl rfl rfl rfl rfl rfl rfl rfl Tryd.func18 rfl rfl rfl rfl trivial rfl rfl ?_
        refine s1 65 217 4 rfl rfl rfl rfl rfl rfl trivial ?_
        refine ask 65 rfl (fun hg20_65 => ?_) (fun hg20_65 => ?_)
        · skip
          try simp only [ct, ne_eq] at hg20_65
          refine g1 3 true 65 66 5 rfl rfl rfl rfl rfl ?_
          refine s1 66 225 5 rfl rfl rfl rfl rfl rfl trivial ?_
          refine g1 3 true 65 67 6 rfl rfl rfl rfl rfl ?_
          refine s1 67 233 6 rfl rfl rfl rfl rfl rfl trivial ?_
          refine g1 3 true 65 68 7 rfl rfl rfl rfl rfl ?_
          refine c1 (reg_any (l.getD n default).b) [] [] 68 241 7 rfl rfl rfl rfl rfl rfl rfl rfl Tryd.func18 rfl rfl rfl rfl trivial rfl rfl ?_
          refine s1 69 249 8 rfl rfl rfl rfl rfl rfl trivial ?_
          refine s1 70 257 9 rfl rfl rfl rfl rfl rfl trivial ?_
          refine ask 70 rfl (fun hg20_70 => ?_) (fun hg20_70 => ?_)
          · skip
            try simp only [ct, ne_eq] at hg20_70
            refine g1 8 true 70 71 10 rfl rfl rfl rfl rfl ?_
            refine s1 71 265 10 rfl rfl rfl rfl rfl rfl trivial ?_
            refine g1 8 true 70 72 11 rfl rfl rfl rfl rfl ?_
            refine s1 72 273 11 rfl rfl rfl rfl rfl rfl trivial ?_
            refine g1 8 true 70 73 12 rfl rfl rfl rfl rfl ?_
            refine c1 (reg_any (l.getD n default).c) [] [] 73 281 12 rfl rfl rfl rfl rfl rfl rfl rfl Tryd.func18 rfl rfl rfl rfl trivial rfl rfl ?_
            refine s1 74 289 13 rfl rfl rfl rfl rfl rfl trivial ?_
            refine s1 75 297 14 rfl rfl rfl rfl rfl rfl trivial ?_
            refine ask 75 rfl (fun hg20_75 => ?_) (fun hg20_75 => ?_)
            · skip
              try simp only [ct, ne_eq] at hg20_75
              refine g1 13 true 75 76 15 rfl rfl rfl rfl rfl ?_
              refine s1 76 305 15 rfl rfl rfl rfl rfl rfl trivial ?_
              refine g1 13 true 75 77 16 rfl rfl rfl rfl rfl ?_
              refine s1 77 313 16 rfl rfl rfl rfl rfl rfl trivial ?_
              refine g1 13 true 75 78 17 rfl rfl rfl rfl rfl ?_
              refine s1 78 321 17 rfl rfl rfl rfl rfl rfl trivial ?_
              refine s1 79 329 18 rfl rfl rfl rfl rfl rfl trivial ?_
              refine s1 6 337 19 rfl rfl rfl rfl rfl rfl trivial ?_
              refine e1 345 rfl ?_
              refine bn ?_
              refine tn ?_
              refine r1 ?_
              refine s1 194 345 1 rfl rfl rfl rfl rfl rfl trivial ?_
              refine s1 195 353 2 rfl rfl rfl rfl rfl rfl trivial ?_
              refine e1 361 rfl ?_
              refine keep [1, 10, 11, 12, 195] rfl ?_
              refine q1 rfl (fun hc35 => ?_) (fun hc35 => ?_)
              · skip
                try simp only [ct, ne_eq] at hc35
                refine r1 ?_
                refine s1 2 361 1 rfl rfl rfl rfl rfl rfl trivial ?_
                refine e1 369 rfl ?_
                refine keep [2] rfl ?_
                refine W_ret ?_
                refine br ?_
                refine tr ?_
                refine tr ?_
                refine br ?_
                refine tr ?_
                exact out1 2 (SV.b (mayB l)) (π := []) (hout := []) Tryd.results8 rfl (by have hb : okB l.length (l.getD n default) = false := (by clear hno; (try simp only [Int.toNat_natCast] at *); generalize l.getD n default = o at *; first | exact ok_kind (by omega) | (rw [← Bool.not_eq_true]; (first | rw [ok_1 (by omega)] | rw [ok_2 (by omega)] | rw [ok_3 (by omega)] | rw [ok_4 (by omega)] | rw [ok_5 (by omega)] | rw [ok_6 (by omega)] | rw [ok_7 (by omega)] | rw [ok_8 (by omega)] | rw [ok_9 (by omega)] | rw [ok_10 (by omega)] | rw [ok_11 (by omega)] | rw [ok_12 (by omega)] | rw [ok_13 (by omega)] | rw [ok_14 (by omega)] | rw [ok_15 (by omega)] | rw [ok_16 (by omega)] | rw [ok_17 (by omega)]); (try simp [regB] at *); omega)); have := all_not (by omega) hb; show SV.b _ = SV.b _; refine congrArg SV.b ?_; simp [mayB, this]) rfl rfl trivial ⟨rfl, rfl⟩
              try simp only [ct, ne_eq] at hc35
              refine W_skip ?_
              refine bn ?_
              refine tn ?_
              refine r0 ?_
              refine sA 196 361 1 rfl rfl rfl rfl rfl rfl rfl rfl rfl (by unfold inRange; omega) ?_
              refine s1 12 369 2 rfl rfl rfl rfl rfl rfl trivial ?_
              refine e1 377 rfl ?_
              refine tn ?_
              exact again (n + 1) [0] ⟨by omega, fun j hj => by by_cases e : j = n; (subst e; (clear hno; (try simp only [Int.toNat_natCast] at *); generalize l.getD j default = o at *; (first | rw [ok_1 (by omega)] | rw [ok_2 (by omega)] | rw [ok_3 (by omega)] | rw [ok_4 (by omega)] | rw [ok_5 (by omega)] | rw [ok_6 (by omega)] | rw [ok_7 (by omega)] | rw [ok_8 (by omega)] | rw [ok_9 (by omega)] | rw [ok_10 (by omega)] | rw [ok_11 (by omega)] | rw [ok_12 (by omega)] | rw [ok_13 (by omega)] | rw [ok_14 (by omega)] | rw [ok_15 (by omega)] | rw [ok_16 (by omega)] | rw [ok_17 (by omega)]); (try simp [regB] at *); omega)); exact hno j (by omega)⟩ (by omega) rfl ⟨rfl, rfl, rfl, rfl, trivial⟩ ⟨rfl, trivial⟩
            try simp only [ct, ne_eq] at hg20_75
            refine g0 13 true 75 76 15 rfl rfl rfl rfl rfl rfl ?_
            refine g0 13 true 75 77 16 rfl rfl rfl rfl rfl rfl ?_
            refine g0 13 true 75 78 17 rfl rfl rfl rfl rfl rfl ?_
            refine s1 79 329 18 rfl rfl rfl rfl rfl rfl trivial ?_
            refine s1 6 337 19 rfl rfl rfl rfl rfl rfl trivial ?_
            refine e1 345 rfl ?_
            refine bn ?_
            refine tn ?_
            refine r1 ?_
            refine s1 194 345 1 rfl rfl rfl rfl rfl rfl trivial ?_
            refine s1 195 353 2 rfl rfl rfl rfl rfl rfl trivial ?_
            refine e1 361 rfl ?_
            refine keep [1, 10, 11, 12, 195] rfl ?_
            refine q1 rfl (fun hc35 => ?_) (fun hc35 => ?_)
            · skip
              try simp only [ct, ne_eq] at hc35
              refine r1 ?_
              refine s1 2 361 1 rfl rfl rfl rfl rfl rfl trivial ?_
              refine e1 369 rfl ?_
              refine keep [2] rfl ?_
              refine W_ret ?_
              refine br ?_
              refine tr ?_
              refine tr ?_
              refine br ?_
              refine tr ?_
              exact out1 2 (SV.b (mayB l)) (π := []) (hout := []) Tryd.results8 rfl (by have hb : okB l.length (l.getD n default) = false := (by clear hno; (try simp only [Int.toNat_natCast] at *); generalize l.getD n default = o at *; first | exact ok_kind (by omega) | (rw [← Bool.not_eq_true]; (first | rw [ok_1 (by omega)] | rw [ok_2 (by omega)] | rw [ok_3 (by omega)] | rw [ok_4 (by omega)] | rw [ok_5 (by omega)] | rw [ok_6 (by omega)] | rw [ok_7 (by omega)] | rw [ok_8 (by omega)] | rw [ok_9 (by omega)] | rw [ok_10 (by omega)] | rw [ok_11 (by omega)] | rw [ok_12 (by omega)] | rw [ok_13 (by omega)] | rw [ok_14 (by omega)] | rw [ok_15 (by omega)] | rw [ok_16 (by omega)] | rw [ok_17 (by omega)]); (try simp [regB] at *); omega)); have := all_not (by omega) hb; show SV.b _ = SV.b _; refine congrArg SV.b ?_; simp [mayB, this]) rfl rfl trivial ⟨rfl, rfl⟩
            exact absurd hc35 (by decide)
          try simp only [ct, ne_eq] at hg20_70
          refine g0 8 true 70 71 10 rfl rfl rfl rfl rfl rfl ?_
          refine g0 8 true 70 72 11 rfl rfl rfl rfl rfl rfl ?_
          refine g0 8 true 70 73 12 rfl rfl rfl rfl rfl rfl ?_
          refine s1 74 289 13 rfl rfl rfl rfl rfl rfl trivial ?_
          refine s1 75 297 14 rfl rfl rfl rfl rfl rfl trivial ?_
          refine g0 13 true 75 76 15 rfl rfl rfl rfl rfl rfl ?_
          refine g0 13 true 75 77 16 rfl rfl rfl rfl rfl rfl ?_
          refine g0 13 true 75 78 17 rfl rfl rfl rfl rfl rfl ?_
          refine s1 79 329 18 rfl rfl rfl rfl rfl rfl trivial ?_
          refine s1 6 337 19 rfl rfl rfl rfl rfl rfl trivial ?_
          refine e1 345 rfl ?_
          refine bn ?_
          refine tn ?_
          refine r1 ?_
          refine s1 194 345 1 rfl rfl rfl rfl rfl rfl trivial ?_
          refine s1 195 353 2 rfl rfl rfl rfl rfl rfl trivial ?_
          refine e1 361 rfl ?_
          refine keep [1, 10, 11, 12, 195] rfl ?_
          refine q1 rfl (fun hc35 => ?_) (fun hc35 => ?_)
          · skip
            try simp only [ct, ne_eq] at hc35
            refine r1 ?_
            refine s1 2 361 1 rfl rfl rfl rfl rfl rfl trivial ?_
            refine e1 369 rfl ?_
            refine keep [2] rfl ?_
            refine W_ret ?_
            refine br ?_
            refine tr ?_
            refine tr ?_
            refine br ?_
            refine tr ?_
            exact out1 2 (SV.b (mayB l)) (π := []) (hout := []) Tryd.results8 rfl (by have hb : okB l.length (l.getD n default) = false := (by clear hno; (try simp only [Int.toNat_natCast] at *); generalize l.getD n default = o at *; first | exact ok_kind (by omega) | (rw [← Bool.not_eq_true]; (first | rw [ok_1 (by omega)] | rw [ok_2 (by omega)] | rw [ok_3 (by omega)] | rw [ok_4 (by omega)] | rw [ok_5 (by omega)] | rw [ok_6 (by omega)] | rw [ok_7 (by omega)] | rw [ok_8 (by omega)] | rw [ok_9 (by omega)] | rw [ok_10 (by omega)] | rw [ok_11 (by omega)] | rw [ok_12 (by omega)] | rw [ok_13 (by omega)] | rw [ok_14 (by omega)] | rw [ok_15 (by omega)] | rw [ok_16 (by omega)] | rw [ok_17 (by omega)]); (try simp [regB] at *); omega)); have := all_not (by omega) hb; show SV.b _ = SV.b _; refine congrArg SV.b ?_; simp [mayB, this]) rfl rfl trivial ⟨rfl, rfl⟩
          exact absurd hc35 (by decide)
        try simp only [ct, ne_eq] at hg20_65
        refine g0 3 true 65 66 5 rfl rfl rfl rfl rfl rfl ?_
        refine g0 3 true 65 67 6 rfl rfl rfl rfl rfl rfl ?_
        refine g0 3 true 65 68 7 rfl rfl rfl rfl rfl rfl ?_
        refine s1 69 249 8 rfl rfl rfl rfl rfl rfl trivial ?_
        refine s1 70 257 9 rfl rfl rfl rfl rfl rfl trivial ?_
        refine g0 8 true 70 71 10 rfl rfl rfl rfl rfl rfl ?_
        refine g0 8 true 70 72 11 rfl rfl rfl rfl rfl rfl ?_
        refine g0 8 true 70 73 12 rfl rfl rfl rfl rfl rfl ?_
        refine s1 74 289 13 rfl rfl rfl rfl rfl rfl trivial ?_
        refine s1 75 297 14 rfl rfl rfl rfl rfl rfl trivial ?_
        refine g0 13 true 75 76 15 rfl rfl rfl rfl rfl rfl ?_
        refine g0 13 true 75 77 16 rfl rfl rfl rfl rfl rfl ?_
        refine g0 13 true 75 78 17 rfl rfl rfl rfl rfl rfl ?_
        refine s1 79 329 18 rfl rfl rfl rfl rfl rfl trivial ?_
        refine s1 6 337 19 rfl rfl rfl rfl rfl rfl trivial ?_
        refine e1 345 rfl ?_
        refine bn ?_
        refine tn ?_
        refine r1 ?_
        refine s1 194 345 1 rfl rfl rfl rfl rfl rfl trivial ?_
        refine s1 195 353 2 rfl rfl rfl rfl rfl rfl trivial ?_
        refine e1 361 rfl ?_
        refine keep [1, 10, 11, 12, 195] rfl ?_
        refine q1 rfl (fun hc35 => ?_) (fun hc35 => ?_)
        · skip
          try simp only [ct, ne_eq] at hc35
          refine r1 ?_
          refine s1 2 361 1 rfl rfl rfl rfl rfl rfl trivial ?_
          refine e1 369 rfl ?_
          refine keep [2] rfl ?_
          refine W_ret ?_
          refine br ?_
          refine tr ?_
          refine tr ?_
          refine br ?_
          refine tr ?_
          exact out1 2 (SV.b (mayB l)) (π := []) (hout := []) Tryd.results8 rfl (by have hb : okB l.length (l.getD n default) = false := (by clear hno; (try simp only [Int.toNat_natCast] at *); generalize l.getD n default = o at *; first | exact ok_kind (by omega) | (rw [← Bool.not_eq_true]; (first | rw [ok_1 (by omega)] | rw [ok_2 (by omega)] | rw [ok_3 (by omega)] | rw [ok_4 (by omega)] | rw [ok_5 (by omega)] | rw [ok_6 (by omega)] | rw [ok_7 (by omega)] | rw [ok_8 (by omega)] | rw [ok_9 (by omega)] | rw [ok_10 (by omega)] | rw [ok_11 (by omega)] | rw [ok_12 (by omega)] | rw [ok_13 (by omega)] | rw [ok_14 (by omega)] | rw [ok_15 (by omega)] | rw [ok_16 (by omega)] | rw [ok_17 (by omega)]); (try simp [regB] at *); omega)); have := all_not (by omega) hb; show SV.b _ = SV.b _; refine congrArg SV.b ?_; simp [mayB, this]) rfl rfl trivial ⟨rfl, rfl⟩
        exact absurd hc35 (by decide)
      try simp only [ct, ne_eq] at hc17
      exfalso; first | omega | contradiction | (simp_all; done)
    try simp only [ct, ne_eq] at hc17
    refine r1 ?_
    refine s1 60 193 1 rfl rfl rfl rfl rfl rfl trivial ?_
    refine s1 54 201 2 rfl rfl rfl rfl rfl rfl trivial ?_
    refine e1 209 rfl ?_
    refine keep [1, 4, 5, 6, 10, 11, 12, 18, 54] rfl ?_
    refine q1 rfl (fun hc18 => ?_) (fun hc18 => ?_)
    · skip
      try simp only [ct, ne_eq] at hc18
      refine W_skip ?_
      refine tn ?_
      refine q1 rfl (fun hc18 => ?_) (fun hc18 => ?_)
      · skip
        try simp only [ct, ne_eq] at hc18
        refine r0 ?_
        refine s1 62 209 1 rfl rfl rfl rfl rfl rfl trivial ?_
        refine s1 63 217 2 rfl rfl rfl rfl rfl rfl trivial ?_
        refine c1 (reg_any (l.getD n default).a) [] [] 64 225 3 rfl rfl rfl rfl rfl rfl rfl rfl Tryd.func18 rfl rfl rfl rfl trivial rfl rfl ?_
        refine s1 65 233 4 rfl rfl rfl rfl rfl rfl trivial ?_
        refine ask 65 rfl (fun hg20_65 => ?_) (fun hg20_65 => ?_)
        · skip
          try simp only [ct, ne_eq] at hg20_65
          refine g1 3 true 65 66 5 rfl rfl rfl rfl rfl ?_
          refine s1 66 241 5 rfl rfl rfl rfl rfl rfl trivial ?_
          refine g1 3 true 65 67 6 rfl rfl rfl rfl rfl ?_
          refine s1 67 249 6 rfl rfl rfl rfl rfl rfl trivial ?_
          refine g1 3 true 65 68 7 rfl rfl rfl rfl rfl ?_
          refine c1 (reg_any (l.getD n default).b) [] [] 68 257 7 rfl rfl rfl rfl rfl rfl rfl rfl Tryd.func18 rfl rfl rfl rfl trivial rfl rfl ?_
          refine s1 69 265 8 rfl rfl rfl rfl rfl rfl trivial ?_
          refine s1 70 273 9 rfl rfl rfl rfl rfl rfl trivial ?_
          refine ask 70 rfl (fun hg20_70 => ?_) (fun hg20_70 => ?_)
          · skip
            try simp only [ct, ne_eq] at hg20_70
            refine g1 8 true 70 71 10 rfl rfl rfl rfl rfl ?_
            refine s1 71 281 10 rfl rfl rfl rfl rfl rfl trivial ?_
            refine g1 8 true 70 72 11 rfl rfl rfl rfl rfl ?_
            refine s1 72 289 11 rfl rfl rfl rfl rfl rfl trivial ?_
            refine g1 8 true 70 73 12 rfl rfl rfl rfl rfl ?_
            refine c1 (reg_any (l.getD n default).c) [] [] 73 297 12 rfl rfl rfl rfl rfl rfl rfl rfl Tryd.func18 rfl rfl rfl rfl trivial rfl rfl ?_
            refine s1 74 305 13 rfl rfl rfl rfl rfl rfl trivial ?_
            refine s1 75 313 14 rfl rfl rfl rfl rfl rfl trivial ?_
            refine ask 75 rfl (fun hg20_75 => ?_) (fun hg20_75 => ?_)
            · skip
              try simp only [ct, ne_eq] at hg20_75
              refine g1 13 true 75 76 15 rfl rfl rfl rfl rfl ?_
              refine s1 76 321 15 rfl rfl rfl rfl rfl rfl trivial ?_
              refine g1 13 true 75 77 16 rfl rfl rfl rfl rfl ?_
              refine s1 77 329 16 rfl rfl rfl rfl rfl rfl trivial ?_
              refine g1 13 true 75 78 17 rfl rfl rfl rfl rfl ?_
              refine s1 78 337 17 rfl rfl rfl rfl rfl rfl trivial ?_
              refine s1 79 345 18 rfl rfl rfl rfl rfl rfl trivial ?_
              refine s1 6 353 19 rfl rfl rfl rfl rfl rfl trivial ?_
              refine e1 361 rfl ?_
              refine bn ?_
              refine tn ?_
              refine r1 ?_
              refine s1 194 361 1 rfl rfl rfl rfl rfl rfl trivial ?_
              refine s1 195 369 2 rfl rfl rfl rfl rfl rfl trivial ?_
              refine e1 377 rfl ?_
              refine keep [1, 10, 11, 12, 195] rfl ?_
              refine q1 rfl (fun hc35 => ?_) (fun hc35 => ?_)
              · skip
                try simp only [ct, ne_eq] at hc35
                refine r1 ?_
                refine s1 2 377 1 rfl rfl rfl rfl rfl rfl trivial ?_
                refine e1 385 rfl ?_
                refine keep [2] rfl ?_
                refine W_ret ?_
                refine br ?_
                refine tr ?_
                refine tr ?_
                refine br ?_
                refine tr ?_
                exact out1 2 (SV.b (mayB l)) (π := []) (hout := []) Tryd.results8 rfl (by have hb : okB l.length (l.getD n default) = false := (by clear hno; (try simp only [Int.toNat_natCast] at *); generalize l.getD n default = o at *; first | exact ok_kind (by omega) | (rw [← Bool.not_eq_true]; (first | rw [ok_1 (by omega)] | rw [ok_2 (by omega)] | rw [ok_3 (by omega)] | rw [ok_4 (by omega)] | rw [ok_5 (by omega)] | rw [ok_6 (by omega)] | rw [ok_7 (by omega)] | rw [ok_8 (by omega)] | rw [ok_9 (by omega)] | rw [ok_10 (by omega)] | rw [ok_11 (by omega)] | rw [ok_12 (by omega)] | rw [ok_13 (by omega)] | rw [ok_14 (by omega)] | rw [ok_15 (by omega)] | rw [ok_16 (by omega)] | rw [ok_17 (by omega)]); (try simp [regB] at *); omega)); have := all_not (by omega) hb; show SV.b _ = SV.b _; refine congrArg SV.b ?_; simp [mayB, this]) rfl rfl trivial ⟨rfl, rfl⟩
              try simp only [ct, ne_eq] at hc35
              refine W_skip ?_
              refine bn ?_
              refine tn ?_
              refine r0 ?_
              refine sA 196 377 1 rfl rfl rfl rfl rfl rfl rfl rfl rfl (by unfold inRange; omega) ?_
              refine s1 12 385 2 rfl rfl rfl rfl rfl rfl trivial ?_
              refine e1 393 rfl ?_
              refine tn ?_
              exact again (n + 1) [0] ⟨by omega, fun j hj => by by_cases e : j = n; (subst e; (clear hno; (try simp only [Int.toNat_natCast] at *); generalize l.getD j default = o at *; (first | rw [ok_1 (by omega)] | rw [ok_2 (by omega)] | rw [ok_3 (by omega)] | rw [ok_4 (by omega)] | rw [ok_5 (by omega)] | rw [ok_6 (by omega)] | rw [ok_7 (by omega)] | rw [ok_8 (by omega)] | rw [ok_9 (by omega)] | rw [ok_10 (by omega)] | rw [ok_11 (by omega)] | rw [ok_12 (by omega)] | rw [ok_13 (by omega)] | rw [ok_14 (by omega)] | rw [ok_15 (by omega)] | rw [ok_16 (by omega)] | rw [ok_17 (by omega)]); (try simp [regB] at *); omega)); exact hno j (by omega)⟩ (by omega) rfl ⟨rfl, rfl, rfl, rfl, trivial⟩ ⟨rfl, trivial⟩
            try simp only [ct, ne_eq] at hg20_75
            refine g0 13 true 75 76 15 rfl rfl rfl rfl rfl rfl ?_
            refine g0 13 true 75 77 16 rfl rfl rfl rfl rfl rfl ?_
            refine g0 13 true 75 78 17 rfl rfl rfl rfl rfl rfl ?_
            refine s1 79 345 18 rfl rfl rfl rfl rfl rfl trivial ?_
            refine s1 6 353 19 rfl rfl rfl rfl rfl rfl trivial ?_
            refine e1 361 rfl ?_
            refine bn ?_
            refine tn ?_
            refine r1 ?_
            refine s1 194 361 1 rfl rfl rfl rfl rfl rfl trivial ?_
            refine s1 195 369 2 rfl rfl rfl rfl rfl rfl trivial ?_
            refine e1 377 rfl ?_
            refine keep [1, 10, 11, 12, 195] rfl ?_
            refine q1 rfl (fun hc35 => ?_) (fun hc35 => ?_)
            · skip
              try simp only [ct, ne_eq] at hc35
              refine r1 ?_
              refine s1 2 377 1 rfl rfl rfl rfl rfl rfl trivial ?_
              refine e1 385 rfl ?_
              refine keep [2] rfl ?_
              refine W_ret ?_
              refine br ?_
              refine tr ?_
              refine tr ?_
              refine br ?_
              refine tr ?_
              exact out1 2 (SV.b (mayB l)) (π := []) (hout := []) Tryd.results8 rfl (by have hb : okB l.length (l.getD n default) = false := (by clear hno; (try simp only [Int.toNat_natCast] at *); generalize l.getD n default = o at *; first | exact ok_kind (by omega) | (rw [← Bool.not_eq_true]; (first | rw [ok_1 (by omega)] | rw [ok_2 (by omega)] | rw [ok_3 (by omega)] | rw [ok_4 (by omega)] | rw [ok_5 (by omega)] | rw [ok_6 (by omega)] | rw [ok_7 (by omega)] | rw [ok_8 (by omega)] | rw [ok_9 (by omega)] | rw [ok_10 (by omega)] | rw [ok_11 (by omega)] | rw [ok_12 (by omega)] | rw [ok_13 (by omega)] | rw [ok_14 (by omega)] | rw [ok_15 (by omega)] | rw [ok_16 (by omega)] | rw [ok_17 (by omega)]); (try simp [regB] at *); omega)); have := all_not (by omega) hb; show SV.b _ = SV.b _; refine congrArg SV.b ?_; simp [mayB, this]) rfl rfl trivial ⟨rfl, rfl⟩
            exact absurd hc35 (by decide)
          try simp only [ct, ne_eq] at hg20_70
          refine g0 8 true 70 71 10 rfl rfl rfl rfl rfl rfl ?_
          refine g0 8 true 70 72 11 rfl rfl rfl rfl rfl rfl ?_
          refine g0 8 true 70 73 12 rfl rfl rfl rfl rfl rfl ?_
          refine s1 74 305 13 rfl rfl rfl rfl rfl rfl trivial ?_
          refine s1 75 313 14 rfl rfl rfl rfl rfl rfl trivial ?_
          refine g0 13 true 75 76 15 rfl rfl rfl rfl rfl rfl ?_
          refine g0 13 true 75 77 16 rfl rfl rfl rfl rfl rfl ?_
          refine g0 13 true 75 78 17 rfl rfl rfl rfl rfl rfl ?_
          refine s1 79 345 18 rfl rfl rfl rfl rfl rfl trivial ?_
          refine s1 6 353 19 rfl rfl rfl rfl rfl rfl trivial ?_
          refine e1 361 rfl ?_
          refine bn ?_
          refine tn ?_
          refine r1 ?_
          refine s1 194 361 1 rfl rfl rfl rfl rfl rfl trivial ?_
          refine s1 195 369 2 rfl rfl rfl rfl rfl rfl trivial ?_
          refine e1 377 rfl ?_
          refine keep [1, 10, 11, 12, 195] rfl ?_
          refine q1 rfl (fun hc35 => ?_) (fun hc35 => ?_)
          · skip
            try simp only [ct, ne_eq] at hc35
            refine r1 ?_
            refine s1 2 377 1 rfl rfl rfl rfl rfl rfl trivial ?_
            refine e1 385 rfl ?_
            refine keep [2] rfl ?_
            refine W_ret ?_
            refine br ?_
            refine tr ?_
            refine tr ?_
            refine br ?_
            refine tr ?_
            exact out1 2 (SV.b (mayB l)) (π := []) (hout := []) Tryd.results8 rfl (by have hb : okB l.length (l.getD n default) = false := (by clear hno; (try simp only [Int.toNat_natCast] at *); generalize l.getD n default = o at *; first | exact ok_kind (by omega) | (rw [← Bool.not_eq_true]; (first | rw [ok_1 (by omega)] | rw [ok_2 (by omega)] | rw [ok_3 (by omega)] | rw [ok_4 (by omega)] | rw [ok_5 (by omega)] | rw [ok_6 (by omega)] | rw [ok_7 (by omega)] | rw [ok_8 (by omega)] | rw [ok_9 (by omega)] | rw [ok_10 (by omega)] | rw [ok_11 (by omega)] | rw [ok_12 (by omega)] | rw [ok_13 (by omega)] | rw [ok_14 (by omega)] | rw [ok_15 (by omega)] | rw [ok_16 (by omega)] | rw [ok_17 (by omega)]); (try simp [regB] at *); omega)); have := all_not (by omega) hb; show SV.b _ = SV.b _; refine congrArg SV.b ?_; simp [mayB, this]) rfl rfl trivial ⟨rfl, rfl⟩
          exact absurd hc35 (by decide)
        try simp only [ct, ne_eq] at hg20_65
        refine g0 3 true 65 66 5 rfl rfl rfl rfl rfl rfl ?_
        refine g0 3 true 65 67 6 rfl rfl rfl rfl rfl rfl ?_
        refine g0 3 true 65 68 7 rfl rfl rfl rfl rfl rfl ?_
        refine s1 69 265 8 rfl rfl rfl rfl rfl rfl trivial ?_
        refine s1 70 273 9 rfl rfl rfl rfl rfl rfl trivial ?_
        refine g0 8 true 70 71 10 rfl rfl rfl rfl rfl rfl ?_
        refine g0 8 true 70 72 11 rfl rfl rfl rfl rfl rfl ?_
        refine g0 8 true 70 73 12 rfl rfl rfl rfl rfl rfl ?_
        refine s1 74 305 13 rfl rfl rfl rfl rfl rfl trivial ?_
        refine s1 75 313 14 rfl rfl rfl rfl rfl rfl trivial ?_
        refine g0 13 true 75 76 15 rfl rfl rfl rfl rfl rfl ?_
        refine g0 13 true 75 77 16 rfl rfl rfl rfl rfl rfl ?_
        refine g0 13 true 75 78 17 rfl rfl rfl rfl rfl rfl ?_
        refine s1 79 345 18 rfl rfl rfl rfl rfl rfl trivial ?_
        refine s1 6 353 19 rfl rfl rfl rfl rfl rfl trivial ?_
        refine e1 361 rfl ?_
        refine bn ?_
        refine tn ?_
        refine r1 ?_
        refine s1 194 361 1 rfl rfl rfl rfl rfl rfl trivial ?_
        refine s1 195 369 2 rfl rfl rfl rfl rfl rfl trivial ?_
        refine e1 377 rfl ?_
        refine keep [1, 10, 11, 12, 195] rfl ?_
        refine q1 rfl (fun hc35 => ?_) (fun hc35 => ?_)
        · skip
          try simp only [ct, ne_eq] at hc35
          refine r1 ?_
          refine s1 2 377 1 rfl rfl rfl rfl rfl rfl trivial ?_
          refine e1 385 rfl ?_
          refine keep [2] rfl ?_
          refine W_ret ?_
          refine br ?_
          refine tr ?_
          refine tr ?_
          refine br ?_
          refine tr ?_
          exact out1 2 (SV.b (mayB l)) (π := []) (hout := []) Tryd.results8 rfl (by have hb : okB l.length (l.getD n default) = false := (by clear hno; (try simp only [Int.toNat_natCast] at *); generalize l.getD n default = o at *; first | exact ok_kind (by omega) | (rw [← Bool.not_eq_true]; (first | rw [ok_1 (by omega)] | rw [ok_2 (by omega)] | rw [ok_3 (by omega)] | rw [ok_4 (by omega)] | rw [ok_5 (by omega)] | rw [ok_6 (by omega)] | rw [ok_7 (by omega)] | rw [ok_8 (by omega)] | rw [ok_9 (by omega)] | rw [ok_10 (by omega)] | rw [ok_11 (by omega)] | rw [ok_12 (by omega)] | rw [ok_13 (by omega)] | rw [ok_14 (by omega)] | rw [ok_15 (by omega)] | rw [ok_16 (by omega)] | rw [ok_17 (by omega)]); (try simp [regB] at *); omega)); have := all_not (by omega) hb; show SV.b _ = SV.b _; refine congrArg SV.b ?_; simp [mayB, this]) rfl rfl trivial ⟨rfl, rfl⟩
        exact absurd hc35 (by decide)
      try simp only [ct, ne_eq] at hc18
      exfalso; first | omega | contradiction | (simp_all; done)
    try simp only [ct, ne_eq] at hc18
    refine r0 ?_
    refine s1 61 209 1 rfl rfl rfl rfl rfl rfl trivial ?_
    refine s1 54 217 2 rfl rfl rfl rfl rfl rfl trivial ?_
    refine e1 225 rfl ?_
    refine tn ?_
    refine q1 rfl (fun hc19 => ?_) (fun hc19 => ?_)
    · skip
      try simp only [ct, ne_eq] at hc19
      refine r0 ?_
      refine s1 62 225 1 rfl rfl rfl rfl rfl rfl trivial ?_
      refine s1 63 233 2 rfl rfl rfl rfl rfl rfl trivial ?_
      refine c1 (reg_any (l.getD n default).a) [] [] 64 241 3 rfl rfl rfl rfl rfl rfl rfl rfl Tryd.func18 rfl rfl rfl rfl trivial rfl rfl ?_
      refine s1 65 249 4 rfl rfl rfl rfl rfl rfl trivial ?_
      refine ask 65 rfl (fun hg20_65 => ?_) (fun hg20_65 => ?_)
      · skip
        try simp only [ct, ne_eq] at hg20_65
        refine g1 3 true 65 66 5 rfl rfl rfl rfl rfl ?_
        refine s1 66 257 5 rfl rfl rfl rfl rfl rfl trivial ?_
        refine g1 3 true 65 67 6 rfl rfl rfl rfl rfl ?_
        refine s1 67 265 6 rfl rfl rfl rfl rfl rfl trivial ?_
        refine g1 3 true 65 68 7 rfl rfl rfl rfl rfl ?_
        refine c1 (reg_any (l.getD n default).b) [] [] 68 273 7 rfl rfl rfl rfl rfl rfl rfl rfl Tryd.func18 rfl rfl rfl rfl trivial rfl rfl ?_
        refine s1 69 281 8 rfl rfl rfl rfl rfl rfl trivial ?_
        refine s1 70 289 9 rfl rfl rfl rfl rfl rfl trivial ?_
        refine ask 70 rfl (fun hg20_70 => ?_) (fun hg20_70 => ?_)
        · skip
          try simp only [ct, ne_eq] at hg20_70
          refine g1 8 true 70 71 10 rfl rfl rfl rfl rfl ?_
          refine s1 71 297 10 rfl rfl rfl rfl rfl rfl trivial ?_
          refine g1 8 true 70 72 11 rfl rfl rfl rfl rfl ?_
          refine s1 72 305 11 rfl rfl rfl rfl rfl rfl trivial ?_
          refine g1 8 true 70 73 12 rfl rfl rfl rfl rfl ?_
          refine c1 (reg_any (l.getD n default).c) [] [] 73 313 12 rfl rfl rfl rfl rfl rfl rfl rfl Tryd.func18 rfl rfl rfl rfl trivial rfl rfl ?_
          refine s1 74 321 13 rfl rfl rfl rfl rfl rfl trivial ?_
          refine s1 75 329 14 rfl rfl rfl rfl rfl rfl trivial ?_
          refine ask 75 rfl (fun hg20_75 => ?_) (fun hg20_75 => ?_)
          · skip
            try simp only [ct, ne_eq] at hg20_75
            refine g1 13 true 75 76 15 rfl rfl rfl rfl rfl ?_
            refine s1 76 337 15 rfl rfl rfl rfl rfl rfl trivial ?_
            refine g1 13 true 75 77 16 rfl rfl rfl rfl rfl ?_
            refine s1 77 345 16 rfl rfl rfl rfl rfl rfl trivial ?_
            refine g1 13 true 75 78 17 rfl rfl rfl rfl rfl ?_
            refine s1 78 353 17 rfl rfl rfl rfl rfl rfl trivial ?_
            refine s1 79 361 18 rfl rfl rfl rfl rfl rfl trivial ?_
            refine s1 6 369 19 rfl rfl rfl rfl rfl rfl trivial ?_
            refine e1 377 rfl ?_
            refine bn ?_
            refine tn ?_
            refine r1 ?_
            refine s1 194 377 1 rfl rfl rfl rfl rfl rfl trivial ?_
            refine s1 195 385 2 rfl rfl rfl rfl rfl rfl trivial ?_
            refine e1 393 rfl ?_
            refine keep [1, 10, 11, 12, 195] rfl ?_
            refine q1 rfl (fun hc35 => ?_) (fun hc35 => ?_)
            · skip
              try simp only [ct, ne_eq] at hc35
              refine r1 ?_
              refine s1 2 393 1 rfl rfl rfl rfl rfl rfl trivial ?_
              refine e1 401 rfl ?_
              refine keep [2] rfl ?_
              refine W_ret ?_
              refine br ?_
              refine tr ?_
              refine tr ?_
              refine br ?_
              refine tr ?_
              exact out1 2 (SV.b (mayB l)) (π := []) (hout := []) Tryd.results8 rfl (by have hb : okB l.length (l.getD n default) = false := (by clear hno; (try simp only [Int.toNat_natCast] at *); generalize l.getD n default = o at *; first | exact ok_kind (by omega) | (rw [← Bool.not_eq_true]; (first | rw [ok_1 (by omega)] | rw [ok_2 (by omega)] | rw [ok_3 (by omega)] | rw [ok_4 (by omega)] | rw [ok_5 (by omega)] | rw [ok_6 (by omega)] | rw [ok_7 (by omega)] | rw [ok_8 (by omega)] | rw [ok_9 (by omega)] | rw [ok_10 (by omega)] | rw [ok_11 (by omega)] | rw [ok_12 (by omega)] | rw [ok_13 (by omega)] | rw [ok_14 (by omega)] | rw [ok_15 (by omega)] | rw [ok_16 (by omega)] | rw [ok_17 (by omega)]); (try simp [regB] at *); omega)); have := all_not (by omega) hb; show SV.b _ = SV.b _; refine congrArg SV.b ?_; simp [mayB, this]) rfl rfl trivial ⟨rfl, rfl⟩
            try simp only [ct, ne_eq] at hc35
            refine W_skip ?_
            refine bn ?_
            refine tn ?_
            refine r0 ?_
            refine sA 196 393 1 rfl rfl rfl rfl rfl rfl rfl rfl rfl (by unfold inRange; omega) ?_
            refine s1 12 401 2 rfl rfl rfl rfl rfl rfl trivial ?_
            refine e1 409 rfl ?_
            refine tn ?_
            exact again (n + 1) [0] ⟨by omega, fun j hj => by by_cases e : j = n; (subst e; (clear hno; (try simp only [Int.toNat_natCast] at *); generalize l.getD j default = o at *; (first | rw [ok_1 (by omega)] | rw [ok_2 (by omega)] | rw [ok_3 (by omega)] | rw [ok_4 (by omega)] | rw [ok_5 (by omega)] | rw [ok_6 (by omega)] | rw [ok_7 (by omega)] | rw [ok_8 (by omega)] | rw [ok_9 (by omega)] | rw [ok_10 (by omega)] | rw [ok_11 (by omega)] | rw [ok_12 (by omega)] | rw [ok_13 (by omega)] | rw [ok_14 (by omega)] | rw [ok_15 (by omega)] | rw [ok_16 (by omega)] | rw [ok_17 (by omega)]); (try simp [regB] at *); omega)); exact hno j (by omega)⟩ (by omega) rfl ⟨rfl, rfl, rfl, rfl, trivial⟩ ⟨rfl, trivial⟩
          try simp only [ct, ne_eq] at hg20_75
          refine g0 13 true 75 76 15 rfl rfl rfl rfl rfl rfl ?_
          refine g0 13 true 75 77 16 rfl rfl rfl rfl rfl rfl ?_
          refine g0 13 true 75 78 17 rfl rfl rfl rfl rfl rfl ?_
          refine s1 79 361 18 rfl rfl rfl rfl rfl rfl trivial ?_
          refine s1 6 369 19 rfl rfl rfl rfl rfl rfl trivial ?_
          refine e1 377 rfl ?_
          refine bn ?_
          refine tn ?_
          refine r1 ?_
          refine s1 194 377 1 rfl rfl rfl rfl rfl rfl trivial ?_
          refine s1 195 385 2 rfl rfl rfl rfl rfl rfl trivial ?_
          refine e1 393 rfl ?_
          refine keep [1, 10, 11, 12, 195] rfl ?_
          refine q1 rfl (fun hc35 => ?_) (fun hc35 => ?_)
          · skip
            try simp only [ct, ne_eq] at hc35
            refine r1 ?_
            refine s1 2 393 1 rfl rfl rfl rfl rfl rfl trivial ?_
            refine e1 401 rfl ?_
            refine keep [2] rfl ?_
            refine W_ret ?_
            refine br ?_
            refine tr ?_
            refine tr ?_
            refine br ?_
            refine tr ?_
            exact out1 2 (SV.b (mayB l)) (π := []) (hout := []) Tryd.results8 rfl (by have hb : okB l.length (l.getD n default) = false := (by clear hno; (try simp only [Int.toNat_natCast] at *); generalize l.getD n default = o at *; first | exact ok_kind (by omega) | (rw [← Bool.not_eq_true]; (first | rw [ok_1 (by omega)] | rw [ok_2 (by omega)] | rw [ok_3 (by omega)] | rw [ok_4 (by omega)] | rw [ok_5 (by omega)] | rw [ok_6 (by omega)] | rw [ok_7 (by omega)] | rw [ok_8 (by omega)] | rw [ok_9 (by omega)] | rw [ok_10 (by omega)] | rw [ok_11 (by omega)] | rw [ok_12 (by omega)] | rw [ok_13 (by omega)] | rw [ok_14 (by omega)] | rw [ok_15 (by omega)] | rw [ok_16 (by omega)] | rw [ok_17 (by omega)]); (try simp [regB] at *); omega)); have := all_not (by omega) hb; show SV.b _ = SV.b _; refine congrArg SV.b ?_; simp [mayB, this]) rfl rfl trivial ⟨rfl, rfl⟩
          exact absurd hc35 (by decide)
        try simp only [ct, ne_eq] at hg20_70
        refine g0 8 true 70 71 10 rfl rfl rfl rfl rfl rfl ?_
        refine g0 8 true 70 72 11 rfl rfl rfl rfl rfl rfl ?_
        refine g0 8 true 70 73 12 rfl rfl rfl rfl rfl rfl ?_
        refine s1 74 321 13 rfl rfl rfl rfl rfl rfl trivial ?_
        refine s1 75 329 14 rfl rfl rfl rfl rfl rfl trivial ?_
        refine g0 13 true 75 76 15 rfl rfl rfl rfl rfl rfl ?_
        refine g0 13 true 75 77 16 rfl rfl rfl rfl rfl rfl ?_
        refine g0 13 true 75 78 17 rfl rfl rfl rfl rfl rfl ?_
        refine s1 79 361 18 rfl rfl rfl rfl rfl rfl trivial ?_
        refine s1 6 369 19 rfl rfl rfl rfl rfl rfl trivial ?_
        refine e1 377 rfl ?_
        refine bn ?_
        refine tn ?_
        refine r1 ?_
        refine s1 194 377 1 rfl rfl rfl rfl rfl rfl trivial ?_
        refine s1 195 385 2 rfl rfl rfl rfl rfl rfl trivial ?_
        refine e1 393 rfl ?_
        refine keep [1, 10, 11, 12, 195] rfl ?_
        refine q1 rfl (fun hc35 => ?_) (fun hc35 => ?_)
        · skip
          try simp only [ct, ne_eq] at hc35
          refine r1 ?_
          refine s1 2 393 1 rfl rfl rfl rfl rfl rfl trivial ?_
          refine e1 401 rfl ?_
          refine keep [2] rfl ?_
          refine W_ret ?_
          refine br ?_
          refine tr ?_
          refine tr ?_
          refine br ?_
          refine tr ?_
          exact out1 2 (SV.b (mayB l)) (π := []) (hout := []) Tryd.results8 rfl (by have hb : okB l.length (l.getD n default) = false := (by clear hno; (try simp only [Int.toNat_natCast] at *); generalize l.getD n default = o at *; first | exact ok_kind (by omega) | (rw [← Bool.not_eq_true]; (first | rw [ok_1 (by omega)] | rw [ok_2 (by omega)] | rw [ok_3 (by omega)] | rw [ok_4 (by omega)] | rw [ok_5 (by omega)] | rw [ok_6 (by omega)] | rw [ok_7 (by omega)] | rw [ok_8 (by omega)] | rw [ok_9 (by omega)] | rw [ok_10 (by omega)] | rw [ok_11 (by omega)] | rw [ok_12 (by omega)] | rw [ok_13 (by omega)] | rw [ok_14 (by omega)] | rw [ok_15 (by omega)] | rw [ok_16 (by omega)] | rw [ok_17 (by omega)]); (try simp [regB] at *); omega)); have := all_not (by omega) hb; show SV.b _ = SV.b _; refine congrArg SV.b ?_; simp [mayB, this]) rfl rfl trivial ⟨rfl, rfl⟩
        exact absurd hc35 (by decide)
      try simp only [ct, ne_eq] at hg20_65
      refine g0 3 true 65 66 5 rfl rfl rfl rfl rfl rfl ?_
      refine g0 3 true 65 67 6 rfl rfl rfl rfl rfl rfl ?_
      refine g0 3 true 65 68 7 rfl rfl rfl rfl rfl rfl ?_
      refine s1 69 281 8 rfl rfl rfl rfl rfl rfl trivial ?_
      refine s1 70 289 9 rfl rfl rfl rfl rfl rfl trivial ?_
      refine g0 8 true 70 71 10 rfl rfl rfl rfl rfl rfl ?_
      refine g0 8 true 70 72 11 rfl rfl rfl rfl rfl rfl ?_
      refine g0 8 true 70 73 12 rfl rfl rfl rfl rfl rfl ?_
      refine s1 74 321 13 rfl rfl rfl rfl rfl rfl trivial ?_
      refine s1 75 329 14 rfl rfl rfl rfl rfl rfl trivial ?_
      refine g0 13 true 75 76 15 rfl rfl rfl rfl rfl rfl ?_
      refine g0 13 true 75 77 16 rfl rfl rfl rfl rfl rfl ?_
      refine g0 13 true 75 78 17 rfl rfl rfl rfl rfl rfl ?_
      refine s1 79 361 18 rfl rfl rfl rfl rfl rfl trivial ?_
      refine s1 6 369 19 rfl rfl rfl rfl rfl rfl trivial ?_
      refine e1 377 rfl ?_
      refine bn ?_
      refine tn ?_
      refine r1 ?_
      refine s1 194 377 1 rfl rfl rfl rfl rfl rfl trivial ?_
      refine s1 195 385 2 rfl rfl rfl rfl rfl rfl trivial ?_
      refine e1 393 rfl ?_
      refine keep [1, 10, 11, 12, 195] rfl ?_
      refine q1 rfl (fun hc35 => ?_) (fun hc35 => ?_)
      · skip
        try simp only [ct, ne_eq] at hc35
        refine r1 ?_
        refine s1 2 393 1 rfl rfl rfl rfl rfl rfl trivial ?_
        refine e1 401 rfl ?_
        refine keep [2] rfl ?_
        refine W_ret ?_
        refine br ?_
        refine tr ?_
        refine tr ?_
        refine br ?_
        refine tr ?_
        exact out1 2 (SV.b (mayB l)) (π := []) (hout := []) Tryd.results8 rfl (by have hb : okB l.length (l.getD n default) = false := (by clear hno; (try simp only [Int.toNat_natCast] at *); generalize l.getD n default = o at *; first | exact ok_kind (by omega) | (rw [← Bool.not_eq_true]; (first | rw [ok_1 (by omega)] | rw [ok_2 (by omega)] | rw [ok_3 (by omega)] | rw [ok_4 (by omega)] | rw [ok_5 (by omega)] | rw [ok_6 (by omega)] | rw [ok_7 (by omega)] | rw [ok_8 (by omega)] | rw [ok_9 (by omega)] | rw [ok_10 (by omega)] | rw [ok_11 (by omega)] | rw [ok_12 (by omega)] | rw [ok_13 (by omega)] | rw [ok_14 (by omega)] | rw [ok_15 (by omega)] | rw [ok_16 (by omega)] | rw [ok_17 (by omega)]); (try simp [regB] at *); omega)); have := all_not (by omega) hb; show SV.b _ = SV.b _; refine congrArg SV.b ?_; simp [mayB, this]) rfl rfl trivial ⟨rfl, rfl⟩
      exact absurd hc35 (by decide)
    try simp only [ct, ne_eq] at hc19
    refine r1 ?_
    refine s1 81 225 1 rfl rfl rfl rfl rfl rfl trivial ?_
    refine s1 80 233 2 rfl rfl rfl rfl rfl rfl trivial ?_
    refine e1 241 rfl ?_
    refine keep [1, 4, 5, 6, 10, 11, 12, 18, 80] rfl ?_
    refine q1 rfl (fun hc21 => ?_) (fun hc21 => ?_)
    · skip
      try simp only [ct, ne_eq] at hc21
      refine r0 ?_
      refine s1 82 241 1 rfl rfl rfl rfl rfl rfl trivial ?_
      refine s1 83 249 2 rfl rfl rfl rfl rfl rfl trivial ?_
      refine s1 84 257 3 rfl rfl rfl rfl rfl rfl trivial ?_
      refine c1 (place_any (l.getD n default).a l) [0] [0] 85 265 4 rfl rfl rfl rfl rfl rfl rfl rfl Tryd.func17 rfl rfl rfl rfl ⟨rfl, trivial⟩ rfl rfl ?_
      refine s1 86 273 5 rfl rfl rfl rfl rfl rfl trivial ?_
      refine ask 86 rfl (fun hg22_86 => ?_) (fun hg22_86 => ?_)
      · skip
        try simp only [ct, ne_eq] at hg22_86
        refine g1 4 true 86 87 6 rfl rfl rfl rfl rfl ?_
        refine s1 87 281 6 rfl rfl rfl rfl rfl rfl trivial ?_
        refine g1 4 true 86 88 7 rfl rfl rfl rfl rfl ?_
        refine s1 88 289 7 rfl rfl rfl rfl rfl rfl trivial ?_
        refine g1 4 true 86 89 8 rfl rfl rfl rfl rfl ?_
        refine s1 89 297 8 rfl rfl rfl rfl rfl rfl trivial ?_
        refine s1 90 305 9 rfl rfl rfl rfl rfl rfl trivial ?_
        refine s1 91 313 10 rfl rfl rfl rfl rfl rfl trivial ?_
        refine ask 91 rfl (fun hg22_91 => ?_) (fun hg22_91 => ?_)
        · skip
          try simp only [ct, ne_eq] at hg22_91
          refine g1 9 true 91 92 11 rfl rfl rfl rfl rfl ?_
          refine s1 92 321 11 rfl rfl rfl rfl rfl rfl trivial ?_
          refine g1 9 true 91 93 12 rfl rfl rfl rfl rfl ?_
          refine s1 93 329 12 rfl rfl rfl rfl rfl rfl trivial ?_
          refine g1 9 true 91 94 13 rfl rfl rfl rfl rfl ?_
          refine s1 94 337 13 rfl rfl rfl rfl rfl rfl trivial ?_
          refine s1 95 345 14 rfl rfl rfl rfl rfl rfl trivial ?_
          refine s1 96 353 15 rfl rfl rfl rfl rfl rfl trivial ?_
          refine ask 96 rfl (fun hg22_96 => ?_) (fun hg22_96 => ?_)
          · skip
            try simp only [ct, ne_eq] at hg22_96
            refine g1 14 true 96 97 16 rfl rfl rfl rfl rfl ?_
            refine s1 97 361 16 rfl rfl rfl rfl rfl rfl trivial ?_
            refine g1 14 true 96 98 17 rfl rfl rfl rfl rfl ?_
            refine s1 98 369 17 rfl rfl rfl rfl rfl rfl trivial ?_
            refine g1 14 true 96 99 18 rfl rfl rfl rfl rfl ?_
            refine s1 99 377 18 rfl rfl rfl rfl rfl rfl trivial ?_
            refine s1 100 385 19 rfl rfl rfl rfl rfl rfl trivial ?_
            refine s1 6 393 20 rfl rfl rfl rfl rfl rfl trivial ?_
            refine e1 401 rfl ?_
            refine bn ?_
            refine tn ?_
            refine r1 ?_
            refine s1 194 401 1 rfl rfl rfl rfl rfl rfl trivial ?_
            refine s1 195 409 2 rfl rfl rfl rfl rfl rfl trivial ?_
            refine e1 417 rfl ?_
            refine keep [1, 10, 11, 12, 195] rfl ?_
            refine q1 rfl (fun hc35 => ?_) (fun hc35 => ?_)
            · skip
              try simp only [ct, ne_eq] at hc35
              refine r1 ?_
              refine s1 2 417 1 rfl rfl rfl rfl rfl rfl trivial ?_
              refine e1 425 rfl ?_
              refine keep [2] rfl ?_
              refine W_ret ?_
              refine br ?_
              refine tr ?_
              refine tr ?_
              refine br ?_
              refine tr ?_
              exact out1 2 (SV.b (mayB l)) (π := []) (hout := []) Tryd.results8 rfl (by have hb : okB l.length (l.getD n default) = false := (by clear hno; (try simp only [Int.toNat_natCast] at *); generalize l.getD n default = o at *; first | exact ok_kind (by omega) | (rw [← Bool.not_eq_true]; (first | rw [ok_1 (by omega)] | rw [ok_2 (by omega)] | rw [ok_3 (by omega)] | rw [ok_4 (by omega)] | rw [ok_5 (by omega)] | rw [ok_6 (by omega)] | rw [ok_7 (by omega)] | rw [ok_8 (by omega)] | rw [ok_9 (by omega)] | rw [ok_10 (by omega)] | rw [ok_11 (by omega)] | rw [ok_12 (by omega)] | rw [ok_13 (by omega)] | rw [ok_14 (by omega)] | rw [ok_15 (by omega)] | rw [ok_16 (by omega)] | rw [ok_17 (by omega)]); (try simp [regB] at *); omega)); have := all_not (by omega) hb; show SV.b _ = SV.b _; refine congrArg SV.b ?_; simp [mayB, this]) rfl rfl trivial ⟨rfl, rfl⟩
            try simp only [ct, ne_eq] at hc35
            refine W_skip ?_
            refine bn ?_
            refine tn ?_
            refine r0 ?_
            refine sA 196 417 1 rfl rfl rfl rfl rfl rfl rfl rfl rfl (by unfold inRange; omega) ?_
            refine s1 12 425 2 rfl rfl rfl rfl rfl rfl trivial ?_
            refine e1 433 rfl ?_
            refine tn ?_
            exact again (n + 1) [0] ⟨by omega, fun j hj => by by_cases e : j = n; (subst e; (clear hno; (try simp only [Int.toNat_natCast] at *); generalize l.getD j default = o at *; (first | rw [ok_1 (by omega)] | rw [ok_2 (by omega)] | rw [ok_3 (by omega)] | rw [ok_4 (by omega)] | rw [ok_5 (by omega)] | rw [ok_6 (by omega)] | rw [ok_7 (by omega)] | rw [ok_8 (by omega)] | rw [ok_9 (by omega)] | rw [ok_10 (by omega)] | rw [ok_11 (by omega)] | rw [ok_12 (by omega)] | rw [ok_13 (by omega)] | rw [ok_14 (by omega)] | rw [ok_15 (by omega)] | rw [ok_16 (by omega)] | rw [ok_17 (by omega)]); (try simp [regB] at *); omega)); exact hno j (by omega)⟩ (by omega) rfl ⟨rfl, rfl, rfl, rfl, trivial⟩ ⟨rfl, trivial⟩
          try simp only [ct, ne_eq] at hg22_96
          refine g0 14 true 96 97 16 rfl rfl rfl rfl rfl rfl ?_
          refine g0 14 true 96 98 17 rfl rfl rfl rfl rfl rfl ?_
          refine g0 14 true 96 99 18 rfl rfl rfl rfl rfl rfl ?_
          refine s1 100 385 19 rfl rfl rfl rfl rfl rfl trivial ?_
          refine s1 6 393 20 rfl rfl rfl rfl rfl rfl trivial ?_
          refine e1 401 rfl ?_
          refine bn ?_
          refine tn ?_
          refine r1 ?_
          refine s1 194 401 1 rfl rfl rfl rfl rfl rfl trivial ?_
          refine s1 195 409 2 rfl rfl rfl rfl rfl rfl trivial ?_
          refine e1 417 rfl ?_
          refine keep [1, 10, 11, 12, 195] rfl ?_
          refine q1 rfl (fun hc35 => ?_) (fun hc35 => ?_)
          · skip
            try simp only [ct, ne_eq] at hc35
            refine r1 ?_
            refine s1 2 417 1 rfl rfl rfl rfl rfl rfl trivial ?_
            refine e1 425 rfl ?_
            refine keep [2] rfl ?_
            refine W_ret ?_
            refine br ?_
            refine tr ?_
            refine tr ?_
            refine br ?_
            refine tr ?_
            exact out1 2 (SV.b (mayB l)) (π := []) (hout := []) Tryd.results8 rfl (by have hb : okB l.length (l.getD n default) = false := (by clear hno; (try simp only [Int.toNat_natCast] at *); generalize l.getD n default = o at *; first | exact ok_kind (by omega) | (rw [← Bool.not_eq_true]; (first | rw [ok_1 (by omega)] | rw [ok_2 (by omega)] | rw [ok_3 (by omega)] | rw [ok_4 (by omega)] | rw [ok_5 (by omega)] | rw [ok_6 (by omega)] | rw [ok_7 (by omega)] | rw [ok_8 (by omega)] | rw [ok_9 (by omega)] | rw [ok_10 (by omega)] | rw [ok_11 (by omega)] | rw [ok_12 (by omega)] | rw [ok_13 (by omega)] | rw [ok_14 (by omega)] | rw [ok_15 (by omega)] | rw [ok_16 (by omega)] | rw [ok_17 (by omega)]); (try simp [regB] at *); omega)); have := all_not (by omega) hb; show SV.b _ = SV.b _; refine congrArg SV.b ?_; simp [mayB, this]) rfl rfl trivial ⟨rfl, rfl⟩
          exact absurd hc35 (by decide)
        try simp only [ct, ne_eq] at hg22_91
        refine g0 9 true 91 92 11 rfl rfl rfl rfl rfl rfl ?_
        refine g0 9 true 91 93 12 rfl rfl rfl rfl rfl rfl ?_
        refine g0 9 true 91 94 13 rfl rfl rfl rfl rfl rfl ?_
        refine s1 95 345 14 rfl rfl rfl rfl rfl rfl trivial ?_
        refine s1 96 353 15 rfl rfl rfl rfl rfl rfl trivial ?_
        refine g0 14 true 96 97 16 rfl rfl rfl rfl rfl rfl ?_
        refine g0 14 true 96 98 17 rfl rfl rfl rfl rfl rfl ?_
        refine g0 14 true 96 99 18 rfl rfl rfl rfl rfl rfl ?_
        refine s1 100 385 19 rfl rfl rfl rfl rfl rfl trivial ?_
        refine s1 6 393 20 rfl rfl rfl rfl rfl rfl trivial ?_
        refine e1 401 rfl ?_
        refine bn ?_
        refine tn ?_
        refine r1 ?_
        refine s1 194 401 1 rfl rfl rfl rfl rfl rfl trivial ?_
        refine s1 195 409 2 rfl rfl rfl rfl rfl rfl trivial ?_
        refine e1 417 rfl ?_
        refine keep [1, 10, 11, 12, 195] rfl ?_
        refine q1 rfl (fun hc35 => ?_) (fun hc35 => ?_)
        · skip
          try simp only [ct, ne_eq] at hc35
          refine r1 ?_
          refine s1 2 417 1 rfl rfl rfl rfl rfl rfl trivial ?_
          refine e1 425 rfl ?_
          refine keep [2] rfl ?_
          refine W_ret ?_
          refine br ?_
          refine tr ?_
          refine tr ?_
          refine br ?_
          refine tr ?_
          exact out1 2 (SV.b (mayB l)) (π := []) (hout := []) Tryd.results8 rfl (by have hb : okB l.length (l.getD n default) = false := (by clear hno; (try simp only [Int.toNat_natCast] at *); generalize l.getD n default = o at *; first | exact ok_kind (by omega) | (rw [← Bool.not_eq_true]; (first | rw [ok_1 (by omega)] | rw [ok_2 (by omega)] | rw [ok_3 (by omega)] | rw [ok_4 (by omega)] | rw [ok_5 (by omega)] | rw [ok_6 (by omega)] | rw [ok_7 (by omega)] | rw [ok_8 (by omega)] | rw [ok_9 (by omega)] | rw [ok_10 (by omega)] | rw [ok_11 (by omega)] | rw [ok_12 (by omega)] | rw [ok_13 (by omega)] | rw [ok_14 (by omega)] | rw [ok_15 (by omega)] | rw [ok_16 (by omega)] | rw [ok_17 (by omega)]); (try simp [regB] at *); omega)); have := all_not (by omega) hb; show SV.b _ = SV.b _; refine congrArg SV.b ?_; simp [mayB, this]) rfl rfl trivial ⟨rfl, rfl⟩
        exact absurd hc35 (by decide)
      try simp only [ct, ne_eq] at hg22_86
      refine g0 4 true 86 87 6 rfl rfl rfl rfl rfl rfl ?_
      refine g0 4 true 86 88 7 rfl rfl rfl rfl rfl rfl ?_
      refine g0 4 true 86 89 8 rfl rfl rfl rfl rfl rfl ?_
      refine s1 90 305 9 rfl rfl rfl rfl rfl rfl trivial ?_
      refine s1 91 313 10 rfl rfl rfl rfl rfl rfl trivial ?_
      refine g0 9 true 91 92 11 rfl rfl rfl rfl rfl rfl ?_
      refine g0 9 true 91 93 12 rfl rfl rfl rfl rfl rfl ?_
      refine g0 9 true 91 94 13 rfl rfl rfl rfl rfl rfl ?_
      refine s1 95 345 14 rfl rfl rfl rfl rfl rfl trivial ?_
      refine s1 96 353 15 rfl rfl rfl rfl rfl rfl trivial ?_
      refine g0 14 true 96 97 16 rfl rfl rfl rfl rfl rfl ?_
      refine g0 14 true 96 98 17 rfl rfl rfl rfl rfl rfl ?_
      refine g0 14 true 96 99 18 rfl rfl rfl rfl rfl rfl ?_
      refine s1 100 385 19 rfl rfl rfl rfl rfl rfl trivial ?_
      refine s1 6 393 20 rfl rfl rfl rfl rfl rfl trivial ?_
      refine e1 401 rfl ?_
      refine bn ?_
      refine tn ?_
      refine r1 ?_
      refine s1 194 401 1 rfl rfl rfl rfl rfl rfl trivial ?_
      refine s1 195 409 2 rfl rfl rfl rfl rfl rfl trivial ?_
      refine e1 417 rfl ?_
      refine keep [1, 10, 11, 12, 195] rfl ?_
      refine q1 rfl (fun hc35 => ?_) (fun hc35 => ?_)
      · skip
        try simp only [ct, ne_eq] at hc35
        refine r1 ?_
        refine s1 2 417 1 rfl rfl rfl rfl rfl rfl trivial ?_
        refine e1 425 rfl ?_
        refine keep [2] rfl ?_
        refine W_ret ?_
        refine br ?_
        refine tr ?_
        refine tr ?_
        refine br ?_
        refine tr ?_
        exact out1 2 (SV.b (mayB l)) (π := []) (hout := []) Tryd.results8 rfl (by have hb : okB l.length (l.getD n default) = false := (by clear hno; (try simp only [Int.toNat_natCast] at *); generalize l.getD n default = o at *; first | exact ok_kind (by omega) | (rw [← Bool.not_eq_true]; (first | rw [ok_1 (by omega)] | rw [ok_2 (by omega)] | rw [ok_3 (by omega)] | rw [ok_4 (by omega)] | rw [ok_5 (by omega)] | rw [ok_6 (by omega)] | rw [ok_7 (by omega)] | rw [ok_8 (by omega)] | rw [ok_9 (by omega)] | rw [ok_10 (by omega)] | rw [ok_11 (by omega)] | rw [ok_12 (by omega)] | rw [ok_13 (by omega)] | rw [ok_14 (by omega)] | rw [ok_15 (by omega)] | rw [ok_16 (by omega)] | rw [ok_17 (by omega)]); (try simp [regB] at *); omega)); have := all_not (by omega) hb; show SV.b _ = SV.b _; refine congrArg SV.b ?_; simp [mayB, this]) rfl rfl trivial ⟨rfl, rfl⟩
      exact absurd hc35 (by decide)
    try simp only [ct, ne_eq] at hc21
    refine W_seq ?_
    refine r1 ?_
    refine s1 102 241 1 rfl rfl rfl rfl rfl rfl trivial ?_
    refine s1 101 249 2 rfl rfl rfl rfl rfl rfl trivial ?_
    refine e1 257 rfl ?_
    refine keep [1, 4, 5, 6, 10, 11, 12, 18, 101] rfl ?_
    refine q1 rfl (fun hc23 => ?_) (fun hc23 => ?_)
    · skip
      try simp only [ct, ne_eq] at hc23
      refine W_skip ?_
      refine tn ?_
      refine q1 rfl (fun hc23 => ?_) (fun hc23 => ?_)
      · skip
        try simp only [ct, ne_eq] at hc23
        refine r0 ?_
        refine s1 104 257 1 rfl rfl rfl rfl rfl rfl trivial ?_
        refine s1 105 265 2 rfl rfl rfl rfl rfl rfl trivial ?_
        refine c1 (reg_any (l.getD n default).a) [] [] 106 273 3 rfl rfl rfl rfl rfl rfl rfl rfl Tryd.func18 rfl rfl rfl rfl trivial rfl rfl ?_
        refine s1 107 281 4 rfl rfl rfl rfl rfl rfl trivial ?_
        refine ask 107 rfl (fun hg25_107 => ?_) (fun hg25_107 => ?_)
        · skip
          try simp only [ct, ne_eq] at hg25_107
          refine g1 3 true 107 108 5 rfl rfl rfl rfl rfl ?_
          refine s1 108 289 5 rfl rfl rfl rfl rfl rfl trivial ?_
          refine g1 3 true 107 109 6 rfl rfl rfl rfl rfl ?_
          refine s1 109 297 6 rfl rfl rfl rfl rfl rfl trivial ?_
          refine g1 3 true 107 110 7 rfl rfl rfl rfl rfl ?_
          refine s1 110 305 7 rfl rfl rfl rfl rfl rfl trivial ?_
          refine g1 3 true 107 111 8 rfl rfl rfl rfl rfl ?_
          refine c1 (place_any (l.getD n default).b l) [0] [0] 111 313 8 rfl rfl rfl rfl rfl rfl rfl rfl Tryd.func17 rfl rfl rfl rfl ⟨rfl, trivial⟩ rfl rfl ?_
          refine s1 112 321 9 rfl rfl rfl rfl rfl rfl trivial ?_
          refine s1 113 329 10 rfl rfl rfl rfl rfl rfl trivial ?_
          refine ask 113 rfl (fun hg25_113 => ?_) (fun hg25_113 => ?_)
          · skip
            try simp only [ct, ne_eq] at hg25_113
            refine g1 9 true 113 114 11 rfl rfl rfl rfl rfl ?_
            refine s1 114 337 11 rfl rfl rfl rfl rfl rfl trivial ?_
            refine g1 9 true 113 115 12 rfl rfl rfl rfl rfl ?_
            refine s1 115 345 12 rfl rfl rfl rfl rfl rfl trivial ?_
            refine g1 9 true 113 116 13 rfl rfl rfl rfl rfl ?_
            refine s1 116 353 13 rfl rfl rfl rfl rfl rfl trivial ?_
            refine s1 117 361 14 rfl rfl rfl rfl rfl rfl trivial ?_
            refine s1 118 369 15 rfl rfl rfl rfl rfl rfl trivial ?_
            refine ask 118 rfl (fun hg25_118 => ?_) (fun hg25_118 => ?_)
            · skip
              try simp only [ct, ne_eq] at hg25_118
              refine g1 14 true 118 119 16 rfl rfl rfl rfl rfl ?_
              refine s1 119 377 16 rfl rfl rfl rfl rfl rfl trivial ?_
              refine g1 14 true 118 120 17 rfl rfl rfl rfl rfl ?_
              refine s1 120 385 17 rfl rfl rfl rfl rfl rfl trivial ?_
              refine g1 14 true 118 121 18 rfl rfl rfl rfl rfl ?_
              refine s1 121 393 18 rfl rfl rfl rfl rfl rfl trivial ?_
              refine s1 122 401 19 rfl rfl rfl rfl rfl rfl trivial ?_
              refine s1 6 409 20 rfl rfl rfl rfl rfl rfl trivial ?_
              refine e1 417 rfl ?_
              refine bn ?_
              refine tn ?_
              refine r1 ?_
              refine s1 194 417 1 rfl rfl rfl rfl rfl rfl trivial ?_
              refine s1 195 425 2 rfl rfl rfl rfl rfl rfl trivial ?_
              refine e1 433 rfl ?_
              refine keep [1, 10, 11, 12, 195] rfl ?_
              refine q1 rfl (fun hc35 => ?_) (fun hc35 => ?_)
              · skip
                try simp only [ct, ne_eq] at hc35
                refine r1 ?_
                refine s1 2 433 1 rfl rfl rfl rfl rfl rfl trivial ?_
                refine e1 441 rfl ?_
                refine keep [2] rfl ?_
                refine W_ret ?_
                refine br ?_
                refine tr ?_
                refine tr ?_
                refine br ?_
                refine tr ?_
                exact out1 2 (SV.b (mayB l)) (π := []) (hout := []) Tryd.results8 rfl (by have hb : okB l.length (l.getD n default) = false := (by clear hno; (try simp only [Int.toNat_natCast] at *); generalize l.getD n default = o at *; first | exact ok_kind (by omega) | (rw [← Bool.not_eq_true]; (first | rw [ok_1 (by omega)] | rw [ok_2 (by omega)] | rw [ok_3 (by omega)] | rw [ok_4 (by omega)] | rw [ok_5 (by omega)] | rw [ok_6 (by omega)] | rw [ok_7 (by omega)] | rw [ok_8 (by omega)] | rw [ok_9 (by omega)] | rw [ok_10 (by omega)] | rw [ok_11 (by omega)] | rw [ok_12 (by omega)] | rw [ok_13 (by omega)] | rw [ok_14 (by omega)] | rw [ok_15 (by omega)] | rw [ok_16 (by omega)] | rw [ok_17 (by omega)]); (try simp [regB] at *); omega)); have := all_not (by omega) hb; show SV.b _ = SV.b _; refine congrArg SV.b ?_; simp [mayB, this]) rfl rfl trivial ⟨rfl, rfl⟩
              try simp only [ct, ne_eq] at hc35
              refine W_skip ?_
              refine bn ?_
              refine tn ?_
              refine r0 ?_
              refine sA 196 433 1 rfl rfl rfl rfl rfl rfl rfl rfl rfl (by unfold inRange; omega) ?_
              refine s1 12 441 2 rfl rfl rfl rfl rfl rfl trivial ?_
              refine e1 449 rfl ?_
              refine tn ?_
              exact again (n + 1) [0] ⟨by omega, fun j hj => by by_cases e : j = n; (subst e; (clear hno; (try simp only [Int.toNat_natCast] at *); generalize l.getD j default = o at *; (first | rw [ok_1 (by omega)] | rw [ok_2 (by omega)] | rw [ok_3 (by omega)] | rw [ok_4 (by omega)] | rw [ok_5 (by omega)] | rw [ok_6 (by omega)] | rw [ok_7 (by omega)] | rw [ok_8 (by omega)] | rw [ok_9 (by omega)] | rw [ok_10 (by omega)] | rw [ok_11 (by omega)] | rw [ok_12 (by omega)] | rw [ok_13 (by omega)] | rw [ok_14 (by omega)] | rw [ok_15 (by omega)] | rw [ok_16 (by omega)] | rw [ok_17 (by omega)]); (try simp [regB] at *); omega)); exact hno j (by omega)⟩ (by omega) rfl ⟨rfl, rfl, rfl, rfl, trivial⟩ ⟨rfl, trivial⟩
            try simp only [ct, ne_eq] at hg25_118
            refine g0 14 true 118 119 16 rfl rfl rfl rfl rfl rfl ?_
            refine g0 14 true 118 120 17 rfl rfl rfl rfl rfl rfl ?_
            refine g0 14 true 118 121 18 rfl rfl rfl rfl rfl rfl ?_
            refine s1 122 401 19 rfl rfl rfl rfl rfl rfl trivial ?_
            refine s1 6 409 20 rfl rfl rfl rfl rfl rfl trivial ?_
            refine e1 417 rfl ?_
            refine bn ?_
            refine tn ?_
            refine r1 ?_
            refine s1 194 417 1 rfl rfl rfl rfl rfl rfl trivial ?_
            refine s1 195 425 2 rfl rfl rfl rfl rfl rfl trivial ?_
            refine e1 433 rfl ?_
            refine keep [1, 10, 11, 12, 195] rfl ?_
            refine q1 rfl (fun hc35 => ?_) (fun hc35 => ?_)
            · skip
              try simp only [ct, ne_eq] at hc35
              refine r1 ?_
              refine s1 2 433 1 rfl rfl rfl rfl rfl rfl trivial ?_
              refine e1 441 rfl ?_
              refine keep [2] rfl ?_
              refine W_ret ?_
              refine br ?_
              refine tr ?_
              refine tr ?_
              refine br ?_
              refine tr ?_
              exact out1 2 (SV.b (mayB l)) (π := []) (hout := []) Tryd.results8 rfl (by have hb : okB l.length (l.getD n default) = false := (by clear hno; (try simp only [Int.toNat_natCast] at *); generalize l.getD n default = o at *; first | exact ok_kind (by omega) | (rw [← Bool.not_eq_true]; (first | rw [ok_1 (by omega)] | rw [ok_2 (by omega)] | rw [ok_3 (by omega)] | rw [ok_4 (by omega)] | rw [ok_5 (by omega)] | rw [ok_6 (by omega)] | rw [ok_7 (by omega)] | rw [ok_8 (by omega)] | rw [ok_9 (by omega)] | rw [ok_10 (by omega)] | rw [ok_11 (by omega)] | rw [ok_12 (by omega)] | rw [ok_13 (by omega)] | rw [ok_14 (by omega)] | rw [ok_15 (by omega)] | rw [ok_16 (by omega)] | rw [ok_17 (by omega)]); (try simp [regB] at *); omega)); have := all_not (by omega) hb; show SV.b _ = SV.b _; refine congrArg SV.b ?_; simp [mayB, this]) rfl rfl trivial ⟨rfl, rfl⟩
            exact absurd hc35 (by decide)
          try simp only [ct, ne_eq] at hg25_113
          refine g0 9 true 113 114 11 rfl rfl rfl rfl rfl rfl ?_
          refine g0 9 true 113 115 12 rfl rfl rfl rfl rfl rfl ?_
          refine g0 9 true 113 116 13 rfl rfl rfl rfl rfl rfl ?_
          refine s1 117 361 14 rfl rfl rfl rfl rfl rfl trivial ?_
          refine s1 118 369 15 rfl rfl rfl rfl rfl rfl trivial ?_
          refine g0 14 true 118 119 16 rfl rfl rfl rfl rfl rfl ?_
          refine g0 14 true 118 120 17 rfl rfl rfl rfl rfl rfl ?_
          refine g0 14 true 118 121 18 rfl rfl rfl rfl rfl rfl ?_
          refine s1 122 401 19 rfl rfl rfl rfl rfl rfl trivial ?_
          refine s1 6 409 20 rfl rfl rfl rfl rfl rfl trivial ?_
          refine e1 417 rfl ?_
          refine bn ?_
          refine tn ?_
          refine r1 ?_
          refine s1 194 417 1 rfl rfl rfl rfl rfl rfl trivial ?_
          refine s1 195 425 2 rfl rfl rfl rfl rfl rfl trivial ?_
          refine e1 433 rfl ?_
          refine keep [1, 10, 11, 12, 195] rfl ?_
          refine q1 rfl (fun hc35 => ?_) (fun hc35 => ?_)
          · skip
            try simp only [ct, ne_eq] at hc35
            refine r1 ?_
            refine s1 2 433 1 rfl rfl rfl rfl rfl rfl trivial ?_
            refine e1 441 rfl ?_
            refine keep [2] rfl ?_
            refine W_ret ?_
            refine br ?_
            refine tr ?_
            refine tr ?_
            refine br ?_
            refine tr ?_
            exact out1 2 (SV.b (mayB l)) (π := []) (hout := []) Tryd.results8 rfl (by have hb : okB l.length (l.getD n default) = false := (by clear hno; (try simp only [Int.toNat_natCast] at *); generalize l.getD n default = o at *; first | exact ok_kind (by omega) | (rw [← Bool.not_eq_true]; (first | rw [ok_1 (by omega)] | rw [ok_2 (by omega)] | rw [ok_3 (by omega)] | rw [ok_4 (by omega)] | rw [ok_5 (by omega)] | rw [ok_6 (by omega)] | rw [ok_7 (by omega)] | rw [ok_8 (by omega)] | rw [ok_9 (by omega)] | rw [ok_10 (by omega)] | rw [ok_11 (by omega)] | rw [ok_12 (by omega)] | rw [ok_13 (by omega)] | rw [ok_14 (by omega)] | rw [ok_15 (by omega)] | rw [ok_16 (by omega)] | rw [ok_17 (by omega)]); (try simp [regB] at *); omega)); have := all_not (by omega) hb; show SV.b _ = SV.b _; refine congrArg SV.b ?_; simp [mayB, this]) rfl rfl trivial ⟨rfl, rfl⟩
          exact absurd hc35 (by decide)
        try simp only [ct, ne_eq] at hg25_107
        refine g0 3 true 107 108 5 rfl rfl rfl rfl rfl rfl ?_
        refine g0 3 true 107 109 6 rfl rfl rfl rfl rfl rfl ?_
        refine g0 3 true 107 110 7 rfl rfl rfl rfl rfl rfl ?_
        refine g0 3 true 107 111 8 rfl rfl rfl rfl rfl rfl ?_
        refine s1 112 321 9 rfl rfl rfl rfl rfl rfl trivial ?_
        refine s1 113 329 10 rfl rfl rfl rfl rfl rfl trivial ?_
        refine g0 9 true 113 114 11 rfl rfl rfl rfl rfl rfl ?_
        refine g0 9 true 113 115 12 rfl rfl rfl rfl rfl rfl ?_
        refine g0 9 true 113 116 13 rfl rfl rfl rfl rfl rfl ?_
        refine s1 117 361 14 rfl rfl rfl rfl rfl rfl trivial ?_
        refine s1 118 369 15 rfl rfl rfl rfl rfl rfl trivial ?_
        refine g0 14 true 118 119 16 rfl rfl rfl rfl rfl rfl ?_
        refine g0 14 true 118 120 17 rfl rfl rfl rfl rfl rfl ?_
        refine g0 14 true 118 121 18 rfl rfl rfl rfl rfl rfl ?_
        refine s1 122 401 19 rfl rfl rfl rfl rfl rfl trivial ?_
        refine s1 6 409 20 rfl rfl rfl rfl rfl rfl trivial ?_
        refine e1 417 rfl ?_
        refine bn ?_
        refine tn ?_
        refine r1 ?_
        refine s1 194 417 1 rfl rfl rfl rfl rfl rfl trivial ?_
        refine s1 195 425 2 rfl rfl rfl rfl rfl rfl trivial ?_
        refine e1 433 rfl ?_
        refine keep [1, 10, 11, 12, 195] rfl ?_
        refine q1 rfl (fun hc35 => ?_) (fun hc35 => ?_)
        · skip
          try simp only [ct, ne_eq] at hc35
          refine r1 ?_
          refine s1 2 433 1 rfl rfl rfl rfl rfl rfl trivial ?_
          refine e1 441 rfl ?_
          refine keep [2] rfl ?_
          refine W_ret ?_
          refine br ?_
          refine tr ?_
          refine tr ?_
          refine br ?_
          refine tr ?_
          exact out1 2 (SV.b (mayB l)) (π := []) (hout := []) Tryd.results8 rfl (by have hb : okB l.length (l.getD n default) = false := (by clear hno; (try simp only [Int.toNat_natCast] at *); generalize l.getD n default = o at *; first | exact ok_kind (by omega) | (rw [← Bool.not_eq_true]; (first | rw [ok_1 (by omega)] | rw [ok_2 (by omega)] | rw [ok_3 (by omega)] | rw [ok_4 (by omega)] | rw [ok_5 (by omega)] | rw [ok_6 (by omega)] | rw [ok_7 (by omega)] | rw [ok_8 (by omega)] | rw [ok_9 (by omega)] | rw [ok_10 (by omega)] | rw [ok_11 (by omega)] | rw [ok_12 (by omega)] | rw [ok_13 (by omega)] | rw [ok_14 (by omega)] | rw [ok_15 (by omega)] | rw [ok_16 (by omega)] | rw [ok_17 (by omega)]); (try simp [regB] at *); omega)); have := all_not (by omega) hb; show SV.b _ = SV.b _; refine congrArg SV.b ?_; simp [mayB, this]) rfl rfl trivial ⟨rfl, rfl⟩
        exact absurd hc35 (by decide)
      try simp only [ct, ne_eq] at hc23
      exfalso; first | omega | contradiction | (simp_all; done)
    try simp only [ct, ne_eq] at hc23
    refine r0 ?_
    refine s1 103 257 1 rfl rfl rfl rfl rfl rfl trivial ?_
    refine s1 101 265 2 rfl rfl rfl rfl rfl rfl trivial ?_
    refine e1 273 rfl ?_
    refine tn ?_
    refine q1 rfl (fun hc24 => ?_) (fun hc24 => ?_)
    · skip
      try simp only [ct, ne_eq] at hc24
      refine r0 ?_
      refine s1 104 273 1 rfl rfl rfl rfl rfl rfl trivial ?_
      refine s1 105 281 2 rfl rfl rfl rfl rfl rfl trivial ?_
      refine c1 (reg_any (l.getD n default).a) [] [] 106 289 3 rfl rfl rfl rfl rfl rfl rfl rfl Tryd.func18 rfl rfl rfl rfl trivial rfl rfl ?_
      refine s1 107 297 4 rfl rfl rfl rfl rfl rfl trivial ?_
      refine ask 107 rfl (fun hg25_107 => ?_) (fun hg25_107 => ?_)
      · skip
        try simp only [ct, ne_eq] at hg25_107
        refine g1 3 true 107 108 5 rfl rfl rfl rfl rfl ?_
        refine s1 108 305 5 rfl rfl rfl rfl rfl rfl trivial ?_
        refine g1 3 true 107 109 6 rfl rfl rfl rfl rfl ?_
        refine s1 109 313 6 rfl rfl rfl rfl rfl rfl trivial ?_
        refine g1 3 true 107 110 7 rfl rfl rfl rfl rfl ?_
        refine s1 110 321 7 rfl rfl rfl rfl rfl rfl trivial ?_
        refine g1 3 true 107 111 8 rfl rfl rfl rfl rfl ?_
        refine c1 (place_any (l.getD n default).b l) [0] [0] 111 329 8 rfl rfl rfl rfl rfl rfl rfl rfl Tryd.func17 rfl rfl rfl rfl ⟨rfl, trivial⟩ rfl rfl ?_
        refine s1 112 337 9 rfl rfl rfl rfl rfl rfl trivial ?_
        refine s1 113 345 10 rfl rfl rfl rfl rfl rfl trivial ?_
        refine ask 113 rfl (fun hg25_113 => ?_) (fun hg25_113 => ?_)
        · skip
          try simp only [ct, ne_eq] at hg25_113
          refine g1 9 true 113 114 11 rfl rfl rfl rfl rfl ?_
          refine s1 114 353 11 rfl rfl rfl rfl rfl rfl trivial ?_
          refine g1 9 true 113 115 12 rfl rfl rfl rfl rfl ?_
          refine s1 115 361 12 rfl rfl rfl rfl rfl rfl trivial ?_
          refine g1 9 true 113 116 13 rfl rfl rfl rfl rfl ?_
          refine s1 116 369 13 rfl rfl rfl rfl rfl rfl trivial ?_
          refine s1 117 377 14 rfl rfl rfl rfl rfl rfl trivial ?_
          refine s1 118 385 15 rfl rfl rfl rfl rfl rfl trivial ?_
          refine ask 118 rfl (fun hg25_118 => ?_) (fun hg25_118 => ?_)
          · skip
            try simp only [ct, ne_eq] at hg25_118
            refine g1 14 true 118 119 16 rfl rfl rfl rfl rfl ?_
            refine s1 119 393 16 rfl rfl rfl rfl rfl rfl trivial ?_
            refine g1 14 true 118 120 17 rfl rfl rfl rfl rfl ?_
            refine s1 120 401 17 rfl rfl rfl rfl rfl rfl trivial ?_
            refine g1 14 true 118 121 18 rfl rfl rfl rfl rfl ?_
            refine s1 121 409 18 rfl rfl rfl rfl rfl rfl trivial ?_
            refine s1 122 417 19 rfl rfl rfl rfl rfl rfl trivial ?_
            refine s1 6 425 20 rfl rfl rfl rfl rfl rfl trivial ?_
            refine e1 433 rfl ?_
            refine bn ?_
            refine tn ?_
            refine r1 ?_
            refine s1 194 433 1 rfl rfl rfl rfl rfl rfl trivial ?_
            refine s1 195 441 2 rfl rfl rfl rfl rfl rfl trivial ?_
            refine e1 449 rfl ?_
            refine keep [1, 10, 11, 12, 195] rfl ?_
            refine q1 rfl (fun hc35 => ?_) (fun hc35 => ?_)
            · skip
              try simp only [ct, ne_eq] at hc35
              refine r1 ?_
              refine s1 2 449 1 rfl rfl rfl rfl rfl rfl trivial ?_
              refine e1 457 rfl ?_
              refine keep [2] rfl ?_
              refine W_ret ?_
              refine br ?_
              refine tr ?_
              refine tr ?_
              refine br ?_
              refine tr ?_
              exact out1 2 (SV.b (mayB l)) (π := []) (hout := []) Tryd.results8 rfl (by have hb : okB l.length (l.getD n default) = false := (by clear hno; (try simp only [Int.toNat_natCast] at *); generalize l.getD n default = o at *; first | exact ok_kind (by omega) | (rw [← Bool.not_eq_true]; (first | rw [ok_1 (by omega)] | rw [ok_2 (by omega)] | rw [ok_3 (by omega)] | rw [ok_4 (by omega)] | rw [ok_5 (by omega)] | rw [ok_6 (by omega)] | rw [ok_7 (by omega)] | rw [ok_8 (by omega)] | rw [ok_9 (by omega)] | rw [ok_10 (by omega)] | rw [ok_11 (by omega)] | rw [ok_12 (by omega)] | rw [ok_13 (by omega)] | rw [ok_14 (by omega)] | rw [ok_15 (by omega)] | rw [ok_16 (by omega)] | rw [ok_17 (by omega)]); (try simp [regB] at *); omega)); have := all_not (by omega) hb; show SV.b _ = SV.b _; refine congrArg SV.b ?_; simp [mayB, this]) rfl rfl trivial ⟨rfl, rfl⟩
            try simp only [ct, ne_eq] at hc35
            refine W_skip ?_
            refine bn ?_
            refine tn ?_
            refine r0 ?_
            refine sA 196 449 1 rfl rfl rfl rfl rfl rfl rfl rfl rfl (by unfold inRange; omega) ?_
            refine s1 12 457 2 rfl rfl rfl rfl rfl rfl trivial ?_
            refine e1 465 rfl ?_
            refine tn ?_
            exact again (n + 1) [0] ⟨by omega, fun j hj => by by_cases e : j = n; (subst e; (clear hno; (try simp only [Int.toNat_natCast] at *); generalize l.getD j default = o at *; (first | rw [ok_1 (by omega)] | rw [ok_2 (by omega)] | rw [ok_3 (by omega)] | rw [ok_4 (by omega)] | rw [ok_5 (by omega)] | rw [ok_6 (by omega)] | rw [ok_7 (by omega)] | rw [ok_8 (by omega)] | rw [ok_9 (by omega)] | rw [ok_10 (by omega)] | rw [ok_11 (by omega)] | rw [ok_12 (by omega)] | rw [ok_13 (by omega)] | rw [ok_14 (by omega)] | rw [ok_15 (by omega)] | rw [ok_16 (by omega)] | rw [ok_17 (by omega)]); (try simp [regB] at *); omega)); exact hno j (by omega)⟩ (by omega) rfl ⟨rfl, rfl, rfl, rfl, trivial⟩ ⟨rfl, trivial⟩
          try simp only [ct, ne_eq] at hg25_118
          refine g0 14 true 118 119 16 rfl rfl rfl rfl rfl rfl ?_
          refine g0 14 true 118 120 17 rfl rfl rfl rfl rfl rfl ?_
          refine g0 14 true 118 121 18 rfl rfl rfl rfl rfl rfl ?_
          refine s1 122 417 19 rfl rfl rfl rfl rfl rfl trivial ?_
          refine s1 6 425 20 rfl rfl rfl rfl rfl rfl trivial ?_
          refine e1 433 rfl ?_
          refine bn ?_
          refine tn ?_
          refine r1 ?_
          refine s1 194 433 1 rfl rfl rfl rfl rfl rfl trivial ?_
          refine s1 195 441 2 rfl rfl rfl rfl rfl rfl trivial ?_
          refine e1 449 rfl ?_
          refine keep [1, 10, 11, 12, 195] rfl ?_
          refine q1 rfl (fun hc35 => ?_) (fun hc35 => ?_)
          · skip
            try simp only [ct, ne_eq] at hc35
            refine r1 ?_
            refine s1 2 449 1 rfl rfl rfl rfl rfl rfl trivial ?_
            refine e1 457 rfl ?_
            refine keep [2] rfl ?_
            refine W_ret ?_
            refine br ?_
            refine tr ?_
            refine tr ?_
            refine br ?_
            refine tr ?_
            exact out1 2 (SV.b (mayB l)) (π := []) (hout := []) Tryd.results8 rfl (by have hb : okB l.length (l.getD n default) = false := (by clear hno; (try simp only [Int.toNat_natCast] at *); generalize l.getD n default = o at *; first | exact ok_kind (by omega) | (rw [← Bool.not_eq_true]; (first | rw [ok_1 (by omega)] | rw [ok_2 (by omega)] | rw [ok_3 (by omega)] | rw [ok_4 (by omega)] | rw [ok_5 (by omega)] | rw [ok_6 (by omega)] | rw [ok_7 (by omega)] | rw [ok_8 (by omega)] | rw [ok_9 (by omega)] | rw [ok_10 (by omega)] | rw [ok_11 (by omega)] | rw [ok_12 (by omega)] | rw [ok_13 (by omega)] | rw [ok_14 (by omega)] | rw [ok_15 (by omega)] | rw [ok_16 (by omega)] | rw [ok_17 (by omega)]); (try simp [regB] at *); omega)); have := all_not (by omega) hb; show SV.b _ = SV.b _; refine congrArg SV.b ?_; simp [mayB, this]) rfl rfl trivial ⟨rfl, rfl⟩
          exact absurd hc35 (by decide)
        try simp only [ct, ne_eq] at hg25_113
        refine g0 9 true 113 114 11 rfl rfl rfl rfl rfl rfl ?_
        refine g0 9 true 113 115 12 rfl rfl rfl rfl rfl rfl ?_
        refine g0 9 true 113 116 13 rfl rfl rfl rfl rfl rfl ?_
        refine s1 117 377 14 rfl rfl rfl rfl rfl rfl trivial ?_
        refine s1 118 385 15 rfl rfl rfl rfl rfl rfl trivial ?_
        refine g0 14 true 118 119 16 rfl rfl rfl rfl rfl rfl ?_
        refine g0 14 true 118 120 17 rfl rfl rfl rfl rfl rfl ?_
        refine g0 14 true 118 121 18 rfl rfl rfl rfl rfl rfl ?_
        refine s1 122 417 19 rfl rfl rfl rfl rfl rfl trivial ?_
        refine s1 6 425 20 rfl rfl rfl rfl rfl rfl trivial ?_
        refine e1 433 rfl ?_
        refine bn ?_
        refine tn ?_
        refine r1 ?_
        refine s1 194 433 1 rfl rfl rfl rfl rfl rfl trivial ?_
        refine s1 195 441 2 rfl rfl rfl rfl rfl rfl trivial ?_
        refine e1 449 rfl ?_
        refine keep [1, 10, 11, 12, 195] rfl ?_
        refine q1 rfl (fun hc35 => ?_) (fun hc35 => ?_)
        · skip
          try simp only [ct, ne_eq] at hc35
          refine r1 ?_
          refine s1 2 449 1 rfl rfl rfl rfl rfl rfl trivial ?_
          refine e1 457 rfl ?_
          refine keep [2] rfl ?_
          refine W_ret ?_
          refine br ?_
          refine tr ?_
          refine tr ?_
          refine br ?_
          refine tr ?_
          exact out1 2 (SV.b (mayB l)) (π := []) (hout := []) Tryd.results8 rfl (by have hb : okB l.length (l.getD n default) = false := (by clear hno; (try simp only [Int.toNat_natCast] at *); generalize l.getD n default = o at *; first | exact ok_kind (by omega) | (rw [← Bool.not_eq_true]; (first | rw [ok_1 (by omega)] | rw [ok_2 (by omega)] | rw [ok_3 (by omega)] | rw [ok_4 (by omega)] | rw [ok_5 (by omega)] | rw [ok_6 (by omega)] | rw [ok_7 (by omega)] | rw [ok_8 (by omega)] | rw [ok_9 (by omega)] | rw [ok_10 (by omega)] | rw [ok_11 (by omega)] | rw [ok_12 (by omega)] | rw [ok_13 (by omega)] | rw [ok_14 (by omega)] | rw [ok_15 (by omega)] | rw [ok_16 (by omega)] | rw [ok_17 (by omega)]); (try simp [regB] at *); omega)); have := all_not (by omega) hb; show SV.b _ = SV.b _; refine congrArg SV.b ?_; simp [mayB, this]) rfl rfl trivial ⟨rfl, rfl⟩
        exact absurd hc35 (by decide)
      try simp only [ct, ne_eq] at hg25_107
      refine g0 3 true 107 108 5 rfl rfl rfl rfl rfl rfl ?_
      refine g0 3 true 107 109 6 rfl rfl rfl rfl rfl rfl ?_
      refine g0 3 true 107 110 7 rfl rfl rfl rfl rfl rfl ?_
      refine g0 3 true 107 111 8 rfl rfl rfl rfl rfl rfl ?_
      refine s1 112 337 9 rfl rfl rfl rfl rfl rfl trivial ?_
      refine s1 113 345 10 rfl rfl rfl rfl rfl rfl trivial ?_
      refine g0 9 true 113 114 11 rfl rfl rfl rfl rfl rfl ?_
      refine g0 9 true 113 115 12 rfl rfl rfl rfl rfl rfl ?_
      refine g0 9 true 113 116 13 rfl rfl rfl rfl rfl rfl ?_
      refine s1 117 377 14 rfl rfl rfl rfl rfl rfl trivial ?_
      refine s1 118 385 15 rfl rfl rfl rfl rfl rfl trivial ?_
      refine g0 14 true 118 119 16 rfl rfl rfl rfl rfl rfl ?_
      refine g0 14 true 118 120 17 rfl rfl rfl rfl rfl rfl ?_
      refine g0 14 true 118 121 18 rfl rfl rfl rfl rfl rfl ?_
      refine s1 122 417 19 rfl rfl rfl rfl rfl rfl trivial ?_
      refine s1 6 425 20 rfl rfl rfl rfl rfl rfl trivial ?_
      refine e1 433 rfl ?_
      refine bn ?_
      refine tn ?_
      refine r1 ?_
      refine s1 194 433 1 rfl rfl rfl rfl rfl rfl trivial ?_
      refine s1 195 441 2 rfl rfl rfl rfl rfl rfl trivial ?_
      refine e1 449 rfl ?_
      refine keep [1, 10, 11, 12, 195] rfl ?_
      refine q1 rfl (fun hc35 => ?_) (fun hc35 => ?_)
      · skip
        try simp only [ct, ne_eq] at hc35
        refine r1 ?_
        refine s1 2 449 1 rfl rfl rfl rfl rfl rfl trivial ?_
        refine e1 457 rfl ?_
        refine keep [2] rfl ?_
        refine W_ret ?_
        refine br ?_
        refine tr ?_
        refine tr ?_
        refine br ?_
        refine tr ?_
        exact out1 2 (SV.b (mayB l)) (π := []) (hout := []) Tryd.results8 rfl (by have hb : okB l.length (l.getD n default) = false := (by clear hno; (try simp only [Int.toNat_natCast] at *); generalize l.getD n default = o at *; first | exact ok_kind (by omega) | (rw [← Bool.not_eq_true]; (first | rw [ok_1 (by omega)] | rw [ok_2 (by omega)] | rw [ok_3 (by omega)] | rw [ok_4 (by omega)] | rw [ok_5 (by omega)] | rw [ok_6 (by omega)] | rw [ok_7 (by omega)] | rw [ok_8 (by omega)] | rw [ok_9 (by omega)] | rw [ok_10 (by omega)] | rw [ok_11 (by omega)] | rw [ok_12 (by omega)] | rw [ok_13 (by omega)] | rw [ok_14 (by omega)] | rw [ok_15 (by omega)] | rw [ok_16 (by omega)] | rw [ok_17 (by omega)]); (try simp [regB] at *); omega)); have := all_not (by omega) hb; show SV.b _ = SV.b _; refine congrArg SV.b ?_; simp [mayB, this]) rfl rfl trivial ⟨rfl, rfl⟩
      exact absurd hc35 (by decide)
    try simp only [ct, ne_eq] at hc24
    refine W_seq ?_
    refine r1 ?_
    refine s1 124 273 1 rfl rfl rfl rfl rfl rfl trivial ?_
    refine s1 123 281 2 rfl rfl rfl rfl rfl rfl trivial ?_
    refine e1 289 rfl ?_
    refine keep [1, 4, 6, 10, 11, 12, 18, 123] rfl ?_
    refine q1 rfl (fun hc26 => ?_) (fun hc26 => ?_)
    · skip
      try simp only [ct, ne_eq] at hc26
      refine W_skip ?_
      refine tn ?_
      refine q1 rfl (fun hc26 => ?_) (fun hc26 => ?_)
      · skip
        try simp only [ct, ne_eq] at hc26
        refine r0 ?_
        refine s1 126 289 1 rfl rfl rfl rfl rfl rfl trivial ?_
        refine s1 127 297 2 rfl rfl rfl rfl rfl rfl trivial ?_
        refine c1 (reg_any (l.getD n default).a) [] [] 128 305 3 rfl rfl rfl rfl rfl rfl rfl rfl Tryd.func18 rfl rfl rfl rfl trivial rfl rfl ?_
        refine s1 129 313 4 rfl rfl rfl rfl rfl rfl trivial ?_
        refine ask 129 rfl (fun hg28_129 => ?_) (fun hg28_129 => ?_)
        · skip
          try simp only [ct, ne_eq] at hg28_129
          refine g1 3 true 129 130 5 rfl rfl rfl rfl rfl ?_
          refine s1 130 321 5 rfl rfl rfl rfl rfl rfl trivial ?_
          refine g1 3 true 129 131 6 rfl rfl rfl rfl rfl ?_
          refine s1 131 329 6 rfl rfl rfl rfl rfl rfl trivial ?_
          refine g1 3 true 129 132 7 rfl rfl rfl rfl rfl ?_
          refine c1 (reg_any (l.getD n default).b) [] [] 132 337 7 rfl rfl rfl rfl rfl rfl rfl rfl Tryd.func18 rfl rfl rfl rfl trivial rfl rfl ?_
          refine s1 133 345 8 rfl rfl rfl rfl rfl rfl trivial ?_
          refine s1 134 353 9 rfl rfl rfl rfl rfl rfl trivial ?_
          refine ask 134 rfl (fun hg28_134 => ?_) (fun hg28_134 => ?_)
          · skip
            try simp only [ct, ne_eq] at hg28_134
            refine g1 8 true 134 135 10 rfl rfl rfl rfl rfl ?_
            refine s1 135 361 10 rfl rfl rfl rfl rfl rfl trivial ?_
            refine g1 8 true 134 136 11 rfl rfl rfl rfl rfl ?_
            refine s1 136 369 11 rfl rfl rfl rfl rfl rfl trivial ?_
            refine g1 8 true 134 137 12 rfl rfl rfl rfl rfl ?_
            refine s1 137 377 12 rfl rfl rfl rfl rfl rfl trivial ?_
            refine s1 138 385 13 rfl rfl rfl rfl rfl rfl trivial ?_
            refine s1 6 393 14 rfl rfl rfl rfl rfl rfl trivial ?_
            refine e1 401 rfl ?_
            refine bn ?_
            refine tn ?_
            refine r1 ?_
            refine s1 194 401 1 rfl rfl rfl rfl rfl rfl trivial ?_
            refine s1 195 409 2 rfl rfl rfl rfl rfl rfl trivial ?_
            refine e1 417 rfl ?_
            refine keep [1, 10, 11, 12, 195] rfl ?_
            refine q1 rfl (fun hc35 => ?_) (fun hc35 => ?_)
            · skip
              try simp only [ct, ne_eq] at hc35
              refine r1 ?_
              refine s1 2 417 1 rfl rfl rfl rfl rfl rfl trivial ?_
              refine e1 425 rfl ?_
              refine keep [2] rfl ?_
              refine W_ret ?_
              refine br ?_
              refine tr ?_
              refine tr ?_
              refine br ?_
              refine tr ?_
              exact out1 2 (SV.b (mayB l)) (π := []) (hout := []) Tryd.results8 rfl (by have hb : okB l.length (l.getD n default) = false := (by clear hno; (try simp only [Int.toNat_natCast] at *); generalize l.getD n default = o at *; first | exact ok_kind (by omega) | (rw [← Bool.not_eq_true]; (first | rw [ok_1 (by omega)] | rw [ok_2 (by omega)] | rw [ok_3 (by omega)] | rw [ok_4 (by omega)] | rw [ok_5 (by omega)] | rw [ok_6 (by omega)] | rw [ok_7 (by omega)] | rw [ok_8 (by omega)] | rw [ok_9 (by omega)] | rw [ok_10 (by omega)] | rw [ok_11 (by omega)] | rw [ok_12 (by omega)] | rw [ok_13 (by omega)] | rw [ok_14 (by omega)] | rw [ok_15 (by omega)] | rw [ok_16 (by omega)] | rw [ok_17 (by omega)]); (try simp [regB] at *); omega)); have := all_not (by omega) hb; show SV.b _ = SV.b _; refine congrArg SV.b ?_; simp [mayB, this]) rfl rfl trivial ⟨rfl, rfl⟩
            try simp only [ct, ne_eq] at hc35
            refine W_skip ?_
            refine bn ?_
            refine tn ?_
            refine r0 ?_
            refine sA 196 417 1 rfl rfl rfl rfl rfl rfl rfl rfl rfl (by unfold inRange; omega) ?_
            refine s1 12 425 2 rfl rfl rfl rfl rfl rfl trivial ?_
            refine e1 433 rfl ?_
            refine tn ?_
            exact again (n + 1) [0] ⟨by omega, fun j hj => by by_cases e : j = n; (subst e; (clear hno; (try simp only [Int.toNat_natCast] at *); generalize l.getD j default = o at *; (first | rw [ok_1 (by omega)] | rw [ok_2 (by omega)] | rw [ok_3 (by omega)] | rw [ok_4 (by omega)] | rw [ok_5 (by omega)] | rw [ok_6 (by omega)] | rw [ok_7 (by omega)] | rw [ok_8 (by omega)] | rw [ok_9 (by omega)] | rw [ok_10 (by omega)] | rw [ok_11 (by omega)] | rw [ok_12 (by omega)] | rw [ok_13 (by omega)] | rw [ok_14 (by omega)] | rw [ok_15 (by omega)] | rw [ok_16 (by omega)] | rw [ok_17 (by omega)]); (try simp [regB] at *); omega)); exact hno j (by omega)⟩ (by omega) rfl ⟨rfl, rfl, rfl, rfl, trivial⟩ ⟨rfl, trivial⟩
          try simp only [ct, ne_eq] at hg28_134
          refine g0 8 true 134 135 10 rfl rfl rfl rfl rfl rfl ?_
          refine g0 8 true 134 136 11 rfl rfl rfl rfl rfl rfl ?_
          refine g0 8 true 134 137 12 rfl rfl rfl rfl rfl rfl ?_
          refine s1 138 385 13 rfl rfl rfl rfl rfl rfl trivial ?_
          refine s1 6 393 14 rfl rfl rfl rfl rfl rfl trivial ?_
          refine e1 401 rfl ?_
          refine bn ?_
          refine tn ?_
          refine r1 ?_
          refine s1 194 401 1 rfl rfl rfl rfl rfl rfl trivial ?_
          refine s1 195 409 2 rfl rfl rfl rfl rfl rfl trivial ?_
          refine e1 417 rfl ?_
          refine keep [1, 10, 11, 12, 195] rfl ?_
          refine q1 rfl (fun hc35 => ?_) (fun hc35 => ?_)
          · skip
            try simp only [ct, ne_eq] at hc35
            refine r1 ?_
            refine s1 2 417 1 rfl rfl rfl rfl rfl rfl trivial ?_
            refine e1 425 rfl ?_
            refine keep [2] rfl ?_
            refine W_ret ?_
            refine br ?_
            refine tr ?_
            refine tr ?_
            refine br ?_
            refine tr ?_
            exact out1 2 (SV.b (mayB l)) (π := []) (hout := []) Tryd.results8 rfl (by have hb : okB l.length (l.getD n default) = false := (by clear hno; (try simp only [Int.toNat_natCast] at *); generalize l.getD n default = o at *; first | exact ok_kind (by omega) | (rw [← Bool.not_eq_true]; (first | rw [ok_1 (by omega)] | rw [ok_2 (by omega)] | rw [ok_3 (by omega)] | rw [ok_4 (by omega)] | rw [ok_5 (by omega)] | rw [ok_6 (by omega)] | rw [ok_7 (by omega)] | rw [ok_8 (by omega)] | rw [ok_9 (by omega)] | rw [ok_10 (by omega)] | rw [ok_11 (by omega)] | rw [ok_12 (by omega)] | rw [ok_13 (by omega)] | rw [ok_14 (by omega)] | rw [ok_15 (by omega)] | rw [ok_16 (by omega)] | rw [ok_17 (by omega)]); (try simp [regB] at *); omega)); have := all_not (by omega) hb; show SV.b _ = SV.b _; refine congrArg SV.b ?_; simp [mayB, this]) rfl rfl trivial ⟨rfl, rfl⟩
          exact absurd hc35 (by decide)
        try simp only [ct, ne_eq] at hg28_129
        refine g0 3 true 129 130 5 rfl rfl rfl rfl rfl rfl ?_
        refine g0 3 true 129 131 6 rfl rfl rfl rfl rfl rfl ?_
        refine g0 3 true 129 132 7 rfl rfl rfl rfl rfl rfl ?_
        refine s1 133 345 8 rfl rfl rfl rfl rfl rfl trivial ?_
        refine s1 134 353 9 rfl rfl rfl rfl rfl rfl trivial ?_
        refine g0 8 true 134 135 10 rfl rfl rfl rfl rfl rfl ?_
        refine g0 8 true 134 136 11 rfl rfl rfl rfl rfl rfl ?_
        refine g0 8 true 134 137 12 rfl rfl rfl rfl rfl rfl ?_
        refine s1 138 385 13 rfl rfl rfl rfl rfl rfl trivial ?_
        refine s1 6 393 14 rfl rfl rfl rfl rfl rfl trivial ?_
        refine e1 401 rfl ?_
        refine bn ?_
        refine tn ?_
        refine r1 ?_
        refine s1 194 401 1 rfl rfl rfl rfl rfl rfl trivial ?_
        refine s1 195 409 2 rfl rfl rfl rfl rfl rfl trivial ?_
        refine e1 417 rfl ?_
        refine keep [1, 10, 11, 12, 195] rfl ?_
        refine q1 rfl (fun hc35 => ?_) (fun hc35 => ?_)
        · skip
          try simp only [ct, ne_eq] at hc35
          refine r1 ?_
          refine s1 2 417 1 rfl rfl rfl rfl rfl rfl trivial ?_
          refine e1 425 rfl ?_
          refine keep [2] rfl ?_
          refine W_ret ?_
          refine br ?_
          refine tr ?_
          refine tr ?_
          refine br ?_
          refine tr ?_
          exact out1 2 (SV.b (mayB l)) (π := []) (hout := []) Tryd.results8 rfl (by have hb : okB l.length (l.getD n default) = false := (by clear hno; (try simp only [Int.toNat_natCast] at *); generalize l.getD n default = o at *; first | exact ok_kind (by omega) | (rw [← Bool.not_eq_true]; (first | rw [ok_1 (by omega)] | rw [ok_2 (by omega)] | rw [ok_3 (by omega)] | rw [ok_4 (by omega)] | rw [ok_5 (by omega)] | rw [ok_6 (by omega)] | rw [ok_7 (by omega)] | rw [ok_8 (by omega)] | rw [ok_9 (by omega)] | rw [ok_10 (by omega)] | rw [ok_11 (by omega)] | rw [ok_12 (by omega)] | rw [ok_13 (by omega)] | rw [ok_14 (by omega)] | rw [ok_15 (by omega)] | rw [ok_16 (by omega)] | rw [ok_17 (by omega)]); (try simp [regB] at *); omega)); have := all_not (by omega) hb; show SV.b _ = SV.b _; refine congrArg SV.b ?_; simp [mayB, this]) rfl rfl trivial ⟨rfl, rfl⟩
        exact absurd hc35 (by decide)
      try simp only [ct, ne_eq] at hc26
      exfalso; first | omega | contradiction | (simp_all; done)
    try simp only [ct, ne_eq] at hc26
    refine r0 ?_
    refine s1 125 289 1 rfl rfl rfl rfl rfl rfl trivial ?_
    refine s1 123 297 2 rfl rfl rfl rfl rfl rfl trivial ?_
    refine e1 305 rfl ?_
    refine tn ?_
    refine q1 rfl (fun hc27 => ?_) (fun hc27 => ?_)
    · skip
      try simp only [ct, ne_eq] at hc27
      refine r0 ?_
      refine s1 126 305 1 rfl rfl rfl rfl rfl rfl trivial ?_
      refine s1 127 313 2 rfl rfl rfl rfl rfl rfl trivial ?_
      refine c1 (reg_any (l.getD n default).a) [] [] 128 321 3 rfl rfl rfl rfl rfl rfl rfl rfl Tryd.func18 rfl rfl rfl rfl trivial rfl rfl ?_
      refine s1 129 329 4 rfl rfl rfl rfl rfl rfl trivial ?_
      refine ask 129 rfl (fun hg28_129 => ?_) (fun hg28_129 => ?_)
      · skip
        try simp only [ct, ne_eq] at hg28_129
        refine g1 3 true 129 130 5 rfl rfl rfl rfl rfl ?_
        refine s1 130 337 5 rfl rfl rfl rfl rfl rfl trivial ?_
        refine g1 3 true 129 131 6 rfl rfl rfl rfl rfl ?_
        refine s1 131 345 6 rfl rfl rfl rfl rfl rfl trivial ?_
        refine g1 3 true 129 132 7 rfl rfl rfl rfl rfl ?_
        refine c1 (reg_any (l.getD n default).b) [] [] 132 353 7 rfl rfl rfl rfl rfl rfl rfl rfl Tryd.func18 rfl rfl rfl rfl trivial rfl rfl ?_
        refine s1 133 361 8 rfl rfl rfl rfl rfl rfl trivial ?_
        refine s1 134 369 9 rfl rfl rfl rfl rfl rfl trivial ?_
        refine ask 134 rfl (fun hg28_134 => ?_) (fun hg28_134 => ?_)
        · skip
          try simp only [ct, ne_eq] at hg28_134
          refine g1 8 true 134 135 10 rfl rfl rfl rfl rfl ?_
          refine s1 135 377 10 rfl rfl rfl rfl rfl rfl trivial ?_
          refine g1 8 true 134 136 11 rfl rfl rfl rfl rfl ?_
          refine s1 136 385 11 rfl rfl rfl rfl rfl rfl trivial ?_
          refine g1 8 true 134 137 12 rfl rfl rfl rfl rfl ?_
          refine s1 137 393 12 rfl rfl rfl rfl rfl rfl trivial ?_
          refine s1 138 401 13 rfl rfl rfl rfl rfl rfl trivial ?_
          refine s1 6 409 14 rfl rfl rfl rfl rfl rfl trivial ?_
          refine e1 417 rfl ?_
          refine bn ?_
          refine tn ?_
          refine r1 ?_
          refine s1 194 417 1 rfl rfl rfl rfl rfl rfl trivial ?_
          refine s1 195 425 2 rfl rfl rfl rfl rfl rfl trivial ?_
          refine e1 433 rfl ?_
          refine keep [1, 10, 11, 12, 195] rfl ?_
          refine q1 rfl (fun hc35 => ?_) (fun hc35 => ?_)
          · skip
            try simp only [ct, ne_eq] at hc35
            refine r1 ?_
            refine s1 2 433 1 rfl rfl rfl rfl rfl rfl trivial ?_
            refine e1 441 rfl ?_
            refine keep [2] rfl ?_
            refine W_ret ?_
            refine br ?_
            refine tr ?_
            refine tr ?_
            refine br ?_
            refine tr ?_
            exact out1 2 (SV.b (mayB l)) (π := []) (hout := []) Tryd.results8 rfl (by have hb : okB l.length (l.getD n default) = false := (by clear hno; (try simp only [Int.toNat_natCast] at *); generalize l.getD n default = o at *; first | exact ok_kind (by omega) | (rw [← Bool.not_eq_true]; (first | rw [ok_1 (by omega)] | rw [ok_2 (by omega)] | rw [ok_3 (by omega)] | rw [ok_4 (by omega)] | rw [ok_5 (by omega)] | rw [ok_6 (by omega)] | rw [ok_7 (by omega)] | rw [ok_8 (by omega)] | rw [ok_9 (by omega)] | rw [ok_10 (by omega)] | rw [ok_11 (by omega)] | rw [ok_12 (by omega)] | rw [ok_13 (by omega)] | rw [ok_14 (by omega)] | rw [ok_15 (by omega)] | rw [ok_16 (by omega)] | rw [ok_17 (by omega)]); (try simp [regB] at *); omega)); have := all_not (by omega) hb; show SV.b _ = SV.b _; refine congrArg SV.b ?_; simp [mayB, this]) rfl rfl trivial ⟨rfl, rfl⟩
          try simp only [ct, ne_eq] at hc35
          refine W_skip ?_
          refine bn ?_
          refine tn ?_
          refine r0 ?_
          refine sA 196 433 1 rfl rfl rfl rfl rfl rfl rfl rfl rfl (by unfold inRange; omega) ?_
          refine s1 12 441 2 rfl rfl rfl rfl rfl rfl trivial ?_
          refine e1 449 rfl ?_
          refine tn ?_
          exact again (n + 1) [0] ⟨by omega, fun j hj => by by_cases e : j = n; (subst e; (clear hno; (try simp only [Int.toNat_natCast] at *); generalize l.getD j default = o at *; (first | rw [ok_1 (by omega)] | rw [ok_2 (by omega)] | rw [ok_3 (by omega)] | rw [ok_4 (by omega)] | rw [ok_5 (by omega)] | rw [ok_6 (by omega)] | rw [ok_7 (by omega)] | rw [ok_8 (by omega)] | rw [ok_9 (by omega)] | rw [ok_10 (by omega)] | rw [ok_11 (by omega)] | rw [ok_12 (by omega)] | rw [ok_13 (by omega)] | rw [ok_14 (by omega)] | rw [ok_15 (by omega)] | rw [ok_16 (by omega)] | rw [ok_17 (by omega)]); (try simp [regB] at *); omega)); exact hno j (by omega)⟩ (by omega) rfl ⟨rfl, rfl, rfl, rfl, trivial⟩ ⟨rfl, trivial⟩
        try simp only [ct, ne_eq] at hg28_134
        refine g0 8 true 134 135 10 rfl rfl rfl rfl rfl rfl ?_
        refine g0 8 true 134 136 11 rfl rfl rfl rfl rfl rfl ?_
        refine g0 8 true 134 137 12 rfl rfl rfl rfl rfl rfl ?_
        refine s1 138 401 13 rfl rfl rfl rfl rfl rfl trivial ?_
        refine s1 6 409 14 rfl rfl rfl rfl rfl rfl trivial ?_
        refine e1 417 rfl ?_
        refine bn ?_
        refine tn ?_
        refine r1 ?_
        refine s1 194 417 1 rfl rfl rfl rfl rfl rfl trivial ?_
        refine s1 195 425 2 rfl rfl rfl rfl rfl rfl trivial ?_
        refine e1 433 rfl ?_
        refine keep [1, 10, 11, 12, 195] rfl ?_
        refine q1 rfl (fun hc35 => ?_) (fun hc35 => ?_)
        · skip
          try simp only [ct, ne_eq] at hc35
          refine r1 ?_
          refine s1 2 433 1 rfl rfl rfl rfl rfl rfl trivial ?_
          refine e1 441 rfl ?_
          refine keep [2] rfl ?_
          refine W_ret ?_
          refine br ?_
          refine tr ?_
          refine tr ?_
          refine br ?_
          refine tr ?_
          exact out1 2 (SV.b (mayB l)) (π := []) (hout := []) Tryd.results8 rfl (by have hb : okB l.length (l.getD n default) = false := (by clear hno; (try simp only [Int.toNat_natCast] at *); generalize l.getD n default = o at *; first | exact ok_kind (by omega) | (rw [← Bool.not_eq_true]; (first | rw [ok_1 (by omega)] | rw [ok_2 (by omega)] | rw [ok_3 (by omega)] | rw [ok_4 (by omega)] | rw [ok_5 (by omega)] | rw [ok_6 (by omega)] | rw [ok_7 (by omega)] | rw [ok_8 (by omega)] | rw [ok_9 (by omega)] | rw [ok_10 (by omega)] | rw [ok_11 (by omega)] | rw [ok_12 (by omega)] | rw [ok_13 (by omega)] | rw [ok_14 (by omega)] | rw [ok_15 (by omega)] | rw [ok_16 (by omega)] | rw [ok_17 (by omega)]); (try simp [regB] at *); omega)); have := all_not (by omega) hb; show SV.b _ = SV.b _; refine congrArg SV.b ?_; simp [mayB, this]) rfl rfl trivial ⟨rfl, rfl⟩
        exact absurd hc35 (by decide)
      try simp only [ct, ne_eq] at hg28_129
      refine g0 3 true 129 130 5 rfl rfl rfl rfl rfl rfl ?_
      refine g0 3 true 129 131 6 rfl rfl rfl rfl rfl rfl ?_
      refine g0 3 true 129 132 7 rfl rfl rfl rfl rfl rfl ?_
      refine s1 133 361 8 rfl rfl rfl rfl rfl rfl trivial ?_
      refine s1 134 369 9 rfl rfl rfl rfl rfl rfl trivial ?_
      refine g0 8 true 134 135 10 rfl rfl rfl rfl rfl rfl ?_
      refine g0 8 true 134 136 11 rfl rfl rfl rfl rfl rfl ?_
      refine g0 8 true 134 137 12 rfl rfl rfl rfl rfl rfl ?_
      refine s1 138 401 13 rfl rfl rfl rfl rfl rfl trivial ?_
      refine s1 6 409 14 rfl rfl rfl rfl rfl rfl trivial ?_
      refine e1 417 rfl ?_
      refine bn ?_
      refine tn ?_
      refine r1 ?_
      refine s1 194 417 1 rfl rfl rfl rfl rfl rfl trivial ?_
      refine s1 195 425 2 rfl rfl rfl rfl rfl rfl trivial ?_
      refine e1 433 rfl ?_
      refine keep [1, 10, 11, 12, 195] rfl ?_
      refine q1 rfl (fun hc35 => ?_) (fun hc35 => ?_)
      · skip
        try simp only [ct, ne_eq] at hc35
        refine r1 ?_
        refine s1 2 433 1 rfl rfl rfl rfl rfl rfl trivial ?_
        refine e1 441 rfl ?_
        refine keep [2] rfl ?_
        refine W_ret ?_
        refine br ?_
        refine tr ?_
        refine tr ?_
        refine br ?_
        refine tr ?_
        exact out1 2 (SV.b (mayB l)) (π := []) (hout := []) Tryd.results8 rfl (by have hb : okB l.length (l.getD n default) = false := (by clear hno; (try simp only [Int.toNat_natCast] at *); generalize l.getD n default = o at *; first | exact ok_kind (by omega) | (rw [← Bool.not_eq_true]; (first | rw [ok_1 (by omega)] | rw [ok_2 (by omega)] | rw [ok_3 (by omega)] | rw [ok_4 (by omega)] | rw [ok_5 (by omega)] | rw [ok_6 (by omega)] | rw [ok_7 (by omega)] | rw [ok_8 (by omega)] | rw [ok_9 (by omega)] | rw [ok_10 (by omega)] | rw [ok_11 (by omega)] | rw [ok_12 (by omega)] | rw [ok_13 (by omega)] | rw [ok_14 (by omega)] | rw [ok_15 (by omega)] | rw [ok_16 (by omega)] | rw [ok_17 (by omega)]); (try simp [regB] at *); omega)); have := all_not (by omega) hb; show SV.b _ = SV.b _; refine congrArg SV.b ?_; simp [mayB, this]) rfl rfl trivial ⟨rfl, rfl⟩
      exact absurd hc35 (by decide)
    try simp only [ct, ne_eq] at hc27
    refine r1 ?_
    refine s1 140 305 1 rfl rfl rfl rfl rfl rfl trivial ?_
    refine s1 139 313 2 rfl rfl rfl rfl rfl rfl trivial ?_
    refine e1 321 rfl ?_
    refine keep [1, 4, 6, 10, 11, 12, 18, 139] rfl ?_
    refine q1 rfl (fun hc29 => ?_) (fun hc29 => ?_)
    · skip
      try simp only [ct, ne_eq] at hc29
      refine r0 ?_
      refine s1 141 321 1 rfl rfl rfl rfl rfl rfl trivial ?_
      refine s1 142 329 2 rfl rfl rfl rfl rfl rfl trivial ?_
      refine c1 (reg_any (l.getD n default).a) [] [] 143 337 3 rfl rfl rfl rfl rfl rfl rfl rfl Tryd.func18 rfl rfl rfl rfl trivial rfl rfl ?_
      refine s1 144 345 4 rfl rfl rfl rfl rfl rfl trivial ?_
      refine ask 144 rfl (fun hg30_144 => ?_) (fun hg30_144 => ?_)
      · skip
        try simp only [ct, ne_eq] at hg30_144
        refine g1 3 true 144 145 5 rfl rfl rfl rfl rfl ?_
        refine s1 145 353 5 rfl rfl rfl rfl rfl rfl trivial ?_
        refine g1 3 true 144 146 6 rfl rfl rfl rfl rfl ?_
        refine s1 146 361 6 rfl rfl rfl rfl rfl rfl trivial ?_
        refine g1 3 true 144 147 7 rfl rfl rfl rfl rfl ?_
        refine c1 (reg_any (l.getD n default).b) [] [] 147 369 7 rfl rfl rfl rfl rfl rfl rfl rfl Tryd.func18 rfl rfl rfl rfl trivial rfl rfl ?_
        refine s1 148 377 8 rfl rfl rfl rfl rfl rfl trivial ?_
        refine s1 149 385 9 rfl rfl rfl rfl rfl rfl trivial ?_
        refine ask 149 rfl (fun hg30_149 => ?_) (fun hg30_149 => ?_)
        · skip
          try simp only [ct, ne_eq] at hg30_149
          refine g1 8 true 149 150 10 rfl rfl rfl rfl rfl ?_
          refine s1 150 393 10 rfl rfl rfl rfl rfl rfl trivial ?_
          refine g1 8 true 149 151 11 rfl rfl rfl rfl rfl ?_
          refine s1 151 401 11 rfl rfl rfl rfl rfl rfl trivial ?_
          refine g1 8 true 149 152 12 rfl rfl rfl rfl rfl ?_
          refine c1 (reg_any (l.getD n default).d) [] [] 152 409 12 rfl rfl rfl rfl rfl rfl rfl rfl Tryd.func18 rfl rfl rfl rfl trivial rfl rfl ?_
          refine s1 153 417 13 rfl rfl rfl rfl rfl rfl trivial ?_
          refine s1 6 425 14 rfl rfl rfl rfl rfl rfl trivial ?_
          refine e1 433 rfl ?_
          refine bn ?_
          refine tn ?_
          refine r1 ?_
          refine s1 194 433 1 rfl rfl rfl rfl rfl rfl trivial ?_
          refine s1 195 441 2 rfl rfl rfl rfl rfl rfl trivial ?_
          refine e1 449 rfl ?_
          refine keep [1, 10, 11, 12, 195] rfl ?_
          refine q1 rfl (fun hc35 => ?_) (fun hc35 => ?_)
          · skip
            try simp only [ct, ne_eq] at hc35
            refine r1 ?_
            refine s1 2 449 1 rfl rfl rfl rfl rfl rfl trivial ?_
            refine e1 457 rfl ?_
            refine keep [2] rfl ?_
            refine W_ret ?_
            refine br ?_
            refine tr ?_
            refine tr ?_
            refine br ?_
            refine tr ?_
            exact out1 2 (SV.b (mayB l)) (π := []) (hout := []) Tryd.results8 rfl (by have hb : okB l.length (l.getD n default) = false := (by clear hno; (try simp only [Int.toNat_natCast] at *); generalize l.getD n default = o at *; first | exact ok_kind (by omega) | (rw [← Bool.not_eq_true]; (first | rw [ok_1 (by omega)] | rw [ok_2 (by omega)] | rw [ok_3 (by omega)] | rw [ok_4 (by omega)] | rw [ok_5 (by omega)] | rw [ok_6 (by omega)] | rw [ok_7 (by omega)] | rw [ok_8 (by omega)] | rw [ok_9 (by omega)] | rw [ok_10 (by omega)] | rw [ok_11 (by omega)] | rw [ok_12 (by omega)] | rw [ok_13 (by omega)] | rw [ok_14 (by omega)] | rw [ok_15 (by omega)] | rw [ok_16 (by omega)] | rw [ok_17 (by omega)]); (try simp [regB] at *); omega)); have := all_not (by omega) hb; show SV.b _ = SV.b _; refine congrArg SV.b ?_; simp [mayB, this]) rfl rfl trivial ⟨rfl, rfl⟩
          try simp only [ct, ne_eq] at hc35
          refine W_skip ?_
          refine bn ?_
          refine tn ?_
          refine r0 ?_
          refine sA 196 449 1 rfl rfl rfl rfl rfl rfl rfl rfl rfl (by unfold inRange; omega) ?_
          refine s1 12 457 2 rfl rfl rfl rfl rfl rfl trivial ?_
          refine e1 465 rfl ?_
          refine tn ?_
          exact again (n + 1) [0] ⟨by omega, fun j hj => by by_cases e : j = n; (subst e; (clear hno; (try simp only [Int.toNat_natCast] at *); generalize l.getD j default = o at *; (first | rw [ok_1 (by omega)] | rw [ok_2 (by omega)] | rw [ok_3 (by omega)] | rw [ok_4 (by omega)] | rw [ok_5 (by omega)] | rw [ok_6 (by omega)] | rw [ok_7 (by omega)] | rw [ok_8 (by omega)] | rw [ok_9 (by omega)] | rw [ok_10 (by omega)] | rw [ok_11 (by omega)] | rw [ok_12 (by omega)] | rw [ok_13 (by omega)] | rw [ok_14 (by omega)] | rw [ok_15 (by omega)] | rw [ok_16 (by omega)] | rw [ok_17 (by omega)]); (try simp [regB] at *); omega)); exact hno j (by omega)⟩ (by omega) rfl ⟨rfl, rfl, rfl, rfl, trivial⟩ ⟨rfl, trivial⟩
        try simp only [ct, ne_eq] at hg30_149
        refine g0 8 true 149 150 10 rfl rfl rfl rfl rfl rfl ?_
        refine g0 8 true 149 151 11 rfl rfl rfl rfl rfl rfl ?_
        refine g0 8 true 149 152 12 rfl rfl rfl rfl rfl rfl ?_
        refine s1 153 417 13 rfl rfl rfl rfl rfl rfl trivial ?_
        refine s1 6 425 14 rfl rfl rfl rfl rfl rfl trivial ?_
        refine e1 433 rfl ?_
        refine bn ?_
        refine tn ?_
        refine r1 ?_
        refine s1 194 433 1 rfl rfl rfl rfl rfl rfl trivial ?_
        refine s1 195 441 2 rfl rfl rfl rfl rfl rfl trivial ?_
        refine e1 449 rfl ?_
        refine keep [1, 10, 11, 12, 195] rfl ?_
        refine q1 rfl (fun hc35 => ?_) (fun hc35 => ?_)
        · skip
          try simp only [ct, ne_eq] at hc35
          refine r1 ?_
          refine s1 2 449 1 rfl rfl rfl rfl rfl rfl trivial ?_
          refine e1 457 rfl ?_
          refine keep [2] rfl ?_
          refine W_ret ?_
          refine br ?_
          refine tr ?_
          refine tr ?_
          refine br ?_
          refine tr ?_
          exact out1 2 (SV.b (mayB l)) (π := []) (hout := []) Tryd.results8 rfl (by have hb : okB l.length (l.getD n default) = false := (by clear hno; (try simp only [Int.toNat_natCast] at *); generalize l.getD n default = o at *; first | exact ok_kind (by omega) | (rw [← Bool.not_eq_true]; (first | rw [ok_1 (by omega)] | rw [ok_2 (by omega)] | rw [ok_3 (by omega)] | rw [ok_4 (by omega)] | rw [ok_5 (by omega)] | rw [ok_6 (by omega)] | rw [ok_7 (by omega)] | rw [ok_8 (by omega)] | rw [ok_9 (by omega)] | rw [ok_10 (by omega)] | rw [ok_11 (by omega)] | rw [ok_12 (by omega)] | rw [ok_13 (by omega)] | rw [ok_14 (by omega)] | rw [ok_15 (by omega)] | rw [ok_16 (by omega)] | rw [ok_17 (by omega)]); (try simp [regB] at *); omega)); have := all_not (by omega) hb; show SV.b _ = SV.b _; refine congrArg SV.b ?_; simp [mayB, this]) rfl rfl trivial ⟨rfl, rfl⟩
        exact absurd hc35 (by decide)
      try simp only [ct, ne_eq] at hg30_144
      refine g0 3 true 144 145 5 rfl rfl rfl rfl rfl rfl ?_
      refine g0 3 true 144 146 6 rfl rfl rfl rfl rfl rfl ?_
      refine g0 3 true 144 147 7 rfl rfl rfl rfl rfl rfl ?_
      refine s1 148 377 8 rfl rfl rfl rfl rfl rfl trivial ?_
      refine s1 149 385 9 rfl rfl rfl rfl rfl rfl trivial ?_
      refine g0 8 true 149 150 10 rfl rfl rfl rfl rfl rfl ?_
      refine g0 8 true 149 151 11 rfl rfl rfl rfl rfl rfl ?_
      refine g0 8 true 149 152 12 rfl rfl rfl rfl rfl rfl ?_
      refine s1 153 417 13 rfl rfl rfl rfl rfl rfl trivial ?_
      refine s1 6 425 14 rfl rfl rfl rfl rfl rfl trivial ?_
      refine e1 433 rfl ?_
      refine bn ?_
      refine tn ?_
      refine r1 ?_
      refine s1 194 433 1 rfl rfl rfl rfl rfl rfl trivial ?_
      refine s1 195 441 2 rfl rfl rfl rfl rfl rfl trivial ?_
      refine e1 449 rfl ?_
      refine keep [1, 10, 11, 12, 195] rfl ?_
      refine q1 rfl (fun hc35 => ?_) (fun hc35 => ?_)
      · skip
        try simp only [ct, ne_eq] at hc35
        refine r1 ?_
        refine s1 2 449 1 rfl rfl rfl rfl rfl rfl trivial ?_
        refine e1 457 rfl ?_
        refine keep [2] rfl ?_
        refine W_ret ?_
        refine br ?_
        refine tr ?_
        refine tr ?_
        refine br ?_
        refine tr ?_
        exact out1 2 (SV.b (mayB l)) (π := []) (hout := []) Tryd.results8 rfl (by have hb : okB l.length (l.getD n default) = false := (by clear hno; (try simp only [Int.toNat_natCast] at *); generalize l.getD n default = o at *; first | exact ok_kind (by omega) | (rw [← Bool.not_eq_true]; (first | rw [ok_1 (by omega)] | rw [ok_2 (by omega)] | rw [ok_3 (by omega)] | rw [ok_4 (by omega)] | rw [ok_5 (by omega)] | rw [ok_6 (by omega)] | rw [ok_7 (by omega)] | rw [ok_8 (by omega)] | rw [ok_9 (by omega)] | rw [ok_10 (by omega)] | rw [ok_11 (by omega)] | rw [ok_12 (by omega)] | rw [ok_13 (by omega)] | rw [ok_14 (by omega)] | rw [ok_15 (by omega)] | rw [ok_16 (by omega)] | rw [ok_17 (by omega)]); (try simp [regB] at *); omega)); have := all_not (by omega) hb; show SV.b _ = SV.b _; refine congrArg SV.b ?_; simp [mayB, this]) rfl rfl trivial ⟨rfl, rfl⟩
      exact absurd hc35 (by decide)
    try simp only [ct, ne_eq] at hc29
    refine r1 ?_
    refine s1 155 321 1 rfl rfl rfl rfl rfl rfl trivial ?_
    refine s1 154 329 2 rfl rfl rfl rfl rfl rfl trivial ?_
    refine e1 337 rfl ?_
    refine keep [1, 4, 6, 10, 11, 12, 18, 154] rfl ?_
    refine q1 rfl (fun hc31 => ?_) (fun hc31 => ?_)
    · skip
      try simp only [ct, ne_eq] at hc31
      refine r0 ?_
      refine s1 156 337 1 rfl rfl rfl rfl rfl rfl trivial ?_
      refine s1 157 345 2 rfl rfl rfl rfl rfl rfl trivial ?_
      refine c1 (reg_any (l.getD n default).a) [] [] 158 353 3 rfl rfl rfl rfl rfl rfl rfl rfl Tryd.func18 rfl rfl rfl rfl trivial rfl rfl ?_
      refine s1 159 361 4 rfl rfl rfl rfl rfl rfl trivial ?_
      refine ask 159 rfl (fun hg32_159 => ?_) (fun hg32_159 => ?_)
      · skip
        try simp only [ct, ne_eq] at hg32_159
        refine g1 3 true 159 160 5 rfl rfl rfl rfl rfl ?_
        refine s1 160 369 5 rfl rfl rfl rfl rfl rfl trivial ?_
        refine g1 3 true 159 161 6 rfl rfl rfl rfl rfl ?_
        refine s1 161 377 6 rfl rfl rfl rfl rfl rfl trivial ?_
        refine g1 3 true 159 162 7 rfl rfl rfl rfl rfl ?_
        refine s1 162 385 7 rfl rfl rfl rfl rfl rfl trivial ?_
        refine s1 163 393 8 rfl rfl rfl rfl rfl rfl trivial ?_
        refine s1 164 401 9 rfl rfl rfl rfl rfl rfl trivial ?_
        refine ask 164 rfl (fun hg32_164 => ?_) (fun hg32_164 => ?_)
        · skip
          try simp only [ct, ne_eq] at hg32_164
          refine g1 8 true 164 165 10 rfl rfl rfl rfl rfl ?_
          refine s1 165 409 10 rfl rfl rfl rfl rfl rfl trivial ?_
          refine g1 8 true 164 166 11 rfl rfl rfl rfl rfl ?_
          refine s1 166 417 11 rfl rfl rfl rfl rfl rfl trivial ?_
          refine g1 8 true 164 167 12 rfl rfl rfl rfl rfl ?_
          refine s1 167 425 12 rfl rfl rfl rfl rfl rfl trivial ?_
          refine s1 168 433 13 rfl rfl rfl rfl rfl rfl trivial ?_
          refine s1 169 441 14 rfl rfl rfl rfl rfl rfl trivial ?_
          refine ask 169 rfl (fun hg32_169 => ?_) (fun hg32_169 => ?_)
          · skip
            try simp only [ct, ne_eq] at hg32_169
            refine g1 13 true 169 170 15 rfl rfl rfl rfl rfl ?_
            refine s1 170 449 15 rfl rfl rfl rfl rfl rfl trivial ?_
            refine g1 13 true 169 171 16 rfl rfl rfl rfl rfl ?_
            refine s1 171 457 16 rfl rfl rfl rfl rfl rfl trivial ?_
            refine g1 13 true 169 172 17 rfl rfl rfl rfl rfl ?_
            refine s1 172 465 17 rfl rfl rfl rfl rfl rfl trivial ?_
            refine s1 173 473 18 rfl rfl rfl rfl rfl rfl trivial ?_
            refine s1 6 481 19 rfl rfl rfl rfl rfl rfl trivial ?_
            refine e1 489 rfl ?_
            refine bn ?_
            refine tn ?_
            refine r1 ?_
            refine s1 194 489 1 rfl rfl rfl rfl rfl rfl trivial ?_
            refine s1 195 497 2 rfl rfl rfl rfl rfl rfl trivial ?_
            refine e1 505 rfl ?_
            refine keep [1, 10, 11, 12, 195] rfl ?_
            refine q1 rfl (fun hc35 => ?_) (fun hc35 => ?_)
            · skip
              try simp only [ct, ne_eq] at hc35
              refine r1 ?_
              refine s1 2 505 1 rfl rfl rfl rfl rfl rfl trivial ?_
              refine e1 513 rfl ?_
              refine keep [2] rfl ?_
              refine W_ret ?_
              refine br ?_
              refine tr ?_
              refine tr ?_
              refine br ?_
              refine tr ?_
              exact out1 2 (SV.b (mayB l)) (π := []) (hout := []) Tryd.results8 rfl (by have hb : okB l.length (l.getD n default) = false := (by clear hno; (try simp only [Int.toNat_natCast] at *); generalize l.getD n default = o at *; first | exact ok_kind (by omega) | (rw [← Bool.not_eq_true]; (first | rw [ok_1 (by omega)] | rw [ok_2 (by omega)] | rw [ok_3 (by omega)] | rw [ok_4 (by omega)] | rw [ok_5 (by omega)] | rw [ok_6 (by omega)] | rw [ok_7 (by omega)] | rw [ok_8 (by omega)] | rw [ok_9 (by omega)] | rw [ok_10 (by omega)] | rw [ok_11 (by omega)] | rw [ok_12 (by omega)] | rw [ok_13 (by omega)] | rw [ok_14 (by omega)] | rw [ok_15 (by omega)] | rw [ok_16 (by omega)] | rw [ok_17 (by omega)]); (try simp [regB] at *); omega)); have := all_not (by omega) hb; show SV.b _ = SV.b _; refine congrArg SV.b ?_; simp [mayB, this]) rfl rfl trivial ⟨rfl, rfl⟩
            try simp only [ct, ne_eq] at hc35
            refine W_skip ?_
            refine bn ?_
            refine tn ?_
            refine r0 ?_
            refine sA 196 505 1 rfl rfl rfl rfl rfl rfl rfl rfl rfl (by unfold inRange; omega) ?_
            refine s1 12 513 2 rfl rfl rfl rfl rfl rfl trivial ?_
            refine e1 521 rfl ?_
            refine tn ?_
            exact again (n + 1) [0] ⟨by omega, fun j hj => by by_cases e : j = n; (subst e; (clear hno; (try simp only [Int.toNat_natCast] at *); generalize l.getD j default = o at *; (first | rw [ok_1 (by omega)] | rw [ok_2 (by omega)] | rw [ok_3 (by omega)] | rw [ok_4 (by omega)] | rw [ok_5 (by omega)] | rw [ok_6 (by omega)] | rw [ok_7 (by omega)] | rw [ok_8 (by omega)] | rw [ok_9 (by omega)] | rw [ok_10 (by omega)] | rw [ok_11 (by omega)] | rw [ok_12 (by omega)] | rw [ok_13 (by omega)] | rw [ok_14 (by omega)] | rw [ok_15 (by omega)] | rw [ok_16 (by omega)] | rw [ok_17 (by omega)]); (try simp [regB] at *); omega)); exact hno j (by omega)⟩ (by omega) rfl ⟨rfl, rfl, rfl, rfl, trivial⟩ ⟨rfl, trivial⟩
          try simp only [ct, ne_eq] at hg32_169
          refine g0 13 true 169 170 15 rfl rfl rfl rfl rfl rfl ?_
          refine g0 13 true 169 171 16 rfl rfl rfl rfl rfl rfl ?_
          refine g0 13 true 169 172 17 rfl rfl rfl rfl rfl rfl ?_
          refine s1 173 473 18 rfl rfl rfl rfl rfl rfl trivial ?_
          refine s1 6 481 19 rfl rfl rfl rfl rfl rfl trivial ?_
          refine e1 489 rfl ?_
          refine bn ?_
          refine tn ?_
          refine r1 ?_
          refine s1 194 489 1 rfl rfl rfl rfl rfl rfl trivial ?_
          refine s1 195 497 2 rfl rfl rfl rfl rfl rfl trivial ?_
          refine e1 505 rfl ?_
          refine keep [1, 10, 11, 12, 195] rfl ?_
          refine q1 rfl (fun hc35 => ?_) (fun hc35 => ?_)
          · skip
            try simp only [ct, ne_eq] at hc35
            refine r1 ?_
            refine s1 2 505 1 rfl rfl rfl rfl rfl rfl trivial ?_
            refine e1 513 rfl ?_
            refine keep [2] rfl ?_
            refine W_ret ?_
            refine br ?_
            refine tr ?_
            refine tr ?_
            refine br ?_
            refine tr ?_
            exact out1 2 (SV.b (mayB l)) (π := []) (hout := []) Tryd.results8 rfl (by have hb : okB l.length (l.getD n default) = false := (by clear hno; (try simp only [Int.toNat_natCast] at *); generalize l.getD n default = o at *; first | exact ok_kind (by omega) | (rw [← Bool.not_eq_true]; (first | rw [ok_1 (by omega)] | rw [ok_2 (by omega)] | rw [ok_3 (by omega)] | rw [ok_4 (by omega)] | rw [ok_5 (by omega)] | rw [ok_6 (by omega)] | rw [ok_7 (by omega)] | rw [ok_8 (by omega)] | rw [ok_9 (by omega)] | rw [ok_10 (by omega)] | rw [ok_11 (by omega)] | rw [ok_12 (by omega)] | rw [ok_13 (by omega)] | rw [ok_14 (by omega)] | rw [ok_15 (by omega)] | rw [ok_16 (by omega)] | rw [ok_17 (by omega)]); (try simp [regB] at *); omega)); have := all_not (by omega) hb; show SV.b _ = SV.b _; refine congrArg SV.b ?_; simp [mayB, this]) rfl rfl trivial ⟨rfl, rfl⟩
          exact absurd hc35 (by decide)
        try simp only [ct, ne_eq] at hg32_164
        refine g0 8 true 164 165 10 rfl rfl rfl rfl rfl rfl ?_
        refine g0 8 true 164 166 11 rfl rfl rfl rfl rfl rfl ?_
        refine g0 8 true 164 167 12 rfl rfl rfl rfl rfl rfl ?_
        refine s1 168 433 13 rfl rfl rfl rfl rfl rfl trivial ?_
        refine s1 169 441 14 rfl rfl rfl rfl rfl rfl trivial ?_
        refine g0 13 true 169 170 15 rfl rfl rfl rfl rfl rfl ?_
        refine g0 13 true 169 171 16 rfl rfl rfl rfl rfl rfl ?_
        refine g0 13 true 169 172 17 rfl rfl rfl rfl rfl rfl ?_
        refine s1 173 473 18 rfl rfl rfl rfl rfl rfl trivial ?_
        refine s1 6 481 19 rfl rfl rfl rfl rfl rfl trivial ?_
        refine e1 489 rfl ?_
        refine bn ?_
        refine tn ?_
        refine r1 ?_
        refine s1 194 489 1 rfl rfl rfl rfl rfl rfl trivial ?_
        refine s1 195 497 2 rfl rfl rfl rfl rfl rfl trivial ?_
        refine e1 505 rfl ?_
        refine keep [1, 10, 11, 12, 195] rfl ?_
        refine q1 rfl (fun hc35 => ?_) (fun hc35 => ?_)
        · skip
          try simp only [ct, ne_eq] at hc35
          refine r1 ?_
          refine s1 2 505 1 rfl rfl rfl rfl rfl rfl trivial ?_
          refine e1 513 rfl ?_
          refine keep [2] rfl ?_
          refine W_ret ?_
          refine br ?_
          refine tr ?_
          refine tr ?_
          refine br ?_
          refine tr ?_
          exact out1 2 (SV.b (mayB l)) (π := []) (hout := []) Tryd.results8 rfl (by have hb : okB l.length (l.getD n default) = false := (by clear hno; (try simp only [Int.toNat_natCast] at *); generalize l.getD n default = o at *; first | exact ok_kind (by omega) | (rw [← Bool.not_eq_true]; (first | rw [ok_1 (by omega)] | rw [ok_2 (by omega)] | rw [ok_3 (by omega)] | rw [ok_4 (by omega)] | rw [ok_5 (by omega)] | rw [ok_6 (by omega)] | rw [ok_7 (by omega)] | rw [ok_8 (by omega)] | rw [ok_9 (by omega)] | rw [ok_10 (by omega)] | rw [ok_11 (by omega)] | rw [ok_12 (by omega)] | rw [ok_13 (by omega)] | rw [ok_14 (by omega)] | rw [ok_15 (by omega)] | rw [ok_16 (by omega)] | rw [ok_17 (by omega)]); (try simp [regB] at *); omega)); have := all_not (by omega) hb; show SV.b _ = SV.b _; refine congrArg SV.b ?_; simp [mayB, this]) rfl rfl trivial ⟨rfl, rfl⟩
        exact absurd hc35 (by decide)
      try simp only [ct, ne_eq] at hg32_159
      refine g0 3 true 159 160 5 rfl rfl rfl rfl rfl rfl ?_
      refine g0 3 true 159 161 6 rfl rfl rfl rfl rfl rfl ?_
      refine g0 3 true 159 162 7 rfl rfl rfl rfl rfl rfl ?_
      refine s1 163 393 8 rfl rfl rfl rfl rfl rfl trivial ?_
      refine s1 164 401 9 rfl rfl rfl rfl rfl rfl trivial ?_
      refine g0 8 true 164 165 10 rfl rfl rfl rfl rfl rfl ?_
      refine g0 8 true 164 166 11 rfl rfl rfl rfl rfl rfl ?_
      refine g0 8 true 164 167 12 rfl rfl rfl rfl rfl rfl ?_
      refine s1 168 433 13 rfl rfl rfl rfl rfl rfl trivial ?_
      refine s1 169 441 14 rfl rfl rfl rfl rfl rfl trivial ?_
      refine g0 13 true 169 170 15 rfl rfl rfl rfl rfl rfl ?_
      refine g0 13 true 169 171 16 rfl rfl rfl rfl rfl rfl ?_
      refine g0 13 true 169 172 17 rfl rfl rfl rfl rfl rfl ?_
      refine s1 173 473 18 rfl rfl rfl rfl rfl rfl trivial ?_
      refine s1 6 481 19 rfl rfl rfl rfl rfl rfl trivial ?_
      refine e1 489 rfl ?_
      refine bn ?_
      refine tn ?_
      refine r1 ?_
      refine s1 194 489 1 rfl rfl rfl rfl rfl rfl trivial ?_
      refine s1 195 497 2 rfl rfl rfl rfl rfl rfl trivial ?_
      refine e1 505 rfl ?_
      refine keep [1, 10, 11, 12, 195] rfl ?_
      refine q1 rfl (fun hc35 => ?_) (fun hc35 => ?_)
      · skip
        try simp only [ct, ne_eq] at hc35
        refine r1 ?_
        refine s1 2 505 1 rfl rfl rfl rfl rfl rfl trivial ?_
        refine e1 513 rfl ?_
        refine keep [2] rfl ?_
        refine W_ret ?_
        refine br ?_
        refine tr ?_
        refine tr ?_
        refine br ?_
        refine tr ?_
        exact out1 2 (SV.b (mayB l)) (π := []) (hout := []) Tryd.results8 rfl (by have hb : okB l.length (l.getD n default) = false := (by clear hno; (try simp only [Int.toNat_natCast] at *); generalize l.getD n default = o at *; first | exact ok_kind (by omega) | (rw [← Bool.not_eq_true]; (first | rw [ok_1 (by omega)] | rw [ok_2 (by omega)] | rw [ok_3 (by omega)] | rw [ok_4 (by omega)] | rw [ok_5 (by omega)] | rw [ok_6 (by omega)] | rw [ok_7 (by omega)] | rw [ok_8 (by omega)] | rw [ok_9 (by omega)] | rw [ok_10 (by omega)] | rw [ok_11 (by omega)] | rw [ok_12 (by omega)] | rw [ok_13 (by omega)] | rw [ok_14 (by omega)] | rw [ok_15 (by omega)] | rw [ok_16 (by omega)] | rw [ok_17 (by omega)]); (try simp [regB] at *); omega)); have := all_not (by omega) hb; show SV.b _ = SV.b _; refine congrArg SV.b ?_; simp [mayB, this]) rfl rfl trivial ⟨rfl, rfl⟩
      exact absurd hc35 (by decide)
    try simp only [ct, ne_eq] at hc31
    refine r1 ?_
    refine s1 175 337 1 rfl rfl rfl rfl rfl rfl trivial ?_
    refine s1 174 345 2 rfl rfl rfl rfl rfl rfl trivial ?_
    refine e1 353 rfl ?_
    refine keep [1, 4, 6, 10, 11, 12, 174] rfl ?_
    refine q1 rfl (fun hc33 => ?_) (fun hc33 => ?_)
    · skip
      try simp only [ct, ne_eq] at hc33
      refine r0 ?_
      refine s1 176 353 1 rfl rfl rfl rfl rfl rfl trivial ?_
      refine s1 177 361 2 rfl rfl rfl rfl rfl rfl trivial ?_
      refine s1 178 369 3 rfl rfl rfl rfl rfl rfl trivial ?_
      refine s1 179 377 4 rfl rfl rfl rfl rfl rfl trivial ?_
      refine ask 179 rfl (fun hg34_179 => ?_) (fun hg34_179 => ?_)
      · skip
        try simp only [ct, ne_eq] at hg34_179
        refine g1 3 true 179 180 5 rfl rfl rfl rfl rfl ?_
        refine s1 180 385 5 rfl rfl rfl rfl rfl rfl trivial ?_
        refine g1 3 true 179 181 6 rfl rfl rfl rfl rfl ?_
        refine s1 181 393 6 rfl rfl rfl rfl rfl rfl trivial ?_
        refine g1 3 true 179 182 7 rfl rfl rfl rfl rfl ?_
        refine s1 182 401 7 rfl rfl rfl rfl rfl rfl trivial ?_
        refine s1 183 409 8 rfl rfl rfl rfl rfl rfl trivial ?_
        refine s1 184 417 9 rfl rfl rfl rfl rfl rfl trivial ?_
        refine ask 184 rfl (fun hg34_184 => ?_) (fun hg34_184 => ?_)
        · skip
          try simp only [ct, ne_eq] at hg34_184
          refine g1 8 true 184 185 10 rfl rfl rfl rfl rfl ?_
          refine s1 185 425 10 rfl rfl rfl rfl rfl rfl trivial ?_
          refine g1 8 true 184 186 11 rfl rfl rfl rfl rfl ?_
          refine s1 186 433 11 rfl rfl rfl rfl rfl rfl trivial ?_
          refine g1 8 true 184 187 12 rfl rfl rfl rfl rfl ?_
          refine s1 187 441 12 rfl rfl rfl rfl rfl rfl trivial ?_
          refine s1 188 449 13 rfl rfl rfl rfl rfl rfl trivial ?_
          refine s1 189 457 14 rfl rfl rfl rfl rfl rfl trivial ?_
          refine ask 189 rfl (fun hg34_189 => ?_) (fun hg34_189 => ?_)
          · skip
            try simp only [ct, ne_eq] at hg34_189
            refine g1 13 true 189 190 15 rfl rfl rfl rfl rfl ?_
            refine s1 190 465 15 rfl rfl rfl rfl rfl rfl trivial ?_
            refine g1 13 true 189 191 16 rfl rfl rfl rfl rfl ?_
            refine s1 191 473 16 rfl rfl rfl rfl rfl rfl trivial ?_
            refine g1 13 true 189 192 17 rfl rfl rfl rfl rfl ?_
            refine s1 192 481 17 rfl rfl rfl rfl rfl rfl trivial ?_
            refine s1 193 489 18 rfl rfl rfl rfl rfl rfl trivial ?_
            refine s1 6 497 19 rfl rfl rfl rfl rfl rfl trivial ?_
            refine e1 505 rfl ?_
            refine bn ?_
            refine tn ?_
            refine r1 ?_
            refine s1 194 505 1 rfl rfl rfl rfl rfl rfl trivial ?_
            refine s1 195 513 2 rfl rfl rfl rfl rfl rfl trivial ?_
            refine e1 521 rfl ?_
            refine keep [1, 10, 11, 12, 195] rfl ?_
            refine q1 rfl (fun hc35 => ?_) (fun hc35 => ?_)
            · skip
              try simp only [ct, ne_eq] at hc35
              refine r1 ?_
              refine s1 2 521 1 rfl rfl rfl rfl rfl rfl trivial ?_
              refine e1 529 rfl ?_
              refine keep [2] rfl ?_
              refine W_ret ?_
              refine br ?_
              refine tr ?_
              refine tr ?_
              refine br ?_
              refine tr ?_
              exact out1 2 (SV.b (mayB l)) (π := []) (hout := []) Tryd.results8 rfl (by have hb : okB l.length (l.getD n default) = false := (by clear hno; (try simp only [Int.toNat_natCast] at *); generalize l.getD n default = o at *; first | exact ok_kind (by omega) | (rw [← Bool.not_eq_true]; (first | rw [ok_1 (by omega)] | rw [ok_2 (by omega)] | rw [ok_3 (by omega)] | rw [ok_4 (by omega)] | rw [ok_5 (by omega)] | rw [ok_6 (by omega)] | rw [ok_7 (by omega)] | rw [ok_8 (by omega)] | rw [ok_9 (by omega)] | rw [ok_10 (by omega)] | rw [ok_11 (by omega)] | rw [ok_12 (by omega)] | rw [ok_13 (by omega)] | rw [ok_14 (by omega)] | rw [ok_15 (by omega)] | rw [ok_16 (by omega)] | rw [ok_17 (by omega)]); (try simp [regB] at *); omega)); have := all_not (by omega) hb; show SV.b _ = SV.b _; refine congrArg SV.b ?_; simp [mayB, this]) rfl rfl trivial ⟨rfl, rfl⟩
            try simp only [ct, ne_eq] at hc35
            refine W_skip ?_
            refine bn ?_
            refine tn ?_
            refine r0 ?_
            refine sA 196 521 1 rfl rfl rfl rfl rfl rfl rfl rfl rfl (by unfold inRange; omega) ?_
            refine s1 12 529 2 rfl rfl rfl rfl rfl rfl trivial ?_
            refine e1 537 rfl ?_
            refine tn ?_
            exact again (n + 1) [0] ⟨by omega, fun j hj => by by_cases e : j = n; (subst e; (clear hno; (try simp only [Int.toNat_natCast] at *); generalize l.getD j default = o at *; (first | rw [ok_1 (by omega)] | rw [ok_2 (by omega)] | rw [ok_3 (by omega)] | rw [ok_4 (by omega)] | rw [ok_5 (by omega)] | rw [ok_6 (by omega)] | rw [ok_7 (by omega)] | rw [ok_8 (by omega)] | rw [ok_9 (by omega)] | rw [ok_10 (by omega)] | rw [ok_11 (by omega)] | rw [ok_12 (by omega)] | rw [ok_13 (by omega)] | rw [ok_14 (by omega)] | rw [ok_15 (by omega)] | rw [ok_16 (by omega)] | rw [ok_17 (by omega)]); (try simp [regB] at *); omega)); exact hno j (by omega)⟩ (by omega) rfl ⟨rfl, rfl, rfl, rfl, trivial⟩ ⟨rfl, trivial⟩
          try simp only [ct, ne_eq] at hg34_189
          refine g0 13 true 189 190 15 rfl rfl rfl rfl rfl rfl ?_
          refine g0 13 true 189 191 16 rfl rfl rfl rfl rfl rfl ?_
          refine g0 13 true 189 192 17 rfl rfl rfl rfl rfl rfl ?_
          refine s1 193 489 18 rfl rfl rfl rfl rfl rfl trivial ?_
          refine s1 6 497 19 rfl rfl rfl rfl rfl rfl trivial ?_
          refine e1 505 rfl ?_
          refine bn ?_
          refine tn ?_
          refine r1 ?_
          refine s1 194 505 1 rfl rfl rfl rfl rfl rfl trivial ?_
          refine s1 195 513 2 rfl rfl rfl rfl rfl rfl trivial ?_
          refine e1 521 rfl ?_
          refine keep [1, 10, 11, 12, 195] rfl ?_
          refine q1 rfl (fun hc35 => ?_) (fun hc35 => ?_)
          · skip
            try simp only [ct, ne_eq] at hc35
            refine r1 ?_
            refine s1 2 521 1 rfl rfl rfl rfl rfl rfl trivial ?_
            refine e1 529 rfl ?_
            refine keep [2] rfl ?_
            refine W_ret ?_
            refine br ?_
            refine tr ?_
            refine tr ?_
            refine br ?_
            refine tr ?_
            exact out1 2 (SV.b (mayB l)) (π := []) (hout := []) Tryd.results8 rfl (by have hb : okB l.length (l.getD n default) = false := (by clear hno; (try simp only [Int.toNat_natCast] at *); generalize l.getD n default = o at *; first | exact ok_kind (by omega) | (rw [← Bool.not_eq_true]; (first | rw [ok_1 (by omega)] | rw [ok_2 (by omega)] | rw [ok_3 (by omega)] | rw [ok_4 (by omega)] | rw [ok_5 (by omega)] | rw [ok_6 (by omega)] | rw [ok_7 (by omega)] | rw [ok_8 (by omega)] | rw [ok_9 (by omega)] | rw [ok_10 (by omega)] | rw [ok_11 (by omega)] | rw [ok_12 (by omega)] | rw [ok_13 (by omega)] | rw [ok_14 (by omega)] | rw [ok_15 (by omega)] | rw [ok_16 (by omega)] | rw [ok_17 (by omega)]); (try simp [regB] at *); omega)); have := all_not (by omega) hb; show SV.b _ = SV.b _; refine congrArg SV.b ?_; simp [mayB, this]) rfl rfl trivial ⟨rfl, rfl⟩
          exact absurd hc35 (by decide)
        try simp only [ct, ne_eq] at hg34_184
        refine g0 8 true 184 185 10 rfl rfl rfl rfl rfl rfl ?_
        refine g0 8 true 184 186 11 rfl rfl rfl rfl rfl rfl ?_
        refine g0 8 true 184 187 12 rfl rfl rfl rfl rfl rfl ?_
        refine s1 188 449 13 rfl rfl rfl rfl rfl rfl trivial ?_
        refine s1 189 457 14 rfl rfl rfl rfl rfl rfl trivial ?_
        refine g0 13 true 189 190 15 rfl rfl rfl rfl rfl rfl ?_
        refine g0 13 true 189 191 16 rfl rfl rfl rfl rfl rfl ?_
        refine g0 13 true 189 192 17 rfl rfl rfl rfl rfl rfl ?_
        refine s1 193 489 18 rfl rfl rfl rfl rfl rfl trivial ?_
        refine s1 6 497 19 rfl rfl rfl rfl rfl rfl trivial ?_
        refine e1 505 rfl ?_
        refine bn ?_
        refine tn ?_
        refine r1 ?_
        refine s1 194 505 1 rfl rfl rfl rfl rfl rfl trivial ?_
        refine s1 195 513 2 rfl rfl rfl rfl rfl rfl trivial ?_
        refine e1 521 rfl ?_
        refine keep [1, 10, 11, 12, 195] rfl ?_
        refine q1 rfl (fun hc35 => ?_) (fun hc35 => ?_)
        · skip
          try simp only [ct, ne_eq] at hc35
          refine r1 ?_
          refine s1 2 521 1 rfl rfl rfl rfl rfl rfl trivial ?_
          refine e1 529 rfl ?_
          refine keep [2] rfl ?_
          refine W_ret ?_
          refine br ?_
          refine tr ?_
          refine tr ?_
          refine br ?_
          refine tr ?_
          exact out1 2 (SV.b (mayB l)) (π := []) (hout := []) Tryd.results8 rfl (by have hb : okB l.length (l.getD n default) = false := (by clear hno; (try simp only [Int.toNat_natCast] at *); generalize l.getD n default = o at *; first | exact ok_kind (by omega) | (rw [← Bool.not_eq_true]; (first | rw [ok_1 (by omega)] | rw [ok_2 (by omega)] | rw [ok_3 (by omega)] | rw [ok_4 (by omega)] | rw [ok_5 (by omega)] | rw [ok_6 (by omega)] | rw [ok_7 (by omega)] | rw [ok_8 (by omega)] | rw [ok_9 (by omega)] | rw [ok_10 (by omega)] | rw [ok_11 (by omega)] | rw [ok_12 (by omega)] | rw [ok_13 (by omega)] | rw [ok_14 (by omega)] | rw [ok_15 (by omega)] | rw [ok_16 (by omega)] | rw [ok_17 (by omega)]); (try simp [regB] at *); omega)); have := all_not (by omega) hb; show SV.b _ = SV.b _; refine congrArg SV.b ?_; simp [mayB, this]) rfl rfl trivial ⟨rfl, rfl⟩
        exact absurd hc35 (by decide)
      try simp only [ct, ne_eq] at hg34_179
      refine g0 3 true 179 180 5 rfl rfl rfl rfl rfl rfl ?_
      refine g0 3 true 179 181 6 rfl rfl rfl rfl rfl rfl ?_
      refine g0 3 true 179 182 7 rfl rfl rfl rfl rfl rfl ?_
      refine s1 183 409 8 rfl rfl rfl rfl rfl rfl trivial ?_
      refine s1 184 417 9 rfl rfl rfl rfl rfl rfl trivial ?_
      refine g0 8 true 184 185 10 rfl rfl rfl rfl rfl rfl ?_
      refine g0 8 true 184 186 11 rfl rfl rfl rfl rfl rfl ?_
      refine g0 8 true 184 187 12 rfl rfl rfl rfl rfl rfl ?_
      refine s1 188 449 13 rfl rfl rfl rfl rfl rfl trivial ?_
      refine s1 189 457 14 rfl rfl rfl rfl rfl rfl trivial ?_
      refine g0 13 true 189 190 15 rfl rfl rfl rfl rfl rfl ?_
      refine g0 13 true 189 191 16 rfl rfl rfl rfl rfl rfl ?_
      refine g0 13 true 189 192 17 rfl rfl rfl rfl rfl rfl ?_
      refine s1 193 489 18 rfl rfl rfl rfl rfl rfl trivial ?_
      refine s1 6 497 19 rfl rfl rfl rfl rfl rfl trivial ?_
      refine e1 505 rfl ?_
      refine bn ?_
      refine tn ?_
      refine r1 ?_
      refine s1 194 505 1 rfl rfl rfl rfl rfl rfl trivial ?_
      refine s1 195 513 2 rfl rfl rfl rfl rfl rfl trivial ?_
      refine e1 521 rfl ?_
      refine keep [1, 10, 11, 12, 195] rfl ?_
      refine q1 rfl (fun hc35 => ?_) (fun hc35 => ?_)
      · skip
        try simp only [ct, ne_eq] at hc35
        refine r1 ?_
        refine s1 2 521 1 rfl rfl rfl rfl rfl rfl trivial ?_
        refine e1 529 rfl ?_
        refine keep [2] rfl ?_
        refine W_ret ?_
        refine br ?_
        refine tr ?_
        refine tr ?_
        refine br ?_
        refine tr ?_
        exact out1 2 (SV.b (mayB l)) (π := []) (hout := []) Tryd.results8 rfl (by have hb : okB l.length (l.getD n default) = false := (by clear hno; (try simp only [Int.toNat_natCast] at *); generalize l.getD n default = o at *; first | exact ok_kind (by omega) | (rw [← Bool.not_eq_true]; (first | rw [ok_1 (by omega)] | rw [ok_2 (by omega)] | rw [ok_3 (by omega)] | rw [ok_4 (by omega)] | rw [ok_5 (by omega)] | rw [ok_6 (by omega)] | rw [ok_7 (by omega)] | rw [ok_8 (by omega)] | rw [ok_9 (by omega)] | rw [ok_10 (by omega)] | rw [ok_11 (by omega)] | rw [ok_12 (by omega)] | rw [ok_13 (by omega)] | rw [ok_14 (by omega)] | rw [ok_15 (by omega)] | rw [ok_16 (by omega)] | rw [ok_17 (by omega)]); (try simp [regB] at *); omega)); have := all_not (by omega) hb; show SV.b _ = SV.b _; refine congrArg SV.b ?_; simp [mayB, this]) rfl rfl trivial ⟨rfl, rfl⟩
      exact absurd hc35 (by decide)
    try simp only [ct, ne_eq] at hc33
    refine W_skip ?_
    refine bn ?_
    refine tn ?_
    refine r1 ?_
    refine s1 194 353 1 rfl rfl rfl rfl rfl rfl trivial ?_
    refine s1 195 361 2 rfl rfl rfl rfl rfl rfl trivial ?_
    refine e1 369 rfl ?_
    refine keep [1, 10, 11, 12, 195] rfl ?_
    refine q1 rfl (fun hc35 => ?_) (fun hc35 => ?_)
    · skip
      try simp only [ct, ne_eq] at hc35
      refine r1 ?_
      refine s1 2 369 1 rfl rfl rfl rfl rfl rfl trivial ?_
      refine e1 377 rfl ?_
      refine keep [2] rfl ?_
      refine W_ret ?_
      refine br ?_
      refine tr ?_
      refine tr ?_
      refine br ?_
      refine tr ?_
      exact out1 2 (SV.b (mayB l)) (π := []) (hout := []) Tryd.results8 rfl (by have hb : okB l.length (l.getD n default) = false := (by clear hno; (try simp only [Int.toNat_natCast] at *); generalize l.getD n default = o at *; first | exact ok_kind (by omega) | (rw [← Bool.not_eq_true]; (first | rw [ok_1 (by omega)] | rw [ok_2 (by omega)] | rw [ok_3 (by omega)] | rw [ok_4 (by omega)] | rw [ok_5 (by omega)] | rw [ok_6 (by omega)] | rw [ok_7 (by omega)] | rw [ok_8 (by omega)] | rw [ok_9 (by omega)] | rw [ok_10 (by omega)] | rw [ok_11 (by omega)] | rw [ok_12 (by omega)] | rw [ok_13 (by omega)] | rw [ok_14 (by omega)] | rw [ok_15 (by omega)] | rw [ok_16 (by omega)] | rw [ok_17 (by omega)]); (try simp [regB] at *); omega)); have := all_not (by omega) hb; show SV.b _ = SV.b _; refine congrArg SV.b ?_; simp [mayB, this]) rfl rfl trivial ⟨rfl, rfl⟩
    exact absurd hc35 (by decide)
  try simp only [ct, ne_eq] at hc4
  refine W_exit ?_
  refine tx ?_
  refine tx ?_
  refine bx ?_
  refine tn ?_
  refine r1 ?_
  refine s1 2 9 1 rfl rfl rfl rfl rfl rfl trivial ?_
  refine e1 17 rfl ?_
  refine keep [2] rfl ?_
  refine W_ret ?_
  exact out1 2 (SV.b (mayB l)) (π := []) (hout := []) Tryd.results8 rfl (by have := all_yes (fun j hj => hno j (by omega)); show SV.b _ = SV.b _; refine congrArg SV.b ?_; unfold mayB; rw [this, Bool.and_true]; rw [Bool.eq_iff_iff]; simp; try omega) rfl rfl trivial ⟨rfl, rfl⟩

theorem law_any (l : List Ins) (hl : l.length ≤ 9223372036854775807) : Spec Tryd.prog GV 3 [insV l] [] (fun r _ => r = SV.b true) := by
  refine start 8 0 Tryd.func3 rfl rfl rfl rfl ?_
  refine r1 ?_
  refine s1 2 0 1 rfl rfl rfl rfl rfl rfl trivial ?_
  refine e1 8 rfl ?_
  refine keep [0] rfl ?_
  refine r1 ?_
  refine s1 3 8 1 rfl rfl rfl rfl rfl rfl trivial ?_
  refine c1 (may_any l hl) [] [] 4 16 2 rfl rfl rfl rfl rfl rfl rfl rfl Tryd.func7 rfl rfl rfl rfl trivial rfl rfl ?_
  refine s1 5 24 3 rfl rfl rfl rfl rfl rfl trivial ?_
  refine c1 (codeMay_any l hl) [] [] 6 32 4 rfl rfl rfl rfl rfl rfl rfl rfl Tryd.func8 rfl rfl rfl rfl trivial rfl rfl ?_
  refine s1 7 40 5 rfl rfl rfl rfl rfl rfl (by first | trivial | omega | (simp only [List.length_map, List.length_append, List.length_cons, List.length_nil] at *; omega)) ?_
  refine s1 2 48 6 rfl rfl rfl rfl rfl rfl trivial ?_
  refine e1 56 rfl ?_
  refine keep [2] rfl ?_
  refine W_ret ?_
  exact out1 2 (SV.b true) (π := []) (hout := []) Tryd.results3 rfl (by first | (simp; done) | (simp; rfl) | (simp at *; done)) rfl rfl trivial rfl

end Go.Proofs.YtdjphneoecebmaaDoor.Nice
