/- Part 8 of the proof of CrewEncodes: WgWait, Wb, CrewA, Wz, WgLink, CrewB, ChunkEnc, CrewE1, CrewE2, CrewT. -/
import Derived.Test.YtpdojmebloekgaaDoorZE7
import Derived.Conc.WgGenWait
import Derived.Conc.LeavingOf
import Derived.Test.YtpdojmebloekgaaDoorChecked
import Derived.Conc.WgLib
import Derived.Test.YtpdojmebloekgaaDoorProg
namespace Go.Proofs.YtpdojmebloekgaaDoor.Nice.Co
open Go Go.Conc Go.RowKit Go.Conc.Lib Go.ConcR.Gen
open Go.ConcN (st_flag st_waiters)
open Go.ConcR (KK WgAt stA smA mk DC0)
set_option linter.unusedVariables false
set_option linter.unusedSimpArgs false
section
variable {P : Program} {L : WgLink} {p : Pr} {Pst : Value → World → Prop} {A Rd : Blks} {w : World} {b₀ : Frame} {a₀ : Act} {ops₀ : Array Oper} {i₀ : Nat} {rest₀ : List Nat} {k₀ : List Item} {cs : List Frame}
set_option maxRecDepth 100000 in
set_option maxHeartbeats 8000000 in
theorem wait_round (H : WgLib P L) (hA : Apt p A Rd) (hn : p.n < 2147483647) {w0 : World}
    (hT : ∀ w', Rely A Rd w0 w' → WgLv p w' → Run P p Pst false ⟨A, Rd, 0, .cs⟩ (G (b₀.at (a₀.put ((ops₀[i₀]?).bind (·.dst)) (.tuple #[])) (.inRegion ops₀ rest₀ :: k₀)) cs) w') :
    ∀ (B : Nat), B ≤ p.n → ∀ (T : Array Value) (w : World), T.size = 84 → T[0]? = some (.pointer (some ⟨p.Wg, 0, none⟩)) → WK p A Rd w0 w →
      Run P p Pst false ⟨A, Rd, 1, .cw B⟩ (G ((base L.wait).at ⟨T, []⟩ [.code (L7 L), .inLoop (L7 L), .inBlock 0]) (b₀.at a₀ (.inRegion ops₀ (i₀ :: rest₀) :: k₀) :: cs)) w := by
  lib_facts
  intro B
  induction B using Nat.strongRecOn with
  | _ B ih =>
  intro hBn T w hT84 t0 hF
  obtain ⟨v0, v1, v2, v3, v4, v5, v6, v7, v8, v9, v10, v11, v12, v13, v14, v15, v16, v17, v18, v19, v20, v21, v22, v23, v24, v25, v26, v27, v28, v29, v30, v31, v32, v33, v34, v35, v36, v37, v38, v39, v40, v41, v42, v43, v44, v45, v46, v47, v48, v49, v50, v51, v52, v53, v54, v55, v56, v57, v58, v59, v60, v61, v62, v63, v64, v65, v66, v67, v68, v69, v70, v71, v72, v73, v74, v75, v76, v77, v78, v79, v80, v81, v82, v83, rfl⟩ := array84 T hT84
  simp only [List.getElem?_toArray, List.getElem?_cons_zero, Option.some.injEq] at t0
  subst t0
  refine Run.of_goes (n := 140) (by simp) ?_
  simp only [L7, body_wait, waitFn, Option.getD_some]
  u_c stepG_block rlQ hF
  u_c stepG_seq rlQ hF
  u_reg rlQ hF
  u_op rlQ hF
  u_op rlQ hF
  u_op rlQ hF
  u_call H.f_uLoad (nm_uLoad L) uLoadFn rlQ hF
  u_c stepG_seq rlQ hF
  u_reg rlQ hF
  u_op rlQ hF
  u_c stepG_region_end rlQ hF
  u_c stepG_seq rlQ hF
  u_reg rlQ hF
  u_op rlQ hF
  u_op rlQ hF
  u_op rlQ hF
  (refine Goes.stop (fun wx hx => ?_); replace hF := rlQ hF hx; clear hx)
  refine Run.intro (.sync rfl (by simp) fun w₁ h₁ s hsh hp => ?_)
  replace hF := rlQ hF h₁
  clear h₁
  have hwg := hsh.wg
  obtain ⟨u, wt, sm, cl⟩ := s
  obtain ⟨hp1, hp2, hp3, hp4⟩ : u ≤ B ∧ wt = 0 ∧ sm = 0 ∧ cl = false := hp
  subst hp2 hp3 hp4
  rcases Nat.eq_zero_or_pos u with rfl | hup
  · simp only [KK, Int.ofNat_zero, Int.zero_mul, Int.zero_add, Int.cast_ofNat_Int, Int.natCast_zero] at hwg
    refine ⟨_, w₁, _, .cs, ⟨0, 0, 0, false⟩, stepG_load_atomic (v := 0) rfl rfl (by k_ne) rfl H.f_loadU64 (x_loadU64_n L) (x_loadU64_b L) (x_loadU64_x L) .u64 (x_loadU64_f L) rfl hwg.cellSt, .ld0, .refl _, hsh, .inl ⟨rfl, rfl⟩, ?_⟩
    clear hsh hwg ih
    change Run P p Pst false ⟨A, Rd, 1, .cs⟩ _ _
    walk_nrm
    refine Run.of_goes (n := 140) (by simp) ?_
    u_op rlQ hF
    u_c stepG_region_end rlQ hF
    u_c stepG_ret' rlQ hF
    u_leave1 H.f_uLoad rlQ hF
    u_op rlQ hF
    u_c stepG_region_end rlQ hF
    u_c stepG_seq rlQ hF
    u_reg rlQ hF
    u_op rlQ hF
    u_op rlQ hF
    u_op rlQ hF
    u_op rlQ hF
    u_c stepG_region_end rlQ hF
    u_c stepG_seq rlQ hF
    u_reg rlQ hF
    u_op rlQ hF
    u_op rlQ hF
    u_op rlQ hF
    u_op rlQ hF
    u_c stepG_region_end rlQ hF
    u_c stepG_seq rlQ hF
    u_c stepG_seq rlQ hF
    u_reg rlQ hF
    u_op rlQ hF
    u_op rlQ hF
    u_c stepG_region_end rlQ hF
    (u_in rlQ hF; rw [stepG_cond (t := true) (by first | rfl | (simp [Act.eval]; omega))]; simp only [goes_go, if_true, if_false, Bool.false_eq_true, ↓reduceIte]; refine ⟨by u_nil, ?_⟩)
    u_c stepG_seq rlQ hF
    (u_in rlQ hF; rw [stepG_cond (t := true) (by first | rfl | (simp [Act.eval]; omega))]; simp only [goes_go, if_true, if_false, Bool.false_eq_true, ↓reduceIte]; refine ⟨by u_nil, ?_⟩)
    u_c stepG_seq rlQ hF
    u_reg rlQ hF
    (refine Goes.stop (fun wx hx => ?_); replace hF := rlQ hF hx; clear hx)
    refine Run.mark rfl (by simp) .enable (by simp [MarkOk]) (d' := 0) rfl (fun w₁ h₁ => stepG_mark0 .enable (by simp) rfl rfl (by k_ne) rfl H.f_enable (x_enable_n L) (x_enable_b L) (x_enable_x L) (x_enable_f L)) fun w₁ h₁ => ?_
    replace hF := rlQ hF h₁
    clear h₁
    walk_nrm
    refine Run.of_goes (n := 140) (by simp) ?_
    u_c stepG_region_end rlQ hF
    u_reg rlQ hF
    u_op rlQ hF
    u_conv H.underlying_tWgP H.room_tWg (WK.cell0 hF).choose_spec rlQ hF
    (refine Goes.stop (fun wx hx => ?_); replace hF := rlQ hF hx; clear hx)
    refine Run.mark rfl (by simp) (.acquire _) (by simp [MarkOk]) (d' := 0) rfl (fun w₁ h₁ => stepG_markAt .acquire (by simp) rfl rfl (by k_ne) rfl H.f_acquire (x_acquire_n L) (x_acquire_b L) (x_acquire_x L) (x_acquire_f L) (by simp [Act.eval] <;> rfl)) fun w₁ h₁ => ?_
    replace hF := rlQ hF h₁
    clear h₁
    walk_nrm
    refine Run.of_goes (n := 140) (by simp) ?_
    u_c stepG_region_end rlQ hF
    u_c stepG_seq rlQ hF
    u_c stepG_seq rlQ hF
    u_reg rlQ hF
    u_op rlQ hF
    u_op rlQ hF
    u_op rlQ hF
    u_op rlQ hF
    u_op rlQ hF
    u_op rlQ hF
    u_op rlQ hF
    u_op rlQ hF
    u_skip rlQ hF
    u_skip rlQ hF
    u_op rlQ hF
    u_c stepG_region_end rlQ hF
    (u_in rlQ hF; rw [stepG_cond (t := false) (by first | rfl | (simp [Act.eval]; omega))]; simp only [goes_go, if_true, if_false, Bool.false_eq_true, ↓reduceIte]; refine ⟨by u_nil, ?_⟩)
    u_c stepG_skip rlQ hF
    u_c stepG_ret' rlQ hF
    u_leave0 H.f_wait rlQ hF
    (refine Goes.stop (fun wx hx => ?_); replace hF := rlQ hF hx; clear hx)
    exact hT _ hF.2 hF.1
  · obtain ⟨S, hS⟩ : ∃ S : Int, (u : Int) * KK = S := ⟨_, rfl⟩
    have a1 : S / 4294967296 = (u : Int) := by rw [← hS]; simp only [KK]; omega
    have b1 : bits .and .u64 S 2147483648 = 0 := by rw [← hS]; have := st_flag u 0 (by omega) (by omega); simpa [KK] using this
    have b2 : bits .and .u64 S 2147483647 = 0 := by rw [← hS]; have := st_waiters u 0 (by omega) (by omega); simpa [KK] using this
    have c1 : IntKind.i32.wrap (u : Int) = (u : Int) := by rw [IntKind.wrap_i32]; omega
    have w1 : IntKind.u64.wrap (S + 1) = S + 1 := by rw [IntKind.wrap_u64, ← hS]; simp only [KK]; omega
    have q3 : decide ((u : Int) < 0) = false := decide_eq_false (by omega)
    have q4 : decide (0 < (u : Int)) = true := decide_eq_true (by omega)
    have q5 : ((u : Int) == 0) = false := by simp; omega
    have q6 : decide ((u : Int) = 0) = false := decide_eq_false (by omega)
    have hwg' : WgAt p.ty p.Wg w₁ S 0 := by rw [← hS]; simpa using hwg
    refine ⟨_, w₁, _, .cc u, ⟨u, 0, 0, false⟩, stepG_load_atomic (v := S) rfl rfl (by k_ne) rfl H.f_loadU64 (x_loadU64_n L) (x_loadU64_b L) (x_loadU64_x L) .u64 (x_loadU64_f L) rfl hwg'.cellSt, .ldv hup hp1, .refl _, hsh, .inl ⟨rfl, rfl⟩, ?_⟩
    clear hsh hwg hwg'
    change Run P p Pst false ⟨A, Rd, 1, .cc u⟩ _ _
    walk_nrm
    refine Run.of_goes (n := 140) (by simp) ?_
    u_op rlQ hF
    u_c stepG_region_end rlQ hF
    u_c stepG_ret' rlQ hF
    u_leave1 H.f_uLoad rlQ hF
    u_op rlQ hF
    u_c stepG_region_end rlQ hF
    u_c stepG_seq rlQ hF
    u_reg rlQ hF
    u_op rlQ hF
    u_op rlQ hF
    u_op rlQ hF
    u_op rlQ hF
    u_c stepG_region_end rlQ hF
    u_c stepG_seq rlQ hF
    u_reg rlQ hF
    u_op rlQ hF
    u_op rlQ hF
    u_op rlQ hF
    u_op rlQ hF
    u_c stepG_region_end rlQ hF
    u_c stepG_seq rlQ hF
    u_c stepG_seq rlQ hF
    u_reg rlQ hF
    u_op rlQ hF
    u_op rlQ hF
    u_c stepG_region_end rlQ hF
    (u_in rlQ hF; rw [stepG_cond (t := false) (by first | rfl | (simp [Act.eval]; omega))]; simp only [goes_go, if_true, if_false, Bool.false_eq_true, ↓reduceIte]; refine ⟨by u_nil, ?_⟩)
    u_c stepG_skip rlQ hF
    u_c stepG_seq rlQ hF
    u_reg rlQ hF
    u_op rlQ hF
    u_op rlQ hF
    u_op rlQ hF
    u_op rlQ hF
    u_op rlQ hF
    u_op rlQ hF
    u_call H.f_uCas (nm_uCas L) uCasFn rlQ hF
    u_c stepG_seq rlQ hF
    u_reg rlQ hF
    u_op rlQ hF
    u_c stepG_region_end rlQ hF
    u_c stepG_seq rlQ hF
    u_reg rlQ hF
    u_op rlQ hF
    u_op rlQ hF
    u_op rlQ hF
    u_op rlQ hF
    u_op rlQ hF
    (refine Goes.stop (fun wx hx => ?_); replace hF := rlQ hF hx; clear hx)
    refine Run.intro (.sync rfl (by simp) fun w₁ h₁ s hsh hp => ?_)
    replace hF := rlQ hF h₁
    clear h₁
    have hwg := hsh.wg
    obtain ⟨v', wt, sm, cl⟩ := s
    obtain ⟨hp2, hp3, hp4, hp5⟩ : v' ≤ u ∧ wt = 0 ∧ sm = 0 ∧ cl = false := hp
    subst hp3 hp4 hp5
    rcases Nat.lt_or_ge v' u with hlt | hge
    · have hne : ¬ ((v' : Int) * KK + ((0 : Nat) : Int)) = S := by rw [← hS]; simp only [KK]; omega
      refine ⟨_, w₁, _, .cw v', ⟨v', 0, 0, false⟩, stepG_cas_miss (old := S) (n := S + 1) rfl rfl (by k_ne) rfl H.f_casU64 (x_casU64_n L) (x_casU64_b L) (x_casU64_x L) .u64 (x_casU64_f L) rfl rfl rfl hwg.cellSt (hwg.thaw 0) hne, .miss hlt, .refl _, hsh, .inl ⟨rfl, rfl⟩, ?_⟩
      clear hsh hwg hne
      change Run P p Pst false ⟨A, Rd, 1, .cw v'⟩ _ _
      walk_nrm
      refine Run.of_goes (n := 140) (by simp) ?_
      u_op rlQ hF
      u_c stepG_region_end rlQ hF
      u_c stepG_ret' rlQ hF
      u_leave1 H.f_uCas rlQ hF
      u_c stepG_region_end rlQ hF
      (u_in rlQ hF; rw [stepG_cond (t := false) (by first | rfl | (simp [Act.eval]; omega))]; simp only [goes_go, if_true, if_false, Bool.false_eq_true, ↓reduceIte]; refine ⟨by u_nil, ?_⟩)
      u_c stepG_skip rlQ hF
      u_c stepG_inBlock rlQ hF
      u_c stepG_inLoop rlQ hF
      (refine Goes.stop (fun wx hx => ?_); replace hF := rlQ hF hx; clear hx)
      exact ih v' (by omega) (by omega) _ _ rfl rfl hF
    · obtain rfl : v' = u := by omega
      have hwg' : WgAt p.ty p.Wg w₁ S 0 := by rw [← hS]; simpa using hwg
      obtain ⟨hsh', O⟩ := hsh.setSt v' 1 (x := S + 1) (by rw [← hS]; rfl)
      refine ⟨_, _, _, .cr, ⟨v', 1, 0, false⟩, stepG_cas_hit (v := S) (n := S + 1) rfl rfl (by k_ne) rfl H.f_casU64 (x_casU64_n L) (x_casU64_b L) (x_casU64_x L) .u64 (x_casU64_f L) rfl rfl rfl hwg'.cellSt (hwg'.thaw 0), .cas hup, O, hsh', .inl ⟨rfl, rfl⟩, ?_⟩
      replace hF := hF.only hA O hsh'
      generalize w₁.setCell (stA p.Wg) (.int .u64 (S + 1)) = w₂ at hF ⊢
      clear hsh hsh' O hwg hwg' ih
      change Run P p Pst false ⟨A, Rd, 1, .cr⟩ _ _
      walk_nrm
      refine Run.of_goes (n := 140) (by simp) ?_
      u_op rlQ hF
      u_c stepG_region_end rlQ hF
      u_c stepG_ret' rlQ hF
      u_leave1 H.f_uCas rlQ hF
      u_c stepG_region_end rlQ hF
      (u_in rlQ hF; rw [stepG_cond (t := true) (by first | rfl | (simp [Act.eval]; omega))]; simp only [goes_go, if_true, if_false, Bool.false_eq_true, ↓reduceIte]; refine ⟨by u_nil, ?_⟩)
      u_c stepG_seq rlQ hF
      u_c stepG_seq rlQ hF
      u_reg rlQ hF
      u_op rlQ hF
      u_op rlQ hF
      u_op rlQ hF
      u_op rlQ hF
      u_c stepG_region_end rlQ hF
      (u_in rlQ hF; rw [stepG_cond (t := true) (by first | rfl | (simp [Act.eval]; omega))]; simp only [goes_go, if_true, if_false, Bool.false_eq_true, ↓reduceIte]; refine ⟨by u_nil, ?_⟩)
      u_reg rlQ hF
      u_op rlQ hF
      u_op rlQ hF
      u_op rlQ hF
      u_conv H.underlying_tPU32 H.room_tU32 (WK.cell1 hF).choose_spec rlQ hF
      (refine Goes.stop (fun wx hx => ?_); replace hF := rlQ hF hx; clear hx)
      refine Run.intro (.sync rfl (by simp) fun w₁ h₁ s hsh hp => ⟨_, w₁, _, .cr, s, stepG_markAt .write (by simp) rfl rfl (by k_ne) rfl H.f_raceWrite (x_raceWrite_n L) (x_raceWrite_b L) (x_raceWrite_x L) (x_raceWrite_f L) (ad := smA p.Wg) (by simp [Act.eval, smA]), .saidW, .refl _, hsh, .inl ⟨rfl, rfl⟩, ?_⟩)
      replace hF := rlQ hF h₁
      clear h₁ hsh hp
      change Run P p Pst false ⟨A, Rd, 1, .cr⟩ _ _
      walk_nrm
      refine Run.of_goes (n := 140) (by simp) ?_
      u_c stepG_region_end rlQ hF
      u_c stepG_seq rlQ hF
      u_reg rlQ hF
      u_op rlQ hF
      u_c stepG_region_end rlQ hF
      u_c stepG_seq rlQ hF
      u_c stepG_seq rlQ hF
      u_reg rlQ hF
      u_op rlQ hF
      u_op rlQ hF
      u_op rlQ hF
      u_op rlQ hF
      u_skip rlQ hF
      u_op rlQ hF
      u_c stepG_region_end rlQ hF
      (u_in rlQ hF; rw [stepG_cond (t := false) (by first | rfl | (simp [Act.eval]; omega))]; simp only [goes_go, if_true, if_false, Bool.false_eq_true, ↓reduceIte]; refine ⟨by u_nil, ?_⟩)
      u_c stepG_skip rlQ hF
      u_c stepG_seq rlQ hF
      u_reg rlQ hF
      u_op rlQ hF
      u_op rlQ hF
      u_op rlQ hF
      u_op rlQ hF
      (refine Goes.stop (fun wx hx => ?_); replace hF := rlQ hF hx; clear hx)
      refine Run.intro (.wait rfl rfl rfl fun w₁ h₁ s hsh hp => ⟨fun h0 => ?_, fun h1 => ?_⟩)
      · have hwg := hsh.wg
        rw [h0] at hwg
        exact stepG_semacquire_wait rfl rfl rfl H.f_semacquire (x_semacquire_n L) (x_semacquire_b L) (x_semacquire_x L) (x_semacquire_f L) (by simp [Act.eval, smA]) hwg.cellSm
      replace hF := rlQ hF h₁
      clear h₁
      have hs : s = ⟨0, 0, 1, false⟩ := by
        obtain ⟨v1, v2, v3, v4⟩ := s
        obtain ⟨x1, x2⟩ := hp
        simp only at x1 x2 h1
        subst x1 h1
        rcases x2 with ⟨_, x⟩ | ⟨x, y, _⟩
        · cases x
        · subst x y; rfl
      subst hs
      have hwg := hsh.wg
      obtain ⟨hsh', O⟩ := hsh.setSm 0 (x := ((1 : Nat) : Int) - 1) (by decide)
      refine ⟨_, _, stepG_semacquire rfl rfl (by k_ne) rfl H.f_semacquire (x_semacquire_n L) (x_semacquire_b L) (x_semacquire_x L) (x_semacquire_f L) (by simp [Act.eval, smA] <;> rfl) hwg.cellSm (by decide) (hwg.thaw 1), O, hsh', ?_⟩
      replace hF := hF.only hA O hsh'
      generalize w₁.setCell (smA p.Wg) (.int .u32 (((1 : Nat) : Int) - 1)) = w₂ at hF ⊢
      clear hsh hsh' O hwg hp h1
      change Run P p Pst false ⟨A, Rd, 1, .cs⟩ _ _
      walk_nrm
      refine Run.of_goes (n := 140) (by simp) ?_
      u_c stepG_region_end rlQ hF
      u_c stepG_seq rlQ hF
      u_reg rlQ hF
      u_op rlQ hF
      u_op rlQ hF
      u_op rlQ hF
      u_call H.f_uLoad (nm_uLoad L) uLoadFn rlQ hF
      u_c stepG_seq rlQ hF
      u_reg rlQ hF
      u_op rlQ hF
      u_c stepG_region_end rlQ hF
      u_c stepG_seq rlQ hF
      u_reg rlQ hF
      u_op rlQ hF
      u_op rlQ hF
      u_op rlQ hF
      (refine Goes.stop (fun wx hx => ?_); replace hF := rlQ hF hx; clear hx)
      refine Run.intro (.sync rfl (by simp) fun w₁ h₁ s hsh hp => ?_)
      replace hF := rlQ hF h₁
      clear h₁
      have hwg := hsh.wg
      have hs : s = ⟨0, 0, 0, false⟩ := by simpa [Poss] using hp
      subst hs
      simp only [KK, Int.ofNat_zero, Int.zero_mul, Int.zero_add, Int.cast_ofNat_Int, Int.natCast_zero] at hwg
      refine ⟨_, w₁, _, .cs, ⟨0, 0, 0, false⟩, stepG_load_atomic (v := 0) rfl rfl (by k_ne) rfl H.f_loadU64 (x_loadU64_n L) (x_loadU64_b L) (x_loadU64_x L) .u64 (x_loadU64_f L) rfl hwg.cellSt, .ld2, .refl _, hsh, .inl ⟨rfl, rfl⟩, ?_⟩
      clear hsh hp hwg
      change Run P p Pst false ⟨A, Rd, 1, .cs⟩ _ _
      walk_nrm
      refine Run.of_goes (n := 140) (by simp) ?_
      u_op rlQ hF
      u_c stepG_region_end rlQ hF
      u_c stepG_ret' rlQ hF
      u_leave1 H.f_uLoad rlQ hF
      u_op rlQ hF
      u_op rlQ hF
      u_c stepG_region_end rlQ hF
      u_c stepG_seq rlQ hF
      (u_in rlQ hF; rw [stepG_cond (t := true) (by first | rfl | (simp [Act.eval]; omega))]; simp only [goes_go, if_true, if_false, Bool.false_eq_true, ↓reduceIte]; refine ⟨by u_nil, ?_⟩)
      u_c stepG_seq rlQ hF
      u_reg rlQ hF
      (refine Goes.stop (fun wx hx => ?_); replace hF := rlQ hF hx; clear hx)
      refine Run.mark rfl (by simp) .enable (by simp [MarkOk]) (d' := 0) rfl (fun w₁ h₁ => stepG_mark0 .enable (by simp) rfl rfl (by k_ne) rfl H.f_enable (x_enable_n L) (x_enable_b L) (x_enable_x L) (x_enable_f L)) fun w₁ h₁ => ?_
      replace hF := rlQ hF h₁
      clear h₁
      walk_nrm
      refine Run.of_goes (n := 140) (by simp) ?_
      u_c stepG_region_end rlQ hF
      u_reg rlQ hF
      u_op rlQ hF
      u_conv H.underlying_tWgP H.room_tWg (WK.cell0 hF).choose_spec rlQ hF
      (refine Goes.stop (fun wx hx => ?_); replace hF := rlQ hF hx; clear hx)
      refine Run.mark rfl (by simp) (.acquire _) (by simp [MarkOk]) (d' := 0) rfl (fun w₁ h₁ => stepG_markAt .acquire (by simp) rfl rfl (by k_ne) rfl H.f_acquire (x_acquire_n L) (x_acquire_b L) (x_acquire_x L) (x_acquire_f L) (by simp [Act.eval] <;> rfl)) fun w₁ h₁ => ?_
      replace hF := rlQ hF h₁
      clear h₁
      walk_nrm
      refine Run.of_goes (n := 140) (by simp) ?_
      u_c stepG_region_end rlQ hF
      u_c stepG_seq rlQ hF
      u_c stepG_seq rlQ hF
      u_reg rlQ hF
      u_op rlQ hF
      u_c stepG_region_end rlQ hF
      (u_in rlQ hF; rw [stepG_cond (t := false) (by first | rfl | (simp [Act.eval]; omega))]; simp only [goes_go, if_true, if_false, Bool.false_eq_true, ↓reduceIte]; refine ⟨by u_nil, ?_⟩)
      u_c stepG_skip rlQ hF
      u_c stepG_ret' rlQ hF
      u_leave0 H.f_wait rlQ hF
      (refine Goes.stop (fun wx hx => ?_); replace hF := rlQ hF hx; clear hx)
      exact hT _ hF.2 hF.1
set_option maxRecDepth 100000 in
set_option maxHeartbeats 8000000 in
theorem wg_wait (H : WgLib P L) (hA : Apt p A Rd) (hn : p.n < 2147483647) (hlv : WgLv p w)
    (hT : ∀ w', Rely A Rd w w' → WgLv p w' → Run P p Pst false ⟨A, Rd, 0, .cs⟩ (G (b₀.at (a₀.put ((ops₀[i₀]?).bind (·.dst)) (.tuple #[])) (.inRegion ops₀ rest₀ :: k₀)) cs) w') :
    Run P p Pst false ⟨A, Rd, 0, .cw p.n⟩ (G ((base L.wait).at ⟨#[.pointer (some ⟨p.Wg, 0, none⟩)] ++ Array.replicate 83 undef, []⟩ [.code (body_wait L)]) (b₀.at a₀ (.inRegion ops₀ (i₀ :: rest₀) :: k₀) :: cs)) w := by
  lib_facts
  have hF : WK p A Rd w w := ⟨hlv, .refl w⟩
  refine Run.of_goes (n := 140) (by simp) ?_
  simp only [body_wait, waitFn, Option.getD_some]
  walk_nrm
  u_c stepG_seq rlQ hF
  (u_in rlQ hF; rw [stepG_cond (t := true) (by first | rfl | (simp [Act.eval]; omega))]; simp only [goes_go, if_true, if_false, Bool.false_eq_true, ↓reduceIte]; refine ⟨by u_nil, ?_⟩)
  u_reg rlQ hF
  (refine Goes.stop (fun wx hx => ?_); replace hF := rlQ hF hx; clear hx)
  refine Run.mark rfl (by simp) .disable (by simp [MarkOk]) (d' := 1) rfl (fun w₁ h₁ => stepG_mark0 .disable (by simp) rfl rfl (by k_ne) rfl H.f_disable (x_disable_n L) (x_disable_b L) (x_disable_x L) (x_disable_f L)) fun w₁ h₁ => ?_
  replace hF := rlQ hF h₁
  clear h₁
  walk_nrm
  refine Run.of_goes (n := 140) (by simp) ?_
  u_c stepG_region_end rlQ hF
  u_c stepG_block rlQ hF
  u_c stepG_loop rlQ hF
  (refine Goes.stop (fun wx hx => ?_); replace hF := rlQ hF hx; clear hx)
  exact wait_round H hA hn hT p.n (Nat.le_refl _) _ _ rfl rfl hF
end
end Go.Proofs.YtpdojmebloekgaaDoor.Nice.Co
namespace Go.Proofs.YtpdojmebloekgaaDoor.Nice.Co
open Go Go.Conc Go.Conc.Lib
open Go.ConcR (KK WgAt stA smA mk DC0)
set_option linter.unusedVariables false
set_option linter.unusedSimpArgs false
noncomputable def botP (P : Program) : Frame := { (default : Frame) with fn := P.funcs.size, defers := [], mode := .panicking [goexitEntry] }
theorem born_enter {P : Program} {f : FuncId} {fn : Func} {c : Code} (vs : Array Value) (hf : P.funcs[f]? = some fn) (hname : (fn.name == "runtime.NumGoroutine") = false) (hb : fn.body = some c) (w : World) :
    stepG P false (born P (goCall f vs)) w = .go (G ((baseD f).at ⟨vs ++ Array.replicate (fn.ntmps - vs.size) undef, []⟩ [.code c]) [botP P]) w #[] := by
  have h1 : ¬ fn.name = "runtime.NumGoroutine" := by simpa using hname
  rw [← enter_atD vs hf hb]
  simp [born, goCall, stepG, unwind, callDeferred, invoke, callFunc, hf, h1, hb, seen, GStep.after, G, botP]
theorem bot_quits {P : Program} {f : FuncId} {fn : Func} {T : Array Value} {todo : List Item} (hf : P.funcs[f]? = some fn) (hr : fn.results = #[]) : QuitsD P 2 0 (G { (baseD f).at ⟨T, []⟩ todo with mode := .returning } [botP P]) := by
  refine QuitsD.ctl (g' := G (botP P) []) rfl (fun w => ?_) ?_
  · simp [G, stepG, unwind, doReturn, results, Frame.at, baseD, botP, hf, hr, seen, GStep.after, goexitEntry]
  refine QuitsD.ctl (g' := { G (botP P) [] with status := .finished }) rfl (fun w => ?_) ⟨rfl, rfl⟩
  simp [G, stepG, unwind, botP, goexitEntry, Frame.catches]
  rfl
theorem hr_empty {A Rd : Blks} {M : Imm} {ρ : Names} {w : World} {h : Heap} (hh : ∀ n, h n = none) (hi : Holds M w) (hd : ∀ b, M b ≠ none → A b ∨ Rd b) : HR M (ext A Rd F0 w) ρ h w := by
  refine ⟨hi, fun b o hb => ?_, fun b o hb => ?_, fun n blk hn => ?_, fun n m x y hn => absurd (hh n) hn, fun n S es hn => ?_⟩
  · by_cases e : A b ∨ Rd b
    · rw [ext_in e] at hb; cases hb
    · rw [ext_out e] at hb; exact hb
  · refine Classical.byContradiction fun hc => ?_
    rw [ext_in (hd b hc)] at hb; cases hb
  · rw [hh n] at hn; cases hn
  · rw [hh n] at hn; cases hn
/-- At a function's head. -/
theorem sx_start {C : Ctx} {A Rd : Blks} {M : Imm} {w : World} (args : List SV) {vs : Array Value} (hsz : vs.size = args.length) (hn : args.length ≤ C.sz) (hargs : ∀ (i : Nat) (x : SV), args[i]? = some x → ∃ u, vs[i]? = some u ∧ VR M pin0 x u)
    (hf : Fit A Rd F0 M w) (hi : Holds M w) (hd : ∀ b, M b ≠ none → A b ∨ Rd b) (hG : ∀ g ρ, VR M ρ (C.G g) (.pointer (some ⟨g, 0, none⟩))) : SX C A Rd M [] pin0 0 (stOf (argT 0 args) []) ⟨vs ++ Array.replicate (C.sz - vs.size) undef, []⟩ w := by
  refine ⟨hf, ⟨fun k => ?_, by simp; omega, rfl, hr_empty (fun n => by simp [stOf, hOf]) hi hd, fun n x h => h, (fun n x h => by cases h), hG⟩, rfl, fun _ _ => rfl⟩
  show VR M pin0 (tOf (argT 0 args) k) _
  rw [tOf_argT]
  simp only [Nat.zero_le, if_true, Nat.sub_zero]
  rw [List.getD_eq_getElem?_getD]
  cases e : args[k]? with
  | none => exact .any _
  | some x =>
    obtain ⟨u, hu, hr⟩ := hargs k x e
    have hk := (Array.getElem?_eq_some_iff.1 hu).1
    have : (vs ++ Array.replicate (C.sz - vs.size) undef).getD k undef = u := by
      rw [Array.getD_eq_getD_getElem?, Array.getElem?_append_left hk, hu]; rfl
    rw [this]; exact hr
/-- A child, from its first step on. -/
theorem child_start {P : Program} {Gv : Nat → SV} {p : Pr} {Pst : Value → World → Prop} {f : FuncId} {fn : Func} {c : Code} {caps : List SV} {lo : Lo} {hl : lo ≠ .out} {hm : lo.mute = false} (hf : P.funcs[f]? = some fn) (hname : (fn.name == "runtime.NumGoroutine") = false) (hb : fn.body = some c) (hsz : caps.length ≤ fn.ntmps)
    (h : ∀ Rd M a w, SX ⟨P, fn.ntmps, 0, Gv⟩ no Rd M [] pin0 0 (stOf (argT 0 caps) []) a w → Shared Rd M w → (trRun P p Pst false Rd 0 lo hl hm).T no (G ((baseD f).at a [.code c]) [botP P]) w) : Child P Gv p Pst f caps lo := by
  intro Rd M w vs hG hsh hA hlv hvs hcap
  refine Run.intro (.own rfl hl fun w₁ h₁ => ⟨_, w₁, #[], born_enter vs hf hname hb w₁, fun _ => rfl, Guar.idle _, ?_⟩)
  rw [more_self]
  have hi₁ : Holds M w₁ := fun b o hbo => by rw [h₁.ry.keep b (.inr ((hsh.dom b).2 (by rw [hbo]; simp)))]; exact hsh.imm b o hbo
  have hs := sx_start (C := ⟨P, fn.ntmps, 0, Gv⟩) (A := no) (Rd := Rd) (M := M) (w := w₁) caps hvs hsz (fun i x hx => let ⟨u, a, b⟩ := hcap i x hx; ⟨u, a, b pin0⟩)
    ⟨fun b hb => absurd rfl hb, fun b hb => (hsh.dom b).1 hb, fun b hb => hb.elim⟩ hi₁ (fun b hb => .inr ((hsh.dom b).2 hb)) hG
  exact trRun.elim (h Rd M _ w₁ hs ⟨hsh.dom, hi₁⟩) hA (h₁.wg hlv)
/-- A callee that comes as data. -/
def fnOf : SV → SV
  | .d (.val (.func (.func f) first caps)) => if first = #[] ∧ caps = #[] then .fn f [] else .d (.val (.func (.func f) first caps))
  | x => x
theorem fnOf_rel {M : Imm} {ρ : Names} {x : SV} {u : Value} (h : VR M ρ x u) : VR M ρ (fnOf x) u := by
  unfold fnOf
  split
  · next f first caps =>
    split
    · next e =>
      obtain ⟨rfl, rfl⟩ := e
      cases h with
      | d _ _ h => cases h with
        | val _ _ => exact .fn f [] #[] (fun _ => undef) rfl (fun i hi => by simp at hi) fun i x hx => by simp at hx
    · exact h
  · exact h
theorem OpOK.mapv {C : Ctx} {o : Oper} {nm : Nat} {v v' : Operand → SV} {bs : List (Nat × Blk)} {RS : SV → List (Nat × Option Blk) → Prop} (hv : ∀ y M ρ u, VR M ρ (v y) u → VR M ρ (v' y) u) (h : OpOK C o nm v' bs RS) : OpOK C o nm v bs RS :=
  fun K A F M ρ a hp w h0 h1 h2 h3 h4 h5 => h K A F M ρ a hp w h0 (fun x hx => hv x _ _ _ (h1 x hx)) h2 h3 h4 h5
theorem c1d {C : Ctx} {ops : List Oper} {i : Nat} {o : Oper} {l : List Oper} {σ : St} {K : St → Prop} {x : Operand} {cargs : Array Operand} {tys : Array TypeId} {f : FuncId} {fn : Func} {args : List SV} {post : SV → List (Option Blk) → Prop}
    (hF : Spec C.P C.G f args [] post) (hg : o.guard = none) (hd : dstOK C o = true) (ho : o.op = .call { callee := .value x, args := cargs, argTypes := tys }) (hx : fnOf (opv C σ.t x) = .fn f []) (hf : C.P.funcs[f]? = some fn) (hfn : fnOK fn = true)
    (hargs : mapV (fun y => fnOf (opv C σ.t y)) cargs.toList ++ [] = renL [] args) (side : underL 0 args = true)
    (k : ∀ r hout, post r hout → wops C ops (i + 1) l (σ.app o.dst (ren (newNames (σ.nx + 8 * i) hout.length) r) (wrOf (newNames (σ.nx + 8 * i) hout.length) (newNames (σ.nx + 8 * i) hout.length) hout)) none K) : wops C ops i (o :: l) σ none K := by
  have hok := (call_ok (nm := σ.nx + 8 * i) (v := fun y => fnOf (opv C σ.t y)) ho hx hf hfn hF [] hargs (by simp [nodupB, hUnder, side])).mapv (v := opv C σ.t) (fun y M ρ u h => fnOf_rel h)
  unfold wops
  refine .inr ⟨rfl, hd, by simp [gOn, hg], _, _, hok, (by intro p hp; simp [bsOf] at hp), ?_⟩
  rintro u wr ⟨r, hout, π2, h1, rfl, rfl, rfl⟩
  simpa using k r hout h1
section
variable {C : Ctx} {Z : ZX} {ds : List Deferred} {σ : St} {ops : Array Oper} {i : Nat} {o : Oper} {Rd : Blks} {Pst : Value → World → Prop} {p : Pr} {x : Operand}
/-- crew.Wait(). -/
theorem RX_wait (hZ : Up Z) {L : WgLink} (H : WgLib C.P L) (ho : ops[i]? = some o) (hg : o.guard = none) {tys : Array TypeId} (hop : o.op = .call { callee := .value (.func L.wait), args := #[x], argTypes := tys }) (hx : opv C σ.t x = .d (.val (.pointer (some ⟨p.Wg, 0, none⟩))))
    (hd : (match o.dst with | none => true | some d => Nat.blt d C.sz) = true) (hn : p.n < 2147483647)
    {hl : Lo.cw p.n ≠ .out} {hm : (Lo.cw p.n).mute = false} {hl' : Lo.cs ≠ .out} {hm' : Lo.cs.mute = false}
    (h : RX C ops (i + 1) Z (trRun C.P p Pst false Rd 0 .cs hl' hm') ds (σ.app o.dst .any [])) : RX C ops i Z (trRun C.P p Pst false Rd 0 (.cw p.n) hl hm) ds σ := by
  refine RX_step ho fun A M ρ a w hs b k cs hb hz => trRun.intro fun hA w₁ h₁ hlv => ?_
  refine Run.intro (.own rfl (by simp) fun w₂ h₂ => ?_)
  have hs₂ := (hs.rely h₁).rely h₂.ry
  have hlv₂ := h₂.wg hlv
  have e1 := hs₂.val hx
  have hb' : (waitFn L).body.isNone = false := rfl
  have hrun : (execOp a.eval o).run C.P w₂ = .ok (.enter L.wait #[.pointer (some ⟨p.Wg, 0, none⟩)]) w₂ := by
    rw [run_call_body hop H.f_wait (Go.ConcR.Gen.nm_wait L) hb']
    simp [e1]
  have hev : (execOp a.eval o).events C.P w₂ #[] = #[] := events_call_body hop H.f_wait (Go.ConcR.Gen.nm_wait L) hb' _
  refine ⟨_, w₂, #[], (stepG_enter ho (wanted_none hg) hb hrun).trans (by unfold listed; rw [hev, seen_none]), fun _ => rfl, Guar.idle _, ?_⟩
  rw [more_self, enter_at _ H.f_wait (c := Go.ConcR.Gen.body_wait L) rfl]
  refine wg_wait H hA hn hlv₂ fun w' r hlv' => ?_
  have hT := h A M ρ (a.put o.dst (.tuple #[])) w' ((hs₂.rely r).put hd (.any _) (by show σ.nx + 8 * i ≤ σ.nx + 8 * (i + 1); omega)) b k cs hb (hZ _ _ _ _ _ _ _ hz (Imm.le_refl _) (h₁.same.trans (h₂.ry.same.trans r.same)))
  have e : (ops[i]?).bind (·.dst) = o.dst := by rw [ho]; rfl
  rw [e]
  exact hT hA w' (.refl _) hlv'
/-- The channel is closed; the closer leaves. -/
theorem RX_close (ho : ops[i]? = some o) (hg : o.guard = none) {tys : Array TypeId} (hop : o.op = .call { callee := .builtin .close, args := #[x], argTypes := tys }) (hx : opv C σ.t x = .d (.val (.chan (some p.Ch)))) {hl : Lo.cs ≠ .out} {hm : Lo.cs.mute = false}
    (hq : ∀ M w b k cs (a : Act), Z M w b k cs → a.defers = ds → (C.P.funcs[b.fn]?).any (·.norace) = false ∧ ∃ q, QuitsD C.P q 0 (G (b.at a (.inRegion ops (List.range' (i + 1) (ops.size - (i + 1))) :: k)) cs)) : RX C ops i Z (trRun C.P p Pst false Rd 0 .cs hl hm) ds σ := by
  refine RX_step ho fun A M ρ a w hs b k cs hb hz => trRun.intro fun hA w₁ h₁ hlv => ?_
  refine Run.intro (.sync rfl (by simp) fun w₂ h₂ s hsh hp => ?_)
  have hs₂ := (hs.rely h₁).rely h₂.ry
  have e1 := hs₂.val hx
  have hs0 : s = ⟨0, 0, 0, false⟩ := by simpa [Poss] using hp
  subst hs0
  obtain ⟨q0, hch⟩ := hsh.ch
  have hne := sh_ne hsh
  have hlt : p.Ch < w₂.heap.size := (Array.getElem?_eq_some_iff.1 hch).1
  obtain ⟨hnr, q, hQ⟩ := hq M w b k cs (a.put o.dst (.tuple #[])) hz (by cases o.dst <;> simp [Act.put, hs.df])
  have e1' := e1
  simp only [Act.eval, Array.getD_eq_getD_getElem?] at e1'
  have hrun : (execOp a.eval o).run C.P w₂ = .ok (.value (.tuple #[])) { w₂ with heap := w₂.heap.setIfInBounds p.Ch (.chan 0 #[] true q0 q0 false) } := by
    unfold execOp
    simp only [hop]
    simp [go_sem, e1', run_close_open _ _ hch]
  have hev : (execOp a.eval o).events C.P w₂ #[] = #[⟨.obj p.Ch, false, true⟩, ⟨.obj p.Ch, true, true⟩] := by
    unfold execOp
    simp only [hop]
    simp [go_sem, e1', events_close_open _ _ hch]
  have hl2 : listed C.P b.fn a o w₂ = #[⟨.obj p.Ch, false, true⟩, ⟨.obj p.Ch, true, true⟩] := by
    unfold listed
    rw [hev]
    exact seen_eq hnr (by intro e he f; simp at he; rcases he with rfl | rfl <;> simp)
  refine ⟨G (b.at (a.put o.dst (.tuple #[])) (.inRegion ops (List.range' (i + 1) (ops.size - (i + 1))) :: k)) cs, { w₂ with heap := w₂.heap.setIfInBounds p.Ch (.chan 0 #[] true q0 q0 false) }, _, .out, ⟨0, 0, 0, true⟩, (stepG_value ho (wanted_none hg) hb hrun).trans (by rw [hl2]), .close rfl, ⟨⟨rfl, rfl, rfl, by simp⟩, by simp, fun b _ hb => by simp [Array.getElem?_setIfInBounds_ne (fun e => hb e.symm)]⟩, ⟨?_, q0, by simp [hlt]⟩, .inr ?_, ?_⟩
  · have := hsh.wg
    unfold WgAt at this ⊢
    simpa [Array.getElem?_setIfInBounds_ne (fun e => hne e.symm)] using this
  · have ho' : (ops[i]?).map (·.op) = some (.call { callee := .builtin .close, args := #[x], argTypes := tys }) := by rw [ho]; simp [hop]
    simp [mayWake, G, Frame.at, ho']
  · exact Run.of_quits hQ
end
end Go.Proofs.YtpdojmebloekgaaDoor.Nice.Co
namespace Go.Proofs.YtpdojmebloekgaaDoor.Nice.Co
open Go Go.Conc Go.Conc.Lib Go.ConcR.Gen
open Go.ConcR (KK WgAt stA smA mk DC0)
set_option linter.unusedVariables false
set_option linter.unusedSimpArgs false
section
variable {C : Ctx} {ops : List Oper} {i : Nat} {o : Oper} {l : List Oper} {t : Nat → SV} {h h' : Heap} {nx : Nat} {K : St → Prop}
/-- A call of a function that comes as data. -/
theorem c1f {f : FuncId} {args : List SV} {r : SV} {hout : List (Option Blk)} (hF : Spec C.P C.G f args [] (fun r' ho => r' = r ∧ ho = hout)) {x : Operand} {cargs : Array Operand} {tys : Array TypeId} {fn : Func} {r' : SV}
    (π2 : List Nat) (d nm i' : Nat) (hi : i + 1 = i') (hnm : nx + 8 * i = nm) (hp : newNames nm hout.length = π2) (hg : o.guard = none) (hdst : o.dst = some d) (hd : Nat.blt d C.sz = true) (ho : o.op = .call { callee := .value x, args := cargs, argTypes := tys }) (hx : fnOf (opv C t x) = .fn f []) (hf : C.P.funcs[f]? = some fn) (hfn : fnOK fn = true)
    (hargs : mapV (fun y => fnOf (opv C t y)) cargs.toList ++ [] = renL [] args) (side : underL 0 args = true) (hr : (ren π2 r).hd = some r') (hw : wrHO h (wrOf π2 π2 hout) = some h')
    (k : wops C ops i' l ⟨upd t d r', h', nx⟩ none K) : wops C ops i (o :: l) ⟨t, h, nx⟩ none K := by
  subst hi; subst hnm; subst hp
  refine c1d (σ := ⟨t, h, nx⟩) hF hg (by unfold dstOK; rw [hdst]; exact hd) ho hx hf hfn hargs side ?_
  rintro r1 ho1 ⟨rfl, rfl⟩
  unfold St.app; rw [hdst, SV.hd_eq hr, wrHO_eq hw]; exact k
end
section
variable {C : Ctx} {A Rd : Blks} {M : Imm} {ds : List Deferred} {ρ : Names} {σ σ' : St} {a : Act} {w : World}
theorem SX.turn (ht : ∀ M F pin ρ a w, SR C M F pin ρ σ a w → ∃ M' ρ', M.le M' ∧ SR C M' F pin ρ' σ' a w) (h : SX C A Rd M ds ρ σ.nx σ a w) : ∃ M' ρ', M.le M' ∧ SX C A Rd M' ds ρ' σ'.nx σ' a w := by
  obtain ⟨M', ρ', h1, h2⟩ := ht M _ pin0 ρ ⟨a.tmps, []⟩ w ⟨h.sr, h.fr⟩
  exact ⟨M', ρ', h1, ⟨h.fit.fa, fun b hb => by
    obtain ⟨o, ho⟩ := Option.ne_none_iff_exists'.1 (h.fit.rm b hb)
    rw [h1 b o ho]; simp, h.fit.lt⟩, h2.toSR0, h.df, h2.fr⟩
/-- A block of one's own laid still. -/
theorem sr_freeze (s n len : Nat) {ty k L : Nat} {f : Nat → Nat → D} (hs : σ.t s = .sl n 0 len) (hn : σ.h n = some (.rows ty k L f)) (hl : len ≤ L) :
    ∀ M F pin ρ a w, SR C M F pin ρ σ a w → ∃ M' ρ', M.le M' ∧ SR C M' F pin ρ' ⟨upd σ.t s (.d (.vec k len f)), upd σ.h n none, σ.nx⟩ a w := by
  intro M F pin ρ a w hsr
  have hv := hsr.tm s
  rw [hs] at hv
  obtain ⟨M', g1, g2, g3⟩ := HR.still hsr.hr hn hl hv
  refine ⟨M', ρ, g1, ⟨⟨fun j => ?_, hsr.sz, hsr.df, g2, hsr.pn, hsr.pm, fun g ρ => (hsr.gl g ρ).mono g1 (Names.le_refl _)⟩, hsr.fr⟩⟩
  show VR M' ρ (upd σ.t s _ j) _
  rw [upd_eq]
  split
  · next e => subst e; exact g3
  · exact (hsr.tm j).mono g1 (Names.le_refl _)
theorem SX.freeze (h : SX C A Rd M ds ρ σ.nx σ a w) (s n len : Nat) {ty k L : Nat} {f : Nat → Nat → D} (hs : σ.t s = .sl n 0 len) (hn : σ.h n = some (.rows ty k L f)) (hl : len ≤ L) :
    ∃ M' ρ', M.le M' ∧ SX C A Rd M' ds ρ' (St.nx ⟨upd σ.t s (.d (.vec k len f)), upd σ.h n none, σ.nx⟩) ⟨upd σ.t s (.d (.vec k len f)), upd σ.h n none, σ.nx⟩ a w := h.turn (sr_freeze s n len hs hn hl)
theorem SX.sub {π : List Nat} {tl : List (Nat × SV)} {hl : List (Option Blk)} (h : SX C A Rd M ds ρ σ.nx σ a w) (hsub : Sub C π σ tl hl) : SX C A Rd M ds (back π ρ) (stOf tl hl).nx (stOf tl hl) a w := by
  have hr := hsub.rel h.sr
  exact ⟨h.fit, ⟨hr.tm, hr.sz, hr.df, hr.hr, (fun n x h => by cases h), hr.pm, hr.gl⟩, h.df, hr.fr⟩
end
theorem SX.le {nb nb' : Nat} {C : Ctx} {A Rd : Blks} {M : Imm} {ds : List Deferred} {ρ : Names} {σ : St} {a : Act} {w : World} (h : SX C A Rd M ds ρ nb σ a w) (hn : nb ≤ nb') : SX C A Rd M ds ρ nb' σ a w := ⟨h.fit, h.sr, h.df, fun n hn' => h.fr n (by omega)⟩
theorem RX.run {C : Ctx} {ops : Array Oper} {i : Nat} {Z : ZX} {K : Tr C.P} {ds : List Deferred} {σ : St} {A : Blks} {M : Imm} {ρ : Names} {a : Act} {w : World} {b : Frame} {k : List Item} {cs : List Frame} {nb : Nat} (h : RX C ops i Z K ds σ) (hs : SX C A K.Rd M ds ρ nb σ a w) (hn : nb ≤ σ.nx + 8 * i) (hb : b.kind ≠ .early) (hz : Z M w b k cs) :
    K.T A (G (b.at a (.inRegion ops (List.range' i (ops.size - i)) :: k)) cs) w := h A M ρ a w (hs.le hn) b k cs hb hz
theorem SX.bump {C : Ctx} {A Rd : Blks} {M : Imm} {ds : List Deferred} {ρ : Names} {nb : Nat} {σ : St} {a : Act} {w : World} (h : SX C A Rd M ds ρ nb σ a w) : SX C A Rd M ds ρ (St.nx ⟨σ.t, σ.h, nb⟩) ⟨σ.t, σ.h, nb⟩ a w := ⟨h.fit, ⟨h.sr.tm, h.sr.sz, h.sr.df, h.sr.hr, h.sr.pn, h.sr.pm, h.sr.gl⟩, h.df, h.fr⟩
/-- This very frame. -/
def ZB (P : Program) (f : FuncId) (k0 : List Item) : ZX := fun _ _ b k cs => b = baseD f ∧ cs = [botP P] ∧ k = k0
theorem ZB.up {P : Program} {f : FuncId} {k0 : List Item} : Up (ZB P f k0) := fun _ _ _ _ _ _ _ h _ _ => h
/-- A value of data alone. -/
def SV.flat : SV → Bool
  | .agg xs => xs.all SV.dataB
  | x => SV.dataB x
theorem VR.flat {M : Imm} {ρ ρ' : Names} {x : SV} {u : Value} (h : VR M ρ x u) (hx : SV.flat x = true) : VR M ρ' x u := by
  cases h with
  | agg xs vs g hs hg hr =>
    refine .agg xs vs g hs hg fun i y hy => VR.other (hr i y hy) ?_
    simp only [SV.flat, List.all_eq_true] at hx
    exact hx y (List.mem_of_getElem? hy)
  | any => exact .any _
  | d _ _ h => exact .d _ _ h
  | vp k len f i c b o cur T fz g hb hg hr => exact .vp k len f i c b o cur T fz g hb hg hr
  | _ => simp [SV.flat, SV.dataB] at hx
section
variable {C : Ctx} {Z : ZX} {ds : List Deferred} {σ : St} {ops : Array Oper} {i : Nat} {o : Oper} {Rd : Blks} {Pst : Value → World → Prop} {p : Pr} {x y : Operand}
/-- A worker tells. -/
theorem RX_send (ho : ops[i]? = some o) (hg : o.guard = none) (hop : o.op = .send x y) (hx : opv C σ.t x = .d (.val (.chan (some p.Ch)))) {T : SV} (hy : opv C σ.t y = T) (hT : SV.flat T = true) {k : Nat} (hTell : ∀ M v, (∀ ρ, VR M ρ T v) → p.Tell k M v)
    {hl : Lo.wk k ≠ .out} {hm : (Lo.wk k).mute = false}
    (hq : ∀ M w b kk cs (a : Act), Z M w b kk cs → a.defers = ds → ∀ w₁, WgLv p w₁ → Run C.P p Pst false ⟨no, no, 0, .told⟩ (G (b.at a (.inRegion ops (List.range' (i + 1) (ops.size - (i + 1))) :: kk)) cs) w₁) : RX C ops i Z (trRun C.P p Pst false Rd 0 (.wk k) hl hm) ds σ := by
  refine RX_step ho fun A M ρ a w hs b kk cs hb hz => trRun.intro fun hA w₁ h₁ hlv => ?_
  have hs₁ := hs.rely h₁
  have e1 := hs₁.val hx
  have hv := hs₁.op y
  rw [hy] at hv
  refine Run.intro (.send rfl rfl k rfl rfl (G (b.at a (.inRegion ops (i :: List.range' (i + 1) (ops.size - (i + 1))) :: kk)) cs) (a.eval y) (.tuple #[]) M (fun b hb => hs₁.domM hb) hs₁.sr.hr.imm (hTell M _ fun ρ' => VR.flat hv hT) (fun w₂ h₂ => ?_) fun w₂ hlv₂ => ?_)
  · have hrun : (execOp a.eval o).run C.P w₂ = .ok (.comm #[scase p.Ch (a.eval y) (.tuple #[])] true .send) w₂ := by
      simp [execOp, hop, e1, scase]
    have hev : (execOp a.eval o).events C.P w₂ #[] = #[] := by simp [execOp, hop, e1]
    rw [stepG_comm ho (wanted_none hg) hb hrun]
    unfold listed
    rw [hev, seen_none]
  · rw [served_G ho]
    exact hq M w b kk cs _ hz (by cases o.dst <;> simp [Act.put, hs.df]) w₂ hlv₂
/-- Behind its telling a worker leaves. -/
theorem worker_tail {P : Program} {L : WgLink} (H : WgLib P L) (hn : p.n < 2147483647) {f : FuncId} {fn : Func} (hf : P.funcs[f]? = some fn) (hr : fn.results = #[]) {T : Array Value} {w : World} (hlv : WgLv p w) :
    Run P p Pst false ⟨no, no, 0, .told⟩ (G ((baseD f).at ⟨T, [dcall L.done #[.pointer (some ⟨p.Wg, 0, none⟩)]]⟩ [.inRegion ops []]) [botP P]) w := by
  have hF : WK p no no w w := ⟨hlv, .refl w⟩
  refine Run.of_goes (n := 10) (by simp) ?_
  u_c stepG_region_end rlQ hF
  u_c stepG_end rlQ hF
  u_in rlQ hF
  rw [stepG_unwind_enter rfl H.f_done (nm_done L) rfl]
  simp only [goes_go]
  refine ⟨by u_nil, ?_⟩
  (refine Goes.stop (fun wx hx => ?_); replace hF := rlQ hF hx; clear hx)
  exact wg_done H hn rfl (bot_quits hf hr) hF.1
end
/-- A cell of one's own laid still: from now on it is read as data. -/
theorem HR.cstill {M F : Imm} {ρ : Names} {h : Heap} {w : World} (hH : HR M F ρ h w) {n ty : Nat} {x : SV} {X : D} (hn : h n = some (.cells ty 1 [x])) (hx : ∀ M ρ v, VR M ρ x v → DR M X v) {v : Value} (hv : VR M ρ (.ptr n 0 0) v) :
    ∃ M', M.le M' ∧ HR M' F ρ (upd h n none) w ∧ VR M' ρ (.vp 1 1 (fun _ _ => X) 0 0) v := by
  cases hv with
  | ptr _ _ _ y hy =>
    obtain ⟨y', hy', hr⟩ := hH.live n _ hn
    rw [hy] at hy'; obtain rfl := Option.some.inj hy'
    rcases hr with ⟨_, hg⟩ | ⟨h0, hM, hF, o, h3, h4⟩
    · simp [Blk.ghost] at hg
    cases o with
    | cells cur T fz =>
      obtain ⟨rfl, rfl, g1, g2, g3, g4⟩ := h4
      let M' : Imm := fun b => if b = y.b then some (.cells cur T (0, 0)) else M b
      have hle : M.le M' := by
        intro b o hb
        have : b ≠ y.b := by rintro rfl; rw [hM] at hb; cases hb
        simp [M', this, hb]
      obtain ⟨u, hu, hur⟩ := g4 0 x rfl
      refine ⟨M', hle, hH.stills hle (fun m b hm => ?_) ?_ ?_ (fun m b z hm hz q0 => ?_) (fun m S es hm b hb => ?_), ?_⟩
      · rw [upd_eq] at hm; split at hm
        · cases hm
        · exact hm
      · intro b o hb
        by_cases e : b = y.b
        · subst e; simp [M'] at hb; subst hb; exact h3
        · simp [M', e] at hb; exact hH.imm b o hb
      · intro b o hb
        have : b ≠ y.b := by rintro rfl; rw [hF] at hb; cases hb
        simp [M', this]; exact hH.dis b o hb
      · rw [upd_eq] at hm; split at hm
        · cases hm
        · next e =>
          obtain ⟨z', hz', hr⟩ := hH.live m b hm
          rw [hz] at hz'; obtain rfl := Option.some.inj hz'
          have : z.b ≠ y.b := fun hb => e (hH.sep m n z y (by rw [hm]; simp) (by rw [hn]; simp) hz hy q0 h0 hb)
          rcases hr with ⟨h00, _⟩ | ⟨_, q1, _⟩
          · omega
          · simp [M', this, q1]
      · rw [upd_eq] at hm; split at hm
        · cases hm
        · obtain ⟨_, _, _, g1, g2, _⟩ := hH.fam m S es hm
          have : b ≠ y.b := fun e => g2 n y (by rw [hn]; simp) hy h0 (e ▸ hb)
          simp [M', this, (g1 b hb).1]
      · rw [g1]
        exact .vp 1 1 (fun _ _ => X) 0 0 y.b 0 cur T (0, 0) (fun _ _ => u) (by simp [M']) (fun i c hi hc => by
          have e1 : i = 0 := by omega
          have e2 : c = 0 := by omega
          subst e1 e2; exact hu) (fun i c hi hc => (hx _ _ _ hur).mono hle)
    | _ => exact h4.elim
theorem sr_cfreeze {C : Ctx} {σ : St} (s n : Nat) {ty : Nat} {x : SV} (X : D) (hs : σ.t s = .ptr n 0 0) (hn : σ.h n = some (.cells ty 1 [x])) (hx : ∀ M ρ v, VR M ρ x v → DR M X v) :
    ∀ M F pin ρ a w, SR C M F pin ρ σ a w → ∃ M' ρ', M.le M' ∧ SR C M' F pin ρ' ⟨upd σ.t s (.vp 1 1 (fun _ _ => X) 0 0), upd σ.h n none, σ.nx⟩ a w := by
  intro M F pin ρ a w hsr
  have hv := hsr.tm s
  rw [hs] at hv
  obtain ⟨M', g1, g2, g3⟩ := HR.cstill hsr.hr hn hx hv
  refine ⟨M', ρ, g1, ⟨⟨fun j => ?_, hsr.sz, hsr.df, g2, hsr.pn, hsr.pm, fun g ρ => (hsr.gl g ρ).mono g1 (Names.le_refl _)⟩, hsr.fr⟩⟩
  show VR M' ρ (upd σ.t s _ j) _
  rw [upd_eq]
  split
  · next e => subst e; exact g3
  · exact (hsr.tm j).mono g1 (Names.le_refl _)
theorem dr_of_d {X : D} : ∀ M ρ v, VR M ρ (.d X) v → DR M X v := fun M ρ v h => by cases h with | d _ _ h => exact h
theorem dr_of_fn {f : FuncId} : ∀ M ρ v, VR M ρ (.fn f []) v → DR M (.val (.func (.func f) #[] #[])) v := fun M ρ v h => by
  cases h with
  | fn _ _ vs g hs hg hr =>
    have : vs = #[] := Array.eq_empty_of_size_eq_zero (by simpa using hs)
    subst this
    exact .val _ rfl
section
variable {C : Ctx} {Q : QX C.P} {K : Tr C.P} {ds : List Deferred} {t : Nat → SV} {h : Heap} {nx : Nat} {c : Code}
theorem WX_cfreeze (s n : Nat) {ty : Nat} {x : SV} (X : D) (hs : t s = .ptr n 0 0) (hn : h n = some (.cells ty 1 [x])) (hx : ∀ M ρ v, VR M ρ x v → DR M X v) (k : WX C c Q K ds ⟨upd t s (.vp 1 1 (fun _ _ => X) 0 0), upd h n none, nx⟩) : WX C c Q K ds ⟨t, h, nx⟩ :=
  WX_turn (sr_cfreeze (σ := ⟨t, h, nx⟩) s n X hs hn hx) k
end
section
variable {C : Ctx} {Q : QX C.P} {K : Tr C.P} {ds : List Deferred} {σ : St} {id : Nat} {ops : Array Oper} {y : Code}
theorem x1 (k : wops C ops.toList 0 ops.toList σ none (fun σ' => WX C y Q K [] σ')) : WX C (.seq (.region id ops false) y) Q K [] σ :=
  WX_seq (WX_of (Q0 := fun e σ' => thenX (WX C y Q) Q e K [] σ') (W_region k) fun _ _ h => h)
theorem x0 (k : wops C ops.toList 0 ops.toList σ none (fun σ' => Q .normal K [] σ')) : WX C (.region id ops false) Q K [] σ :=
  WX_of (Q0 := fun e σ' => Q e K [] σ') (W_region k) fun _ _ h => h
theorem xd0 (hm : C.P.follows .mixedOrders = true) (k : wops C ops.toList 0 ops.toList σ (some []) (fun σ' => Q .normal K [] σ')) : WX C (.region id ops true) Q K [] σ :=
  WX_of (Q0 := fun e σ' => Q e K [] σ') (W_region_draw hm k) fun _ _ h => h
theorem xX1 (k : RX C ops 0 (PZ C (thenX (WX C y Q) Q)) K ds σ) : WX C (.seq (.region id ops false) y) Q K ds σ := WX_seq (RX_region k)
theorem xX0 (k : RX C ops 0 (PZ C Q) K ds σ) : WX C (.region id ops false) Q K ds σ := RX_region k
theorem xtn {P : Program} {R : Tr P → List Deferred → St → Prop} {Q : QX P} {K : Tr P} {ds : List Deferred} {σ : St} (k : R K ds σ) : thenX R Q .normal K ds σ := k
theorem xbn {P : Program} {id : Nat} {Q : QX P} {K : Tr P} {ds : List Deferred} {σ : St} (k : Q .normal K ds σ) : inBlockX id Q .normal K ds σ := k
theorem xbo {P : Program} {id : Nat} {Q : QX P} {K : Tr P} {ds : List Deferred} {σ : St} (k : Q .normal K ds σ) : inBlockX id Q (.exit id) K ds σ := by simp [inBlockX, k]
theorem xtx {P : Program} {id : Nat} {R : Tr P → List Deferred → St → Prop} {Q : QX P} {K : Tr P} {ds : List Deferred} {σ : St} (k : Q (.exit id) K ds σ) : thenX R Q (.exit id) K ds σ := k
end
section
variable {C : Ctx} {Q : QX C.P} {K : Tr C.P} {ds : List Deferred} {t : Nat → SV} {h : Heap} {nx : Nat} {c : Code}
theorem WX_rowsc (n L' : Nat) (g : Nat → Nat → D) {ty k L : Nat} {f : Nat → Nat → D} (hn : h n = some (.rows ty k L f)) (hl : L = L') (hf : ∀ i c, i < L → c < k → f i c = g i c) (kk : WX C c Q K ds ⟨t, upd h n (some (.rows ty k L' g)), nx⟩) : WX C c Q K ds ⟨t, h, nx⟩ := by
  subst hl
  refine WX_turn (fun M F pin ρ a w hsr => ?_) kk
  refine ⟨M, ρ, Imm.le_refl _, ⟨⟨hsr.tm, hsr.sz, hsr.df, ?_, hsr.pn, hsr.pm, hsr.gl⟩, hsr.fr⟩⟩
  refine hsr.hr.swap n hn (fun x obj hb => ?_) (fun h => by cases L with | zero => rfl | succ L => cases h)
  cases obj with
  | cells cur T fz =>
    obtain ⟨h1, h2, h3, h4, h5, h6⟩ := hb
    exact ⟨h1, h2, h3, h4, h5, fun i c hi hc => by rw [← hf i c hi hc]; exact h6 i c hi hc⟩
  | _ => exact hb.elim
end
section
variable {C : Ctx} {Q : QX C.P} {K : Tr C.P} {ds : List Deferred} {c : Code}
theorem WX_keep {t : Nat → SV} {h : Heap} {nx : Nat} (ks : List Nat) {l : List (Nat × SV)} (e : keepO t ks = some l) (k : WX C c Q K ds ⟨tOf l, h, nx⟩) : WX C c Q K ds ⟨t, h, nx⟩ := by
  refine WX_turn (fun M F pin ρ a w hs => ?_) k
  refine ⟨M, ρ, Imm.le_refl _, ⟨⟨fun n => ?_, hs.sz, hs.df, hs.hr, hs.pn, hs.pm, hs.gl⟩, hs.fr⟩⟩
  rcases keepO_sub e n with h | h
  · show VR M ρ (tOf l n) _; rw [h]; exact .any _
  · show VR M ρ (tOf l n) _; rw [h]; exact hs.tm n
end
/-- How many of the first m are not in the list. -/
def miss (J : List Nat) : Nat → Nat
  | 0 => 0
  | m + 1 => miss J m + if m ∈ J then 0 else 1
theorem miss_le (k : Nat) (J : List Nat) : ∀ m, miss (k :: J) m ≤ miss J m
  | 0 => Nat.le_refl _
  | m + 1 => by
    have := miss_le k J m
    simp only [miss, List.mem_cons]
    by_cases h : m ∈ J
    · simp [h]; exact this
    · by_cases e : m = k
      · subst e; simp [h]; omega
      · simp [h, e]; exact this
theorem miss_lt {k : Nat} {J : List Nat} (hk : k ∉ J) : ∀ {m : Nat}, k < m → miss (k :: J) m < miss J m
  | 0, h => by omega
  | m + 1, h => by
    simp only [miss, List.mem_cons]
    by_cases e : m = k
    · subst e
      have := miss_le m J m
      simp [hk]; omega
    · have := miss_lt hk (m := m) (by omega)
      by_cases h2 : m ∈ J
      · simp [h2]; exact this
      · simp [h2, e]; exact this
end Go.Proofs.YtpdojmebloekgaaDoor.Nice.Co
namespace Go.Proofs.YtpdojmebloekgaaDoor.Nice.Co
open Go Go.Conc
set_option linter.unusedVariables false
set_option linter.unusedSimpArgs false
/-- It hangs on no block of one's own. -/
def Free (r : SV) : Prop := ∀ M ρ ρ' u, VR M ρ r u → VR M ρ' r u
theorem free_data {r : SV} (h : SV.dataB r = true) : Free r := fun M ρ ρ' u hv => VR.other hv h
theorem free_tup {xs : List SV} (h : ∀ x, x ∈ xs → Free x) : Free (.tup xs) := fun M ρ ρ' u hv => by
  cases hv with
  | tup _ vs g hs hg hr => exact .tup xs vs g hs hg fun i y hy => h y (List.mem_of_getElem? hy) _ _ _ _ (hr i y hy)
theorem free_two {x y : SV} (h : Free x) (k : Free y) : Free (.tup [x, y]) := free_tup fun z hz => by
  simp at hz
  rcases hz with rfl | rfl
  · exact h
  · exact k
/-- Such a function, called with data, goes on to return, maybe as another. -/
def SpecX (P : Program) (Gv : Nat → SV) (f : FuncId) (args : List SV) (K : Tr P) (post : Tr P → SV → Prop) : Prop :=
  ∀ A M (vs : Array Value) w, Fit A K.Rd F0 M w → (∀ g ρ, VR M ρ (Gv g) (.pointer (some ⟨g, 0, none⟩))) → Holds M w → (∀ b, M b ≠ none → A b ∨ K.Rd b) → vs.size = args.length →
    (∀ (i : Nat) (x : SV), args[i]? = some x → ∃ u, vs[i]? = some u ∧ VR M pin0 x u) →
    ∀ c cs, (∀ (K' : Tr P) A' M' r u w', M.le M' → Same w w' → Fit A' K'.Rd F0 M' w' → Holds M' w' → (∀ b, M' b ≠ none → A' b ∨ K'.Rd b) → VR M' pin0 r u → Free r → post K' r → K'.T A' (G (Frame.finish c u) cs) w') →
      K.T A (G (Frame.enter P f vs .normal) (c :: cs)) w
theorem SpecX.mono {P : Program} {Gv : Nat → SV} {f : FuncId} {args : List SV} {K : Tr P} {post post' : Tr P → SV → Prop} (h : SpecX P Gv f args K post) (hp : ∀ K r, post K r → post' K r) : SpecX P Gv f args K post' :=
  fun A M vs w h0 h1 h2 h3 h4 h5 c cs hk => h A M vs w h0 h1 h2 h3 h4 h5 c cs fun K' A' M' r u w' k1 k2 k3 k4 k5 k6 k7 k8 => hk K' A' M' r u w' k1 k2 k3 k4 k5 k6 k7 (hp _ _ k8)
def outQX (C : Ctx) (fn : Func) (post : Tr C.P → SV → Prop) : QX C.P
  | .ret, K, ds, σ | .normal, K, ds, σ => ds = [] ∧ ∃ r, RetIs C fn σ r ∧ Free r ∧ post K r
  | _, _, _, _ => False
theorem SX.holds {C : Ctx} {A Rd : Blks} {M : Imm} {ds : List Deferred} {ρ : Names} {nb : Nat} {σ : St} {a : Act} {w : World} (h : SX C A Rd M ds ρ nb σ a w) : Holds M w := h.sr.hr.imm
theorem ret_step {P : Program} {K : Tr P} {C : Ctx} (hP : C.P = P) {A : Blks} {M : Imm} {ρ : Names} {σ : St} {a : Act} {w w₁ : World} {fn : Func} {r : SV} (hs : SX C A K.Rd M [] ρ σ.nx σ a w) (hr : RetIs C fn σ r) (hfr : Free r) (h₁ : Rely A K.Rd w w₁) :
    ∃ u, (results fn a.tmps).run P w₁ = .ok u w₁ ∧ VR M pin0 r u ∧ ∀ e, e ∈ (results fn a.tmps).events P w₁ #[] → EvOk A K.Rd e := by
  subst hP
  have hs1 := (hs.rely h₁).toSC
  obtain ⟨⟨u, hru, hv⟩, hev⟩ := hr M _ pin0 ρ a w₁ hs1.sr
  exact ⟨u, hru, hfr _ _ _ _ hv, fun e he => (hev e he).ok hs1.sr.hr hs1.fit⟩
theorem fnx_intro {P : Program} {Gv : Nat → SV} {f : FuncId} {fn : Func} {c : Code} {args : List SV} {K : Tr P} {post : Tr P → SV → Prop} (hf : P.funcs[f]? = some fn) (hb : fn.body = some c) (hn : Nat.ble args.length fn.ntmps = true)
    (h : WX ⟨P, fn.ntmps, 0, Gv⟩ c (outQX ⟨P, fn.ntmps, 0, Gv⟩ fn post) K [] (stOf (argT 0 args) [])) : SpecX P Gv f args K post := by
  intro A M vs w hfit hG hi hd hsz hargs fc cs hk
  rw [enter_at vs hf hb]
  have hs := sx_start (C := ⟨P, fn.ntmps, 0, Gv⟩) (A := A) (Rd := K.Rd) args hsz (Nat.le_of_ble_eq_true hn) hargs hfit hi hd hG
  refine h A M pin0 _ w hs (base f) [] (fc :: cs) (by intro h; cases h) ?_
  intro e K' ds A' M' ρ' σ' a' w' h1 h2 h3 h5
  have fin : ds = [] ∧ (∃ r, RetIs ⟨P, fn.ntmps, 0, Gv⟩ fn σ' r ∧ Free r ∧ post K' r) → ∀ todo, K'.T A' (G { (base f).at a' todo with mode := .returning } (fc :: cs)) w' := by
    rintro ⟨rfl, r, hr, hfree, hp⟩ todo
    refine K'.step A' _ w' rfl fun w₁ h₁ => ?_
    obtain ⟨u, hru, hv, hev⟩ := ret_step (C := ⟨P, fn.ntmps, 0, Gv⟩) rfl h3 hr hfree h₁
    have hs1 := h3.rely h₁
    obtain ⟨es, e1, e2⟩ := stepG_leaveE (main := K'.main) (b := base f) (todo := todo) (c := fc) (cs := cs) rfl hs1.df hf hru
    refine ⟨_, w₁, es, e1, ⟨.refl _, fun _ _ _ => rfl, fun e he => hev e (e2 e he)⟩, ?_⟩
    rw [more_self]
    exact hk K' A' M' r u w₁ h1 (h2.trans h₁.same) hs1.fit hs1.holds (fun b hb => hs1.domM hb) hv hfree hp
  cases e with
  | normal => exact K'.idle rfl (fun _ => stepG_end) (fin h5 [])
  | ret => exact fin h5
  | _ => exact h5.elim
section
variable {C : Ctx} {Z : ZX} {ds : List Deferred} {σ : St} {ops : Array Oper} {i : Nat} {o : Oper} {K : Tr C.P} {x : Operand}
/-- The call of such a function. -/
theorem RX_call (hZ : Up Z) (ho : ops[i]? = some o) (hg : o.guard = none) {f : FuncId} {fn : Func} {cargs : Array Operand} {tys : Array TypeId} (hop : o.op = .call { callee := .value x, args := cargs, argTypes := tys }) (hx : opv C σ.t x = .fn f []) (hf : C.P.funcs[f]? = some fn) (hfn : fnOK fn = true)
    {args : List SV} {post : Tr C.P → SV → Prop} (hF : SpecX C.P C.G f args K post) (hargs : mapV (opv C σ.t) cargs.toList = args) (hfree : ∀ y, y ∈ args → Free y) (hh : ∀ n, σ.h n = none) (hd : (match o.dst with | none => true | some d => Nat.blt d C.sz) = true)
    (h : ∀ (K' : Tr C.P) r, post K' r → RX C ops (i + 1) Z K' ds (σ.app o.dst r [])) : RX C ops i Z K ds σ := by
  refine RX_step ho fun A M ρ a w hs b k cs hb hz => ?_
  refine K.step A _ w rfl fun w₁ h₁ => ?_
  have hs₁ := hs.rely h₁
  have hvx := hs₁.op x
  rw [hx] at hvx
  obtain ⟨vs, hq, hvs, hvr⟩ := fn_case hvx
  have hvs0 : vs = #[] := Array.eq_empty_of_size_eq_zero (by simpa using hvs)
  subst hvs0
  have hrel := mapV_rel (M := M) (ρ := ρ) (a := a) (v := opv C σ.t) (xs := cargs) (fun y hy => hs₁.op y)
  obtain ⟨hrun, hev⟩ := run_enter (P := C.P) (w := w₁) (a := a) hop hq hf hfn
  have hl : listed C.P b.fn a o w₁ = #[] := by unfold listed; rw [hev]; exact seen_none _ _
  refine ⟨_, w₁, #[], (stepG_enter ho (wanted_none hg) hb hrun).trans (by rw [hl]), Guar.idle w₁, ?_⟩
  rw [more_self]
  subst hargs
  refine hF A M (cargs.map a.eval ++ #[]) w₁ hs₁.fit hs₁.sr.gl hs₁.holds (fun b hb => hs₁.domM hb) (by simp [mapV_length]) (fun j y hy => ?_) _ cs ?_
  · obtain ⟨u, u1, u2⟩ := hrel.2 j y hy
    exact ⟨u, by simpa using u1, hfree y (List.mem_of_getElem? hy) _ _ _ _ u2⟩
  · intro K' A' M' r u w' k1 k2 k3 k4 k5 k6 k7 k8
    rw [Frame.finish_at, ho]
    refine h K' r k8 A' M' ρ (a.put o.dst u) w' ?_ b k cs hb (hZ _ _ _ _ _ _ _ hz k1 (h₁.same.trans k2))
    have hd' : (match o.dst with | none => true | some d => Nat.blt d C.sz) = true := hd
    refine SX.app (wr := []) (A' := A') (Rd' := K'.Rd) (nb' := σ.nx + 8 * (i + 1)) hs₁ hd' k3 k1 (Names.le_refl _) (k7 _ _ _ _ k6) (hr_empty hh k4 k5) (fun n hn => hs₁.fr n (by omega))
end
/-- It may return. -/
def Ends {P : Program} (Pst : Value → World → Prop) (K : Tr P) : Prop :=
  ∀ A g w, g.status = .running → (∀ w₁, Rely A K.Rd w w₁ → ∃ v es, stepG P true g w₁ = .ended (.done v) w₁ es ∧ (∀ e, e ∈ es → EvOk A K.Rd e) ∧ Pst v w₁) → K.T A g w
theorem ends_pre {P : Program} {Pst : Value → World → Prop} {Rd : Blks} {ps : Ps} : Ends Pst (trPre P Pst Rd ps) := fun A g w hs h => PreT.intro (.ret hs h)
theorem ends_fin {P : Program} {p : Pr} {Pst : Value → World → Prop} {Rd : Blks} {hl : Lo.fin ≠ .out} {hm : Lo.fin.mute = false} : Ends Pst (trRun P p Pst true Rd 0 .fin hl hm) :=
  fun A g w hs h => trRun.intro fun hA w₁ h₁ hlv => Run.intro (.ret hs rfl rfl fun w₂ h₂ => h w₂ (h₁.trans h₂.ry))
theorem stepG_lastE {P : Program} {b : Frame} {a : Act} {w : World} {fn : Func} {todo : List Item} {v : Value} (hn : b.kind = .normal) (hd : a.defers = []) (hf : P.funcs[b.fn]? = some fn) (hni : P.inits.idxOf? b.fn = none)
    (hr : (results fn a.tmps).run P w = .ok v w) : ∃ es, stepG P true (G { b.at a todo with mode := .returning } []) w = .ended (.done v) w es ∧ ∀ e, e ∈ es → e ∈ (results fn a.tmps).events P w #[] := by
  simp [G, stepG, unwind, doReturn, Frame.at, hn, hd, hf, hr, GStep.after, hni]
  first
    | exact fun e he => mem_seen he
    | exact ⟨_, rfl, fun e he => mem_seen he⟩
/-- A law's whole run: from its head to its return. -/
theorem lawX_run {P : Program} {Gv : Nat → SV} {f : FuncId} {fn : Func} {c : Code} {args : List SV} {v : Value} (hf : P.funcs[f]? = some fn) (hb : fn.body = some c) (hn : Nat.ble args.length fn.ntmps = true) (hni : P.inits.idxOf? f = none) {w : World} {vs : Array Value} (hsz : vs.size = args.length)
    (hG : ∀ g ρ, VR (fun b => w.heap[b]?) ρ (Gv g) (.pointer (some ⟨g, 0, none⟩))) (hargs : ∀ (i : Nat) (x : SV), args[i]? = some x → ∃ u, vs[i]? = some u ∧ VR (fun b => w.heap[b]?) (fun _ => none) x u)
    (h : ∀ Pst : Value → World → Prop, WX ⟨P, fn.ntmps, 0, Gv⟩ c (outQX ⟨P, fn.ntmps, 0, Gv⟩ fn (fun K r => r = .d (.val v) ∧ Ends Pst K)) (trPre P Pst (fun b => b < w.heap.size) .p0) [] (stOf (argT 0 args) [])) :
    ∃ N last o w' t', runNT P (N + 1) (solo (G (Frame.enter P f vs .normal) []) w) #[] = (.ended o w', t') ∧ runN P N (solo (G (Frame.enter P f vs .normal) []) w) = .next last ∧ Go.step P last = .ended o w' ∧
      Go.Conc.Good P (fun u w' => u = v ∧ RowKit.Below w.heap.size w w') last o w' t' := by
  let Pst : Value → World → Prop := fun u w' => u = v ∧ RowKit.Below w.heap.size w w'
  have hT : (trPre P Pst (fun b => b < w.heap.size) .p0).T no (G (Frame.enter P f vs .normal) []) w := by
    rw [enter_at vs hf hb]
    have hlt : ∀ b, (fun b => w.heap[b]?) b ≠ none → b < w.heap.size := fun b hb => by
      obtain ⟨o, ho⟩ := Option.ne_none_iff_exists'.1 hb
      exact (Array.getElem?_eq_some_iff.1 ho).1
    have hs := sx_start (C := ⟨P, fn.ntmps, 0, Gv⟩) (A := no) (Rd := fun b => b < w.heap.size) (M := fun b => w.heap[b]?) (w := w) args hsz (Nat.le_of_ble_eq_true hn) hargs
      ⟨fun b hb => absurd rfl hb, fun b hb => by simp only [ne_eq]; rw [Array.getElem?_eq_getElem hb]; simp, fun b hb => hb.elim⟩ (fun b o hb => hb) (fun b hb => .inr (hlt b hb)) hG
    refine h Pst no _ pin0 _ w hs (base f) [] [] (by intro h; cases h) ?_
    intro e K' ds A' M' ρ' σ' a' w' h1 h2 h3 h5
    have fin : ds = [] ∧ (∃ r, RetIs ⟨P, fn.ntmps, 0, Gv⟩ fn σ' r ∧ Free r ∧ r = .d (.val v) ∧ Ends Pst K') → ∀ todo, K'.T A' (G { (base f).at a' todo with mode := .returning } []) w' := by
      rintro ⟨rfl, r, hr, hfree, rfl, hE⟩ todo
      refine hE A' _ w' rfl fun w₁ h₁ => ?_
      obtain ⟨u, hru, hv, hev⟩ := ret_step (C := ⟨P, fn.ntmps, 0, Gv⟩) rfl h3 hr hfree h₁
      have hs1 := h3.rely h₁
      obtain ⟨es, e1, e2⟩ := stepG_lastE (b := base f) (todo := todo) rfl hs1.df hf hni hru
      refine ⟨u, es, e1, fun e he => hev e (e2 e he), ?_, ?_⟩
      · cases hv with
        | d _ _ hd => cases hd with
          | val _ _ => rfl
      · have sm := h2.trans h₁.same
        refine ⟨sm.os, sm.tape, sm.output, sm.size, fun k hk => ?_⟩
        have hb : w.heap[k]? = some (w.heap[k]'hk) := Array.getElem?_eq_getElem hk
        rw [hs1.holds k _ (h1 k _ hb), hb]
    cases e with
    | normal => exact K'.idle rfl (fun _ => stepG_end) (fin h5 [])
    | ret => exact fin h5
    | _ => exact h5.elim
  obtain ⟨r, hR⟩ : PreT P Pst (fun b => b < w.heap.size) .p0 no (G (Frame.enter P f vs .normal) []) w := hT
  exact hR.good (sl := none) ⟨fun b hb => hb.elim, fun b hb => hb, trivial, fun op hop => by simp at hop, fun q x hx => by simp [touchAt, Trace.act?] at hx, rfl⟩
section
variable {C : Ctx} {Q : QX C.P} {K : Tr C.P} {ds : List Deferred} {σ : St}
theorem WX_ret (h : Q .ret K ds σ) : WX C .ret Q K ds σ := fun A M ρ a w hs b k cs hb hp => K.idle rfl (fun _ => stepG_ret') (hp .ret K ds A M ρ σ a w (Imm.le_refl _) (.refl _) hs h _)
theorem xtr {P : Program} {R : Tr P → List Deferred → St → Prop} {Q : QX P} {K : Tr P} {ds : List Deferred} {σ : St} (k : Q .ret K ds σ) : thenX R Q .ret K ds σ := k
/-- The last piece, of one phase. -/
theorem WX_last {c : Code} {fn : Func} {post : SV → List (Option Blk) → Prop} {postX : Tr C.P → SV → Prop} (h : W C c (outQ C fn post) σ) (hq : ∀ π r ho, post r ho → Free (ren π r) ∧ postX K (ren π r)) : WX C c (outQX C fn postX) K [] σ := by
  refine WX_of h fun e σ' he => ?_
  have key : (∃ π r' r hout, RetIs C fn σ' r' ∧ r' = ren π r ∧ okOut C.m r hout = true ∧ Sub C π σ' [] hout ∧ post r hout) → ([] : List Deferred) = [] ∧ ∃ r, RetIs C fn σ' r ∧ Free r ∧ postX K r := by
    rintro ⟨π, r', r, hout, h1, rfl, _, _, h5⟩
    exact ⟨rfl, _, h1, (hq π r hout h5).1, (hq π r hout h5).2⟩
  cases e with
  | ret => exact key he
  | normal => exact key he
  | _ => exact he.elim
theorem outX2 {fn : Func} {postX : Tr C.P → SV → Prop} {t : Nat → SV} {h : Heap} {nx : Nat} (s1 s2 : Nat) {r1 r2 : SV} (hres : fn.results = #[.tmp s1, .tmp s2]) (hu1 : (t s1).hd = some r1) (hu2 : (t s2).hd = some r2) (hf1 : Free r1) (hf2 : Free r2) (hp : postX K (.tup [r1, r2])) : outQX C fn postX .ret K [] ⟨t, h, nx⟩ :=
  ⟨rfl, .tup [t s1, t s2], RetIs.of (ret2 hres) (fun tmps w => by simp [results, hres]), by rw [SV.hd_eq hu1, SV.hd_eq hu2]; exact free_two hf1 hf2, by rw [SV.hd_eq hu1, SV.hd_eq hu2]; exact hp⟩
end
end Go.Proofs.YtpdojmebloekgaaDoor.Nice.Co
namespace Go.Proofs
abbrev YtpdojmebloekgaaDoor.wgLink : Go.Conc.Lib.WgLink := { add := 25, done := 27, wait := 29, relMerge := 56, disable := 57, enable := 58, inBubble := 59, associate := 60, fatal := 61, uOr := 62, uAdd := 63, raceRead := 64, uLoad := 65, uStore := 66, disassociate := 67, semrelease := 68, acquire := 69, isAssociated := 70, uCas := 71, raceWrite := 72, semacquire := 73, orU64 := 83, addU64 := 84, loadU64 := 85, storeU64 := 86, casU64 := 87, tWgP := 105, tUP := 107, tAssoc := 109, tWg := 59, tAU := 56, tU64 := 54, tUint := 113, tU32 := 57, tPU32 := 114, tPAU := 132, tPU64 := 134, tNoCopy := 51, tANoCopy := 52, tAlign64 := 53 }
theorem YtpdojmebloekgaaDoor.wgLib : Go.Conc.Lib.WgLib Tryd.prog YtpdojmebloekgaaDoor.wgLink :=
  ⟨Tryd.func25, Tryd.func27, Tryd.func29, Tryd.func56, Tryd.func57, Tryd.func58, Tryd.func59, Tryd.func60, Tryd.func61, Tryd.func62, Tryd.func63, Tryd.func64, Tryd.func65, Tryd.func66, Tryd.func67, Tryd.func68, Tryd.func69, Tryd.func70, Tryd.func71, Tryd.func72, Tryd.func73, Tryd.func83, Tryd.func84, Tryd.func85, Tryd.func86, Tryd.func87, Tryd.underlying105, Tryd.runUnderlying105, Tryd.sizeOf105, Tryd.isAgg105, Tryd.zeroValue105, Tryd.underlying107, Tryd.runUnderlying107, Tryd.sizeOf107, Tryd.isAgg107, Tryd.zeroValue107, Tryd.underlying109, Tryd.runUnderlying109, Tryd.sizeOf109, Tryd.isAgg109, Tryd.zeroValue109, Tryd.underlying59, Tryd.runUnderlying59, Tryd.sizeOf59, Tryd.isAgg59, Tryd.zeroValue59, Tryd.underlying56, Tryd.runUnderlying56, Tryd.sizeOf56, Tryd.isAgg56, Tryd.zeroValue56, Tryd.underlying54, Tryd.runUnderlying54, Tryd.sizeOf54, Tryd.isAgg54, Tryd.zeroValue54, Tryd.underlying113, Tryd.runUnderlying113, Tryd.sizeOf113, Tryd.isAgg113, Tryd.zeroValue113, Tryd.underlying57, Tryd.runUnderlying57, Tryd.sizeOf57, Tryd.isAgg57, Tryd.zeroValue57, Tryd.underlying114, Tryd.runUnderlying114, Tryd.sizeOf114, Tryd.isAgg114, Tryd.zeroValue114, Tryd.underlying132, Tryd.runUnderlying132, Tryd.sizeOf132, Tryd.isAgg132, Tryd.zeroValue132, Tryd.underlying134, Tryd.runUnderlying134, Tryd.sizeOf134, Tryd.isAgg134, Tryd.zeroValue134, Tryd.underlying0, Tryd.runUnderlying0, Tryd.sizeOf0, Tryd.isAgg0, Tryd.zeroValue0, Tryd.underlying3, Tryd.runUnderlying3, Tryd.sizeOf3, Tryd.isAgg3, Tryd.zeroValue3, Tryd.underlying4, Tryd.runUnderlying4, Tryd.sizeOf4, Tryd.isAgg4, Tryd.zeroValue4, Tryd.underlying9, Tryd.runUnderlying9, Tryd.sizeOf9, Tryd.isAgg9, Tryd.zeroValue9, Tryd.underlying20, Tryd.runUnderlying20, Tryd.sizeOf20, Tryd.isAgg20, Tryd.zeroValue20, Tryd.underlying21, Tryd.runUnderlying21, Tryd.sizeOf21, Tryd.isAgg21, Tryd.zeroValue21, (by kernel_rfl), (by kernel_rfl)⟩
end Go.Proofs
namespace Go.Proofs.YtpdojmebloekgaaDoor.Nice.Co
open Go Go.Conc Go.Conc.Lib Go.ConcR.Gen
open Go.ConcR (KK WgAt stA smA mk DC0)
set_option linter.unusedVariables false
set_option linter.unusedSimpArgs false
set_option maxRecDepth 100000
def clCaps (p : Pr) : List SV := [.d (.val (.pointer (some ⟨p.Wg, 0, none⟩))), .vp 1 1 (fun _ _ => .val (.chan (some p.Ch))) 0 0]
def wkCaps (p : Pr) (mk : FuncId) (X : D) (k : Nat) : List SV :=
  [.d (.val (.pointer (some ⟨p.Wg, 0, none⟩))), .vp 1 1 (fun _ _ => .val (.func (.func mk) #[] #[])) 0 0, .vp 1 1 (fun _ _ => X) 0 0, .vp 1 1 (fun _ _ => .val (.chan (some p.Ch))) 0 0, .vp 1 1 (fun _ _ => .val (.int .i64 k)) 0 0]
theorem run_alloc59 (w : World) : (Instr.alloc 59 true (.tuple #[])).run Tryd.prog w = .ok (.pointer (some ⟨w.heap.size, 0, none⟩)) (w.alloc (wgObj 59)) := by
  have h : zerosOf Tryd.prog 59 = some [.int .u64 0, .int .u32 0] := by kernel_rfl
  obtain ⟨i, z, hi, hz, hzl, _, _⟩ := zerosOf_ok h
  have hc : z.cells = #[.int .u64 0, .int .u32 0] := by rw [← hzl]
  simp [Instr.alloc, zeroValue, typeInfo, hi, hz, newVar, newRow, hc]
  rfl
theorem ev_alloc59 (w : World) : (Instr.alloc 59 true (.tuple #[])).events Tryd.prog w #[] = #[] := by
  have h : zerosOf Tryd.prog 59 = some [.int .u64 0, .int .u32 0] := by kernel_rfl
  obtain ⟨i, z, hi, hz, hzl, _, _⟩ := zerosOf_ok h
  simp [Instr.alloc, zeroValue, typeInfo, hi, hz, newVar, newRow]
theorem hS {j : Nat} {q : Bool} : Lo.spawn j q ≠ .out := by simp
theorem free_fn {f : FuncId} : Free (.fn f []) := fun M ρ ρ' u h => by
  cases h with
  | fn _ _ vs g hs hg hr => exact .fn f [] vs g hs hg fun i x hx => by simp at hx
theorem data_all {l : List SV} (h : l.all SV.dataB = true) : ∀ y, y ∈ l → Free y := fun y hy => free_data (List.all_eq_true.1 h y hy)
theorem mem_at {α : Type} {L : List α} {i : Nat} (d : α) (hi : i < L.length) : L.getD i d ∈ L := by
  rw [List.getD_eq_getElem?_getD, List.getElem?_eq_getElem hi]
  exact List.getElem_mem hi
end Go.Proofs.YtpdojmebloekgaaDoor.Nice.Co
namespace Go.Proofs.YtpdojmebloekgaaDoor.Nice.Co
open Go
set_option linter.unusedVariables false
set_option linter.unusedSimpArgs false
set_option maxRecDepth 100000
set_option maxHeartbeats 4000000
structure Smp where
  t : Int
  v : Int
  deriving Inhabited, DecidableEq
def smpF (l : List Smp) : Nat → Nat → D := fun i c => match c with | 0 => .val (.int .i64 (l.getD i default).t) | 1 => .val (.int .i64 (l.getD i default).v) | _ => .any
def smpV (l : List Smp) : SV := .d (.vec 2 l.length (smpF l))
def smpS (s : Smp) : SV := .agg [SV.i s.t, SV.i s.v]
structure SmpIn (l : List Smp) : Prop where
  n : l.length ≤ 9223372036854775807
  t : ∀ k, inRange (l.getD k default).t
  v : ∀ k, inRange (l.getD k default).v
structure Lst where
  t : Int
  v : Int
  st : Int
  n : Int
def lstX (a : Lst) : List SV := [SV.i a.t, SV.i a.v, SV.i a.st, SV.i a.n]
def inB (x : Int) : Prop := -36028797018963968 ≤ x ∧ x < 36028797018963968
instance (x : Int) : Decidable (inB x) := inferInstanceAs (Decidable (_ ∧ _))
def lfault (a : Lst) (s : Smp) : Int := if inB s.t ∧ inB s.v then (if 0 < a.n ∧ s.t ≤ a.t then 9 else 0) else 11
def cT (a : Lst) (s : Smp) : Int := if a.n = 0 then s.t else s.t - a.t - a.st
def cV (a : Lst) (s : Smp) : Int := if a.n = 0 then s.v else s.v - a.v
def nxt (a : Lst) (s : Smp) : Lst := ⟨s.t, s.v, if 0 < a.n then s.t - a.t else a.st, a.n + 1⟩
structure LstIn (a : Lst) : Prop where
  t : inB a.t
  v : inB a.v
  st : -72057594037927936 ≤ a.st ∧ a.st ≤ 72057594037927936
  n : 0 ≤ a.n ∧ a.n ≤ 1000
def lstN (l : List Smp) : Nat → Lst
  | 0 => ⟨0, 0, 0, 0⟩
  | k + 1 => nxt (lstN l k) (l.getD k default)
def faultTo (l : List Smp) : Nat → Int
  | 0 => 0
  | k + 1 => if faultTo l k = 0 then lfault (lstN l k) (l.getD k default) else faultTo l k
def sfault (l : List Smp) : Int := if 120 < l.length then 1 else faultTo l l.length
def encL (l : List Smp) : Nat → List Int
  | 0 => [] ++ bitsOf 8 l.length
  | k + 1 => zput (zput (encL l k) (cT (lstN l k) (l.getD k default))) (cV (lstN l k) (l.getD k default))
def encB (l : List Smp) : List Int := pack (encL l l.length)
theorem lstN_n (l : List Smp) : ∀ k, (lstN l k).n = k
  | 0 => rfl
  | k + 1 => by show (lstN l k).n + 1 = _; rw [lstN_n l k]; omega
theorem lfault_zero {a : Lst} {s : Smp} (h : lfault a s = 0) : inB s.t ∧ inB s.v ∧ (0 < a.n → a.t < s.t) := by
  unfold lfault at h
  split at h
  · next hb =>
    split at h
    · cases h
    · next hn => exact ⟨hb.1, hb.2, fun h0 => by have : ¬ s.t ≤ a.t := fun e => hn ⟨h0, e⟩
                                                 omega⟩
  · cases h
theorem faultTo_down {l : List Smp} {k : Nat} (h : faultTo l (k + 1) = 0) : faultTo l k = 0 ∧ lfault (lstN l k) (l.getD k default) = 0 := by
  unfold faultTo at h
  split at h
  · next h0 => exact ⟨h0, h⟩
  · next h0 => exact absurd h h0
theorem faultTo_le {l : List Smp} {k n : Nat} (hk : k ≤ n) (h : faultTo l n = 0) : faultTo l k = 0 := by
  induction n with
  | zero => obtain rfl : k = 0 := by omega
            exact h
  | succ n ih =>
    rcases Nat.lt_or_ge n k with hlt | hge
    · obtain rfl : k = n + 1 := by omega
      exact h
    · exact ih hge (faultTo_down h).1
theorem faultTo_stay {l : List Smp} {k n : Nat} (hk : k ≤ n) (h : faultTo l k ≠ 0) : faultTo l n = faultTo l k := by
  induction n with
  | zero => obtain rfl : k = 0 := by omega
            rfl
  | succ n ih =>
    rcases Nat.lt_or_ge n k with hlt | hge
    · obtain rfl : k = n + 1 := by omega
      rfl
    · have := ih hge
      show (if faultTo l n = 0 then _ else faultTo l n) = _
      rw [if_neg (by rw [this]; exact h), this]
theorem faultTo_at {l : List Smp} {k n : Nat} (hk : k < n) (h0 : faultTo l k = 0) (h : lfault (lstN l k) (l.getD k default) ≠ 0) : faultTo l n = lfault (lstN l k) (l.getD k default) := by
  have e : faultTo l (k + 1) = lfault (lstN l k) (l.getD k default) := by show (if _ then _ else _) = _; rw [if_pos h0]
  rw [faultTo_stay (k := k + 1) hk (by rw [e]; exact h), e]
theorem faultTo_step {l : List Smp} {k : Nat} (h0 : faultTo l k = 0) (h : lfault (lstN l k) (l.getD k default) = 0) : faultTo l (k + 1) = 0 := by show (if _ then _ else _) = _; rw [if_pos h0, h]
theorem smp_at {l : List Smp} {k n : Nat} (h : faultTo l n = 0) (hk : k < n) : inB (l.getD k default).t ∧ inB (l.getD k default).v ∧ (0 < k → (lstN l k).t < (l.getD k default).t) := by
  have := lfault_zero (faultTo_down (faultTo_le (show k + 1 ≤ n from hk) h)).2
  rw [lstN_n] at this
  exact ⟨this.1, this.2.1, fun hk => this.2.2 (by omega)⟩
theorem lstN_t (l : List Smp) {k : Nat} (hk : 0 < k) : (lstN l k).t = (l.getD (k - 1) default).t ∧ (lstN l k).v = (l.getD (k - 1) default).v := by
  obtain ⟨j, rfl⟩ : ∃ j, k = j + 1 := ⟨k - 1, by omega⟩
  exact ⟨rfl, rfl⟩
theorem lstN_st (l : List Smp) (k : Nat) : (lstN l k).st = if 2 ≤ k then (l.getD (k - 1) default).t - (l.getD (k - 2) default).t else 0 := by
  match k with
  | 0 => rfl
  | 1 => rfl
  | k + 2 =>
    rw [if_pos (by omega)]
    show (if 0 < (lstN l (k + 1)).n then _ else _) = _
    rw [if_pos (by rw [lstN_n]; omega)]
    rfl
theorem lst_in {l : List Smp} {k : Nat} (h : faultTo l k = 0) (hk : k ≤ 1000) : LstIn (lstN l k) := by
  refine ⟨?_, ?_, ?_, by rw [lstN_n]; omega⟩
  · rcases Nat.eq_zero_or_pos k with rfl | h0
    · show inB 0; exact ⟨by decide, by decide⟩
    · rw [(lstN_t l h0).1]; exact (smp_at h (show k - 1 < k by omega)).1
  · rcases Nat.eq_zero_or_pos k with rfl | h0
    · show inB 0; exact ⟨by decide, by decide⟩
    · rw [(lstN_t l h0).2]; exact (smp_at h (show k - 1 < k by omega)).2.1
  · rw [lstN_st]
    split
    · next h2 =>
      obtain ⟨a1, a2⟩ := (smp_at h (show k - 1 < k by omega)).1
      obtain ⟨b1, b2⟩ := (smp_at h (show k - 2 < k by omega)).1
      omega
    · omega
theorem encL_bits (l : List Smp) : ∀ k, AllBits (encL l k)
  | 0 => allBits_nil.append (bitsOf_bits _ _)
  | k + 1 => zput_bits (zput_bits (encL_bits l k) _) _
theorem encL_len (l : List Smp) : ∀ k, (encL l k).length ≤ 8 + 240 * k
  | 0 => by show ([] ++ bitsOf 8 _).length ≤ _; rw [List.nil_append, bitsOf_length]; omega
  | k + 1 => by
    have h1 := zput_len (zput (encL l k) (cT (lstN l k) (l.getD k default))) (cV (lstN l k) (l.getD k default))
    have h2 := zput_len (encL l k) (cT (lstN l k) (l.getD k default))
    have h3 := encL_len l k
    show (zput (zput _ _) _).length ≤ _
    omega
theorem c_small {a : Lst} {s : Smp} (h : LstIn a) (ht : inB s.t) (hv : inB s.v) : isSm (cT a s) ∧ isSm (cV a s) := by
  obtain ⟨⟨h1, h2⟩, ⟨h3, h4⟩, ⟨h5, h6⟩, _⟩ := h
  obtain ⟨g1, g2⟩ := ht
  obtain ⟨g3, g4⟩ := hv
  unfold cT cV isSm
  constructor <;> split <;> omega
theorem fault_any (a : Lst) (s : Smp) : Spec Tryd.prog GC 31 [.ptr 0 0 0, smpS s] [.cells 69 4 (lstX a)] (fun r ho => r = SV.i (lfault a s) ∧ ho = [some (.cells 69 4 (lstX a))]) := by
  refine start 40 1 Tryd.func31 rfl rfl rfl rfl ?_
  refine r1 ?_
  refine s1 3 1 1 rfl rfl rfl rfl rfl rfl trivial ?_
  refine s1 4 9 2 rfl rfl rfl rfl rfl rfl trivial ?_
  refine e1 17 rfl ?_
  refine keep [0, 3] rfl ?_
  refine W_seq ?_
  refine W_block ?_
  refine r1 ?_
  refine s1 6 17 1 rfl rfl rfl rfl rfl rfl trivial ?_
  refine s1 7 25 2 rfl rfl rfl rfl rfl rfl (by first | trivial | omega) ?_
  refine s1 8 33 3 rfl rfl rfl rfl rfl rfl (by first | trivial | omega) ?_
  refine s1 9 41 4 rfl rfl rfl rfl rfl rfl trivial ?_
  refine ask 9 rfl (fun hg1_9 => ?_) (fun hg1_9 => ?_)
  · skip
    try simp only [cs, ne_eq] at hg1_9
    refine g0 3 false 9 10 5 rfl rfl rfl rfl rfl rfl ?_
    refine g0 3 false 9 11 6 rfl rfl rfl rfl rfl rfl ?_
    refine g0 3 false 9 12 7 rfl rfl rfl rfl rfl rfl ?_
    refine s1 13 73 8 rfl rfl rfl rfl rfl rfl trivial ?_
    refine s1 14 81 9 rfl rfl rfl rfl rfl rfl trivial ?_
    refine g0 8 false 14 15 10 rfl rfl rfl rfl rfl rfl ?_
    refine g0 8 false 14 16 11 rfl rfl rfl rfl rfl rfl ?_
    refine g0 8 false 14 17 12 rfl rfl rfl rfl rfl rfl ?_
    refine s1 18 113 13 rfl rfl rfl rfl rfl rfl trivial ?_
    refine s1 19 121 14 rfl rfl rfl rfl rfl rfl trivial ?_
    refine g0 13 false 19 20 15 rfl rfl rfl rfl rfl rfl ?_
    refine g0 13 false 19 21 16 rfl rfl rfl rfl rfl rfl ?_
    refine g0 13 false 19 22 17 rfl rfl rfl rfl rfl rfl ?_
    refine s1 23 153 18 rfl rfl rfl rfl rfl rfl trivial ?_
    refine s1 5 161 19 rfl rfl rfl rfl rfl rfl trivial ?_
    refine e1 169 rfl ?_
    refine keep [0, 3, 5] rfl ?_
    refine q1 rfl (fun hc1 => ?_) (fun hc1 => ?_)
    · skip
      try simp only [cs, ne_eq] at hc1
      refine r1 ?_
      refine s1 4 169 1 rfl rfl rfl rfl rfl rfl trivial ?_
      refine e1 177 rfl ?_
      refine keep [4] rfl ?_
      refine W_ret ?_
      refine br ?_
      refine tr ?_
      exact out1 4 (SV.i (lfault a s)) (π := [0]) (hout := [some (.cells 69 4 (lstX a))]) Tryd.results31 rfl (by unfold lfault inB; rw [if_neg (by rintro ⟨⟨h1, h2⟩, h3, h4⟩; omega)]; rfl) rfl rfl ⟨rfl, trivial⟩ ⟨rfl, rfl⟩
    exact absurd hc1 (by decide)
  try simp only [cs, ne_eq] at hg1_9
  refine g1 3 false 9 10 5 rfl rfl rfl rfl rfl ?_
  refine s1 10 49 5 rfl rfl rfl rfl rfl rfl trivial ?_
  refine g1 3 false 9 11 6 rfl rfl rfl rfl rfl ?_
  refine s1 11 57 6 rfl rfl rfl rfl rfl rfl (by first | trivial | omega) ?_
  refine g1 3 false 9 12 7 rfl rfl rfl rfl rfl ?_
  refine s1 12 65 7 rfl rfl rfl rfl rfl rfl (by first | trivial | omega) ?_
  refine s1 13 73 8 rfl rfl rfl rfl rfl rfl trivial ?_
  refine s1 14 81 9 rfl rfl rfl rfl rfl rfl trivial ?_
  refine ask 14 rfl (fun hg1_14 => ?_) (fun hg1_14 => ?_)
  · skip
    try simp only [cs, ne_eq] at hg1_14
    refine g0 8 false 14 15 10 rfl rfl rfl rfl rfl rfl ?_
    refine g0 8 false 14 16 11 rfl rfl rfl rfl rfl rfl ?_
    refine g0 8 false 14 17 12 rfl rfl rfl rfl rfl rfl ?_
    refine s1 18 113 13 rfl rfl rfl rfl rfl rfl trivial ?_
    refine s1 19 121 14 rfl rfl rfl rfl rfl rfl trivial ?_
    refine g0 13 false 19 20 15 rfl rfl rfl rfl rfl rfl ?_
    refine g0 13 false 19 21 16 rfl rfl rfl rfl rfl rfl ?_
    refine g0 13 false 19 22 17 rfl rfl rfl rfl rfl rfl ?_
    refine s1 23 153 18 rfl rfl rfl rfl rfl rfl trivial ?_
    refine s1 5 161 19 rfl rfl rfl rfl rfl rfl trivial ?_
    refine e1 169 rfl ?_
    refine keep [0, 3, 5] rfl ?_
    refine q1 rfl (fun hc1 => ?_) (fun hc1 => ?_)
    · skip
      try simp only [cs, ne_eq] at hc1
      refine r1 ?_
      refine s1 4 169 1 rfl rfl rfl rfl rfl rfl trivial ?_
      refine e1 177 rfl ?_
      refine keep [4] rfl ?_
      refine W_ret ?_
      refine br ?_
      refine tr ?_
      exact out1 4 (SV.i (lfault a s)) (π := [0]) (hout := [some (.cells 69 4 (lstX a))]) Tryd.results31 rfl (by unfold lfault inB; rw [if_neg (by rintro ⟨⟨h1, h2⟩, h3, h4⟩; omega)]; rfl) rfl rfl ⟨rfl, trivial⟩ ⟨rfl, rfl⟩
    exact absurd hc1 (by decide)
  try simp only [cs, ne_eq] at hg1_14
  refine g1 8 false 14 15 10 rfl rfl rfl rfl rfl ?_
  refine s1 15 89 10 rfl rfl rfl rfl rfl rfl trivial ?_
  refine g1 8 false 14 16 11 rfl rfl rfl rfl rfl ?_
  refine s1 16 97 11 rfl rfl rfl rfl rfl rfl (by first | trivial | omega) ?_
  refine g1 8 false 14 17 12 rfl rfl rfl rfl rfl ?_
  refine s1 17 105 12 rfl rfl rfl rfl rfl rfl (by first | trivial | omega) ?_
  refine s1 18 113 13 rfl rfl rfl rfl rfl rfl trivial ?_
  refine s1 19 121 14 rfl rfl rfl rfl rfl rfl trivial ?_
  refine ask 19 rfl (fun hg1_19 => ?_) (fun hg1_19 => ?_)
  · skip
    try simp only [cs, ne_eq] at hg1_19
    refine g0 13 false 19 20 15 rfl rfl rfl rfl rfl rfl ?_
    refine g0 13 false 19 21 16 rfl rfl rfl rfl rfl rfl ?_
    refine g0 13 false 19 22 17 rfl rfl rfl rfl rfl rfl ?_
    refine s1 23 153 18 rfl rfl rfl rfl rfl rfl trivial ?_
    refine s1 5 161 19 rfl rfl rfl rfl rfl rfl trivial ?_
    refine e1 169 rfl ?_
    refine keep [0, 3, 5] rfl ?_
    refine q1 rfl (fun hc1 => ?_) (fun hc1 => ?_)
    · skip
      try simp only [cs, ne_eq] at hc1
      refine r1 ?_
      refine s1 4 169 1 rfl rfl rfl rfl rfl rfl trivial ?_
      refine e1 177 rfl ?_
      refine keep [4] rfl ?_
      refine W_ret ?_
      refine br ?_
      refine tr ?_
      exact out1 4 (SV.i (lfault a s)) (π := [0]) (hout := [some (.cells 69 4 (lstX a))]) Tryd.results31 rfl (by unfold lfault inB; rw [if_neg (by rintro ⟨⟨h1, h2⟩, h3, h4⟩; omega)]; rfl) rfl rfl ⟨rfl, trivial⟩ ⟨rfl, rfl⟩
    exact absurd hc1 (by decide)
  try simp only [cs, ne_eq] at hg1_19
  refine g1 13 false 19 20 15 rfl rfl rfl rfl rfl ?_
  refine s1 20 129 15 rfl rfl rfl rfl rfl rfl trivial ?_
  refine g1 13 false 19 21 16 rfl rfl rfl rfl rfl ?_
  refine s1 21 137 16 rfl rfl rfl rfl rfl rfl (by first | trivial | omega) ?_
  refine g1 13 false 19 22 17 rfl rfl rfl rfl rfl ?_
  refine s1 22 145 17 rfl rfl rfl rfl rfl rfl (by first | trivial | omega) ?_
  refine s1 23 153 18 rfl rfl rfl rfl rfl rfl trivial ?_
  refine s1 5 161 19 rfl rfl rfl rfl rfl rfl trivial ?_
  refine e1 169 rfl ?_
  refine keep [0, 3, 5] rfl ?_
  refine q1 rfl (fun hc1 => ?_) (fun hc1 => ?_)
  · skip
    try simp only [cs, ne_eq] at hc1
    refine r1 ?_
    refine s1 4 169 1 rfl rfl rfl rfl rfl rfl trivial ?_
    refine e1 177 rfl ?_
    refine keep [4] rfl ?_
    refine W_ret ?_
    refine br ?_
    refine tr ?_
    exact out1 4 (SV.i (lfault a s)) (π := [0]) (hout := [some (.cells 69 4 (lstX a))]) Tryd.results31 rfl (by unfold lfault inB; rw [if_neg (by rintro ⟨⟨h1, h2⟩, h3, h4⟩; omega)]; rfl) rfl rfl ⟨rfl, trivial⟩ ⟨rfl, rfl⟩
  try simp only [cs, ne_eq] at hc1
  refine rd1 rfl ?_
  refine d1 25 169 1 rfl rfl rfl rfl rfl rfl trivial ?_
  refine d1 26 177 2 rfl rfl rfl rfl rfl rfl trivial ?_
  refine d1 27 185 3 rfl rfl rfl rfl rfl rfl trivial ?_
  refine d1 28 193 4 rfl rfl rfl rfl rfl rfl (by first | trivial | omega) ?_
  refine d1 29 201 5 rfl rfl rfl rfl rfl rfl (by first | trivial | omega) ?_
  refine d1 30 209 6 rfl rfl rfl rfl rfl rfl trivial ?_
  refine ask 30 rfl (fun hg3_30 => ?_) (fun hg3_30 => ?_)
  · skip
    try simp only [cs, ne_eq] at hg3_30
    refine g1 5 true 30 31 7 rfl rfl rfl rfl rfl ?_
    refine d1 31 217 7 rfl rfl rfl rfl rfl rfl trivial ?_
    refine g1 5 true 30 32 8 rfl rfl rfl rfl rfl ?_
    refine d1 32 225 8 rfl rfl rfl rfl rfl rfl (by first | trivial | omega) ?_
    refine g1 5 true 30 33 9 rfl rfl rfl rfl rfl ?_
    refine d1 33 233 9 rfl rfl rfl rfl rfl rfl trivial ?_
    refine g1 5 true 30 34 10 rfl rfl rfl rfl rfl ?_
    refine d1 34 241 10 rfl rfl rfl rfl rfl rfl trivial ?_
    refine g1 5 true 30 35 11 rfl rfl rfl rfl rfl ?_
    refine d1 35 249 11 rfl rfl rfl rfl rfl rfl trivial ?_
    refine g1 5 true 30 36 12 rfl rfl rfl rfl rfl ?_
    refine d1 36 257 12 rfl rfl rfl rfl rfl rfl trivial ?_
    refine g1 5 true 30 37 13 rfl rfl rfl rfl rfl ?_
    refine d1 37 265 13 rfl rfl rfl rfl rfl rfl (by first | trivial | omega) ?_
    refine g1 5 true 30 38 14 rfl rfl rfl rfl rfl ?_
    refine d1 38 273 14 rfl rfl rfl rfl rfl rfl (by first | trivial | omega) ?_
    refine d1 39 281 15 rfl rfl rfl rfl rfl rfl trivial ?_
    refine d1 24 289 16 rfl rfl rfl rfl rfl rfl trivial ?_
    refine de1 297 rfl (by kernel_rfl) ?_
    refine keep [24] rfl ?_
    refine q1 rfl (fun hc3 => ?_) (fun hc3 => ?_)
    · skip
      try simp only [cs, ne_eq] at hc3
      refine r1 ?_
      refine s1 4 297 1 rfl rfl rfl rfl rfl rfl trivial ?_
      refine e1 305 rfl ?_
      refine keep [4] rfl ?_
      refine W_ret ?_
      refine br ?_
      refine tr ?_
      exact out1 4 (SV.i (lfault a s)) (π := [0]) (hout := [some (.cells 69 4 (lstX a))]) Tryd.results31 rfl (by unfold lfault inB; rw [if_pos ⟨⟨by omega, by omega⟩, by omega, by omega⟩, if_pos ⟨by omega, by omega⟩]; rfl) rfl rfl ⟨rfl, trivial⟩ ⟨rfl, rfl⟩
    try simp only [cs, ne_eq] at hc3
    refine W_skip ?_
    refine bn ?_
    refine tn ?_
    refine r1 ?_
    refine s1 4 297 1 rfl rfl rfl rfl rfl rfl trivial ?_
    refine e1 305 rfl ?_
    refine keep [4] rfl ?_
    refine W_ret ?_
    exact out1 4 (SV.i (lfault a s)) (π := [0]) (hout := [some (.cells 69 4 (lstX a))]) Tryd.results31 rfl (by unfold lfault inB; rw [if_pos ⟨⟨by omega, by omega⟩, by omega, by omega⟩, if_neg (by rintro ⟨h1, h2⟩; omega)]; rfl) rfl rfl ⟨rfl, trivial⟩ ⟨rfl, rfl⟩
  try simp only [cs, ne_eq] at hg3_30
  refine g0 5 true 30 31 7 rfl rfl rfl rfl rfl rfl ?_
  refine g0 5 true 30 32 8 rfl rfl rfl rfl rfl rfl ?_
  refine g0 5 true 30 33 9 rfl rfl rfl rfl rfl rfl ?_
  refine g0 5 true 30 34 10 rfl rfl rfl rfl rfl rfl ?_
  refine g0 5 true 30 35 11 rfl rfl rfl rfl rfl rfl ?_
  refine g0 5 true 30 36 12 rfl rfl rfl rfl rfl rfl ?_
  refine g0 5 true 30 37 13 rfl rfl rfl rfl rfl rfl ?_
  refine g0 5 true 30 38 14 rfl rfl rfl rfl rfl rfl ?_
  refine d1 39 281 15 rfl rfl rfl rfl rfl rfl trivial ?_
  refine d1 24 289 16 rfl rfl rfl rfl rfl rfl trivial ?_
  refine de1 297 rfl (by kernel_rfl) ?_
  refine keep [24] rfl ?_
  refine q1 rfl (fun hc3 => ?_) (fun hc3 => ?_)
  · skip
    exact absurd hc3 (by decide)
  try simp only [cs, ne_eq] at hc3
  refine W_skip ?_
  refine bn ?_
  refine tn ?_
  refine r1 ?_
  refine s1 4 297 1 rfl rfl rfl rfl rfl rfl trivial ?_
  refine e1 305 rfl ?_
  refine keep [4] rfl ?_
  refine W_ret ?_
  exact out1 4 (SV.i (lfault a s)) (π := [0]) (hout := [some (.cells 69 4 (lstX a))]) Tryd.results31 rfl (by unfold lfault inB; rw [if_pos ⟨⟨by omega, by omega⟩, by omega, by omega⟩, if_neg (by rintro ⟨h1, h2⟩; omega)]; rfl) rfl rfl ⟨rfl, trivial⟩ ⟨rfl, rfl⟩
theorem codes_any (a : Lst) (s : Smp) (ha : LstIn a) (ht : inB s.t) (hv : inB s.v) : Spec Tryd.prog GC 32 [.ptr 0 0 0, smpS s] [.cells 69 4 (lstX a)] (fun r ho => r = SV.tup [SV.i (cT a s), SV.i (cV a s)] ∧ ho = [some (.cells 69 4 (lstX a))]) := by
  obtain ⟨⟨h1, h2⟩, ⟨h3, h4⟩, ⟨h5, h6⟩, h7, h8⟩ := ha
  obtain ⟨g1, g2⟩ := ht
  obtain ⟨g3, g4⟩ := hv
  refine start 36 1 Tryd.func32 rfl rfl rfl rfl ?_
  refine r1 ?_
  refine s1 3 1 1 rfl rfl rfl rfl rfl rfl trivial ?_
  refine s1 4 9 2 rfl rfl rfl rfl rfl rfl trivial ?_
  refine s1 5 17 3 rfl rfl rfl rfl rfl rfl trivial ?_
  refine e1 25 rfl ?_
  refine keep [0, 3] rfl ?_
  refine W_seq ?_
  refine r1 ?_
  refine s1 6 25 1 rfl rfl rfl rfl rfl rfl trivial ?_
  refine s1 7 33 2 rfl rfl rfl rfl rfl rfl trivial ?_
  refine s1 8 41 3 rfl rfl rfl rfl rfl rfl trivial ?_
  refine s1 9 49 4 rfl rfl rfl rfl rfl rfl (by first | trivial | omega) ?_
  refine s1 10 57 5 rfl rfl rfl rfl rfl rfl (by first | trivial | omega) ?_
  refine e1 65 rfl ?_
  refine keep [0, 3, 10] rfl ?_
  refine q1 rfl (fun hc1 => ?_) (fun hc1 => ?_)
  · skip
    try simp only [cs, ne_eq] at hc1
    refine rd1 rfl ?_
    refine d1 11 65 1 rfl rfl rfl rfl rfl rfl trivial ?_
    refine d1 12 73 2 rfl rfl rfl rfl rfl rfl (by first | trivial | omega) ?_
    refine d1 13 81 3 rfl rfl rfl rfl rfl rfl trivial ?_
    refine d1 14 89 4 rfl rfl rfl rfl rfl rfl (by first | trivial | omega) ?_
    refine d1 4 97 5 rfl rfl rfl rfl rfl rfl trivial ?_
    refine d1 5 105 6 rfl rfl rfl rfl rfl rfl trivial ?_
    refine de1 113 rfl (by kernel_rfl) ?_
    refine keep [4, 5] rfl ?_
    refine W_ret ?_
    refine tr ?_
    exact out2 4 5 (SV.i (cT a s)) (SV.i (cV a s)) (π := [0]) (hout := [some (.cells 69 4 (lstX a))]) Tryd.results32 rfl rfl (by unfold cT; rw [if_pos (by omega)]; rfl) (by unfold cV; rw [if_pos (by omega)]; rfl) rfl rfl ⟨rfl, trivial⟩ ⟨rfl, rfl⟩
  try simp only [cs, ne_eq] at hc1
  refine W_skip ?_
  refine tn ?_
  refine rd1 rfl ?_
  refine d1 15 65 1 rfl rfl rfl rfl rfl rfl trivial ?_
  refine d1 16 73 2 rfl rfl rfl rfl rfl rfl (by first | trivial | omega) ?_
  refine d1 17 81 3 rfl rfl rfl rfl rfl rfl trivial ?_
  refine d1 18 89 4 rfl rfl rfl rfl rfl rfl trivial ?_
  refine d1 19 97 5 rfl rfl rfl rfl rfl rfl trivial ?_
  refine d1 20 105 6 rfl rfl rfl rfl rfl rfl trivial ?_
  refine d1 21 113 7 rfl rfl rfl rfl rfl rfl (by first | trivial | omega) ?_
  refine dA 22 121 8 rfl rfl rfl rfl rfl rfl rfl rfl rfl (by unfold inRange; omega) ?_
  refine d1 23 129 9 rfl rfl rfl rfl rfl rfl trivial ?_
  refine d1 24 137 10 rfl rfl rfl rfl rfl rfl trivial ?_
  refine d1 25 145 11 rfl rfl rfl rfl rfl rfl trivial ?_
  refine d1 26 153 12 rfl rfl rfl rfl rfl rfl (by first | trivial | omega) ?_
  refine dA 27 161 13 rfl rfl rfl rfl rfl rfl rfl rfl rfl (by unfold inRange; omega) ?_
  refine d1 28 169 14 rfl rfl rfl rfl rfl rfl trivial ?_
  refine d1 29 177 15 rfl rfl rfl rfl rfl rfl (by first | trivial | omega) ?_
  refine d1 30 185 16 rfl rfl rfl rfl rfl rfl trivial ?_
  refine d1 31 193 17 rfl rfl rfl rfl rfl rfl trivial ?_
  refine d1 32 201 18 rfl rfl rfl rfl rfl rfl trivial ?_
  refine d1 33 209 19 rfl rfl rfl rfl rfl rfl trivial ?_
  refine d1 34 217 20 rfl rfl rfl rfl rfl rfl (by first | trivial | omega) ?_
  refine dA 35 225 21 rfl rfl rfl rfl rfl rfl rfl rfl rfl (by unfold inRange; omega) ?_
  refine d1 4 233 22 rfl rfl rfl rfl rfl rfl trivial ?_
  refine d1 5 241 23 rfl rfl rfl rfl rfl rfl trivial ?_
  refine de1 249 rfl (by kernel_rfl) ?_
  refine keep [4, 5] rfl ?_
  refine W_ret ?_
  exact out2 4 5 (SV.i (cT a s)) (SV.i (cV a s)) (π := [0]) (hout := [some (.cells 69 4 (lstX a))]) Tryd.results32 rfl rfl (by unfold cT; rw [if_neg (by omega)]; rfl) (by unfold cV; rw [if_neg (by omega)]; rfl) rfl rfl ⟨rfl, trivial⟩ ⟨rfl, rfl⟩
theorem next_any (a : Lst) (s : Smp) (ha : LstIn a) (ht : inB s.t) (hv : inB s.v) : Spec Tryd.prog GC 34 [.ptr 0 0 0, smpS s] [.cells 69 4 (lstX a)] (fun r ho => r = SV.tup [] ∧ ho = [some (.cells 69 4 (lstX (nxt a s)))]) := by
  obtain ⟨⟨h1, h2⟩, ⟨h3, h4⟩, ⟨h5, h6⟩, h7, h8⟩ := ha
  obtain ⟨g1, g2⟩ := ht
  obtain ⟨g3, g4⟩ := hv
  refine start 31 1 Tryd.func34 rfl rfl rfl rfl ?_
  refine r1 ?_
  refine s1 3 1 1 rfl rfl rfl rfl rfl rfl trivial ?_
  refine e1 9 rfl ?_
  refine keep [0, 3] rfl ?_
  refine W_seq ?_
  refine r1 ?_
  refine s1 4 9 1 rfl rfl rfl rfl rfl rfl trivial ?_
  refine s1 5 17 2 rfl rfl rfl rfl rfl rfl trivial ?_
  refine s1 6 25 3 rfl rfl rfl rfl rfl rfl trivial ?_
  refine s1 7 33 4 rfl rfl rfl rfl rfl rfl (by first | trivial | omega) ?_
  refine s1 8 41 5 rfl rfl rfl rfl rfl rfl (by first | trivial | omega) ?_
  refine e1 49 rfl ?_
  refine keep [0, 3, 8] rfl ?_
  refine q1 rfl (fun hc1 => ?_) (fun hc1 => ?_)
  · skip
    try simp only [cs, ne_eq] at hc1
    refine rd0 rfl ?_
    refine d1 9 49 1 rfl rfl rfl rfl rfl rfl trivial ?_
    refine d1 10 57 2 rfl rfl rfl rfl rfl rfl trivial ?_
    refine d1 11 65 3 rfl rfl rfl rfl rfl rfl (by first | trivial | omega) ?_
    refine d1 12 73 4 rfl rfl rfl rfl rfl rfl trivial ?_
    refine d1 13 81 5 rfl rfl rfl rfl rfl rfl trivial ?_
    refine d1 14 89 6 rfl rfl rfl rfl rfl rfl trivial ?_
    refine d1 15 97 7 rfl rfl rfl rfl rfl rfl trivial ?_
    refine d1 16 105 8 rfl rfl rfl rfl rfl rfl (by first | trivial | omega) ?_
    refine dA 17 113 9 rfl rfl rfl rfl rfl rfl rfl rfl rfl (by unfold inRange; omega) ?_
    refine d1 18 121 10 rfl rfl rfl rfl rfl rfl trivial ?_
    refine d1 19 129 11 rfl rfl rfl rfl rfl rfl trivial ?_
    refine d0 137 12 rfl rfl rfl rfl rfl (by first | trivial | omega) ?_
    refine de1 145 rfl (by kernel_rfl) ?_
    refine tn ?_
    refine r1 ?_
    refine s1 20 145 1 rfl rfl rfl rfl rfl rfl trivial ?_
    refine s1 21 153 2 rfl rfl rfl rfl rfl rfl (by first | trivial | omega) ?_
    refine s1 22 161 3 rfl rfl rfl rfl rfl rfl trivial ?_
    refine s1 23 169 4 rfl rfl rfl rfl rfl rfl trivial ?_
    refine s0 177 5 rfl rfl rfl rfl rfl (by first | trivial | omega) ?_
    refine e1 185 rfl ?_
    refine keep [0] rfl ?_
    refine r0 ?_
    refine s1 24 185 1 rfl rfl rfl rfl rfl rfl trivial ?_
    refine s1 25 193 2 rfl rfl rfl rfl rfl rfl trivial ?_
    refine s1 26 201 3 rfl rfl rfl rfl rfl rfl trivial ?_
    refine s1 27 209 4 rfl rfl rfl rfl rfl rfl (by first | trivial | omega) ?_
    refine sA 28 217 5 rfl rfl rfl rfl rfl rfl rfl rfl rfl (by unfold inRange; omega) ?_
    refine s1 29 225 6 rfl rfl rfl rfl rfl rfl trivial ?_
    refine s1 30 233 7 rfl rfl rfl rfl rfl rfl trivial ?_
    refine s0 241 8 rfl rfl rfl rfl rfl (by first | trivial | omega) ?_
    refine e1 249 rfl ?_
    exact out0 (π := [0]) (hout := [some (.cells 69 4 (lstX (nxt a s)))]) Tryd.results34 rfl rfl ⟨(by show some (Blk.cells _ _ _) = some (Blk.cells _ _ _); unfold nxt lstX; rw [if_pos (by omega)]; rfl), trivial⟩ ⟨rfl, rfl⟩
  try simp only [cs, ne_eq] at hc1
  refine W_skip ?_
  refine tn ?_
  refine r1 ?_
  refine s1 20 49 1 rfl rfl rfl rfl rfl rfl trivial ?_
  refine s1 21 57 2 rfl rfl rfl rfl rfl rfl (by first | trivial | omega) ?_
  refine s1 22 65 3 rfl rfl rfl rfl rfl rfl trivial ?_
  refine s1 23 73 4 rfl rfl rfl rfl rfl rfl trivial ?_
  refine s0 81 5 rfl rfl rfl rfl rfl (by first | trivial | omega) ?_
  refine e1 89 rfl ?_
  refine keep [0] rfl ?_
  refine r0 ?_
  refine s1 24 89 1 rfl rfl rfl rfl rfl rfl trivial ?_
  refine s1 25 97 2 rfl rfl rfl rfl rfl rfl trivial ?_
  refine s1 26 105 3 rfl rfl rfl rfl rfl rfl trivial ?_
  refine s1 27 113 4 rfl rfl rfl rfl rfl rfl (by first | trivial | omega) ?_
  refine sA 28 121 5 rfl rfl rfl rfl rfl rfl rfl rfl rfl (by unfold inRange; omega) ?_
  refine s1 29 129 6 rfl rfl rfl rfl rfl rfl trivial ?_
  refine s1 30 137 7 rfl rfl rfl rfl rfl rfl trivial ?_
  refine s0 145 8 rfl rfl rfl rfl rfl (by first | trivial | omega) ?_
  refine e1 153 rfl ?_
  exact out0 (π := [0]) (hout := [some (.cells 69 4 (lstX (nxt a s)))]) Tryd.results34 rfl rfl ⟨(by show some (Blk.cells _ _ _) = some (Blk.cells _ _ _); unfold nxt lstX; rw [if_neg (by omega)]; rfl), trivial⟩ ⟨rfl, rfl⟩
theorem encode_ok (l : List Smp) (hin : SmpIn l) (hz : sfault l = 0) : Spec Tryd.prog GC 14 [smpV l] [] (fun r ho => r = SV.tup [.sl 0 0 (encB l).length, SV.i 0] ∧ ho = [some (.rows 5 1 (encB l).length (u8F (encB l)))]) := by
  refine start 41 0 Tryd.func14 rfl rfl rfl rfl ?_
  refine r1 ?_
  refine s1 2 0 1 rfl rfl rfl rfl rfl rfl trivial ?_
  refine s1 3 8 2 rfl rfl rfl rfl rfl rfl trivial ?_
  refine e1 16 rfl ?_
  refine keep [0] rfl ?_
  refine W_seq ?_
  refine r1 ?_
  refine s1 11 16 1 rfl rfl rfl rfl rfl rfl trivial ?_
  refine s1 12 24 2 rfl rfl rfl rfl rfl rfl (by first | trivial | omega) ?_
  refine s1 13 32 3 rfl rfl rfl rfl rfl rfl (by first | trivial | omega) ?_
  refine e1 40 rfl ?_
  refine keep [0, 13] rfl ?_
  refine q1 rfl (fun hc1 => ?_) (fun hc1 => ?_)
  · skip
    exfalso; unfold sfault at hz; rw [if_pos (by simp at hc1; omega)] at hz; cases hz
  try simp only [cs, ne_eq] at hc1
  refine W_skip ?_
  refine tn ?_
  refine r1 ?_
  refine s1 4 40 1 rfl rfl rfl rfl rfl rfl trivial ?_
  refine e1 48 rfl ?_
  refine keep [0, 4] rfl ?_
  refine r1 ?_
  refine s1 5 48 1 rfl rfl rfl rfl rfl rfl trivial ?_
  refine e1 56 rfl ?_
  refine keep [0, 4, 5] rfl ?_
  refine cghostly 40 0 5 1 (u8F (pack [])) rfl rfl rfl ?_
  refine r1 ?_
  refine s1 14 64 1 rfl rfl rfl rfl rfl rfl trivial ?_
  refine s1 15 72 2 rfl rfl rfl rfl rfl rfl (by first | trivial | omega) ?_
  refine c1 (put_any [] allBits_nil (by decide) 8 l.length (by decide) ⟨by omega, by omega⟩) [40, 56] [40, 56, 80] 16 80 3 rfl rfl rfl rfl rfl rfl rfl rfl Tryd.func30 rfl rfl rfl rfl ⟨rfl, rfl, trivial⟩ rfl rfl ?_
  refine e1 88 rfl ?_
  refine keep [0, 4, 5] rfl ?_
  refine W_seq ?_
  refine r1 ?_
  refine s1 17 88 1 rfl rfl rfl rfl rfl rfl trivial ?_
  refine s1 18 96 2 rfl rfl rfl rfl rfl rfl (by first | trivial | omega) ?_
  refine s1 19 104 3 rfl rfl rfl rfl rfl rfl trivial ?_
  refine e1 112 rfl ?_
  refine keep [4, 5, 17, 18, 19] rfl ?_
  refine W_block ?_
  have hl := hin.n
  have hl2 : l.length ≤ 120 := (by omega)
  refine loop (α := Nat) 3 (fun k => [(4, .ptr 0 0 0), (5, .ptr 1 0 0), (17, smpV l), (18, SV.i l.length), (19, SV.i (k))]) (fun k => [some (.cells 65 2 [.sl 2 0 (pack (encL l (k))).length, SV.i (encL l (k)).length]), some (.cells 69 4 (lstX (lstN l (k)))), some (.rows 5 1 (pack (encL l (k))).length (u8F (pack (encL l (k)))))]) (fun k => (k) ≤ l.length ∧ faultTo l (k) = 0) (fun k => l.length - (k)) (((0) : Nat)) [40, 48, 80] (fun _ => rfl) (show (0) ≤ l.length ∧ faultTo l (0) = 0 from ⟨Nat.zero_le _, rfl⟩) rfl ⟨rfl, rfl, rfl, rfl, rfl, trivial⟩ ⟨rfl, rfl, rfl, trivial⟩ (fun k hx => ?_)
  show W _ _ _ ⟨tOf [(4, .ptr 0 0 0), (5, .ptr 1 0 0), (17, smpV l), (18, SV.i l.length), (19, SV.i k)], hOf [some (.cells 65 2 [.sl 2 0 (pack (encL l k)).length, SV.i (encL l k).length]), some (.cells 69 4 (lstX (lstN l k))), some (.rows 5 1 (pack (encL l k)).length (u8F (pack (encL l k))))], 3⟩
  have hx : k ≤ l.length ∧ faultTo l k = 0 := hx
  obtain ⟨hk, hf⟩ := hx
  have ha := lst_in hf (by omega)
  have hE := encL_bits l k
  have hEl := encL_len l k
  refine r1 ?_
  refine s1 20 3 1 rfl rfl rfl rfl rfl rfl (by first | trivial | omega) ?_
  refine e1 11 rfl ?_
  refine keep [4, 5, 17, 18, 19, 20] rfl ?_
  refine W_seq ?_
  refine q1 rfl (fun hc7 => ?_) (fun hc7 => ?_)
  · skip
    try simp only [cs, ne_eq] at hc7
    refine W_skip ?_
    refine tn ?_
    refine W_seq ?_
    refine W_block ?_
    refine r1 ?_
    refine s1 21 11 1 rfl rfl rfl rfl rfl rfl (by first | trivial | omega) ?_
    refine s1 22 19 2 rfl rfl rfl rfl rfl rfl (by first | trivial | omega) ?_
    refine val 22 (smpS (l.getD k default)) rfl (by first | rfl | (simp only [Nat.zero_add, Int.toNat_natCast]; rfl)) ?_
    refine s1 7 27 3 rfl rfl rfl rfl rfl rfl trivial ?_
    refine s0 35 4 rfl rfl rfl rfl rfl (by first | trivial | omega) ?_
    refine e1 43 rfl ?_
    refine keep [4, 5, 7, 17, 18, 19] rfl ?_
    refine W_seq ?_
    refine r1 ?_
    refine s1 23 43 1 rfl rfl rfl rfl rfl rfl (by first | trivial | omega) ?_
    refine c1 (fault_any (lstN l k) (l.getD k default)) [1] [1] 24 51 2 rfl rfl rfl rfl rfl rfl rfl rfl Tryd.func31 rfl rfl rfl rfl ⟨rfl, trivial⟩ rfl rfl ?_
    refine s1 8 59 3 rfl rfl rfl rfl rfl rfl trivial ?_
    refine e1 67 rfl ?_
    refine keep [4, 5, 7, 8, 17, 18, 19] rfl ?_
    refine r1 ?_
    refine s1 25 67 1 rfl rfl rfl rfl rfl rfl trivial ?_
    refine s1 26 75 2 rfl rfl rfl rfl rfl rfl (by first | trivial | omega) ?_
    refine e1 83 rfl ?_
    refine keep [4, 5, 7, 8, 17, 18, 19, 26] rfl ?_
    refine q1 rfl (fun hc10 => ?_) (fun hc10 => ?_)
    · skip
      exfalso; unfold sfault at hz; rw [if_neg (by omega)] at hz; have := (faultTo_down (faultTo_le (show k + 1 ≤ l.length by omega) hz)).2; simp at hc10; exact hc10 this
    try simp only [cs, ne_eq] at hc10
    have hf1 : lfault (lstN l k) (l.getD k default) = 0 := (by first | exact hc10 | (simp at hc10; exact hc10))
    have hs := lfault_zero hf1
    have hc := c_small ha hs.1 hs.2.1
    refine W_skip ?_
    refine tn ?_
    refine r1 ?_
    refine s1 29 83 1 rfl rfl rfl rfl rfl rfl (by first | trivial | omega) ?_
    refine c1 (codes_any (lstN l k) (l.getD k default) ha hs.1 hs.2.1) [1] [1] 30 91 2 rfl rfl rfl rfl rfl rfl rfl rfl Tryd.func32 rfl rfl rfl rfl ⟨rfl, trivial⟩ rfl rfl ?_
    refine s1 28 99 3 rfl rfl rfl rfl rfl rfl trivial ?_
    refine s1 31 107 4 rfl rfl rfl rfl rfl rfl trivial ?_
    refine s1 32 115 5 rfl rfl rfl rfl rfl rfl trivial ?_
    refine s1 9 123 6 rfl rfl rfl rfl rfl rfl trivial ?_
    refine s1 10 131 7 rfl rfl rfl rfl rfl rfl trivial ?_
    refine e1 139 rfl ?_
    refine keep [4, 5, 7, 9, 10, 17, 18, 19] rfl ?_
    refine r1 ?_
    refine s1 33 139 1 rfl rfl rfl rfl rfl rfl trivial ?_
    refine c1 (zput_any (encL l k) hE (by omega) (cT (lstN l k) (l.getD k default)) hc.1) [0, 2] [0, 2, 147] 34 147 2 rfl rfl rfl rfl rfl rfl rfl rfl Tryd.func33 rfl rfl rfl rfl ⟨rfl, rfl, trivial⟩ rfl rfl ?_
    refine e1 155 rfl ?_
    refine keep [4, 5, 7, 10, 17, 18, 19] rfl ?_
    refine r1 ?_
    refine s1 35 155 1 rfl rfl rfl rfl rfl rfl trivial ?_
    refine c1 (zput_any (zput (encL l k) (cT (lstN l k) (l.getD k default))) (zput_bits hE _) (by have := zput_len (encL l k) (cT (lstN l k) (l.getD k default)); omega) (cV (lstN l k) (l.getD k default)) hc.2) [0, 147] [0, 147, 163] 36 163 2 rfl rfl rfl rfl rfl rfl rfl rfl Tryd.func33 rfl rfl rfl rfl ⟨rfl, rfl, trivial⟩ rfl rfl ?_
    refine e1 171 rfl ?_
    refine keep [4, 5, 7, 17, 18, 19] rfl ?_
    refine r0 ?_
    refine s1 37 171 1 rfl rfl rfl rfl rfl rfl (by first | trivial | omega) ?_
    refine c1 (next_any (lstN l k) (l.getD k default) ha hs.1 hs.2.1) [1] [1] 38 179 2 rfl rfl rfl rfl rfl rfl rfl rfl Tryd.func34 rfl rfl rfl rfl ⟨rfl, trivial⟩ rfl rfl ?_
    refine e1 187 rfl ?_
    refine bn ?_
    refine tn ?_
    refine r0 ?_
    refine sA 39 187 1 rfl rfl rfl rfl rfl rfl rfl rfl rfl (by unfold inRange; omega) ?_
    refine s1 19 195 2 rfl rfl rfl rfl rfl rfl trivial ?_
    refine e1 203 rfl ?_
    refine tn ?_
    exact again ((k + 1 : Nat)) [0, 1, 163] (show (k + 1) ≤ l.length ∧ faultTo l (k + 1) = 0 from ⟨by omega, faultTo_step hf hf1⟩) (show l.length - (k + 1) < l.length - k from (by omega)) rfl ⟨rfl, rfl, rfl, rfl, rfl, trivial⟩ ⟨rfl, rfl, rfl, trivial⟩
  try simp only [cs, ne_eq] at hc7
  refine W_exit ?_
  refine tx ?_
  refine tx ?_
  refine bx ?_
  refine tn ?_
  refine r1 ?_
  refine c1 (bytes_any (encL l k)) [0, 2] [0, 2] 40 11 1 rfl rfl rfl rfl rfl rfl rfl rfl Tryd.func35 rfl rfl rfl rfl ⟨rfl, rfl, trivial⟩ rfl rfl ?_
  refine s1 2 19 2 rfl rfl rfl rfl rfl rfl trivial ?_
  refine s1 3 27 3 rfl rfl rfl rfl rfl rfl trivial ?_
  refine e1 35 rfl ?_
  refine keep [2, 3] rfl ?_
  refine W_ret ?_
  obtain rfl : k = l.length := (by omega)
  exact out2 2 3 (.sl 0 0 (encB l).length) (SV.i 0) (π := [2]) (hout := [some (.rows 5 1 (encB l).length (u8F (encB l)))]) Tryd.results14 rfl rfl rfl rfl rfl rfl ⟨rfl, trivial⟩ ⟨rfl, rfl⟩
theorem encode_bad (l : List Smp) (hin : SmpIn l) (hz : sfault l ≠ 0) : Spec Tryd.prog GC 14 [smpV l] [] (fun r ho => r = SV.tup [.d .nils, SV.i (sfault l)] ∧ ho = []) := by
  refine start 41 0 Tryd.func14 rfl rfl rfl rfl ?_
  refine r1 ?_
  refine s1 2 0 1 rfl rfl rfl rfl rfl rfl trivial ?_
  refine s1 3 8 2 rfl rfl rfl rfl rfl rfl trivial ?_
  refine e1 16 rfl ?_
  refine keep [0] rfl ?_
  refine W_seq ?_
  refine r1 ?_
  refine s1 11 16 1 rfl rfl rfl rfl rfl rfl trivial ?_
  refine s1 12 24 2 rfl rfl rfl rfl rfl rfl (by first | trivial | omega) ?_
  refine s1 13 32 3 rfl rfl rfl rfl rfl rfl (by first | trivial | omega) ?_
  refine e1 40 rfl ?_
  refine keep [0, 13] rfl ?_
  refine q1 rfl (fun hc1 => ?_) (fun hc1 => ?_)
  · skip
    try simp only [cs, ne_eq] at hc1
    refine r1 ?_
    refine s1 2 40 1 rfl rfl rfl rfl rfl rfl trivial ?_
    refine s1 3 48 2 rfl rfl rfl rfl rfl rfl trivial ?_
    refine e1 56 rfl ?_
    refine keep [2, 3] rfl ?_
    refine W_ret ?_
    refine tr ?_
    exact out2 2 3 (.d .nils) (SV.i (sfault l)) (π := []) (hout := []) Tryd.results14 rfl rfl rfl (by unfold sfault; rw [if_pos (by omega)]; rfl) rfl rfl trivial ⟨rfl, rfl⟩
  try simp only [cs, ne_eq] at hc1
  refine W_skip ?_
  refine tn ?_
  refine r1 ?_
  refine s1 4 40 1 rfl rfl rfl rfl rfl rfl trivial ?_
  refine e1 48 rfl ?_
  refine keep [0, 4] rfl ?_
  refine r1 ?_
  refine s1 5 48 1 rfl rfl rfl rfl rfl rfl trivial ?_
  refine e1 56 rfl ?_
  refine keep [0, 4, 5] rfl ?_
  refine cghostly 40 0 5 1 (u8F (pack [])) rfl rfl rfl ?_
  refine r1 ?_
  refine s1 14 64 1 rfl rfl rfl rfl rfl rfl trivial ?_
  refine s1 15 72 2 rfl rfl rfl rfl rfl rfl (by first | trivial | omega) ?_
  refine c1 (put_any [] allBits_nil (by decide) 8 l.length (by decide) ⟨by omega, by omega⟩) [40, 56] [40, 56, 80] 16 80 3 rfl rfl rfl rfl rfl rfl rfl rfl Tryd.func30 rfl rfl rfl rfl ⟨rfl, rfl, trivial⟩ rfl rfl ?_
  refine e1 88 rfl ?_
  refine keep [0, 4, 5] rfl ?_
  refine W_seq ?_
  refine r1 ?_
  refine s1 17 88 1 rfl rfl rfl rfl rfl rfl trivial ?_
  refine s1 18 96 2 rfl rfl rfl rfl rfl rfl (by first | trivial | omega) ?_
  refine s1 19 104 3 rfl rfl rfl rfl rfl rfl trivial ?_
  refine e1 112 rfl ?_
  refine keep [4, 5, 17, 18, 19] rfl ?_
  refine W_block ?_
  have hl := hin.n
  have hl2 : l.length ≤ 120 := (by omega)
  refine loop (α := Nat) 3 (fun k => [(4, .ptr 0 0 0), (5, .ptr 1 0 0), (17, smpV l), (18, SV.i l.length), (19, SV.i (k))]) (fun k => [some (.cells 65 2 [.sl 2 0 (pack (encL l (k))).length, SV.i (encL l (k)).length]), some (.cells 69 4 (lstX (lstN l (k)))), some (.rows 5 1 (pack (encL l (k))).length (u8F (pack (encL l (k)))))]) (fun k => (k) ≤ l.length ∧ faultTo l (k) = 0) (fun k => l.length - (k)) (((0) : Nat)) [40, 48, 80] (fun _ => rfl) (show (0) ≤ l.length ∧ faultTo l (0) = 0 from ⟨Nat.zero_le _, rfl⟩) rfl ⟨rfl, rfl, rfl, rfl, rfl, trivial⟩ ⟨rfl, rfl, rfl, trivial⟩ (fun k hx => ?_)
  show W _ _ _ ⟨tOf [(4, .ptr 0 0 0), (5, .ptr 1 0 0), (17, smpV l), (18, SV.i l.length), (19, SV.i k)], hOf [some (.cells 65 2 [.sl 2 0 (pack (encL l k)).length, SV.i (encL l k).length]), some (.cells 69 4 (lstX (lstN l k))), some (.rows 5 1 (pack (encL l k)).length (u8F (pack (encL l k))))], 3⟩
  have hx : k ≤ l.length ∧ faultTo l k = 0 := hx
  obtain ⟨hk, hf⟩ := hx
  have ha := lst_in hf (by omega)
  have hE := encL_bits l k
  have hEl := encL_len l k
  refine r1 ?_
  refine s1 20 3 1 rfl rfl rfl rfl rfl rfl (by first | trivial | omega) ?_
  refine e1 11 rfl ?_
  refine keep [4, 5, 17, 18, 19, 20] rfl ?_
  refine W_seq ?_
  refine q1 rfl (fun hc7 => ?_) (fun hc7 => ?_)
  · skip
    try simp only [cs, ne_eq] at hc7
    refine W_skip ?_
    refine tn ?_
    refine W_seq ?_
    refine W_block ?_
    refine r1 ?_
    refine s1 21 11 1 rfl rfl rfl rfl rfl rfl (by first | trivial | omega) ?_
    refine s1 22 19 2 rfl rfl rfl rfl rfl rfl (by first | trivial | omega) ?_
    refine val 22 (smpS (l.getD k default)) rfl (by first | rfl | (simp only [Nat.zero_add, Int.toNat_natCast]; rfl)) ?_
    refine s1 7 27 3 rfl rfl rfl rfl rfl rfl trivial ?_
    refine s0 35 4 rfl rfl rfl rfl rfl (by first | trivial | omega) ?_
    refine e1 43 rfl ?_
    refine keep [4, 5, 7, 17, 18, 19] rfl ?_
    refine W_seq ?_
    refine r1 ?_
    refine s1 23 43 1 rfl rfl rfl rfl rfl rfl (by first | trivial | omega) ?_
    refine c1 (fault_any (lstN l k) (l.getD k default)) [1] [1] 24 51 2 rfl rfl rfl rfl rfl rfl rfl rfl Tryd.func31 rfl rfl rfl rfl ⟨rfl, trivial⟩ rfl rfl ?_
    refine s1 8 59 3 rfl rfl rfl rfl rfl rfl trivial ?_
    refine e1 67 rfl ?_
    refine keep [4, 5, 7, 8, 17, 18, 19] rfl ?_
    refine r1 ?_
    refine s1 25 67 1 rfl rfl rfl rfl rfl rfl trivial ?_
    refine s1 26 75 2 rfl rfl rfl rfl rfl rfl (by first | trivial | omega) ?_
    refine e1 83 rfl ?_
    refine keep [4, 5, 7, 8, 17, 18, 19, 26] rfl ?_
    refine q1 rfl (fun hc10 => ?_) (fun hc10 => ?_)
    · skip
      try simp only [cs, ne_eq] at hc10
      refine r1 ?_
      refine s1 27 83 1 rfl rfl rfl rfl rfl rfl trivial ?_
      refine s1 2 91 2 rfl rfl rfl rfl rfl rfl trivial ?_
      refine s1 3 99 3 rfl rfl rfl rfl rfl rfl trivial ?_
      refine e1 107 rfl ?_
      refine keep [2, 3] rfl ?_
      refine W_ret ?_
      refine tr ?_
      refine br ?_
      refine tr ?_
      refine tr ?_
      refine br ?_
      refine tr ?_
      exact out2 2 3 (.d .nils) (SV.i (sfault l)) (π := []) (hout := []) Tryd.results14 rfl rfl rfl (by unfold sfault; rw [if_neg (by omega), faultTo_at (by omega) hf hc10]; rfl) rfl rfl trivial ⟨rfl, rfl⟩
    try simp only [cs, ne_eq] at hc10
    have hf1 : lfault (lstN l k) (l.getD k default) = 0 := (by first | exact hc10 | (simp at hc10; exact hc10))
    have hs := lfault_zero hf1
    have hc := c_small ha hs.1 hs.2.1
    refine W_skip ?_
    refine tn ?_
    refine r1 ?_
    refine s1 29 83 1 rfl rfl rfl rfl rfl rfl (by first | trivial | omega) ?_
    refine c1 (codes_any (lstN l k) (l.getD k default) ha hs.1 hs.2.1) [1] [1] 30 91 2 rfl rfl rfl rfl rfl rfl rfl rfl Tryd.func32 rfl rfl rfl rfl ⟨rfl, trivial⟩ rfl rfl ?_
    refine s1 28 99 3 rfl rfl rfl rfl rfl rfl trivial ?_
    refine s1 31 107 4 rfl rfl rfl rfl rfl rfl trivial ?_
    refine s1 32 115 5 rfl rfl rfl rfl rfl rfl trivial ?_
    refine s1 9 123 6 rfl rfl rfl rfl rfl rfl trivial ?_
    refine s1 10 131 7 rfl rfl rfl rfl rfl rfl trivial ?_
    refine e1 139 rfl ?_
    refine keep [4, 5, 7, 9, 10, 17, 18, 19] rfl ?_
    refine r1 ?_
    refine s1 33 139 1 rfl rfl rfl rfl rfl rfl trivial ?_
    refine c1 (zput_any (encL l k) hE (by omega) (cT (lstN l k) (l.getD k default)) hc.1) [0, 2] [0, 2, 147] 34 147 2 rfl rfl rfl rfl rfl rfl rfl rfl Tryd.func33 rfl rfl rfl rfl ⟨rfl, rfl, trivial⟩ rfl rfl ?_
    refine e1 155 rfl ?_
    refine keep [4, 5, 7, 10, 17, 18, 19] rfl ?_
    refine r1 ?_
    refine s1 35 155 1 rfl rfl rfl rfl rfl rfl trivial ?_
    refine c1 (zput_any (zput (encL l k) (cT (lstN l k) (l.getD k default))) (zput_bits hE _) (by have := zput_len (encL l k) (cT (lstN l k) (l.getD k default)); omega) (cV (lstN l k) (l.getD k default)) hc.2) [0, 147] [0, 147, 163] 36 163 2 rfl rfl rfl rfl rfl rfl rfl rfl Tryd.func33 rfl rfl rfl rfl ⟨rfl, rfl, trivial⟩ rfl rfl ?_
    refine e1 171 rfl ?_
    refine keep [4, 5, 7, 17, 18, 19] rfl ?_
    refine r0 ?_
    refine s1 37 171 1 rfl rfl rfl rfl rfl rfl (by first | trivial | omega) ?_
    refine c1 (next_any (lstN l k) (l.getD k default) ha hs.1 hs.2.1) [1] [1] 38 179 2 rfl rfl rfl rfl rfl rfl rfl rfl Tryd.func34 rfl rfl rfl rfl ⟨rfl, trivial⟩ rfl rfl ?_
    refine e1 187 rfl ?_
    refine bn ?_
    refine tn ?_
    refine r0 ?_
    refine sA 39 187 1 rfl rfl rfl rfl rfl rfl rfl rfl rfl (by unfold inRange; omega) ?_
    refine s1 19 195 2 rfl rfl rfl rfl rfl rfl trivial ?_
    refine e1 203 rfl ?_
    refine tn ?_
    exact again ((k + 1 : Nat)) [0, 1, 163] (show (k + 1) ≤ l.length ∧ faultTo l (k + 1) = 0 from ⟨by omega, faultTo_step hf hf1⟩) (show l.length - (k + 1) < l.length - k from (by omega)) rfl ⟨rfl, rfl, rfl, rfl, rfl, trivial⟩ ⟨rfl, rfl, rfl, trivial⟩
  try simp only [cs, ne_eq] at hc7
  refine W_exit ?_
  refine tx ?_
  refine tx ?_
  refine bx ?_
  refine tn ?_
  refine r1 ?_
  refine c1 (bytes_any (encL l k)) [0, 2] [0, 2] 40 11 1 rfl rfl rfl rfl rfl rfl rfl rfl Tryd.func35 rfl rfl rfl rfl ⟨rfl, rfl, trivial⟩ rfl rfl ?_
  refine s1 2 19 2 rfl rfl rfl rfl rfl rfl trivial ?_
  refine s1 3 27 3 rfl rfl rfl rfl rfl rfl trivial ?_
  refine e1 35 rfl ?_
  refine keep [2, 3] rfl ?_
  refine W_ret ?_
  exact absurd (show sfault l = 0 from (by unfold sfault; rw [if_neg (by omega), show l.length = k by omega]; exact hf)) hz
end Go.Proofs.YtpdojmebloekgaaDoor.Nice.Co
namespace Go.Proofs.YtpdojmebloekgaaDoor.Nice.Co
open Go Go.Conc Go.Conc.Lib Go.ConcR.Gen
open Go.ConcR (KK WgAt stA smA mk DC0)
set_option linter.unusedVariables false
set_option linter.unusedSimpArgs false
set_option maxRecDepth 100000
set_option maxHeartbeats 4000000
section
variable {p : Pr} {Pst : Value → World → Prop}
theorem closer28 (hn : p.n < 2147483647) : Child Tryd.prog GC p Pst 28 (clCaps p) (.cw p.n) := by
  refine child_start (hl := by simp) (hm := rfl) Tryd.func28 rfl rfl (Nat.le_of_ble_eq_true rfl) fun Rd M a w hs hsh => ?_
  refine Tr.idle _ rfl (fun _ => stepG_seq) ?_
  refine Tr.idle _ rfl (fun _ => stepG_region) ?_
  rw [List.range_eq_range']
  refine RX.run (C := ⟨Tryd.prog, 4, 0, GC⟩) (i := 0) (Z := ZB Tryd.prog 28 _) (σ := stOf (argT 0 (clCaps p)) []) ?_ hs (Nat.le_refl _) (by simp [baseD]) ⟨rfl, rfl, rfl⟩
  refine RX_wait ZB.up YtpdojmebloekgaaDoor.wgLib rfl rfl rfl rfl rfl hn (hl' := by simp) (hm' := rfl) ?_
  intro A' M' ρ' a' w' hs' b k cs hb ⟨hb1, hcs, hk⟩
  subst hb1 hcs hk
  refine Tr.idle _ rfl (fun _ => stepG_region_end) ?_
  refine Tr.idle _ rfl (fun _ => stepG_region) ?_
  rw [List.range_eq_range']
  refine RX.run (C := ⟨Tryd.prog, 4, 0, GC⟩) (i := 0) (Z := ZB Tryd.prog 28 []) (σ := ⟨upd (tOf (argT 0 (clCaps p))) 2 .any, hOf [], 8⟩) ?_ hs'.bump (Nat.le_refl _) (by simp [baseD]) ⟨rfl, rfl, rfl⟩
  refine RX_ops ZB.up [_] 0 _ (fun j hj => by simp at hj; subst hj; rfl) ?_
  refine s1 3 8 1 rfl rfl rfl rfl rfl rfl (by decide) ?_
  refine e1 24 rfl ?_
  refine RX_close rfl rfl rfl rfl (fun M w b k cs a hz hd => ?_)
  obtain ⟨rfl, rfl, rfl⟩ := hz
  refine ⟨rfl, 4, ?_⟩
  q_c stepG_region_end
  q_c stepG_end
  obtain ⟨T, d⟩ := a
  simp only at hd
  subst hd
  exact bot_quits Tryd.func28 rfl
def encT (l : List Smp) (k : Nat) : SV := .agg [SV.i k, .d (if sfault l = 0 then .vec 1 (encB l).length (u8F (encB l)) else .nils), SV.i (sfault l)]
def tl26 (p : Pr) (k : Nat) (W : D) (c : Int) : List (Nat × SV) := [(3, .vp 1 1 (fun _ _ => .val (.chan (some p.Ch))) 0 0), (4, .vp 1 1 (fun _ _ => .val (.int .i64 k)) 0 0), (5, .d W), (6, SV.i c)]
theorem tail26 (hn : p.n < 2147483647) (k : Nat) (W : D) (c : Int) (hW : (∃ n f, W = .vec 1 n f) ∨ W = .nils) (hT : ∀ M v, (∀ ρ, VR M ρ (.agg [SV.i k, .d W, SV.i c]) v) → p.Tell k M v) {A Rd : Blks} {M : Imm} {ρ : Names} {a : Act} {w : World} {hl : Lo.wk k ≠ .out} {hm : (Lo.wk k).mute = false}
    (hs : SX ⟨Tryd.prog, 18, 0, GC⟩ A Rd M [dcall 27 #[.pointer (some ⟨p.Wg, 0, none⟩)]] ρ 0 (stOf (tl26 p k W c) []) a w) :
    (trRun Tryd.prog p Pst false Rd 0 (.wk k) hl hm).T A (G ((baseD 26).at a [.code (.region 2 #[{ dst := some 13, op := Go.Op.load 49 (Go.Operand.tmp 3), type := 49, pos := "crew.go:31", after := #[], guard := none }, { dst := some 14, op := Go.Op.load 3 (Go.Operand.tmp 4), type := 3, pos := "crew.go:31", after := #[], guard := none }, { dst := some 15, op := Go.Op.move (Go.Operand.tmp 5), type := 39, pos := "crew.go:31", after := #[], guard := none }, { dst := some 16, op := Go.Op.move (Go.Operand.tmp 6), type := 24, pos := "crew.go:31", after := #[], guard := none }, { dst := some 17, op := Go.Op.build 62 #[(0, Go.Operand.tmp 14), (1, Go.Operand.tmp 15), (2, Go.Operand.tmp 16)], type := 62, pos := "crew.go:31", after := #[{ on := 1, ground := Go.Ground.data }, { on := 2, ground := Go.Ground.data }, { on := 3, ground := Go.Ground.data }], guard := none }, { dst := none, op := Go.Op.send (Go.Operand.tmp 13) (Go.Operand.tmp 17), type := 0, pos := "crew.go:31", after := #[{ on := 0, ground := Go.Ground.data }, { on := 4, ground := Go.Ground.data }], guard := none }] false)]) [botP Tryd.prog]) w := by
  rcases hW with ⟨n, f, rfl⟩ | rfl
  · refine Tr.idle _ rfl (fun _ => stepG_region) ?_
    rw [List.range_eq_range']
    refine RX.run (C := ⟨Tryd.prog, 18, 0, GC⟩) (i := 0) (Z := ZB Tryd.prog 26 []) (σ := stOf (tl26 p k (.vec 1 n f) c) []) ?_ hs (Nat.le_refl _) (by simp [baseD]) ⟨rfl, rfl, rfl⟩
    refine RX_ops ZB.up [_, _, _, _, _] 0 _ (fun j hj => by simp at hj; match j, hj with | 0, _ => rfl | 1, _ => rfl | 2, _ => rfl | 3, _ => rfl | 4, _ => rfl) ?_
    refine s1 13 0 1 rfl rfl rfl rfl rfl rfl (by decide) ?_
    refine s1 14 8 2 rfl rfl rfl rfl rfl rfl (by decide) ?_
    refine s1 15 16 3 rfl rfl rfl rfl rfl rfl trivial ?_
    refine s1 16 24 4 rfl rfl rfl rfl rfl rfl trivial ?_
    refine s1 17 32 5 rfl rfl rfl rfl rfl rfl trivial ?_
    refine e1 48 rfl ?_
    refine RX_send (T := .agg [SV.i k, .d (.vec 1 n f), SV.i c]) rfl rfl rfl rfl rfl rfl hT (fun M w b kk cs a hz hd w₁ hlv => ?_)
    obtain ⟨rfl, rfl, rfl⟩ := hz
    obtain ⟨T, d⟩ := a
    simp only at hd
    subst hd
    exact worker_tail YtpdojmebloekgaaDoor.wgLib hn Tryd.func26 rfl hlv
  · refine Tr.idle _ rfl (fun _ => stepG_region) ?_
    rw [List.range_eq_range']
    refine RX.run (C := ⟨Tryd.prog, 18, 0, GC⟩) (i := 0) (Z := ZB Tryd.prog 26 []) (σ := stOf (tl26 p k .nils c) []) ?_ hs (Nat.le_refl _) (by simp [baseD]) ⟨rfl, rfl, rfl⟩
    refine RX_ops ZB.up [_, _, _, _, _] 0 _ (fun j hj => by simp at hj; match j, hj with | 0, _ => rfl | 1, _ => rfl | 2, _ => rfl | 3, _ => rfl | 4, _ => rfl) ?_
    refine s1 13 0 1 rfl rfl rfl rfl rfl rfl (by decide) ?_
    refine s1 14 8 2 rfl rfl rfl rfl rfl rfl (by decide) ?_
    refine s1 15 16 3 rfl rfl rfl rfl rfl rfl trivial ?_
    refine s1 16 24 4 rfl rfl rfl rfl rfl rfl trivial ?_
    refine s1 17 32 5 rfl rfl rfl rfl rfl rfl trivial ?_
    refine e1 48 rfl ?_
    refine RX_send (T := .agg [SV.i k, .d .nils, SV.i c]) rfl rfl rfl rfl rfl rfl hT (fun M w b kk cs a hz hd w₁ hlv => ?_)
    obtain ⟨rfl, rfl, rfl⟩ := hz
    obtain ⟨T, d⟩ := a
    simp only at hd
    subst hd
    exact worker_tail YtpdojmebloekgaaDoor.wgLib hn Tryd.func26 rfl hlv
theorem worker26 (hn : p.n < 2147483647) (l : List Smp) (hin : SmpIn l) (k : Nat) (hT : ∀ M v, (∀ ρ, VR M ρ (encT l k) v) → p.Tell k M v) : Child Tryd.prog GC p Pst 26 (wkCaps p 14 (.vec 2 l.length (smpF l)) k) (.wk k) := by
  refine child_start (hl := by simp) (hm := rfl) Tryd.func26 rfl rfl (Nat.le_of_ble_eq_true rfl) fun Rd M a w hs hsh => ?_
  have hptr : a.eval (.tmp 0) = .pointer (some ⟨p.Wg, 0, none⟩) := hs.val (x := .tmp 0) rfl
  refine Tr.idle _ rfl (fun _ => stepG_seq) ?_
  refine Tr.idle _ rfl (fun _ => stepG_region) ?_
  refine Tr.idle _ rfl (fun _ => stepG_defer (i := 0) (rest := []) rfl rfl (by simp [baseD]) rfl) ?_
  refine Tr.idle _ rfl (fun _ => stepG_region_end) ?_
  refine Tr.idle _ rfl (fun _ => stepG_seq) ?_
  refine Tr.idle _ rfl (fun _ => stepG_region) ?_
  rw [List.range_eq_range']
  have hs1 : SX ⟨Tryd.prog, 18, 0, GC⟩ no Rd M [dcall 27 #[.pointer (some ⟨p.Wg, 0, none⟩)]] pin0 8 ⟨tOf (argT 0 (wkCaps p 14 (.vec 2 l.length (smpF l)) k)), hOf [], 8⟩ (Act.put ⟨a.tmps, dcall 27 (#[Operand.tmp 0].map a.eval) :: a.defers⟩ none undef) w := by
    have hb := (hs.le (nb' := 8) (by omega)).bump
    refine ⟨hb.fit, hb.sr, ?_, hb.fr⟩
    simp [Act.put, hs.df, hptr]
  refine RX.run (C := ⟨Tryd.prog, 18, 0, GC⟩) (i := 0) (Z := ZB Tryd.prog 26 _) (σ := ⟨tOf (argT 0 (wkCaps p 14 (.vec 2 l.length (smpF l)) k)), hOf [], 8⟩) ?_ hs1 (Nat.le_refl _) (by simp [baseD]) ⟨rfl, rfl, rfl⟩
  refine RX_ops ZB.up [_, _, _, _, _, _, _, _] 0 _ (fun j hj => by simp at hj; match j, hj with | 0, _ => rfl | 1, _ => rfl | 2, _ => rfl | 3, _ => rfl | 4, _ => rfl | 5, _ => rfl | 6, _ => rfl | 7, _ => rfl) ?_
  refine s1 8 8 1 rfl rfl rfl rfl rfl rfl (by decide) ?_
  refine s1 9 16 2 rfl rfl rfl rfl rfl rfl (by decide) ?_
  by_cases hz : sfault l = 0
  · refine c1f (encode_ok l hin hz) [24] 10 24 3 rfl rfl rfl rfl rfl rfl rfl rfl Tryd.func14 rfl rfl rfl rfl rfl ?_
    refine s1 7 32 4 rfl rfl rfl rfl rfl rfl trivial ?_
    refine s1 11 40 5 rfl rfl rfl rfl rfl rfl trivial ?_
    refine s1 12 48 6 rfl rfl rfl rfl rfl rfl trivial ?_
    refine s1 5 56 7 rfl rfl rfl rfl rfl rfl trivial ?_
    refine s1 6 64 8 rfl rfl rfl rfl rfl rfl trivial ?_
    refine e1 72 rfl ?_
    intro A' M' ρ' a' w' hs' b kk cs hb ⟨hb1, hcs, hk⟩
    subst hb1 hcs hk
    refine Tr.idle _ rfl (fun _ => stepG_region_end) ?_
    obtain ⟨M2, ρ2, hle, hs2⟩ := hs'.bump.freeze 5 24 (encB l).length rfl rfl (Nat.le_refl _)
    have hs3 := hs2.sub (π := []) (tl := tl26 p k (.vec 1 (encB l).length (u8F (encB l))) 0) (hl := []) ⟨rfl, ⟨rfl, rfl, rfl, rfl, trivial⟩, trivial⟩
    refine tail26 hn k _ 0 (.inl ⟨_, _, rfl⟩) (fun M v hv => hT M v ?_) hs3
    have e : encT l k = .agg [SV.i k, .d (.vec 1 (encB l).length (u8F (encB l))), SV.i 0] := by unfold encT; rw [if_pos hz, hz]
    rw [e]; exact hv
  · refine c1f (encode_bad l hin hz) [] 10 24 3 rfl rfl rfl rfl rfl rfl rfl rfl Tryd.func14 rfl rfl rfl rfl rfl ?_
    refine s1 7 32 4 rfl rfl rfl rfl rfl rfl trivial ?_
    refine s1 11 40 5 rfl rfl rfl rfl rfl rfl trivial ?_
    refine s1 12 48 6 rfl rfl rfl rfl rfl rfl trivial ?_
    refine s1 5 56 7 rfl rfl rfl rfl rfl rfl trivial ?_
    refine s1 6 64 8 rfl rfl rfl rfl rfl rfl trivial ?_
    refine e1 72 rfl ?_
    intro A' M' ρ' a' w' hs' b kk cs hb ⟨hb1, hcs, hk⟩
    subst hb1 hcs hk
    refine Tr.idle _ rfl (fun _ => stepG_region_end) ?_
    have hs3 := hs'.bump.sub (π := []) (tl := tl26 p k .nils (sfault l)) (hl := []) ⟨rfl, ⟨rfl, rfl, rfl, rfl, trivial⟩, trivial⟩
    refine tail26 hn k _ _ (.inr rfl) (fun M v hv => hT M v ?_) hs3
    have e : encT l k = .agg [SV.i k, .d .nils, SV.i (sfault l)] := by unfold encT; rw [if_neg hz]
    rw [e]; exact hv
end
end Go.Proofs.YtpdojmebloekgaaDoor.Nice.Co
namespace Go.Proofs.YtpdojmebloekgaaDoor.Nice.Co
open Go Go.Conc Go.Conc.Lib Go.ConcR.Gen
open Go.ConcR (KK WgAt stA smA mk DC0)
set_option linter.unusedVariables false
set_option linter.unusedSimpArgs false
set_option maxRecDepth 100000
set_option maxHeartbeats 4000000
noncomputable abbrev CE : Ctx := ⟨Tryd.prog, 63, 0, GC⟩
def elD (L : List (List Smp)) (i : Nat) : D := .vec 2 (L.getD i []).length (smpF (L.getD i []))
def listE (L : List (List Smp)) : SV := .d (.vec 1 L.length (fun i _ => elD L i))
def tellE (L : List (List Smp)) : Nat → Imm → Value → Prop := fun k M v => ∀ ρ, VR M ρ (encT (L.getD k []) k) v
abbrev pE (L : List (List Smp)) (Wg Ch : Nat) : Pr := ⟨L.length, Wg, Ch, 59, tellE L⟩
def tlS (L : List (List Smp)) (Wg Ch : Nat) (j : Nat) : List (Nat × SV) :=
  [(0, listE L), (3, .vp 1 1 (fun _ _ => .val (.func (.func 14) #[] #[])) 0 0), (6, .vp 1 1 (fun _ _ => .val (.chan (some Ch))) 0 0), (7, .d (.val (.pointer (some ⟨Wg, 0, none⟩)))), (19, listE L), (20, SV.i L.length), (21, SV.i j)]
noncomputable def rest13 : Code := match Tryd.f13.body.getD .skip with | .seq _ (.seq _ (.seq _ (.seq _ (.seq _ c)))) => c | _ => .skip
theorem each13_a {Pst : Value → World → Prop} (L : List (List Smp)) (hL : L.length ≤ 100) (hin : ∀ l, l ∈ L → SmpIn l) (Rd : Blks) {Q : QX Tryd.prog}
    (hrest : ∀ Wg Ch Rd' π σ, Sub CE π σ (tlS L Wg Ch L.length) [] → WX CE rest13 Q (trRun Tryd.prog (pE L Wg Ch) Pst true Rd' 0 (.spawn L.length false) hS rfl) [] σ) : WX CE (Tryd.f13.body.getD .skip) Q (trPre Tryd.prog Pst Rd .p0) [] (stOf (argT 0 [listE L, .fn 14 []]) []) := by
  obtain ⟨inf, hinf⟩ : ∃ inf, Tryd.prog.info? 62 = some inf := Option.isSome_iff_exists.1 (by kernel_rfl)
  refine x1 ?_
  refine s1 3 0 1 rfl rfl rfl rfl rfl rfl trivial ?_
  refine s1 4 8 2 rfl rfl rfl rfl rfl rfl trivial ?_
  refine s1 5 16 3 rfl rfl rfl rfl rfl rfl trivial ?_
  refine e1 24 rfl ?_
  refine WX_seq ?_
  refine x1 ?_
  refine s1 15 24 1 rfl rfl rfl rfl rfl rfl trivial ?_
  refine s1 16 32 2 rfl rfl rfl rfl rfl rfl trivial ?_
  refine s1 17 40 3 rfl rfl rfl rfl rfl rfl trivial ?_
  refine e1 48 rfl ?_
  refine WX_cond rfl (fun hc => ?_) fun hc => ?_
  · exfalso
    simp at hc; omega
  refine WX_skip ?_
  refine xtn ?_
  refine WX_cfreeze 3 0 (.val (.func (.func 14) #[] #[])) rfl rfl dr_of_fn ?_
  refine xX1 ?_
  refine RX_makeChan PZ.up rfl rfl rfl rfl Tryd.underlying49 hinf rfl fun Ch => ?_
  refine RX_ops PZ.up [_, _] 1 _ (fun j hj => by simp at hj; match j, hj with | 0, _ => rfl | 1, _ => rfl) ?_
  refine s1 6 56 2 rfl rfl rfl rfl rfl rfl trivial ?_
  refine s0 64 3 rfl rfl rfl rfl rfl trivial ?_
  refine e1 72 rfl ?_
  refine RX_end rfl rfl ?_
  refine xtn ?_
  refine WX_cfreeze 6 56 (.val (.chan (some Ch))) rfl rfl dr_of_d ?_
  refine xX1 ?_
  refine RX_allocWg PZ.up rfl rfl rfl run_alloc59 ev_alloc59 rfl L.length (tellE L) (hl := hS) (hm := rfl) fun Wg => ?_
  refine RX_end rfl rfl ?_
  refine xtn ?_
  refine WX_seq ?_
  refine x1 ?_
  refine s1 19 80 1 rfl rfl rfl rfl rfl rfl trivial ?_
  refine s1 20 88 2 rfl rfl rfl rfl rfl rfl trivial ?_
  refine s1 21 96 3 rfl rfl rfl rfl rfl rfl trivial ?_
  refine e1 104 rfl ?_
  refine WX_block ?_
  refine WX_loop0 (fun m K ds σ => ds = [] ∧ ∃ j Rd' π, j ≤ L.length ∧ m = L.length - j ∧ K = trRun Tryd.prog (pE L Wg Ch) Pst true Rd' 0 (.spawn j false) hS rfl ∧ Sub CE π σ (tlS L Wg Ch j) []) L.length ⟨rfl, 0, _, [], Nat.zero_le _, rfl, rfl, ⟨rfl, ⟨rfl, rfl, rfl, rfl, rfl, rfl, rfl, trivial⟩, trivial⟩⟩ ?_
  rintro m K ds σ ⟨rfl, j, Rd', π, hj, rfl, rfl, hsub⟩
  refine WX_sub π _ _ hsub ?_
  refine x1 ?_
  refine s1 22 0 1 rfl rfl rfl rfl rfl rfl trivial ?_
  refine e1 8 rfl ?_
  refine WX_seq ?_
  refine WX_cond rfl (fun hc => ?_) fun hc => ?_
  · have hjn : j < L.length := by simpa using hc
    refine WX_skip ?_
    refine xtn ?_
    refine WX_seq ?_
    refine WX_block ?_
    refine x1 ?_
    refine s1 23 8 1 rfl rfl rfl rfl rfl rfl trivial ?_
    refine s1 24 16 2 rfl rfl rfl rfl rfl rfl (by omega) ?_
    refine s1 25 24 3 rfl rfl rfl rfl rfl rfl (by omega) ?_
    refine s1 8 32 4 rfl rfl rfl rfl rfl rfl trivial ?_
    refine s1 9 40 5 rfl rfl rfl rfl rfl rfl trivial ?_
    refine s0 48 6 rfl rfl rfl rfl rfl trivial ?_
    refine s0 56 7 rfl rfl rfl rfl rfl trivial ?_
    refine e1 64 rfl ?_
    refine WX_cfreeze 8 32 (.val (.int .i64 j)) rfl rfl dr_of_d ?_
    refine WX_cfreeze 9 40 (elD L j) rfl rfl dr_of_d ?_
    refine xX1 ?_
    refine RX_add PZ.up YtpdojmebloekgaaDoor.wgLib rfl rfl rfl rfl rfl rfl hjn (Nat.lt_of_le_of_lt hL (by omega)) (hl' := hS) (hm' := rfl) ?_
    refine RX_end rfl rfl ?_
    refine xtn ?_
    refine xX0 ?_
    refine RX_ops PZ.up [_] 0 _ (fun j hj => by simp at hj; subst hj; rfl) ?_
    refine s1 27 72 1 rfl rfl rfl rfl rfl rfl trivial ?_
    refine e1 88 rfl ?_
    refine RX_spawnW PZ.up rfl rfl rfl rfl rfl ?_ (hl' := hS) (hm' := rfl) (worker26 (p := pE L Wg Ch) (Nat.lt_of_le_of_lt hL (by omega)) (L.getD j []) ?_ j (fun M v h => h)) fun Rd2 => ?_
    · exact fun y hy => List.all_eq_true.1 (show (wkCaps (pE L Wg Ch) 14 _ j).all SV.dataB = true from rfl) y hy
    · refine hin _ ?_
      rw [List.getD_eq_getElem?_getD, List.getElem?_eq_getElem hjn]
      exact List.getElem_mem hjn
    refine RX_end rfl rfl ?_
    refine xbn ?_
    refine xtn ?_
    refine x0 ?_
    refine sA 28 88 1 rfl rfl rfl rfl rfl rfl rfl rfl rfl (by unfold inRange; omega) ?_
    refine s1 21 96 2 rfl rfl rfl rfl rfl rfl trivial ?_
    refine e1 104 rfl ?_
    exact ⟨L.length - (j + 1), by omega, rfl, j + 1, Rd2, [], by omega, rfl, rfl, ⟨rfl, ⟨rfl, rfl, rfl, rfl, rfl, rfl, rfl, trivial⟩, trivial⟩⟩
  · have hjn : j = L.length := by have : ¬ ((j : Int) < L.length) := by simpa using hc
                                  omega
    subst hjn
    refine WX_exit ?_
    refine xtx ?_
    refine xtx ?_
    refine xbo ?_
    refine xtn ?_
    exact hrest Wg Ch Rd' [] _ ⟨rfl, ⟨rfl, rfl, rfl, rfl, rfl, rfl, rfl, trivial⟩, trivial⟩
end Go.Proofs.YtpdojmebloekgaaDoor.Nice.Co
namespace Go.Proofs.YtpdojmebloekgaaDoor.Nice.Co
open Go
set_option linter.unusedVariables false
set_option linter.unusedSimpArgs false
set_option maxRecDepth 100000
def whatE (L : List (List Smp)) (i : Nat) : D := if sfault (L.getD i []) = 0 then .vec 1 (encB (L.getD i [])).length (u8F (encB (L.getD i []))) else .nils
def faultsTo (L : List (List Smp)) : Nat → Int
  | 0 => 0
  | n + 1 => if faultsTo L n = 0 then sfault (L.getD n []) else faultsTo L n
def firstE (L : List (List Smp)) : Int := faultsTo L L.length
theorem faultsTo_stay {L : List (List Smp)} {k n : Nat} (hk : k ≤ n) (h : faultsTo L k ≠ 0) : faultsTo L n = faultsTo L k := by
  induction n with
  | zero => obtain rfl : k = 0 := by omega
            rfl
  | succ n ih =>
    by_cases e : k = n + 1
    · subst e; rfl
    · have := ih (by omega)
      show (if faultsTo L n = 0 then _ else _) = _
      rw [if_neg (by rw [this]; exact h), this]
theorem faultsTo_at {L : List (List Smp)} {k n : Nat} (hk : k < n) (h0 : faultsTo L k = 0) (h : sfault (L.getD k []) ≠ 0) : faultsTo L n = sfault (L.getD k []) := by
  have e : faultsTo L (k + 1) = sfault (L.getD k []) := by show (if _ then _ else _) = _; rw [if_pos h0]
  rw [faultsTo_stay (k := k + 1) hk (by rw [e]; exact h), e]
theorem faultsTo_step {L : List (List Smp)} {k : Nat} (h0 : faultsTo L k = 0) (h : sfault (L.getD k []) = 0) : faultsTo L (k + 1) = 0 := by show (if _ then _ else _) = _; rw [if_pos h0, h]
def encAns (L : List (List Smp)) : SV := if 100 < L.length then .tup [.d .nils, SV.i 1] else if firstE L = 0 then .tup [.d (.vec 1 L.length (fun i _ => whatE L i)), SV.i 0] else .tup [.d .nils, SV.i (firstE L)]
theorem ans_ok {L : List (List Smp)} (hL : L.length ≤ 100) (h : firstE L = 0) : encAns L = .tup [.d (.vec 1 L.length (fun i _ => whatE L i)), SV.i 0] := by unfold encAns; rw [if_neg (by omega), if_pos h]
theorem ans_bad {L : List (List Smp)} (hL : L.length ≤ 100) (h : firstE L ≠ 0) : encAns L = .tup [.d .nils, SV.i (firstE L)] := by unfold encAns; rw [if_neg (by omega), if_neg h]
theorem ans_size {L : List (List Smp)} (hL : 100 < L.length) : encAns L = .tup [.d .nils, SV.i 1] := by unfold encAns; rw [if_pos hL]
theorem ans_free (L : List (List Smp)) (π : List Nat) : ren π (encAns L) = encAns L ∧ Free (encAns L) := by
  have key : ∀ x y : D, ren π (.tup [.d x, .d y]) = .tup [.d x, .d y] ∧ Free (.tup [.d x, .d y]) := fun x y => ⟨rfl, free_two (free_data rfl) (free_data rfl)⟩
  unfold encAns
  split
  · exact key _ _
  · split
    · exact key _ _
    · exact key _ _
noncomputable def last13 : Code := match rest13 with | .seq _ (.seq _ (.seq _ (.seq _ c))) => c | _ => .skip
theorem tail13 (L : List (List Smp)) (hL : L.length ≤ 100) : W ⟨Tryd.prog, 63, 0, GC⟩ last13 (outQ ⟨Tryd.prog, 63, 0, GC⟩ Tryd.f13 (fun r _ => r = encAns L)) (stOf [(10, .sl 0 0 L.length), (11, .sl 1 0 L.length)] [some (.rows 39 1 L.length (fun i _ => whatE L i)), some (.rows 24 1 L.length (fun i _ => .val (.int .i64 (sfault (L.getD i [])))))]) := by
  show W _ _ _ ⟨tOf _, hOf _, 2⟩
  refine W_seq ?_
  refine r1 ?_
  refine s1 52 2 1 rfl rfl rfl rfl rfl rfl trivial ?_
  refine s1 53 10 2 rfl rfl rfl rfl rfl rfl (by first | trivial | omega) ?_
  refine s1 54 18 3 rfl rfl rfl rfl rfl rfl trivial ?_
  refine e1 26 rfl ?_
  refine keep [10, 52, 53, 54] rfl ?_
  refine W_block ?_
  refine loop (α := Nat) 2 (fun n => [(10, .sl 0 0 L.length), (52, .sl 1 0 L.length), (53, SV.i L.length), (54, SV.i n)]) (fun n => [some (.rows 39 1 L.length (fun i _ => whatE L i)), some (.rows 24 1 L.length (fun i _ => .val (.int .i64 (sfault (L.getD i [])))))]) (fun n => n ≤ L.length ∧ faultsTo L n = 0) (fun n => L.length - n) (0) [0, 1] (fun _ => rfl) ⟨Nat.zero_le _, rfl⟩ rfl ⟨rfl, rfl, rfl, rfl, trivial⟩ ⟨rfl, rfl, trivial⟩ (fun n hx => ?_)
  obtain ⟨hn, hno⟩ := hx
  refine r1 ?_
  refine s1 55 2 1 rfl rfl rfl rfl rfl rfl (by first | trivial | omega) ?_
  refine e1 10 rfl ?_
  refine keep [10, 52, 53, 54, 55] rfl ?_
  refine W_seq ?_
  refine q1 rfl (fun hc19 => ?_) (fun hc19 => ?_)
  · skip
    try simp only [cs, ne_eq] at hc19
    refine W_skip ?_
    refine tn ?_
    refine W_seq ?_
    refine W_block ?_
    refine r1 ?_
    refine s1 56 10 1 rfl rfl rfl rfl rfl rfl (by first | trivial | omega) ?_
    refine s1 57 18 2 rfl rfl rfl rfl rfl rfl (by first | trivial | omega) ?_
    refine s1 14 26 3 rfl rfl rfl rfl rfl rfl trivial ?_
    refine e1 34 rfl ?_
    refine keep [10, 14, 52, 53, 54] rfl ?_
    refine r1 ?_
    refine s1 58 34 1 rfl rfl rfl rfl rfl rfl trivial ?_
    refine s1 59 42 2 rfl rfl rfl rfl rfl rfl (by first | trivial | omega) ?_
    refine e1 50 rfl ?_
    refine keep [10, 14, 52, 53, 54, 59] rfl ?_
    refine q1 rfl (fun hc21 => ?_) (fun hc21 => ?_)
    · skip
      try simp only [cs, ne_eq] at hc21
      refine r1 ?_
      refine s1 60 50 1 rfl rfl rfl rfl rfl rfl trivial ?_
      refine s1 4 58 2 rfl rfl rfl rfl rfl rfl trivial ?_
      refine s1 5 66 3 rfl rfl rfl rfl rfl rfl trivial ?_
      refine e1 74 rfl ?_
      refine keep [4, 5] rfl ?_
      refine W_ret ?_
      refine br ?_
      refine tr ?_
      refine tr ?_
      refine br ?_
      refine tr ?_
      exact out2 4 5 (.d .nils) (SV.i (sfault (L.getD n []))) (π := []) (hout := []) Tryd.results13 rfl rfl rfl (by simp only [Int.toNat_natCast, Nat.zero_add]; rfl) rfl rfl trivial (by have h := faultsTo_at (L := L) (k := n) (n := L.length) (by omega) hno (by simpa using hc21); rw [ans_bad hL (by unfold firstE; rw [h]; simpa using hc21)]; unfold firstE; rw [h])
    try simp only [cs, ne_eq] at hc21
    refine W_skip ?_
    refine bn ?_
    refine tn ?_
    refine r0 ?_
    refine sA 61 50 1 rfl rfl rfl rfl rfl rfl rfl rfl rfl (by unfold inRange; omega) ?_
    refine s1 54 58 2 rfl rfl rfl rfl rfl rfl trivial ?_
    refine e1 66 rfl ?_
    refine tn ?_
    exact again (n + 1) [0, 1] ⟨by omega, faultsTo_step hno (by simpa using hc21)⟩ (by omega) rfl ⟨rfl, rfl, rfl, rfl, trivial⟩ ⟨rfl, rfl, trivial⟩
  try simp only [cs, ne_eq] at hc19
  refine W_exit ?_
  refine tx ?_
  refine tx ?_
  refine bx ?_
  refine tn ?_
  obtain rfl : n = L.length := (by omega)
  refine freeze 10 0 L.length rfl rfl (Nat.le_refl _) ?_
  refine r1 ?_
  refine s1 62 10 1 rfl rfl rfl rfl rfl rfl trivial ?_
  refine s1 4 18 2 rfl rfl rfl rfl rfl rfl trivial ?_
  refine s1 5 26 3 rfl rfl rfl rfl rfl rfl trivial ?_
  refine e1 34 rfl ?_
  refine keep [4, 5] rfl ?_
  refine W_ret ?_
  exact out2 4 5 (.d (.vec 1 L.length (fun i _ => whatE L i))) (SV.i 0) (π := []) (hout := []) Tryd.results13 rfl rfl rfl rfl rfl rfl trivial (ans_ok hL hno).symm
end Go.Proofs.YtpdojmebloekgaaDoor.Nice.Co
