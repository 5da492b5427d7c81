/- (*sync.WaitGroup).Add(1), by the one who starts the workers. -/
import Derived.Test.YtpdojmebloekgaaDoorZMMr
import Derived.Conc.WgWords
import Derived.Conc.WgGenWait
namespace Go.Proofs.YtpdojmebloekgaaDoor.Nice.Co
open Go Go.Conc Go.RowKit Go.Conc.Lib Go.ConcR.Gen
open Go.ConcN (st_flag st_waiters)
open Go.ConcR (KK WgAt stA smA mk DC0)
set_option linter.unusedVariables false
set_option linter.unusedSimpArgs false

abbrev WK (p : Pr) (A Rd : Blks) (w0 w : World) : Prop := WgLv p w ∧ Rely A Rd w0 w
theorem rlQ {p : Pr} {A Rd : Blks} {d : Nat} {lo : Lo} {w0 w w₁ : World} (h : WK p A Rd w0 w) (r : RelyP p ⟨A, Rd, d, lo⟩ w w₁) : WK p A Rd w0 w₁ := ⟨r.wg h.1, h.2.trans r.ry⟩
theorem WK.cell0 {p : Pr} {A Rd : Blks} {w0 w : World} (h : WK p A Rd w0 w) : ∃ v, w.cell? ⟨p.Wg, 0, none⟩ = some v := Go.ConcN.Gen.WgLive.cell0 h.1.1
theorem WK.cell1 {p : Pr} {A Rd : Blks} {w0 w : World} (h : WK p A Rd w0 w) : ∃ v, w.cell? ⟨p.Wg, 1, none⟩ = some v := Go.ConcN.Gen.WgLive.cell1 h.1.1
theorem WK.only {p : Pr} {A Rd : Blks} {w0 w w' : World} (h : WK p A Rd w0 w) (hA : Apt p A Rd) (O : Only p w w') {s : Sst} (hs : Sh p s w') : WK p A Rd w0 w' := ⟨hs.lv, h.2.trans (O.relyP (Γ := ⟨A, Rd, 0, .fin⟩) hA hs.lv).ry⟩
macro "u_cnd " t:term:max rl:term:max hF:ident : tactic => `(tactic| (u_in $rl $hF; rw [stepG_cond (t := $t) (by first | rfl | (simp [Act.eval]; omega))]; simp only [goes_go, if_true, if_false, Bool.false_eq_true, ↓reduceIte]; refine ⟨by u_nil, ?_⟩))
set_option hygiene false in
/-- A stop. -/
macro "wstop" : tactic => `(tactic| (refine Goes.stop (fun wx hx => ?_); replace hF := rlQ hF hx; clear hx))
/-- On from a stop. -/
macro "wgoes" : tactic => `(tactic| refine Run.of_goes (n := 140) (by simp) ?_)

section
variable {P : Program} {L : WgLink} {p : Pr} {Pst : Value → World → Prop} {A Rd : Blks} {w : World} {b₀ : Frame} {a₀ : Act} {ops₀ : Array Oper} {i₀ : Nat} {rest₀ : List Nat} {k₀ : List Item} {cs : List Frame}
set_option maxRecDepth 100000 in
set_option maxHeartbeats 8000000 in
theorem wg_add (H : WgLib P L) (hA : Apt p A Rd) {j : Nat} (hj : j < p.n) (hn : p.n < 2147483647) (hlv : WgLv p w)
    (hT : ∀ w', Rely A Rd w w' → WgLv p w' → Run P p Pst true ⟨A, Rd, 0, .spawn j true⟩ (G (b₀.at (a₀.put ((ops₀[i₀]?).bind (·.dst)) (.tuple #[])) (.inRegion ops₀ rest₀ :: k₀)) cs) w') :
    Run P p Pst true ⟨A, Rd, 0, .spawn j false⟩ (G ((base L.add).at ⟨#[.pointer (some ⟨p.Wg, 0, none⟩), .int .i64 1] ++ Array.replicate 115 undef, []⟩ [.code (body_add L)]) (b₀.at a₀ (.inRegion ops₀ (i₀ :: rest₀) :: k₀) :: cs)) w := by
  lib_facts
  have hF : WK p A Rd w w := ⟨hlv, .refl w⟩
  wgoes
  simp only [body_add, addFn, Option.getD_some]
  walk_nrm
  u_c stepG_seq rlQ hF
  u_cnd true rlQ hF
  u_c stepG_seq rlQ hF
  u_c stepG_seq rlQ hF
  u_reg rlQ hF
  u_op rlQ hF
  u_op rlQ hF
  u_c stepG_region_end rlQ hF
  u_cnd false rlQ hF
  u_c stepG_skip rlQ hF
  u_c stepG_seq rlQ hF
  u_reg rlQ hF
  wstop
  refine Run.mark rfl (by simp) .disable (by simp [MarkOk]) (d' := 1) rfl (fun w₁ h₁ => stepG_mark0 .disable (by simp) rfl rfl (by k_ne) rfl H.f_disable (x_disable_n L) (x_disable_b L) (x_disable_x L) (x_disable_f L)) fun w₁ h₁ => ?_
  replace hF := rlQ hF h₁
  clear h₁
  walk_nrm
  wgoes
  u_c stepG_region_end rlQ hF
  u_reg rlQ hF
  u_defer rlQ hF
  u_c stepG_region_end rlQ hF
  u_c stepG_seq rlQ hF
  u_reg rlQ hF
  u_op rlQ hF
  u_c stepG_region_end rlQ hF
  u_c stepG_seq rlQ hF
  u_c stepG_seq rlQ hF
  u_reg rlQ hF
  u_bub rlQ hF
  u_c stepG_region_end rlQ hF
  u_cnd false rlQ hF
  u_c stepG_skip rlQ hF
  u_c stepG_seq rlQ hF
  u_reg rlQ hF
  u_op rlQ hF
  u_op rlQ hF
  u_op rlQ hF
  u_op rlQ hF
  u_op rlQ hF
  u_op rlQ hF
  u_call H.f_uAdd (nm_uAdd L) uAddFn rlQ hF
  u_c stepG_seq rlQ hF
  u_reg rlQ hF
  u_op rlQ hF
  u_c stepG_region_end rlQ hF
  u_c stepG_seq rlQ hF
  u_reg rlQ hF
  u_op rlQ hF
  u_op rlQ hF
  u_op rlQ hF
  u_op rlQ hF
  wstop
  refine Run.intro (.sync rfl (by simp) fun w₁ h₁ s hsh hp => ?_)
  replace hF := rlQ hF h₁
  clear h₁
  have hs : s = ⟨j, 0, 0, false⟩ := by simpa [Poss] using hp
  subst hs
  have hwg := hsh.wg
  obtain ⟨hsh', O⟩ := hsh.setSt (j + 1) 0 (x := ((j + 1 : Nat) : Int) * KK) (by simp)
  have eS : IntKind.u64.wrap ((j : Int) * KK + ((0 : Nat) : Int) + 4294967296) = ((j + 1 : Nat) : Int) * KK := by rw [IntKind.wrap_u64]; simp only [KK]; omega
  refine ⟨_, _, _, .spawn j true, ⟨j + 1, 0, 0, false⟩, (stepG_add_atomic rfl rfl (by k_ne) rfl H.f_addU64 (x_addU64_n L) (x_addU64_b L) (x_addU64_x L) .u64 (x_addU64_f L) rfl rfl hwg.cellSt (hwg.thaw 0)).trans (by rw [eS]; rfl), .add hj, O, hsh', .inl ⟨rfl, rfl⟩, ?_⟩
  replace hF := hF.only hA O hsh'
  generalize w₁.setCell (stA p.Wg) (.int .u64 (((j + 1 : Nat) : Int) * KK)) = w₂ at hF ⊢
  clear hsh hsh' O hwg hp eS
  wgoes
  rcases Nat.eq_zero_or_pos j with rfl | hjp
  · simp only [KK, Nat.zero_add, Int.ofNat_one, Int.one_mul, Int.cast_ofNat_Int]
    walk_nrm
    u_op rlQ hF
    u_c stepG_region_end rlQ hF
    u_c stepG_ret' rlQ hF
    u_leave1 H.f_uAdd rlQ hF
    u_op rlQ hF
    u_c stepG_region_end rlQ hF
    u_c stepG_seq rlQ hF
    u_c stepG_seq rlQ hF
    u_reg rlQ hF
    u_op rlQ hF
    u_op rlQ hF
    u_op rlQ hF
    u_op rlQ hF
    u_skip rlQ hF
    u_skip rlQ hF
    u_op rlQ hF
    u_c stepG_region_end rlQ hF
    u_cnd false rlQ hF
    u_c stepG_skip rlQ hF
    u_c stepG_seq rlQ hF
    u_reg rlQ hF
    u_op rlQ hF
    u_op rlQ hF
    u_op rlQ hF
    u_op rlQ hF
    u_c stepG_region_end rlQ hF
    u_c stepG_seq rlQ hF
    u_reg rlQ hF
    u_op rlQ hF
    u_op rlQ hF
    u_op rlQ hF
    u_op rlQ hF
    u_c stepG_region_end rlQ hF
    u_c stepG_seq rlQ hF
    u_c stepG_seq rlQ hF
    u_reg rlQ hF
    u_op rlQ hF
    u_op rlQ hF
    u_op rlQ hF
    u_op rlQ hF
    u_op rlQ hF
    u_op rlQ hF
    u_op rlQ hF
    u_op rlQ hF
    u_op rlQ hF
    u_op rlQ hF
    u_c stepG_region_end rlQ hF
    u_cnd true rlQ hF
    u_reg rlQ hF
    u_op rlQ hF
    u_op rlQ hF
    u_op rlQ hF
    u_conv H.underlying_tPU32 H.room_tU32 (WK.cell1 hF).choose_spec rlQ hF
    wstop
    refine Run.intro (.sync rfl (by simp) fun w₁ h₁ s hsh hp => ⟨_, w₁, _, .spawn _ true, s, stepG_markAt .read (by simp) rfl rfl (by k_ne) rfl H.f_raceRead (x_raceRead_n L) (x_raceRead_b L) (x_raceRead_x L) (x_raceRead_f L) (ad := smA p.Wg) (by simp [Act.eval, smA]), .saidR, .refl _, hsh, .inl ⟨rfl, rfl⟩, ?_⟩)
    replace hF := rlQ hF h₁
    clear h₁ hsh hp
    walk_nrm
    wgoes
    u_c stepG_region_end rlQ hF
    u_c stepG_seq rlQ hF
    u_c stepG_seq rlQ hF
    u_reg rlQ hF
    u_op rlQ hF
    u_op rlQ hF
    u_c stepG_region_end rlQ hF
    u_cnd false rlQ hF
    u_c stepG_skip rlQ hF
    u_c stepG_seq rlQ hF
    u_c stepG_seq rlQ hF
    u_reg rlQ hF
    u_op rlQ hF
    u_op rlQ hF
    u_op rlQ hF
    u_skip rlQ hF
    u_skip rlQ hF
    u_op rlQ hF
    u_op rlQ hF
    u_skip rlQ hF
    u_skip rlQ hF
    u_skip rlQ hF
    u_skip rlQ hF
    u_op rlQ hF
    u_c stepG_region_end rlQ hF
    u_cnd false rlQ hF
    u_c stepG_skip rlQ hF
    u_c stepG_seq rlQ hF
    u_c stepG_seq rlQ hF
    u_reg rlQ hF
    u_op rlQ hF
    u_op rlQ hF
    u_op rlQ hF
    u_skip rlQ hF
    u_skip rlQ hF
    u_op rlQ hF
    u_c stepG_region_end rlQ hF
    u_cnd true rlQ hF
    u_c stepG_ret' rlQ hF
    wstop
    refine Run.mark rfl (by simp) .enable (by simp [MarkOk]) (d' := 0) rfl (fun w₁ h₁ => stepG_unwind_entry (v := .tuple #[]) (evs := #[mk .enable]) rfl H.f_enable (x_enable_n L) (x_enable_b L) (x_enable_x L) (x_enable_f L) (by simp [Extern.Race.none_]) (by simp [mk]) (by simp [mk])) fun w₁ h₁ => ?_
    replace hF := rlQ hF h₁
    clear h₁
    wgoes
    u_leave0 H.f_add rlQ hF
    wstop
    exact hT _ hF.2 hF.1
  · obtain ⟨V, hV⟩ : ∃ V : Int, V = ((j + 1 : Nat) : Int) := ⟨_, rfl⟩
    obtain ⟨S, hS⟩ : ∃ S : Int, S = V * KK := ⟨_, rfl⟩
    rw [← hV, ← hS]
    have a1 : S / 4294967296 = V := by rw [hS]; simp only [KK]; omega
    have b1 : bits .and .u64 S 2147483648 = 0 := by rw [hS, hV]; have := st_flag (j + 1) 0 (by omega) (by omega); simpa [KK] using this
    have b2 : bits .and .u64 S 2147483647 = 0 := by rw [hS, hV]; have := st_waiters (j + 1) 0 (by omega) (by omega); simpa [KK] using this
    have c1 : IntKind.i32.wrap V = V := by rw [IntKind.wrap_i32]; omega
    have hV1 : 1 < V := by omega
    have hV2 : V < 2147483648 := by omega
    have q1 : (V == 1) = false := by simp; omega
    have q2 : decide (V = 1) = false := decide_eq_false (by omega)
    have q3 : decide (V < 0) = false := decide_eq_false (by omega)
    have q4 : decide (0 < V) = true := decide_eq_true (by omega)
    have q5 : (V == 0) = false := by simp; omega
    have q6 : decide (V = 0) = false := decide_eq_false (by omega)
    clear hS hV
    walk_nrm
    u_op rlQ hF
    u_c stepG_region_end rlQ hF
    u_c stepG_ret' rlQ hF
    u_leave1 H.f_uAdd rlQ hF
    u_op rlQ hF
    u_c stepG_region_end rlQ hF
    u_c stepG_seq rlQ hF
    u_c stepG_seq rlQ hF
    u_reg rlQ hF
    u_op rlQ hF
    u_op rlQ hF
    u_op rlQ hF
    u_op rlQ hF
    u_skip rlQ hF
    u_skip rlQ hF
    u_op rlQ hF
    u_c stepG_region_end rlQ hF
    u_cnd false rlQ hF
    u_c stepG_skip rlQ hF
    u_c stepG_seq rlQ hF
    u_reg rlQ hF
    u_op rlQ hF
    u_op rlQ hF
    u_op rlQ hF
    u_op rlQ hF
    u_c stepG_region_end rlQ hF
    u_c stepG_seq rlQ hF
    u_reg rlQ hF
    u_op rlQ hF
    u_op rlQ hF
    u_op rlQ hF
    u_op rlQ hF
    u_c stepG_region_end rlQ hF
    u_c stepG_seq rlQ hF
    u_c stepG_seq rlQ hF
    u_reg rlQ hF
    u_op rlQ hF
    u_op rlQ hF
    u_op rlQ hF
    u_op rlQ hF
    u_op rlQ hF
    u_op rlQ hF
    u_op rlQ hF
    u_op rlQ hF
    u_op rlQ hF
    u_op rlQ hF
    u_c stepG_region_end rlQ hF
    u_cnd false rlQ hF
    u_c stepG_skip rlQ hF
    u_c stepG_seq rlQ hF
    u_c stepG_seq rlQ hF
    u_reg rlQ hF
    u_op rlQ hF
    u_op rlQ hF
    u_c stepG_region_end rlQ hF
    u_cnd false rlQ hF
    u_c stepG_skip rlQ hF
    u_c stepG_seq rlQ hF
    u_c stepG_seq rlQ hF
    u_reg rlQ hF
    u_op rlQ hF
    u_op rlQ hF
    u_op rlQ hF
    u_skip rlQ hF
    u_skip rlQ hF
    u_op rlQ hF
    u_op rlQ hF
    u_skip rlQ hF
    u_skip rlQ hF
    u_skip rlQ hF
    u_skip rlQ hF
    u_op rlQ hF
    u_c stepG_region_end rlQ hF
    u_cnd false rlQ hF
    u_c stepG_skip rlQ hF
    u_c stepG_seq rlQ hF
    u_c stepG_seq rlQ hF
    u_reg rlQ hF
    u_op rlQ hF
    u_op rlQ hF
    u_op rlQ hF
    u_skip rlQ hF
    u_skip rlQ hF
    u_op rlQ hF
    u_c stepG_region_end rlQ hF
    u_cnd true rlQ hF
    u_c stepG_ret' rlQ hF
    wstop
    refine Run.mark rfl (by simp) .enable (by simp [MarkOk]) (d' := 0) rfl (fun w₁ h₁ => stepG_unwind_entry (v := .tuple #[]) (evs := #[mk .enable]) rfl H.f_enable (x_enable_n L) (x_enable_b L) (x_enable_x L) (x_enable_f L) (by simp [Extern.Race.none_]) (by simp [mk]) (by simp [mk])) fun w₁ h₁ => ?_
    replace hF := rlQ hF h₁
    clear h₁
    wgoes
    u_leave0 H.f_add rlQ hF
    wstop
    exact hT _ hF.2 hF.1
end
end Go.Proofs.YtpdojmebloekgaaDoor.Nice.Co

/- 'defer crew.Done()', behind the worker's telling. -/
namespace Go.Proofs.YtpdojmebloekgaaDoor.Nice.Co
open Go Go.Conc Go.RowKit Go.Conc.Lib Go.ConcR.Gen
open Go.ConcN (st_flag st_waiters)
open Go.ConcR (KK WgAt stA smA mk DC0)
set_option linter.unusedVariables false
set_option linter.unusedSimpArgs false
set_option hygiene false in
macro "q_vn " v:term:max : tactic => `(tactic| (refine QuitsD.value $v rfl rfl (by k_ne) (fun _ => by go_simp; try (first | omega | (w_num; omega) | w_num | decide)) (fun _ => by simp [go_sem, *]) ?_; walk_nrm))
noncomputable def body_done (L : WgLink) : Code := (doneFn L).body.getD .skip

section
variable {P : Program} {L : WgLink} {p : Pr} {Pst : Value → World → Prop} {w : World} {c : Frame} {cs : List Frame} {qt : Nat}
set_option maxRecDepth 100000 in
set_option maxHeartbeats 8000000 in
theorem wg_done (H : WgLib P L) (hn : p.n < 2147483647) (hcm : c.mode = .returning) (hT : QuitsD P qt 0 (G c cs)) (hlv : WgLv p w) :
    Run P p Pst false ⟨no, no, 0, .told⟩ (G ((baseD L.done).at ⟨#[.pointer (some ⟨p.Wg, 0, none⟩), undef, undef, undef], []⟩ [.code (body_done L)]) (c :: cs)) w := by
  lib_facts
  have hA : Apt p no no := fun b h => h.elim False.elim False.elim
  have hF : WK p no no w w := ⟨hlv, .refl w⟩
  wgoes
  simp only [body_done, doneFn, Option.getD_some]
  u_reg rlQ hF
  u_op rlQ hF
  u_in rlQ hF
  refine goes_call rfl rfl (by k_ne) rfl H.f_add (nm_add L) rfl ⟨by u_nil, ?_⟩
  walk_nrmf addFn
  u_c stepG_seq rlQ hF
  u_cnd true rlQ hF
  u_c stepG_seq rlQ hF
  u_c stepG_seq rlQ hF
  u_reg rlQ hF
  u_op rlQ hF
  u_op rlQ hF
  u_c stepG_region_end rlQ hF
  u_cnd true rlQ hF
  u_reg rlQ hF
  u_op rlQ hF
  u_conv H.underlying_tWgP H.room_tWg (WK.cell0 hF).choose_spec rlQ hF
  wstop
  refine Run.mark rfl (by simp) (.releaseMerge _) (by simp [MarkOk]) (d' := 0) rfl (fun w₁ h₁ => stepG_markAt .releaseMerge (by simp) rfl rfl (by k_ne) rfl H.f_relMerge (x_relMerge_n L) (x_relMerge_b L) (x_relMerge_x L) (x_relMerge_f L) (by simp [Act.eval] <;> rfl)) fun w₁ h₁ => ?_
  replace hF := rlQ hF h₁
  clear h₁
  walk_nrm
  wgoes
  u_c stepG_region_end rlQ hF
  u_c stepG_seq rlQ hF
  u_reg rlQ hF
  wstop
  refine Run.mark rfl (by simp) .disable (by simp [MarkOk]) (d' := 1) rfl (fun w₁ h₁ => stepG_mark0 .disable (by simp) rfl rfl (by k_ne) rfl H.f_disable (x_disable_n L) (x_disable_b L) (x_disable_x L) (x_disable_f L)) fun w₁ h₁ => ?_
  replace hF := rlQ hF h₁
  clear h₁
  walk_nrm
  wgoes
  u_c stepG_region_end rlQ hF
  u_reg rlQ hF
  u_defer rlQ hF
  u_c stepG_region_end rlQ hF
  u_c stepG_seq rlQ hF
  u_reg rlQ hF
  u_op rlQ hF
  u_c stepG_region_end rlQ hF
  u_c stepG_seq rlQ hF
  u_c stepG_seq rlQ hF
  u_reg rlQ hF
  u_bub rlQ hF
  u_c stepG_region_end rlQ hF
  u_cnd false rlQ hF
  u_c stepG_skip rlQ hF
  u_c stepG_seq rlQ hF
  u_reg rlQ hF
  u_op rlQ hF
  u_op rlQ hF
  u_op rlQ hF
  u_op rlQ hF
  u_op rlQ hF
  u_op rlQ hF
  u_call H.f_uAdd (nm_uAdd L) uAddFn rlQ hF
  u_c stepG_seq rlQ hF
  u_reg rlQ hF
  u_op rlQ hF
  u_c stepG_region_end rlQ hF
  u_c stepG_seq rlQ hF
  u_reg rlQ hF
  u_op rlQ hF
  u_op rlQ hF
  u_op rlQ hF
  u_op rlQ hF
  wstop
  refine Run.intro (.sync rfl (by simp) fun w₁ h₁ s hsh hp => ?_)
  replace hF := rlQ hF h₁
  clear h₁
  obtain ⟨u, wt, sm, cl⟩ := s
  obtain ⟨hp1, hp2, hp3, hp4, hp5⟩ : 1 ≤ u ∧ u ≤ p.n ∧ wt ≤ 1 ∧ sm = 0 ∧ cl = false := hp
  subst hp4 hp5
  obtain ⟨v, rfl⟩ : ∃ v, u = v + 1 := ⟨u - 1, by omega⟩
  have hwg := hsh.wg
  obtain ⟨hsh', O⟩ := hsh.setSt v wt (x := (v : Int) * KK + wt) rfl
  have eS : IntKind.u64.wrap (((v + 1 : Nat) : Int) * KK + (wt : Int) + 18446744069414584320) = (v : Int) * KK + wt := by rw [IntKind.wrap_u64]; simp only [KK]; omega
  refine ⟨_, _, _, _, ⟨v, wt, 0, false⟩, (stepG_add_atomic rfl rfl (by k_ne) rfl H.f_addU64 (x_addU64_n L) (x_addU64_b L) (x_addU64_x L) .u64 (x_addU64_f L) rfl rfl hwg.cellSt (hwg.thaw 0)).trans (by rw [eS]; rfl), .done (by decide), O, hsh', .inl ⟨rfl, rfl⟩, ?_⟩
  replace hF := hF.only hA O hsh'
  generalize w₁.setCell (stA p.Wg) (.int .u64 ((v : Int) * KK + wt)) = w₂ at hF ⊢
  clear hsh hsh' O hwg eS
  rcases Nat.eq_zero_or_pos v with rfl | hvp
  · rcases Nat.eq_zero_or_pos wt with rfl | hwt
    · rw [if_neg (by simp)]
      simp only [KK, Int.ofNat_zero, Int.zero_mul, Int.zero_add, Int.cast_ofNat_Int, Int.natCast_zero]
      refine Run.of_quits (q := qt + 92) (d := 1) ?_
      walk_nrm
      q_vn (.int .u64 0)
      q_c stepG_region_end
      q_c stepG_ret'
      q_leave1 H.f_uAdd
      q_vn (.int .u64 0)
      q_c stepG_region_end
      q_c stepG_seq
      q_c stepG_seq
      q_reg
      q_vn (.int .u64 0)
      q_vn (.int .u64 0)
      q_vn (.bool false)
      q_vn (.bool false)
      q_skip
      q_skip
      q_vn (.bool false)
      q_c stepG_region_end
      q_cond false
      q_c stepG_skip
      q_c stepG_seq
      q_reg
      q_vn (.int .u64 0)
      q_vn (.int .u64 0)
      q_vn (.int .i32 0)
      q_vn (.int .i32 0)
      q_c stepG_region_end
      q_c stepG_seq
      q_reg
      q_vn (.int .u64 0)
      q_vn (.int .u64 0)
      q_vn (.int .u32 0)
      q_vn (.int .u32 0)
      q_c stepG_region_end
      q_c stepG_seq
      q_c stepG_seq
      q_reg
      q_vn (.bool true)
      q_vn (.int .i64 (-1))
      q_vn (.bool false)
      q_vn (.bool false)
      q_vn (.bool false)
      q_skip
      q_skip
      q_skip
      q_skip
      q_vn (.bool false)
      q_c stepG_region_end
      q_cond false
      q_c stepG_skip
      q_c stepG_seq
      q_c stepG_seq
      q_reg
      q_vn (.int .i32 0)
      q_vn (.bool false)
      q_c stepG_region_end
      q_cond false
      q_c stepG_skip
      q_c stepG_seq
      q_c stepG_seq
      q_reg
      q_vn (.int .u32 0)
      q_vn (.bool false)
      q_vn (.bool false)
      q_skip
      q_skip
      q_vn (.bool false)
      q_vn (.bool false)
      q_skip
      q_skip
      q_skip
      q_skip
      q_vn (.bool false)
      q_c stepG_region_end
      q_cond false
      q_c stepG_skip
      q_c stepG_seq
      q_c stepG_seq
      q_reg
      q_vn (.int .i32 0)
      q_vn (.bool false)
      q_vn (.bool false)
      q_vn (.int .u32 0)
      q_vn (.bool true)
      q_vn (.bool true)
      q_c stepG_region_end
      q_cond true
      q_c stepG_ret'
      q_enable
      q_leave0 H.f_add
      q_c stepG_region_end
      q_c stepG_end
      exact QuitsD.leaveD rfl rfl H.f_done rfl hcm hT
    · obtain rfl : wt = 1 := by omega
      rw [if_pos (by simp)]
      simp only [KK, Int.ofNat_zero, Int.zero_mul, Int.zero_add, Int.cast_ofNat_Int, Int.natCast_zero, Int.natCast_one]
      change Run P p Pst false ⟨no, no, 1, .l1⟩ _ _
      wgoes
      walk_nrm
      u_op rlQ hF
      u_c stepG_region_end rlQ hF
      u_c stepG_ret' rlQ hF
      u_leave1 H.f_uAdd rlQ hF
      u_op rlQ hF
      u_c stepG_region_end rlQ hF
      u_c stepG_seq rlQ hF
      u_c stepG_seq rlQ hF
      u_reg rlQ hF
      u_op rlQ hF
      u_op rlQ hF
      u_op rlQ hF
      u_op rlQ hF
      u_skip rlQ hF
      u_skip rlQ hF
      u_op rlQ hF
      u_c stepG_region_end rlQ hF
      u_cnd false rlQ hF
      u_c stepG_skip rlQ hF
      u_c stepG_seq rlQ hF
      u_reg rlQ hF
      u_op rlQ hF
      u_op rlQ hF
      u_op rlQ hF
      u_op rlQ hF
      u_c stepG_region_end rlQ hF
      u_c stepG_seq rlQ hF
      u_reg rlQ hF
      u_op rlQ hF
      u_op rlQ hF
      u_op rlQ hF
      u_op rlQ hF
      u_c stepG_region_end rlQ hF
      u_c stepG_seq rlQ hF
      u_c stepG_seq rlQ hF
      u_reg rlQ hF
      u_op rlQ hF
      u_op rlQ hF
      u_op rlQ hF
      u_op rlQ hF
      u_op rlQ hF
      u_skip rlQ hF
      u_skip rlQ hF
      u_skip rlQ hF
      u_skip rlQ hF
      u_op rlQ hF
      u_c stepG_region_end rlQ hF
      u_cnd false rlQ hF
      u_c stepG_skip rlQ hF
      u_c stepG_seq rlQ hF
      u_c stepG_seq rlQ hF
      u_reg rlQ hF
      u_op rlQ hF
      u_op rlQ hF
      u_c stepG_region_end rlQ hF
      u_cnd false rlQ hF
      u_c stepG_skip rlQ hF
      u_c stepG_seq rlQ hF
      u_c stepG_seq rlQ hF
      u_reg rlQ hF
      u_op rlQ hF
      u_op rlQ hF
      u_op rlQ hF
      u_op rlQ hF
      u_op rlQ hF
      u_op rlQ hF
      u_op rlQ hF
      u_skip rlQ hF
      u_skip rlQ hF
      u_skip rlQ hF
      u_skip rlQ hF
      u_op rlQ hF
      u_c stepG_region_end rlQ hF
      u_cnd false rlQ hF
      u_c stepG_skip rlQ hF
      u_c stepG_seq rlQ hF
      u_c stepG_seq rlQ hF
      u_reg rlQ hF
      u_op rlQ hF
      u_op rlQ hF
      u_op rlQ hF
      u_op rlQ hF
      u_op rlQ hF
      u_op rlQ hF
      u_c stepG_region_end rlQ hF
      u_cnd false rlQ hF
      u_c stepG_skip rlQ hF
      u_c stepG_seq rlQ hF
      u_c stepG_seq rlQ hF
      u_reg rlQ hF
      u_op rlQ hF
      u_op rlQ hF
      u_op rlQ hF
      u_call H.f_uLoad (nm_uLoad L) uLoadFn rlQ hF
      u_c stepG_seq rlQ hF
      u_reg rlQ hF
      u_op rlQ hF
      u_c stepG_region_end rlQ hF
      u_c stepG_seq rlQ hF
      u_reg rlQ hF
      u_op rlQ hF
      u_op rlQ hF
      u_op rlQ hF
      wstop
      refine Run.intro (.sync rfl (by simp) fun w₁ h₁ s hsh hp => ?_)
      replace hF := rlQ hF h₁
      clear h₁
      have hs : s = ⟨0, 1, 0, false⟩ := by simpa [Poss] using hp
      subst hs
      have hwg := hsh.wg
      simp only [KK, Int.ofNat_zero, Int.zero_mul, Int.zero_add, Int.ofNat_one, Int.cast_ofNat_Int, Int.natCast_zero, Int.natCast_one] at hwg
      refine ⟨_, w₁, _, .l2, ⟨0, 1, 0, false⟩, stepG_load_atomic (v := 1) rfl rfl (by k_ne) rfl H.f_loadU64 (x_loadU64_n L) (x_loadU64_b L) (x_loadU64_x L) .u64 (x_loadU64_f L) rfl hwg.cellSt, .ld1 (by decide), .refl _, hsh, .inl ⟨rfl, rfl⟩, ?_⟩
      clear hsh hp hwg
      change Run P p Pst false ⟨no, no, 1, .l2⟩ _ _
      walk_nrm
      wgoes
      u_op rlQ hF
      u_c stepG_region_end rlQ hF
      u_c stepG_ret' rlQ hF
      u_leave1 H.f_uLoad rlQ hF
      u_op rlQ hF
      u_op rlQ hF
      u_c stepG_region_end rlQ hF
      u_cnd false rlQ hF
      u_c stepG_skip rlQ hF
      u_c stepG_seq rlQ hF
      u_reg rlQ hF
      u_op rlQ hF
      u_op rlQ hF
      u_op rlQ hF
      u_call H.f_uStore (nm_uStore L) uStoreFn rlQ hF
      u_reg rlQ hF
      u_op rlQ hF
      u_op rlQ hF
      u_op rlQ hF
      u_op rlQ hF
      wstop
      refine Run.intro (.sync rfl (by simp) fun w₁ h₁ s hsh hp => ?_)
      replace hF := rlQ hF h₁
      clear h₁
      have hs : s = ⟨0, 1, 0, false⟩ := by simpa [Poss] using hp
      subst hs
      have hwg := hsh.wg
      obtain ⟨hsh', O⟩ := hsh.setSt 0 0 (x := 0) (by simp)
      refine ⟨_, _, _, .l3, ⟨0, 0, 0, false⟩, stepG_store_atomic rfl rfl (by k_ne) rfl H.f_storeU64 (x_storeU64_n L) (x_storeU64_b L) (x_storeU64_x L) (x_storeU64_f L) rfl rfl hwg.cellSt (hwg.thaw 0), .st2 (by decide), O, hsh', .inl ⟨rfl, rfl⟩, ?_⟩
      replace hF := hF.only hA O hsh'
      generalize w₁.setCell (stA p.Wg) (.int .u64 0) = w₂ at hF ⊢
      clear hsh hsh' O hwg hp
      change Run P p Pst false ⟨no, no, 1, .l3⟩ _ _
      wgoes
      walk_nrm
      u_c stepG_region_end rlQ hF
      u_c stepG_end rlQ hF
      u_leave0 H.f_uStore rlQ hF
      u_c stepG_region_end rlQ hF
      u_c stepG_seq rlQ hF
      u_c stepG_seq rlQ hF
      u_reg rlQ hF
      u_op rlQ hF
      u_c stepG_region_end rlQ hF
      u_cnd false rlQ hF
      u_c stepG_skip rlQ hF
      u_c stepG_block rlQ hF
      u_c stepG_loop rlQ hF
      u_c stepG_seq rlQ hF
      u_c stepG_seq rlQ hF
      u_reg rlQ hF
      u_op rlQ hF
      u_op rlQ hF
      u_c stepG_region_end rlQ hF
      u_cnd true rlQ hF
      u_c stepG_skip rlQ hF
      u_c stepG_seq rlQ hF
      u_c stepG_block rlQ hF
      u_reg rlQ hF
      u_op rlQ hF
      u_op rlQ hF
      u_op rlQ hF
      wstop
      refine Run.intro (.sync rfl (by simp) fun w₁ h₁ s hsh hp => ?_)
      replace hF := rlQ hF h₁
      clear h₁
      have hs : s = ⟨0, 0, 0, false⟩ := by simpa [Poss] using hp
      subst hs
      have hwg := hsh.wg
      obtain ⟨hsh', O⟩ := hsh.setSm 1 (x := IntKind.u32.wrap (((0 : Nat) : Int) + 1)) (by decide)
      refine ⟨_, _, _, .out, ⟨0, 0, 1, false⟩, stepG_semrelease rfl rfl (by k_ne) rfl H.f_semrelease (x_semrelease_n L) (x_semrelease_b L) (x_semrelease_x L) (x_semrelease_f L) (by simp [Act.eval, smA] <;> rfl) hwg.cellSm (hwg.thaw 1), .rel (by decide), O, hsh', .inr ?_, ?_⟩
      · simp [mayWake, G, Frame.at, Frame.eval, Act.eval, H.f_semrelease, semreleaseFn]; done
      refine Run.of_quits (q := qt + 22) (d := 1) ?_
      walk_nrm
      q_c stepG_region_end
      q_c stepG_inBlock
      q_reg
      q_vn (.int .u32 1)
      q_vn (.int .u32 0)
      q_vn (.int .u32 0)
      q_c stepG_region_end
      q_c stepG_inLoop
      q_c stepG_seq
      q_c stepG_seq
      q_reg
      q_vn (.int .u32 0)
      q_vn (.bool false)
      q_c stepG_region_end
      q_cond false
      q_exit
      q_c stepG_end
      q_enable
      q_leave0 H.f_add
      q_c stepG_region_end
      q_c stepG_end
      exact QuitsD.leaveD rfl rfl H.f_done rfl hcm hT
  · rw [if_neg (by omega)]
    rcases Nat.eq_zero_or_pos wt with rfl | hwt
    · refine Run.of_quits (q := qt + 92) (d := 1) ?_
      obtain ⟨V, hV⟩ : ∃ V : Int, V = ((v : Nat) : Int) := ⟨_, rfl⟩
      obtain ⟨S, hS⟩ : ∃ S : Int, S = V * KK + (0 : Nat) := ⟨_, rfl⟩
      rw [← hV, ← hS]
      have a1 : S / 4294967296 = V := by rw [hS]; simp only [KK]; omega
      have b1 : bits .and .u64 S 2147483648 = 0 := by rw [hS, hV]; have := st_flag v 0 (by omega) (by omega); simpa [KK] using this
      have b2 : bits .and .u64 S 2147483647 = 0 := by rw [hS, hV]; have := st_waiters v 0 (by omega) (by omega); simpa [KK] using this
      have c1 : IntKind.i32.wrap V = V := by rw [IntKind.wrap_i32]; omega
      have hV1 : 0 < V := by omega
      have hV2 : V < 2147483648 := by omega
      have q3 : decide (V < 0) = false := decide_eq_false (by omega)
      have q4 : decide (0 < V) = true := decide_eq_true (by omega)
      have q5 : (V == 0) = false := by simp; omega
      have q6 : decide (V = 0) = false := decide_eq_false (by omega)
      clear hS hV
      walk_nrm
      q_vn (.int .u64 S)
      q_c stepG_region_end
      q_c stepG_ret'
      q_leave1 H.f_uAdd
      q_vn (.int .u64 S)
      q_c stepG_region_end
      q_c stepG_seq
      q_c stepG_seq
      q_reg
      q_vn (.int .u64 S)
      q_vn (.int .u64 0)
      q_vn (.bool false)
      q_vn (.bool false)
      q_skip
      q_skip
      q_vn (.bool false)
      q_c stepG_region_end
      q_cond false
      q_c stepG_skip
      q_c stepG_seq
      q_reg
      q_vn (.int .u64 S)
      q_vn (.int .u64 V)
      q_vn (.int .i32 V)
      q_vn (.int .i32 V)
      q_c stepG_region_end
      q_c stepG_seq
      q_reg
      q_vn (.int .u64 S)
      q_vn (.int .u64 0)
      q_vn (.int .u32 0)
      q_vn (.int .u32 0)
      q_c stepG_region_end
      q_c stepG_seq
      q_c stepG_seq
      q_reg
      q_vn (.bool true)
      q_vn (.int .i64 (-1))
      q_vn (.bool false)
      q_vn (.bool false)
      q_vn (.bool false)
      q_skip
      q_skip
      q_skip
      q_skip
      q_vn (.bool false)
      q_c stepG_region_end
      q_cond false
      q_c stepG_skip
      q_c stepG_seq
      q_c stepG_seq
      q_reg
      q_vn (.int .i32 V)
      q_vn (.bool false)
      q_c stepG_region_end
      q_cond false
      q_c stepG_skip
      q_c stepG_seq
      q_c stepG_seq
      q_reg
      q_vn (.int .u32 0)
      q_vn (.bool false)
      q_vn (.bool false)
      q_skip
      q_skip
      q_vn (.bool false)
      q_vn (.bool false)
      q_skip
      q_skip
      q_skip
      q_skip
      q_vn (.bool false)
      q_c stepG_region_end
      q_cond false
      q_c stepG_skip
      q_c stepG_seq
      q_c stepG_seq
      q_reg
      q_vn (.int .i32 V)
      q_vn (.bool true)
      q_vn (.bool true)
      q_skip
      q_skip
      q_vn (.bool true)
      q_c stepG_region_end
      q_cond true
      q_c stepG_ret'
      q_enable
      q_leave0 H.f_add
      q_c stepG_region_end
      q_c stepG_end
      exact QuitsD.leaveD rfl rfl H.f_done rfl hcm hT
    · obtain rfl : wt = 1 := by omega
      refine Run.of_quits (q := qt + 92) (d := 1) ?_
      obtain ⟨V, hV⟩ : ∃ V : Int, V = ((v : Nat) : Int) := ⟨_, rfl⟩
      obtain ⟨S, hS⟩ : ∃ S : Int, S = V * KK + (1 : Nat) := ⟨_, rfl⟩
      rw [← hV, ← hS]
      have a1 : S / 4294967296 = V := by rw [hS]; simp only [KK]; omega
      have b1 : bits .and .u64 S 2147483648 = 0 := by rw [hS, hV]; have := st_flag v 1 (by omega) (by omega); simpa [KK] using this
      have b2 : bits .and .u64 S 2147483647 = 1 := by rw [hS, hV]; have := st_waiters v 1 (by omega) (by omega); simpa [KK] using this
      have c1 : IntKind.i32.wrap V = V := by rw [IntKind.wrap_i32]; omega
      have hV1 : 0 < V := by omega
      have hV2 : V < 2147483648 := by omega
      have q3 : decide (V < 0) = false := decide_eq_false (by omega)
      have q4 : decide (0 < V) = true := decide_eq_true (by omega)
      have q5 : (V == 0) = false := by simp; omega
      have q6 : decide (V = 0) = false := decide_eq_false (by omega)
      clear hS hV
      walk_nrm
      q_vn (.int .u64 S)
      q_c stepG_region_end
      q_c stepG_ret'
      q_leave1 H.f_uAdd
      q_vn (.int .u64 S)
      q_c stepG_region_end
      q_c stepG_seq
      q_c stepG_seq
      q_reg
      q_vn (.int .u64 S)
      q_vn (.int .u64 0)
      q_vn (.bool false)
      q_vn (.bool false)
      q_skip
      q_skip
      q_vn (.bool false)
      q_c stepG_region_end
      q_cond false
      q_c stepG_skip
      q_c stepG_seq
      q_reg
      q_vn (.int .u64 S)
      q_vn (.int .u64 V)
      q_vn (.int .i32 V)
      q_vn (.int .i32 V)
      q_c stepG_region_end
      q_c stepG_seq
      q_reg
      q_vn (.int .u64 S)
      q_vn (.int .u64 1)
      q_vn (.int .u32 1)
      q_vn (.int .u32 1)
      q_c stepG_region_end
      q_c stepG_seq
      q_c stepG_seq
      q_reg
      q_vn (.bool true)
      q_vn (.int .i64 (-1))
      q_vn (.bool false)
      q_vn (.bool false)
      q_vn (.bool false)
      q_skip
      q_skip
      q_skip
      q_skip
      q_vn (.bool false)
      q_c stepG_region_end
      q_cond false
      q_c stepG_skip
      q_c stepG_seq
      q_c stepG_seq
      q_reg
      q_vn (.int .i32 V)
      q_vn (.bool false)
      q_c stepG_region_end
      q_cond false
      q_c stepG_skip
      q_c stepG_seq
      q_c stepG_seq
      q_reg
      q_vn (.int .u32 1)
      q_vn (.bool true)
      q_vn (.bool true)
      q_vn (.int .i64 (-1))
      q_vn (.bool false)
      q_vn (.bool false)
      q_vn (.bool false)
      q_skip
      q_skip
      q_skip
      q_skip
      q_vn (.bool false)
      q_c stepG_region_end
      q_cond false
      q_c stepG_skip
      q_c stepG_seq
      q_c stepG_seq
      q_reg
      q_vn (.int .i32 V)
      q_vn (.bool true)
      q_vn (.bool true)
      q_skip
      q_skip
      q_vn (.bool true)
      q_c stepG_region_end
      q_cond true
      q_c stepG_ret'
      q_enable
      q_leave0 H.f_add
      q_c stepG_region_end
      q_c stepG_end
      exact QuitsD.leaveD rfl rfl H.f_done rfl hcm hT
end
end Go.Proofs.YtpdojmebloekgaaDoor.Nice.Co

/- crew.Wait(), by the closer. -/
namespace Go.Proofs.YtpdojmebloekgaaDoor.Nice.Co
open Go Go.Conc Go.RowKit Go.Conc.Lib Go.ConcR.Gen
open Go.ConcN (st_flag st_waiters)
open Go.ConcR (KK WgAt stA smA mk DC0)
set_option linter.unusedVariables false
set_option linter.unusedSimpArgs false

section
variable {P : Program} {L : WgLink} {p : Pr} {Pst : Value → World → Prop} {A Rd : Blks} {w : World} {b₀ : Frame} {a₀ : Act} {ops₀ : Array Oper} {i₀ : Nat} {rest₀ : List Nat} {k₀ : List Item} {cs : List Frame}
set_option maxRecDepth 100000 in
set_option maxHeartbeats 8000000 in
theorem wait_round (H : WgLib P L) (hA : Apt p A Rd) (hn : p.n < 2147483647) {w0 : World}
    (hT : ∀ w', Rely A Rd w0 w' → WgLv p w' → Run P p Pst false ⟨A, Rd, 0, .cs⟩ (G (b₀.at (a₀.put ((ops₀[i₀]?).bind (·.dst)) (.tuple #[])) (.inRegion ops₀ rest₀ :: k₀)) cs) w') :
    ∀ (B : Nat), B ≤ p.n → ∀ (T : Array Value) (w : World), T.size = 84 → T[0]? = some (.pointer (some ⟨p.Wg, 0, none⟩)) → WK p A Rd w0 w →
      Run P p Pst false ⟨A, Rd, 1, .cw B⟩ (G ((base L.wait).at ⟨T, []⟩ [.code (L7 L), .inLoop (L7 L), .inBlock 0]) (b₀.at a₀ (.inRegion ops₀ (i₀ :: rest₀) :: k₀) :: cs)) w := by
  lib_facts
  intro B
  induction B using Nat.strongRecOn with
  | _ B ih =>
  intro hBn T w hT84 t0 hF
  obtain ⟨v0, v1, v2, v3, v4, v5, v6, v7, v8, v9, v10, v11, v12, v13, v14, v15, v16, v17, v18, v19, v20, v21, v22, v23, v24, v25, v26, v27, v28, v29, v30, v31, v32, v33, v34, v35, v36, v37, v38, v39, v40, v41, v42, v43, v44, v45, v46, v47, v48, v49, v50, v51, v52, v53, v54, v55, v56, v57, v58, v59, v60, v61, v62, v63, v64, v65, v66, v67, v68, v69, v70, v71, v72, v73, v74, v75, v76, v77, v78, v79, v80, v81, v82, v83, rfl⟩ := array84 T hT84
  simp only [List.getElem?_toArray, List.getElem?_cons_zero, Option.some.injEq] at t0
  subst t0
  wgoes
  simp only [L7, body_wait, waitFn, Option.getD_some]
  u_c stepG_block rlQ hF
  u_c stepG_seq rlQ hF
  u_reg rlQ hF
  u_op rlQ hF
  u_op rlQ hF
  u_op rlQ hF
  u_call H.f_uLoad (nm_uLoad L) uLoadFn rlQ hF
  u_c stepG_seq rlQ hF
  u_reg rlQ hF
  u_op rlQ hF
  u_c stepG_region_end rlQ hF
  u_c stepG_seq rlQ hF
  u_reg rlQ hF
  u_op rlQ hF
  u_op rlQ hF
  u_op rlQ hF
  wstop
  refine Run.intro (.sync rfl (by simp) fun w₁ h₁ s hsh hp => ?_)
  replace hF := rlQ hF h₁
  clear h₁
  have hwg := hsh.wg
  obtain ⟨u, wt, sm, cl⟩ := s
  obtain ⟨hp1, hp2, hp3, hp4⟩ : u ≤ B ∧ wt = 0 ∧ sm = 0 ∧ cl = false := hp
  subst hp2 hp3 hp4
  rcases Nat.eq_zero_or_pos u with rfl | hup
  · simp only [KK, Int.ofNat_zero, Int.zero_mul, Int.zero_add, Int.cast_ofNat_Int, Int.natCast_zero] at hwg
    refine ⟨_, w₁, _, .cs, ⟨0, 0, 0, false⟩, stepG_load_atomic (v := 0) rfl rfl (by k_ne) rfl H.f_loadU64 (x_loadU64_n L) (x_loadU64_b L) (x_loadU64_x L) .u64 (x_loadU64_f L) rfl hwg.cellSt, .ld0, .refl _, hsh, .inl ⟨rfl, rfl⟩, ?_⟩
    clear hsh hwg ih
    change Run P p Pst false ⟨A, Rd, 1, .cs⟩ _ _
    walk_nrm
    wgoes
    u_op rlQ hF
    u_c stepG_region_end rlQ hF
    u_c stepG_ret' rlQ hF
    u_leave1 H.f_uLoad rlQ hF
    u_op rlQ hF
    u_c stepG_region_end rlQ hF
    u_c stepG_seq rlQ hF
    u_reg rlQ hF
    u_op rlQ hF
    u_op rlQ hF
    u_op rlQ hF
    u_op rlQ hF
    u_c stepG_region_end rlQ hF
    u_c stepG_seq rlQ hF
    u_reg rlQ hF
    u_op rlQ hF
    u_op rlQ hF
    u_op rlQ hF
    u_op rlQ hF
    u_c stepG_region_end rlQ hF
    u_c stepG_seq rlQ hF
    u_c stepG_seq rlQ hF
    u_reg rlQ hF
    u_op rlQ hF
    u_op rlQ hF
    u_c stepG_region_end rlQ hF
    u_cnd true rlQ hF
    u_c stepG_seq rlQ hF
    u_cnd true rlQ hF
    u_c stepG_seq rlQ hF
    u_reg rlQ hF
    wstop
    refine Run.mark rfl (by simp) .enable (by simp [MarkOk]) (d' := 0) rfl (fun w₁ h₁ => stepG_mark0 .enable (by simp) rfl rfl (by k_ne) rfl H.f_enable (x_enable_n L) (x_enable_b L) (x_enable_x L) (x_enable_f L)) fun w₁ h₁ => ?_
    replace hF := rlQ hF h₁
    clear h₁
    walk_nrm
    wgoes
    u_c stepG_region_end rlQ hF
    u_reg rlQ hF
    u_op rlQ hF
    u_conv H.underlying_tWgP H.room_tWg (WK.cell0 hF).choose_spec rlQ hF
    wstop
    refine Run.mark rfl (by simp) (.acquire _) (by simp [MarkOk]) (d' := 0) rfl (fun w₁ h₁ => stepG_markAt .acquire (by simp) rfl rfl (by k_ne) rfl H.f_acquire (x_acquire_n L) (x_acquire_b L) (x_acquire_x L) (x_acquire_f L) (by simp [Act.eval] <;> rfl)) fun w₁ h₁ => ?_
    replace hF := rlQ hF h₁
    clear h₁
    walk_nrm
    wgoes
    u_c stepG_region_end rlQ hF
    u_c stepG_seq rlQ hF
    u_c stepG_seq rlQ hF
    u_reg rlQ hF
    u_op rlQ hF
    u_op rlQ hF
    u_op rlQ hF
    u_op rlQ hF
    u_op rlQ hF
    u_op rlQ hF
    u_op rlQ hF
    u_op rlQ hF
    u_skip rlQ hF
    u_skip rlQ hF
    u_op rlQ hF
    u_c stepG_region_end rlQ hF
    u_cnd false rlQ hF
    u_c stepG_skip rlQ hF
    u_c stepG_ret' rlQ hF
    u_leave0 H.f_wait rlQ hF
    wstop
    exact hT _ hF.2 hF.1
  · obtain ⟨S, hS⟩ : ∃ S : Int, (u : Int) * KK = S := ⟨_, rfl⟩
    have a1 : S / 4294967296 = (u : Int) := by rw [← hS]; simp only [KK]; omega
    have b1 : bits .and .u64 S 2147483648 = 0 := by rw [← hS]; have := st_flag u 0 (by omega) (by omega); simpa [KK] using this
    have b2 : bits .and .u64 S 2147483647 = 0 := by rw [← hS]; have := st_waiters u 0 (by omega) (by omega); simpa [KK] using this
    have c1 : IntKind.i32.wrap (u : Int) = (u : Int) := by rw [IntKind.wrap_i32]; omega
    have w1 : IntKind.u64.wrap (S + 1) = S + 1 := by rw [IntKind.wrap_u64, ← hS]; simp only [KK]; omega
    have q3 : decide ((u : Int) < 0) = false := decide_eq_false (by omega)
    have q4 : decide (0 < (u : Int)) = true := decide_eq_true (by omega)
    have q5 : ((u : Int) == 0) = false := by simp; omega
    have q6 : decide ((u : Int) = 0) = false := decide_eq_false (by omega)
    have hwg' : WgAt p.ty p.Wg w₁ S 0 := by rw [← hS]; simpa using hwg
    refine ⟨_, w₁, _, .cc u, ⟨u, 0, 0, false⟩, stepG_load_atomic (v := S) rfl rfl (by k_ne) rfl H.f_loadU64 (x_loadU64_n L) (x_loadU64_b L) (x_loadU64_x L) .u64 (x_loadU64_f L) rfl hwg'.cellSt, .ldv hup hp1, .refl _, hsh, .inl ⟨rfl, rfl⟩, ?_⟩
    clear hsh hwg hwg'
    change Run P p Pst false ⟨A, Rd, 1, .cc u⟩ _ _
    walk_nrm
    wgoes
    u_op rlQ hF
    u_c stepG_region_end rlQ hF
    u_c stepG_ret' rlQ hF
    u_leave1 H.f_uLoad rlQ hF
    u_op rlQ hF
    u_c stepG_region_end rlQ hF
    u_c stepG_seq rlQ hF
    u_reg rlQ hF
    u_op rlQ hF
    u_op rlQ hF
    u_op rlQ hF
    u_op rlQ hF
    u_c stepG_region_end rlQ hF
    u_c stepG_seq rlQ hF
    u_reg rlQ hF
    u_op rlQ hF
    u_op rlQ hF
    u_op rlQ hF
    u_op rlQ hF
    u_c stepG_region_end rlQ hF
    u_c stepG_seq rlQ hF
    u_c stepG_seq rlQ hF
    u_reg rlQ hF
    u_op rlQ hF
    u_op rlQ hF
    u_c stepG_region_end rlQ hF
    u_cnd false rlQ hF
    u_c stepG_skip rlQ hF
    u_c stepG_seq rlQ hF
    u_reg rlQ hF
    u_op rlQ hF
    u_op rlQ hF
    u_op rlQ hF
    u_op rlQ hF
    u_op rlQ hF
    u_op rlQ hF
    u_call H.f_uCas (nm_uCas L) uCasFn rlQ hF
    u_c stepG_seq rlQ hF
    u_reg rlQ hF
    u_op rlQ hF
    u_c stepG_region_end rlQ hF
    u_c stepG_seq rlQ hF
    u_reg rlQ hF
    u_op rlQ hF
    u_op rlQ hF
    u_op rlQ hF
    u_op rlQ hF
    u_op rlQ hF
    wstop
    refine Run.intro (.sync rfl (by simp) fun w₁ h₁ s hsh hp => ?_)
    replace hF := rlQ hF h₁
    clear h₁
    have hwg := hsh.wg
    obtain ⟨v', wt, sm, cl⟩ := s
    obtain ⟨hp2, hp3, hp4, hp5⟩ : v' ≤ u ∧ wt = 0 ∧ sm = 0 ∧ cl = false := hp
    subst hp3 hp4 hp5
    rcases Nat.lt_or_ge v' u with hlt | hge
    · have hne : ¬ ((v' : Int) * KK + ((0 : Nat) : Int)) = S := by rw [← hS]; simp only [KK]; omega
      refine ⟨_, w₁, _, .cw v', ⟨v', 0, 0, false⟩, stepG_cas_miss (old := S) (n := S + 1) rfl rfl (by k_ne) rfl H.f_casU64 (x_casU64_n L) (x_casU64_b L) (x_casU64_x L) .u64 (x_casU64_f L) rfl rfl rfl hwg.cellSt (hwg.thaw 0) hne, .miss hlt, .refl _, hsh, .inl ⟨rfl, rfl⟩, ?_⟩
      clear hsh hwg hne
      change Run P p Pst false ⟨A, Rd, 1, .cw v'⟩ _ _
      walk_nrm
      wgoes
      u_op rlQ hF
      u_c stepG_region_end rlQ hF
      u_c stepG_ret' rlQ hF
      u_leave1 H.f_uCas rlQ hF
      u_c stepG_region_end rlQ hF
      u_cnd false rlQ hF
      u_c stepG_skip rlQ hF
      u_c stepG_inBlock rlQ hF
      u_c stepG_inLoop rlQ hF
      wstop
      exact ih v' (by omega) (by omega) _ _ rfl rfl hF
    · obtain rfl : v' = u := by omega
      have hwg' : WgAt p.ty p.Wg w₁ S 0 := by rw [← hS]; simpa using hwg
      obtain ⟨hsh', O⟩ := hsh.setSt v' 1 (x := S + 1) (by rw [← hS]; rfl)
      refine ⟨_, _, _, .cr, ⟨v', 1, 0, false⟩, stepG_cas_hit (v := S) (n := S + 1) rfl rfl (by k_ne) rfl H.f_casU64 (x_casU64_n L) (x_casU64_b L) (x_casU64_x L) .u64 (x_casU64_f L) rfl rfl rfl hwg'.cellSt (hwg'.thaw 0), .cas hup, O, hsh', .inl ⟨rfl, rfl⟩, ?_⟩
      replace hF := hF.only hA O hsh'
      generalize w₁.setCell (stA p.Wg) (.int .u64 (S + 1)) = w₂ at hF ⊢
      clear hsh hsh' O hwg hwg' ih
      change Run P p Pst false ⟨A, Rd, 1, .cr⟩ _ _
      walk_nrm
      wgoes
      u_op rlQ hF
      u_c stepG_region_end rlQ hF
      u_c stepG_ret' rlQ hF
      u_leave1 H.f_uCas rlQ hF
      u_c stepG_region_end rlQ hF
      u_cnd true rlQ hF
      u_c stepG_seq rlQ hF
      u_c stepG_seq rlQ hF
      u_reg rlQ hF
      u_op rlQ hF
      u_op rlQ hF
      u_op rlQ hF
      u_op rlQ hF
      u_c stepG_region_end rlQ hF
      u_cnd true rlQ hF
      u_reg rlQ hF
      u_op rlQ hF
      u_op rlQ hF
      u_op rlQ hF
      u_conv H.underlying_tPU32 H.room_tU32 (WK.cell1 hF).choose_spec rlQ hF
      wstop
      refine Run.intro (.sync rfl (by simp) fun w₁ h₁ s hsh hp => ⟨_, w₁, _, .cr, s, stepG_markAt .write (by simp) rfl rfl (by k_ne) rfl H.f_raceWrite (x_raceWrite_n L) (x_raceWrite_b L) (x_raceWrite_x L) (x_raceWrite_f L) (ad := smA p.Wg) (by simp [Act.eval, smA]), .saidW, .refl _, hsh, .inl ⟨rfl, rfl⟩, ?_⟩)
      replace hF := rlQ hF h₁
      clear h₁ hsh hp
      change Run P p Pst false ⟨A, Rd, 1, .cr⟩ _ _
      walk_nrm
      wgoes
      u_c stepG_region_end rlQ hF
      u_c stepG_seq rlQ hF
      u_reg rlQ hF
      u_op rlQ hF
      u_c stepG_region_end rlQ hF
      u_c stepG_seq rlQ hF
      u_c stepG_seq rlQ hF
      u_reg rlQ hF
      u_op rlQ hF
      u_op rlQ hF
      u_op rlQ hF
      u_op rlQ hF
      u_skip rlQ hF
      u_op rlQ hF
      u_c stepG_region_end rlQ hF
      u_cnd false rlQ hF
      u_c stepG_skip rlQ hF
      u_c stepG_seq rlQ hF
      u_reg rlQ hF
      u_op rlQ hF
      u_op rlQ hF
      u_op rlQ hF
      u_op rlQ hF
      wstop
      refine Run.intro (.wait rfl rfl rfl fun w₁ h₁ s hsh hp => ⟨fun h0 => ?_, fun h1 => ?_⟩)
      · have hwg := hsh.wg
        rw [h0] at hwg
        exact stepG_semacquire_wait rfl rfl rfl H.f_semacquire (x_semacquire_n L) (x_semacquire_b L) (x_semacquire_x L) (x_semacquire_f L) (by simp [Act.eval, smA]) hwg.cellSm
      replace hF := rlQ hF h₁
      clear h₁
      have hs : s = ⟨0, 0, 1, false⟩ := by
        obtain ⟨v1, v2, v3, v4⟩ := s
        obtain ⟨x1, x2⟩ := hp
        simp only at x1 x2 h1
        subst x1 h1
        rcases x2 with ⟨_, x⟩ | ⟨x, y, _⟩
        · cases x
        · subst x y; rfl
      subst hs
      have hwg := hsh.wg
      obtain ⟨hsh', O⟩ := hsh.setSm 0 (x := ((1 : Nat) : Int) - 1) (by decide)
      refine ⟨_, _, stepG_semacquire rfl rfl (by k_ne) rfl H.f_semacquire (x_semacquire_n L) (x_semacquire_b L) (x_semacquire_x L) (x_semacquire_f L) (by simp [Act.eval, smA] <;> rfl) hwg.cellSm (by decide) (hwg.thaw 1), O, hsh', ?_⟩
      replace hF := hF.only hA O hsh'
      generalize w₁.setCell (smA p.Wg) (.int .u32 (((1 : Nat) : Int) - 1)) = w₂ at hF ⊢
      clear hsh hsh' O hwg hp h1
      change Run P p Pst false ⟨A, Rd, 1, .cs⟩ _ _
      walk_nrm
      wgoes
      u_c stepG_region_end rlQ hF
      u_c stepG_seq rlQ hF
      u_reg rlQ hF
      u_op rlQ hF
      u_op rlQ hF
      u_op rlQ hF
      u_call H.f_uLoad (nm_uLoad L) uLoadFn rlQ hF
      u_c stepG_seq rlQ hF
      u_reg rlQ hF
      u_op rlQ hF
      u_c stepG_region_end rlQ hF
      u_c stepG_seq rlQ hF
      u_reg rlQ hF
      u_op rlQ hF
      u_op rlQ hF
      u_op rlQ hF
      wstop
      refine Run.intro (.sync rfl (by simp) fun w₁ h₁ s hsh hp => ?_)
      replace hF := rlQ hF h₁
      clear h₁
      have hwg := hsh.wg
      have hs : s = ⟨0, 0, 0, false⟩ := by simpa [Poss] using hp
      subst hs
      simp only [KK, Int.ofNat_zero, Int.zero_mul, Int.zero_add, Int.cast_ofNat_Int, Int.natCast_zero] at hwg
      refine ⟨_, w₁, _, .cs, ⟨0, 0, 0, false⟩, stepG_load_atomic (v := 0) rfl rfl (by k_ne) rfl H.f_loadU64 (x_loadU64_n L) (x_loadU64_b L) (x_loadU64_x L) .u64 (x_loadU64_f L) rfl hwg.cellSt, .ld2, .refl _, hsh, .inl ⟨rfl, rfl⟩, ?_⟩
      clear hsh hp hwg
      change Run P p Pst false ⟨A, Rd, 1, .cs⟩ _ _
      walk_nrm
      wgoes
      u_op rlQ hF
      u_c stepG_region_end rlQ hF
      u_c stepG_ret' rlQ hF
      u_leave1 H.f_uLoad rlQ hF
      u_op rlQ hF
      u_op rlQ hF
      u_c stepG_region_end rlQ hF
      u_c stepG_seq rlQ hF
      u_cnd true rlQ hF
      u_c stepG_seq rlQ hF
      u_reg rlQ hF
      wstop
      refine Run.mark rfl (by simp) .enable (by simp [MarkOk]) (d' := 0) rfl (fun w₁ h₁ => stepG_mark0 .enable (by simp) rfl rfl (by k_ne) rfl H.f_enable (x_enable_n L) (x_enable_b L) (x_enable_x L) (x_enable_f L)) fun w₁ h₁ => ?_
      replace hF := rlQ hF h₁
      clear h₁
      walk_nrm
      wgoes
      u_c stepG_region_end rlQ hF
      u_reg rlQ hF
      u_op rlQ hF
      u_conv H.underlying_tWgP H.room_tWg (WK.cell0 hF).choose_spec rlQ hF
      wstop
      refine Run.mark rfl (by simp) (.acquire _) (by simp [MarkOk]) (d' := 0) rfl (fun w₁ h₁ => stepG_markAt .acquire (by simp) rfl rfl (by k_ne) rfl H.f_acquire (x_acquire_n L) (x_acquire_b L) (x_acquire_x L) (x_acquire_f L) (by simp [Act.eval] <;> rfl)) fun w₁ h₁ => ?_
      replace hF := rlQ hF h₁
      clear h₁
      walk_nrm
      wgoes
      u_c stepG_region_end rlQ hF
      u_c stepG_seq rlQ hF
      u_c stepG_seq rlQ hF
      u_reg rlQ hF
      u_op rlQ hF
      u_c stepG_region_end rlQ hF
      u_cnd false rlQ hF
      u_c stepG_skip rlQ hF
      u_c stepG_ret' rlQ hF
      u_leave0 H.f_wait rlQ hF
      wstop
      exact hT _ hF.2 hF.1

set_option maxRecDepth 100000 in
set_option maxHeartbeats 8000000 in
theorem wg_wait (H : WgLib P L) (hA : Apt p A Rd) (hn : p.n < 2147483647) (hlv : WgLv p w)
    (hT : ∀ w', Rely A Rd w w' → WgLv p w' → Run P p Pst false ⟨A, Rd, 0, .cs⟩ (G (b₀.at (a₀.put ((ops₀[i₀]?).bind (·.dst)) (.tuple #[])) (.inRegion ops₀ rest₀ :: k₀)) cs) w') :
    Run P p Pst false ⟨A, Rd, 0, .cw p.n⟩ (G ((base L.wait).at ⟨#[.pointer (some ⟨p.Wg, 0, none⟩)] ++ Array.replicate 83 undef, []⟩ [.code (body_wait L)]) (b₀.at a₀ (.inRegion ops₀ (i₀ :: rest₀) :: k₀) :: cs)) w := by
  lib_facts
  have hF : WK p A Rd w w := ⟨hlv, .refl w⟩
  wgoes
  simp only [body_wait, waitFn, Option.getD_some]
  walk_nrm
  u_c stepG_seq rlQ hF
  u_cnd true rlQ hF
  u_reg rlQ hF
  wstop
  refine Run.mark rfl (by simp) .disable (by simp [MarkOk]) (d' := 1) rfl (fun w₁ h₁ => stepG_mark0 .disable (by simp) rfl rfl (by k_ne) rfl H.f_disable (x_disable_n L) (x_disable_b L) (x_disable_x L) (x_disable_f L)) fun w₁ h₁ => ?_
  replace hF := rlQ hF h₁
  clear h₁
  walk_nrm
  wgoes
  u_c stepG_region_end rlQ hF
  u_c stepG_block rlQ hF
  u_c stepG_loop rlQ hF
  wstop
  exact wait_round H hA hn hT p.n (Nat.le_refl _) _ _ rfl rfl hF
end
end Go.Proofs.YtpdojmebloekgaaDoor.Nice.Co
