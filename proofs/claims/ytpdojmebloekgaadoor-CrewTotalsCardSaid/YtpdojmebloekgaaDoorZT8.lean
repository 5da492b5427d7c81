/- Part 8 of the proof of CrewTotals: WgAdd, Ws, WgDone, WgWait, Wb, CrewA, Wz, WgLink, CrewB. -/
import Derived.Test.YtpdojmebloekgaaDoorZT7
import Derived.Conc.WgWords
import Derived.Conc.SmallLaws
import Derived.Conc.WgGenWait
import Derived.Conc.LeavingOf
import Derived.Test.YtpdojmebloekgaaDoorChecked
import Derived.Conc.WgLib
import Derived.Test.YtpdojmebloekgaaDoorProg
namespace Go.Proofs.YtpdojmebloekgaaDoor.Nice.Co
open Go Go.Conc Go.RowKit Go.Conc.Lib Go.ConcR.Gen
open Go.ConcN (st_flag st_waiters)
open Go.ConcR (KK WgAt stA smA mk DC0)
set_option linter.unusedVariables false
set_option linter.unusedSimpArgs false
abbrev WK (p : Pr) (A Rd : Blks) (w0 w : World) : Prop := WgLv p w ∧ Rely A Rd w0 w
theorem rlQ {p : Pr} {A Rd : Blks} {d : Nat} {lo : Lo} {w0 w w₁ : World} (h : WK p A Rd w0 w) (r : RelyP p ⟨A, Rd, d, lo⟩ w w₁) : WK p A Rd w0 w₁ := ⟨r.wg h.1, h.2.trans r.ry⟩
theorem WK.cell0 {p : Pr} {A Rd : Blks} {w0 w : World} (h : WK p A Rd w0 w) : ∃ v, w.cell? ⟨p.Wg, 0, none⟩ = some v := Go.ConcN.Gen.WgLive.cell0 h.1.1
theorem WK.cell1 {p : Pr} {A Rd : Blks} {w0 w : World} (h : WK p A Rd w0 w) : ∃ v, w.cell? ⟨p.Wg, 1, none⟩ = some v := Go.ConcN.Gen.WgLive.cell1 h.1.1
theorem WK.only {p : Pr} {A Rd : Blks} {w0 w w' : World} (h : WK p A Rd w0 w) (hA : Apt p A Rd) (O : Only p w w') {s : Sst} (hs : Sh p s w') : WK p A Rd w0 w' := ⟨hs.lv, h.2.trans (O.relyP (Γ := ⟨A, Rd, 0, .fin⟩) hA hs.lv).ry⟩
section
variable {P : Program} {L : WgLink} {p : Pr} {Pst : Value → World → Prop} {A Rd : Blks} {w : World} {b₀ : Frame} {a₀ : Act} {ops₀ : Array Oper} {i₀ : Nat} {rest₀ : List Nat} {k₀ : List Item} {cs : List Frame}
set_option maxRecDepth 100000 in
set_option maxHeartbeats 8000000 in
theorem wg_add (H : WgLib P L) (hA : Apt p A Rd) {j : Nat} (hj : j < p.n) (hn : p.n < 2147483647) (hlv : WgLv p w)
   (hT : ∀ w', Rely A Rd w w' → WgLv p w' → Run P p Pst true ⟨A, Rd, 0, .spawn j true⟩ (G (b₀.at (a₀.put ((ops₀[i₀]?).bind (·.dst)) (.tuple #[])) (.inRegion ops₀ rest₀ :: k₀)) cs) w') :
   Run P p Pst true ⟨A, Rd, 0, .spawn j false⟩ (G ((base L.add).at ⟨#[.pointer (some ⟨p.Wg, 0, none⟩), .int .i64 1] ++ Array.replicate 115 undef, []⟩ [.code (body_add L)]) (b₀.at a₀ (.inRegion ops₀ (i₀ :: rest₀) :: k₀) :: cs)) w := by
 lib_facts
 have hF : WK p A Rd w w := ⟨hlv, .refl w⟩
 refine Run.of_goes (n := 140) (by simp) ?_
 simp only [body_add, addFn, Option.getD_some]
 walk_nrm
 u_c stepG_seq rlQ hF
 (u_in rlQ hF; rw [stepG_cond (t := true) (by first | rfl | (simp [Act.eval]; omega))]; simp only [goes_go, if_true, if_false, Bool.false_eq_true, ↓reduceIte]; refine ⟨by u_nil, ?_⟩)
 u_c stepG_seq rlQ hF
 u_c stepG_seq rlQ hF
 u_reg rlQ hF
 u_op rlQ hF
 u_op rlQ hF
 u_c stepG_region_end rlQ hF
 (u_in rlQ hF; rw [stepG_cond (t := false) (by first | rfl | (simp [Act.eval]; omega))]; simp only [goes_go, if_true, if_false, Bool.false_eq_true, ↓reduceIte]; refine ⟨by u_nil, ?_⟩)
 u_c stepG_skip rlQ hF
 u_c stepG_seq rlQ hF
 u_reg rlQ hF
 (refine Goes.stop (fun wx hx => ?_); replace hF := rlQ hF hx; clear hx)
 refine Run.mark rfl (by simp) .disable (by simp [MarkOk]) (d' := 1) rfl (fun w₁ h₁ => stepG_mark0 .disable (by simp) rfl rfl (by k_ne) rfl H.f_disable (x_disable_n L) (x_disable_b L) (x_disable_x L) (x_disable_f L)) fun w₁ h₁ => ?_
 replace hF := rlQ hF h₁
 clear h₁
 walk_nrm
 refine Run.of_goes (n := 140) (by simp) ?_
 u_c stepG_region_end rlQ hF
 u_reg rlQ hF
 u_defer rlQ hF
 u_c stepG_region_end rlQ hF
 u_c stepG_seq rlQ hF
 u_reg rlQ hF
 u_op rlQ hF
 u_c stepG_region_end rlQ hF
 u_c stepG_seq rlQ hF
 u_c stepG_seq rlQ hF
 u_reg rlQ hF
 u_bub rlQ hF
 u_c stepG_region_end rlQ hF
 (u_in rlQ hF; rw [stepG_cond (t := false) (by first | rfl | (simp [Act.eval]; omega))]; simp only [goes_go, if_true, if_false, Bool.false_eq_true, ↓reduceIte]; refine ⟨by u_nil, ?_⟩)
 u_c stepG_skip rlQ hF
 u_c stepG_seq rlQ hF
 u_reg rlQ hF
 u_op rlQ hF
 u_op rlQ hF
 u_op rlQ hF
 u_op rlQ hF
 u_op rlQ hF
 u_op rlQ hF
 u_call H.f_uAdd (nm_uAdd L) uAddFn rlQ hF
 u_c stepG_seq rlQ hF
 u_reg rlQ hF
 u_op rlQ hF
 u_c stepG_region_end rlQ hF
 u_c stepG_seq rlQ hF
 u_reg rlQ hF
 u_op rlQ hF
 u_op rlQ hF
 u_op rlQ hF
 u_op rlQ hF
 (refine Goes.stop (fun wx hx => ?_); replace hF := rlQ hF hx; clear hx)
 refine Run.intro (.sync rfl (by simp) fun w₁ h₁ s hsh hp => ?_)
 replace hF := rlQ hF h₁
 clear h₁
 have hs : s = ⟨j, 0, 0, false⟩ := by simpa [Poss] using hp
 subst hs
 have hwg := hsh.wg
 obtain ⟨hsh', O⟩ := hsh.setSt (j + 1) 0 (x := ((j + 1 : Nat) : Int) * KK) (by simp)
 have eS : IntKind.u64.wrap ((j : Int) * KK + ((0 : Nat) : Int) + 4294967296) = ((j + 1 : Nat) : Int) * KK := by rw [IntKind.wrap_u64]; simp only [KK]; omega
 refine ⟨_, _, _, .spawn j true, ⟨j + 1, 0, 0, false⟩, (stepG_add_atomic rfl rfl (by k_ne) rfl H.f_addU64 (x_addU64_n L) (x_addU64_b L) (x_addU64_x L) .u64 (x_addU64_f L) rfl rfl hwg.cellSt (hwg.thaw 0)).trans (by rw [eS]; rfl), .add hj, O, hsh', .inl ⟨rfl, rfl⟩, ?_⟩
 replace hF := hF.only hA O hsh'
 generalize w₁.setCell (stA p.Wg) (.int .u64 (((j + 1 : Nat) : Int) * KK)) = w₂ at hF ⊢
 clear hsh hsh' O hwg hp eS
 refine Run.of_goes (n := 140) (by simp) ?_
 rcases Nat.eq_zero_or_pos j with rfl | hjp
 · simp only [KK, Nat.zero_add, Int.ofNat_one, Int.one_mul, Int.cast_ofNat_Int]
   walk_nrm
   u_op rlQ hF
   u_c stepG_region_end rlQ hF
   u_c stepG_ret' rlQ hF
   u_leave1 H.f_uAdd rlQ hF
   u_op rlQ hF
   u_c stepG_region_end rlQ hF
   u_c stepG_seq rlQ hF
   u_c stepG_seq rlQ hF
   u_reg rlQ hF
   u_op rlQ hF
   u_op rlQ hF
   u_op rlQ hF
   u_op rlQ hF
   u_skip rlQ hF
   u_skip rlQ hF
   u_op rlQ hF
   u_c stepG_region_end rlQ hF
   (u_in rlQ hF; rw [stepG_cond (t := false) (by first | rfl | (simp [Act.eval]; omega))]; simp only [goes_go, if_true, if_false, Bool.false_eq_true, ↓reduceIte]; refine ⟨by u_nil, ?_⟩)
   u_c stepG_skip rlQ hF
   u_c stepG_seq rlQ hF
   u_reg rlQ hF
   u_op rlQ hF
   u_op rlQ hF
   u_op rlQ hF
   u_op rlQ hF
   u_c stepG_region_end rlQ hF
   u_c stepG_seq rlQ hF
   u_reg rlQ hF
   u_op rlQ hF
   u_op rlQ hF
   u_op rlQ hF
   u_op rlQ hF
   u_c stepG_region_end rlQ hF
   u_c stepG_seq rlQ hF
   u_c stepG_seq rlQ hF
   u_reg rlQ hF
   u_op rlQ hF
   u_op rlQ hF
   u_op rlQ hF
   u_op rlQ hF
   u_op rlQ hF
   u_op rlQ hF
   u_op rlQ hF
   u_op rlQ hF
   u_op rlQ hF
   u_op rlQ hF
   u_c stepG_region_end rlQ hF
   (u_in rlQ hF; rw [stepG_cond (t := true) (by first | rfl | (simp [Act.eval]; omega))]; simp only [goes_go, if_true, if_false, Bool.false_eq_true, ↓reduceIte]; refine ⟨by u_nil, ?_⟩)
   u_reg rlQ hF
   u_op rlQ hF
   u_op rlQ hF
   u_op rlQ hF
   u_conv H.underlying_tPU32 H.room_tU32 (WK.cell1 hF).choose_spec rlQ hF
   (refine Goes.stop (fun wx hx => ?_); replace hF := rlQ hF hx; clear hx)
   refine Run.intro (.sync rfl (by simp) fun w₁ h₁ s hsh hp => ⟨_, w₁, _, .spawn _ true, s, stepG_markAt .read (by simp) rfl rfl (by k_ne) rfl H.f_raceRead (x_raceRead_n L) (x_raceRead_b L) (x_raceRead_x L) (x_raceRead_f L) (ad := smA p.Wg) (by simp [Act.eval, smA]), .saidR, .refl _, hsh, .inl ⟨rfl, rfl⟩, ?_⟩)
   replace hF := rlQ hF h₁
   clear h₁ hsh hp
   walk_nrm
   refine Run.of_goes (n := 140) (by simp) ?_
   u_c stepG_region_end rlQ hF
   u_c stepG_seq rlQ hF
   u_c stepG_seq rlQ hF
   u_reg rlQ hF
   u_op rlQ hF
   u_op rlQ hF
   u_c stepG_region_end rlQ hF
   (u_in rlQ hF; rw [stepG_cond (t := false) (by first | rfl | (simp [Act.eval]; omega))]; simp only [goes_go, if_true, if_false, Bool.false_eq_true, ↓reduceIte]; refine ⟨by u_nil, ?_⟩)
   u_c stepG_skip rlQ hF
   u_c stepG_seq rlQ hF
   u_c stepG_seq rlQ hF
   u_reg rlQ hF
   u_op rlQ hF
   u_op rlQ hF
   u_op rlQ hF
   u_skip rlQ hF
   u_skip rlQ hF
   u_op rlQ hF
   u_op rlQ hF
   u_skip rlQ hF
   u_skip rlQ hF
   u_skip rlQ hF
   u_skip rlQ hF
   u_op rlQ hF
   u_c stepG_region_end rlQ hF
   (u_in rlQ hF; rw [stepG_cond (t := false) (by first | rfl | (simp [Act.eval]; omega))]; simp only [goes_go, if_true, if_false, Bool.false_eq_true, ↓reduceIte]; refine ⟨by u_nil, ?_⟩)
   u_c stepG_skip rlQ hF
   u_c stepG_seq rlQ hF
   u_c stepG_seq rlQ hF
   u_reg rlQ hF
   u_op rlQ hF
   u_op rlQ hF
   u_op rlQ hF
   u_skip rlQ hF
   u_skip rlQ hF
   u_op rlQ hF
   u_c stepG_region_end rlQ hF
   (u_in rlQ hF; rw [stepG_cond (t := true) (by first | rfl | (simp [Act.eval]; omega))]; simp only [goes_go, if_true, if_false, Bool.false_eq_true, ↓reduceIte]; refine ⟨by u_nil, ?_⟩)
   u_c stepG_ret' rlQ hF
   (refine Goes.stop (fun wx hx => ?_); replace hF := rlQ hF hx; clear hx)
   refine Run.mark rfl (by simp) .enable (by simp [MarkOk]) (d' := 0) rfl (fun w₁ h₁ => stepG_unwind_entry (v := .tuple #[]) (evs := #[mk .enable]) rfl H.f_enable (x_enable_n L) (x_enable_b L) (x_enable_x L) (x_enable_f L) (by simp [Extern.Race.none_]) (by simp [mk]) (by simp [mk])) fun w₁ h₁ => ?_
   replace hF := rlQ hF h₁
   clear h₁
   refine Run.of_goes (n := 140) (by simp) ?_
   u_leave0 H.f_add rlQ hF
   (refine Goes.stop (fun wx hx => ?_); replace hF := rlQ hF hx; clear hx)
   exact hT _ hF.2 hF.1
 · obtain ⟨V, hV⟩ : ∃ V : Int, V = ((j + 1 : Nat) : Int) := ⟨_, rfl⟩
   obtain ⟨S, hS⟩ : ∃ S : Int, S = V * KK := ⟨_, rfl⟩
   rw [← hV, ← hS]
   have a1 : S / 4294967296 = V := by rw [hS]; simp only [KK]; omega
   have b1 : bits .and .u64 S 2147483648 = 0 := by rw [hS, hV]; have := st_flag (j + 1) 0 (by omega) (by omega); simpa [KK] using this
   have b2 : bits .and .u64 S 2147483647 = 0 := by rw [hS, hV]; have := st_waiters (j + 1) 0 (by omega) (by omega); simpa [KK] using this
   have c1 : IntKind.i32.wrap V = V := by rw [IntKind.wrap_i32]; omega
   have hV1 : 1 < V := by omega
   have hV2 : V < 2147483648 := by omega
   have q1 : (V == 1) = false := by simp; omega
   have q2 : decide (V = 1) = false := decide_eq_false (by omega)
   have q3 : decide (V < 0) = false := decide_eq_false (by omega)
   have q4 : decide (0 < V) = true := decide_eq_true (by omega)
   have q5 : (V == 0) = false := by simp; omega
   have q6 : decide (V = 0) = false := decide_eq_false (by omega)
   clear hS hV
   walk_nrm
   u_op rlQ hF
   u_c stepG_region_end rlQ hF
   u_c stepG_ret' rlQ hF
   u_leave1 H.f_uAdd rlQ hF
   u_op rlQ hF
   u_c stepG_region_end rlQ hF
   u_c stepG_seq rlQ hF
   u_c stepG_seq rlQ hF
   u_reg rlQ hF
   u_op rlQ hF
   u_op rlQ hF
   u_op rlQ hF
   u_op rlQ hF
   u_skip rlQ hF
   u_skip rlQ hF
   u_op rlQ hF
   u_c stepG_region_end rlQ hF
   (u_in rlQ hF; rw [stepG_cond (t := false) (by first | rfl | (simp [Act.eval]; omega))]; simp only [goes_go, if_true, if_false, Bool.false_eq_true, ↓reduceIte]; refine ⟨by u_nil, ?_⟩)
   u_c stepG_skip rlQ hF
   u_c stepG_seq rlQ hF
   u_reg rlQ hF
   u_op rlQ hF
   u_op rlQ hF
   u_op rlQ hF
   u_op rlQ hF
   u_c stepG_region_end rlQ hF
   u_c stepG_seq rlQ hF
   u_reg rlQ hF
   u_op rlQ hF
   u_op rlQ hF
   u_op rlQ hF
   u_op rlQ hF
   u_c stepG_region_end rlQ hF
   u_c stepG_seq rlQ hF
   u_c stepG_seq rlQ hF
   u_reg rlQ hF
   u_op rlQ hF
   u_op rlQ hF
   u_op rlQ hF
   u_op rlQ hF
   u_op rlQ hF
   u_op rlQ hF
   u_op rlQ hF
   u_op rlQ hF
   u_op rlQ hF
   u_op rlQ hF
   u_c stepG_region_end rlQ hF
   (u_in rlQ hF; rw [stepG_cond (t := false) (by first | rfl | (simp [Act.eval]; omega))]; simp only [goes_go, if_true, if_false, Bool.false_eq_true, ↓reduceIte]; refine ⟨by u_nil, ?_⟩)
   u_c stepG_skip rlQ hF
   u_c stepG_seq rlQ hF
   u_c stepG_seq rlQ hF
   u_reg rlQ hF
   u_op rlQ hF
   u_op rlQ hF
   u_c stepG_region_end rlQ hF
   (u_in rlQ hF; rw [stepG_cond (t := false) (by first | rfl | (simp [Act.eval]; omega))]; simp only [goes_go, if_true, if_false, Bool.false_eq_true, ↓reduceIte]; refine ⟨by u_nil, ?_⟩)
   u_c stepG_skip rlQ hF
   u_c stepG_seq rlQ hF
   u_c stepG_seq rlQ hF
   u_reg rlQ hF
   u_op rlQ hF
   u_op rlQ hF
   u_op rlQ hF
   u_skip rlQ hF
   u_skip rlQ hF
   u_op rlQ hF
   u_op rlQ hF
   u_skip rlQ hF
   u_skip rlQ hF
   u_skip rlQ hF
   u_skip rlQ hF
   u_op rlQ hF
   u_c stepG_region_end rlQ hF
   (u_in rlQ hF; rw [stepG_cond (t := false) (by first | rfl | (simp [Act.eval]; omega))]; simp only [goes_go, if_true, if_false, Bool.false_eq_true, ↓reduceIte]; refine ⟨by u_nil, ?_⟩)
   u_c stepG_skip rlQ hF
   u_c stepG_seq rlQ hF
   u_c stepG_seq rlQ hF
   u_reg rlQ hF
   u_op rlQ hF
   u_op rlQ hF
   u_op rlQ hF
   u_skip rlQ hF
   u_skip rlQ hF
   u_op rlQ hF
   u_c stepG_region_end rlQ hF
   (u_in rlQ hF; rw [stepG_cond (t := true) (by first | rfl | (simp [Act.eval]; omega))]; simp only [goes_go, if_true, if_false, Bool.false_eq_true, ↓reduceIte]; refine ⟨by u_nil, ?_⟩)
   u_c stepG_ret' rlQ hF
   (refine Goes.stop (fun wx hx => ?_); replace hF := rlQ hF hx; clear hx)
   refine Run.mark rfl (by simp) .enable (by simp [MarkOk]) (d' := 0) rfl (fun w₁ h₁ => stepG_unwind_entry (v := .tuple #[]) (evs := #[mk .enable]) rfl H.f_enable (x_enable_n L) (x_enable_b L) (x_enable_x L) (x_enable_f L) (by simp [Extern.Race.none_]) (by simp [mk]) (by simp [mk])) fun w₁ h₁ => ?_
   replace hF := rlQ hF h₁
   clear h₁
   refine Run.of_goes (n := 140) (by simp) ?_
   u_leave0 H.f_add rlQ hF
   (refine Goes.stop (fun wx hx => ?_); replace hF := rlQ hF hx; clear hx)
   exact hT _ hF.2 hF.1
end
end Go.Proofs.YtpdojmebloekgaaDoor.Nice.Co
namespace Go.Proofs.YtpdojmebloekgaaDoor.Nice.Co
open Go Go.Conc Go.Conc.Lib
open Go.ConcR (KK WgAt stA smA mk DC0)
open Go.ConcR.Gen (body_add)
set_option linter.unusedVariables false
set_option linter.unusedSimpArgs false
theorem wanted_none {o : Oper} {T : Nat → Option Bool} (hg : o.guard = none) : Region.wanted o T = true := by simp [Region.wanted, hg]
theorem Made.rely {A Rd : Blks} {M : Imm} {w w' : World} {o : Obj} (m : Made w w' o) (hA : ∀ b, A b ∨ Rd b → b < w.heap.size) : Rely A Rd w w' := ⟨m.same, fun b hb => m.keep b (hA b hb)⟩
theorem made_alloc (w : World) (o : Obj) : Made w (w.alloc o) o :=
 ⟨Same.alloc w o, by simp, by show (w.heap.push o)[w.heap.size]? = some o; rw [Array.getElem?_push, if_pos rfl], fun b hb => by show (w.heap.push o)[b]? = w.heap[b]?; rw [Array.getElem?_push, if_neg (Nat.ne_of_lt hb)]⟩
section
variable {C : Ctx} {A Rd : Blks} {M : Imm} {ds : List Deferred} {ρ : Names} {nb : Nat} {σ : St} {a : Act} {w w₁ : World}
theorem SX.ltAll (h : SX C A Rd M ds ρ nb σ a w) : ∀ b, A b ∨ Rd b → b < w.heap.size := fun b hb => hb.elim (h.fit.lt b) fun hr => by
 obtain ⟨o, ho⟩ := Option.ne_none_iff_exists'.1 (h.fit.rm b hr)
 exact (Array.getElem?_eq_some_iff.1 (h.sr.hr.imm b o ho)).1
theorem SX.domM (h : SX C A Rd M ds ρ nb σ a w) {b : Nat} (hb : M b ≠ none) : A b ∨ Rd b := acc_M h.sr.hr hb
theorem SX.put (h : SX C A Rd M ds ρ nb σ a w) {dst : Option Nat} (hd : (match dst with | none => true | some d => Nat.blt d C.sz) = true) {u : SV} {u' : Value} (hv : VR M ρ u u') {nb' : Nat} (hn : nb ≤ nb') : SX C A Rd M ds ρ nb' (σ.app dst u []) (a.put dst u') w :=
 h.app (wr := []) hd h.fit (Imm.le_refl _) (Names.le_refl _) hv h.sr.hr (fun n hn' => h.fr n (by omega))
theorem SX.val (h : SX C A Rd M ds ρ nb σ a w) {x : Operand} {v : Value} (hx : opv C σ.t x = .d (.val v)) : a.eval x = v := by
 have := h.op x
 rw [hx] at this
 cases this with
 | d _ _ h => cases h with
   | val _ _ => rfl
end
section
variable {C : Ctx} {Z : ZX} {ds : List Deferred} {σ : St} {ops : Array Oper} {i : Nat} {o : Oper} {Rd : Blks} {Pst : Value → World → Prop}
theorem step_value {P : Program} {main : Bool} {b : Frame} {a : Act} {k : List Item} {cs : List Frame} {rest : List Nat} {v : Value} {w w' : World} (ho : ops[i]? = some o) (hg : o.guard = none) (hk : b.kind ≠ .early) (hr : (execOp a.eval o).run P w = .ok (.value v) w') (he : (execOp a.eval o).events P w #[] = #[]) :
   stepG P main (G (b.at a (.inRegion ops (i :: rest) :: k)) cs) w = .go (G (b.at (a.put o.dst v) (.inRegion ops rest :: k)) cs) w' #[] := by
 rw [stepG_value ho (wanted_none hg) hk hr]
 unfold listed
 rw [he, seen_none]
structure Shared (Rd : Blks) (M : Imm) (w : World) : Prop where
 dom : ∀ b, Rd b ↔ M b ≠ none
 imm : Holds M w
def SV.dataB : SV → Bool
 | .d _ => true
 | .vp .. => true
 | .any => true
 | _ => false
theorem VR.other {M : Imm} {ρ ρ' : Names} {x : SV} {u : Value} (h : VR M ρ x u) (hx : SV.dataB x = true) : VR M ρ' x u := by
 cases h with
 | any => exact .any _
 | d _ _ h => exact .d _ _ h
 | vp k len f i c b o cur T fz g hb hg hr => exact .vp k len f i c b o cur T fz g hb hg hr
 | _ => simp [SV.dataB] at hx
theorem VR.pair {M : Imm} {ρ : Names} {x y : SV} {u v : Value} (h : VR M ρ x u) (k : VR M ρ y v) : VR M ρ (.tup [x, y]) (.tuple #[u, v]) := by
 refine .tup [x, y] #[u, v] (fun i => if i = 0 then u else v) rfl (fun i hi => ?_) fun i z hz => ?_
 · match i, hi with
   | 0, _ => rfl
   | 1, _ => rfl
 · match i, hz with
   | 0, hz => simp at hz; subst hz; exact h
   | 1, hz => simp at hz; subst hz; exact k
   | i + 2, hz => simp at hz
section
variable {p : Pr} {hl : Lo.fin ≠ .out} {hm : Lo.fin.mute = false}
theorem ext_same {A Rd A' Rd' : Blks} {w : World} (h : ∀ b, (A' b ∨ Rd' b) ↔ (A b ∨ Rd b)) : ext A' Rd' F0 w = ext A Rd F0 w := by
 funext b
 by_cases e : A b ∨ Rd b
 · rw [ext_in e, ext_in ((h b).2 e)]
 · rw [ext_out e, ext_out (fun x => e ((h b).1 x))]
theorem SX.give {C : Ctx} {A Rd : Blks} {M : Imm} {ds : List Deferred} {ρ : Names} {nb : Nat} {σ : St} {a : Act} {w : World} (h : SX C A Rd M ds ρ nb σ a w) : SX C (fun b => A b ∧ ¬ (A b ∧ M b ≠ none)) (fun b => Rd b ∨ (A b ∧ M b ≠ none)) M ds ρ nb σ a w := by
 have e : ∀ b, ((A b ∧ ¬ (A b ∧ M b ≠ none)) ∨ (Rd b ∨ (A b ∧ M b ≠ none))) ↔ (A b ∨ Rd b) := fun b => by
   by_cases hm : M b ≠ none
   · constructor
     · rintro (⟨x, _⟩ | x | ⟨x, _⟩)
       · exact .inl x
       · exact .inr x
       · exact .inl x
     · rintro (x | x)
       · exact .inr (.inr ⟨x, hm⟩)
       · exact .inr (.inl x)
   · constructor
     · rintro (⟨x, _⟩ | x | ⟨x, _⟩)
       · exact .inl x
       · exact .inr x
       · exact .inl x
     · rintro (x | x)
       · exact .inl ⟨x, fun y => hm y.2⟩
       · exact .inr (.inl x)
 refine ⟨⟨fun b hb => absurd rfl hb, fun b hb => hb.elim (h.fit.rm b) (·.2), fun b hb => h.fit.lt b hb.1⟩, ⟨h.sr.tm, h.sr.sz, h.sr.df, ?_, h.sr.pn, h.sr.pm, h.sr.gl⟩, h.df, h.fr⟩
 rw [ext_same e]
 exact h.sr.hr
theorem SX.shared {C : Ctx} {A Rd : Blks} {M : Imm} {ds : List Deferred} {ρ : Names} {nb : Nat} {σ : St} {a : Act} {w : World} (h : SX C A Rd M ds ρ nb σ a w) : Shared (fun b => Rd b ∨ (A b ∧ M b ≠ none)) M w :=
 ⟨fun b => ⟨fun hb => hb.elim (h.fit.rm b) (·.2), fun hb => (h.domM hb).elim (fun x => .inr ⟨x, hb⟩) .inl⟩, h.sr.hr.imm⟩
end
def goCall (f : FuncId) (vs : Array Value) : Deferred := { target := .fn (.func f) vs, args := #[] }
theorem step_go {P : Program} {main : Bool} {b : Frame} {a : Act} {k : List Item} {cs : List Frame} {rest : List Nat} {w : World} {x : Operand} (ho : ops[i]? = some o) (hg : o.guard = none) (hk : b.kind ≠ .early) (hop : o.op = .go { callee := .value x, args := #[], argTypes := #[] }) {f : FuncId} {vs : Array Value} (hq : a.eval x = .func (.func f) #[] vs) :
   stepG P main (G (b.at a (.inRegion ops (i :: rest) :: k)) cs) w = .spawn (G (b.at (a.put o.dst undef) (.inRegion ops rest :: k)) cs) (born P (goCall f vs)) w #[] := by
 have hr : (execOp a.eval o).run P w = .ok (.spawn (goCall f vs)) w := by simp [execOp, hop, resolve, hq, Deferred.ofValue, goCall]
 have he : (execOp a.eval o).events P w #[] = #[] := by simp [execOp, hop, resolve, hq, Deferred.ofValue]
 rw [stepG_spawn ho (wanted_none hg) hk hr rfl]
 unfold listed
 rw [he, seen_none]
section
variable {p : Pr} {caps : List SV} {f : FuncId} {x : Operand}
def Child (P : Program) (Gv : Nat → SV) (p : Pr) (Pst : Value → World → Prop) (f : FuncId) (caps : List SV) (lo : Lo) : Prop :=
 ∀ Rd M w (vs : Array Value), (∀ g ρ, VR M ρ (Gv g) (.pointer (some ⟨g, 0, none⟩))) → Shared Rd M w → Apt p no Rd → WgLv p w → vs.size = caps.length → (∀ (j : Nat) (y : SV), caps[j]? = some y → ∃ u, vs[j]? = some u ∧ ∀ ρ, VR M ρ y u) → Run P p Pst false ⟨no, Rd, 0, lo⟩ (born P (goCall f vs)) w
theorem Apt.give {A Rd : Blks} {M : Imm} (h : Apt p A Rd) : Apt p (fun b => A b ∧ ¬ (A b ∧ M b ≠ none)) (fun b => Rd b ∨ (A b ∧ M b ≠ none)) ∧ Apt p no (fun b => Rd b ∨ (A b ∧ M b ≠ none)) := by
 constructor
 · intro b hb
   rcases hb with ⟨x, _⟩ | x | ⟨x, _⟩
   · exact h b (.inl x)
   · exact h b (.inr x)
   · exact h b (.inl x)
 · intro b hb
   rcases hb with x | x | ⟨x, _⟩
   · exact x.elim
   · exact h b (.inr x)
   · exact h b (.inl x)
theorem hr_learn {A Rd : Blks} {M M' : Imm} {ρ : Names} {h : Heap} {w : World} (H : HR M (ext A Rd F0 w) ρ h w) (f : Fit A Rd F0 M w) (hh : Holds M' w) (hd : ∀ b, M' b ≠ none → ¬ A b) :
   ∃ M2, M.le M2 ∧ M'.le M2 ∧ (∀ b, M2 b ≠ none → M b ≠ none ∨ M' b ≠ none) ∧ HR M2 (ext A (fun b => Rd b ∨ M' b ≠ none) F0 w) ρ h w := by
 let M2 : Imm := fun b => (M b).or (M' b)
 have m2 : ∀ b, M2 b = (M b).or (M' b) := fun b => rfl
 have le1 : M.le M2 := fun b o hb => by rw [m2, hb]; rfl
 have or2 : ∀ b, M2 b ≠ none → M b ≠ none ∨ M' b ≠ none := fun b hb => by
   rw [m2] at hb
   cases e : M b with
   | some o => exact .inl (by simp)
   | none => rw [e] at hb; exact .inr (by simpa using hb)
 have le2 : M'.le M2 := fun b o hb => by
   rw [m2]
   cases e : M b with
   | none => simpa using hb
   | some o' =>
     have h1 := H.imm b o' e
     have h2 := hh b o hb
     rw [h1] at h2
     simpa using h2
 have none2 : ∀ b, M b = none → A b → M2 b = none := fun b hb ha => by
   rw [m2, hb]
   cases e : M' b with
   | none => rfl
   | some o => exact absurd ha (hd b (by rw [e]; simp))
 have exA : ∀ b, A b → ext A (fun b => Rd b ∨ M' b ≠ none) F0 w b = none := fun b hb => by rw [ext_in (.inl hb)]
 refine ⟨M2, le1, le2, or2, ⟨fun b o hb => ?_, fun b o hb => ?_, fun b o hb => ?_, fun n blk hn => ?_, H.sep, ?_⟩⟩
 · rw [m2] at hb
   cases e : M b with
   | some o' => rw [e] at hb; have hb' : o' = o := by simpa using hb
                subst hb'; exact H.imm b o' e
   | none => rw [e] at hb; exact hh b o (by simpa using hb)
 · by_cases e : A b ∨ (Rd b ∨ M' b ≠ none)
   · rw [ext_in e] at hb; cases hb
   · rw [ext_out e] at hb; exact hb
 · by_cases e : A b ∨ (Rd b ∨ M' b ≠ none)
   · rw [ext_in e] at hb; cases hb
   · refine Classical.byContradiction fun hc => ?_
     rcases or2 b hc with h1 | h1
     · exact e ((acc_M H h1).imp id .inl)
     · exact e (.inr (.inr h1))
 · obtain ⟨x, hx, hr⟩ := H.live n blk hn
   refine ⟨x, hx, ?_⟩
   rcases hr with hr | ⟨h0, h1, h2, o, h3, h4⟩
   · exact .inl hr
   · have ha := own_A f h1 h2 h3
     exact .inr ⟨h0, none2 _ h1 ha, exA _ ha, o, h3, h4.mono le1 (Names.le_refl _)⟩
 · refine H.famKeep (fun _ _ _ h => h) (Names.le_refl _) le1 (Nat.le_refl _) (fun n S es hn b hb g1 g2 => ?_) (fun _ _ _ _ _ _ _ _ _ _ => rfl) (fun _ _ _ m y _ a b _ => .inl ⟨a, b⟩)
   obtain ⟨_, _, _, k1, _⟩ := H.fam n S es hn
   obtain ⟨_, _, k3⟩ := k1 b hb
   have ha := own_A f g1 g2 (Array.getElem?_eq_getElem k3)
   exact ⟨none2 _ g1 ha, exA _ ha⟩
theorem served_G {b : Frame} {a : Act} {k : List Item} {cs : List Frame} {rest : List Nat} {v : Value} (ho : ops[i]? = some o) : Go.Conc.served (G (b.at a (.inRegion ops (i :: rest) :: k)) cs) v = G (b.at (a.put o.dst v) (.inRegion ops rest :: k)) cs := by
 have : (b.at a (.inRegion ops (i :: rest) :: k)).finish v = b.at (a.put o.dst v) (.inRegion ops rest :: k) := by rw [Frame.finish_at, ho]; rfl
 simp only [Go.Conc.served, G, this]
end
end
end Go.Proofs.YtpdojmebloekgaaDoor.Nice.Co
namespace Go.Proofs.YtpdojmebloekgaaDoor.Nice.Co
open Go Go.Conc Go.RowKit Go.Conc.Lib Go.ConcR.Gen
open Go.ConcN (st_flag st_waiters)
open Go.ConcR (KK WgAt stA smA mk DC0)
set_option linter.unusedVariables false
set_option linter.unusedSimpArgs false
noncomputable def body_done (L : WgLink) : Code := (doneFn L).body.getD .skip
section
variable {P : Program} {L : WgLink} {p : Pr} {Pst : Value → World → Prop} {w : World} {c : Frame} {cs : List Frame} {qt : Nat}
set_option maxRecDepth 100000 in
set_option maxHeartbeats 8000000 in
theorem wg_done (H : WgLib P L) (hn : p.n < 2147483647) (hcm : c.mode = .returning) (hT : QuitsD P qt 0 (G c cs)) (hlv : WgLv p w) :
   Run P p Pst false ⟨no, no, 0, .told⟩ (G ((baseD L.done).at ⟨#[.pointer (some ⟨p.Wg, 0, none⟩), undef, undef, undef], []⟩ [.code (body_done L)]) (c :: cs)) w := by
 lib_facts
 have hA : Apt p no no := fun b h => h.elim False.elim False.elim
 have hF : WK p no no w w := ⟨hlv, .refl w⟩
 refine Run.of_goes (n := 140) (by simp) ?_
 simp only [body_done, doneFn, Option.getD_some]
 u_reg rlQ hF
 u_op rlQ hF
 u_in rlQ hF
 refine goes_call rfl rfl (by k_ne) rfl H.f_add (nm_add L) rfl ⟨by u_nil, ?_⟩
 walk_nrmf addFn
 u_c stepG_seq rlQ hF
 (u_in rlQ hF; rw [stepG_cond (t := true) (by first | rfl | (simp [Act.eval]; omega))]; simp only [goes_go, if_true, if_false, Bool.false_eq_true, ↓reduceIte]; refine ⟨by u_nil, ?_⟩)
 u_c stepG_seq rlQ hF
 u_c stepG_seq rlQ hF
 u_reg rlQ hF
 u_op rlQ hF
 u_op rlQ hF
 u_c stepG_region_end rlQ hF
 (u_in rlQ hF; rw [stepG_cond (t := true) (by first | rfl | (simp [Act.eval]; omega))]; simp only [goes_go, if_true, if_false, Bool.false_eq_true, ↓reduceIte]; refine ⟨by u_nil, ?_⟩)
 u_reg rlQ hF
 u_op rlQ hF
 u_conv H.underlying_tWgP H.room_tWg (WK.cell0 hF).choose_spec rlQ hF
 (refine Goes.stop (fun wx hx => ?_); replace hF := rlQ hF hx; clear hx)
 refine Run.mark rfl (by simp) (.releaseMerge _) (by simp [MarkOk]) (d' := 0) rfl (fun w₁ h₁ => stepG_markAt .releaseMerge (by simp) rfl rfl (by k_ne) rfl H.f_relMerge (x_relMerge_n L) (x_relMerge_b L) (x_relMerge_x L) (x_relMerge_f L) (by simp [Act.eval] <;> rfl)) fun w₁ h₁ => ?_
 replace hF := rlQ hF h₁
 clear h₁
 walk_nrm
 refine Run.of_goes (n := 140) (by simp) ?_
 u_c stepG_region_end rlQ hF
 u_c stepG_seq rlQ hF
 u_reg rlQ hF
 (refine Goes.stop (fun wx hx => ?_); replace hF := rlQ hF hx; clear hx)
 refine Run.mark rfl (by simp) .disable (by simp [MarkOk]) (d' := 1) rfl (fun w₁ h₁ => stepG_mark0 .disable (by simp) rfl rfl (by k_ne) rfl H.f_disable (x_disable_n L) (x_disable_b L) (x_disable_x L) (x_disable_f L)) fun w₁ h₁ => ?_
 replace hF := rlQ hF h₁
 clear h₁
 walk_nrm
 refine Run.of_goes (n := 140) (by simp) ?_
 u_c stepG_region_end rlQ hF
 u_reg rlQ hF
 u_defer rlQ hF
 u_c stepG_region_end rlQ hF
 u_c stepG_seq rlQ hF
 u_reg rlQ hF
 u_op rlQ hF
 u_c stepG_region_end rlQ hF
 u_c stepG_seq rlQ hF
 u_c stepG_seq rlQ hF
 u_reg rlQ hF
 u_bub rlQ hF
 u_c stepG_region_end rlQ hF
 (u_in rlQ hF; rw [stepG_cond (t := false) (by first | rfl | (simp [Act.eval]; omega))]; simp only [goes_go, if_true, if_false, Bool.false_eq_true, ↓reduceIte]; refine ⟨by u_nil, ?_⟩)
 u_c stepG_skip rlQ hF
 u_c stepG_seq rlQ hF
 u_reg rlQ hF
 u_op rlQ hF
 u_op rlQ hF
 u_op rlQ hF
 u_op rlQ hF
 u_op rlQ hF
 u_op rlQ hF
 u_call H.f_uAdd (nm_uAdd L) uAddFn rlQ hF
 u_c stepG_seq rlQ hF
 u_reg rlQ hF
 u_op rlQ hF
 u_c stepG_region_end rlQ hF
 u_c stepG_seq rlQ hF
 u_reg rlQ hF
 u_op rlQ hF
 u_op rlQ hF
 u_op rlQ hF
 u_op rlQ hF
 (refine Goes.stop (fun wx hx => ?_); replace hF := rlQ hF hx; clear hx)
 refine Run.intro (.sync rfl (by simp) fun w₁ h₁ s hsh hp => ?_)
 replace hF := rlQ hF h₁
 clear h₁
 obtain ⟨u, wt, sm, cl⟩ := s
 obtain ⟨hp1, hp2, hp3, hp4, hp5⟩ : 1 ≤ u ∧ u ≤ p.n ∧ wt ≤ 1 ∧ sm = 0 ∧ cl = false := hp
 subst hp4 hp5
 obtain ⟨v, rfl⟩ : ∃ v, u = v + 1 := ⟨u - 1, by omega⟩
 have hwg := hsh.wg
 obtain ⟨hsh', O⟩ := hsh.setSt v wt (x := (v : Int) * KK + wt) rfl
 have eS : IntKind.u64.wrap (((v + 1 : Nat) : Int) * KK + (wt : Int) + 18446744069414584320) = (v : Int) * KK + wt := by rw [IntKind.wrap_u64]; simp only [KK]; omega
 refine ⟨_, _, _, _, ⟨v, wt, 0, false⟩, (stepG_add_atomic rfl rfl (by k_ne) rfl H.f_addU64 (x_addU64_n L) (x_addU64_b L) (x_addU64_x L) .u64 (x_addU64_f L) rfl rfl hwg.cellSt (hwg.thaw 0)).trans (by rw [eS]; rfl), .done (by decide), O, hsh', .inl ⟨rfl, rfl⟩, ?_⟩
 replace hF := hF.only hA O hsh'
 generalize w₁.setCell (stA p.Wg) (.int .u64 ((v : Int) * KK + wt)) = w₂ at hF ⊢
 clear hsh hsh' O hwg eS
 rcases Nat.eq_zero_or_pos v with rfl | hvp
 · rcases Nat.eq_zero_or_pos wt with rfl | hwt
   · rw [if_neg (by simp)]
     simp only [KK, Int.ofNat_zero, Int.zero_mul, Int.zero_add, Int.cast_ofNat_Int, Int.natCast_zero]
     refine Run.of_quits (q := qt + 92) (d := 1) ?_
     walk_nrm
     (refine QuitsD.value (.int .u64 0) rfl rfl (by k_ne) (fun _ => by go_simp; try (first | omega | (w_num; omega) | w_num | decide)) (fun _ => by simp [go_sem, *]) ?_; walk_nrm)
     q_c stepG_region_end
     q_c stepG_ret'
     q_leave1 H.f_uAdd
     (refine QuitsD.value (.int .u64 0) rfl rfl (by k_ne) (fun _ => by go_simp; try (first | omega | (w_num; omega) | w_num | decide)) (fun _ => by simp [go_sem, *]) ?_; walk_nrm)
     q_c stepG_region_end
     q_c stepG_seq
     q_c stepG_seq
     q_reg
     (refine QuitsD.value (.int .u64 0) rfl rfl (by k_ne) (fun _ => by go_simp; try (first | omega | (w_num; omega) | w_num | decide)) (fun _ => by simp [go_sem, *]) ?_; walk_nrm)
     (refine QuitsD.value (.int .u64 0) rfl rfl (by k_ne) (fun _ => by go_simp; try (first | omega | (w_num; omega) | w_num | decide)) (fun _ => by simp [go_sem, *]) ?_; walk_nrm)
     (refine QuitsD.value (.bool false) rfl rfl (by k_ne) (fun _ => by go_simp; try (first | omega | (w_num; omega) | w_num | decide)) (fun _ => by simp [go_sem, *]) ?_; walk_nrm)
     (refine QuitsD.value (.bool false) rfl rfl (by k_ne) (fun _ => by go_simp; try (first | omega | (w_num; omega) | w_num | decide)) (fun _ => by simp [go_sem, *]) ?_; walk_nrm)
     q_skip
     q_skip
     (refine QuitsD.value (.bool false) rfl rfl (by k_ne) (fun _ => by go_simp; try (first | omega | (w_num; omega) | w_num | decide)) (fun _ => by simp [go_sem, *]) ?_; walk_nrm)
     q_c stepG_region_end
     q_cond false
     q_c stepG_skip
     q_c stepG_seq
     q_reg
     (refine QuitsD.value (.int .u64 0) rfl rfl (by k_ne) (fun _ => by go_simp; try (first | omega | (w_num; omega) | w_num | decide)) (fun _ => by simp [go_sem, *]) ?_; walk_nrm)
     (refine QuitsD.value (.int .u64 0) rfl rfl (by k_ne) (fun _ => by go_simp; try (first | omega | (w_num; omega) | w_num | decide)) (fun _ => by simp [go_sem, *]) ?_; walk_nrm)
     (refine QuitsD.value (.int .i32 0) rfl rfl (by k_ne) (fun _ => by go_simp; try (first | omega | (w_num; omega) | w_num | decide)) (fun _ => by simp [go_sem, *]) ?_; walk_nrm)
     (refine QuitsD.value (.int .i32 0) rfl rfl (by k_ne) (fun _ => by go_simp; try (first | omega | (w_num; omega) | w_num | decide)) (fun _ => by simp [go_sem, *]) ?_; walk_nrm)
     q_c stepG_region_end
     q_c stepG_seq
     q_reg
     (refine QuitsD.value (.int .u64 0) rfl rfl (by k_ne) (fun _ => by go_simp; try (first | omega | (w_num; omega) | w_num | decide)) (fun _ => by simp [go_sem, *]) ?_; walk_nrm)
     (refine QuitsD.value (.int .u64 0) rfl rfl (by k_ne) (fun _ => by go_simp; try (first | omega | (w_num; omega) | w_num | decide)) (fun _ => by simp [go_sem, *]) ?_; walk_nrm)
     (refine QuitsD.value (.int .u32 0) rfl rfl (by k_ne) (fun _ => by go_simp; try (first | omega | (w_num; omega) | w_num | decide)) (fun _ => by simp [go_sem, *]) ?_; walk_nrm)
     (refine QuitsD.value (.int .u32 0) rfl rfl (by k_ne) (fun _ => by go_simp; try (first | omega | (w_num; omega) | w_num | decide)) (fun _ => by simp [go_sem, *]) ?_; walk_nrm)
     q_c stepG_region_end
     q_c stepG_seq
     q_c stepG_seq
     q_reg
     (refine QuitsD.value (.bool true) rfl rfl (by k_ne) (fun _ => by go_simp; try (first | omega | (w_num; omega) | w_num | decide)) (fun _ => by simp [go_sem, *]) ?_; walk_nrm)
     (refine QuitsD.value (.int .i64 (-1)) rfl rfl (by k_ne) (fun _ => by go_simp; try (first | omega | (w_num; omega) | w_num | decide)) (fun _ => by simp [go_sem, *]) ?_; walk_nrm)
     (refine QuitsD.value (.bool false) rfl rfl (by k_ne) (fun _ => by go_simp; try (first | omega | (w_num; omega) | w_num | decide)) (fun _ => by simp [go_sem, *]) ?_; walk_nrm)
     (refine QuitsD.value (.bool false) rfl rfl (by k_ne) (fun _ => by go_simp; try (first | omega | (w_num; omega) | w_num | decide)) (fun _ => by simp [go_sem, *]) ?_; walk_nrm)
     (refine QuitsD.value (.bool false) rfl rfl (by k_ne) (fun _ => by go_simp; try (first | omega | (w_num; omega) | w_num | decide)) (fun _ => by simp [go_sem, *]) ?_; walk_nrm)
     q_skip
     q_skip
     q_skip
     q_skip
     (refine QuitsD.value (.bool false) rfl rfl (by k_ne) (fun _ => by go_simp; try (first | omega | (w_num; omega) | w_num | decide)) (fun _ => by simp [go_sem, *]) ?_; walk_nrm)
     q_c stepG_region_end
     q_cond false
     q_c stepG_skip
     q_c stepG_seq
     q_c stepG_seq
     q_reg
     (refine QuitsD.value (.int .i32 0) rfl rfl (by k_ne) (fun _ => by go_simp; try (first | omega | (w_num; omega) | w_num | decide)) (fun _ => by simp [go_sem, *]) ?_; walk_nrm)
     (refine QuitsD.value (.bool false) rfl rfl (by k_ne) (fun _ => by go_simp; try (first | omega | (w_num; omega) | w_num | decide)) (fun _ => by simp [go_sem, *]) ?_; walk_nrm)
     q_c stepG_region_end
     q_cond false
     q_c stepG_skip
     q_c stepG_seq
     q_c stepG_seq
     q_reg
     (refine QuitsD.value (.int .u32 0) rfl rfl (by k_ne) (fun _ => by go_simp; try (first | omega | (w_num; omega) | w_num | decide)) (fun _ => by simp [go_sem, *]) ?_; walk_nrm)
     (refine QuitsD.value (.bool false) rfl rfl (by k_ne) (fun _ => by go_simp; try (first | omega | (w_num; omega) | w_num | decide)) (fun _ => by simp [go_sem, *]) ?_; walk_nrm)
     (refine QuitsD.value (.bool false) rfl rfl (by k_ne) (fun _ => by go_simp; try (first | omega | (w_num; omega) | w_num | decide)) (fun _ => by simp [go_sem, *]) ?_; walk_nrm)
     q_skip
     q_skip
     (refine QuitsD.value (.bool false) rfl rfl (by k_ne) (fun _ => by go_simp; try (first | omega | (w_num; omega) | w_num | decide)) (fun _ => by simp [go_sem, *]) ?_; walk_nrm)
     (refine QuitsD.value (.bool false) rfl rfl (by k_ne) (fun _ => by go_simp; try (first | omega | (w_num; omega) | w_num | decide)) (fun _ => by simp [go_sem, *]) ?_; walk_nrm)
     q_skip
     q_skip
     q_skip
     q_skip
     (refine QuitsD.value (.bool false) rfl rfl (by k_ne) (fun _ => by go_simp; try (first | omega | (w_num; omega) | w_num | decide)) (fun _ => by simp [go_sem, *]) ?_; walk_nrm)
     q_c stepG_region_end
     q_cond false
     q_c stepG_skip
     q_c stepG_seq
     q_c stepG_seq
     q_reg
     (refine QuitsD.value (.int .i32 0) rfl rfl (by k_ne) (fun _ => by go_simp; try (first | omega | (w_num; omega) | w_num | decide)) (fun _ => by simp [go_sem, *]) ?_; walk_nrm)
     (refine QuitsD.value (.bool false) rfl rfl (by k_ne) (fun _ => by go_simp; try (first | omega | (w_num; omega) | w_num | decide)) (fun _ => by simp [go_sem, *]) ?_; walk_nrm)
     (refine QuitsD.value (.bool false) rfl rfl (by k_ne) (fun _ => by go_simp; try (first | omega | (w_num; omega) | w_num | decide)) (fun _ => by simp [go_sem, *]) ?_; walk_nrm)
     (refine QuitsD.value (.int .u32 0) rfl rfl (by k_ne) (fun _ => by go_simp; try (first | omega | (w_num; omega) | w_num | decide)) (fun _ => by simp [go_sem, *]) ?_; walk_nrm)
     (refine QuitsD.value (.bool true) rfl rfl (by k_ne) (fun _ => by go_simp; try (first | omega | (w_num; omega) | w_num | decide)) (fun _ => by simp [go_sem, *]) ?_; walk_nrm)
     (refine QuitsD.value (.bool true) rfl rfl (by k_ne) (fun _ => by go_simp; try (first | omega | (w_num; omega) | w_num | decide)) (fun _ => by simp [go_sem, *]) ?_; walk_nrm)
     q_c stepG_region_end
     q_cond true
     q_c stepG_ret'
     q_enable
     q_leave0 H.f_add
     q_c stepG_region_end
     q_c stepG_end
     exact QuitsD.leaveD rfl rfl H.f_done rfl hcm hT
   · obtain rfl : wt = 1 := by omega
     rw [if_pos (by simp)]
     simp only [KK, Int.ofNat_zero, Int.zero_mul, Int.zero_add, Int.cast_ofNat_Int, Int.natCast_zero, Int.natCast_one]
     change Run P p Pst false ⟨no, no, 1, .l1⟩ _ _
     refine Run.of_goes (n := 140) (by simp) ?_
     walk_nrm
     u_op rlQ hF
     u_c stepG_region_end rlQ hF
     u_c stepG_ret' rlQ hF
     u_leave1 H.f_uAdd rlQ hF
     u_op rlQ hF
     u_c stepG_region_end rlQ hF
     u_c stepG_seq rlQ hF
     u_c stepG_seq rlQ hF
     u_reg rlQ hF
     u_op rlQ hF
     u_op rlQ hF
     u_op rlQ hF
     u_op rlQ hF
     u_skip rlQ hF
     u_skip rlQ hF
     u_op rlQ hF
     u_c stepG_region_end rlQ hF
     (u_in rlQ hF; rw [stepG_cond (t := false) (by first | rfl | (simp [Act.eval]; omega))]; simp only [goes_go, if_true, if_false, Bool.false_eq_true, ↓reduceIte]; refine ⟨by u_nil, ?_⟩)
     u_c stepG_skip rlQ hF
     u_c stepG_seq rlQ hF
     u_reg rlQ hF
     u_op rlQ hF
     u_op rlQ hF
     u_op rlQ hF
     u_op rlQ hF
     u_c stepG_region_end rlQ hF
     u_c stepG_seq rlQ hF
     u_reg rlQ hF
     u_op rlQ hF
     u_op rlQ hF
     u_op rlQ hF
     u_op rlQ hF
     u_c stepG_region_end rlQ hF
     u_c stepG_seq rlQ hF
     u_c stepG_seq rlQ hF
     u_reg rlQ hF
     u_op rlQ hF
     u_op rlQ hF
     u_op rlQ hF
     u_op rlQ hF
     u_op rlQ hF
     u_skip rlQ hF
     u_skip rlQ hF
     u_skip rlQ hF
     u_skip rlQ hF
     u_op rlQ hF
     u_c stepG_region_end rlQ hF
     (u_in rlQ hF; rw [stepG_cond (t := false) (by first | rfl | (simp [Act.eval]; omega))]; simp only [goes_go, if_true, if_false, Bool.false_eq_true, ↓reduceIte]; refine ⟨by u_nil, ?_⟩)
     u_c stepG_skip rlQ hF
     u_c stepG_seq rlQ hF
     u_c stepG_seq rlQ hF
     u_reg rlQ hF
     u_op rlQ hF
     u_op rlQ hF
     u_c stepG_region_end rlQ hF
     (u_in rlQ hF; rw [stepG_cond (t := false) (by first | rfl | (simp [Act.eval]; omega))]; simp only [goes_go, if_true, if_false, Bool.false_eq_true, ↓reduceIte]; refine ⟨by u_nil, ?_⟩)
     u_c stepG_skip rlQ hF
     u_c stepG_seq rlQ hF
     u_c stepG_seq rlQ hF
     u_reg rlQ hF
     u_op rlQ hF
     u_op rlQ hF
     u_op rlQ hF
     u_op rlQ hF
     u_op rlQ hF
     u_op rlQ hF
     u_op rlQ hF
     u_skip rlQ hF
     u_skip rlQ hF
     u_skip rlQ hF
     u_skip rlQ hF
     u_op rlQ hF
     u_c stepG_region_end rlQ hF
     (u_in rlQ hF; rw [stepG_cond (t := false) (by first | rfl | (simp [Act.eval]; omega))]; simp only [goes_go, if_true, if_false, Bool.false_eq_true, ↓reduceIte]; refine ⟨by u_nil, ?_⟩)
     u_c stepG_skip rlQ hF
     u_c stepG_seq rlQ hF
     u_c stepG_seq rlQ hF
     u_reg rlQ hF
     u_op rlQ hF
     u_op rlQ hF
     u_op rlQ hF
     u_op rlQ hF
     u_op rlQ hF
     u_op rlQ hF
     u_c stepG_region_end rlQ hF
     (u_in rlQ hF; rw [stepG_cond (t := false) (by first | rfl | (simp [Act.eval]; omega))]; simp only [goes_go, if_true, if_false, Bool.false_eq_true, ↓reduceIte]; refine ⟨by u_nil, ?_⟩)
     u_c stepG_skip rlQ hF
     u_c stepG_seq rlQ hF
     u_c stepG_seq rlQ hF
     u_reg rlQ hF
     u_op rlQ hF
     u_op rlQ hF
     u_op rlQ hF
     u_call H.f_uLoad (nm_uLoad L) uLoadFn rlQ hF
     u_c stepG_seq rlQ hF
     u_reg rlQ hF
     u_op rlQ hF
     u_c stepG_region_end rlQ hF
     u_c stepG_seq rlQ hF
     u_reg rlQ hF
     u_op rlQ hF
     u_op rlQ hF
     u_op rlQ hF
     (refine Goes.stop (fun wx hx => ?_); replace hF := rlQ hF hx; clear hx)
     refine Run.intro (.sync rfl (by simp) fun w₁ h₁ s hsh hp => ?_)
     replace hF := rlQ hF h₁
     clear h₁
     have hs : s = ⟨0, 1, 0, false⟩ := by simpa [Poss] using hp
     subst hs
     have hwg := hsh.wg
     simp only [KK, Int.ofNat_zero, Int.zero_mul, Int.zero_add, Int.ofNat_one, Int.cast_ofNat_Int, Int.natCast_zero, Int.natCast_one] at hwg
     refine ⟨_, w₁, _, .l2, ⟨0, 1, 0, false⟩, stepG_load_atomic (v := 1) rfl rfl (by k_ne) rfl H.f_loadU64 (x_loadU64_n L) (x_loadU64_b L) (x_loadU64_x L) .u64 (x_loadU64_f L) rfl hwg.cellSt, .ld1 (by decide), .refl _, hsh, .inl ⟨rfl, rfl⟩, ?_⟩
     clear hsh hp hwg
     change Run P p Pst false ⟨no, no, 1, .l2⟩ _ _
     walk_nrm
     refine Run.of_goes (n := 140) (by simp) ?_
     u_op rlQ hF
     u_c stepG_region_end rlQ hF
     u_c stepG_ret' rlQ hF
     u_leave1 H.f_uLoad rlQ hF
     u_op rlQ hF
     u_op rlQ hF
     u_c stepG_region_end rlQ hF
     (u_in rlQ hF; rw [stepG_cond (t := false) (by first | rfl | (simp [Act.eval]; omega))]; simp only [goes_go, if_true, if_false, Bool.false_eq_true, ↓reduceIte]; refine ⟨by u_nil, ?_⟩)
     u_c stepG_skip rlQ hF
     u_c stepG_seq rlQ hF
     u_reg rlQ hF
     u_op rlQ hF
     u_op rlQ hF
     u_op rlQ hF
     u_call H.f_uStore (nm_uStore L) uStoreFn rlQ hF
     u_reg rlQ hF
     u_op rlQ hF
     u_op rlQ hF
     u_op rlQ hF
     u_op rlQ hF
     (refine Goes.stop (fun wx hx => ?_); replace hF := rlQ hF hx; clear hx)
     refine Run.intro (.sync rfl (by simp) fun w₁ h₁ s hsh hp => ?_)
     replace hF := rlQ hF h₁
     clear h₁
     have hs : s = ⟨0, 1, 0, false⟩ := by simpa [Poss] using hp
     subst hs
     have hwg := hsh.wg
     obtain ⟨hsh', O⟩ := hsh.setSt 0 0 (x := 0) (by simp)
     refine ⟨_, _, _, .l3, ⟨0, 0, 0, false⟩, stepG_store_atomic rfl rfl (by k_ne) rfl H.f_storeU64 (x_storeU64_n L) (x_storeU64_b L) (x_storeU64_x L) (x_storeU64_f L) rfl rfl hwg.cellSt (hwg.thaw 0), .st2 (by decide), O, hsh', .inl ⟨rfl, rfl⟩, ?_⟩
     replace hF := hF.only hA O hsh'
     generalize w₁.setCell (stA p.Wg) (.int .u64 0) = w₂ at hF ⊢
     clear hsh hsh' O hwg hp
     change Run P p Pst false ⟨no, no, 1, .l3⟩ _ _
     refine Run.of_goes (n := 140) (by simp) ?_
     walk_nrm
     u_c stepG_region_end rlQ hF
     u_c stepG_end rlQ hF
     u_leave0 H.f_uStore rlQ hF
     u_c stepG_region_end rlQ hF
     u_c stepG_seq rlQ hF
     u_c stepG_seq rlQ hF
     u_reg rlQ hF
     u_op rlQ hF
     u_c stepG_region_end rlQ hF
     (u_in rlQ hF; rw [stepG_cond (t := false) (by first | rfl | (simp [Act.eval]; omega))]; simp only [goes_go, if_true, if_false, Bool.false_eq_true, ↓reduceIte]; refine ⟨by u_nil, ?_⟩)
     u_c stepG_skip rlQ hF
     u_c stepG_block rlQ hF
     u_c stepG_loop rlQ hF
     u_c stepG_seq rlQ hF
     u_c stepG_seq rlQ hF
     u_reg rlQ hF
     u_op rlQ hF
     u_op rlQ hF
     u_c stepG_region_end rlQ hF
     (u_in rlQ hF; rw [stepG_cond (t := true) (by first | rfl | (simp [Act.eval]; omega))]; simp only [goes_go, if_true, if_false, Bool.false_eq_true, ↓reduceIte]; refine ⟨by u_nil, ?_⟩)
     u_c stepG_skip rlQ hF
     u_c stepG_seq rlQ hF
     u_c stepG_block rlQ hF
     u_reg rlQ hF
     u_op rlQ hF
     u_op rlQ hF
     u_op rlQ hF
     (refine Goes.stop (fun wx hx => ?_); replace hF := rlQ hF hx; clear hx)
     refine Run.intro (.sync rfl (by simp) fun w₁ h₁ s hsh hp => ?_)
     replace hF := rlQ hF h₁
     clear h₁
     have hs : s = ⟨0, 0, 0, false⟩ := by simpa [Poss] using hp
     subst hs
     have hwg := hsh.wg
     obtain ⟨hsh', O⟩ := hsh.setSm 1 (x := IntKind.u32.wrap (((0 : Nat) : Int) + 1)) (by decide)
     refine ⟨_, _, _, .out, ⟨0, 0, 1, false⟩, stepG_semrelease rfl rfl (by k_ne) rfl H.f_semrelease (x_semrelease_n L) (x_semrelease_b L) (x_semrelease_x L) (x_semrelease_f L) (by simp [Act.eval, smA] <;> rfl) hwg.cellSm (hwg.thaw 1), .rel (by decide), O, hsh', .inr ?_, ?_⟩
     · simp [mayWake, G, Frame.at, Frame.eval, Act.eval, H.f_semrelease, semreleaseFn]; done
     refine Run.of_quits (q := qt + 22) (d := 1) ?_
     walk_nrm
     q_c stepG_region_end
     q_c stepG_inBlock
     q_reg
     (refine QuitsD.value (.int .u32 1) rfl rfl (by k_ne) (fun _ => by go_simp; try (first | omega | (w_num; omega) | w_num | decide)) (fun _ => by simp [go_sem, *]) ?_; walk_nrm)
     (refine QuitsD.value (.int .u32 0) rfl rfl (by k_ne) (fun _ => by go_simp; try (first | omega | (w_num; omega) | w_num | decide)) (fun _ => by simp [go_sem, *]) ?_; walk_nrm)
     (refine QuitsD.value (.int .u32 0) rfl rfl (by k_ne) (fun _ => by go_simp; try (first | omega | (w_num; omega) | w_num | decide)) (fun _ => by simp [go_sem, *]) ?_; walk_nrm)
     q_c stepG_region_end
     q_c stepG_inLoop
     q_c stepG_seq
     q_c stepG_seq
     q_reg
     (refine QuitsD.value (.int .u32 0) rfl rfl (by k_ne) (fun _ => by go_simp; try (first | omega | (w_num; omega) | w_num | decide)) (fun _ => by simp [go_sem, *]) ?_; walk_nrm)
     (refine QuitsD.value (.bool false) rfl rfl (by k_ne) (fun _ => by go_simp; try (first | omega | (w_num; omega) | w_num | decide)) (fun _ => by simp [go_sem, *]) ?_; walk_nrm)
     q_c stepG_region_end
     q_cond false
     q_exit
     q_c stepG_end
     q_enable
     q_leave0 H.f_add
     q_c stepG_region_end
     q_c stepG_end
     exact QuitsD.leaveD rfl rfl H.f_done rfl hcm hT
 · rw [if_neg (by omega)]
   rcases Nat.eq_zero_or_pos wt with rfl | hwt
   · refine Run.of_quits (q := qt + 92) (d := 1) ?_
     obtain ⟨V, hV⟩ : ∃ V : Int, V = ((v : Nat) : Int) := ⟨_, rfl⟩
     obtain ⟨S, hS⟩ : ∃ S : Int, S = V * KK + (0 : Nat) := ⟨_, rfl⟩
     rw [← hV, ← hS]
     have a1 : S / 4294967296 = V := by rw [hS]; simp only [KK]; omega
     have b1 : bits .and .u64 S 2147483648 = 0 := by rw [hS, hV]; have := st_flag v 0 (by omega) (by omega); simpa [KK] using this
     have b2 : bits .and .u64 S 2147483647 = 0 := by rw [hS, hV]; have := st_waiters v 0 (by omega) (by omega); simpa [KK] using this
     have c1 : IntKind.i32.wrap V = V := by rw [IntKind.wrap_i32]; omega
     have hV1 : 0 < V := by omega
     have hV2 : V < 2147483648 := by omega
     have q3 : decide (V < 0) = false := decide_eq_false (by omega)
     have q4 : decide (0 < V) = true := decide_eq_true (by omega)
     have q5 : (V == 0) = false := by simp; omega
     have q6 : decide (V = 0) = false := decide_eq_false (by omega)
     clear hS hV
     walk_nrm
     (refine QuitsD.value (.int .u64 S) rfl rfl (by k_ne) (fun _ => by go_simp; try (first | omega | (w_num; omega) | w_num | decide)) (fun _ => by simp [go_sem, *]) ?_; walk_nrm)
     q_c stepG_region_end
     q_c stepG_ret'
     q_leave1 H.f_uAdd
     (refine QuitsD.value (.int .u64 S) rfl rfl (by k_ne) (fun _ => by go_simp; try (first | omega | (w_num; omega) | w_num | decide)) (fun _ => by simp [go_sem, *]) ?_; walk_nrm)
     q_c stepG_region_end
     q_c stepG_seq
     q_c stepG_seq
     q_reg
     (refine QuitsD.value (.int .u64 S) rfl rfl (by k_ne) (fun _ => by go_simp; try (first | omega | (w_num; omega) | w_num | decide)) (fun _ => by simp [go_sem, *]) ?_; walk_nrm)
     (refine QuitsD.value (.int .u64 0) rfl rfl (by k_ne) (fun _ => by go_simp; try (first | omega | (w_num; omega) | w_num | decide)) (fun _ => by simp [go_sem, *]) ?_; walk_nrm)
     (refine QuitsD.value (.bool false) rfl rfl (by k_ne) (fun _ => by go_simp; try (first | omega | (w_num; omega) | w_num | decide)) (fun _ => by simp [go_sem, *]) ?_; walk_nrm)
     (refine QuitsD.value (.bool false) rfl rfl (by k_ne) (fun _ => by go_simp; try (first | omega | (w_num; omega) | w_num | decide)) (fun _ => by simp [go_sem, *]) ?_; walk_nrm)
     q_skip
     q_skip
     (refine QuitsD.value (.bool false) rfl rfl (by k_ne) (fun _ => by go_simp; try (first | omega | (w_num; omega) | w_num | decide)) (fun _ => by simp [go_sem, *]) ?_; walk_nrm)
     q_c stepG_region_end
     q_cond false
     q_c stepG_skip
     q_c stepG_seq
     q_reg
     (refine QuitsD.value (.int .u64 S) rfl rfl (by k_ne) (fun _ => by go_simp; try (first | omega | (w_num; omega) | w_num | decide)) (fun _ => by simp [go_sem, *]) ?_; walk_nrm)
     (refine QuitsD.value (.int .u64 V) rfl rfl (by k_ne) (fun _ => by go_simp; try (first | omega | (w_num; omega) | w_num | decide)) (fun _ => by simp [go_sem, *]) ?_; walk_nrm)
     (refine QuitsD.value (.int .i32 V) rfl rfl (by k_ne) (fun _ => by go_simp; try (first | omega | (w_num; omega) | w_num | decide)) (fun _ => by simp [go_sem, *]) ?_; walk_nrm)
     (refine QuitsD.value (.int .i32 V) rfl rfl (by k_ne) (fun _ => by go_simp; try (first | omega | (w_num; omega) | w_num | decide)) (fun _ => by simp [go_sem, *]) ?_; walk_nrm)
     q_c stepG_region_end
     q_c stepG_seq
     q_reg
     (refine QuitsD.value (.int .u64 S) rfl rfl (by k_ne) (fun _ => by go_simp; try (first | omega | (w_num; omega) | w_num | decide)) (fun _ => by simp [go_sem, *]) ?_; walk_nrm)
     (refine QuitsD.value (.int .u64 0) rfl rfl (by k_ne) (fun _ => by go_simp; try (first | omega | (w_num; omega) | w_num | decide)) (fun _ => by simp [go_sem, *]) ?_; walk_nrm)
     (refine QuitsD.value (.int .u32 0) rfl rfl (by k_ne) (fun _ => by go_simp; try (first | omega | (w_num; omega) | w_num | decide)) (fun _ => by simp [go_sem, *]) ?_; walk_nrm)
     (refine QuitsD.value (.int .u32 0) rfl rfl (by k_ne) (fun _ => by go_simp; try (first | omega | (w_num; omega) | w_num | decide)) (fun _ => by simp [go_sem, *]) ?_; walk_nrm)
     q_c stepG_region_end
     q_c stepG_seq
     q_c stepG_seq
     q_reg
     (refine QuitsD.value (.bool true) rfl rfl (by k_ne) (fun _ => by go_simp; try (first | omega | (w_num; omega) | w_num | decide)) (fun _ => by simp [go_sem, *]) ?_; walk_nrm)
     (refine QuitsD.value (.int .i64 (-1)) rfl rfl (by k_ne) (fun _ => by go_simp; try (first | omega | (w_num; omega) | w_num | decide)) (fun _ => by simp [go_sem, *]) ?_; walk_nrm)
     (refine QuitsD.value (.bool false) rfl rfl (by k_ne) (fun _ => by go_simp; try (first | omega | (w_num; omega) | w_num | decide)) (fun _ => by simp [go_sem, *]) ?_; walk_nrm)
     (refine QuitsD.value (.bool false) rfl rfl (by k_ne) (fun _ => by go_simp; try (first | omega | (w_num; omega) | w_num | decide)) (fun _ => by simp [go_sem, *]) ?_; walk_nrm)
     (refine QuitsD.value (.bool false) rfl rfl (by k_ne) (fun _ => by go_simp; try (first | omega | (w_num; omega) | w_num | decide)) (fun _ => by simp [go_sem, *]) ?_; walk_nrm)
     q_skip
     q_skip
     q_skip
     q_skip
     (refine QuitsD.value (.bool false) rfl rfl (by k_ne) (fun _ => by go_simp; try (first | omega | (w_num; omega) | w_num | decide)) (fun _ => by simp [go_sem, *]) ?_; walk_nrm)
     q_c stepG_region_end
     q_cond false
     q_c stepG_skip
     q_c stepG_seq
     q_c stepG_seq
     q_reg
     (refine QuitsD.value (.int .i32 V) rfl rfl (by k_ne) (fun _ => by go_simp; try (first | omega | (w_num; omega) | w_num | decide)) (fun _ => by simp [go_sem, *]) ?_; walk_nrm)
     (refine QuitsD.value (.bool false) rfl rfl (by k_ne) (fun _ => by go_simp; try (first | omega | (w_num; omega) | w_num | decide)) (fun _ => by simp [go_sem, *]) ?_; walk_nrm)
     q_c stepG_region_end
     q_cond false
     q_c stepG_skip
     q_c stepG_seq
     q_c stepG_seq
     q_reg
     (refine QuitsD.value (.int .u32 0) rfl rfl (by k_ne) (fun _ => by go_simp; try (first | omega | (w_num; omega) | w_num | decide)) (fun _ => by simp [go_sem, *]) ?_; walk_nrm)
     (refine QuitsD.value (.bool false) rfl rfl (by k_ne) (fun _ => by go_simp; try (first | omega | (w_num; omega) | w_num | decide)) (fun _ => by simp [go_sem, *]) ?_; walk_nrm)
     (refine QuitsD.value (.bool false) rfl rfl (by k_ne) (fun _ => by go_simp; try (first | omega | (w_num; omega) | w_num | decide)) (fun _ => by simp [go_sem, *]) ?_; walk_nrm)
     q_skip
     q_skip
     (refine QuitsD.value (.bool false) rfl rfl (by k_ne) (fun _ => by go_simp; try (first | omega | (w_num; omega) | w_num | decide)) (fun _ => by simp [go_sem, *]) ?_; walk_nrm)
     (refine QuitsD.value (.bool false) rfl rfl (by k_ne) (fun _ => by go_simp; try (first | omega | (w_num; omega) | w_num | decide)) (fun _ => by simp [go_sem, *]) ?_; walk_nrm)
     q_skip
     q_skip
     q_skip
     q_skip
     (refine QuitsD.value (.bool false) rfl rfl (by k_ne) (fun _ => by go_simp; try (first | omega | (w_num; omega) | w_num | decide)) (fun _ => by simp [go_sem, *]) ?_; walk_nrm)
     q_c stepG_region_end
     q_cond false
     q_c stepG_skip
     q_c stepG_seq
     q_c stepG_seq
     q_reg
     (refine QuitsD.value (.int .i32 V) rfl rfl (by k_ne) (fun _ => by go_simp; try (first | omega | (w_num; omega) | w_num | decide)) (fun _ => by simp [go_sem, *]) ?_; walk_nrm)
     (refine QuitsD.value (.bool true) rfl rfl (by k_ne) (fun _ => by go_simp; try (first | omega | (w_num; omega) | w_num | decide)) (fun _ => by simp [go_sem, *]) ?_; walk_nrm)
     (refine QuitsD.value (.bool true) rfl rfl (by k_ne) (fun _ => by go_simp; try (first | omega | (w_num; omega) | w_num | decide)) (fun _ => by simp [go_sem, *]) ?_; walk_nrm)
     q_skip
     q_skip
     (refine QuitsD.value (.bool true) rfl rfl (by k_ne) (fun _ => by go_simp; try (first | omega | (w_num; omega) | w_num | decide)) (fun _ => by simp [go_sem, *]) ?_; walk_nrm)
     q_c stepG_region_end
     q_cond true
     q_c stepG_ret'
     q_enable
     q_leave0 H.f_add
     q_c stepG_region_end
     q_c stepG_end
     exact QuitsD.leaveD rfl rfl H.f_done rfl hcm hT
   · obtain rfl : wt = 1 := by omega
     refine Run.of_quits (q := qt + 92) (d := 1) ?_
     obtain ⟨V, hV⟩ : ∃ V : Int, V = ((v : Nat) : Int) := ⟨_, rfl⟩
     obtain ⟨S, hS⟩ : ∃ S : Int, S = V * KK + (1 : Nat) := ⟨_, rfl⟩
     rw [← hV, ← hS]
     have a1 : S / 4294967296 = V := by rw [hS]; simp only [KK]; omega
     have b1 : bits .and .u64 S 2147483648 = 0 := by rw [hS, hV]; have := st_flag v 1 (by omega) (by omega); simpa [KK] using this
     have b2 : bits .and .u64 S 2147483647 = 1 := by rw [hS, hV]; have := st_waiters v 1 (by omega) (by omega); simpa [KK] using this
     have c1 : IntKind.i32.wrap V = V := by rw [IntKind.wrap_i32]; omega
     have hV1 : 0 < V := by omega
     have hV2 : V < 2147483648 := by omega
     have q3 : decide (V < 0) = false := decide_eq_false (by omega)
     have q4 : decide (0 < V) = true := decide_eq_true (by omega)
     have q5 : (V == 0) = false := by simp; omega
     have q6 : decide (V = 0) = false := decide_eq_false (by omega)
     clear hS hV
     walk_nrm
     (refine QuitsD.value (.int .u64 S) rfl rfl (by k_ne) (fun _ => by go_simp; try (first | omega | (w_num; omega) | w_num | decide)) (fun _ => by simp [go_sem, *]) ?_; walk_nrm)
     q_c stepG_region_end
     q_c stepG_ret'
     q_leave1 H.f_uAdd
     (refine QuitsD.value (.int .u64 S) rfl rfl (by k_ne) (fun _ => by go_simp; try (first | omega | (w_num; omega) | w_num | decide)) (fun _ => by simp [go_sem, *]) ?_; walk_nrm)
     q_c stepG_region_end
     q_c stepG_seq
     q_c stepG_seq
     q_reg
     (refine QuitsD.value (.int .u64 S) rfl rfl (by k_ne) (fun _ => by go_simp; try (first | omega | (w_num; omega) | w_num | decide)) (fun _ => by simp [go_sem, *]) ?_; walk_nrm)
     (refine QuitsD.value (.int .u64 0) rfl rfl (by k_ne) (fun _ => by go_simp; try (first | omega | (w_num; omega) | w_num | decide)) (fun _ => by simp [go_sem, *]) ?_; walk_nrm)
     (refine QuitsD.value (.bool false) rfl rfl (by k_ne) (fun _ => by go_simp; try (first | omega | (w_num; omega) | w_num | decide)) (fun _ => by simp [go_sem, *]) ?_; walk_nrm)
     (refine QuitsD.value (.bool false) rfl rfl (by k_ne) (fun _ => by go_simp; try (first | omega | (w_num; omega) | w_num | decide)) (fun _ => by simp [go_sem, *]) ?_; walk_nrm)
     q_skip
     q_skip
     (refine QuitsD.value (.bool false) rfl rfl (by k_ne) (fun _ => by go_simp; try (first | omega | (w_num; omega) | w_num | decide)) (fun _ => by simp [go_sem, *]) ?_; walk_nrm)
     q_c stepG_region_end
     q_cond false
     q_c stepG_skip
     q_c stepG_seq
     q_reg
     (refine QuitsD.value (.int .u64 S) rfl rfl (by k_ne) (fun _ => by go_simp; try (first | omega | (w_num; omega) | w_num | decide)) (fun _ => by simp [go_sem, *]) ?_; walk_nrm)
     (refine QuitsD.value (.int .u64 V) rfl rfl (by k_ne) (fun _ => by go_simp; try (first | omega | (w_num; omega) | w_num | decide)) (fun _ => by simp [go_sem, *]) ?_; walk_nrm)
     (refine QuitsD.value (.int .i32 V) rfl rfl (by k_ne) (fun _ => by go_simp; try (first | omega | (w_num; omega) | w_num | decide)) (fun _ => by simp [go_sem, *]) ?_; walk_nrm)
     (refine QuitsD.value (.int .i32 V) rfl rfl (by k_ne) (fun _ => by go_simp; try (first | omega | (w_num; omega) | w_num | decide)) (fun _ => by simp [go_sem, *]) ?_; walk_nrm)
     q_c stepG_region_end
     q_c stepG_seq
     q_reg
     (refine QuitsD.value (.int .u64 S) rfl rfl (by k_ne) (fun _ => by go_simp; try (first | omega | (w_num; omega) | w_num | decide)) (fun _ => by simp [go_sem, *]) ?_; walk_nrm)
     (refine QuitsD.value (.int .u64 1) rfl rfl (by k_ne) (fun _ => by go_simp; try (first | omega | (w_num; omega) | w_num | decide)) (fun _ => by simp [go_sem, *]) ?_; walk_nrm)
     (refine QuitsD.value (.int .u32 1) rfl rfl (by k_ne) (fun _ => by go_simp; try (first | omega | (w_num; omega) | w_num | decide)) (fun _ => by simp [go_sem, *]) ?_; walk_nrm)
     (refine QuitsD.value (.int .u32 1) rfl rfl (by k_ne) (fun _ => by go_simp; try (first | omega | (w_num; omega) | w_num | decide)) (fun _ => by simp [go_sem, *]) ?_; walk_nrm)
     q_c stepG_region_end
     q_c stepG_seq
     q_c stepG_seq
     q_reg
     (refine QuitsD.value (.bool true) rfl rfl (by k_ne) (fun _ => by go_simp; try (first | omega | (w_num; omega) | w_num | decide)) (fun _ => by simp [go_sem, *]) ?_; walk_nrm)
     (refine QuitsD.value (.int .i64 (-1)) rfl rfl (by k_ne) (fun _ => by go_simp; try (first | omega | (w_num; omega) | w_num | decide)) (fun _ => by simp [go_sem, *]) ?_; walk_nrm)
     (refine QuitsD.value (.bool false) rfl rfl (by k_ne) (fun _ => by go_simp; try (first | omega | (w_num; omega) | w_num | decide)) (fun _ => by simp [go_sem, *]) ?_; walk_nrm)
     (refine QuitsD.value (.bool false) rfl rfl (by k_ne) (fun _ => by go_simp; try (first | omega | (w_num; omega) | w_num | decide)) (fun _ => by simp [go_sem, *]) ?_; walk_nrm)
     (refine QuitsD.value (.bool false) rfl rfl (by k_ne) (fun _ => by go_simp; try (first | omega | (w_num; omega) | w_num | decide)) (fun _ => by simp [go_sem, *]) ?_; walk_nrm)
     q_skip
     q_skip
     q_skip
     q_skip
     (refine QuitsD.value (.bool false) rfl rfl (by k_ne) (fun _ => by go_simp; try (first | omega | (w_num; omega) | w_num | decide)) (fun _ => by simp [go_sem, *]) ?_; walk_nrm)
     q_c stepG_region_end
     q_cond false
     q_c stepG_skip
     q_c stepG_seq
     q_c stepG_seq
     q_reg
     (refine QuitsD.value (.int .i32 V) rfl rfl (by k_ne) (fun _ => by go_simp; try (first | omega | (w_num; omega) | w_num | decide)) (fun _ => by simp [go_sem, *]) ?_; walk_nrm)
     (refine QuitsD.value (.bool false) rfl rfl (by k_ne) (fun _ => by go_simp; try (first | omega | (w_num; omega) | w_num | decide)) (fun _ => by simp [go_sem, *]) ?_; walk_nrm)
     q_c stepG_region_end
     q_cond false
     q_c stepG_skip
     q_c stepG_seq
     q_c stepG_seq
     q_reg
     (refine QuitsD.value (.int .u32 1) rfl rfl (by k_ne) (fun _ => by go_simp; try (first | omega | (w_num; omega) | w_num | decide)) (fun _ => by simp [go_sem, *]) ?_; walk_nrm)
     (refine QuitsD.value (.bool true) rfl rfl (by k_ne) (fun _ => by go_simp; try (first | omega | (w_num; omega) | w_num | decide)) (fun _ => by simp [go_sem, *]) ?_; walk_nrm)
     (refine QuitsD.value (.bool true) rfl rfl (by k_ne) (fun _ => by go_simp; try (first | omega | (w_num; omega) | w_num | decide)) (fun _ => by simp [go_sem, *]) ?_; walk_nrm)
     (refine QuitsD.value (.int .i64 (-1)) rfl rfl (by k_ne) (fun _ => by go_simp; try (first | omega | (w_num; omega) | w_num | decide)) (fun _ => by simp [go_sem, *]) ?_; walk_nrm)
     (refine QuitsD.value (.bool false) rfl rfl (by k_ne) (fun _ => by go_simp; try (first | omega | (w_num; omega) | w_num | decide)) (fun _ => by simp [go_sem, *]) ?_; walk_nrm)
     (refine QuitsD.value (.bool false) rfl rfl (by k_ne) (fun _ => by go_simp; try (first | omega | (w_num; omega) | w_num | decide)) (fun _ => by simp [go_sem, *]) ?_; walk_nrm)
     (refine QuitsD.value (.bool false) rfl rfl (by k_ne) (fun _ => by go_simp; try (first | omega | (w_num; omega) | w_num | decide)) (fun _ => by simp [go_sem, *]) ?_; walk_nrm)
     q_skip
     q_skip
     q_skip
     q_skip
     (refine QuitsD.value (.bool false) rfl rfl (by k_ne) (fun _ => by go_simp; try (first | omega | (w_num; omega) | w_num | decide)) (fun _ => by simp [go_sem, *]) ?_; walk_nrm)
     q_c stepG_region_end
     q_cond false
     q_c stepG_skip
     q_c stepG_seq
     q_c stepG_seq
     q_reg
     (refine QuitsD.value (.int .i32 V) rfl rfl (by k_ne) (fun _ => by go_simp; try (first | omega | (w_num; omega) | w_num | decide)) (fun _ => by simp [go_sem, *]) ?_; walk_nrm)
     (refine QuitsD.value (.bool true) rfl rfl (by k_ne) (fun _ => by go_simp; try (first | omega | (w_num; omega) | w_num | decide)) (fun _ => by simp [go_sem, *]) ?_; walk_nrm)
     (refine QuitsD.value (.bool true) rfl rfl (by k_ne) (fun _ => by go_simp; try (first | omega | (w_num; omega) | w_num | decide)) (fun _ => by simp [go_sem, *]) ?_; walk_nrm)
     q_skip
     q_skip
     (refine QuitsD.value (.bool true) rfl rfl (by k_ne) (fun _ => by go_simp; try (first | omega | (w_num; omega) | w_num | decide)) (fun _ => by simp [go_sem, *]) ?_; walk_nrm)
     q_c stepG_region_end
     q_cond true
     q_c stepG_ret'
     q_enable
     q_leave0 H.f_add
     q_c stepG_region_end
     q_c stepG_end
     exact QuitsD.leaveD rfl rfl H.f_done rfl hcm hT
end
end Go.Proofs.YtpdojmebloekgaaDoor.Nice.Co
namespace Go.Proofs.YtpdojmebloekgaaDoor.Nice.Co
open Go Go.Conc Go.RowKit Go.Conc.Lib Go.ConcR.Gen
open Go.ConcN (st_flag st_waiters)
open Go.ConcR (KK WgAt stA smA mk DC0)
set_option linter.unusedVariables false
set_option linter.unusedSimpArgs false
section
variable {P : Program} {L : WgLink} {p : Pr} {Pst : Value → World → Prop} {A Rd : Blks} {w : World} {b₀ : Frame} {a₀ : Act} {ops₀ : Array Oper} {i₀ : Nat} {rest₀ : List Nat} {k₀ : List Item} {cs : List Frame}
set_option maxRecDepth 100000 in
set_option maxHeartbeats 8000000 in
theorem wait_round (H : WgLib P L) (hA : Apt p A Rd) (hn : p.n < 2147483647) {w0 : World}
   (hT : ∀ w', Rely A Rd w0 w' → WgLv p w' → Run P p Pst false ⟨A, Rd, 0, .cs⟩ (G (b₀.at (a₀.put ((ops₀[i₀]?).bind (·.dst)) (.tuple #[])) (.inRegion ops₀ rest₀ :: k₀)) cs) w') :
   ∀ (B : Nat), B ≤ p.n → ∀ (T : Array Value) (w : World), T.size = 84 → T[0]? = some (.pointer (some ⟨p.Wg, 0, none⟩)) → WK p A Rd w0 w →
     Run P p Pst false ⟨A, Rd, 1, .cw B⟩ (G ((base L.wait).at ⟨T, []⟩ [.code (L7 L), .inLoop (L7 L), .inBlock 0]) (b₀.at a₀ (.inRegion ops₀ (i₀ :: rest₀) :: k₀) :: cs)) w := by
 lib_facts
 intro B
 induction B using Nat.strongRecOn with
 | _ B ih =>
 intro hBn T w hT84 t0 hF
 obtain ⟨v0, v1, v2, v3, v4, v5, v6, v7, v8, v9, v10, v11, v12, v13, v14, v15, v16, v17, v18, v19, v20, v21, v22, v23, v24, v25, v26, v27, v28, v29, v30, v31, v32, v33, v34, v35, v36, v37, v38, v39, v40, v41, v42, v43, v44, v45, v46, v47, v48, v49, v50, v51, v52, v53, v54, v55, v56, v57, v58, v59, v60, v61, v62, v63, v64, v65, v66, v67, v68, v69, v70, v71, v72, v73, v74, v75, v76, v77, v78, v79, v80, v81, v82, v83, rfl⟩ := array84 T hT84
 simp only [List.getElem?_toArray, List.getElem?_cons_zero, Option.some.injEq] at t0
 subst t0
 refine Run.of_goes (n := 140) (by simp) ?_
 simp only [L7, body_wait, waitFn, Option.getD_some]
 u_c stepG_block rlQ hF
 u_c stepG_seq rlQ hF
 u_reg rlQ hF
 u_op rlQ hF
 u_op rlQ hF
 u_op rlQ hF
 u_call H.f_uLoad (nm_uLoad L) uLoadFn rlQ hF
 u_c stepG_seq rlQ hF
 u_reg rlQ hF
 u_op rlQ hF
 u_c stepG_region_end rlQ hF
 u_c stepG_seq rlQ hF
 u_reg rlQ hF
 u_op rlQ hF
 u_op rlQ hF
 u_op rlQ hF
 (refine Goes.stop (fun wx hx => ?_); replace hF := rlQ hF hx; clear hx)
 refine Run.intro (.sync rfl (by simp) fun w₁ h₁ s hsh hp => ?_)
 replace hF := rlQ hF h₁
 clear h₁
 have hwg := hsh.wg
 obtain ⟨u, wt, sm, cl⟩ := s
 obtain ⟨hp1, hp2, hp3, hp4⟩ : u ≤ B ∧ wt = 0 ∧ sm = 0 ∧ cl = false := hp
 subst hp2 hp3 hp4
 rcases Nat.eq_zero_or_pos u with rfl | hup
 · simp only [KK, Int.ofNat_zero, Int.zero_mul, Int.zero_add, Int.cast_ofNat_Int, Int.natCast_zero] at hwg
   refine ⟨_, w₁, _, .cs, ⟨0, 0, 0, false⟩, stepG_load_atomic (v := 0) rfl rfl (by k_ne) rfl H.f_loadU64 (x_loadU64_n L) (x_loadU64_b L) (x_loadU64_x L) .u64 (x_loadU64_f L) rfl hwg.cellSt, .ld0, .refl _, hsh, .inl ⟨rfl, rfl⟩, ?_⟩
   clear hsh hwg ih
   change Run P p Pst false ⟨A, Rd, 1, .cs⟩ _ _
   walk_nrm
   refine Run.of_goes (n := 140) (by simp) ?_
   u_op rlQ hF
   u_c stepG_region_end rlQ hF
   u_c stepG_ret' rlQ hF
   u_leave1 H.f_uLoad rlQ hF
   u_op rlQ hF
   u_c stepG_region_end rlQ hF
   u_c stepG_seq rlQ hF
   u_reg rlQ hF
   u_op rlQ hF
   u_op rlQ hF
   u_op rlQ hF
   u_op rlQ hF
   u_c stepG_region_end rlQ hF
   u_c stepG_seq rlQ hF
   u_reg rlQ hF
   u_op rlQ hF
   u_op rlQ hF
   u_op rlQ hF
   u_op rlQ hF
   u_c stepG_region_end rlQ hF
   u_c stepG_seq rlQ hF
   u_c stepG_seq rlQ hF
   u_reg rlQ hF
   u_op rlQ hF
   u_op rlQ hF
   u_c stepG_region_end rlQ hF
   (u_in rlQ hF; rw [stepG_cond (t := true) (by first | rfl | (simp [Act.eval]; omega))]; simp only [goes_go, if_true, if_false, Bool.false_eq_true, ↓reduceIte]; refine ⟨by u_nil, ?_⟩)
   u_c stepG_seq rlQ hF
   (u_in rlQ hF; rw [stepG_cond (t := true) (by first | rfl | (simp [Act.eval]; omega))]; simp only [goes_go, if_true, if_false, Bool.false_eq_true, ↓reduceIte]; refine ⟨by u_nil, ?_⟩)
   u_c stepG_seq rlQ hF
   u_reg rlQ hF
   (refine Goes.stop (fun wx hx => ?_); replace hF := rlQ hF hx; clear hx)
   refine Run.mark rfl (by simp) .enable (by simp [MarkOk]) (d' := 0) rfl (fun w₁ h₁ => stepG_mark0 .enable (by simp) rfl rfl (by k_ne) rfl H.f_enable (x_enable_n L) (x_enable_b L) (x_enable_x L) (x_enable_f L)) fun w₁ h₁ => ?_
   replace hF := rlQ hF h₁
   clear h₁
   walk_nrm
   refine Run.of_goes (n := 140) (by simp) ?_
   u_c stepG_region_end rlQ hF
   u_reg rlQ hF
   u_op rlQ hF
   u_conv H.underlying_tWgP H.room_tWg (WK.cell0 hF).choose_spec rlQ hF
   (refine Goes.stop (fun wx hx => ?_); replace hF := rlQ hF hx; clear hx)
   refine Run.mark rfl (by simp) (.acquire _) (by simp [MarkOk]) (d' := 0) rfl (fun w₁ h₁ => stepG_markAt .acquire (by simp) rfl rfl (by k_ne) rfl H.f_acquire (x_acquire_n L) (x_acquire_b L) (x_acquire_x L) (x_acquire_f L) (by simp [Act.eval] <;> rfl)) fun w₁ h₁ => ?_
   replace hF := rlQ hF h₁
   clear h₁
   walk_nrm
   refine Run.of_goes (n := 140) (by simp) ?_
   u_c stepG_region_end rlQ hF
   u_c stepG_seq rlQ hF
   u_c stepG_seq rlQ hF
   u_reg rlQ hF
   u_op rlQ hF
   u_op rlQ hF
   u_op rlQ hF
   u_op rlQ hF
   u_op rlQ hF
   u_op rlQ hF
   u_op rlQ hF
   u_op rlQ hF
   u_skip rlQ hF
   u_skip rlQ hF
   u_op rlQ hF
   u_c stepG_region_end rlQ hF
   (u_in rlQ hF; rw [stepG_cond (t := false) (by first | rfl | (simp [Act.eval]; omega))]; simp only [goes_go, if_true, if_false, Bool.false_eq_true, ↓reduceIte]; refine ⟨by u_nil, ?_⟩)
   u_c stepG_skip rlQ hF
   u_c stepG_ret' rlQ hF
   u_leave0 H.f_wait rlQ hF
   (refine Goes.stop (fun wx hx => ?_); replace hF := rlQ hF hx; clear hx)
   exact hT _ hF.2 hF.1
 · obtain ⟨S, hS⟩ : ∃ S : Int, (u : Int) * KK = S := ⟨_, rfl⟩
   have a1 : S / 4294967296 = (u : Int) := by rw [← hS]; simp only [KK]; omega
   have b1 : bits .and .u64 S 2147483648 = 0 := by rw [← hS]; have := st_flag u 0 (by omega) (by omega); simpa [KK] using this
   have b2 : bits .and .u64 S 2147483647 = 0 := by rw [← hS]; have := st_waiters u 0 (by omega) (by omega); simpa [KK] using this
   have c1 : IntKind.i32.wrap (u : Int) = (u : Int) := by rw [IntKind.wrap_i32]; omega
   have w1 : IntKind.u64.wrap (S + 1) = S + 1 := by rw [IntKind.wrap_u64, ← hS]; simp only [KK]; omega
   have q3 : decide ((u : Int) < 0) = false := decide_eq_false (by omega)
   have q4 : decide (0 < (u : Int)) = true := decide_eq_true (by omega)
   have q5 : ((u : Int) == 0) = false := by simp; omega
   have q6 : decide ((u : Int) = 0) = false := decide_eq_false (by omega)
   have hwg' : WgAt p.ty p.Wg w₁ S 0 := by rw [← hS]; simpa using hwg
   refine ⟨_, w₁, _, .cc u, ⟨u, 0, 0, false⟩, stepG_load_atomic (v := S) rfl rfl (by k_ne) rfl H.f_loadU64 (x_loadU64_n L) (x_loadU64_b L) (x_loadU64_x L) .u64 (x_loadU64_f L) rfl hwg'.cellSt, .ldv hup hp1, .refl _, hsh, .inl ⟨rfl, rfl⟩, ?_⟩
   clear hsh hwg hwg'
   change Run P p Pst false ⟨A, Rd, 1, .cc u⟩ _ _
   walk_nrm
   refine Run.of_goes (n := 140) (by simp) ?_
   u_op rlQ hF
   u_c stepG_region_end rlQ hF
   u_c stepG_ret' rlQ hF
   u_leave1 H.f_uLoad rlQ hF
   u_op rlQ hF
   u_c stepG_region_end rlQ hF
   u_c stepG_seq rlQ hF
   u_reg rlQ hF
   u_op rlQ hF
   u_op rlQ hF
   u_op rlQ hF
   u_op rlQ hF
   u_c stepG_region_end rlQ hF
   u_c stepG_seq rlQ hF
   u_reg rlQ hF
   u_op rlQ hF
   u_op rlQ hF
   u_op rlQ hF
   u_op rlQ hF
   u_c stepG_region_end rlQ hF
   u_c stepG_seq rlQ hF
   u_c stepG_seq rlQ hF
   u_reg rlQ hF
   u_op rlQ hF
   u_op rlQ hF
   u_c stepG_region_end rlQ hF
   (u_in rlQ hF; rw [stepG_cond (t := false) (by first | rfl | (simp [Act.eval]; omega))]; simp only [goes_go, if_true, if_false, Bool.false_eq_true, ↓reduceIte]; refine ⟨by u_nil, ?_⟩)
   u_c stepG_skip rlQ hF
   u_c stepG_seq rlQ hF
   u_reg rlQ hF
   u_op rlQ hF
   u_op rlQ hF
   u_op rlQ hF
   u_op rlQ hF
   u_op rlQ hF
   u_op rlQ hF
   u_call H.f_uCas (nm_uCas L) uCasFn rlQ hF
   u_c stepG_seq rlQ hF
   u_reg rlQ hF
   u_op rlQ hF
   u_c stepG_region_end rlQ hF
   u_c stepG_seq rlQ hF
   u_reg rlQ hF
   u_op rlQ hF
   u_op rlQ hF
   u_op rlQ hF
   u_op rlQ hF
   u_op rlQ hF
   (refine Goes.stop (fun wx hx => ?_); replace hF := rlQ hF hx; clear hx)
   refine Run.intro (.sync rfl (by simp) fun w₁ h₁ s hsh hp => ?_)
   replace hF := rlQ hF h₁
   clear h₁
   have hwg := hsh.wg
   obtain ⟨v', wt, sm, cl⟩ := s
   obtain ⟨hp2, hp3, hp4, hp5⟩ : v' ≤ u ∧ wt = 0 ∧ sm = 0 ∧ cl = false := hp
   subst hp3 hp4 hp5
   rcases Nat.lt_or_ge v' u with hlt | hge
   · have hne : ¬ ((v' : Int) * KK + ((0 : Nat) : Int)) = S := by rw [← hS]; simp only [KK]; omega
     refine ⟨_, w₁, _, .cw v', ⟨v', 0, 0, false⟩, stepG_cas_miss (old := S) (n := S + 1) rfl rfl (by k_ne) rfl H.f_casU64 (x_casU64_n L) (x_casU64_b L) (x_casU64_x L) .u64 (x_casU64_f L) rfl rfl rfl hwg.cellSt (hwg.thaw 0) hne, .miss hlt, .refl _, hsh, .inl ⟨rfl, rfl⟩, ?_⟩
     clear hsh hwg hne
     change Run P p Pst false ⟨A, Rd, 1, .cw v'⟩ _ _
     walk_nrm
     refine Run.of_goes (n := 140) (by simp) ?_
     u_op rlQ hF
     u_c stepG_region_end rlQ hF
     u_c stepG_ret' rlQ hF
     u_leave1 H.f_uCas rlQ hF
     u_c stepG_region_end rlQ hF
     (u_in rlQ hF; rw [stepG_cond (t := false) (by first | rfl | (simp [Act.eval]; omega))]; simp only [goes_go, if_true, if_false, Bool.false_eq_true, ↓reduceIte]; refine ⟨by u_nil, ?_⟩)
     u_c stepG_skip rlQ hF
     u_c stepG_inBlock rlQ hF
     u_c stepG_inLoop rlQ hF
     (refine Goes.stop (fun wx hx => ?_); replace hF := rlQ hF hx; clear hx)
     exact ih v' (by omega) (by omega) _ _ rfl rfl hF
   · obtain rfl : v' = u := by omega
     have hwg' : WgAt p.ty p.Wg w₁ S 0 := by rw [← hS]; simpa using hwg
     obtain ⟨hsh', O⟩ := hsh.setSt v' 1 (x := S + 1) (by rw [← hS]; rfl)
     refine ⟨_, _, _, .cr, ⟨v', 1, 0, false⟩, stepG_cas_hit (v := S) (n := S + 1) rfl rfl (by k_ne) rfl H.f_casU64 (x_casU64_n L) (x_casU64_b L) (x_casU64_x L) .u64 (x_casU64_f L) rfl rfl rfl hwg'.cellSt (hwg'.thaw 0), .cas hup, O, hsh', .inl ⟨rfl, rfl⟩, ?_⟩
     replace hF := hF.only hA O hsh'
     generalize w₁.setCell (stA p.Wg) (.int .u64 (S + 1)) = w₂ at hF ⊢
     clear hsh hsh' O hwg hwg' ih
     change Run P p Pst false ⟨A, Rd, 1, .cr⟩ _ _
     walk_nrm
     refine Run.of_goes (n := 140) (by simp) ?_
     u_op rlQ hF
     u_c stepG_region_end rlQ hF
     u_c stepG_ret' rlQ hF
     u_leave1 H.f_uCas rlQ hF
     u_c stepG_region_end rlQ hF
     (u_in rlQ hF; rw [stepG_cond (t := true) (by first | rfl | (simp [Act.eval]; omega))]; simp only [goes_go, if_true, if_false, Bool.false_eq_true, ↓reduceIte]; refine ⟨by u_nil, ?_⟩)
     u_c stepG_seq rlQ hF
     u_c stepG_seq rlQ hF
     u_reg rlQ hF
     u_op rlQ hF
     u_op rlQ hF
     u_op rlQ hF
     u_op rlQ hF
     u_c stepG_region_end rlQ hF
     (u_in rlQ hF; rw [stepG_cond (t := true) (by first | rfl | (simp [Act.eval]; omega))]; simp only [goes_go, if_true, if_false, Bool.false_eq_true, ↓reduceIte]; refine ⟨by u_nil, ?_⟩)
     u_reg rlQ hF
     u_op rlQ hF
     u_op rlQ hF
     u_op rlQ hF
     u_conv H.underlying_tPU32 H.room_tU32 (WK.cell1 hF).choose_spec rlQ hF
     (refine Goes.stop (fun wx hx => ?_); replace hF := rlQ hF hx; clear hx)
     refine Run.intro (.sync rfl (by simp) fun w₁ h₁ s hsh hp => ⟨_, w₁, _, .cr, s, stepG_markAt .write (by simp) rfl rfl (by k_ne) rfl H.f_raceWrite (x_raceWrite_n L) (x_raceWrite_b L) (x_raceWrite_x L) (x_raceWrite_f L) (ad := smA p.Wg) (by simp [Act.eval, smA]), .saidW, .refl _, hsh, .inl ⟨rfl, rfl⟩, ?_⟩)
     replace hF := rlQ hF h₁
     clear h₁ hsh hp
     change Run P p Pst false ⟨A, Rd, 1, .cr⟩ _ _
     walk_nrm
     refine Run.of_goes (n := 140) (by simp) ?_
     u_c stepG_region_end rlQ hF
     u_c stepG_seq rlQ hF
     u_reg rlQ hF
     u_op rlQ hF
     u_c stepG_region_end rlQ hF
     u_c stepG_seq rlQ hF
     u_c stepG_seq rlQ hF
     u_reg rlQ hF
     u_op rlQ hF
     u_op rlQ hF
     u_op rlQ hF
     u_op rlQ hF
     u_skip rlQ hF
     u_op rlQ hF
     u_c stepG_region_end rlQ hF
     (u_in rlQ hF; rw [stepG_cond (t := false) (by first | rfl | (simp [Act.eval]; omega))]; simp only [goes_go, if_true, if_false, Bool.false_eq_true, ↓reduceIte]; refine ⟨by u_nil, ?_⟩)
     u_c stepG_skip rlQ hF
     u_c stepG_seq rlQ hF
     u_reg rlQ hF
     u_op rlQ hF
     u_op rlQ hF
     u_op rlQ hF
     u_op rlQ hF
     (refine Goes.stop (fun wx hx => ?_); replace hF := rlQ hF hx; clear hx)
     refine Run.intro (.wait rfl rfl rfl fun w₁ h₁ s hsh hp => ⟨fun h0 => ?_, fun h1 => ?_⟩)
     · have hwg := hsh.wg
       rw [h0] at hwg
       exact stepG_semacquire_wait rfl rfl rfl H.f_semacquire (x_semacquire_n L) (x_semacquire_b L) (x_semacquire_x L) (x_semacquire_f L) (by simp [Act.eval, smA]) hwg.cellSm
     replace hF := rlQ hF h₁
     clear h₁
     have hs : s = ⟨0, 0, 1, false⟩ := by
       obtain ⟨v1, v2, v3, v4⟩ := s
       obtain ⟨x1, x2⟩ := hp
       simp only at x1 x2 h1
       subst x1 h1
       rcases x2 with ⟨_, x⟩ | ⟨x, y, _⟩
       · cases x
       · subst x y; rfl
     subst hs
     have hwg := hsh.wg
     obtain ⟨hsh', O⟩ := hsh.setSm 0 (x := ((1 : Nat) : Int) - 1) (by decide)
     refine ⟨_, _, stepG_semacquire rfl rfl (by k_ne) rfl H.f_semacquire (x_semacquire_n L) (x_semacquire_b L) (x_semacquire_x L) (x_semacquire_f L) (by simp [Act.eval, smA] <;> rfl) hwg.cellSm (by decide) (hwg.thaw 1), O, hsh', ?_⟩
     replace hF := hF.only hA O hsh'
     generalize w₁.setCell (smA p.Wg) (.int .u32 (((1 : Nat) : Int) - 1)) = w₂ at hF ⊢
     clear hsh hsh' O hwg hp h1
     change Run P p Pst false ⟨A, Rd, 1, .cs⟩ _ _
     walk_nrm
     refine Run.of_goes (n := 140) (by simp) ?_
     u_c stepG_region_end rlQ hF
     u_c stepG_seq rlQ hF
     u_reg rlQ hF
     u_op rlQ hF
     u_op rlQ hF
     u_op rlQ hF
     u_call H.f_uLoad (nm_uLoad L) uLoadFn rlQ hF
     u_c stepG_seq rlQ hF
     u_reg rlQ hF
     u_op rlQ hF
     u_c stepG_region_end rlQ hF
     u_c stepG_seq rlQ hF
     u_reg rlQ hF
     u_op rlQ hF
     u_op rlQ hF
     u_op rlQ hF
     (refine Goes.stop (fun wx hx => ?_); replace hF := rlQ hF hx; clear hx)
     refine Run.intro (.sync rfl (by simp) fun w₁ h₁ s hsh hp => ?_)
     replace hF := rlQ hF h₁
     clear h₁
     have hwg := hsh.wg
     have hs : s = ⟨0, 0, 0, false⟩ := by simpa [Poss] using hp
     subst hs
     simp only [KK, Int.ofNat_zero, Int.zero_mul, Int.zero_add, Int.cast_ofNat_Int, Int.natCast_zero] at hwg
     refine ⟨_, w₁, _, .cs, ⟨0, 0, 0, false⟩, stepG_load_atomic (v := 0) rfl rfl (by k_ne) rfl H.f_loadU64 (x_loadU64_n L) (x_loadU64_b L) (x_loadU64_x L) .u64 (x_loadU64_f L) rfl hwg.cellSt, .ld2, .refl _, hsh, .inl ⟨rfl, rfl⟩, ?_⟩
     clear hsh hp hwg
     change Run P p Pst false ⟨A, Rd, 1, .cs⟩ _ _
     walk_nrm
     refine Run.of_goes (n := 140) (by simp) ?_
     u_op rlQ hF
     u_c stepG_region_end rlQ hF
     u_c stepG_ret' rlQ hF
     u_leave1 H.f_uLoad rlQ hF
     u_op rlQ hF
     u_op rlQ hF
     u_c stepG_region_end rlQ hF
     u_c stepG_seq rlQ hF
     (u_in rlQ hF; rw [stepG_cond (t := true) (by first | rfl | (simp [Act.eval]; omega))]; simp only [goes_go, if_true, if_false, Bool.false_eq_true, ↓reduceIte]; refine ⟨by u_nil, ?_⟩)
     u_c stepG_seq rlQ hF
     u_reg rlQ hF
     (refine Goes.stop (fun wx hx => ?_); replace hF := rlQ hF hx; clear hx)
     refine Run.mark rfl (by simp) .enable (by simp [MarkOk]) (d' := 0) rfl (fun w₁ h₁ => stepG_mark0 .enable (by simp) rfl rfl (by k_ne) rfl H.f_enable (x_enable_n L) (x_enable_b L) (x_enable_x L) (x_enable_f L)) fun w₁ h₁ => ?_
     replace hF := rlQ hF h₁
     clear h₁
     walk_nrm
     refine Run.of_goes (n := 140) (by simp) ?_
     u_c stepG_region_end rlQ hF
     u_reg rlQ hF
     u_op rlQ hF
     u_conv H.underlying_tWgP H.room_tWg (WK.cell0 hF).choose_spec rlQ hF
     (refine Goes.stop (fun wx hx => ?_); replace hF := rlQ hF hx; clear hx)
     refine Run.mark rfl (by simp) (.acquire _) (by simp [MarkOk]) (d' := 0) rfl (fun w₁ h₁ => stepG_markAt .acquire (by simp) rfl rfl (by k_ne) rfl H.f_acquire (x_acquire_n L) (x_acquire_b L) (x_acquire_x L) (x_acquire_f L) (by simp [Act.eval] <;> rfl)) fun w₁ h₁ => ?_
     replace hF := rlQ hF h₁
     clear h₁
     walk_nrm
     refine Run.of_goes (n := 140) (by simp) ?_
     u_c stepG_region_end rlQ hF
     u_c stepG_seq rlQ hF
     u_c stepG_seq rlQ hF
     u_reg rlQ hF
     u_op rlQ hF
     u_c stepG_region_end rlQ hF
     (u_in rlQ hF; rw [stepG_cond (t := false) (by first | rfl | (simp [Act.eval]; omega))]; simp only [goes_go, if_true, if_false, Bool.false_eq_true, ↓reduceIte]; refine ⟨by u_nil, ?_⟩)
     u_c stepG_skip rlQ hF
     u_c stepG_ret' rlQ hF
     u_leave0 H.f_wait rlQ hF
     (refine Goes.stop (fun wx hx => ?_); replace hF := rlQ hF hx; clear hx)
     exact hT _ hF.2 hF.1
set_option maxRecDepth 100000 in
set_option maxHeartbeats 8000000 in
theorem wg_wait (H : WgLib P L) (hA : Apt p A Rd) (hn : p.n < 2147483647) (hlv : WgLv p w)
   (hT : ∀ w', Rely A Rd w w' → WgLv p w' → Run P p Pst false ⟨A, Rd, 0, .cs⟩ (G (b₀.at (a₀.put ((ops₀[i₀]?).bind (·.dst)) (.tuple #[])) (.inRegion ops₀ rest₀ :: k₀)) cs) w') :
   Run P p Pst false ⟨A, Rd, 0, .cw p.n⟩ (G ((base L.wait).at ⟨#[.pointer (some ⟨p.Wg, 0, none⟩)] ++ Array.replicate 83 undef, []⟩ [.code (body_wait L)]) (b₀.at a₀ (.inRegion ops₀ (i₀ :: rest₀) :: k₀) :: cs)) w := by
 lib_facts
 have hF : WK p A Rd w w := ⟨hlv, .refl w⟩
 refine Run.of_goes (n := 140) (by simp) ?_
 simp only [body_wait, waitFn, Option.getD_some]
 walk_nrm
 u_c stepG_seq rlQ hF
 (u_in rlQ hF; rw [stepG_cond (t := true) (by first | rfl | (simp [Act.eval]; omega))]; simp only [goes_go, if_true, if_false, Bool.false_eq_true, ↓reduceIte]; refine ⟨by u_nil, ?_⟩)
 u_reg rlQ hF
 (refine Goes.stop (fun wx hx => ?_); replace hF := rlQ hF hx; clear hx)
 refine Run.mark rfl (by simp) .disable (by simp [MarkOk]) (d' := 1) rfl (fun w₁ h₁ => stepG_mark0 .disable (by simp) rfl rfl (by k_ne) rfl H.f_disable (x_disable_n L) (x_disable_b L) (x_disable_x L) (x_disable_f L)) fun w₁ h₁ => ?_
 replace hF := rlQ hF h₁
 clear h₁
 walk_nrm
 refine Run.of_goes (n := 140) (by simp) ?_
 u_c stepG_region_end rlQ hF
 u_c stepG_block rlQ hF
 u_c stepG_loop rlQ hF
 (refine Goes.stop (fun wx hx => ?_); replace hF := rlQ hF hx; clear hx)
 exact wait_round H hA hn hT p.n (Nat.le_refl _) _ _ rfl rfl hF
end
end Go.Proofs.YtpdojmebloekgaaDoor.Nice.Co
namespace Go.Proofs.YtpdojmebloekgaaDoor.Nice.Co
open Go Go.Conc Go.Conc.Lib
open Go.ConcR (KK WgAt stA smA mk DC0)
set_option linter.unusedVariables false
set_option linter.unusedSimpArgs false
noncomputable def botP (P : Program) : Frame := { (default : Frame) with fn := P.funcs.size, defers := [], mode := .panicking [goexitEntry] }
theorem born_enter {P : Program} {f : FuncId} {fn : Func} {c : Code} (vs : Array Value) (hf : P.funcs[f]? = some fn) (hname : (fn.name == "runtime.NumGoroutine") = false) (hb : fn.body = some c) (w : World) :
   stepG P false (born P (goCall f vs)) w = .go (G ((baseD f).at ⟨vs ++ Array.replicate (fn.ntmps - vs.size) undef, []⟩ [.code c]) [botP P]) w #[] := by
 have h1 : ¬ fn.name = "runtime.NumGoroutine" := by simpa using hname
 rw [← enter_atD vs hf hb]
 simp [born, goCall, stepG, unwind, callDeferred, invoke, callFunc, hf, h1, hb, seen, GStep.after, G, botP]
theorem bot_quits {P : Program} {f : FuncId} {fn : Func} {T : Array Value} {todo : List Item} (hf : P.funcs[f]? = some fn) (hr : fn.results = #[]) : QuitsD P 2 0 (G { (baseD f).at ⟨T, []⟩ todo with mode := .returning } [botP P]) := by
 refine QuitsD.ctl (g' := G (botP P) []) rfl (fun w => ?_) ?_
 · simp [G, stepG, unwind, doReturn, results, Frame.at, baseD, botP, hf, hr, seen, GStep.after, goexitEntry]
 refine QuitsD.ctl (g' := { G (botP P) [] with status := .finished }) rfl (fun w => ?_) ⟨rfl, rfl⟩
 simp [G, stepG, unwind, botP, goexitEntry, Frame.catches]
 rfl
theorem hr_empty {A Rd : Blks} {M : Imm} {ρ : Names} {w : World} {h : Heap} (hh : ∀ n, h n = none) (hi : Holds M w) (hd : ∀ b, M b ≠ none → A b ∨ Rd b) : HR M (ext A Rd F0 w) ρ h w := by
 refine ⟨hi, fun b o hb => ?_, fun b o hb => ?_, fun n blk hn => ?_, fun n m x y hn => absurd (hh n) hn, fun n S es hn => ?_⟩
 · by_cases e : A b ∨ Rd b
   · rw [ext_in e] at hb; cases hb
   · rw [ext_out e] at hb; exact hb
 · refine Classical.byContradiction fun hc => ?_
   rw [ext_in (hd b hc)] at hb; cases hb
 · rw [hh n] at hn; cases hn
 · rw [hh n] at hn; cases hn
theorem sx_start {C : Ctx} {A Rd : Blks} {M : Imm} {w : World} (args : List SV) {vs : Array Value} (hsz : vs.size = args.length) (hn : args.length ≤ C.sz) (hargs : ∀ (i : Nat) (x : SV), args[i]? = some x → ∃ u, vs[i]? = some u ∧ VR M pin0 x u)
   (hf : Fit A Rd F0 M w) (hi : Holds M w) (hd : ∀ b, M b ≠ none → A b ∨ Rd b) (hG : ∀ g ρ, VR M ρ (C.G g) (.pointer (some ⟨g, 0, none⟩))) : SX C A Rd M [] pin0 0 (stOf (argT 0 args) []) ⟨vs ++ Array.replicate (C.sz - vs.size) undef, []⟩ w := by
 refine ⟨hf, ⟨fun k => ?_, by simp; omega, rfl, hr_empty (fun n => by simp [stOf, hOf]) hi hd, fun n x h => h, (fun n x h => by cases h), hG⟩, rfl, fun _ _ => rfl⟩
 show VR M pin0 (tOf (argT 0 args) k) _
 rw [tOf_argT]
 simp only [Nat.zero_le, if_true, Nat.sub_zero]
 rw [List.getD_eq_getElem?_getD]
 cases e : args[k]? with
 | none => exact .any _
 | some x =>
   obtain ⟨u, hu, hr⟩ := hargs k x e
   have hk := (Array.getElem?_eq_some_iff.1 hu).1
   have : (vs ++ Array.replicate (C.sz - vs.size) undef).getD k undef = u := by
     rw [Array.getD_eq_getD_getElem?, Array.getElem?_append_left hk, hu]; rfl
   rw [this]; exact hr
theorem child_start {P : Program} {Gv : Nat → SV} {p : Pr} {Pst : Value → World → Prop} {f : FuncId} {fn : Func} {c : Code} {caps : List SV} {lo : Lo} {hl : lo ≠ .out} {hm : lo.mute = false} (hf : P.funcs[f]? = some fn) (hname : (fn.name == "runtime.NumGoroutine") = false) (hb : fn.body = some c) (hsz : caps.length ≤ fn.ntmps)
   (h : ∀ Rd M a w, SX ⟨P, fn.ntmps, 0, Gv⟩ no Rd M [] pin0 0 (stOf (argT 0 caps) []) a w → Shared Rd M w → (trRun P p Pst false Rd 0 lo hl hm).T no (G ((baseD f).at a [.code c]) [botP P]) w) : Child P Gv p Pst f caps lo := by
 intro Rd M w vs hG hsh hA hlv hvs hcap
 refine Run.intro (.own rfl hl fun w₁ h₁ => ⟨_, w₁, #[], born_enter vs hf hname hb w₁, fun _ => rfl, Guar.idle _, ?_⟩)
 rw [more_self]
 have hi₁ : Holds M w₁ := fun b o hbo => by rw [h₁.ry.keep b (.inr ((hsh.dom b).2 (by rw [hbo]; simp)))]; exact hsh.imm b o hbo
 have hs := sx_start (C := ⟨P, fn.ntmps, 0, Gv⟩) (A := no) (Rd := Rd) (M := M) (w := w₁) caps hvs hsz (fun i x hx => let ⟨u, a, b⟩ := hcap i x hx; ⟨u, a, b pin0⟩)
   ⟨fun b hb => absurd rfl hb, fun b hb => (hsh.dom b).1 hb, fun b hb => hb.elim⟩ hi₁ (fun b hb => .inr ((hsh.dom b).2 hb)) hG
 exact trRun.elim (h Rd M _ w₁ hs ⟨hsh.dom, hi₁⟩) hA (h₁.wg hlv)
def fnOf : SV → SV
 | .d (.val (.func (.func f) first caps)) => if first = #[] ∧ caps = #[] then .fn f [] else .d (.val (.func (.func f) first caps))
 | x => x
theorem fnOf_rel {M : Imm} {ρ : Names} {x : SV} {u : Value} (h : VR M ρ x u) : VR M ρ (fnOf x) u := by
 unfold fnOf
 split
 · next f first caps =>
   split
   · next e =>
     obtain ⟨rfl, rfl⟩ := e
     cases h with
     | d _ _ h => cases h with
       | val _ _ => exact .fn f [] #[] (fun _ => undef) rfl (fun i hi => by simp at hi) fun i x hx => by simp at hx
   · exact h
 · exact h
theorem OpOK.mapv {C : Ctx} {o : Oper} {nm : Nat} {v v' : Operand → SV} {bs : List (Nat × Blk)} {RS : SV → List (Nat × Option Blk) → Prop} (hv : ∀ y M ρ u, VR M ρ (v y) u → VR M ρ (v' y) u) (h : OpOK C o nm v' bs RS) : OpOK C o nm v bs RS :=
 fun K A F M ρ a hp w h0 h1 h2 h3 h4 h5 => h K A F M ρ a hp w h0 (fun x hx => hv x _ _ _ (h1 x hx)) h2 h3 h4 h5
theorem c1d {C : Ctx} {ops : List Oper} {i : Nat} {o : Oper} {l : List Oper} {σ : St} {K : St → Prop} {x : Operand} {cargs : Array Operand} {tys : Array TypeId} {f : FuncId} {fn : Func} {args : List SV} {post : SV → List (Option Blk) → Prop}
   (hF : Spec C.P C.G f args [] post) (hg : o.guard = none) (hd : dstOK C o = true) (ho : o.op = .call { callee := .value x, args := cargs, argTypes := tys }) (hx : fnOf (opv C σ.t x) = .fn f []) (hf : C.P.funcs[f]? = some fn) (hfn : fnOK fn = true)
   (hargs : mapV (fun y => fnOf (opv C σ.t y)) cargs.toList ++ [] = renL [] args) (side : underL 0 args = true)
   (k : ∀ r hout, post r hout → wops C ops (i + 1) l (σ.app o.dst (ren (newNames (σ.nx + 8 * i) hout.length) r) (wrOf (newNames (σ.nx + 8 * i) hout.length) (newNames (σ.nx + 8 * i) hout.length) hout)) none K) : wops C ops i (o :: l) σ none K := by
 have hok := (call_ok (nm := σ.nx + 8 * i) (v := fun y => fnOf (opv C σ.t y)) ho hx hf hfn hF [] hargs (by simp [nodupB, hUnder, side])).mapv (v := opv C σ.t) (fun y M ρ u h => fnOf_rel h)
 unfold wops
 refine .inr ⟨rfl, hd, by simp [gOn, hg], _, _, hok, (by intro p hp; simp [bsOf] at hp), ?_⟩
 rintro u wr ⟨r, hout, π2, h1, rfl, rfl, rfl⟩
 simpa using k r hout h1
section
variable {C : Ctx} {Z : ZX} {ds : List Deferred} {σ : St} {ops : Array Oper} {i : Nat} {o : Oper} {Rd : Blks} {Pst : Value → World → Prop} {p : Pr} {x : Operand}
theorem RX_wait (hZ : Up Z) {L : WgLink} (H : WgLib C.P L) (ho : ops[i]? = some o) (hg : o.guard = none) {tys : Array TypeId} (hop : o.op = .call { callee := .value (.func L.wait), args := #[x], argTypes := tys }) (hx : opv C σ.t x = .d (.val (.pointer (some ⟨p.Wg, 0, none⟩))))
   (hd : (match o.dst with | none => true | some d => Nat.blt d C.sz) = true) (hn : p.n < 2147483647)
   {hl : Lo.cw p.n ≠ .out} {hm : (Lo.cw p.n).mute = false} {hl' : Lo.cs ≠ .out} {hm' : Lo.cs.mute = false}
   (h : RX C ops (i + 1) Z (trRun C.P p Pst false Rd 0 .cs hl' hm') ds (σ.app o.dst .any [])) : RX C ops i Z (trRun C.P p Pst false Rd 0 (.cw p.n) hl hm) ds σ := by
 refine RX_step ho fun A M ρ a w hs b k cs hb hz => trRun.intro fun hA w₁ h₁ hlv => ?_
 refine Run.intro (.own rfl (by simp) fun w₂ h₂ => ?_)
 have hs₂ := (hs.rely h₁).rely h₂.ry
 have hlv₂ := h₂.wg hlv
 have e1 := hs₂.val hx
 have hb' : (waitFn L).body.isNone = false := rfl
 have hrun : (execOp a.eval o).run C.P w₂ = .ok (.enter L.wait #[.pointer (some ⟨p.Wg, 0, none⟩)]) w₂ := by
   rw [run_call_body hop H.f_wait (Go.ConcR.Gen.nm_wait L) hb']
   simp [e1]
 have hev : (execOp a.eval o).events C.P w₂ #[] = #[] := events_call_body hop H.f_wait (Go.ConcR.Gen.nm_wait L) hb' _
 refine ⟨_, w₂, #[], (stepG_enter ho (wanted_none hg) hb hrun).trans (by unfold listed; rw [hev, seen_none]), fun _ => rfl, Guar.idle _, ?_⟩
 rw [more_self, enter_at _ H.f_wait (c := Go.ConcR.Gen.body_wait L) rfl]
 refine wg_wait H hA hn hlv₂ fun w' r hlv' => ?_
 have hT := h A M ρ (a.put o.dst (.tuple #[])) w' ((hs₂.rely r).put hd (.any _) (by show σ.nx + 8 * i ≤ σ.nx + 8 * (i + 1); omega)) b k cs hb (hZ _ _ _ _ _ _ _ hz (Imm.le_refl _) (h₁.same.trans (h₂.ry.same.trans r.same)))
 have e : (ops[i]?).bind (·.dst) = o.dst := by rw [ho]; rfl
 rw [e]
 exact hT hA w' (.refl _) hlv'
theorem RX_close (ho : ops[i]? = some o) (hg : o.guard = none) {tys : Array TypeId} (hop : o.op = .call { callee := .builtin .close, args := #[x], argTypes := tys }) (hx : opv C σ.t x = .d (.val (.chan (some p.Ch)))) {hl : Lo.cs ≠ .out} {hm : Lo.cs.mute = false}
   (hq : ∀ M w b k cs (a : Act), Z M w b k cs → a.defers = ds → (C.P.funcs[b.fn]?).any (·.norace) = false ∧ ∃ q, QuitsD C.P q 0 (G (b.at a (.inRegion ops (List.range' (i + 1) (ops.size - (i + 1))) :: k)) cs)) : RX C ops i Z (trRun C.P p Pst false Rd 0 .cs hl hm) ds σ := by
 refine RX_step ho fun A M ρ a w hs b k cs hb hz => trRun.intro fun hA w₁ h₁ hlv => ?_
 refine Run.intro (.sync rfl (by simp) fun w₂ h₂ s hsh hp => ?_)
 have hs₂ := (hs.rely h₁).rely h₂.ry
 have e1 := hs₂.val hx
 have hs0 : s = ⟨0, 0, 0, false⟩ := by simpa [Poss] using hp
 subst hs0
 obtain ⟨q0, hch⟩ := hsh.ch
 have hne := sh_ne hsh
 have hlt : p.Ch < w₂.heap.size := (Array.getElem?_eq_some_iff.1 hch).1
 obtain ⟨hnr, q, hQ⟩ := hq M w b k cs (a.put o.dst (.tuple #[])) hz (by cases o.dst <;> simp [Act.put, hs.df])
 have e1' := e1
 simp only [Act.eval, Array.getD_eq_getD_getElem?] at e1'
 have hrun : (execOp a.eval o).run C.P w₂ = .ok (.value (.tuple #[])) { w₂ with heap := w₂.heap.setIfInBounds p.Ch (.chan 0 #[] true q0 q0 false) } := by
   unfold execOp
   simp only [hop]
   simp [go_sem, e1', run_close_open _ _ hch]
 have hev : (execOp a.eval o).events C.P w₂ #[] = #[⟨.obj p.Ch, false, true⟩, ⟨.obj p.Ch, true, true⟩] := by
   unfold execOp
   simp only [hop]
   simp [go_sem, e1', events_close_open _ _ hch]
 have hl2 : listed C.P b.fn a o w₂ = #[⟨.obj p.Ch, false, true⟩, ⟨.obj p.Ch, true, true⟩] := by
   unfold listed
   rw [hev]
   exact seen_eq hnr (by intro e he f; simp at he; rcases he with rfl | rfl <;> simp)
 refine ⟨G (b.at (a.put o.dst (.tuple #[])) (.inRegion ops (List.range' (i + 1) (ops.size - (i + 1))) :: k)) cs, { w₂ with heap := w₂.heap.setIfInBounds p.Ch (.chan 0 #[] true q0 q0 false) }, _, .out, ⟨0, 0, 0, true⟩, (stepG_value ho (wanted_none hg) hb hrun).trans (by rw [hl2]), .close rfl, ⟨⟨rfl, rfl, rfl, by simp⟩, by simp, fun b _ hb => by simp [Array.getElem?_setIfInBounds_ne (fun e => hb e.symm)]⟩, ⟨?_, q0, by simp [hlt]⟩, .inr ?_, ?_⟩
 · have := hsh.wg
   unfold WgAt at this ⊢
   simpa [Array.getElem?_setIfInBounds_ne (fun e => hne e.symm)] using this
 · have ho' : (ops[i]?).map (·.op) = some (.call { callee := .builtin .close, args := #[x], argTypes := tys }) := by rw [ho]; simp [hop]
   simp [mayWake, G, Frame.at, ho']
 · exact Run.of_quits hQ
end
end Go.Proofs.YtpdojmebloekgaaDoor.Nice.Co
namespace Go.Proofs.YtpdojmebloekgaaDoor.Nice.Co
open Go Go.Conc Go.Conc.Lib Go.ConcR.Gen
open Go.ConcR (KK WgAt stA smA mk DC0)
set_option linter.unusedVariables false
set_option linter.unusedSimpArgs false
section
variable {C : Ctx} {ops : List Oper} {i : Nat} {o : Oper} {l : List Oper} {t : Nat → SV} {h h' : Heap} {nx : Nat} {K : St → Prop}
theorem c1f {f : FuncId} {args : List SV} {r : SV} {hout : List (Option Blk)} (hF : Spec C.P C.G f args [] (fun r' ho => r' = r ∧ ho = hout)) {x : Operand} {cargs : Array Operand} {tys : Array TypeId} {fn : Func} {r' : SV}
   (π2 : List Nat) (d nm i' : Nat) (hi : i + 1 = i') (hnm : nx + 8 * i = nm) (hp : newNames nm hout.length = π2) (hg : o.guard = none) (hdst : o.dst = some d) (hd : Nat.blt d C.sz = true) (ho : o.op = .call { callee := .value x, args := cargs, argTypes := tys }) (hx : fnOf (opv C t x) = .fn f []) (hf : C.P.funcs[f]? = some fn) (hfn : fnOK fn = true)
   (hargs : mapV (fun y => fnOf (opv C t y)) cargs.toList ++ [] = renL [] args) (side : underL 0 args = true) (hr : (ren π2 r).hd = some r') (hw : wrHO h (wrOf π2 π2 hout) = some h')
   (k : wops C ops i' l ⟨upd t d r', h', nx⟩ none K) : wops C ops i (o :: l) ⟨t, h, nx⟩ none K := by
 subst hi; subst hnm; subst hp
 refine c1d (σ := ⟨t, h, nx⟩) hF hg (by unfold dstOK; rw [hdst]; exact hd) ho hx hf hfn hargs side ?_
 rintro r1 ho1 ⟨rfl, rfl⟩
 unfold St.app; rw [hdst, SV.hd_eq hr, wrHO_eq hw]; exact k
end
section
variable {C : Ctx} {A Rd : Blks} {M : Imm} {ds : List Deferred} {ρ : Names} {σ σ' : St} {a : Act} {w : World}
theorem SX.turn (ht : ∀ M F pin ρ a w, SR C M F pin ρ σ a w → ∃ M' ρ', M.le M' ∧ SR C M' F pin ρ' σ' a w) (h : SX C A Rd M ds ρ σ.nx σ a w) : ∃ M' ρ', M.le M' ∧ SX C A Rd M' ds ρ' σ'.nx σ' a w := by
 obtain ⟨M', ρ', h1, h2⟩ := ht M _ pin0 ρ ⟨a.tmps, []⟩ w ⟨h.sr, h.fr⟩
 exact ⟨M', ρ', h1, ⟨h.fit.fa, fun b hb => by
   obtain ⟨o, ho⟩ := Option.ne_none_iff_exists'.1 (h.fit.rm b hb)
   rw [h1 b o ho]; simp, h.fit.lt⟩, h2.toSR0, h.df, h2.fr⟩
theorem sr_freeze (s n len : Nat) {ty k L : Nat} {f : Nat → Nat → D} (hs : σ.t s = .sl n 0 len) (hn : σ.h n = some (.rows ty k L f)) (hl : len ≤ L) :
   ∀ M F pin ρ a w, SR C M F pin ρ σ a w → ∃ M' ρ', M.le M' ∧ SR C M' F pin ρ' ⟨upd σ.t s (.d (.vec k len f)), upd σ.h n none, σ.nx⟩ a w := by
 intro M F pin ρ a w hsr
 have hv := hsr.tm s
 rw [hs] at hv
 obtain ⟨M', g1, g2, g3⟩ := HR.still hsr.hr hn hl hv
 refine ⟨M', ρ, g1, ⟨⟨fun j => ?_, hsr.sz, hsr.df, g2, hsr.pn, hsr.pm, fun g ρ => (hsr.gl g ρ).mono g1 (Names.le_refl _)⟩, hsr.fr⟩⟩
 show VR M' ρ (upd σ.t s _ j) _
 rw [upd_eq]
 split
 · next e => subst e; exact g3
 · exact (hsr.tm j).mono g1 (Names.le_refl _)
theorem SX.freeze (h : SX C A Rd M ds ρ σ.nx σ a w) (s n len : Nat) {ty k L : Nat} {f : Nat → Nat → D} (hs : σ.t s = .sl n 0 len) (hn : σ.h n = some (.rows ty k L f)) (hl : len ≤ L) :
   ∃ M' ρ', M.le M' ∧ SX C A Rd M' ds ρ' (St.nx ⟨upd σ.t s (.d (.vec k len f)), upd σ.h n none, σ.nx⟩) ⟨upd σ.t s (.d (.vec k len f)), upd σ.h n none, σ.nx⟩ a w := h.turn (sr_freeze s n len hs hn hl)
theorem SX.sub {π : List Nat} {tl : List (Nat × SV)} {hl : List (Option Blk)} (h : SX C A Rd M ds ρ σ.nx σ a w) (hsub : Sub C π σ tl hl) : SX C A Rd M ds (back π ρ) (stOf tl hl).nx (stOf tl hl) a w := by
 have hr := hsub.rel h.sr
 exact ⟨h.fit, ⟨hr.tm, hr.sz, hr.df, hr.hr, (fun n x h => by cases h), hr.pm, hr.gl⟩, h.df, hr.fr⟩
end
theorem SX.le {nb nb' : Nat} {C : Ctx} {A Rd : Blks} {M : Imm} {ds : List Deferred} {ρ : Names} {σ : St} {a : Act} {w : World} (h : SX C A Rd M ds ρ nb σ a w) (hn : nb ≤ nb') : SX C A Rd M ds ρ nb' σ a w := ⟨h.fit, h.sr, h.df, fun n hn' => h.fr n (by omega)⟩
theorem RX.run {C : Ctx} {ops : Array Oper} {i : Nat} {Z : ZX} {K : Tr C.P} {ds : List Deferred} {σ : St} {A : Blks} {M : Imm} {ρ : Names} {a : Act} {w : World} {b : Frame} {k : List Item} {cs : List Frame} {nb : Nat} (h : RX C ops i Z K ds σ) (hs : SX C A K.Rd M ds ρ nb σ a w) (hn : nb ≤ σ.nx + 8 * i) (hb : b.kind ≠ .early) (hz : Z M w b k cs) :
   K.T A (G (b.at a (.inRegion ops (List.range' i (ops.size - i)) :: k)) cs) w := h A M ρ a w (hs.le hn) b k cs hb hz
theorem SX.bump {C : Ctx} {A Rd : Blks} {M : Imm} {ds : List Deferred} {ρ : Names} {nb : Nat} {σ : St} {a : Act} {w : World} (h : SX C A Rd M ds ρ nb σ a w) : SX C A Rd M ds ρ (St.nx ⟨σ.t, σ.h, nb⟩) ⟨σ.t, σ.h, nb⟩ a w := ⟨h.fit, ⟨h.sr.tm, h.sr.sz, h.sr.df, h.sr.hr, h.sr.pn, h.sr.pm, h.sr.gl⟩, h.df, h.fr⟩
def ZB (P : Program) (f : FuncId) (k0 : List Item) : ZX := fun _ _ b k cs => b = baseD f ∧ cs = [botP P] ∧ k = k0
theorem ZB.up {P : Program} {f : FuncId} {k0 : List Item} : Up (ZB P f k0) := fun _ _ _ _ _ _ _ h _ _ => h
def SV.flat : SV → Bool
 | .agg xs => xs.all SV.dataB
 | x => SV.dataB x
theorem VR.flat {M : Imm} {ρ ρ' : Names} {x : SV} {u : Value} (h : VR M ρ x u) (hx : SV.flat x = true) : VR M ρ' x u := by
 cases h with
 | agg xs vs g hs hg hr =>
   refine .agg xs vs g hs hg fun i y hy => VR.other (hr i y hy) ?_
   simp only [SV.flat, List.all_eq_true] at hx
   exact hx y (List.mem_of_getElem? hy)
 | any => exact .any _
 | d _ _ h => exact .d _ _ h
 | vp k len f i c b o cur T fz g hb hg hr => exact .vp k len f i c b o cur T fz g hb hg hr
 | _ => simp [SV.flat, SV.dataB] at hx
section
variable {C : Ctx} {Z : ZX} {ds : List Deferred} {σ : St} {ops : Array Oper} {i : Nat} {o : Oper} {Rd : Blks} {Pst : Value → World → Prop} {p : Pr} {x y : Operand}
theorem RX_send (ho : ops[i]? = some o) (hg : o.guard = none) (hop : o.op = .send x y) (hx : opv C σ.t x = .d (.val (.chan (some p.Ch)))) {T : SV} (hy : opv C σ.t y = T) (hT : SV.flat T = true) {k : Nat} (hTell : ∀ M v, (∀ ρ, VR M ρ T v) → p.Tell k M v)
   {hl : Lo.wk k ≠ .out} {hm : (Lo.wk k).mute = false}
   (hq : ∀ M w b kk cs (a : Act), Z M w b kk cs → a.defers = ds → ∀ w₁, WgLv p w₁ → Run C.P p Pst false ⟨no, no, 0, .told⟩ (G (b.at a (.inRegion ops (List.range' (i + 1) (ops.size - (i + 1))) :: kk)) cs) w₁) : RX C ops i Z (trRun C.P p Pst false Rd 0 (.wk k) hl hm) ds σ := by
 refine RX_step ho fun A M ρ a w hs b kk cs hb hz => trRun.intro fun hA w₁ h₁ hlv => ?_
 have hs₁ := hs.rely h₁
 have e1 := hs₁.val hx
 have hv := hs₁.op y
 rw [hy] at hv
 refine Run.intro (.send rfl rfl k rfl rfl (G (b.at a (.inRegion ops (i :: List.range' (i + 1) (ops.size - (i + 1))) :: kk)) cs) (a.eval y) (.tuple #[]) M (fun b hb => hs₁.domM hb) hs₁.sr.hr.imm (hTell M _ fun ρ' => VR.flat hv hT) (fun w₂ h₂ => ?_) fun w₂ hlv₂ => ?_)
 · have hrun : (execOp a.eval o).run C.P w₂ = .ok (.comm #[scase p.Ch (a.eval y) (.tuple #[])] true .send) w₂ := by
     simp [execOp, hop, e1, scase]
   have hev : (execOp a.eval o).events C.P w₂ #[] = #[] := by simp [execOp, hop, e1]
   rw [stepG_comm ho (wanted_none hg) hb hrun]
   unfold listed
   rw [hev, seen_none]
 · rw [served_G ho]
   exact hq M w b kk cs _ hz (by cases o.dst <;> simp [Act.put, hs.df]) w₂ hlv₂
theorem worker_tail {P : Program} {L : WgLink} (H : WgLib P L) (hn : p.n < 2147483647) {f : FuncId} {fn : Func} (hf : P.funcs[f]? = some fn) (hr : fn.results = #[]) {T : Array Value} {w : World} (hlv : WgLv p w) :
   Run P p Pst false ⟨no, no, 0, .told⟩ (G ((baseD f).at ⟨T, [dcall L.done #[.pointer (some ⟨p.Wg, 0, none⟩)]]⟩ [.inRegion ops []]) [botP P]) w := by
 have hF : WK p no no w w := ⟨hlv, .refl w⟩
 refine Run.of_goes (n := 10) (by simp) ?_
 u_c stepG_region_end rlQ hF
 u_c stepG_end rlQ hF
 u_in rlQ hF
 rw [stepG_unwind_enter rfl H.f_done (nm_done L) rfl]
 simp only [goes_go]
 refine ⟨by u_nil, ?_⟩
 (refine Goes.stop (fun wx hx => ?_); replace hF := rlQ hF hx; clear hx)
 exact wg_done H hn rfl (bot_quits hf hr) hF.1
end
theorem HR.cstill {M F : Imm} {ρ : Names} {h : Heap} {w : World} (hH : HR M F ρ h w) {n ty : Nat} {x : SV} {X : D} (hn : h n = some (.cells ty 1 [x])) (hx : ∀ M ρ v, VR M ρ x v → DR M X v) {v : Value} (hv : VR M ρ (.ptr n 0 0) v) :
   ∃ M', M.le M' ∧ HR M' F ρ (upd h n none) w ∧ VR M' ρ (.vp 1 1 (fun _ _ => X) 0 0) v := by
 cases hv with
 | ptr _ _ _ y hy =>
   obtain ⟨y', hy', hr⟩ := hH.live n _ hn
   rw [hy] at hy'; obtain rfl := Option.some.inj hy'
   rcases hr with ⟨_, hg⟩ | ⟨h0, hM, hF, o, h3, h4⟩
   · simp [Blk.ghost] at hg
   cases o with
   | cells cur T fz =>
     obtain ⟨rfl, rfl, g1, g2, g3, g4⟩ := h4
     let M' : Imm := fun b => if b = y.b then some (.cells cur T (0, 0)) else M b
     have hle : M.le M' := by
       intro b o hb
       have : b ≠ y.b := by rintro rfl; rw [hM] at hb; cases hb
       simp [M', this, hb]
     obtain ⟨u, hu, hur⟩ := g4 0 x rfl
     refine ⟨M', hle, hH.stills hle (fun m b hm => ?_) ?_ ?_ (fun m b z hm hz q0 => ?_) (fun m S es hm b hb => ?_), ?_⟩
     · rw [upd_eq] at hm; split at hm
       · cases hm
       · exact hm
     · intro b o hb
       by_cases e : b = y.b
       · subst e; simp [M'] at hb; subst hb; exact h3
       · simp [M', e] at hb; exact hH.imm b o hb
     · intro b o hb
       have : b ≠ y.b := by rintro rfl; rw [hF] at hb; cases hb
       simp [M', this]; exact hH.dis b o hb
     · rw [upd_eq] at hm; split at hm
       · cases hm
       · next e =>
         obtain ⟨z', hz', hr⟩ := hH.live m b hm
         rw [hz] at hz'; obtain rfl := Option.some.inj hz'
         have : z.b ≠ y.b := fun hb => e (hH.sep m n z y (by rw [hm]; simp) (by rw [hn]; simp) hz hy q0 h0 hb)
         rcases hr with ⟨h00, _⟩ | ⟨_, q1, _⟩
         · omega
         · simp [M', this, q1]
     · rw [upd_eq] at hm; split at hm
       · cases hm
       · obtain ⟨_, _, _, g1, g2, _⟩ := hH.fam m S es hm
         have : b ≠ y.b := fun e => g2 n y (by rw [hn]; simp) hy h0 (e ▸ hb)
         simp [M', this, (g1 b hb).1]
     · rw [g1]
       exact .vp 1 1 (fun _ _ => X) 0 0 y.b 0 cur T (0, 0) (fun _ _ => u) (by simp [M']) (fun i c hi hc => by
         have e1 : i = 0 := by omega
         have e2 : c = 0 := by omega
         subst e1 e2; exact hu) (fun i c hi hc => (hx _ _ _ hur).mono hle)
   | _ => exact h4.elim
theorem sr_cfreeze {C : Ctx} {σ : St} (s n : Nat) {ty : Nat} {x : SV} (X : D) (hs : σ.t s = .ptr n 0 0) (hn : σ.h n = some (.cells ty 1 [x])) (hx : ∀ M ρ v, VR M ρ x v → DR M X v) :
   ∀ M F pin ρ a w, SR C M F pin ρ σ a w → ∃ M' ρ', M.le M' ∧ SR C M' F pin ρ' ⟨upd σ.t s (.vp 1 1 (fun _ _ => X) 0 0), upd σ.h n none, σ.nx⟩ a w := by
 intro M F pin ρ a w hsr
 have hv := hsr.tm s
 rw [hs] at hv
 obtain ⟨M', g1, g2, g3⟩ := HR.cstill hsr.hr hn hx hv
 refine ⟨M', ρ, g1, ⟨⟨fun j => ?_, hsr.sz, hsr.df, g2, hsr.pn, hsr.pm, fun g ρ => (hsr.gl g ρ).mono g1 (Names.le_refl _)⟩, hsr.fr⟩⟩
 show VR M' ρ (upd σ.t s _ j) _
 rw [upd_eq]
 split
 · next e => subst e; exact g3
 · exact (hsr.tm j).mono g1 (Names.le_refl _)
theorem dr_of_d {X : D} : ∀ M ρ v, VR M ρ (.d X) v → DR M X v := fun M ρ v h => by cases h with | d _ _ h => exact h
theorem dr_of_fn {f : FuncId} : ∀ M ρ v, VR M ρ (.fn f []) v → DR M (.val (.func (.func f) #[] #[])) v := fun M ρ v h => by
 cases h with
 | fn _ _ vs g hs hg hr =>
   have : vs = #[] := Array.eq_empty_of_size_eq_zero (by simpa using hs)
   subst this
   exact .val _ rfl
section
variable {C : Ctx} {Q : QX C.P} {K : Tr C.P} {ds : List Deferred} {t : Nat → SV} {h : Heap} {nx : Nat} {c : Code}
theorem WX_cfreeze (s n : Nat) {ty : Nat} {x : SV} (X : D) (hs : t s = .ptr n 0 0) (hn : h n = some (.cells ty 1 [x])) (hx : ∀ M ρ v, VR M ρ x v → DR M X v) (k : WX C c Q K ds ⟨upd t s (.vp 1 1 (fun _ _ => X) 0 0), upd h n none, nx⟩) : WX C c Q K ds ⟨t, h, nx⟩ :=
 WX_turn (sr_cfreeze (σ := ⟨t, h, nx⟩) s n X hs hn hx) k
end
section
variable {C : Ctx} {Q : QX C.P} {K : Tr C.P} {ds : List Deferred} {σ : St} {id : Nat} {ops : Array Oper} {y : Code}
theorem x1 (k : wops C ops.toList 0 ops.toList σ none (fun σ' => WX C y Q K [] σ')) : WX C (.seq (.region id ops false) y) Q K [] σ :=
 WX_seq (WX_of (Q0 := fun e σ' => thenX (WX C y Q) Q e K [] σ') (W_region k) fun _ _ h => h)
theorem x0 (k : wops C ops.toList 0 ops.toList σ none (fun σ' => Q .normal K [] σ')) : WX C (.region id ops false) Q K [] σ :=
 WX_of (Q0 := fun e σ' => Q e K [] σ') (W_region k) fun _ _ h => h
theorem xd0 (hm : C.P.follows .mixedOrders = true) (k : wops C ops.toList 0 ops.toList σ (some []) (fun σ' => Q .normal K [] σ')) : WX C (.region id ops true) Q K [] σ :=
 WX_of (Q0 := fun e σ' => Q e K [] σ') (W_region_draw hm k) fun _ _ h => h
theorem xX1 (k : RX C ops 0 (PZ C (thenX (WX C y Q) Q)) K ds σ) : WX C (.seq (.region id ops false) y) Q K ds σ := WX_seq (RX_region k)
theorem xX0 (k : RX C ops 0 (PZ C Q) K ds σ) : WX C (.region id ops false) Q K ds σ := RX_region k
theorem xtn {P : Program} {R : Tr P → List Deferred → St → Prop} {Q : QX P} {K : Tr P} {ds : List Deferred} {σ : St} (k : R K ds σ) : thenX R Q .normal K ds σ := k
theorem xbn {P : Program} {id : Nat} {Q : QX P} {K : Tr P} {ds : List Deferred} {σ : St} (k : Q .normal K ds σ) : inBlockX id Q .normal K ds σ := k
theorem xbo {P : Program} {id : Nat} {Q : QX P} {K : Tr P} {ds : List Deferred} {σ : St} (k : Q .normal K ds σ) : inBlockX id Q (.exit id) K ds σ := by simp [inBlockX, k]
theorem xtx {P : Program} {id : Nat} {R : Tr P → List Deferred → St → Prop} {Q : QX P} {K : Tr P} {ds : List Deferred} {σ : St} (k : Q (.exit id) K ds σ) : thenX R Q (.exit id) K ds σ := k
end
section
variable {C : Ctx} {Q : QX C.P} {K : Tr C.P} {ds : List Deferred} {t : Nat → SV} {h : Heap} {nx : Nat} {c : Code}
theorem WX_rowsc (n L' : Nat) (g : Nat → Nat → D) {ty k L : Nat} {f : Nat → Nat → D} (hn : h n = some (.rows ty k L f)) (hl : L = L') (hf : ∀ i c, i < L → c < k → f i c = g i c) (kk : WX C c Q K ds ⟨t, upd h n (some (.rows ty k L' g)), nx⟩) : WX C c Q K ds ⟨t, h, nx⟩ := by
 subst hl
 refine WX_turn (fun M F pin ρ a w hsr => ?_) kk
 refine ⟨M, ρ, Imm.le_refl _, ⟨⟨hsr.tm, hsr.sz, hsr.df, ?_, hsr.pn, hsr.pm, hsr.gl⟩, hsr.fr⟩⟩
 refine hsr.hr.swap n hn (fun x obj hb => ?_) (fun h => by cases L with | zero => rfl | succ L => cases h)
 cases obj with
 | cells cur T fz =>
   obtain ⟨h1, h2, h3, h4, h5, h6⟩ := hb
   exact ⟨h1, h2, h3, h4, h5, fun i c hi hc => by rw [← hf i c hi hc]; exact h6 i c hi hc⟩
 | _ => exact hb.elim
end
section
variable {C : Ctx} {Q : QX C.P} {K : Tr C.P} {ds : List Deferred} {c : Code}
theorem WX_keep {t : Nat → SV} {h : Heap} {nx : Nat} (ks : List Nat) {l : List (Nat × SV)} (e : keepO t ks = some l) (k : WX C c Q K ds ⟨tOf l, h, nx⟩) : WX C c Q K ds ⟨t, h, nx⟩ := by
 refine WX_turn (fun M F pin ρ a w hs => ?_) k
 refine ⟨M, ρ, Imm.le_refl _, ⟨⟨fun n => ?_, hs.sz, hs.df, hs.hr, hs.pn, hs.pm, hs.gl⟩, hs.fr⟩⟩
 rcases keepO_sub e n with h | h
 · show VR M ρ (tOf l n) _; rw [h]; exact .any _
 · show VR M ρ (tOf l n) _; rw [h]; exact hs.tm n
end
def miss (J : List Nat) : Nat → Nat
 | 0 => 0
 | m + 1 => miss J m + if m ∈ J then 0 else 1
theorem miss_le (k : Nat) (J : List Nat) : ∀ m, miss (k :: J) m ≤ miss J m
 | 0 => Nat.le_refl _
 | m + 1 => by
   have := miss_le k J m
   simp only [miss, List.mem_cons]
   by_cases h : m ∈ J
   · simp [h]; exact this
   · by_cases e : m = k
     · subst e; simp [h]; omega
     · simp [h, e]; exact this
theorem miss_lt {k : Nat} {J : List Nat} (hk : k ∉ J) : ∀ {m : Nat}, k < m → miss (k :: J) m < miss J m
 | 0, h => by omega
 | m + 1, h => by
   simp only [miss, List.mem_cons]
   by_cases e : m = k
   · subst e
     have := miss_le m J m
     simp [hk]; omega
   · have := miss_lt hk (m := m) (by omega)
     by_cases h2 : m ∈ J
     · simp [h2]; exact this
     · simp [h2, e]; exact this
end Go.Proofs.YtpdojmebloekgaaDoor.Nice.Co
namespace Go.Proofs.YtpdojmebloekgaaDoor.Nice.Co
open Go Go.Conc
set_option linter.unusedVariables false
set_option linter.unusedSimpArgs false
def Free (r : SV) : Prop := ∀ M ρ ρ' u, VR M ρ r u → VR M ρ' r u
theorem free_data {r : SV} (h : SV.dataB r = true) : Free r := fun M ρ ρ' u hv => VR.other hv h
theorem free_agg {xs : List SV} (h : ∀ x, x ∈ xs → Free x) : Free (.agg xs) := fun M ρ ρ' u hv => by
 cases hv with
 | agg _ vs g hs hg hr => exact .agg xs vs g hs hg fun i y hy => h y (List.mem_of_getElem? hy) _ _ _ _ (hr i y hy)
theorem free_tup {xs : List SV} (h : ∀ x, x ∈ xs → Free x) : Free (.tup xs) := fun M ρ ρ' u hv => by
 cases hv with
 | tup _ vs g hs hg hr => exact .tup xs vs g hs hg fun i y hy => h y (List.mem_of_getElem? hy) _ _ _ _ (hr i y hy)
theorem free_two {x y : SV} (h : Free x) (k : Free y) : Free (.tup [x, y]) := free_tup fun z hz => by
 simp at hz
 rcases hz with rfl | rfl
 · exact h
 · exact k
def SpecX (P : Program) (Gv : Nat → SV) (f : FuncId) (args : List SV) (K : Tr P) (post : Tr P → SV → Prop) : Prop :=
 ∀ A M (vs : Array Value) w, Fit A K.Rd F0 M w → (∀ g ρ, VR M ρ (Gv g) (.pointer (some ⟨g, 0, none⟩))) → Holds M w → (∀ b, M b ≠ none → A b ∨ K.Rd b) → vs.size = args.length →
   (∀ (i : Nat) (x : SV), args[i]? = some x → ∃ u, vs[i]? = some u ∧ VR M pin0 x u) →
   ∀ c cs, (∀ (K' : Tr P) A' M' r u w', M.le M' → Same w w' → Fit A' K'.Rd F0 M' w' → Holds M' w' → (∀ b, M' b ≠ none → A' b ∨ K'.Rd b) → VR M' pin0 r u → Free r → post K' r → K'.T A' (G (Frame.finish c u) cs) w') →
     K.T A (G (Frame.enter P f vs .normal) (c :: cs)) w
theorem SpecX.mono {P : Program} {Gv : Nat → SV} {f : FuncId} {args : List SV} {K : Tr P} {post post' : Tr P → SV → Prop} (h : SpecX P Gv f args K post) (hp : ∀ K r, post K r → post' K r) : SpecX P Gv f args K post' :=
 fun A M vs w h0 h1 h2 h3 h4 h5 c cs hk => h A M vs w h0 h1 h2 h3 h4 h5 c cs fun K' A' M' r u w' k1 k2 k3 k4 k5 k6 k7 k8 => hk K' A' M' r u w' k1 k2 k3 k4 k5 k6 k7 (hp _ _ k8)
def outQX (C : Ctx) (fn : Func) (post : Tr C.P → SV → Prop) : QX C.P
 | .ret, K, ds, σ | .normal, K, ds, σ => ds = [] ∧ ∃ r, RetIs C fn σ r ∧ Free r ∧ post K r
 | _, _, _, _ => False
theorem SX.holds {C : Ctx} {A Rd : Blks} {M : Imm} {ds : List Deferred} {ρ : Names} {nb : Nat} {σ : St} {a : Act} {w : World} (h : SX C A Rd M ds ρ nb σ a w) : Holds M w := h.sr.hr.imm
theorem ret_step {P : Program} {K : Tr P} {C : Ctx} (hP : C.P = P) {A : Blks} {M : Imm} {ρ : Names} {σ : St} {a : Act} {w w₁ : World} {fn : Func} {r : SV} (hs : SX C A K.Rd M [] ρ σ.nx σ a w) (hr : RetIs C fn σ r) (hfr : Free r) (h₁ : Rely A K.Rd w w₁) :
   ∃ u, (results fn a.tmps).run P w₁ = .ok u w₁ ∧ VR M pin0 r u ∧ ∀ e, e ∈ (results fn a.tmps).events P w₁ #[] → EvOk A K.Rd e := by
 subst hP
 have hs1 := (hs.rely h₁).toSC
 obtain ⟨⟨u, hru, hv⟩, hev⟩ := hr M _ pin0 ρ a w₁ hs1.sr
 exact ⟨u, hru, hfr _ _ _ _ hv, fun e he => (hev e he).ok hs1.sr.hr hs1.fit⟩
theorem fnx_intro {P : Program} {Gv : Nat → SV} {f : FuncId} {fn : Func} {c : Code} {args : List SV} {K : Tr P} {post : Tr P → SV → Prop} (hf : P.funcs[f]? = some fn) (hb : fn.body = some c) (hn : Nat.ble args.length fn.ntmps = true)
   (h : WX ⟨P, fn.ntmps, 0, Gv⟩ c (outQX ⟨P, fn.ntmps, 0, Gv⟩ fn post) K [] (stOf (argT 0 args) [])) : SpecX P Gv f args K post := by
 intro A M vs w hfit hG hi hd hsz hargs fc cs hk
 rw [enter_at vs hf hb]
 have hs := sx_start (C := ⟨P, fn.ntmps, 0, Gv⟩) (A := A) (Rd := K.Rd) args hsz (Nat.le_of_ble_eq_true hn) hargs hfit hi hd hG
 refine h A M pin0 _ w hs (base f) [] (fc :: cs) (by intro h; cases h) ?_
 intro e K' ds A' M' ρ' σ' a' w' h1 h2 h3 h5
 have fin : ds = [] ∧ (∃ r, RetIs ⟨P, fn.ntmps, 0, Gv⟩ fn σ' r ∧ Free r ∧ post K' r) → ∀ todo, K'.T A' (G { (base f).at a' todo with mode := .returning } (fc :: cs)) w' := by
   rintro ⟨rfl, r, hr, hfree, hp⟩ todo
   refine K'.step A' _ w' rfl fun w₁ h₁ => ?_
   obtain ⟨u, hru, hv, hev⟩ := ret_step (C := ⟨P, fn.ntmps, 0, Gv⟩) rfl h3 hr hfree h₁
   have hs1 := h3.rely h₁
   obtain ⟨es, e1, e2⟩ := stepG_leaveE (main := K'.main) (b := base f) (todo := todo) (c := fc) (cs := cs) rfl hs1.df hf hru
   refine ⟨_, w₁, es, e1, ⟨.refl _, fun _ _ _ => rfl, fun e he => hev e (e2 e he)⟩, ?_⟩
   rw [more_self]
   exact hk K' A' M' r u w₁ h1 (h2.trans h₁.same) hs1.fit hs1.holds (fun b hb => hs1.domM hb) hv hfree hp
 cases e with
 | normal => exact K'.idle rfl (fun _ => stepG_end) (fin h5 [])
 | ret => exact fin h5
 | _ => exact h5.elim
section
variable {C : Ctx} {Z : ZX} {ds : List Deferred} {σ : St} {ops : Array Oper} {i : Nat} {o : Oper} {K : Tr C.P} {x : Operand}
theorem RX_call (hZ : Up Z) (ho : ops[i]? = some o) (hg : o.guard = none) {f : FuncId} {fn : Func} {cargs : Array Operand} {tys : Array TypeId} (hop : o.op = .call { callee := .value x, args := cargs, argTypes := tys }) (hx : opv C σ.t x = .fn f []) (hf : C.P.funcs[f]? = some fn) (hfn : fnOK fn = true)
   {args : List SV} {post : Tr C.P → SV → Prop} (hF : SpecX C.P C.G f args K post) (hargs : mapV (opv C σ.t) cargs.toList = args) (hfree : ∀ y, y ∈ args → Free y) (hh : ∀ n, σ.h n = none) (hd : (match o.dst with | none => true | some d => Nat.blt d C.sz) = true)
   (h : ∀ (K' : Tr C.P) r, post K' r → RX C ops (i + 1) Z K' ds (σ.app o.dst r [])) : RX C ops i Z K ds σ := by
 refine RX_step ho fun A M ρ a w hs b k cs hb hz => ?_
 refine K.step A _ w rfl fun w₁ h₁ => ?_
 have hs₁ := hs.rely h₁
 have hvx := hs₁.op x
 rw [hx] at hvx
 obtain ⟨vs, hq, hvs, hvr⟩ := fn_case hvx
 have hvs0 : vs = #[] := Array.eq_empty_of_size_eq_zero (by simpa using hvs)
 subst hvs0
 have hrel := mapV_rel (M := M) (ρ := ρ) (a := a) (v := opv C σ.t) (xs := cargs) (fun y hy => hs₁.op y)
 obtain ⟨hrun, hev⟩ := run_enter (P := C.P) (w := w₁) (a := a) hop hq hf hfn
 have hl : listed C.P b.fn a o w₁ = #[] := by unfold listed; rw [hev]; exact seen_none _ _
 refine ⟨_, w₁, #[], (stepG_enter ho (wanted_none hg) hb hrun).trans (by rw [hl]), Guar.idle w₁, ?_⟩
 rw [more_self]
 subst hargs
 refine hF A M (cargs.map a.eval ++ #[]) w₁ hs₁.fit hs₁.sr.gl hs₁.holds (fun b hb => hs₁.domM hb) (by simp [mapV_length]) (fun j y hy => ?_) _ cs ?_
 · obtain ⟨u, u1, u2⟩ := hrel.2 j y hy
   exact ⟨u, by simpa using u1, hfree y (List.mem_of_getElem? hy) _ _ _ _ u2⟩
 · intro K' A' M' r u w' k1 k2 k3 k4 k5 k6 k7 k8
   rw [Frame.finish_at, ho]
   refine h K' r k8 A' M' ρ (a.put o.dst u) w' ?_ b k cs hb (hZ _ _ _ _ _ _ _ hz k1 (h₁.same.trans k2))
   have hd' : (match o.dst with | none => true | some d => Nat.blt d C.sz) = true := hd
   refine SX.app (wr := []) (A' := A') (Rd' := K'.Rd) (nb' := σ.nx + 8 * (i + 1)) hs₁ hd' k3 k1 (Names.le_refl _) (k7 _ _ _ _ k6) (hr_empty hh k4 k5) (fun n hn => hs₁.fr n (by omega))
end
def Ends {P : Program} (Pst : Value → World → Prop) (K : Tr P) : Prop :=
 ∀ A g w, g.status = .running → (∀ w₁, Rely A K.Rd w w₁ → ∃ v es, stepG P true g w₁ = .ended (.done v) w₁ es ∧ (∀ e, e ∈ es → EvOk A K.Rd e) ∧ Pst v w₁) → K.T A g w
theorem ends_pre {P : Program} {Pst : Value → World → Prop} {Rd : Blks} {ps : Ps} : Ends Pst (trPre P Pst Rd ps) := fun A g w hs h => PreT.intro (.ret hs h)
theorem ends_fin {P : Program} {p : Pr} {Pst : Value → World → Prop} {Rd : Blks} {hl : Lo.fin ≠ .out} {hm : Lo.fin.mute = false} : Ends Pst (trRun P p Pst true Rd 0 .fin hl hm) :=
 fun A g w hs h => trRun.intro fun hA w₁ h₁ hlv => Run.intro (.ret hs rfl rfl fun w₂ h₂ => h w₂ (h₁.trans h₂.ry))
theorem stepG_lastE {P : Program} {b : Frame} {a : Act} {w : World} {fn : Func} {todo : List Item} {v : Value} (hn : b.kind = .normal) (hd : a.defers = []) (hf : P.funcs[b.fn]? = some fn) (hni : P.inits.idxOf? b.fn = none)
   (hr : (results fn a.tmps).run P w = .ok v w) : ∃ es, stepG P true (G { b.at a todo with mode := .returning } []) w = .ended (.done v) w es ∧ ∀ e, e ∈ es → e ∈ (results fn a.tmps).events P w #[] := by
 simp [G, stepG, unwind, doReturn, Frame.at, hn, hd, hf, hr, GStep.after, hni]
 first
   | exact fun e he => mem_seen he
   | exact ⟨_, rfl, fun e he => mem_seen he⟩
theorem lawX_run {P : Program} {Gv : Nat → SV} {f : FuncId} {fn : Func} {c : Code} {args : List SV} {v : Value} (hf : P.funcs[f]? = some fn) (hb : fn.body = some c) (hn : Nat.ble args.length fn.ntmps = true) (hni : P.inits.idxOf? f = none) {w : World} {vs : Array Value} (hsz : vs.size = args.length)
   (hG : ∀ g ρ, VR (fun b => w.heap[b]?) ρ (Gv g) (.pointer (some ⟨g, 0, none⟩))) (hargs : ∀ (i : Nat) (x : SV), args[i]? = some x → ∃ u, vs[i]? = some u ∧ VR (fun b => w.heap[b]?) (fun _ => none) x u)
   (h : ∀ Pst : Value → World → Prop, WX ⟨P, fn.ntmps, 0, Gv⟩ c (outQX ⟨P, fn.ntmps, 0, Gv⟩ fn (fun K r => r = .d (.val v) ∧ Ends Pst K)) (trPre P Pst (fun b => b < w.heap.size) .p0) [] (stOf (argT 0 args) [])) :
   ∃ N last o w' t', runNT P (N + 1) (solo (G (Frame.enter P f vs .normal) []) w) #[] = (.ended o w', t') ∧ runN P N (solo (G (Frame.enter P f vs .normal) []) w) = .next last ∧ Go.step P last = .ended o w' ∧
     Go.Conc.Good P (fun u w' => u = v ∧ RowKit.Below w.heap.size w w') last o w' t' := by
 let Pst : Value → World → Prop := fun u w' => u = v ∧ RowKit.Below w.heap.size w w'
 have hT : (trPre P Pst (fun b => b < w.heap.size) .p0).T no (G (Frame.enter P f vs .normal) []) w := by
   rw [enter_at vs hf hb]
   have hlt : ∀ b, (fun b => w.heap[b]?) b ≠ none → b < w.heap.size := fun b hb => by
     obtain ⟨o, ho⟩ := Option.ne_none_iff_exists'.1 hb
     exact (Array.getElem?_eq_some_iff.1 ho).1
   have hs := sx_start (C := ⟨P, fn.ntmps, 0, Gv⟩) (A := no) (Rd := fun b => b < w.heap.size) (M := fun b => w.heap[b]?) (w := w) args hsz (Nat.le_of_ble_eq_true hn) hargs
     ⟨fun b hb => absurd rfl hb, fun b hb => by simp only [ne_eq]; rw [Array.getElem?_eq_getElem hb]; simp, fun b hb => hb.elim⟩ (fun b o hb => hb) (fun b hb => .inr (hlt b hb)) hG
   refine h Pst no _ pin0 _ w hs (base f) [] [] (by intro h; cases h) ?_
   intro e K' ds A' M' ρ' σ' a' w' h1 h2 h3 h5
   have fin : ds = [] ∧ (∃ r, RetIs ⟨P, fn.ntmps, 0, Gv⟩ fn σ' r ∧ Free r ∧ r = .d (.val v) ∧ Ends Pst K') → ∀ todo, K'.T A' (G { (base f).at a' todo with mode := .returning } []) w' := by
     rintro ⟨rfl, r, hr, hfree, rfl, hE⟩ todo
     refine hE A' _ w' rfl fun w₁ h₁ => ?_
     obtain ⟨u, hru, hv, hev⟩ := ret_step (C := ⟨P, fn.ntmps, 0, Gv⟩) rfl h3 hr hfree h₁
     have hs1 := h3.rely h₁
     obtain ⟨es, e1, e2⟩ := stepG_lastE (b := base f) (todo := todo) rfl hs1.df hf hni hru
     refine ⟨u, es, e1, fun e he => hev e (e2 e he), ?_, ?_⟩
     · cases hv with
       | d _ _ hd => cases hd with
         | val _ _ => rfl
     · have sm := h2.trans h₁.same
       refine ⟨sm.os, sm.tape, sm.output, sm.size, fun k hk => ?_⟩
       have hb : w.heap[k]? = some (w.heap[k]'hk) := Array.getElem?_eq_getElem hk
       rw [hs1.holds k _ (h1 k _ hb), hb]
   cases e with
   | normal => exact K'.idle rfl (fun _ => stepG_end) (fin h5 [])
   | ret => exact fin h5
   | _ => exact h5.elim
 obtain ⟨r, hR⟩ : PreT P Pst (fun b => b < w.heap.size) .p0 no (G (Frame.enter P f vs .normal) []) w := hT
 exact hR.good (sl := none) ⟨fun b hb => hb.elim, fun b hb => hb, trivial, fun op hop => by simp at hop, fun q x hx => by simp [touchAt, Trace.act?] at hx, rfl⟩
section
variable {C : Ctx} {Q : QX C.P} {K : Tr C.P} {ds : List Deferred} {σ : St}
theorem WX_ret (h : Q .ret K ds σ) : WX C .ret Q K ds σ := fun A M ρ a w hs b k cs hb hp => K.idle rfl (fun _ => stepG_ret') (hp .ret K ds A M ρ σ a w (Imm.le_refl _) (.refl _) hs h _)
theorem xtr {P : Program} {R : Tr P → List Deferred → St → Prop} {Q : QX P} {K : Tr P} {ds : List Deferred} {σ : St} (k : Q .ret K ds σ) : thenX R Q .ret K ds σ := k
theorem WX_last {c : Code} {fn : Func} {post : SV → List (Option Blk) → Prop} {postX : Tr C.P → SV → Prop} (h : W C c (outQ C fn post) σ) (hq : ∀ π r ho, post r ho → Free (ren π r) ∧ postX K (ren π r)) : WX C c (outQX C fn postX) K [] σ := by
 refine WX_of h fun e σ' he => ?_
 have key : (∃ π r' r hout, RetIs C fn σ' r' ∧ r' = ren π r ∧ okOut C.m r hout = true ∧ Sub C π σ' [] hout ∧ post r hout) → ([] : List Deferred) = [] ∧ ∃ r, RetIs C fn σ' r ∧ Free r ∧ postX K r := by
   rintro ⟨π, r', r, hout, h1, rfl, _, _, h5⟩
   exact ⟨rfl, _, h1, (hq π r hout h5).1, (hq π r hout h5).2⟩
 cases e with
 | ret => exact key he
 | normal => exact key he
 | _ => exact he.elim
theorem outX2 {fn : Func} {postX : Tr C.P → SV → Prop} {t : Nat → SV} {h : Heap} {nx : Nat} (s1 s2 : Nat) {r1 r2 : SV} (hres : fn.results = #[.tmp s1, .tmp s2]) (hu1 : (t s1).hd = some r1) (hu2 : (t s2).hd = some r2) (hf1 : Free r1) (hf2 : Free r2) (hp : postX K (.tup [r1, r2])) : outQX C fn postX .ret K [] ⟨t, h, nx⟩ :=
 ⟨rfl, .tup [t s1, t s2], RetIs.of (ret2 hres) (fun tmps w => by simp [results, hres]), by rw [SV.hd_eq hu1, SV.hd_eq hu2]; exact free_two hf1 hf2, by rw [SV.hd_eq hu1, SV.hd_eq hu2]; exact hp⟩
end
end Go.Proofs.YtpdojmebloekgaaDoor.Nice.Co
namespace Go.Proofs
abbrev YtpdojmebloekgaaDoor.wgLink : Go.Conc.Lib.WgLink := { add := 25, done := 27, wait := 29, relMerge := 56, disable := 57, enable := 58, inBubble := 59, associate := 60, fatal := 61, uOr := 62, uAdd := 63, raceRead := 64, uLoad := 65, uStore := 66, disassociate := 67, semrelease := 68, acquire := 69, isAssociated := 70, uCas := 71, raceWrite := 72, semacquire := 73, orU64 := 83, addU64 := 84, loadU64 := 85, storeU64 := 86, casU64 := 87, tWgP := 105, tUP := 107, tAssoc := 109, tWg := 59, tAU := 56, tU64 := 54, tUint := 113, tU32 := 57, tPU32 := 114, tPAU := 132, tPU64 := 134, tNoCopy := 51, tANoCopy := 52, tAlign64 := 53 }
theorem YtpdojmebloekgaaDoor.wgLib : Go.Conc.Lib.WgLib Tryd.prog YtpdojmebloekgaaDoor.wgLink :=
 ⟨Tryd.func25, Tryd.func27, Tryd.func29, Tryd.func56, Tryd.func57, Tryd.func58, Tryd.func59, Tryd.func60, Tryd.func61, Tryd.func62, Tryd.func63, Tryd.func64, Tryd.func65, Tryd.func66, Tryd.func67, Tryd.func68, Tryd.func69, Tryd.func70, Tryd.func71, Tryd.func72, Tryd.func73, Tryd.func83, Tryd.func84, Tryd.func85, Tryd.func86, Tryd.func87, Tryd.underlying105, Tryd.runUnderlying105, Tryd.sizeOf105, Tryd.isAgg105, Tryd.zeroValue105, Tryd.underlying107, Tryd.runUnderlying107, Tryd.sizeOf107, Tryd.isAgg107, Tryd.zeroValue107, Tryd.underlying109, Tryd.runUnderlying109, Tryd.sizeOf109, Tryd.isAgg109, Tryd.zeroValue109, Tryd.underlying59, Tryd.runUnderlying59, Tryd.sizeOf59, Tryd.isAgg59, Tryd.zeroValue59, Tryd.underlying56, Tryd.runUnderlying56, Tryd.sizeOf56, Tryd.isAgg56, Tryd.zeroValue56, Tryd.underlying54, Tryd.runUnderlying54, Tryd.sizeOf54, Tryd.isAgg54, Tryd.zeroValue54, Tryd.underlying113, Tryd.runUnderlying113, Tryd.sizeOf113, Tryd.isAgg113, Tryd.zeroValue113, Tryd.underlying57, Tryd.runUnderlying57, Tryd.sizeOf57, Tryd.isAgg57, Tryd.zeroValue57, Tryd.underlying114, Tryd.runUnderlying114, Tryd.sizeOf114, Tryd.isAgg114, Tryd.zeroValue114, Tryd.underlying132, Tryd.runUnderlying132, Tryd.sizeOf132, Tryd.isAgg132, Tryd.zeroValue132, Tryd.underlying134, Tryd.runUnderlying134, Tryd.sizeOf134, Tryd.isAgg134, Tryd.zeroValue134, Tryd.underlying0, Tryd.runUnderlying0, Tryd.sizeOf0, Tryd.isAgg0, Tryd.zeroValue0, Tryd.underlying3, Tryd.runUnderlying3, Tryd.sizeOf3, Tryd.isAgg3, Tryd.zeroValue3, Tryd.underlying4, Tryd.runUnderlying4, Tryd.sizeOf4, Tryd.isAgg4, Tryd.zeroValue4, Tryd.underlying9, Tryd.runUnderlying9, Tryd.sizeOf9, Tryd.isAgg9, Tryd.zeroValue9, Tryd.underlying20, Tryd.runUnderlying20, Tryd.sizeOf20, Tryd.isAgg20, Tryd.zeroValue20, Tryd.underlying21, Tryd.runUnderlying21, Tryd.sizeOf21, Tryd.isAgg21, Tryd.zeroValue21, (by kernel_rfl), (by kernel_rfl)⟩
end Go.Proofs
namespace Go.Proofs.YtpdojmebloekgaaDoor.Nice.Co
open Go Go.Conc Go.Conc.Lib Go.ConcR.Gen
open Go.ConcR (KK WgAt stA smA mk DC0)
set_option linter.unusedVariables false
set_option linter.unusedSimpArgs false
set_option maxRecDepth 100000
def clCaps (p : Pr) : List SV := [.d (.val (.pointer (some ⟨p.Wg, 0, none⟩))), .vp 1 1 (fun _ _ => .val (.chan (some p.Ch))) 0 0]
def wkCaps (p : Pr) (mk : FuncId) (X : D) (k : Nat) : List SV :=
 [.d (.val (.pointer (some ⟨p.Wg, 0, none⟩))), .vp 1 1 (fun _ _ => .val (.func (.func mk) #[] #[])) 0 0, .vp 1 1 (fun _ _ => X) 0 0, .vp 1 1 (fun _ _ => .val (.chan (some p.Ch))) 0 0, .vp 1 1 (fun _ _ => .val (.int .i64 k)) 0 0]
theorem run_alloc59 (w : World) : (Instr.alloc 59 true (.tuple #[])).run Tryd.prog w = .ok (.pointer (some ⟨w.heap.size, 0, none⟩)) (w.alloc (wgObj 59)) := by
 have h : zerosOf Tryd.prog 59 = some [.int .u64 0, .int .u32 0] := by kernel_rfl
 obtain ⟨i, z, hi, hz, hzl, _, _⟩ := zerosOf_ok h
 have hc : z.cells = #[.int .u64 0, .int .u32 0] := by rw [← hzl]
 simp [Instr.alloc, zeroValue, typeInfo, hi, hz, newVar, newRow, hc]
 rfl
theorem ev_alloc59 (w : World) : (Instr.alloc 59 true (.tuple #[])).events Tryd.prog w #[] = #[] := by
 have h : zerosOf Tryd.prog 59 = some [.int .u64 0, .int .u32 0] := by kernel_rfl
 obtain ⟨i, z, hi, hz, hzl, _, _⟩ := zerosOf_ok h
 simp [Instr.alloc, zeroValue, typeInfo, hi, hz, newVar, newRow]
theorem hS {j : Nat} {q : Bool} : Lo.spawn j q ≠ .out := by simp
theorem free_fn {f : FuncId} : Free (.fn f []) := fun M ρ ρ' u h => by
 cases h with
 | fn _ _ vs g hs hg hr => exact .fn f [] vs g hs hg fun i x hx => by simp at hx
theorem data_all {l : List SV} (h : l.all SV.dataB = true) : ∀ y, y ∈ l → Free y := fun y hy => free_data (List.all_eq_true.1 h y hy)
theorem mem_at {α : Type} {L : List α} {i : Nat} (d : α) (hi : i < L.length) : L.getD i d ∈ L := by
 rw [List.getD_eq_getElem?_getD, List.getElem?_eq_getElem hi]
 exact List.getElem_mem hi
end Go.Proofs.YtpdojmebloekgaaDoor.Nice.Co
