/- Part 11 of the proof of CrewRolls: CrewR1, Wf, CrewR2, ArgsB, CrewRT, CrewR3, CrewR4, CrewR5, CrewRollsLaw, Leav. -/
import Derived.Test.YtpdojmebloekgaaDoorZR10
import Derived.Conc.LeavingOf
import Derived.Deep.DeepHandedRow
import Derived.SevenTiedAt
namespace Go.Proofs.YtpdojmebloekgaaDoor.Nice.Co
open Go Go.Conc Go.Conc.Lib Go.ConcR.Gen
open Go.ConcR (KK WgAt stA smA mk DC0)
set_option linter.unusedVariables false
set_option linter.unusedSimpArgs false
set_option maxRecDepth 100000
set_option maxHeartbeats 4000000
section
variable {p : Pr} {Pst : Value → World → Prop}
theorem closer43 (hn : p.n < 2147483647) : Child Tryd.prog GC p Pst 43 (clCaps p) (.cw p.n) := by
  refine child_start (hl := by simp) (hm := rfl) Tryd.func43 rfl rfl (Nat.le_of_ble_eq_true rfl) fun Rd M a w hs hsh => ?_
  refine Tr.idle _ rfl (fun _ => stepG_seq) ?_
  refine Tr.idle _ rfl (fun _ => stepG_region) ?_
  rw [List.range_eq_range']
  refine RX.run (C := ⟨Tryd.prog, 4, 0, GC⟩) (i := 0) (Z := ZB Tryd.prog 43 _) (σ := stOf (argT 0 (clCaps p)) []) ?_ hs (Nat.le_refl _) (by simp [baseD]) ⟨rfl, rfl, rfl⟩
  refine RX_wait ZB.up YtpdojmebloekgaaDoor.wgLib rfl rfl rfl rfl rfl hn (hl' := by simp) (hm' := rfl) ?_
  intro A' M' ρ' a' w' hs' b k cs hb ⟨hb1, hcs, hk⟩
  subst hb1 hcs hk
  refine Tr.idle _ rfl (fun _ => stepG_region_end) ?_
  refine Tr.idle _ rfl (fun _ => stepG_region) ?_
  rw [List.range_eq_range']
  refine RX.run (C := ⟨Tryd.prog, 4, 0, GC⟩) (i := 0) (Z := ZB Tryd.prog 43 []) (σ := ⟨upd (tOf (argT 0 (clCaps p))) 2 .any, hOf [], 8⟩) ?_ hs'.bump (Nat.le_refl _) (by simp [baseD]) ⟨rfl, rfl, rfl⟩
  refine RX_ops ZB.up [_] 0 _ (fun j hj => by simp at hj; subst hj; rfl) ?_
  refine s1 3 8 1 rfl rfl rfl rfl rfl rfl (by decide) ?_
  refine e1 24 rfl ?_
  refine RX_close rfl rfl rfl rfl (fun M w b k cs a hz hd => ?_)
  obtain ⟨rfl, rfl, rfl⟩ := hz
  refine ⟨rfl, 4, ?_⟩
  q_c stepG_region_end
  q_c stepG_end
  obtain ⟨T, d⟩ := a
  simp only at hd
  subst hd
  exact bot_quits Tryd.func43 rfl
end
theorem decE_good {l : List Int} (h : decE l = 0) : l.length ≠ 0 ∧ numB l 0 8 ≤ 120 ∧ (decS l (decN l)).e = 0 := by
  unfold decE at h
  split at h
  · cases h
  · next h0 =>
    split at h
    · cases h
    · next h1 =>
      split at h
      · next h2 => exact absurd h h2
      · next h2 => exact ⟨h0, by omega, by omega⟩
theorem decM_good {l : List Int} (h : decE l = 0) : sfault (decM l) = 0 ∧ SmpIn (decM l) ∧ (decM l).length ≤ 120 := by
  obtain ⟨h0, h1, h2⟩ := decE_good h
  obtain ⟨k1, _, _, k4, _⟩ := decS_bits h0 (decN l) h2
  have h3 := (numB_bd l 0 8).1
  have hn : decN l ≤ 120 := by unfold decN; omega
  have hl : (decM l).length ≤ 120 := by unfold decM; rw [k1]; exact hn
  have hb : ∀ k, inRange ((decM l).getD k default).t ∧ inRange ((decM l).getD k default).v := fun k => by
    have := smp_bd (M := decM l) k4 k1 k
    simp only [inB] at this
    unfold inRange
    constructor <;> omega
  refine ⟨?_, ⟨by omega, fun k => (hb k).1, fun k => (hb k).2⟩, hl⟩
  unfold sfault
  rw [if_neg (by omega)]
  unfold decM
  rw [k1]; exact k4
def rR (l : List Int) : Roll := if decE l = 0 then ofR (decM l) else ⟨0, 0, 0, 0⟩
theorem decode_ok (l : List Int) (hl : Bytes l) (hE : decE l = 0) : Spec Tryd.prog GC 19 [u8V l] [] (fun r ho => r = SV.tup [.sl 0 0 (decM l).length, SV.i 0] ∧ ho = [some (.rows 67 2 (decM l).length (smpF (decM l)))]) := (decode_any l hl).mono fun r ho h => by
  rcases h with ⟨_, h1, h2⟩ | ⟨h, _⟩
  · exact ⟨h1, h2⟩
  · exact absurd hE h
theorem decode_bad (l : List Int) (hl : Bytes l) (hE : decE l ≠ 0) : Spec Tryd.prog GC 19 [u8V l] [] (fun r ho => r = SV.tup [.d .nils, SV.i (decE l)] ∧ ho = []) := (decode_any l hl).mono fun r ho h => by
  rcases h with ⟨h, _⟩ | ⟨_, h1, h2⟩
  · exact absurd h hE
  · exact ⟨h1, h2⟩
theorem mk_ok (l : List Int) (hl : Bytes l) (hE : decE l = 0) : Spec Tryd.prog GC 18 [u8V l] [] (fun r ho => r = SV.tup [rollS (rR l), SV.i (decE l)] ∧ ho = []) := by
  obtain ⟨hz, hin, hlen⟩ := decM_good hE
  refine start 19 0 Tryd.func18 rfl rfl rfl rfl ?_
  refine r1 ?_
  refine s1 2 0 1 rfl rfl rfl rfl rfl rfl trivial ?_
  refine s1 3 8 2 rfl rfl rfl rfl rfl rfl trivial ?_
  refine e1 16 rfl ?_
  refine keep [0, 2] rfl ?_
  refine r1 ?_
  refine s1 7 16 1 rfl rfl rfl rfl rfl rfl trivial ?_
  refine c1 (decode_ok l hl hE) [] [24] 8 24 2 rfl rfl rfl rfl rfl rfl rfl rfl Tryd.func19 rfl rfl rfl rfl trivial rfl rfl ?_
  refine s1 6 32 3 rfl rfl rfl rfl rfl rfl trivial ?_
  refine s1 9 40 4 rfl rfl rfl rfl rfl rfl trivial ?_
  refine s1 10 48 5 rfl rfl rfl rfl rfl rfl trivial ?_
  refine s1 4 56 6 rfl rfl rfl rfl rfl rfl trivial ?_
  refine s1 5 64 7 rfl rfl rfl rfl rfl rfl trivial ?_
  refine e1 72 rfl ?_
  refine keep [2, 4, 5] rfl ?_
  refine W_seq ?_
  refine r1 ?_
  refine s1 11 72 1 rfl rfl rfl rfl rfl rfl trivial ?_
  refine s1 12 80 2 rfl rfl rfl rfl rfl rfl (by first | trivial | omega) ?_
  refine e1 88 rfl ?_
  refine keep [2, 4, 5, 12] rfl ?_
  refine q1 rfl (fun hc2 => ?_) (fun hc2 => ?_)
  · skip
    exact absurd hc2 (by decide)
  try simp only [cs, ne_eq] at hc2
  refine W_skip ?_
  refine tn ?_
  refine freeze 4 24 (decM l).length rfl rfl (Nat.le_refl _) ?_
  refine r1 ?_
  refine s1 15 88 1 rfl rfl rfl rfl rfl rfl trivial ?_
  refine c1 (rollOf_any (decM l) hin) [] [] 16 96 2 rfl rfl rfl rfl rfl rfl rfl rfl Tryd.func20 rfl rfl rfl rfl trivial rfl rfl ?_
  refine s1 17 104 3 rfl rfl rfl rfl rfl rfl trivial ?_
  refine s1 18 112 4 rfl rfl rfl rfl rfl rfl trivial ?_
  refine s0 120 5 rfl rfl rfl rfl rfl (by first | trivial | omega) ?_
  refine s1 3 128 6 rfl rfl rfl rfl rfl rfl trivial ?_
  refine e1 136 rfl ?_
  refine keep [2, 3] rfl ?_
  refine W_ret ?_
  exact outN (SV.tup [rollS (rR l), SV.i (decE l)]) (π := []) (hout := []) Tryd.results18 rfl (by trivial) (by rw [hE]; unfold rR; rw [if_pos hE]; exact (by rw [hz] : SV.tup [rollS (ofR (decM l)), SV.i (sfault (decM l))] = _)) rfl rfl trivial ⟨rfl, rfl⟩
theorem mk_bad (l : List Int) (hl : Bytes l) (hE : decE l ≠ 0) : Spec Tryd.prog GC 18 [u8V l] [] (fun r ho => r = SV.tup [rollS (rR l), SV.i (decE l)] ∧ ho = []) := by
  refine start 19 0 Tryd.func18 rfl rfl rfl rfl ?_
  refine r1 ?_
  refine s1 2 0 1 rfl rfl rfl rfl rfl rfl trivial ?_
  refine s1 3 8 2 rfl rfl rfl rfl rfl rfl trivial ?_
  refine e1 16 rfl ?_
  refine keep [0, 2] rfl ?_
  refine r1 ?_
  refine s1 7 16 1 rfl rfl rfl rfl rfl rfl trivial ?_
  refine c1 (decode_bad l hl hE) [] [] 8 24 2 rfl rfl rfl rfl rfl rfl rfl rfl Tryd.func19 rfl rfl rfl rfl trivial rfl rfl ?_
  refine s1 6 32 3 rfl rfl rfl rfl rfl rfl trivial ?_
  refine s1 9 40 4 rfl rfl rfl rfl rfl rfl trivial ?_
  refine s1 10 48 5 rfl rfl rfl rfl rfl rfl trivial ?_
  refine s1 4 56 6 rfl rfl rfl rfl rfl rfl trivial ?_
  refine s1 5 64 7 rfl rfl rfl rfl rfl rfl trivial ?_
  refine e1 72 rfl ?_
  refine keep [2, 4, 5] rfl ?_
  refine W_seq ?_
  refine r1 ?_
  refine s1 11 72 1 rfl rfl rfl rfl rfl rfl trivial ?_
  refine s1 12 80 2 rfl rfl rfl rfl rfl rfl (by first | trivial | omega) ?_
  refine e1 88 rfl ?_
  refine keep [2, 4, 5, 12] rfl ?_
  refine q1 rfl (fun hc2 => ?_) (fun hc2 => ?_)
  · skip
    try simp only [cs, ne_eq] at hc2
    refine r1 ?_
    refine s1 13 88 1 rfl rfl rfl rfl rfl rfl trivial ?_
    refine s1 14 96 2 rfl rfl rfl rfl rfl rfl trivial ?_
    refine s0 104 3 rfl rfl rfl rfl rfl (by first | trivial | omega) ?_
    refine s1 3 112 4 rfl rfl rfl rfl rfl rfl trivial ?_
    refine e1 120 rfl ?_
    refine keep [2, 3] rfl ?_
    refine W_ret ?_
    refine tr ?_
    exact outN (SV.tup [rollS (rR l), SV.i (decE l)]) (π := []) (hout := []) Tryd.results18 rfl (by trivial) (by unfold rR; rw [if_neg hE]; rfl) rfl rfl trivial ⟨rfl, rfl⟩
  exact absurd hc2 (by simpa using hE)
theorem mk_any (l : List Int) (hl : Bytes l) : Spec Tryd.prog GC 18 [u8V l] [] (fun r ho => r = SV.tup [rollS (rR l), SV.i (decE l)] ∧ ho = []) := by
  by_cases hE : decE l = 0
  · exact mk_ok l hl hE
  · exact mk_bad l hl hE
def rolT (l : List Int) (k : Nat) : SV := .agg [SV.i k, SV.i (rR l).c, SV.i (rR l).lo, SV.i (rR l).hi, SV.i (rR l).s, SV.i (decE l)]
section
variable {p : Pr} {Pst : Value → World → Prop}
theorem worker42 (hn : p.n < 2147483647) (l : List Int) (hin : Bytes l) (k : Nat) (hT : ∀ M v, (∀ ρ, VR M ρ (rolT l k) v) → p.Tell k M v) : Child Tryd.prog GC p Pst 42 (wkCaps p 18 (.vec 1 l.length (u8F l)) k) (.wk k) := by
  refine child_start (hl := by simp) (hm := rfl) Tryd.func42 rfl rfl (Nat.le_of_ble_eq_true rfl) fun Rd M a w hs hsh => ?_
  have hptr : a.eval (.tmp 0) = .pointer (some ⟨p.Wg, 0, none⟩) := hs.val (x := .tmp 0) rfl
  refine Tr.idle _ rfl (fun _ => stepG_seq) ?_
  refine Tr.idle _ rfl (fun _ => stepG_region) ?_
  refine Tr.idle _ rfl (fun _ => stepG_defer (i := 0) (rest := []) rfl rfl (by simp [baseD]) rfl) ?_
  refine Tr.idle _ rfl (fun _ => stepG_region_end) ?_
  refine Tr.idle _ rfl (fun _ => stepG_seq) ?_
  refine Tr.idle _ rfl (fun _ => stepG_region) ?_
  rw [List.range_eq_range']
  have hs1 : SX ⟨Tryd.prog, 18, 0, GC⟩ no Rd M [dcall 27 #[.pointer (some ⟨p.Wg, 0, none⟩)]] pin0 8 ⟨tOf (argT 0 (wkCaps p 18 (.vec 1 l.length (u8F l)) k)), hOf [], 8⟩ (Act.put ⟨a.tmps, dcall 27 (#[Operand.tmp 0].map a.eval) :: a.defers⟩ none undef) w := by
    have hb := (hs.le (nb' := 8) (by omega)).bump
    refine ⟨hb.fit, hb.sr, ?_, hb.fr⟩
    simp [Act.put, hs.df, hptr]
  refine RX.run (C := ⟨Tryd.prog, 18, 0, GC⟩) (i := 0) (Z := ZB Tryd.prog 42 _) (σ := ⟨tOf (argT 0 (wkCaps p 18 (.vec 1 l.length (u8F l)) k)), hOf [], 8⟩) ?_ hs1 (Nat.le_refl _) (by simp [baseD]) ⟨rfl, rfl, rfl⟩
  refine RX_ops ZB.up [_, _, _, _, _, _, _, _, _] 0 _ (fun j hj => by simp at hj; match j, hj with | 0, _ => rfl | 1, _ => rfl | 2, _ => rfl | 3, _ => rfl | 4, _ => rfl | 5, _ => rfl | 6, _ => rfl | 7, _ => rfl | 8, _ => rfl) ?_
  refine s1 8 8 1 rfl rfl rfl rfl rfl rfl (by decide) ?_
  refine s1 9 16 2 rfl rfl rfl rfl rfl rfl (by decide) ?_
  refine c1f (mk_any l hin) [] 10 24 3 rfl rfl rfl rfl rfl rfl rfl rfl Tryd.func18 rfl rfl rfl rfl rfl ?_
  refine s1 7 32 4 rfl rfl rfl rfl rfl rfl trivial ?_
  refine s1 11 40 5 rfl rfl rfl rfl rfl rfl trivial ?_
  refine s1 12 48 6 rfl rfl rfl rfl rfl rfl trivial ?_
  refine s1 5 56 7 rfl rfl rfl rfl rfl rfl trivial ?_
  refine s0 64 8 rfl rfl rfl rfl rfl trivial ?_
  refine s1 6 72 9 rfl rfl rfl rfl rfl rfl trivial ?_
  refine e1 80 rfl ?_
  intro A' M' ρ' a' w' hs' b kk cs hb ⟨hb1, hcs, hk⟩
  subst hb1 hcs hk
  refine Tr.idle _ rfl (fun _ => stepG_region_end) ?_
  refine Tr.idle _ rfl (fun _ => stepG_region) ?_
  rw [List.range_eq_range']
  have hs3 := hs'.bump.sub (π := [56]) (tl := [(3, .vp 1 1 (fun _ _ => .val (.chan (some p.Ch))) 0 0), (4, .vp 1 1 (fun _ _ => .val (.int .i64 k)) 0 0), (5, .ptr 0 0 0), (6, SV.i (decE l))]) (hl := [some (rollBlk (rR l))]) ⟨rfl, ⟨rfl, rfl, rfl, rfl, trivial⟩, ⟨rfl, trivial⟩⟩
  refine RX.run (C := ⟨Tryd.prog, 18, 0, GC⟩) (i := 0) (Z := ZB Tryd.prog 42 []) (σ := stOf [(3, .vp 1 1 (fun _ _ => .val (.chan (some p.Ch))) 0 0), (4, .vp 1 1 (fun _ _ => .val (.int .i64 k)) 0 0), (5, .ptr 0 0 0), (6, SV.i (decE l))] [some (rollBlk (rR l))]) ?_ hs3 (Nat.le_refl _) (by simp [baseD]) ⟨rfl, rfl, rfl⟩
  refine RX_ops ZB.up [_, _, _, _, _] 0 _ (fun j hj => by simp at hj; match j, hj with | 0, _ => rfl | 1, _ => rfl | 2, _ => rfl | 3, _ => rfl | 4, _ => rfl) ?_
  refine s1 13 1 1 rfl rfl rfl rfl rfl rfl (by decide) ?_
  refine s1 14 9 2 rfl rfl rfl rfl rfl rfl (by decide) ?_
  refine s1 15 17 3 rfl rfl rfl rfl rfl rfl trivial ?_
  refine s1 16 25 4 rfl rfl rfl rfl rfl rfl trivial ?_
  refine s1 17 33 5 rfl rfl rfl rfl rfl rfl trivial ?_
  refine e1 49 rfl ?_
  refine RX_send (T := rolT l k) rfl rfl rfl rfl rfl rfl hT (fun M w b kk cs a hz hd w₁ hlv => ?_)
  obtain ⟨rfl, rfl, rfl⟩ := hz
  obtain ⟨T, d⟩ := a
  simp only at hd
  subst hd
  exact worker_tail YtpdojmebloekgaaDoor.wgLib hn Tryd.func42 rfl hlv
end
end Go.Proofs.YtpdojmebloekgaaDoor.Nice.Co
namespace Go.Proofs.YtpdojmebloekgaaDoor.Nice.Co
open Go Go.Conc Go.Conc.Lib
open Go.ConcR (KK WgAt stA smA mk DC0)
open Go.ConcR.Gen (body_add)
set_option linter.unusedVariables false
set_option linter.unusedSimpArgs false
/-- The blocks that stand aside. -/
def un (A X : Blks) : Blks := fun b => A b ∨ X b
def Has (O : Imm) (w : World) : Prop := ∀ b o, O b = some o → w.heap[b]? = some o
/-- What stands aside: the blocks X, with what they hold. -/
structure Aside where
  X : Blks
  O : Imm
  at_ : ∀ b, X b → O b ≠ none
def Disj (s : Aside) (A Rd : Blks) : Prop := ∀ b, s.X b → ¬ A b ∧ ¬ Rd b
theorem Has.keep {s : Aside} {A Rd : Blks} {w w₁ : World} (h : Has s.O w) (hX : ∀ b, s.O b ≠ none → s.X b) (r : Rely (un A s.X) Rd w w₁) : Has s.O w₁ := fun b o hb => by
  rw [r.keep b (.inl (.inr (hX b (by rw [hb]; simp))))]; exact h b o hb
theorem more_un (A X : Blks) (w w' : World) : more (un A X) w w' = un (more A w w') X := by
  funext b; apply propext
  unfold more un
  constructor
  · rintro ((h | h) | h)
    · exact .inl (.inl h)
    · exact .inr h
    · exact .inl (.inr h)
  · rintro ((h | h) | h)
    · exact .inl (.inl h)
    · exact .inr h
    · exact .inl (.inr h)
theorem Rely.less {A A' Rd : Blks} {w w₁ : World} (r : Rely A Rd w w₁) (h : ∀ b, A' b → A b) : Rely A' Rd w w₁ := ⟨r.same, fun b hb => r.keep b (hb.imp (h b) id)⟩
theorem EvOk.un {A X Rd : Blks} {e : Event} (h : EvOk A Rd e) : EvOk (un A X) Rd e := by
  rcases h with ⟨ad, s, rfl, h⟩ | ⟨ad, s, rfl, h⟩ | rfl
  · exact .inl ⟨ad, s, rfl, h.imp .inl id⟩
  · exact .inr (.inl ⟨ad, s, rfl, .inl h⟩)
  · exact .inr (.inr rfl)
/-- The same goroutine, told without what stands aside. -/
def frX {P : Program} (s : Aside) (hX : ∀ b, s.O b ≠ none → s.X b) (K : Tr P) : Tr P where
  main := K.main
  Rd := K.Rd
  T := fun A g w => Disj s A K.Rd → ∀ w', Rely A K.Rd w w' → Has s.O w' → K.T (un A s.X) g w'
  step := fun A g w hs h hd w' hr hw' => by
    refine K.step _ g w' hs fun w₁ h₁ => ?_
    have hw₁ := hw'.keep hX h₁
    obtain ⟨g', w'', es, a, b, c⟩ := h w₁ (hr.trans (h₁.less fun b => .inl))
    have hold : ∀ b, s.X b → b < w₁.heap.size := fun b hb => by
      obtain ⟨o, ho⟩ := Option.ne_none_iff_exists'.1 (s.at_ b hb)
      exact (Array.getElem?_eq_some_iff.1 (hw₁ b o ho)).1
    have hw2 : Has s.O w'' := fun q o hb => by
      have hx := hX q (by rw [hb]; simp)
      rw [b.keep q (hold q hx) (hd q hx).1]; exact hw₁ q o hb
    refine ⟨g', w'', es, a, ⟨b.same, fun x hx hn => b.keep x hx fun h => hn (.inl h), fun e he => (b.evs e he).un⟩, ?_⟩
    rw [more_un]
    exact c (fun x hx => ⟨fun hm => hm.elim (hd x hx).1 fun hm => by have := hold x hx; omega, (hd x hx).2⟩) w'' (.refl w'') hw2
  rely := fun A g w w₁ h r hd w' hr hw' => h hd w' (r.trans hr) hw'
section
variable {P : Program} {p : Pr} {Pst : Value → World → Prop} {main : Bool} {Rd A : Blks} {d : Nat} {lo : Lo} {hl : lo ≠ .out} {hm : lo.mute = false} {g : Goroutine} {w : World} {s : Aside} {hX : ∀ b, s.O b ≠ none → s.X b}
theorem frRun.intro (h : Disj s A Rd → Apt p (un A s.X) Rd → ∀ w₁, Rely A Rd w w₁ → Has s.O w₁ → WgLv p w₁ → Run P p Pst main ⟨un A s.X, Rd, d, lo⟩ g w₁) : (frX s hX (trRun P p Pst main Rd d lo hl hm)).T A g w :=
  fun hd w' hr hw' ha w₁ h₁ hl₁ => h hd ha w₁ (hr.trans (h₁.less fun b => .inl)) (hw'.keep hX h₁) hl₁
theorem frRun.elim (h : (frX s hX (trRun P p Pst main Rd d lo hl hm)).T A g w) (hd : Disj s A Rd) (hw : Has s.O w) (ha : Apt p (un A s.X) Rd) (hl₁ : WgLv p w) : Run P p Pst main ⟨un A s.X, Rd, d, lo⟩ g w := h hd w (.refl w) hw ha w (.refl w) hl₁
theorem Apt.less {A' : Blks} (h : Apt p A Rd) (k : ∀ b, A' b → A b) : Apt p A' Rd := fun b hb => h b (hb.imp (k b) id)
theorem Has.lt (hw : Has s.O w) {b : Nat} (hb : s.X b) : b < w.heap.size := by
  obtain ⟨o, ho⟩ := Option.ne_none_iff_exists'.1 (s.at_ b hb)
  exact (Array.getElem?_eq_some_iff.1 (hw b o ho)).1
theorem Has.made {w' : World} {o : Obj} (hw : Has s.O w) (m : Made w w' o) : Has s.O w' := fun b o hb => by
  have hlt := (Array.getElem?_eq_some_iff.1 (hw b o hb)).1
  rw [m.keep b hlt]; exact hw b o hb
/-- What is handed on leaves the rest. -/
theorem un_give {M : Imm} (hd : Disj s A Rd) : (fun b => un A s.X b ∧ ¬ (A b ∧ M b ≠ none)) = un (fun b => A b ∧ ¬ (A b ∧ M b ≠ none)) s.X := by
  funext b; apply propext
  unfold un
  constructor
  · rintro ⟨h | h, k⟩
    · exact .inl ⟨h, k⟩
    · exact .inr h
  · rintro (⟨h, k⟩ | h)
    · exact ⟨.inl h, k⟩
    · exact ⟨.inr h, fun k => (hd b h).1 k.1⟩
theorem Disj.give {M : Imm} (hd : Disj s A Rd) : Disj s (fun b => A b ∧ ¬ (A b ∧ M b ≠ none)) (fun b => Rd b ∨ (A b ∧ M b ≠ none)) := fun b hb =>
  ⟨fun h => (hd b hb).1 h.1, fun h => h.elim (hd b hb).2 fun h => (hd b hb).1 h.1⟩
theorem Apt.giveX {M : Imm} (h : Apt p (un A s.X) Rd) : Apt p (un (fun b => A b ∧ ¬ (A b ∧ M b ≠ none)) s.X) (fun b => Rd b ∨ (A b ∧ M b ≠ none)) := by
  intro b hb
  rcases hb with (⟨x, _⟩ | x) | x | ⟨x, _⟩
  · exact h b (.inl (.inl x))
  · exact h b (.inl (.inr x))
  · exact h b (.inr x)
  · exact h b (.inl (.inl x))
end
section
variable {C : Ctx} {Z : ZX} {ds : List Deferred} {σ : St} {ops : Array Oper} {i : Nat} {o : Oper} {Rd : Blks} {Pst : Value → World → Prop} {s : Aside} {hX : ∀ b, s.O b ≠ none → s.X b}
/-- A channel is made. -/
theorem FX_makeChan (hZ : Up Z) (ho : ops[i]? = some o) (hg : o.guard = none) {ty e : TypeId} {dir : ChanDir} {inf : TypeInfo} {x : Operand} (hop : o.op = .makeChan ty x) (hx : opv C σ.t x = SV.i 0) (ht : C.P.underlying ty = some (.chan dir e)) (hi : C.P.info? e = some inf)
    (hd : (match o.dst with | none => true | some d => Nat.blt d C.sz) = true) (h : ∀ Ch, RX C ops (i + 1) Z (frX s hX (trPre C.P Pst Rd (.p1 Ch))) ds (σ.app o.dst (.d (.val (.chan (some Ch)))) [])) : RX C ops i Z (frX s hX (trPre C.P Pst Rd .p0)) ds σ := by
  refine RX_step ho fun A M ρ a w hs b k cs hb hz => fun hdj w' hr hw => ?_
  refine PreT.intro (.mkCh rfl rfl fun w₁ h₁ => ?_)
  have h₁A : Rely A Rd w w₁ := Rely.trans hr (h₁.less fun b => .inl)
  have hs₁ := SX.rely hs h₁A
  have hw₁ := hw.keep hX h₁
  have hv : a.eval x = .int .i64 0 := hs₁.val hx
  have hrun : (execOp a.eval o).run C.P w₁ = .ok (.value (.chan (some w₁.heap.size))) (w₁.alloc chObj) := by
    have := run_makeChan (w := w₁) ht hi .i64 0 (by omega) (by simp)
    simp [execOp, hop, hv]
    simp only [Int.ofNat_zero, Int.natCast_zero, Int.cast_ofNat_Int] at this
    rw [this]; rfl
  have hev : (execOp a.eval o).events C.P w₁ #[] = #[] := by
    have := events_makeChan (w := w₁) ht hi .i64 0 (by omega) (by simp) #[]
    simp [execOp, hop, hv]
    simp only [Int.ofNat_zero, Int.natCast_zero, Int.cast_ofNat_Int] at this
    rw [this]
  refine ⟨_, _, step_value ho hg hb hrun hev, made_alloc _ _, ?_⟩
  have r := (made_alloc w₁ chObj).rely (A := A) (Rd := Rd) (M := M) hs₁.ltAll
  exact h w₁.heap.size A M ρ _ _ ((SX.rely hs₁ r).put hd (.d _ _ (.val _ rfl)) (by show σ.nx + 8 * i ≤ σ.nx + 8 * (i + 1); omega)) b k cs hb (hZ _ _ _ _ _ _ _ hz (Imm.le_refl _) (h₁A.same.trans r.same)) hdj _ (.refl _) (hw₁.made (made_alloc _ _))
/-- The group is made: the crew may begin. -/
theorem FX_allocWg (hZ : Up Z) (ho : ops[i]? = some o) (hg : o.guard = none) {ty : TypeId} (hop : o.op = .alloc ty) (hrun : ∀ w, (Instr.alloc ty true (.tuple #[])).run C.P w = .ok (.pointer (some ⟨w.heap.size, 0, none⟩)) (w.alloc (wgObj ty))) (hev : ∀ w, (Instr.alloc ty true (.tuple #[])).events C.P w #[] = #[])
    (hd : (match o.dst with | none => true | some d => Nat.blt d C.sz) = true) {Ch : Nat} (n : Nat) (Tell : Nat → Imm → Value → Prop) {hl : Lo.spawn 0 false ≠ .out} {hm : (Lo.spawn 0 false).mute = false}
    (h : ∀ Wg, RX C ops (i + 1) Z (frX s hX (trRun C.P ⟨n, Wg, Ch, ty, Tell⟩ Pst true Rd 0 (.spawn 0 false) hl hm)) ds (σ.app o.dst (.d (.val (.pointer (some ⟨Wg, 0, none⟩)))) [])) : RX C ops i Z (frX s hX (trPre C.P Pst Rd (.p1 Ch))) ds σ := by
  refine RX_step ho fun A M ρ a w hs b k cs hb hz => fun hdj w' hr hw => ?_
  refine PreT.intro (.mkWg rfl Ch ty rfl fun w₁ h₁ => ?_)
  have h₁A : Rely A Rd w w₁ := Rely.trans hr (h₁.less fun b => .inl)
  have hs₁ := SX.rely hs h₁A
  have hw₁ := hw.keep hX h₁
  have hr' : (execOp a.eval o).run C.P w₁ = .ok (.value (.pointer (some ⟨w₁.heap.size, 0, none⟩))) (w₁.alloc (wgObj ty)) := by
    simp [execOp, hop, hrun]
  have he : (execOp a.eval o).events C.P w₁ #[] = #[] := by simp [execOp, hop, hrun, hev]
  refine ⟨_, _, step_value ho hg hb hr' he, made_alloc _ _, ?_⟩
  have r := (made_alloc w₁ (wgObj ty)).rely (A := A) (Rd := Rd) (M := M) hs₁.ltAll
  have hT := h w₁.heap.size A M ρ _ _ ((SX.rely hs₁ r).put hd (u := .d (.val (.pointer (some ⟨w₁.heap.size, 0, none⟩)))) (.d _ _ (.val _ rfl)) (by show σ.nx + 8 * i ≤ σ.nx + 8 * (i + 1); omega)) b k cs hb (hZ _ _ _ _ _ _ _ hz (Imm.le_refl _) (h₁A.same.trans r.same))
  exact PreT.intro (.start ⟨n, w₁.heap.size, Ch, ty, Tell⟩ rfl fun ha w₂ h₂ hl₂ => hT hdj _ (.refl _) (hw₁.made (made_alloc _ _)) ha w₂ h₂ hl₂)
section
variable {p : Pr} {caps : List SV} {f : FuncId} {x : Operand}
/-- A worker is started. -/
theorem FX_spawnW (hZ : Up Z) (ho : ops[i]? = some o) (hg : o.guard = none) (hop : o.op = .go { callee := .value x, args := #[], argTypes := #[] }) (hdst : o.dst = none) (hx : opv C σ.t x = .fn f caps) (hcaps : ∀ y, y ∈ caps → SV.dataB y = true) {j : Nat}
    {hl : Lo.spawn j true ≠ .out} {hm : (Lo.spawn j true).mute = false} {hl' : Lo.spawn (j + 1) false ≠ .out} {hm' : (Lo.spawn (j + 1) false).mute = false}
    (hch : Child C.P C.G p Pst f caps (.wk j)) (h : ∀ Rd', RX C ops (i + 1) Z (frX s hX (trRun C.P p Pst true Rd' 0 (.spawn (j + 1) false) hl' hm')) ds σ) : RX C ops i Z (frX s hX (trRun C.P p Pst true Rd 0 (.spawn j true) hl hm)) ds σ := by
  refine RX_step ho fun A M ρ a w hs b k cs hb hz => frRun.intro fun hdj hA w₁ h₁ hw hlv => ?_
  refine Run.intro (.spawnW rfl rfl j rfl rfl fun w₂ h₂ => ?_)
  have h₂A := h₂.ry.less (A' := A) fun b => .inl
  have hs₂ := SX.rely (SX.rely hs h₁) h₂A
  have hlv₂ := h₂.wg hlv
  have hw₂ := hw.keep hX h₂.ry
  obtain ⟨vs, hq, hvs, hvr⟩ := fn_case (by have := hs₂.op x; rw [hx] at this; exact this)
  refine ⟨fun b => A b ∧ M b ≠ none, _, _, fun b hb => .inl hb.1, step_go ho hg hb hop hq, ?_, hch _ M w₂ vs hs₂.sr.gl hs₂.shared (Apt.give (hA.less fun b => .inl)).2 hlv₂ hvs fun j y hy => ?_⟩
  · rw [hdst, un_give hdj]
    refine frRun.elim (h (fun b => Rd b ∨ (A b ∧ M b ≠ none)) (fun b => A b ∧ ¬ (A b ∧ M b ≠ none)) M ρ a w₂ ?_ b k cs hb (hZ _ _ _ _ _ _ _ hz (Imm.le_refl _) (h₁.same.trans h₂.ry.same))) hdj.give hw₂ hA.giveX hlv₂
    have g := hs₂.give
    exact ⟨g.fit, g.sr, g.df, fun n hn => g.fr n (by have hn' : σ.nx + 8 * (i + 1) ≤ n := hn; omega)⟩
  · obtain ⟨u, h1, h2⟩ := hvr j y hy
    exact ⟨u, h1, fun ρ' => VR.other h2 (hcaps y (List.mem_of_getElem? hy))⟩
/-- The closer is started. -/
theorem FX_spawnC (hZ : Up Z) (ho : ops[i]? = some o) (hg : o.guard = none) (hop : o.op = .go { callee := .value x, args := #[], argTypes := #[] }) (hdst : o.dst = none) (hx : opv C σ.t x = .fn f caps) (hcaps : ∀ y, y ∈ caps → SV.dataB y = true)
    {hl : Lo.spawn p.n false ≠ .out} {hm : (Lo.spawn p.n false).mute = false} {hl' : Lo.recv [] ≠ .out} {hm' : (Lo.recv []).mute = false}
    (hch : Child C.P C.G p Pst f caps (.cw p.n)) (h : ∀ Rd', RX C ops (i + 1) Z (frX s hX (trRun C.P p Pst true Rd' 0 (.recv []) hl' hm')) ds σ) : RX C ops i Z (frX s hX (trRun C.P p Pst true Rd 0 (.spawn p.n false) hl hm)) ds σ := by
  refine RX_step ho fun A M ρ a w hs b k cs hb hz => frRun.intro fun hdj hA w₁ h₁ hw hlv => ?_
  refine Run.intro (.spawnC rfl rfl rfl rfl fun w₂ h₂ => ?_)
  have h₂A := h₂.ry.less (A' := A) fun b => .inl
  have hs₂ := SX.rely (SX.rely hs h₁) h₂A
  have hlv₂ := h₂.wg hlv
  have hw₂ := hw.keep hX h₂.ry
  obtain ⟨vs, hq, hvs, hvr⟩ := fn_case (by have := hs₂.op x; rw [hx] at this; exact this)
  refine ⟨fun b => A b ∧ M b ≠ none, _, _, fun b hb => .inl hb.1, step_go ho hg hb hop hq, ?_, hch _ M w₂ vs hs₂.sr.gl hs₂.shared (Apt.give (hA.less fun b => .inl)).2 hlv₂ hvs fun j y hy => ?_⟩
  · rw [hdst, un_give hdj]
    refine frRun.elim (h (fun b => Rd b ∨ (A b ∧ M b ≠ none)) (fun b => A b ∧ ¬ (A b ∧ M b ≠ none)) M ρ a w₂ ?_ b k cs hb (hZ _ _ _ _ _ _ _ hz (Imm.le_refl _) (h₁.same.trans h₂.ry.same))) hdj.give hw₂ hA.giveX hlv₂
    have g := hs₂.give
    exact ⟨g.fit, g.sr, g.df, fun n hn => g.fr n (by have hn' : σ.nx + 8 * (i + 1) ≤ n := hn; omega)⟩
  · obtain ⟨u, h1, h2⟩ := hvr j y hy
    exact ⟨u, h1, fun ρ' => VR.other h2 (hcaps y (List.mem_of_getElem? hy))⟩
/-- crew.Add(1). -/
theorem FX_add (hZ : Up Z) {L : WgLink} (H : WgLib C.P L) (ho : ops[i]? = some o) (hg : o.guard = none) {y : Operand} {tys : Array TypeId} (hop : o.op = .call { callee := .value (.func L.add), args := #[x, y], argTypes := tys }) (hx : opv C σ.t x = .d (.val (.pointer (some ⟨p.Wg, 0, none⟩)))) (hy : opv C σ.t y = SV.i 1)
    (hd : (match o.dst with | none => true | some d => Nat.blt d C.sz) = true) {j : Nat} (hj : j < p.n) (hn : p.n < 2147483647)
    {hl : Lo.spawn j false ≠ .out} {hm : (Lo.spawn j false).mute = false} {hl' : Lo.spawn j true ≠ .out} {hm' : (Lo.spawn j true).mute = false}
    (h : RX C ops (i + 1) Z (frX s hX (trRun C.P p Pst true Rd 0 (.spawn j true) hl' hm')) ds (σ.app o.dst .any [])) : RX C ops i Z (frX s hX (trRun C.P p Pst true Rd 0 (.spawn j false) hl hm)) ds σ := by
  refine RX_step ho fun A M ρ a w hs b k cs hb hz => frRun.intro fun hdj hA w₁ h₁ hw hlv => ?_
  refine Run.intro (.own rfl (by simp) fun w₂ h₂ => ?_)
  have h₂A := h₂.ry.less (A' := A) fun b => .inl
  have hs₂ := SX.rely (SX.rely hs h₁) h₂A
  have hlv₂ := h₂.wg hlv
  have hw₂ := hw.keep hX h₂.ry
  have e1 := hs₂.val hx
  have e2 := hs₂.val (v := .int .i64 1) hy
  have hb' : (addFn L).body.isNone = false := rfl
  have hrun : (execOp a.eval o).run C.P w₂ = .ok (.enter L.add #[.pointer (some ⟨p.Wg, 0, none⟩), .int .i64 1]) w₂ := by
    rw [run_call_body hop H.f_add (Go.ConcR.Gen.nm_add L) hb']
    simp [e1, e2]
  have hev : (execOp a.eval o).events C.P w₂ #[] = #[] := events_call_body hop H.f_add (Go.ConcR.Gen.nm_add L) hb' _
  refine ⟨_, w₂, #[], (stepG_enter ho (wanted_none hg) hb hrun).trans (by unfold listed; rw [hev, seen_none]), fun _ => rfl, Guar.idle _, ?_⟩
  rw [more_self, enter_at _ H.f_add (c := body_add L) rfl]
  refine wg_add H hA hj hn hlv₂ fun w' r hlv' => ?_
  have rA : Rely A Rd w₂ w' := Rely.less r fun b => .inl
  have hT := h A M ρ (a.put o.dst (.tuple #[])) w' ((SX.rely hs₂ rA).put hd (.any _) (by show σ.nx + 8 * i ≤ σ.nx + 8 * (i + 1); omega)) b k cs hb (hZ _ _ _ _ _ _ _ hz (Imm.le_refl _) (h₁.same.trans (h₂.ry.same.trans r.same)))
  have e : (ops[i]?).bind (·.dst) = o.dst := by rw [ho]; rfl
  rw [e]
  exact frRun.elim hT hdj (hw₂.keep hX r) hA hlv'
/-- The receive. -/
theorem FX_recv (hZ : Up Z) (ho : ops[i]? = some o) (hg : o.guard = none) {ty e : TypeId} {dir : ChanDir} {z : Value} (hop : o.op = .recv ty x true) (hx : opv C σ.t x = .d (.val (.chan (some p.Ch)))) (hu : ∀ w, (underlying ty).run C.P w = .ok (.chan dir e) w) (hue : ∀ w, (underlying ty).events C.P w #[] = #[]) (hz0 : ∀ w, (zeroValue e).run C.P w = .ok z w) (hz1 : ∀ w, (zeroValue e).events C.P w #[] = #[])
    (hd : (match o.dst with | none => true | some d => Nat.blt d C.sz) = true) (T : Nat → SV) (hT : ∀ k M v, p.Tell k M v → ∀ ρ, VR M ρ (T k) v) {J : List Nat}
    {hl : Lo.recv J ≠ .out} {hm : (Lo.recv J).mute = false} {hl1 : ∀ k, Lo.recv (k :: J) ≠ .out} {hm1 : ∀ k, (Lo.recv (k :: J)).mute = false} {hl2 : Lo.fin ≠ .out} {hm2 : Lo.fin.mute = false}
    (hgot : ∀ k Rd', k < p.n → k ∉ J → RX C ops (i + 1) Z (frX s hX (trRun C.P p Pst true Rd' 0 (.recv (k :: J)) (hl1 k) (hm1 k))) ds (σ.app o.dst (.tup [T k, SV.b true]) []))
    (hend : (∀ k, k < p.n → k ∈ J) → RX C ops (i + 1) Z (frX s hX (trRun C.P p Pst true Rd 0 .fin hl2 hm2)) ds (σ.app o.dst (.tup [.any, SV.b false]) [])) : RX C ops i Z (frX s hX (trRun C.P p Pst true Rd 0 (.recv J) hl hm)) ds σ := by
  refine RX_step ho fun A M ρ a w hs b k cs hb hzz => frRun.intro fun hdj hA w₁ h₁ hw hlv => ?_
  have hs₁ := SX.rely hs h₁
  have e1 := hs₁.val hx
  refine Run.intro (.recv rfl J (G (b.at a (.inRegion ops (i :: List.range' (i + 1) (ops.size - (i + 1))) :: k)) cs) z ⟨rfl, rfl, rfl, .refl _, fun w₂ h₂ => ?_, fun k' M' v w₂ h₂ hkn hkJ ht hh hap => ?_, fun w₂ h₂ hall => ?_⟩)
  · have hrun : (execOp a.eval o).run C.P w₂ = .ok (.comm #[rcase p.Ch z] true (.recv true)) w₂ := by
      simp [execOp, hop, hu, hz0, e1, rcase]
    have hev : (execOp a.eval o).events C.P w₂ #[] = #[] := by
      simp [execOp, hop, hu, hue, hz0, hz1, e1]
    rw [stepG_comm ho (wanted_none hg) hb hrun]
    unfold listed
    rw [hev, seen_none]
  · have h₂A := h₂.ry.less (A' := A) fun b => .inl
    have hs₂ := SX.rely hs₁ h₂A
    have hlv₂ := h₂.wg hlv
    have hw₂ := hw.keep hX h₂.ry
    rw [served_G ho]
    have hap' : ∀ b, M' b ≠ none → ¬ un A s.X b := fun b hb => (hap b hb).1
    obtain ⟨M2, l1, l2, l3, H2⟩ := hr_learn hs₂.sr.hr hs₂.fit hh (fun b hb h => hap' b hb (.inl h))
    have hA2 : Apt p (un A s.X) (fun b => Rd b ∨ M' b ≠ none) := fun b hb => by
      rcases hb with hb | hb | hb
      · exact hA b (.inl hb)
      · exact hA b (.inr hb)
      · exact (hap b hb).2
    refine frRun.elim (hgot k' (fun b => Rd b ∨ M' b ≠ none) hkn hkJ A M2 ρ _ w₂ ?_ b k cs hb (hZ _ _ _ _ _ _ _ hzz l1 (h₁.same.trans h₂.ry.same))) (fun b hb => ⟨(hdj b hb).1, fun h => h.elim (hdj b hb).2 fun h => hap' b h (.inr hb)⟩) hw₂ hA2 hlv₂
    refine hs₂.app (wr := []) hd ⟨fun b hb => absurd rfl hb, fun b hb => ?_, hs₂.fit.lt⟩ l1 (Names.le_refl _) ?_ H2 (fun n hn => hs₂.fr n (by have hn' : σ.nx + 8 * (i + 1) ≤ n := hn; omega))
    · rcases hb with hb | hb
      · obtain ⟨o', ho'⟩ := Option.ne_none_iff_exists'.1 (hs₂.fit.rm b hb)
        rw [l1 b o' ho']; simp
      · obtain ⟨o', ho'⟩ := Option.ne_none_iff_exists'.1 hb
        rw [l2 b o' ho']; simp
    · exact VR.pair ((hT k' M' v ht ρ).mono l2 (Names.le_refl _)) (.d _ _ (.val _ rfl))
  · have h₂A := h₂.ry.less (A' := A) fun b => .inl
    have hs₂ := SX.rely hs₁ h₂A
    have hlv₂ := h₂.wg hlv
    have hw₂ := hw.keep hX h₂.ry
    rw [served_G ho]
    refine frRun.elim (hend hall A M ρ _ w₂ ?_ b k cs hb (hZ _ _ _ _ _ _ _ hzz (Imm.le_refl _) (h₁.same.trans h₂.ry.same))) hdj hw₂ hA hlv₂
    exact hs₂.put hd (VR.pair (.any _) (.d _ _ (.val _ rfl))) (by show σ.nx + 8 * i ≤ σ.nx + 8 * (i + 1); omega)
end
end
/-- What a caller's frame tells, behind a callee that left its own blocks aside. -/
theorem hr_back {A Rd A' Rd' : Blks} {M M' : Imm} {ρ : Names} {h : Heap} {w w' : World} (H : HR M (ext A Rd F0 w) ρ h w) (f : Fit A Rd F0 M w) (hM : M.le M') (hold : ∀ b, A b → M b = none → w'.heap[b]? = w.heap[b]?) (hsub : ∀ b, A b → M b = none → A' b)
    (hMn : ∀ b, A b → M b = none → M' b = none) (hi : Holds M' w') (hdom : ∀ b, M' b ≠ none → A' b ∨ Rd' b) (hsz : w.heap.size ≤ w'.heap.size) : HR M' (ext A' Rd' F0 w') ρ h w' := by
  have exA : ∀ b, A' b → ext A' Rd' F0 w' b = none := fun b hb => by rw [ext_in (.inl hb)]
  refine ⟨hi, fun b o hb => ?_, fun b o hb => ?_, fun n blk hn => ?_, H.sep, ?_⟩
  · by_cases e : A' b ∨ Rd' b
    · rw [ext_in e] at hb; cases hb
    · rw [ext_out e] at hb; exact hb
  · by_cases e : A' b ∨ Rd' b
    · rw [ext_in e] at hb; cases hb
    · exact Classical.byContradiction fun hc => e (hdom b hc)
  · obtain ⟨x, hx, hr⟩ := H.live n blk hn
    refine ⟨x, hx, ?_⟩
    rcases hr with hr | ⟨h0, h1, h2, o, h3, h4⟩
    · exact .inl hr
    · have ha := own_A f h1 h2 h3
      exact .inr ⟨h0, hMn _ ha h1, exA _ (hsub _ ha h1), o, by rw [hold _ ha h1]; exact h3, h4.mono hM (Names.le_refl _)⟩
  · refine H.famKeep (fun _ _ _ h => h) (Names.le_refl _) hM hsz (fun n S es hn b hb g1 g2 => ?_) (fun n S es x c _ hn hx h0 hc => ?_) (fun _ _ _ m y _ a b _ => .inl ⟨a, b⟩)
    · obtain ⟨_, _, _, k1, _⟩ := H.fam n S es hn
      obtain ⟨_, _, k3⟩ := k1 b hb
      have ha := own_A f g1 g2 (Array.getElem?_eq_getElem k3)
      exact ⟨hMn _ ha g1, exA _ (hsub _ ha g1)⟩
    · rcases hc with rfl | hc
      · obtain ⟨x', hx', hr⟩ := H.live n _ hn
        rw [hx] at hx'; obtain rfl := Option.some.inj hx'
        rcases hr with ⟨h00, _⟩ | ⟨_, h1, h2, o, h3, _⟩
        · omega
        · exact hold _ (own_A f h1 h2 h3) h1
      · obtain ⟨_, _, _, k1, _⟩ := H.fam n S es hn
        obtain ⟨m1, k2, k3⟩ := k1 c hc
        exact hold _ (own_A f m1 k2 (Array.getElem?_eq_getElem k3)) m1
section
variable {C : Ctx} {Z : ZX} {ds : List Deferred} {σ : St} {ops : Array Oper} {i : Nat} {o : Oper} {K : Tr C.P} {x : Operand}
open Classical in
/-- The call of a function that goes through phases, whatever one owns. -/
theorem RX_callF (hZ : Up Z) (ho : ops[i]? = some o) (hg : o.guard = none) {f : FuncId} {fn : Func} {cargs : Array Operand} {tys : Array TypeId} (hop : o.op = .call { callee := .value x, args := cargs, argTypes := tys }) (hx : opv C σ.t x = .fn f []) (hf : C.P.funcs[f]? = some fn) (hfn : fnOK fn = true)
    {args : List SV} {Pr : SV → Prop} {Q : Tr C.P → Prop} (hF : ∀ s hX, SpecX C.P C.G f args (frX s hX K) (fun K' r => Pr r ∧ ∃ K'', K' = frX s hX K'' ∧ Q K'')) (hargs : mapV (opv C σ.t) cargs.toList = args) (hfree : ∀ y, y ∈ args → Free y) (hd : (match o.dst with | none => true | some d => Nat.blt d C.sz) = true)
    (h : ∀ (K' : Tr C.P) r, Pr r → Q K' → RX C ops (i + 1) Z K' ds (σ.app o.dst r [])) : RX C ops i Z K ds σ := by
  refine RX_step ho fun A M ρ a w hs b k cs hb hz => ?_
  refine K.step A _ w rfl fun w₁ h₁ => ?_
  have hs₁ := hs.rely h₁
  have hvx := hs₁.op x
  rw [hx] at hvx
  obtain ⟨vs, hq, hvs, hvr⟩ := fn_case hvx
  have hvs0 : vs = #[] := Array.eq_empty_of_size_eq_zero (by simpa using hvs)
  subst hvs0
  have hrel := mapV_rel (M := M) (ρ := ρ) (a := a) (v := opv C σ.t) (xs := cargs) (fun y hy => hs₁.op y)
  obtain ⟨hrun, hev⟩ := run_enter (P := C.P) (w := w₁) (a := a) hop hq hf hfn
  have hl : listed C.P b.fn a o w₁ = #[] := by unfold listed; rw [hev]; exact seen_none _ _
  refine ⟨_, w₁, #[], (stepG_enter ho (wanted_none hg) hb hrun).trans (by rw [hl]), Guar.idle w₁, ?_⟩
  rw [more_self]
  subst hargs
  have hlt : ∀ b, A b → ∃ o, w₁.heap[b]? = some o := fun b hb => ⟨_, Array.getElem?_eq_getElem (hs₁.fit.lt b hb)⟩
  let s : Aside := ⟨fun b => A b ∧ M b = none, fun b => if A b ∧ M b = none then w₁.heap[b]? else none, fun b hb => by
    obtain ⟨o, ho⟩ := hlt b hb.1
    show (if A b ∧ M b = none then w₁.heap[b]? else none) ≠ none
    rw [if_pos hb, ho]; simp⟩
  have sX : ∀ b, s.X b = (A b ∧ M b = none) := fun b => rfl
  have sO : ∀ b, s.O b = if A b ∧ M b = none then w₁.heap[b]? else none := fun b => rfl
  have hX : ∀ b, s.O b ≠ none → s.X b := fun b hb => by
    rw [sO] at hb
    by_cases e : A b ∧ M b = none
    · exact e
    · rw [if_neg e] at hb; exact absurd rfl hb
  have hAX : un (fun b => A b ∧ M b ≠ none) s.X = A := by
    funext b; apply propext
    unfold un
    rw [sX]
    constructor
    · rintro (h | h)
      · exact h.1
      · exact h.1
    · intro hb
      by_cases e : M b = none
      · exact .inr ⟨hb, e⟩
      · exact .inl ⟨hb, e⟩
  have hdj : Disj s (fun b => A b ∧ M b ≠ none) K.Rd := fun b hb => ⟨fun h => h.2 hb.2, fun h => hs₁.fit.rm b h hb.2⟩
  have hO : Has s.O w₁ := fun b o hb => by
    rw [sO] at hb
    by_cases e : A b ∧ M b = none
    · rw [if_pos e] at hb; exact hb
    · rw [if_neg e] at hb; cases hb
  have key := hF s hX (fun b => A b ∧ M b ≠ none) M (cargs.map a.eval ++ #[]) w₁ ⟨fun b hb => absurd rfl hb, hs₁.fit.rm, fun b hb => hs₁.fit.lt b hb.1⟩ hs₁.sr.gl hs₁.holds (fun b hb => (hs₁.domM hb).imp (fun h => ⟨h, hb⟩) id) (by simp [mapV_length]) (fun j y hy => ?_) ((b.at a (.inRegion ops (i :: List.range' (i + 1) (ops.size - (i + 1))) :: k))) cs ?_
  · have := key hdj w₁ (.refl w₁) hO
    rw [hAX] at this
    exact this
  · obtain ⟨u, u1, u2⟩ := hrel.2 j y hy
    exact ⟨u, by simpa using u1, hfree y (List.mem_of_getElem? hy) _ _ _ _ u2⟩
  · rintro K' A' M' r u w' k1 k2 k3 k4 k5 k6 k7 ⟨hPr, K'', rfl, hQ⟩
    intro hd' w'' hr'' hw''
    have hMn : ∀ b, A b → M b = none → M' b = none := fun b h1 h2 => Classical.byContradiction fun hc => (k5 b hc).elim (hd' b ⟨h1, h2⟩).1 (hd' b ⟨h1, h2⟩).2
    have hi'' : Holds M' w'' := fun b o hb => by rw [hr''.keep b (k5 b (by rw [hb]; simp))]; exact k4 b o hb
    rw [Frame.finish_at, ho]
    refine h K'' r hPr hQ (un A' s.X) M' ρ (a.put o.dst u) w'' ?_ b k cs hb (hZ _ _ _ _ _ _ _ hz k1 (h₁.same.trans (k2.trans hr''.same)))
    refine SX.app (wr := []) (A' := un A' s.X) (Rd' := K''.Rd) (nb' := σ.nx + 8 * (i + 1)) hs₁ hd ⟨fun b hb => absurd rfl hb, k3.rm, fun b hb => hb.elim (fun h => Nat.lt_of_lt_of_le (k3.lt b h) hr''.same.size) fun h => Has.lt hw'' h⟩ k1 (Names.le_refl _) (k7 _ _ _ _ k6)
      (hr_back hs₁.sr.hr hs₁.fit k1 (fun b h1 h2 => ?_) (fun b h1 h2 => .inr ⟨h1, h2⟩) hMn hi'' (fun b hb => (k5 b hb).imp .inl id) (k2.trans hr''.same).size) (fun n hn => hs₁.fr n (by omega))
    obtain ⟨o', ho'⟩ := hlt b h1
    rw [ho']
    exact hw'' b o' (by rw [sO, if_pos ⟨h1, h2⟩]; exact ho')
end
end Go.Proofs.YtpdojmebloekgaaDoor.Nice.Co
namespace Go.Proofs.YtpdojmebloekgaaDoor.Nice.Co
open Go Go.Conc Go.Conc.Lib Go.ConcR.Gen
open Go.ConcR (KK WgAt stA smA mk DC0)
set_option linter.unusedVariables false
set_option linter.unusedSimpArgs false
set_option maxRecDepth 100000
set_option maxHeartbeats 4000000
noncomputable abbrev CR : Ctx := ⟨Tryd.prog, 63, 0, GC⟩
def elR (L : List (List Int)) (i : Nat) : D := .vec 1 (L.getD i []).length (u8F (L.getD i []))
def listR (L : List (List Int)) : SV := .d (.vec 1 L.length (fun i _ => elR L i))
def tellR (L : List (List Int)) : Nat → Imm → Value → Prop := fun k M v => ∀ ρ, VR M ρ (rolT (L.getD k []) k) v
abbrev pR (L : List (List Int)) (Wg Ch : Nat) : Pr := ⟨L.length, Wg, Ch, 59, tellR L⟩
def tlSR (L : List (List Int)) (Wg Ch : Nat) (j : Nat) : List (Nat × SV) :=
  [(0, listR L), (3, .vp 1 1 (fun _ _ => .val (.func (.func 18) #[] #[])) 0 0), (6, .vp 1 1 (fun _ _ => .val (.chan (some Ch))) 0 0), (7, .d (.val (.pointer (some ⟨Wg, 0, none⟩)))), (19, listR L), (20, SV.i L.length), (21, SV.i j)]
noncomputable def rest17 : Code := match Tryd.f17.body.getD .skip with | .seq _ (.seq _ (.seq _ (.seq _ (.seq _ c)))) => c | _ => .skip
theorem each17_a {Pst : Value → World → Prop} {s : Aside} {hX : ∀ b, s.O b ≠ none → s.X b} (L : List (List Int)) (hL : L.length ≤ 100) (hin : ∀ l, l ∈ L → Bytes l) (Rd : Blks) {Q : QX Tryd.prog}
    (hrest : ∀ Wg Ch Rd' π σ, Sub CR π σ (tlSR L Wg Ch L.length) [] → WX CR rest17 Q (frX s hX (trRun Tryd.prog (pR L Wg Ch) Pst true Rd' 0 (.spawn L.length false) hS rfl)) [] σ) : WX CR (Tryd.f17.body.getD .skip) Q (frX s hX (trPre Tryd.prog Pst Rd .p0)) [] (stOf (argT 0 [listR L, .fn 18 []]) []) := by
  obtain ⟨inf, hinf⟩ : ∃ inf, Tryd.prog.info? 91 = some inf := Option.isSome_iff_exists.1 (by kernel_rfl)
  refine x1 ?_
  refine s1 3 0 1 rfl rfl rfl rfl rfl rfl trivial ?_
  refine s1 4 8 2 rfl rfl rfl rfl rfl rfl trivial ?_
  refine s1 5 16 3 rfl rfl rfl rfl rfl rfl trivial ?_
  refine e1 24 rfl ?_
  refine WX_seq ?_
  refine x1 ?_
  refine s1 15 24 1 rfl rfl rfl rfl rfl rfl trivial ?_
  refine s1 16 32 2 rfl rfl rfl rfl rfl rfl trivial ?_
  refine s1 17 40 3 rfl rfl rfl rfl rfl rfl trivial ?_
  refine e1 48 rfl ?_
  refine WX_cond rfl (fun hc => ?_) fun hc => ?_
  · exfalso
    simp at hc; omega
  refine WX_skip ?_
  refine xtn ?_
  refine WX_cfreeze 3 0 (.val (.func (.func 18) #[] #[])) rfl rfl dr_of_fn ?_
  refine xX1 ?_
  refine FX_makeChan PZ.up rfl rfl rfl rfl Tryd.underlying89 hinf rfl fun Ch => ?_
  refine RX_ops PZ.up [_, _] 1 _ (fun j hj => by simp at hj; match j, hj with | 0, _ => rfl | 1, _ => rfl) ?_
  refine s1 6 56 2 rfl rfl rfl rfl rfl rfl trivial ?_
  refine s0 64 3 rfl rfl rfl rfl rfl trivial ?_
  refine e1 72 rfl ?_
  refine RX_end rfl rfl ?_
  refine xtn ?_
  refine WX_cfreeze 6 56 (.val (.chan (some Ch))) rfl rfl dr_of_d ?_
  refine xX1 ?_
  refine FX_allocWg PZ.up rfl rfl rfl run_alloc59 ev_alloc59 rfl L.length (tellR L) (hl := hS) (hm := rfl) fun Wg => ?_
  refine RX_end rfl rfl ?_
  refine xtn ?_
  refine WX_seq ?_
  refine x1 ?_
  refine s1 19 80 1 rfl rfl rfl rfl rfl rfl trivial ?_
  refine s1 20 88 2 rfl rfl rfl rfl rfl rfl trivial ?_
  refine s1 21 96 3 rfl rfl rfl rfl rfl rfl trivial ?_
  refine e1 104 rfl ?_
  refine WX_block ?_
  refine WX_loop0 (fun m K ds σ => ds = [] ∧ ∃ j Rd' π, j ≤ L.length ∧ m = L.length - j ∧ K = frX s hX (trRun Tryd.prog (pR L Wg Ch) Pst true Rd' 0 (.spawn j false) hS rfl) ∧ Sub CR π σ (tlSR L Wg Ch j) []) L.length ⟨rfl, 0, _, [], Nat.zero_le _, rfl, rfl, ⟨rfl, ⟨rfl, rfl, rfl, rfl, rfl, rfl, rfl, trivial⟩, trivial⟩⟩ ?_
  rintro m K ds σ ⟨rfl, j, Rd', π, hj, rfl, rfl, hsub⟩
  refine WX_sub π _ _ hsub ?_
  refine x1 ?_
  refine s1 22 0 1 rfl rfl rfl rfl rfl rfl trivial ?_
  refine e1 8 rfl ?_
  refine WX_seq ?_
  refine WX_cond rfl (fun hc => ?_) fun hc => ?_
  · have hjn : j < L.length := by simpa using hc
    refine WX_skip ?_
    refine xtn ?_
    refine WX_seq ?_
    refine WX_block ?_
    refine x1 ?_
    refine s1 23 8 1 rfl rfl rfl rfl rfl rfl trivial ?_
    refine s1 24 16 2 rfl rfl rfl rfl rfl rfl (by omega) ?_
    refine s1 25 24 3 rfl rfl rfl rfl rfl rfl (by omega) ?_
    refine s1 8 32 4 rfl rfl rfl rfl rfl rfl trivial ?_
    refine s1 9 40 5 rfl rfl rfl rfl rfl rfl trivial ?_
    refine s0 48 6 rfl rfl rfl rfl rfl trivial ?_
    refine s0 56 7 rfl rfl rfl rfl rfl trivial ?_
    refine e1 64 rfl ?_
    refine WX_cfreeze 8 32 (.val (.int .i64 j)) rfl rfl dr_of_d ?_
    refine WX_cfreeze 9 40 (elR L j) rfl rfl dr_of_d ?_
    refine xX1 ?_
    refine FX_add PZ.up YtpdojmebloekgaaDoor.wgLib rfl rfl rfl rfl rfl rfl hjn (Nat.lt_of_le_of_lt hL (by omega)) (hl' := hS) (hm' := rfl) ?_
    refine RX_end rfl rfl ?_
    refine xtn ?_
    refine xX0 ?_
    refine RX_ops PZ.up [_] 0 _ (fun j hj => by simp at hj; subst hj; rfl) ?_
    refine s1 27 72 1 rfl rfl rfl rfl rfl rfl trivial ?_
    refine e1 88 rfl ?_
    refine FX_spawnW PZ.up rfl rfl rfl rfl rfl ?_ (hl' := hS) (hm' := rfl) (worker42 (p := pR L Wg Ch) (Nat.lt_of_le_of_lt hL (by omega)) (L.getD j []) ?_ j (fun M v h => h)) fun Rd2 => ?_
    · exact fun y hy => List.all_eq_true.1 (show (wkCaps (pR L Wg Ch) 18 _ j).all SV.dataB = true from rfl) y hy
    · refine hin _ ?_
      rw [List.getD_eq_getElem?_getD, List.getElem?_eq_getElem hjn]
      exact List.getElem_mem hjn
    refine RX_end rfl rfl ?_
    refine xbn ?_
    refine xtn ?_
    refine x0 ?_
    refine sA 28 88 1 rfl rfl rfl rfl rfl rfl rfl rfl rfl (by unfold inRange; omega) ?_
    refine s1 21 96 2 rfl rfl rfl rfl rfl rfl trivial ?_
    refine e1 104 rfl ?_
    exact ⟨L.length - (j + 1), by omega, rfl, j + 1, Rd2, [], by omega, rfl, rfl, ⟨rfl, ⟨rfl, rfl, rfl, rfl, rfl, rfl, rfl, trivial⟩, trivial⟩⟩
  · have hjn : j = L.length := by have : ¬ ((j : Int) < L.length) := by simpa using hc
                                  omega
    subst hjn
    refine WX_exit ?_
    refine xtx ?_
    refine xtx ?_
    refine xbo ?_
    refine xtn ?_
    exact hrest Wg Ch Rd' [] _ ⟨rfl, ⟨rfl, rfl, rfl, rfl, rfl, rfl, rfl, trivial⟩, trivial⟩
end Go.Proofs.YtpdojmebloekgaaDoor.Nice.Co
namespace Go.Proofs.YtpdojmebloekgaaDoor
open Go Nice Nice.Co
set_option linter.unusedVariables false
set_option maxRecDepth 100000
theorem vec_imp {M : Imm} {k len : Nat} {f g : Nat → Nat → D} {v : Value} (h : DR M (.vec k len f) v) (e : ∀ i c u, i < len → c < k → DR M (f i c) u → DR M (g i c) u) : DR M (.vec k len g) v := by
  cases h with
  | vec0 => exact .vec0 _ _ _ _
  | vec _ _ _ b o cap cur T fz q hb hc hg hr => exact .vec _ _ _ b o cap cur T fz q hb hc hg fun i c hi hcc => e i c _ hi hcc (hr i c hi hcc)
theorem weights_all {H : Type} {P : Program} {e : TypeId} : ∀ {ds : List (DataW H)} {j : Nat} {d : DataW H}, ds[j]? = some d → ∀ n, n ∈ d.weights P e → n ∈ DataW.weightsAll P e ds
  | x0 :: ds, 0, d, hd, n, hn => by
    simp at hd; subst hd
    simp only [DataW.weightsAll, List.mem_append]
    exact .inl hn
  | x0 :: ds, j + 1, d, hd, n, hn => by
    simp at hd
    simp only [DataW.weightsAll, List.mem_append]
    exact .inr (weights_all hd n hn)
  | [], j, d, hd, n, hn => by simp at hd
/-- The lengths of rows within rows. -/
theorem inner_len {H : Type} {enc : TypeId × Value → H} {P : Program} {w : World} {base : Nat} {spare : Nat → Bool} {held : Bool} {t e1 e2 : TypeId} {v : Value} {d : DataW H} {ps : List MemPlace} (hu1 : P.underlying t = some (.slice e1)) (hu2 : P.underlying e1 = some (.slice e2)) (hc : P.cellsOf e1 = 1) (hb : P.bytesOf e2 = 1)
    (h : DataW.Trod enc P w base spare held t v d ps) (hw : ∀ n, n ∈ d.weights P t → n ≤ reachBytes) {a : Addr} {len cap : Nat} (hv : v = .slice (some a) len cap) {i : Nat} (hi : i < len) {a' : Option Addr} {len' cap' : Nat} (hcell : w.cell? (a.add i) = some (.slice a' len' cap')) : len' ≤ reachBytes := by
  obtain ⟨fuel, h⟩ := h
  subst hv
  cases fuel with
  | zero => simp [DataW.trod] at h
  | succ fuel =>
    unfold DataW.trod at h
    simp only [hu1, Value.cells] at h
    have hl : (#[Value.slice (some a) len cap] : Array Value).toList = [.slice (some a) len cap] := rfl
    try simp only [hl] at h
    split at h
    · simp only [Option.bind_eq_some_iff, Option.map_eq_some_iff] at h
      obtain ⟨elems, hel, rest, _, hd⟩ := h
      obtain ⟨m1, m2⟩ := mapM_some hel
      obtain ⟨y, hy1, hy⟩ := m2 i i (by simp [hi])
      obtain ⟨cs', hcs', hy⟩ := Option.bind_eq_some_iff.1 hy
      obtain ⟨c1, c2⟩ := cells_some hcs'
      rw [hc] at c1 c2
      obtain ⟨u, u1, u2⟩ := c2 0 (by omega)
      rw [Nat.mul_one, show (a.add i).add 0 = a.add i by simp [Addr.add], hcell] at u2
      obtain rfl := Option.some.inj u2
      have hcs : cs' = [.slice a' len' cap'] := by
        match cs', c1, u1 with
        | [x], _, u1 => simp at u1; rw [u1]
      subst hcs
      have hmem : (elems.map (·.1))[i]? = some y.1 := by rw [List.getElem?_map, hy1]; rfl
      have hwy : ∀ n, n ∈ y.1.weights P e1 → n ≤ reachBytes := fun n hn => hw n (by
        have := congrArg Prod.fst hd
        simp only at this
        rw [← this]
        simp only [DataW.weights, hu1, List.mem_cons, List.mem_append]
        exact .inr (.inl (weights_all hmem n hn)))
      cases fuel with
      | zero => simp [DataW.trod] at hy
      | succ fuel =>
        unfold DataW.trod at hy
        simp only [hu2] at hy
        cases a' with
        | none =>
          match len', cap', hy with
          | 0, 0, _ => exact Nat.zero_le _
        | some a' =>
          simp only at hy
          split at hy
          · simp only [Option.bind_eq_some_iff, Option.map_eq_some_iff] at hy
            obtain ⟨el', hel', rest', _, hd'⟩ := hy
            obtain ⟨n1, _⟩ := mapM_some hel'
            have n1 : el'.length = len' := by simpa using n1
            have := hwy ((el'.length + rest'.length) * P.bytesOf e2) (by
              rw [← hd']
              simp [DataW.weights, hu2])
            rw [hb, Nat.mul_one] at this
            omega
          · cases hy
    · cases h
theorem bytess_of {M : Imm} (l : List (Sh.slice .u8).T) {v : Value} (h : DR M ((Sh.slice (Sh.slice .u8)).cell l 0) v) : DR M (.vec 1 (l.map ofB).length (fun i _ => elR (l.map ofB) i)) v := by
  rw [List.length_map]
  refine vec_imp h fun i c u hi hc hu => ?_
  rw [List.getElem?_eq_getElem hi] at hu
  have e : (l.map ofB).getD i [] = ofB l[i] := by simp [List.getD, hi]
  unfold elR
  rw [e]
  exact bytes_val l[i] hu
theorem bytess_in {w : World} (l : List (Sh.slice .u8).T) {v : Value} (h : DR (allM w) ((Sh.slice (Sh.slice .u8)).cell l 0) v) (hs : ∀ (a : Addr) (len cap : Nat), v = .slice (some a) len cap → ∀ (i : Nat), i < len → ∀ a' len' cap', w.cell? (a.add i) = some (.slice a' len' cap') → len' ≤ reachBytes) : ∀ m, m ∈ l.map ofB → Bytes m := fun m hm => by
  obtain ⟨x, hx, rfl⟩ := List.mem_map.1 hm
  obtain ⟨i, hi⟩ := List.mem_iff_getElem?.1 hx
  have hlt := (List.getElem?_eq_some_iff.1 hi).1
  have h' : DR (allM w) (.vec 1 l.length _) v := h
  generalize hL : l.length = n at h'
  rw [hL] at hlt
  cases h' with
  | vec0 => omega
  | vec _ _ _ b o cap cur T fz q hb hc hg hr =>
    have h1 := hg i 0 hlt (by omega)
    have h2 := hr i 0 hlt (by omega)
    simp only [hi] at h2
    have hb' : w.heap[b]? = some (.cells cur T fz) := hb
    refine bytes_sz x h2 fun a' len' cap' hq => ?_
    rw [Nat.mul_one]
    refine hs ⟨b, o, none⟩ n cap rfl i hlt a' len' cap' ?_
    have ea : (⟨b, o, none⟩ : Addr).add i = ⟨b, o + i, none⟩ := by unfold Addr.add; split <;> simp_all
    rw [ea]
    unfold World.cell?
    simp only [hb']
    rw [← hq]
    simpa using h1
end Go.Proofs.YtpdojmebloekgaaDoor
namespace Go.Proofs.YtpdojmebloekgaaDoor.Nice.Co
open Go
set_option linter.unusedVariables false
set_option linter.unusedSimpArgs false
set_option maxRecDepth 100000
def rollAt (r : Roll) : Nat → D
  | 0 => .val (.int .i64 r.c)
  | 1 => .val (.int .i64 r.lo)
  | 2 => .val (.int .i64 r.hi)
  | _ => .val (.int .i64 r.s)
def whatR (L : List (List Int)) (i c : Nat) : D := rollAt (rR (L.getD i [])) c
def faultsR (L : List (List Int)) : Nat → Int
  | 0 => 0
  | n + 1 => if faultsR L n = 0 then decE (L.getD n []) else faultsR L n
def firstR (L : List (List Int)) : Int := faultsR L L.length
theorem faultsR_stay {L : List (List Int)} {k n : Nat} (hk : k ≤ n) (h : faultsR L k ≠ 0) : faultsR L n = faultsR L k := by
  induction n with
  | zero => obtain rfl : k = 0 := by omega
            rfl
  | succ n ih =>
    by_cases e : k = n + 1
    · subst e; rfl
    · have := ih (by omega)
      show (if faultsR L n = 0 then _ else _) = _
      rw [if_neg (by rw [this]; exact h), this]
theorem faultsR_at {L : List (List Int)} {k n : Nat} (hk : k < n) (h0 : faultsR L k = 0) (h : decE (L.getD k []) ≠ 0) : faultsR L n = decE (L.getD k []) := by
  have e : faultsR L (k + 1) = decE (L.getD k []) := by show (if _ then _ else _) = _; rw [if_pos h0]
  rw [faultsR_stay (k := k + 1) hk (by rw [e]; exact h), e]
theorem faultsR_step {L : List (List Int)} {k : Nat} (h0 : faultsR L k = 0) (h : decE (L.getD k []) = 0) : faultsR L (k + 1) = 0 := by show (if _ then _ else _) = _; rw [if_pos h0, h]
def rollsV (L : List (List Int)) : SV := .d (.vec 4 L.length (fun i c => whatR L i c))
def rolAns (L : List (List Int)) : SV := if 100 < L.length then .tup [.d .nils, SV.i 1] else if firstR L = 0 then .tup [rollsV L, SV.i 0] else .tup [.d .nils, SV.i (firstR L)]
theorem ansR_ok {L : List (List Int)} (hL : L.length ≤ 100) (h : firstR L = 0) : rolAns L = .tup [rollsV L, SV.i 0] := by unfold rolAns; rw [if_neg (by omega), if_pos h]
theorem ansR_bad {L : List (List Int)} (hL : L.length ≤ 100) (h : firstR L ≠ 0) : rolAns L = .tup [.d .nils, SV.i (firstR L)] := by unfold rolAns; rw [if_neg (by omega), if_neg h]
theorem ansR_size {L : List (List Int)} (hL : 100 < L.length) : rolAns L = .tup [.d .nils, SV.i 1] := by unfold rolAns; rw [if_pos hL]
theorem ansR_free (L : List (List Int)) (π : List Nat) : ren π (rolAns L) = rolAns L ∧ Free (rolAns L) := by
  have key : ∀ x y : D, ren π (.tup [.d x, .d y]) = .tup [.d x, .d y] ∧ Free (.tup [.d x, .d y]) := fun x y => ⟨rfl, free_two (free_data rfl) (free_data rfl)⟩
  unfold rolAns
  split
  · exact key _ _
  · split
    · exact key _ _
    · exact key _ _
noncomputable def last17 : Code := match rest17 with | .seq _ (.seq _ (.seq _ (.seq _ c))) => c | _ => .skip
theorem tail17 (L : List (List Int)) (hL : L.length ≤ 100) : W ⟨Tryd.prog, 63, 0, GC⟩ last17 (outQ ⟨Tryd.prog, 63, 0, GC⟩ Tryd.f17 (fun r _ => r = rolAns L)) (stOf [(10, .sl 0 0 L.length), (11, .sl 1 0 L.length)] [some (.rows 33 4 L.length (fun i c => whatR L i c)), some (.rows 24 1 L.length (fun i _ => .val (.int .i64 (decE (L.getD i [])))))]) := by
  show W _ _ _ ⟨tOf _, hOf _, 2⟩
  refine W_seq ?_
  refine r1 ?_
  refine s1 52 2 1 rfl rfl rfl rfl rfl rfl trivial ?_
  refine s1 53 10 2 rfl rfl rfl rfl rfl rfl (by first | trivial | omega) ?_
  refine s1 54 18 3 rfl rfl rfl rfl rfl rfl trivial ?_
  refine e1 26 rfl ?_
  refine keep [10, 52, 53, 54] rfl ?_
  refine W_block ?_
  refine loop (α := Nat) 2 (fun n => [(10, .sl 0 0 L.length), (52, .sl 1 0 L.length), (53, SV.i L.length), (54, SV.i n)]) (fun n => [some (.rows 33 4 L.length (fun i c => whatR L i c)), some (.rows 24 1 L.length (fun i _ => .val (.int .i64 (decE (L.getD i [])))))]) (fun n => n ≤ L.length ∧ faultsR L n = 0) (fun n => L.length - n) (0) [0, 1] (fun _ => rfl) ⟨Nat.zero_le _, rfl⟩ rfl ⟨rfl, rfl, rfl, rfl, trivial⟩ ⟨rfl, rfl, trivial⟩ (fun n hx => ?_)
  obtain ⟨hn, hno⟩ := hx
  refine r1 ?_
  refine s1 55 2 1 rfl rfl rfl rfl rfl rfl (by first | trivial | omega) ?_
  refine e1 10 rfl ?_
  refine keep [10, 52, 53, 54, 55] rfl ?_
  refine W_seq ?_
  refine q1 rfl (fun hc19 => ?_) (fun hc19 => ?_)
  · skip
    try simp only [cs, ne_eq] at hc19
    refine W_skip ?_
    refine tn ?_
    refine W_seq ?_
    refine W_block ?_
    refine r1 ?_
    refine s1 56 10 1 rfl rfl rfl rfl rfl rfl (by first | trivial | omega) ?_
    refine s1 57 18 2 rfl rfl rfl rfl rfl rfl (by first | trivial | omega) ?_
    refine s1 14 26 3 rfl rfl rfl rfl rfl rfl trivial ?_
    refine e1 34 rfl ?_
    refine keep [10, 14, 52, 53, 54] rfl ?_
    refine r1 ?_
    refine s1 58 34 1 rfl rfl rfl rfl rfl rfl trivial ?_
    refine s1 59 42 2 rfl rfl rfl rfl rfl rfl (by first | trivial | omega) ?_
    refine e1 50 rfl ?_
    refine keep [10, 14, 52, 53, 54, 59] rfl ?_
    refine q1 rfl (fun hc21 => ?_) (fun hc21 => ?_)
    · skip
      try simp only [cs, ne_eq] at hc21
      refine r1 ?_
      refine s1 60 50 1 rfl rfl rfl rfl rfl rfl trivial ?_
      refine s1 4 58 2 rfl rfl rfl rfl rfl rfl trivial ?_
      refine s1 5 66 3 rfl rfl rfl rfl rfl rfl trivial ?_
      refine e1 74 rfl ?_
      refine keep [4, 5] rfl ?_
      refine W_ret ?_
      refine br ?_
      refine tr ?_
      refine tr ?_
      refine br ?_
      refine tr ?_
      exact out2 4 5 (.d .nils) (SV.i (decE (L.getD n []))) (π := []) (hout := []) Tryd.results17 rfl rfl rfl (by simp only [Int.toNat_natCast, Nat.zero_add]; rfl) rfl rfl trivial (by have h := faultsR_at (L := L) (k := n) (n := L.length) (by omega) hno (by simpa using hc21); rw [ansR_bad hL (by unfold firstR; rw [h]; simpa using hc21)]; unfold firstR; rw [h])
    try simp only [cs, ne_eq] at hc21
    refine W_skip ?_
    refine bn ?_
    refine tn ?_
    refine r0 ?_
    refine sA 61 50 1 rfl rfl rfl rfl rfl rfl rfl rfl rfl (by unfold inRange; omega) ?_
    refine s1 54 58 2 rfl rfl rfl rfl rfl rfl trivial ?_
    refine e1 66 rfl ?_
    refine tn ?_
    exact again (n + 1) [0, 1] ⟨by omega, faultsR_step hno (by simpa using hc21)⟩ (by omega) rfl ⟨rfl, rfl, rfl, rfl, trivial⟩ ⟨rfl, rfl, trivial⟩
  try simp only [cs, ne_eq] at hc19
  refine W_exit ?_
  refine tx ?_
  refine tx ?_
  refine bx ?_
  refine tn ?_
  obtain rfl : n = L.length := (by omega)
  refine freeze 10 0 L.length rfl rfl (Nat.le_refl _) ?_
  refine r1 ?_
  refine s1 62 10 1 rfl rfl rfl rfl rfl rfl trivial ?_
  refine s1 4 18 2 rfl rfl rfl rfl rfl rfl trivial ?_
  refine s1 5 26 3 rfl rfl rfl rfl rfl rfl trivial ?_
  refine e1 34 rfl ?_
  refine keep [4, 5] rfl ?_
  refine W_ret ?_
  exact out2 4 5 (rollsV L) (SV.i 0) (π := []) (hout := []) Tryd.results17 rfl rfl rfl rfl rfl rfl trivial (ansR_ok hL hno).symm
end Go.Proofs.YtpdojmebloekgaaDoor.Nice.Co
namespace Go.Proofs.YtpdojmebloekgaaDoor.Nice.Co
open Go Go.Conc Go.Conc.Lib Go.ConcR.Gen
open Go.ConcR (KK WgAt stA smA mk DC0)
set_option linter.unusedVariables false
set_option linter.unusedSimpArgs false
set_option maxRecDepth 100000
set_option maxHeartbeats 4000000
def postR (s : Aside) (hX : ∀ b, s.O b ≠ none → s.X b) (L : List (List Int)) (Pst : Value → World → Prop) : Tr Tryd.prog → SV → Prop := fun K r => r = rolAns L ∧ ∃ K'', K = frX s hX K'' ∧ Ends Pst K''
def gO (L : List (List Int)) (J : List Nat) : Nat → Nat → D := fun i c => if i ∈ J then whatR L i c else .val (.int .i64 0)
def gC (L : List (List Int)) (J : List Nat) : Nat → Nat → D := fun i _ => if i ∈ J then .val (.int .i64 (decE (L.getD i []))) else .val (.int .i64 0)
theorem upd_gO {L : List (List Int)} {J : List Nat} {fo : Nat → Nat → D} {k i c : Nat} (h : ∀ i c, i < L.length → c < 4 → fo i c = gO L J i c) (hi : i < L.length) (hc : c < 4) : updR fo (0 + (k : Int).toNat) 0 [.val (.int .i64 (rR (L.getD k [])).c), .val (.int .i64 (rR (L.getD k [])).lo), .val (.int .i64 (rR (L.getD k [])).hi), .val (.int .i64 (rR (L.getD k [])).s)] i c = gO L (k :: J) i c := by
  unfold updR
  rw [Int.toNat_natCast, Nat.zero_add]
  by_cases e : i = k
  · subst e
    rw [if_pos ⟨rfl, Nat.zero_le _, by simpa using hc⟩]
    simp only [gO, List.mem_cons, true_or, if_true]
    match c, hc with
    | 0, _ => rfl
    | 1, _ => rfl
    | 2, _ => rfl
    | 3, _ => rfl
  · rw [if_neg (fun h => e h.1), h i c hi hc]
    simp [gO, e]
theorem upd_gC {L : List (List Int)} {J : List Nat} {fc : Nat → Nat → D} {k i : Nat} {x : Int} (h : ∀ i, i < L.length → fc i 0 = gC L J i 0) (hi : i < L.length) (hX : decE (L.getD k []) = x) : updR fc (0 + (k : Int).toNat) 0 [.val (.int .i64 x)] i 0 = gC L (k :: J) i 0 := by
  unfold updR
  rw [Int.toNat_natCast, Nat.zero_add]
  subst hX
  by_cases e : i = k
  · subst e; simp [gC]
  · simp [e, h i hi, gC]
def tlRR (n Ch : Nat) : List (Nat × SV) := [(10, .sl 0 0 n), (11, .sl 1 0 n), (36, .d (.val (.chan (some Ch))))]
def hlRR (n : Nat) (fo fc : Nat → Nat → D) : List (Option Blk) := [some (.rows 33 4 n fo), some (.rows 24 1 n fc)]
theorem hRR {J : List Nat} : Lo.recv J ≠ .out := by simp
theorem each17_b {Pst : Value → World → Prop} {s : Aside} {hX : ∀ b, s.O b ≠ none → s.X b} (L : List (List Int)) (hL : L.length ≤ 100) (hin : ∀ l, l ∈ L → Bytes l) (Wg Ch : Nat) (Rd : Blks) {π : List Nat} {σ : St} (hsub : Sub CR π σ (tlSR L Wg Ch L.length) []) :
    WX CR rest17 (outQX CR Tryd.f17 (postR s hX L Pst)) (frX s hX (trRun Tryd.prog (pR L Wg Ch) Pst true Rd 0 (.spawn L.length false) hS rfl)) [] σ := by
  refine WX_sub π _ _ hsub ?_
  refine xX1 ?_
  refine RX_ops PZ.up [_] 0 _ (fun j hj => by simp at hj; subst hj; rfl) ?_
  refine s1 29 0 1 rfl rfl rfl rfl rfl rfl trivial ?_
  refine e1 16 rfl ?_
  refine FX_spawnC (p := pR L Wg Ch) PZ.up rfl rfl rfl rfl rfl ?_ (hl' := hRR) (hm' := rfl) (closer43 (Nat.lt_of_le_of_lt hL (by omega))) fun Rd2 => ?_
  · exact fun y hy => List.all_eq_true.1 (show (clCaps (pR L Wg Ch)).all SV.dataB = true from rfl) y hy
  refine RX_end rfl rfl ?_
  refine xtn ?_
  refine x1 ?_
  refine s1 30 16 1 rfl rfl rfl rfl rfl rfl trivial ?_
  refine s1 31 24 2 rfl rfl rfl rfl rfl rfl trivial ?_
  refine s1 32 32 3 rfl rfl rfl rfl rfl rfl ⟨by omega, rfl, (by show (L.length : Int) * ((32 : Nat) : Int) ≤ ((140737488355328 : Nat) : Int); omega), by omega⟩ ?_
  refine s1 10 40 4 rfl rfl rfl rfl rfl rfl trivial ?_
  refine e1 48 rfl ?_
  refine x1 ?_
  refine s1 33 48 1 rfl rfl rfl rfl rfl rfl trivial ?_
  refine s1 34 56 2 rfl rfl rfl rfl rfl rfl trivial ?_
  refine s1 35 64 3 rfl rfl rfl rfl rfl rfl ⟨by omega, rfl, (by show (L.length : Int) * ((8 : Nat) : Int) ≤ ((140737488355328 : Nat) : Int); omega), by omega⟩ ?_
  refine s1 11 72 4 rfl rfl rfl rfl rfl rfl trivial ?_
  refine e1 80 rfl ?_
  refine WX_seq ?_
  refine x1 ?_
  refine s1 36 80 1 rfl rfl rfl rfl rfl rfl (by decide) ?_
  refine e1 88 rfl ?_
  refine WX_block ?_
  refine WX_loop0 (fun m K ds σ => ds = [] ∧ ∃ J Rd' π fo fc, m = miss J L.length ∧ K = frX s hX (trRun Tryd.prog (pR L Wg Ch) Pst true Rd' 0 (.recv J) hRR rfl) ∧ (∀ i c, i < L.length → c < 4 → fo i c = gO L J i c) ∧ (∀ i, i < L.length → fc i 0 = gC L J i 0) ∧ Sub CR π σ (tlRR L.length Ch) (hlRR L.length fo fc)) (miss [] L.length) ⟨rfl, [], Rd2, [32, 64], _, _, rfl, rfl, ?_, ?_, ⟨rfl, ⟨rfl, rfl, rfl, trivial⟩, ⟨rfl, rfl, trivial⟩⟩⟩ ?_
  · intro i c hi hc
    simp only [gO, List.not_mem_nil, if_false]
    match c, hc with
    | 0, _ => rfl
    | 1, _ => rfl
    | 2, _ => rfl
    | 3, _ => rfl
  · intro i hi; simp [gC]; rfl
  rintro m K ds σ ⟨rfl, J, Rd', π', fo, fc, rfl, rfl, hfo, hfc, hsub'⟩
  refine WX_sub π' _ _ hsub' ?_
  refine xX1 ?_
  refine FX_recv (p := pR L Wg Ch) PZ.up rfl rfl rfl rfl Tryd.runUnderlying89 (fun w => by simp) Tryd.zeroValue91 (fun w => by simp) rfl (fun k => rolT (L.getD k []) k) (fun k M v h => h) (hl1 := fun k => hRR) (hm1 := fun k => rfl) (hl2 := by simp) (hm2 := rfl) (fun k Rd3 hk hkJ => ?_) (fun hall => ?_)
  · have hk : k < L.length := hk
    refine RX_ops PZ.up [_] 1 _ (fun j hj => by simp at hj; subst hj; rfl) ?_
    refine s1 38 10 2 rfl rfl rfl rfl rfl rfl trivial ?_
    refine e1 18 rfl ?_
    refine RX_end rfl rfl ?_
    refine xtn ?_
    refine WX_seq ?_
    refine WX_cond rfl (fun _ => ?_) (fun hc => by cases hc)
    refine WX_skip ?_
    refine xtn ?_
    refine WX_block ?_
    refine x1 ?_
    refine s1 39 18 1 rfl rfl rfl rfl rfl rfl trivial ?_
    refine s1 12 26 2 rfl rfl rfl rfl rfl rfl trivial ?_
    refine s0 34 3 rfl rfl rfl rfl rfl trivial ?_
    refine e1 42 rfl ?_
    refine WX_keep [10, 11, 12, 36] rfl ?_
    refine xd0 (by kernel_rfl) ?_
    refine d1 40 42 1 rfl rfl rfl rfl rfl rfl trivial ?_
    refine d1 41 50 2 rfl rfl rfl rfl rfl rfl trivial ?_
    refine d1 42 58 3 rfl rfl rfl rfl rfl rfl trivial ?_
    refine d1 43 66 4 rfl rfl rfl rfl rfl rfl trivial ?_
    refine d1 44 74 5 rfl rfl rfl rfl rfl rfl trivial ?_
    refine d1 45 82 6 rfl rfl rfl rfl rfl rfl trivial ?_
    refine d1 46 90 7 rfl rfl rfl rfl rfl rfl trivial ?_
    refine d1 47 98 8 rfl rfl rfl rfl rfl rfl trivial ?_
    refine d1 48 106 9 rfl rfl rfl rfl rfl rfl trivial ?_
    refine d1 49 114 10 rfl rfl rfl rfl rfl rfl trivial ?_
    refine d1 50 122 11 rfl rfl rfl rfl rfl rfl (by omega) ?_
    refine d0 130 12 rfl rfl rfl rfl rfl (by first | trivial | omega) ?_
    refine d1 51 138 13 rfl rfl rfl rfl rfl rfl (by omega) ?_
    refine d0 146 14 rfl rfl rfl rfl rfl (by first | trivial | omega) ?_
    refine de1 154 rfl (by kernel_rfl) ?_
    refine xbn ?_
    exact ⟨miss (k :: J) L.length, miss_lt hkJ hk, rfl, k :: J, Rd3, [0, 1], _, _, rfl, rfl, (fun i c hi hc => upd_gO hfo hi hc), (fun i hi => upd_gC hfc hi rfl), ⟨rfl, ⟨rfl, rfl, rfl, trivial⟩, ⟨rfl, rfl, trivial⟩⟩⟩
  · refine RX_ops PZ.up [_] 1 _ (fun j hj => by simp at hj; subst hj; rfl) ?_
    refine s1 38 10 2 rfl rfl rfl rfl rfl rfl trivial ?_
    refine e1 18 rfl ?_
    refine RX_end rfl rfl ?_
    refine xtn ?_
    refine WX_seq ?_
    refine WX_cond rfl (fun hc => by cases hc) (fun _ => ?_)
    refine WX_exit ?_
    refine xtx ?_
    refine xtx ?_
    refine xbo ?_
    refine xtn ?_
    refine WX_rowsc 0 L.length (fun i c => whatR L i c) rfl rfl (fun i c hi hc => ?_) ?_
    · rw [hfo i c hi hc]; unfold gO; rw [if_pos (hall i hi)]
    refine WX_rowsc 1 L.length (fun i _ => .val (.int .i64 (decE (L.getD i [])))) rfl rfl (fun i c hi hc => ?_) ?_
    · obtain rfl : c = 0 := by omega
      rw [hfc i hi]; unfold gC; rw [if_pos (hall i hi)]
    refine WX_sub [0, 1] [(10, .sl 0 0 L.length), (11, .sl 1 0 L.length)] [some (.rows 33 4 L.length (fun i c => whatR L i c)), some (.rows 24 1 L.length (fun i _ => .val (.int .i64 (decE (L.getD i [])))))] ⟨rfl, ⟨rfl, rfl, trivial⟩, ⟨rfl, rfl, trivial⟩⟩ (WX_last (tail17 L hL) ?_)
    rintro π r ho rfl
    rw [(ansR_free L π).1]
    exact ⟨(ansR_free L []).2, rfl, _, rfl, ends_fin⟩
end Go.Proofs.YtpdojmebloekgaaDoor.Nice.Co
namespace Go.Proofs.YtpdojmebloekgaaDoor.Nice.Co
open Go
set_option linter.unusedVariables false
set_option linter.unusedSimpArgs false
set_option maxRecDepth 100000
theorem ansR_form (L : List (List Int)) : (∃ c, rolAns L = .tup [.d .nils, SV.i c]) ∨ ∃ n f c, rolAns L = .tup [.d (.vec 4 n f), SV.i c] := by
  unfold rolAns
  split
  · exact .inl ⟨_, rfl⟩
  · split
    · exact .inr ⟨_, _, _, rfl⟩
    · exact .inl ⟨_, rfl⟩
section
variable {Pst : Value → World → Prop} {s : Aside} {hX : ∀ b, s.O b ≠ none → s.X b}
theorem each17_any (L : List (List Int)) (hin : ∀ l, l ∈ L → Bytes l) (Rd : Blks) : SpecX Tryd.prog GC 17 [listR L, .fn 18 []] (frX s hX (trPre Tryd.prog Pst Rd .p0)) (postR s hX L Pst) := by
  refine fnx_intro Tryd.func17 rfl rfl ?_
  by_cases hL : L.length ≤ 100
  · exact each17_a L hL hin Rd fun Wg Ch Rd' π σ hs => each17_b L hL hin Wg Ch Rd' hs
  · refine x1 ?_
    refine s1 3 0 1 rfl rfl rfl rfl rfl rfl trivial ?_
    refine s1 4 8 2 rfl rfl rfl rfl rfl rfl trivial ?_
    refine s1 5 16 3 rfl rfl rfl rfl rfl rfl trivial ?_
    refine e1 24 rfl ?_
    refine WX_seq ?_
    refine x1 ?_
    refine s1 15 24 1 rfl rfl rfl rfl rfl rfl trivial ?_
    refine s1 16 32 2 rfl rfl rfl rfl rfl rfl trivial ?_
    refine s1 17 40 3 rfl rfl rfl rfl rfl rfl trivial ?_
    refine e1 48 rfl ?_
    refine WX_cond rfl (fun hc => ?_) fun hc => ?_
    · refine x1 ?_
      refine s1 4 48 1 rfl rfl rfl rfl rfl rfl trivial ?_
      refine s1 5 56 2 rfl rfl rfl rfl rfl rfl trivial ?_
      refine e1 64 rfl ?_
      refine WX_ret ?_
      refine xtr ?_
      exact outX2 4 5 Tryd.results17 rfl rfl (free_data rfl) (free_data rfl) ⟨(ansR_size (by omega)).symm, _, rfl, ends_pre⟩
    · exfalso
      simp at hc; omega
theorem rolls_any (L : List (List Int)) (hin : ∀ l, l ∈ L → Bytes l) (Rd : Blks) : SpecX Tryd.prog GC 9 [listR L] (frX s hX (trPre Tryd.prog Pst Rd .p0)) (postR s hX L Pst) := by
  refine fnx_intro Tryd.func9 rfl rfl ?_
  refine x1 ?_
  refine s1 2 0 1 rfl rfl rfl rfl rfl rfl trivial ?_
  refine s1 3 8 2 rfl rfl rfl rfl rfl rfl trivial ?_
  refine e1 16 rfl ?_
  refine xX1 ?_
  refine RX_ops PZ.up [_] 0 _ (fun j hj => by simp at hj; subst hj; rfl) ?_
  refine s1 4 16 1 rfl rfl rfl rfl rfl rfl trivial ?_
  refine e1 64 rfl ?_
  refine RX_call PZ.up rfl rfl rfl rfl Tryd.func17 rfl (each17_any L hin Rd) rfl ?_ (fun n => rfl) rfl ?_
  · intro y hy
    simp at hy
    rcases hy with rfl | rfl
    · exact free_data rfl
    · exact free_fn
  rintro K' r ⟨rfl, hE⟩
  rcases ansR_form L with ⟨c, e⟩ | ⟨n, f, c, e⟩
  · rw [e]
    refine RX_ops PZ.up [_, _, _, _] 2 _ (fun j hj => by simp at hj; match j, hj with | 0, _ => rfl | 1, _ => rfl | 2, _ => rfl | 3, _ => rfl) ?_
    refine s1 6 32 3 rfl rfl rfl rfl rfl rfl trivial ?_
    refine s1 7 40 4 rfl rfl rfl rfl rfl rfl trivial ?_
    refine s1 2 48 5 rfl rfl rfl rfl rfl rfl trivial ?_
    refine s1 3 56 6 rfl rfl rfl rfl rfl rfl trivial ?_
    refine e1 64 rfl ?_
    refine RX_end rfl rfl ?_
    refine xtn ?_
    refine WX_ret ?_
    exact outX2 2 3 Tryd.results9 rfl rfl (free_data rfl) (free_data rfl) ⟨e.symm, hE⟩
  · rw [e]
    refine RX_ops PZ.up [_, _, _, _] 2 _ (fun j hj => by simp at hj; match j, hj with | 0, _ => rfl | 1, _ => rfl | 2, _ => rfl | 3, _ => rfl) ?_
    refine s1 6 32 3 rfl rfl rfl rfl rfl rfl trivial ?_
    refine s1 7 40 4 rfl rfl rfl rfl rfl rfl trivial ?_
    refine s1 2 48 5 rfl rfl rfl rfl rfl rfl trivial ?_
    refine s1 3 56 6 rfl rfl rfl rfl rfl rfl trivial ?_
    refine e1 64 rfl ?_
    refine RX_end rfl rfl ?_
    refine xtn ?_
    refine WX_ret ?_
    exact outX2 2 3 Tryd.results9 rfl rfl (free_data rfl) (free_data rfl) ⟨e.symm, hE⟩
end
theorem decoded_ok (l : List Int) (hl : Bytes l) (hE : decE l = 0) : Spec Tryd.prog GC 21 [u8V l] [] (fun r ho => r = SV.tup [smpV (decM l), SV.i 0] ∧ ho = []) := (decoded_any l hl).mono fun r ho h => by
  rcases h with ⟨_, h1, h2⟩ | ⟨h, _⟩
  · exact ⟨h1, h2⟩
  · exact absurd hE h
theorem decoded_bad (l : List Int) (hl : Bytes l) (hE : decE l ≠ 0) : Spec Tryd.prog GC 21 [u8V l] [] (fun r ho => r = SV.tup [.d .nils, SV.i (decE l)] ∧ ho = []) := (decoded_any l hl).mono fun r ho h => by
  rcases h with ⟨h, _⟩ | ⟨_, h1, h2⟩
  · exact absurd h hE
  · exact ⟨h1, h2⟩
theorem rR_ok {l : List Int} (h : decE l = 0) : rR l = ofR (decM l) := by unfold rR; rw [if_pos h]
theorem refOf_dec (l : List Int) (hE : decE l = 0) : Spec Tryd.prog GC 22 [smpV (decM l)] [] (fun r ho => r = SV.tup [rollS (rR l), SV.i 0] ∧ ho = []) := by
  have h := refRollOf_any (decM l) (decM_good hE).2.1
  rw [(decM_good hE).1, ← rR_ok hE] at h
  exact h
theorem refRol_size (L : List (List Int)) (hL : 100 < L.length) : Spec Tryd.prog GC 10 [listR L] [] (fun r ho => r = SV.tup [.d .nils, SV.i 1] ∧ ho = []) := by
  refine start 39 0 Tryd.func10 rfl rfl rfl rfl ?_
  refine r1 ?_
  refine s1 2 0 1 rfl rfl rfl rfl rfl rfl trivial ?_
  refine s1 3 8 2 rfl rfl rfl rfl rfl rfl trivial ?_
  refine e1 16 rfl ?_
  refine keep [0] rfl ?_
  refine W_seq ?_
  refine r1 ?_
  refine s1 11 16 1 rfl rfl rfl rfl rfl rfl trivial ?_
  refine s1 12 24 2 rfl rfl rfl rfl rfl rfl (by first | trivial | omega) ?_
  refine s1 13 32 3 rfl rfl rfl rfl rfl rfl (by first | trivial | omega) ?_
  refine e1 40 rfl ?_
  refine keep [0, 13] rfl ?_
  refine q1 rfl (fun hc1 => ?_) (fun hc1 => ?_)
  · skip
    try simp only [cs, ne_eq] at hc1
    refine r1 ?_
    refine s1 2 40 1 rfl rfl rfl rfl rfl rfl trivial ?_
    refine s1 3 48 2 rfl rfl rfl rfl rfl rfl trivial ?_
    refine e1 56 rfl ?_
    refine keep [2, 3] rfl ?_
    refine W_ret ?_
    refine tr ?_
    exact out2 2 3 (.d .nils) (SV.i 1) (π := []) (hout := []) Tryd.results10 rfl rfl rfl rfl rfl rfl trivial ⟨rfl, rfl⟩
  exfalso; simp at hc1; omega
theorem refRol_all (L : List (List Int)) (hin : ∀ l, l ∈ L → Bytes l) (hL : L.length ≤ 100) : Spec Tryd.prog GC 10 [listR L] [] (fun r ho => (firstR L = 0 ∧ r = SV.tup [.sl 0 0 L.length, SV.i 0] ∧ ho = [some (.rows 33 4 L.length (fun i c => whatR L i c))]) ∨ (firstR L ≠ 0 ∧ r = SV.tup [.d .nils, SV.i (firstR L)] ∧ ho = [])) := by
  refine start 39 0 Tryd.func10 rfl rfl rfl rfl ?_
  refine r1 ?_
  refine s1 2 0 1 rfl rfl rfl rfl rfl rfl trivial ?_
  refine s1 3 8 2 rfl rfl rfl rfl rfl rfl trivial ?_
  refine e1 16 rfl ?_
  refine keep [0] rfl ?_
  refine W_seq ?_
  refine r1 ?_
  refine s1 11 16 1 rfl rfl rfl rfl rfl rfl trivial ?_
  refine s1 12 24 2 rfl rfl rfl rfl rfl rfl (by first | trivial | omega) ?_
  refine s1 13 32 3 rfl rfl rfl rfl rfl rfl (by first | trivial | omega) ?_
  refine e1 40 rfl ?_
  refine keep [0, 13] rfl ?_
  refine q1 rfl (fun hc1 => ?_) (fun hc1 => ?_)
  · skip
    exfalso; simp at hc1; omega
  try simp only [cs, ne_eq] at hc1
  refine W_skip ?_
  refine tn ?_
  refine r1 ?_
  refine s1 4 40 1 rfl rfl rfl rfl rfl rfl trivial ?_
  refine e1 48 rfl ?_
  refine keep [0, 4] rfl ?_
  refine W_seq ?_
  refine r1 ?_
  refine s1 14 48 1 rfl rfl rfl rfl rfl rfl trivial ?_
  refine s1 15 56 2 rfl rfl rfl rfl rfl rfl (by first | trivial | omega) ?_
  refine s1 16 64 3 rfl rfl rfl rfl rfl rfl trivial ?_
  refine e1 72 rfl ?_
  refine keep [4, 14, 15, 16] rfl ?_
  refine W_block ?_
  refine ghostly 4 33 4 (fun i c => whatR L i c) rfl ?_
  refine loop (α := Nat) 1 (fun n => [(4, .sl 0 0 (n)), (14, listR L), (15, SV.i L.length), (16, SV.i (n))]) (fun n => [some (.rows 33 4 (n) (fun i c => whatR L i c))]) (fun n => (n) ≤ L.length ∧ faultsR L (n) = 0) (fun n => L.length - (n)) (((0) : Nat)) [72] (fun _ => rfl) (show (0) ≤ L.length ∧ faultsR L (0) = 0 from ⟨Nat.zero_le _, rfl⟩) rfl ⟨rfl, rfl, rfl, rfl, trivial⟩ ⟨rfl, trivial⟩ (fun n hx => ?_)
  show W _ _ _ ⟨tOf [(4, .sl 0 0 n), (14, listR L), (15, SV.i L.length), (16, SV.i n)], hOf [some (.rows 33 4 n (fun i c => whatR L i c))], 1⟩
  have hx : n ≤ L.length ∧ faultsR L n = 0 := hx
  obtain ⟨hn, hno⟩ := hx
  by_cases hz : decE (L.getD n []) = 0
  · skip
    refine r1 ?_
    refine s1 17 1 1 rfl rfl rfl rfl rfl rfl (by first | trivial | omega) ?_
    refine e1 9 rfl ?_
    refine keep [4, 14, 15, 16, 17] rfl ?_
    refine W_seq ?_
    refine q1 rfl (fun hc5 => ?_) (fun hc5 => ?_)
    · skip
      try simp only [cs, ne_eq] at hc5
      refine W_skip ?_
      refine tn ?_
      refine W_seq ?_
      refine W_block ?_
      refine r1 ?_
      refine s1 18 9 1 rfl rfl rfl rfl rfl rfl (by first | trivial | omega) ?_
      refine s1 19 17 2 rfl rfl rfl rfl rfl rfl (by first | trivial | omega) ?_
      refine val 19 (u8V (L.getD n [])) rfl (by simp only [Int.toNat_natCast, Nat.zero_add]; rfl) ?_
      refine s1 6 25 3 rfl rfl rfl rfl rfl rfl trivial ?_
      refine e1 33 rfl ?_
      refine keep [4, 6, 14, 15, 16] rfl ?_
      refine r1 ?_
      refine s1 21 33 1 rfl rfl rfl rfl rfl rfl trivial ?_
      refine c1 (decoded_ok (L.getD n []) (hin _ (mem_at [] (by omega))) hz) [] [] 22 41 2 rfl rfl rfl rfl rfl rfl rfl rfl Tryd.func21 rfl rfl rfl rfl trivial rfl rfl ?_
      refine s1 20 49 3 rfl rfl rfl rfl rfl rfl trivial ?_
      refine s1 23 57 4 rfl rfl rfl rfl rfl rfl trivial ?_
      refine s1 24 65 5 rfl rfl rfl rfl rfl rfl trivial ?_
      refine s1 7 73 6 rfl rfl rfl rfl rfl rfl trivial ?_
      refine s1 8 81 7 rfl rfl rfl rfl rfl rfl trivial ?_
      refine e1 89 rfl ?_
      refine keep [4, 7, 8, 14, 15, 16] rfl ?_
      refine W_seq ?_
      refine r1 ?_
      refine s1 25 89 1 rfl rfl rfl rfl rfl rfl trivial ?_
      refine s1 26 97 2 rfl rfl rfl rfl rfl rfl (by first | trivial | omega) ?_
      refine e1 105 rfl ?_
      refine keep [4, 7, 8, 14, 15, 16, 26] rfl ?_
      refine q1 rfl (fun hc8 => ?_) (fun hc8 => ?_)
      · skip
        exact absurd hc8 (by decide)
      try simp only [cs, ne_eq] at hc8
      refine W_skip ?_
      refine tn ?_
      refine r1 ?_
      refine s1 29 105 1 rfl rfl rfl rfl rfl rfl trivial ?_
      refine c1 (refOf_dec (L.getD n []) hz) [] [] 30 113 2 rfl rfl rfl rfl rfl rfl rfl rfl Tryd.func22 rfl rfl rfl rfl trivial rfl rfl ?_
      refine s1 28 121 3 rfl rfl rfl rfl rfl rfl trivial ?_
      refine s1 31 129 4 rfl rfl rfl rfl rfl rfl trivial ?_
      refine s1 32 137 5 rfl rfl rfl rfl rfl rfl trivial ?_
      refine s1 9 145 6 rfl rfl rfl rfl rfl rfl trivial ?_
      refine s0 153 7 rfl rfl rfl rfl rfl (by first | trivial | omega) ?_
      refine s1 10 161 8 rfl rfl rfl rfl rfl rfl trivial ?_
      refine e1 169 rfl ?_
      refine keep [4, 9, 14, 15, 16] rfl ?_
      refine r0 ?_
      refine s1 33 169 1 rfl rfl rfl rfl rfl rfl trivial ?_
      refine s1 34 177 2 rfl rfl rfl rfl rfl rfl (by first | trivial | omega) ?_
      refine sLit 4 (fun _ c => rollAt (rR (L.getD n [])) c) 35 185 3 rfl rfl rfl rfl rfl rfl rfl rfl rfl (by intro i c hi hc; obtain rfl : i = 0 := (by omega); rcases (show c = 0 ∨ c = 1 ∨ c = 2 ∨ c = 3 by omega) with rfl | rfl | rfl | rfl <;> rfl) ?_
      refine s1 36 193 4 rfl rfl rfl rfl rfl rfl ⟨Nat.le_refl _, (by omega), (by show (n + 1) * 32 ≤ 140737488355328; omega), (by simp only [maxLen]; omega)⟩ ?_
      refine s1 4 201 5 rfl rfl rfl rfl rfl rfl trivial ?_
      refine e1 209 rfl ?_
      refine bn ?_
      refine tn ?_
      refine rowsc 193 (n + 1) (fun i c => whatR L i c) rfl rfl (fun i c hi hc => by show catR (fun i c => whatR L i c) n _ i c = _; unfold catR; by_cases e : i < n; (rw [if_pos e]); (rw [if_neg e]; obtain rfl : i = n := (by omega); rfl)) ?_
      refine r0 ?_
      refine sA 37 209 1 rfl rfl rfl rfl rfl rfl rfl rfl rfl (by unfold inRange; omega) ?_
      refine s1 16 217 2 rfl rfl rfl rfl rfl rfl trivial ?_
      refine e1 225 rfl ?_
      refine tn ?_
      exact again ((n + 1 : Nat)) [193] (show (n + 1) ≤ L.length ∧ faultsR L (n + 1) = 0 from ⟨by omega, faultsR_step hno hz⟩) (show L.length - (n + 1) < L.length - n from (by omega)) rfl ⟨rfl, rfl, rfl, rfl, trivial⟩ ⟨rfl, trivial⟩
    try simp only [cs, ne_eq] at hc5
    refine W_exit ?_
    refine tx ?_
    refine tx ?_
    refine bx ?_
    refine tn ?_
    obtain rfl : n = L.length := (by omega)
    refine r1 ?_
    refine s1 38 9 1 rfl rfl rfl rfl rfl rfl trivial ?_
    refine s1 2 17 2 rfl rfl rfl rfl rfl rfl trivial ?_
    refine s1 3 25 3 rfl rfl rfl rfl rfl rfl trivial ?_
    refine e1 33 rfl ?_
    refine keep [2, 3] rfl ?_
    refine W_ret ?_
    exact out2 2 3 (.sl 0 0 L.length) (SV.i 0) (π := [0]) (hout := [some (.rows 33 4 L.length (fun i c => whatR L i c))]) Tryd.results10 rfl rfl rfl rfl rfl rfl ⟨rfl, trivial⟩ (.inl ⟨hno, rfl, rfl⟩)
  refine r1 ?_
  refine s1 17 1 1 rfl rfl rfl rfl rfl rfl (by first | trivial | omega) ?_
  refine e1 9 rfl ?_
  refine keep [4, 14, 15, 16, 17] rfl ?_
  refine W_seq ?_
  refine q1 rfl (fun hc5 => ?_) (fun hc5 => ?_)
  · skip
    try simp only [cs, ne_eq] at hc5
    refine W_skip ?_
    refine tn ?_
    refine W_seq ?_
    refine W_block ?_
    refine r1 ?_
    refine s1 18 9 1 rfl rfl rfl rfl rfl rfl (by first | trivial | omega) ?_
    refine s1 19 17 2 rfl rfl rfl rfl rfl rfl (by first | trivial | omega) ?_
    refine val 19 (u8V (L.getD n [])) rfl (by simp only [Int.toNat_natCast, Nat.zero_add]; rfl) ?_
    refine s1 6 25 3 rfl rfl rfl rfl rfl rfl trivial ?_
    refine e1 33 rfl ?_
    refine keep [4, 6, 14, 15, 16] rfl ?_
    refine r1 ?_
    refine s1 21 33 1 rfl rfl rfl rfl rfl rfl trivial ?_
    refine c1 (decoded_bad (L.getD n []) (hin _ (mem_at [] (by omega))) hz) [] [] 22 41 2 rfl rfl rfl rfl rfl rfl rfl rfl Tryd.func21 rfl rfl rfl rfl trivial rfl rfl ?_
    refine s1 20 49 3 rfl rfl rfl rfl rfl rfl trivial ?_
    refine s1 23 57 4 rfl rfl rfl rfl rfl rfl trivial ?_
    refine s1 24 65 5 rfl rfl rfl rfl rfl rfl trivial ?_
    refine s1 7 73 6 rfl rfl rfl rfl rfl rfl trivial ?_
    refine s1 8 81 7 rfl rfl rfl rfl rfl rfl trivial ?_
    refine e1 89 rfl ?_
    refine keep [4, 7, 8, 14, 15, 16] rfl ?_
    refine W_seq ?_
    refine r1 ?_
    refine s1 25 89 1 rfl rfl rfl rfl rfl rfl trivial ?_
    refine s1 26 97 2 rfl rfl rfl rfl rfl rfl (by first | trivial | omega) ?_
    refine e1 105 rfl ?_
    refine keep [4, 7, 8, 14, 15, 16, 26] rfl ?_
    refine q1 rfl (fun hc8 => ?_) (fun hc8 => ?_)
    · skip
      try simp only [cs, ne_eq] at hc8
      refine r1 ?_
      refine s1 27 105 1 rfl rfl rfl rfl rfl rfl trivial ?_
      refine s1 2 113 2 rfl rfl rfl rfl rfl rfl trivial ?_
      refine s1 3 121 3 rfl rfl rfl rfl rfl rfl trivial ?_
      refine e1 129 rfl ?_
      refine keep [2, 3] rfl ?_
      refine W_ret ?_
      refine tr ?_
      refine br ?_
      refine tr ?_
      refine tr ?_
      refine br ?_
      refine tr ?_
      exact out2 2 3 (.d .nils) (SV.i (decE (L.getD n []))) (π := []) (hout := []) Tryd.results10 rfl rfl rfl rfl rfl rfl trivial (.inr (by have h := faultsR_at (L := L) (k := n) (n := L.length) (by omega) hno hz; exact ⟨by unfold firstR; rw [h]; exact hz, by unfold firstR; rw [h], rfl⟩))
    exfalso; simp at hc8; exact hz hc8
  try simp only [cs, ne_eq] at hc5
  refine W_exit ?_
  refine tx ?_
  refine tx ?_
  refine bx ?_
  refine tn ?_
  obtain rfl : n = L.length := (by omega)
  refine r1 ?_
  refine s1 38 9 1 rfl rfl rfl rfl rfl rfl trivial ?_
  refine s1 2 17 2 rfl rfl rfl rfl rfl rfl trivial ?_
  refine s1 3 25 3 rfl rfl rfl rfl rfl rfl trivial ?_
  refine e1 33 rfl ?_
  refine keep [2, 3] rfl ?_
  refine W_ret ?_
  exact out2 2 3 (.sl 0 0 L.length) (SV.i 0) (π := [0]) (hout := [some (.rows 33 4 L.length (fun i c => whatR L i c))]) Tryd.results10 rfl rfl rfl rfl rfl rfl ⟨rfl, trivial⟩ (.inl ⟨hno, rfl, rfl⟩)
theorem refRol_ok (L : List (List Int)) (hin : ∀ l, l ∈ L → Bytes l) (hL : L.length ≤ 100) (h0 : firstR L = 0) : Spec Tryd.prog GC 10 [listR L] [] (fun r ho => r = SV.tup [.sl 0 0 L.length, SV.i 0] ∧ ho = [some (.rows 33 4 L.length (fun i c => whatR L i c))]) :=
  (refRol_all L hin hL).mono fun r ho h => by
    rcases h with ⟨_, a, b⟩ | ⟨h, _⟩
    · exact ⟨a, b⟩
    · exact absurd h0 h
theorem refRol_bad (L : List (List Int)) (hin : ∀ l, l ∈ L → Bytes l) (hL : L.length ≤ 100) (h0 : firstR L ≠ 0) : Spec Tryd.prog GC 10 [listR L] [] (fun r ho => r = SV.tup [.d .nils, SV.i (firstR L)] ∧ ho = []) :=
  (refRol_all L hin hL).mono fun r ho h => by
    rcases h with ⟨h, _⟩ | ⟨_, a, b⟩
    · exact absurd h h0
    · exact ⟨a, b⟩
end Go.Proofs.YtpdojmebloekgaaDoor.Nice.Co
namespace Go.Proofs.YtpdojmebloekgaaDoor.Nice.Co
open Go
set_option linter.unusedVariables false
set_option linter.unusedSimpArgs false
set_option maxRecDepth 100000
noncomputable def tailLR : Code := match Tryd.f4.body.getD .skip with | .seq _ (.seq _ c) => c | _ => .skip
theorem lawS_size (L : List (List Int)) (hL : 100 < L.length) : W ⟨Tryd.prog, 43, 0, GC⟩ tailLR (outQ ⟨Tryd.prog, 43, 0, GC⟩ Tryd.f4 (fun r _ => r = SV.b true)) (stOf [(0, listR L), (3, .d .nils), (4, SV.i 1)] []) := by
  show W _ _ _ ⟨tOf _, hOf _, 0⟩
  refine r1 ?_
  refine s1 14 0 1 rfl rfl rfl rfl rfl rfl trivial ?_
  refine c1 (refRol_size L hL) [] [] 15 8 2 rfl rfl rfl rfl rfl rfl rfl rfl Tryd.func10 rfl rfl rfl rfl trivial rfl rfl ?_
  refine s1 13 16 3 rfl rfl rfl rfl rfl rfl trivial ?_
  refine s1 16 24 4 rfl rfl rfl rfl rfl rfl trivial ?_
  refine s1 17 32 5 rfl rfl rfl rfl rfl rfl trivial ?_
  refine s1 5 40 6 rfl rfl rfl rfl rfl rfl trivial ?_
  refine s1 6 48 7 rfl rfl rfl rfl rfl rfl trivial ?_
  refine e1 56 rfl ?_
  refine keep [3, 4, 5, 6] rfl ?_
  refine W_seq ?_
  refine r1 ?_
  refine s1 18 56 1 rfl rfl rfl rfl rfl rfl trivial ?_
  refine s1 19 64 2 rfl rfl rfl rfl rfl rfl (by first | trivial | omega) ?_
  refine s1 20 72 3 rfl rfl rfl rfl rfl rfl trivial ?_
  refine s1 21 80 4 rfl rfl rfl rfl rfl rfl (by first | trivial | omega) ?_
  refine s1 22 88 5 rfl rfl rfl rfl rfl rfl (by first | trivial | omega) ?_
  refine s1 23 96 6 rfl rfl rfl rfl rfl rfl trivial ?_
  refine ask 23 rfl (fun hg3_23 => ?_) (fun hg3_23 => ?_)
  · skip
    try simp only [cs, ne_eq] at hg3_23
    all_goals (exfalso; first | (simp at hg3_23; done) | (simp at hg3_23; omega) | (simp_all; omega) | omega)
  try simp only [cs, ne_eq] at hg3_23
  refine g1 5 false 23 24 7 rfl rfl rfl rfl rfl ?_
  refine s1 24 104 7 rfl rfl rfl rfl rfl rfl trivial ?_
  refine g1 5 false 23 25 8 rfl rfl rfl rfl rfl ?_
  refine s1 25 112 8 rfl rfl rfl rfl rfl rfl trivial ?_
  refine g1 5 false 23 26 9 rfl rfl rfl rfl rfl ?_
  refine s1 26 120 9 rfl rfl rfl rfl rfl rfl (by first | trivial | omega) ?_
  refine s1 27 128 10 rfl rfl rfl rfl rfl rfl trivial ?_
  refine e1 136 rfl ?_
  refine keep [3, 5, 27] rfl ?_
  refine q1 rfl (fun hc3 => ?_) (fun hc3 => ?_)
  · skip
    exfalso; simp at hc3
  try simp only [cs, ne_eq] at hc3
  refine W_skip ?_
  refine tn ?_
  refine W_seq ?_
  refine r1 ?_
  refine s1 7 136 1 rfl rfl rfl rfl rfl rfl trivial ?_
  refine e1 144 rfl ?_
  refine keep [3, 5, 7] rfl ?_
  refine W_block ?_
  refine W_unroll 1 ?_
  refine unr ?_
  refine W_seq ?_
  refine r1 ?_
  refine s1 28 144 1 rfl rfl rfl rfl rfl rfl trivial ?_
  refine s1 29 152 2 rfl rfl rfl rfl rfl rfl trivial ?_
  refine s1 30 160 3 rfl rfl rfl rfl rfl rfl (by first | trivial | omega) ?_
  refine s1 31 168 4 rfl rfl rfl rfl rfl rfl (by first | trivial | omega) ?_
  refine e1 176 rfl ?_
  refine keep [3, 5, 7, 31] rfl ?_
  refine q1 rfl (fun hc6 => ?_) (fun hc6 => ?_)
  · skip
    exact absurd hc6 (by decide)
  try simp only [cs, ne_eq] at hc6
  refine W_exit ?_
  refine tx ?_
  refine tx ?_
  refine bx ?_
  refine tn ?_
  refine r1 ?_
  refine s1 2 176 1 rfl rfl rfl rfl rfl rfl trivial ?_
  refine e1 184 rfl ?_
  refine keep [2] rfl ?_
  refine W_ret ?_
  exact out1 2 (SV.b true) (π := []) (hout := []) Tryd.results4 rfl (by first | rfl | (simp; done) | (simp; rfl) | (simp [*]; rfl)) rfl rfl trivial rfl
theorem lawS_bad (L : List (List Int)) (hin : ∀ l, l ∈ L → Bytes l) (hL : L.length ≤ 100) (h0 : firstR L ≠ 0) : W ⟨Tryd.prog, 43, 0, GC⟩ tailLR (outQ ⟨Tryd.prog, 43, 0, GC⟩ Tryd.f4 (fun r _ => r = SV.b true)) (stOf [(0, listR L), (3, .d .nils), (4, SV.i (firstR L))] []) := by
  show W _ _ _ ⟨tOf _, hOf _, 0⟩
  refine r1 ?_
  refine s1 14 0 1 rfl rfl rfl rfl rfl rfl trivial ?_
  refine c1 (refRol_bad L hin hL h0) [] [] 15 8 2 rfl rfl rfl rfl rfl rfl rfl rfl Tryd.func10 rfl rfl rfl rfl trivial rfl rfl ?_
  refine s1 13 16 3 rfl rfl rfl rfl rfl rfl trivial ?_
  refine s1 16 24 4 rfl rfl rfl rfl rfl rfl trivial ?_
  refine s1 17 32 5 rfl rfl rfl rfl rfl rfl trivial ?_
  refine s1 5 40 6 rfl rfl rfl rfl rfl rfl trivial ?_
  refine s1 6 48 7 rfl rfl rfl rfl rfl rfl trivial ?_
  refine e1 56 rfl ?_
  refine keep [3, 4, 5, 6] rfl ?_
  refine W_seq ?_
  refine r1 ?_
  refine s1 18 56 1 rfl rfl rfl rfl rfl rfl trivial ?_
  refine s1 19 64 2 rfl rfl rfl rfl rfl rfl (by first | trivial | omega) ?_
  refine s1 20 72 3 rfl rfl rfl rfl rfl rfl trivial ?_
  refine s1 21 80 4 rfl rfl rfl rfl rfl rfl (by first | trivial | omega) ?_
  refine s1 22 88 5 rfl rfl rfl rfl rfl rfl (by first | trivial | omega) ?_
  refine s1 23 96 6 rfl rfl rfl rfl rfl rfl trivial ?_
  refine ask 23 rfl (fun hg3_23 => ?_) (fun hg3_23 => ?_)
  · skip
    try simp only [cs, ne_eq] at hg3_23
    all_goals (exfalso; first | (simp at hg3_23; done) | (simp at hg3_23; omega) | (simp_all; omega) | omega)
  try simp only [cs, ne_eq] at hg3_23
  refine g1 5 false 23 24 7 rfl rfl rfl rfl rfl ?_
  refine s1 24 104 7 rfl rfl rfl rfl rfl rfl trivial ?_
  refine g1 5 false 23 25 8 rfl rfl rfl rfl rfl ?_
  refine s1 25 112 8 rfl rfl rfl rfl rfl rfl trivial ?_
  refine g1 5 false 23 26 9 rfl rfl rfl rfl rfl ?_
  refine s1 26 120 9 rfl rfl rfl rfl rfl rfl (by first | trivial | omega) ?_
  refine s1 27 128 10 rfl rfl rfl rfl rfl rfl trivial ?_
  refine e1 136 rfl ?_
  refine keep [3, 5, 27] rfl ?_
  refine q1 rfl (fun hc3 => ?_) (fun hc3 => ?_)
  · skip
    exfalso; simp at hc3
  try simp only [cs, ne_eq] at hc3
  refine W_skip ?_
  refine tn ?_
  refine W_seq ?_
  refine r1 ?_
  refine s1 7 136 1 rfl rfl rfl rfl rfl rfl trivial ?_
  refine e1 144 rfl ?_
  refine keep [3, 5, 7] rfl ?_
  refine W_block ?_
  refine W_unroll 1 ?_
  refine unr ?_
  refine W_seq ?_
  refine r1 ?_
  refine s1 28 144 1 rfl rfl rfl rfl rfl rfl trivial ?_
  refine s1 29 152 2 rfl rfl rfl rfl rfl rfl trivial ?_
  refine s1 30 160 3 rfl rfl rfl rfl rfl rfl (by first | trivial | omega) ?_
  refine s1 31 168 4 rfl rfl rfl rfl rfl rfl (by first | trivial | omega) ?_
  refine e1 176 rfl ?_
  refine keep [3, 5, 7, 31] rfl ?_
  refine q1 rfl (fun hc6 => ?_) (fun hc6 => ?_)
  · skip
    exact absurd hc6 (by decide)
  try simp only [cs, ne_eq] at hc6
  refine W_exit ?_
  refine tx ?_
  refine tx ?_
  refine bx ?_
  refine tn ?_
  refine r1 ?_
  refine s1 2 176 1 rfl rfl rfl rfl rfl rfl trivial ?_
  refine e1 184 rfl ?_
  refine keep [2] rfl ?_
  refine W_ret ?_
  exact out1 2 (SV.b true) (π := []) (hout := []) Tryd.results4 rfl (by first | rfl | (simp; done) | (simp; rfl) | (simp [*]; rfl)) rfl rfl trivial rfl
theorem lawS_ok (L : List (List Int)) (hin : ∀ l, l ∈ L → Bytes l) (hL : L.length ≤ 100) (h0 : firstR L = 0) : W ⟨Tryd.prog, 43, 0, GC⟩ tailLR (outQ ⟨Tryd.prog, 43, 0, GC⟩ Tryd.f4 (fun r _ => r = SV.b true)) (stOf [(0, listR L), (3, rollsV L), (4, SV.i 0)] []) := by
  show W _ _ _ ⟨tOf _, hOf _, 0⟩
  refine r1 ?_
  refine s1 14 0 1 rfl rfl rfl rfl rfl rfl trivial ?_
  refine c1 (refRol_ok L hin hL h0) [] [8] 15 8 2 rfl rfl rfl rfl rfl rfl rfl rfl Tryd.func10 rfl rfl rfl rfl trivial rfl rfl ?_
  refine s1 13 16 3 rfl rfl rfl rfl rfl rfl trivial ?_
  refine s1 16 24 4 rfl rfl rfl rfl rfl rfl trivial ?_
  refine s1 17 32 5 rfl rfl rfl rfl rfl rfl trivial ?_
  refine s1 5 40 6 rfl rfl rfl rfl rfl rfl trivial ?_
  refine s1 6 48 7 rfl rfl rfl rfl rfl rfl trivial ?_
  refine e1 56 rfl ?_
  refine keep [3, 4, 5, 6] rfl ?_
  refine W_seq ?_
  refine freeze 5 8 L.length rfl rfl (Nat.le_refl _) ?_
  refine r1 ?_
  refine s1 18 56 1 rfl rfl rfl rfl rfl rfl trivial ?_
  refine s1 19 64 2 rfl rfl rfl rfl rfl rfl (by first | trivial | omega) ?_
  refine s1 20 72 3 rfl rfl rfl rfl rfl rfl trivial ?_
  refine s1 21 80 4 rfl rfl rfl rfl rfl rfl (by first | trivial | omega) ?_
  refine s1 22 88 5 rfl rfl rfl rfl rfl rfl (by first | trivial | omega) ?_
  refine s1 23 96 6 rfl rfl rfl rfl rfl rfl trivial ?_
  refine ask 23 rfl (fun hg3_23 => ?_) (fun hg3_23 => ?_)
  · skip
    try simp only [cs, ne_eq] at hg3_23
    all_goals (exfalso; first | (simp at hg3_23; done) | (simp at hg3_23; omega) | (simp_all; omega) | omega)
  try simp only [cs, ne_eq] at hg3_23
  refine g1 5 false 23 24 7 rfl rfl rfl rfl rfl ?_
  refine s1 24 104 7 rfl rfl rfl rfl rfl rfl trivial ?_
  refine g1 5 false 23 25 8 rfl rfl rfl rfl rfl ?_
  refine s1 25 112 8 rfl rfl rfl rfl rfl rfl trivial ?_
  refine g1 5 false 23 26 9 rfl rfl rfl rfl rfl ?_
  refine s1 26 120 9 rfl rfl rfl rfl rfl rfl (by first | trivial | omega) ?_
  refine s1 27 128 10 rfl rfl rfl rfl rfl rfl trivial ?_
  refine e1 136 rfl ?_
  refine keep [3, 5, 27] rfl ?_
  refine q1 rfl (fun hc3 => ?_) (fun hc3 => ?_)
  · skip
    exfalso; simp at hc3
  try simp only [cs, ne_eq] at hc3
  refine W_skip ?_
  refine tn ?_
  refine W_seq ?_
  refine r1 ?_
  refine s1 7 136 1 rfl rfl rfl rfl rfl rfl trivial ?_
  refine e1 144 rfl ?_
  refine keep [3, 5, 7] rfl ?_
  refine W_block ?_
  refine loop (α := Nat) 0 (fun n => [(3, rollsV L), (5, rollsV L), (7, SV.i (n))]) (fun n => []) (fun n => (n) ≤ L.length) (fun n => L.length - (n)) (((0) : Nat)) [] (fun _ => rfl) (show (0) ≤ L.length from (Nat.zero_le _)) rfl ⟨rfl, rfl, rfl, trivial⟩ trivial (fun n hx => ?_)
  show W _ _ _ ⟨tOf [(3, rollsV L), (5, rollsV L), (7, SV.i n)], hOf [], 0⟩
  have hx : n ≤ L.length := hx
  refine W_seq ?_
  refine r1 ?_
  refine s1 28 0 1 rfl rfl rfl rfl rfl rfl trivial ?_
  refine s1 29 8 2 rfl rfl rfl rfl rfl rfl trivial ?_
  refine s1 30 16 3 rfl rfl rfl rfl rfl rfl (by first | trivial | omega) ?_
  refine s1 31 24 4 rfl rfl rfl rfl rfl rfl (by first | trivial | omega) ?_
  refine e1 32 rfl ?_
  refine keep [3, 5, 7, 31] rfl ?_
  refine q1 rfl (fun hc6 => ?_) (fun hc6 => ?_)
  · skip
    try simp only [cs, ne_eq] at hc6
    refine W_skip ?_
    refine tn ?_
    refine W_seq ?_
    refine W_block ?_
    refine rd1 rfl ?_
    refine d1 34 32 1 rfl rfl rfl rfl rfl rfl trivial ?_
    refine d1 35 40 2 rfl rfl rfl rfl rfl rfl trivial ?_
    refine d1 36 48 3 rfl rfl rfl rfl rfl rfl (by omega) ?_
    refine d1 37 56 4 rfl rfl rfl rfl rfl rfl (by first | trivial | omega) ?_
    refine val 37 (rollS (rR (L.getD n []))) rfl (by simp only [Int.toNat_natCast, Nat.zero_add]; rfl) ?_
    refine d1 38 64 5 rfl rfl rfl rfl rfl rfl trivial ?_
    refine d1 39 72 6 rfl rfl rfl rfl rfl rfl trivial ?_
    refine d1 40 80 7 rfl rfl rfl rfl rfl rfl (by omega) ?_
    refine d1 41 88 8 rfl rfl rfl rfl rfl rfl (by first | trivial | omega) ?_
    refine val 41 (rollS (rR (L.getD n []))) rfl (by simp only [Int.toNat_natCast, Nat.zero_add]; rfl) ?_
    refine dEq (op := .neq) 42 96 9 rfl rfl rfl rfl rfl rfl rfl rfl rfl (by kernel_rfl) (by kernel_rfl) rfl (.inr ⟨rfl, rfl⟩) ?_
    refine de1 104 rfl (by kernel_rfl) ?_
    refine keep [3, 5, 7, 42] rfl ?_
    refine q1 rfl (fun hc8 => ?_) (fun hc8 => ?_)
    · skip
      exfalso; simp at hc8
    try simp only [cs, ne_eq] at hc8
    refine W_skip ?_
    refine bn ?_
    refine tn ?_
    refine r0 ?_
    refine s1 32 104 1 rfl rfl rfl rfl rfl rfl trivial ?_
    refine sA 33 112 2 rfl rfl rfl rfl rfl rfl rfl rfl rfl (by unfold inRange; omega) ?_
    refine s1 7 120 3 rfl rfl rfl rfl rfl rfl trivial ?_
    refine e1 128 rfl ?_
    refine tn ?_
    exact again ((n + 1 : Nat)) [] (show (n + 1) ≤ L.length from (by omega)) (show L.length - (n + 1) < L.length - n from (by omega)) rfl ⟨rfl, rfl, rfl, trivial⟩ trivial
  try simp only [cs, ne_eq] at hc6
  refine W_exit ?_
  refine tx ?_
  refine tx ?_
  refine bx ?_
  refine tn ?_
  refine r1 ?_
  refine s1 2 32 1 rfl rfl rfl rfl rfl rfl trivial ?_
  refine e1 40 rfl ?_
  refine keep [2] rfl ?_
  refine W_ret ?_
  exact out1 2 (SV.b true) (π := []) (hout := []) Tryd.results4 rfl (by first | rfl | (simp; done) | (simp; rfl) | (simp [*]; rfl)) rfl rfl trivial rfl
theorem lawCR (Pst : Value → World → Prop) (Rd : Blks) (L : List (List Int)) (hin : ∀ l, l ∈ L → Bytes l) : WX ⟨Tryd.prog, 43, 0, GC⟩ (Tryd.f4.body.getD .skip) (outQX ⟨Tryd.prog, 43, 0, GC⟩ Tryd.f4 (fun K r => r = SV.b true ∧ Ends Pst K)) (trPre Tryd.prog Pst Rd .p0) [] (stOf (argT 0 [listR L]) []) := by
  refine x1 ?_
  refine s1 2 0 1 rfl rfl rfl rfl rfl rfl trivial ?_
  refine e1 8 rfl ?_
  refine xX1 ?_
  refine RX_ops PZ.up [_] 0 _ (fun j hj => by simp at hj; subst hj; rfl) ?_
  refine s1 9 8 1 rfl rfl rfl rfl rfl rfl trivial ?_
  refine e1 64 rfl ?_
  refine RX_callF (Pr := fun r => r = rolAns L) (Q := Ends Pst) PZ.up rfl rfl rfl rfl Tryd.func9 rfl (fun s hX => rolls_any L hin Rd) rfl (data_all rfl) rfl ?_
  rintro K' r rfl hE
  by_cases hL : 100 < L.length
  · rw [ansR_size hL]
    refine RX_ops PZ.up [_, _, _, _, _] 2 _ (fun j hj => by simp at hj; match j, hj with | 0, _ => rfl | 1, _ => rfl | 2, _ => rfl | 3, _ => rfl | 4, _ => rfl) ?_
    refine s1 8 24 3 rfl rfl rfl rfl rfl rfl trivial ?_
    refine s1 11 32 4 rfl rfl rfl rfl rfl rfl trivial ?_
    refine s1 12 40 5 rfl rfl rfl rfl rfl rfl trivial ?_
    refine s1 3 48 6 rfl rfl rfl rfl rfl rfl trivial ?_
    refine s1 4 56 7 rfl rfl rfl rfl rfl rfl trivial ?_
    refine e1 64 rfl ?_
    refine RX_end rfl rfl ?_
    refine xtn ?_
    refine WX_sub [] [(0, listR L), (3, .d .nils), (4, SV.i 1)] [] ⟨rfl, ⟨rfl, rfl, rfl, trivial⟩, trivial⟩ (WX_last (lawS_size L hL) ?_)
    rintro π r ho rfl
    exact ⟨free_data rfl, rfl, hE⟩
  have hL : L.length ≤ 100 := by omega
  by_cases h0 : firstR L = 0
  · rw [ansR_ok hL h0]
    refine RX_ops PZ.up [_, _, _, _, _] 2 _ (fun j hj => by simp at hj; match j, hj with | 0, _ => rfl | 1, _ => rfl | 2, _ => rfl | 3, _ => rfl | 4, _ => rfl) ?_
    refine s1 8 24 3 rfl rfl rfl rfl rfl rfl trivial ?_
    refine s1 11 32 4 rfl rfl rfl rfl rfl rfl trivial ?_
    refine s1 12 40 5 rfl rfl rfl rfl rfl rfl trivial ?_
    refine s1 3 48 6 rfl rfl rfl rfl rfl rfl trivial ?_
    refine s1 4 56 7 rfl rfl rfl rfl rfl rfl trivial ?_
    refine e1 64 rfl ?_
    refine RX_end rfl rfl ?_
    refine xtn ?_
    refine WX_sub [] [(0, listR L), (3, rollsV L), (4, SV.i 0)] [] ⟨rfl, ⟨rfl, rfl, rfl, trivial⟩, trivial⟩ (WX_last (lawS_ok L hin hL h0) ?_)
    rintro π r ho rfl
    exact ⟨free_data rfl, rfl, hE⟩
  · rw [ansR_bad hL h0]
    refine RX_ops PZ.up [_, _, _, _, _] 2 _ (fun j hj => by simp at hj; match j, hj with | 0, _ => rfl | 1, _ => rfl | 2, _ => rfl | 3, _ => rfl | 4, _ => rfl) ?_
    refine s1 8 24 3 rfl rfl rfl rfl rfl rfl trivial ?_
    refine s1 11 32 4 rfl rfl rfl rfl rfl rfl trivial ?_
    refine s1 12 40 5 rfl rfl rfl rfl rfl rfl trivial ?_
    refine s1 3 48 6 rfl rfl rfl rfl rfl rfl trivial ?_
    refine s1 4 56 7 rfl rfl rfl rfl rfl rfl trivial ?_
    refine e1 64 rfl ?_
    refine RX_end rfl rfl ?_
    refine xtn ?_
    refine WX_sub [] [(0, listR L), (3, .d .nils), (4, SV.i (firstR L))] [] ⟨rfl, ⟨rfl, rfl, rfl, trivial⟩, trivial⟩ (WX_last (lawS_bad L hin hL h0) ?_)
    rintro π r ho rfl
    exact ⟨free_data rfl, rfl, hE⟩
end Go.Proofs.YtpdojmebloekgaaDoor.Nice.Co
namespace Go.Proofs.YtpdojmebloekgaaDoor
open Go Nice Nice.Co Go.Conc
set_option linter.unusedVariables false
set_option maxRecDepth 100000
theorem crewRolls_walk {H : Type} {enc : TypeId × Value → H} (v0 : Value) {b0 : Nat} {d0 : DataW H} {p0 : List MemPlace} {s0 : Nat → Bool} {e0 : Bool} {c0 : Nat} (W : World) (o0 : Value.okWide Tryd.prog W .any b0 23 v0) (k0 : DataW.Trod enc Tryd.prog W c0 s0 e0 23 v0 d0 p0) (hs : ClassesAt W) (hsz : ∀ (a : Addr) (len cap : Nat), v0 = .slice (some a) len cap → ∀ (i : Nat), i < len → ∀ a' len' cap', W.cell? (a.add i) = some (.slice a' len' cap') → len' ≤ reachBytes) :
    ∃ M last o w' t', runNT Tryd.prog (M + 1) (solo (G (Frame.enter Tryd.prog 4 #[v0] .normal) []) W) #[] = (.ended o w', t') ∧ runN Tryd.prog M (solo (G (Frame.enter Tryd.prog 4 #[v0] .normal) []) W) = .next last ∧
      Go.step Tryd.prog last = .ended o w' ∧ Conc.Good Tryd.prog (fun v W' => v = .bool true ∧ RowKit.Below W.heap.size W W') last o w' t' := by
  obtain ⟨l0, hl0, hv0⟩ := arg_slice (P := Tryd.prog) (t := 23) (b0 := b0) (.slice (.u8)) (fit_slice Tryd.underlying23 (by kernel_rfl) (by decide) (fit_slice Tryd.underlying39 (by kernel_rfl) (by decide) (fit_u8 Tryd.underlying5))) o0 k0
  have hG := classes_G hs
  refine lawX_run (v := .bool true) Tryd.func4 rfl rfl (by kernel_rfl) rfl ?_ ?_ (fun Pst => lawCR Pst _ (l0.map ofB) (bytess_in l0 (dr_of (hv0 (fun _ => none))) hsz))
  · first | exact fun g ρ => .any _ | exact hG
  · intro i x hx
    match i, hx with
    | 0, hx => cases hx; exact ⟨v0, rfl, (.d _ _ (bytess_of l0 (dr_of (hv0 (fun _ => none)))))⟩
    | n + 1, hx => simp at hx
end Go.Proofs.YtpdojmebloekgaaDoor
namespace Go.Proofs.YtpdojmebloekgaaDoor
open Go Go.Conc
section
variable {H : Type} {enc : TypeId × Value → H}
theorem returnsInLeavingWide_of_row {a : Assume} {C : Checked} {os : Os} {f : FuncId} {fn : Func} {s : ChangeSpec} {conds : List PathCond} {apart fresh handsOn again : Bool} {laid : List (String × DataW Unit)}
    (own : ownKnob C.prog.godebug = none) (started : os.Started) (hfn : C.prog.funcs[f]? = some fn)
    (witness : ∃ (w : World) (tape : Tape) (i : Input), w.os = os ∧ (w.forCall tape i).Shaped C.prog ∧ i.vars = [] ∧ Input.okWide C.prog (w.forCall tape i) .any w.heap.size f i ∧
      (OpenSpec.ofChange s).preRow enc C.prog fn conds apart laid (w.forCall tape i).memory i.args ∧ a.holds C.prog (lone (Frame.enter C.prog f i.args .normal) [] (w.forCall tape i)))
    (runs : ∀ (W : World) (base : Nat) (args : Array Value) (ds gs : List (DataW H)) (before : List MemPlace),
      (∀ (j : Nat) t v, fn.params[j]? = some t → args[j]? = some v → Value.okWide C.prog W .any base t v) →
      DataW.Whole enc C.prog fn.params.toList s.vars apart W args.toList ds gs before →
      (DataW.weightsEach C.prog (fn.params.toList ++ (OpenSpec.ofChange s).bare.plain.varTypes C.prog) (ds ++ gs)).all (· ≤ reachBytes) = true →
      laidMetH C.prog laid W →
      ∃ M last o w' t', runNT C.prog (M + 1) (solo (G (Frame.enter C.prog f args .normal) []) W) #[] = (.ended o w', t') ∧ runN C.prog M (solo (G (Frame.enter C.prog f args .normal) []) W) = .next last ∧
        step C.prog last = .ended o w' ∧ Conc.Good C.prog (fun v W' => s.post enc C.prog fn apart fresh handsOn again W args v W') last o w' t') :
    ReturnsInLeavingWide a C os f .any ((OpenSpec.ofChange s).preRow enc C.prog fn conds apart laid) (s.post enc C.prog fn apart fresh handsOn again) := by
  refine returnsInLeavingWide_of_good own started witness ?_
  intro w tape i _ _ _ hok hpre hholds
  obtain ⟨_, _, _, fn', hfn', _, _, _, _, hval⟩ := hok
  have e : fn' = fn := Option.some.inj (hfn'.symm.trans hfn)
  subst e
  obtain ⟨⟨hp, hl⟩, hz⟩ := hpre
  obtain ⟨ds, gs, before, hw, hc, hk⟩ := OpenSpec.pre_parts hp
  have hw' := DataW.Whole.of_heap (w' := w.forCall tape i) (by rfl) hw
  obtain ⟨M, last, o, w', t', h1, h2, h3, h4⟩ := runs (w.forCall tape i) w.heap.size i.args ds gs before hval hw' (hz.weights hw) (hl.of_heap (by rfl))
  exact ⟨M, last, o, w', t', h1, h2, h3, h4.mono fun v hp => ChangeSpec.post_blind hp⟩
end
/-- A tied card of a call that can start goroutines. -/
theorem holds_tied_goes_at (Lk : Looks) {p : Pinned} {s : OpenSpec} {c : OpenClaim} (kinds : List LaidKind) (tests : Bool) (har : Bool × String) (lk : Bool)
    (hc : c.holds p s) (hw : c.wfByText s = true) (htie : c.laidByTextAt Lk p kinds tests)
    (hst : c.start = .entering) (hnb : c.noBlocks = false ∧ c.again = false) (hm : p.checked.prog.mainIs = some (har.1, har.2.toList)) (hn : (!har.1 && har.2.isEmpty && !lk) = false)
    (hl : ∀ f fn, p.checked.prog.funcNamed c.func = some f → p.checked.prog.funcs[f]? = some fn → lk = p.checked.prog.looks [] ∧ ∀ (j : Nat) t, fn.params[j]? = some t → p.checked.prog.wantsStandIn t = false)
    (hg : true = c.goesBy p.checked.prog) :
    Claim7.holds p (.plain s) { stood := { row := c, standIns := [], harness := har, looks := lk }, kinds := [], alts := [], goes := true, laidByText := true, laidKinds := kinds, laidTests := tests, laidLooks := Lk } := by
  have h6 : Claim7.isSixth { stood := { row := c, standIns := [], harness := har, looks := lk }, kinds := [] } = false := by simpa [Claim7.isSixth] using hn
  exact ⟨Claim7.tied_new_at Lk kinds tests (Claim7.new_of_sixth hc har lk hst hnb hm h6 hl) hw, (fun D hD => by cases hD), htie, (fun h => by cases h), hg⟩
end Go.Proofs.YtpdojmebloekgaaDoor
