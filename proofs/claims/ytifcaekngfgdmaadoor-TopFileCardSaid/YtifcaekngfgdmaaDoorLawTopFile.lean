/- The law TopFile: for every input the Go function returns true and leaves its arguments as they read before. From the walk 'topFile_walk'. No condition. -/
import Derived.Test.YtifcaekngfgdmaaDoorZM14
import Derived.Test.YtifcaekngfgdmaaDoorCards
import Derived.Test.YtifcaekngfgdmaaDoorTie
import Derived.WalkKit
import Derived.ProofKit
import Derived.OpenShut
import Derived.ShutString
import Derived.ChangeOld
import Derived.Below
import Derived.JoinedCond
import Derived.SizedLaws
import Derived.Deep.DeepHandedRow
import Derived.Lib.LaidTab
set_option linter.unusedVariables false
set_option linter.unusedSimpArgs false
set_option maxRecDepth 100000
set_option maxHeartbeats 4000000
namespace Go.Proofs.YtifcaekngfgdmaaDoor.topFile
open Go.Conc Go.ChangeShapes Go.WideShapes Go.ChangeAt Go.RowKit
open Go.ChangeMaps (open_string shut_string)
theorem own:ownKnob Tryd.prog.godebug=none:=by kernel_rfl
theorem laidOut:laidOutB Tryd.prog=true:=by kernel_rfl
theorem E8(H:Type)(enc:TypeId×Value->H)(W:World)(base:Nat)(args:Array Value)(ds gs:List (DataW H))(before:List MemPlace)
  (kg:∀ (j:Nat) t v,Tryd.f3.params[j]? =some t->args[j]? =some v->Value.okWide Tryd.prog W .any base t v)
  (O:DataW.Whole enc Tryd.prog Tryd.f3.params.toList Rows.topFileSpec.vars false W args.toList ds gs before)
  (hz:(DataW.weightsEach Tryd.prog (Tryd.f3.params.toList++(OpenSpec.ofChange Rows.topFileSpec).bare.plain.varTypes Tryd.prog) (ds++gs)).all (· <=reachBytes)=true) (V:laidMetH Tryd.prog Rows.topFileRow.laid W):
  ∃ M last o w' k,runNT Tryd.prog (M+1) (solo (G (Frame.enter Tryd.prog 3 args .normal) []) W) #[]=(.ended o w',k)/\runN Tryd.prog M (solo (G (Frame.enter Tryd.prog 3 args .normal) []) W)= .next last/\
   Go.step Tryd.prog last= .ended o w'/\Conc.Good Tryd.prog (fun v X=>Rows.topFileSpec.post enc Tryd.prog Tryd.f3 false true false false W args v X) last o w' k:=by
 have B:=O
 obtain⟨p,q,b,Y,rfl,aa,ah⟩:=O
 have U:DataW.TrodAll enc Tryd.prog W 0 (fun _=>true) true Tryd.f3.params.toList args.toList ds p:=b
 rw[Tryd.params3]at U kg
 obtain⟨D,al,d0,Kp,p0,q0,E,rfl,rfl,h0,r0⟩:=trodAll_cons U
 obtain⟨rfl,rfl,rfl⟩:=trodAll_nil r0
 obtain rfl:args= #[D]:=by cases args;simp_all
 obtain⟨rfl,rfl⟩:=trodVars_none Y
 have I:=h0
 have J:∀ x∈p0,x.block<W.heap.size:=by obtain⟨m,hm⟩:=I;exact DataW.trod_lt m _ _ _ hm
 have o0:=kg 0 22 D rfl rfl
 clear b
 obtain⟨M,last,o,w',k,r1,r2,r3,r4⟩:=vf D W o0 I (uq V)
 refine⟨M,last,o,w',k,r1,r2,r3,r4.mono fun v ⟨he,e⟩=>?_⟩
 subst he
 exact⟨_,_,_,[],_,[],B,trodAll_mk1 (shut_bool Tryd.underlying4 _),(trodAll_cons_mk (Below.trod laidOut (by kernel_rfl) (of_decide_eq_true (by kernel_rfl)) I e J) trodAll_mk0),rfl,e.frame _,fun h=>by cases h⟩
noncomputable def oV(b:Os):World:=
 {World.holding Tryd.prog b ⟨#[],#[],[]⟩with heap:=((World.holding Tryd.prog b ⟨#[],#[],[]⟩).heap.modify 0 fun | .cells _ t frozen=> .cells #[.int .i64 0, .int .i64 1, .int .i64 0, .int .i64 2, .int .i64 2, .int .i64 6, .int .i64 6, .int .i64 3, .int .i64 12, .int .i64 14, .int .i64 4, .int .i64 24, .int .i64 15, .int .i64 4, .int .i64 59] t frozen|o=>o)}
theorem E9(b:Os):laidMet Tryd.prog Rows.topFileRow.laid ((oV b).forCall (fun _ _=>0) ⟨#[],#[.slice none 0 0],[]⟩).memory:=
 laidMet_of_run' 8 (by kernel_rfl) (by kernel_rfl)
theorem reads(b:Os){H:Type}(enc:TypeId×Value->H):∃ places,DataW.whole enc Tryd.prog ((oV b).forCall (fun _ _=>0) ⟨#[],#[.slice none 0 0],[]⟩).memory Tryd.f3.params.toList Rows.topFileSpec.vars false (#[.slice none 0 0]:Array Value).toList 8=some ([.nil],[],places):=
 ⟨[],by kernel_rfl⟩
set_option maxRecDepth 100000 in
theorem lifted(b:Os)(started:b.Started)(H:Type)(enc:TypeId×Value->H):
  ReturnsInLeavingWide {} Tryd.checked b 3 .any ((OpenSpec.ofChange Rows.topFileSpec).preRow enc Tryd.prog Tryd.f3 Rows.topFileRow.domain false Rows.topFileRow.laid) (Rows.topFileSpec.post enc Tryd.prog Tryd.f3 false true false false):=by
 obtain⟨places,e⟩:=reads b enc
 refine gR (C:=Tryd.checked) (s:=Rows.topFileSpec) own started Tryd.func3
  (witness_row_at (enc:=enc) (C:=Tryd.checked) false (oV b) #[.slice none 0 0] rfl (by kernel_rfl) (by kernel_rfl) (by kernel_rfl)
   (OpenSpec.preRow_of_cond 8 e (by kernel_rfl) (fun k v=>by cases v) (by kernel_rfl) (E9 b))) ?_
 intro W base args ds gs before kg B D E
 exact E8 H enc W base args ds gs before kg B D E
theorem Fa:Rows.TopFileSaid:=
 OpenClaim.holds_of_wide_leaving 3 Tryd.f3 rfl rfl rfl rfl rfl rfl rfl ⟨rfl,rfl,rfl,rfl,rfl⟩ rfl rfl rfl rfl rfl (by kernel_rfl) Tryd.func3 (by kernel_rfl)
  (of_decide_eq_true (by kernel_rfl)) (by unfold Func.isWrapper;first|(rw[if_pos (by decide+kernel)];kernel_rfl)|(rw[if_neg (by decide+kernel)];exact⟨rfl,rfl⟩))
  (fun b started H enc _=>by rw[OpenClaim.pre_eq_preRow];exact lifted b started H enc)
theorem plain(f:FuncId)(fn:Func)(k:Tryd.pinned.checked.prog.funcNamed "barograph/barographtop.TopFile" =some f)(b:Tryd.pinned.checked.prog.funcs[f]? =some fn):
  false=Tryd.pinned.checked.prog.looks []/\∀ (j:Nat) t,fn.params[j]? =some t->Tryd.pinned.checked.prog.wantsStandIn t=false:=by
 obtain rfl:f=3:=Option.some.inj ((show Tryd.prog.funcNamed "barograph/barographtop.TopFile" =some 3 by kernel_rfl).symm.trans k)|>.symm
 obtain rfl:fn=Tryd.f3:=(Option.some.inj (Tryd.func3.symm.trans b)).symm
 refine⟨by kernel_rfl,fun j t e=>?_⟩
 rw[Tryd.params3]at e
 obtain rfl:t=22:=by simpa using Array.mem_of_getElem? e
 exact(show Tryd.prog.wantsStandIn 22=false by kernel_rfl)
theorem proved:Rows.TopFileCardSaid:=
 mL .later _ _ _ _ Fa (by kernel_rfl) topFile_row_tie rfl ⟨rfl,rfl⟩ (by kernel_rfl) rfl plain (by kernel_rfl)
#print axioms proved
end Go.Proofs.YtifcaekngfgdmaaDoor.topFile
