/- Part 14 of the proof of TopFile. -/
import Derived.Test.YtifcaekngfgdmaaDoorZM13
import Derived.Conc.LeavingOf
import Derived.Deep.DeepHandedRow
import Derived.SevenTiedAt
set_option linter.unusedVariables false
set_option linter.unusedSimpArgs false
set_option maxRecDepth 100000
set_option maxHeartbeats 4000000
namespace Go.Proofs.YtifcaekngfgdmaaDoor.Nice.Co
open Go Go.Conc
open Classical in
noncomputable def nS(s s1:Aside)(hX:∀ b,s.O b≠none->s.X b):Aside:=⟨fun b=>s.X b\/s1.X b,fun b=>if s.O b≠none then s.O b else s1.O b,fun b k=>by
 by_cases e:s.O b≠none
 ·rw[if_pos e];exact e
 ·rw[if_neg e]
  rcases k with k|k
  ·exact absurd (s.at_ b k) e
  ·exact s1.at_ b k⟩
section
variable {s s1:Aside} {hX:∀ b,s.O b≠none->s.X b} {B5:∀ b,s1.O b≠none->s1.X b}
theorem EU(hX:∀ b,s.O b≠none->s.X b)(B5:∀ b,s1.O b≠none->s1.X b):∀ b,(nS s s1 hX).O b≠none->(nS s s1 hX).X b:=fun b k=>by
 unfold nS at k ⊢
 by_cases e:s.O b≠none
 ·exact .inl (hX b e)
 ·simp only[if_neg e]at k;exact .inr (B5 b k)
theorem xG(B5:∀ b,s1.O b≠none->s1.X b){w:World}(hd:∀ b,s.X b-> ¬ s1.X b):Has (nS s s1 hX).O w↔Has s.O w/\Has s1.O w:=by
 unfold nS Has
 constructor
 ·refine fun h=>⟨fun b o k=>h b o ?_,fun b o k=>h b o ?_⟩
  ·simp only;rw[if_pos (by rw[k];simp)];exact k
  ·simp only;rw[if_neg];exact k
   intro e;exact hd b (hX b e) (B5 b (by rw[k];simp))
 ·rintro⟨v,B⟩ b o k
  simp only at k
  by_cases e:s.O b≠none
  ·rw[if_pos e]at k;exact v b o k
  ·rw[if_neg e]at k;exact B b o k
theorem AI(A:aI):un (un A s.X) s1.X=un A (nS s s1 hX).X:=by
 funext b;apply propext
 show(A b\/s.X b)\/s1.X b↔A b\/(s.X b\/s1.X b)
 exact or_assoc
theorem Hi{P:Program}{K:Tr P}(hd:∀ b,s.X b-> ¬ s1.X b){A:aI}{g:Goroutine}{w:World}:
  (jU s hX (jU s1 B5 K)).T A g w↔(jU (nS s s1 hX) (EU hX B5) K).T A g w:=by
 constructor
 ·intro h v E G I
  obtain⟨J,V⟩:=(xG (hX:=hX) B5 hd).1 I
  have :=h (fun b k=>v b (.inl k)) E G J (fun b k=>⟨fun e=>e.elim (v b (.inr k)).1 fun e=>hd b e k,(v b (.inr k)).2⟩) E (.refl E) V
  rwa[AI]at this
 ·intro h v E G I B J D O
  have U:u7 (nS s s1 hX) A K.Rd:=fun b k=>by
   rcases k with k|k
   ·exact v b k
   ·exact⟨fun e=>(B b k).1 (.inl e),(B b k).2⟩
  have :=h U J (G.trans (D.less fun b=> .inl)) ((xG (hX:=hX) B5 hd).2 ⟨I.ab hX D,O⟩)
  rwa[AI]
theorem lW.nest{P:Program}{D:Nat->SV}{f:FuncId}{args:List SV}{K:Tr P}{Pr:SV->Prop}{Q:Tr P->Prop}(h:∀ s hX,lW P D f args (jU s hX K) (fun K' r=>Pr r/\∃ e,K'=jU s hX e/\Q e))(s1:Aside)(B5:∀ b,s1.O b≠none->s1.X b)(s:Aside)(hX:∀ b,s.O b≠none->s.X b):
  lW P D f args (jU s hX (jU s1 B5 K)) (fun K' r=>Pr r/\∃ e,K'=jU s hX e/\∃ E,e=jU s1 B5 E/\Q E):=by
 intro A M vs w G I J U V W c cs Y
 by_cases hd:∀ b,s.X b-> ¬ s1.X b
 ·refine(Hi hd).2 (h (nS s s1 hX) (EU hX B5) A M vs w G I J U V W c cs ?_)
  rintro K' A' M' r u w' k1 k2 k3 k4 k5 k6 k7 ⟨k,e,rfl,hQ⟩
  exact(Hi hd).1 (Y (jU s hX (jU s1 B5 e)) A' M' r u w' k1 k2 k3 k4 k5 k6 k7 ⟨k,_,rfl,e,rfl,hQ⟩)
 ·intro hD w1 hr hw v
  exfalso
  refine hd fun b hb B=>(v b B).1 (.inr hb)
end
end Go.Proofs.YtifcaekngfgdmaaDoor.Nice.Co
namespace Go.Proofs.YtifcaekngfgdmaaDoor.Nice.Co
open Go
theorem Spec.J5{P:Program}{e:Nat->SV}{f:FuncId}{args:List SV}{b:List aB}{post:SV->List (Option aB)->Prop}(h:Spec P J.G0 f args b post):Spec P e f args b post:=
 fun K A F M ρ vs w k G v B D E=>h K A F M ρ vs w k (fun g ρ=> .any _) v B D E
def toJ(r:cP):J.cP:=⟨r.c,r.lo,r.hi,r.s⟩
def KG(r:J.cP):cP:=⟨r.c,r.lo,r.hi,r.s⟩
def xH(a b:cP):cP:=KG (J.join (toJ a) (toJ b)).1
def Jl(a b:cP):Int:=(J.join (toJ a) (toJ b)).2
theorem B6(a b:cP):Spec Tryd.prog GC 21 [bb a,bb b] [] (fun r e=>r=SV.bA [bb (xH a b),SV.i (Jl a b)]/\e= []):=(J.ET (toJ a) (toJ b)).J5
def totTo(L:List (List Int)):Nat->cP
 |0=>⟨0,0,0,0⟩
 |n+1=>xH (totTo L n) (rR (L.getD n []))
def pE(L:List (List Int)):cP:=if 100<L.length then⟨0,0,0,0⟩else if ej L=0 then totTo L L.length else⟨0,0,0,0⟩
def pF(L:List (List Int)):Int:=if 100<L.length then 1 else ej L
def ld(L:List (List Int)):SV:= .bA [bb (pE L),SV.i (pF L)]
theorem xI{L:List (List Int)}(b:100<L.length):ld L= .bA [bb ⟨0,0,0,0⟩,SV.i 1]:=by unfold ld pE pF;rw[if_pos b,if_pos b]
theorem zc{L:List (List Int)}(b:L.length<=100)(h:ej L≠0):ld L= .bA [bb ⟨0,0,0,0⟩,SV.i (ej L)]:=by unfold ld pE pF;rw[if_neg (by omega),if_neg h,if_neg (by omega)]
theorem B7{L:List (List Int)}(b:L.length<=100)(h:ej L=0):ld L= .bA [bb (totTo L L.length),SV.i 0]:=by unfold ld pE pF;rw[if_neg (by omega),if_pos h,if_neg (by omega),h]
theorem oT(r:cP):gP (bb r):=D7 (rH rfl)
theorem rI(π:List Nat)(r:cP)(e:Int):du π (.bA [bb r,SV.i e])= .bA [bb r,SV.i e]:=rfl
noncomputable def Hj:Code:=match Tryd.f8.body.getD .skip with | .seq _ (.seq _ c)=>c|_=> .skip
theorem EV(L:List (List Int))(k:L.length<=100):W ⟨Tryd.prog,29,0,GC⟩ Hj (iP ⟨Tryd.prog,29,0,GC⟩ Tryd.f8 (fun r _=>r= .bA [bb (totTo L L.length),SV.i 0])) (fg [(2, .ptr 0 0 0),(4,mJ L),(5,SV.i 0)] [some (.cells 39 4 [SV.i 0,SV.i 0,SV.i 0,SV.i 0])]):=by
 show W _ _ _ ⟨dG _,dC _,1⟩
 refine r1<|sT 6 1 1 rfl<|e1 9 rfl<|ab [2,4,5,6] rfl<|ai<|r1<|sT 14 9 1 rfl<|sO 15 17 2 rfl<|sT 16 25 3 rfl<|e1 33 rfl<|ab [2,5,6,14,15,16] rfl<|au ?_
 refine loop (α:=Nat) 2 (fun n=> [(2, .ptr 0 0 0),(5,SV.i 0),(6, .ptr 1 0 0),(14,mJ L),(15,SV.i L.length),(16,SV.i (n))]) (fun n=> [some (.cells 39 4 [SV.i 0,SV.i 0,SV.i 0,SV.i 0]),some (dz (totTo L (n)))]) (fun n=>(n)<=L.length) (fun n=>L.length-(n)) (((0):Nat)) [0,1] (fun _=>rfl) (show(0)<=L.length from(Nat.zero_le _)) rfl ⟨rfl,rfl,rfl,rfl,rfl,rfl,trivial⟩ ⟨rfl,rfl,trivial⟩ (fun n e=>?_)
 show W _ _ _ ⟨dG [(2, .ptr 0 0 0),(5,SV.i 0),(6, .ptr 1 0 0),(14,mJ L),(15,SV.i L.length),(16,SV.i n)],dC [some (.cells 39 4 [SV.i 0,SV.i 0,SV.i 0,SV.i 0]),some (dz (totTo L n))],2⟩
 have e:n<=L.length:=e
 refine r1<|sO 17 2 1 rfl<|e1 10 rfl<|ab [2,5,6,14,15,16,17] rfl<|ai ?_
 refine q1 rfl (fun b=>?_) (fun b=>?_)
 try simp only[cs,ne_eq]at b
 refine ak<|tn<|ai<|au<|r1<|sO 18 10 1 rfl<|sO 19 18 2 rfl ?_
 refine val 19 (bb (rR (L.getD n []))) rfl (by simp only[Int.toNat_natCast,Nat.zero_add];rfl) ?_
 refine sT 8 26 3 rfl<|cJ 34 4 rfl rfl rfl rfl rfl<|e1 42 rfl<|ab [2,5,6,8,14,15,16] rfl ?_
 refine r0 ?_
 refine sO 21 42 1 rfl ?_
 refine val 21 (bb (totTo L n)) rfl rfl ?_
 refine sO 22 50 2 rfl ?_
 refine val 22 (bb (rR (L.getD n []))) rfl rfl ?_
 refine c1 (B6 (totTo L n) (rR (L.getD n []))) [] [] 23 58 3 rfl rfl rfl rfl rfl rfl rfl rfl Tryd.func21 rfl rfl rfl rfl trivial rfl rfl ?_
 refine sT 20 66 4 rfl<|sT 24 74 5 rfl<|sT 25 82 6 rfl<|cJ 90 7 rfl rfl rfl rfl rfl<|e1 98 rfl<|bn<|tn ?_
 refine r0 ?_
 refine de 26 98 1 rfl<|sT 16 106 2 rfl<|e1 114 rfl<|tn ?_
 exact again ((n+1:Nat)) [0,1] (show(n+1)<=L.length from(by omega)) (show L.length-(n+1)<L.length-n from(by omega)) rfl ⟨rfl,rfl,rfl,rfl,rfl,rfl,trivial⟩ ⟨rfl,rfl,trivial⟩
 try simp only[cs,ne_eq]at b
 refine bI<|tx<|tx<|bx<|tn ?_
 obtain rfl:n=L.length:=(by omega)
 refine r1<|sO 27 10 1 rfl<|sT 28 18 2 rfl<|cJ 26 3 rfl rfl rfl rfl rfl<|sT 3 34 4 rfl<|e1 42 rfl<|ab [2,3] rfl<|ao ?_
 exact cG (SV.bA [bb (totTo L L.length),SV.i 0]) (π:= []) (ae:= []) Tryd.results8 rfl (by trivial) rfl rfl rfl trivial rfl
theorem tz(e:Int):W ⟨Tryd.prog,29,0,GC⟩ Hj (iP ⟨Tryd.prog,29,0,GC⟩ Tryd.f8 (fun r _=>r= .bA [bb ⟨0,0,0,0⟩,SV.i e])) (fg [(2, .ptr 0 0 0),(4, .d .bz),(5,SV.i e)] [some (.cells 39 4 [SV.i 0,SV.i 0,SV.i 0,SV.i 0])]):=by
 show W _ _ _ ⟨dG _,dC _,1⟩
 refine r1<|sT 6 1 1 rfl<|e1 9 rfl<|ab [2,4,5,6] rfl<|ai<|r1<|sT 14 9 1 rfl<|sO 15 17 2 rfl<|sT 16 25 3 rfl<|e1 33 rfl<|ab [2,5,6,14,15,16] rfl<|au ?_
 refine we 1 ?_
 refine Hx ?_
 refine r1<|sO 17 33 1 rfl<|e1 41 rfl<|ab [2,5,6,14,15,16,17] rfl<|ai ?_
 refine q1 rfl (fun b=>?_) (fun b=>?_)
 exact absurd b (by decide)
 try simp only[cs,ne_eq]at b
 refine bI<|tx<|tx<|bx<|tn<|r1<|sO 27 41 1 rfl<|sT 28 49 2 rfl<|cJ 57 3 rfl rfl rfl rfl rfl<|sT 3 65 4 rfl<|e1 73 rfl<|ab [2,3] rfl<|ao ?_
 exact cG (SV.bA [bb ⟨0,0,0,0⟩,SV.i e]) (π:= []) (ae:= []) Tryd.results8 rfl (by trivial) rfl rfl rfl trivial rfl
theorem B8{aK:Value->World->Prop}{v:Aside}{D:∀ b,v.O b≠none->v.X b}(L:List (List Int))(G:∀ l,l∈L->Bytes l)(Rd:aI):lW Tryd.prog GC 8 [pw L] (jU v D (fD Tryd.prog aK Rd .p0)) (fun K r=>r=ld L/\∃ B,K=jU v D B/\Ends aK B):=by
 refine oI Tryd.func8 rfl rfl ?_
 refine x1 ?_
 refine sT 2 0 1 rfl<|sT 3 8 2 rfl<|e1 16 rfl ?_
 refine Hf ?_
 refine eg PZ.up [_] 0 _ (fun j e=>by simp at e;subst e;rfl) ?_
 refine sT 10 16 1 rfl<|e1 72 rfl ?_
 refine xE (Pr:=fun r=>r=eH L) (Q:=fun K'=>∃ J,K'=jU v D J/\Ends aK J) PZ.up rfl rfl rfl rfl Tryd.func20 rfl (fun s hX=>lW.nest (fun s hX=>B3 L G Rd) v D s hX) rfl (rH rfl) rfl ?_
 rintro K' r rfl I
 by_cases k:100<L.length
 ·rw[tu k]
  refine eg PZ.up [_,_,_,_,_] 2 _ (fun j e=>by simp at e;match j,e with |0,_=>rfl|1,_=>rfl|2,_=>rfl|3,_=>rfl|4,_=>rfl) ?_
  refine sT 9 32 3 rfl<|sT 12 40 4 rfl<|sT 13 48 5 rfl<|sT 4 56 6 rfl<|sT 5 64 7 rfl<|e1 72 rfl ?_
  refine fO rfl rfl ?_
  refine vk ?_
  refine iG [0] [(2, .ptr 0 0 0),(4, .d .bz),(5,SV.i 1)] [some (.cells 39 4 [SV.i 0,SV.i 0,SV.i 0,SV.i 0])] ⟨rfl,⟨rfl,rfl,rfl,trivial⟩,⟨rfl,trivial⟩⟩ (lJ (tz 1) ?_)
  rintro π r U rfl
  rw[rI]
  exact⟨kV (oT _) (cn rfl),(xI k).symm,I⟩
 have k:L.length<=100:=by omega
 by_cases E:ej L=0
 ·rw[AG k E]
  refine eg PZ.up [_,_,_,_,_] 2 _ (fun j e=>by simp at e;match j,e with |0,_=>rfl|1,_=>rfl|2,_=>rfl|3,_=>rfl|4,_=>rfl) ?_
  refine sT 9 32 3 rfl<|sT 12 40 4 rfl<|sT 13 48 5 rfl<|sT 4 56 6 rfl<|sT 5 64 7 rfl<|e1 72 rfl ?_
  refine fO rfl rfl ?_
  refine vk ?_
  refine iG [0] [(2, .ptr 0 0 0),(4,mJ L),(5,SV.i 0)] [some (.cells 39 4 [SV.i 0,SV.i 0,SV.i 0,SV.i 0])] ⟨rfl,⟨rfl,rfl,rfl,trivial⟩,⟨rfl,trivial⟩⟩ (lJ (EV L k) ?_)
  rintro π r U rfl
  rw[rI]
  exact⟨kV (oT _) (cn rfl),(B7 k E).symm,I⟩
 ·rw[xF k E]
  refine eg PZ.up [_,_,_,_,_] 2 _ (fun j e=>by simp at e;match j,e with |0,_=>rfl|1,_=>rfl|2,_=>rfl|3,_=>rfl|4,_=>rfl) ?_
  refine sT 9 32 3 rfl<|sT 12 40 4 rfl<|sT 13 48 5 rfl<|sT 4 56 6 rfl<|sT 5 64 7 rfl<|e1 72 rfl ?_
  refine fO rfl rfl ?_
  refine vk ?_
  refine iG [0] [(2, .ptr 0 0 0),(4, .d .bz),(5,SV.i (ej L))] [some (.cells 39 4 [SV.i 0,SV.i 0,SV.i 0,SV.i 0])] ⟨rfl,⟨rfl,rfl,rfl,trivial⟩,⟨rfl,trivial⟩⟩ (lJ (tz (ej L)) ?_)
  rintro π r U rfl
  rw[rI]
  exact⟨kV (oT _) (cn rfl),(zc k E).symm,I⟩
end Go.Proofs.YtifcaekngfgdmaaDoor.Nice.Co
namespace Go.Proofs.YtifcaekngfgdmaaDoor.Nice
open Go Go.Proofs Co
def eO(l:List Int):cP:=aQ l l.length
theorem xJ(l m:List Int):∀ n,n<=l.length->aQ (l++m) n=aQ l n
 |0,_=>rfl
 |n+1,h=>by
  show s8 (aQ (l++m) n) n ((l++m).getD n 0)=s8 (aQ l n) n (l.getD n 0)
  rw[xJ l m n (by omega),show(l++m).getD n 0=l.getD n 0 by simp only[List.getD];rw[List.getElem?_append_left (by omega)]]
theorem rJ(l:List Int)(v:Int):eO (l++ [v])=pt (eO l) v:=by
 unfold eO
 rw[List.length_append,List.length_singleton,oM,xJ l [v] l.length (Nat.le_refl _),show(l++ [v]).getD l.length 0=v by simp[List.getD]]
theorem pY(l:List Int):(eO l).c=l.length:=rf l l.length
theorem zd{A B:cP}(D:0<=A.c)(E:0<=B.c)(v:Int):joined (joined A B) ⟨1,v,v,v⟩=joined A (joined B ⟨1,v,v,v⟩):=by
 obtain⟨e,J,O,U⟩:=A
 obtain⟨b,bl,V,W⟩:=B
 simp only at D E
 by_cases e1:e=0
 ·subst e1;simp[joined]
 ·by_cases k:b=0
  ·subst k;simp[joined,e1]
  ·have G: ¬ e+b=0:=by omega
   have I: ¬ b+1=0:=by omega
   simp only[joined,e1,k,G,I,if_false,show ¬ (1:Int)=0 by decide,cP.mk.injEq]
   refine⟨by omega,?_,?_,by omega⟩
   ·(repeat' split)<;>omega
   ·(repeat' split)<;>omega
theorem B9(a:List Int):∀ b:List Int,eO (a++b)=joined (eO a) (eO b):=by
 intro b
 induction h:b.length generalizing b with
 |zero=>
  obtain rfl:=List.length_eq_zero_iff.1 h
  rw[List.append_nil]
  show _=joined (eO a) ⟨0,0,0,0⟩
  unfold joined
  by_cases e:(eO a).c=0
  ·rw[if_pos e]
   have :a.length=0:=by have :=pY a;omega
   obtain rfl:=List.length_eq_zero_iff.1 this
   rfl
  ·rw[if_neg e,if_pos rfl]
 |succ n ih=>
  obtain⟨c,v,rfl⟩:∃ c v,b=c++ [v]:=by
   have k:b≠ []:=fun e=>by subst e;simp at h
   exact⟨b.dropLast,b.getLast k,(List.dropLast_concat_getLast k).symm⟩
  have B:c.length=n:=by simpa using h
  rw[<-List.append_assoc,rJ,rJ,ih c B]
  exact zd (by rw[pY];omega) (by rw[pY];omega) v
theorem rK{l:List Int}(h:∀ v,v∈l-> -1000<=v/\v<=1000):∀ n,n<=l.length-> -(n*1000)<=(aQ l n).s/\(aQ l n).s<=n*1000/\ -1000<=(aQ l n).lo/\(aQ l n).hi<=1000/\(aQ l n).lo<=(aQ l n).hi
 |0,_=>by simp[aQ]
 |n+1,hn=>by
  have b:=rK h n (by omega)
  have k:=h (l.getD n 0) (by rw[List.getD_eq_getElem?_getD,List.getElem?_eq_getElem (by omega)];exact List.getElem_mem _)
  show _<=(aQ l n).s+l.getD n 0/\(aQ l n).s+l.getD n 0<=_/\ -1000<=(if n=0\/l.getD n 0<(aQ l n).lo then l.getD n 0 else(aQ l n).lo)/\(if n=0\/(aQ l n).hi<l.getD n 0 then l.getD n 0 else(aQ l n).hi)<=1000/\(if n=0\/l.getD n 0<(aQ l n).lo then l.getD n 0 else(aQ l n).lo)<=(if n=0\/(aQ l n).hi<l.getD n 0 then l.getD n 0 else(aQ l n).hi)
  generalize l.getD n 0=v at *
  generalize(aQ l n)=r at *
  by_cases e:n=0
  ·subst e;simp;omega
  ·simp only[e,false_or]
   refine⟨by omega,by omega,?_,?_,?_⟩
   ·split <;>omega
   ·split <;>omega
   ·split <;>split <;>omega
theorem oU{l:List Int}(h:∀ v,v∈l-> -1000<=v/\v<=1000)(hl:l.length<=1000000):J.fA (toJ (eO l))=true:=by
 have b:=rK h l.length (Nat.le_refl _)
 have k:=pY l
 unfold eO at *
 unfold J.fA J.cK toJ
 by_cases e:l.length=0
 ·obtain rfl:=List.length_eq_zero_iff.1 e
  rfl
 ·simp only[Bool.or_eq_true,Bool.and_eq_true,decide_eq_true_eq]
  exact .inr ⟨by omega,by omega,by omega,⟨by omega,by omega⟩,⟨by omega,by omega⟩,by omega,by omega⟩
theorem EW{a b:List Int}(k:∀ v,v∈a-> -1000<=v/\v<=1000)(B:∀ v,v∈b-> -1000<=v/\v<=1000)(hl:(a++b).length<=1000000):xH (eO a) (eO b)=eO (a++b):=by
 have hl':a.length+b.length<=1000000:=by rwa[List.length_append]at hl
 have e:J.joined (toJ (eO a)) (toJ (eO b))=toJ (eO (a++b)):=by
  rw[B9]
  unfold J.joined joined toJ
  simp only
  split
  ·rfl
  ·split <;>rfl
 unfold xH
 rw[J.AH (oU k (by omega)) (oU B (by omega)) (by rw[e];exact oU (fun v D=>(List.mem_append.1 D).elim (k v) (B v)) hl),e]
 rfl
def Small(s:aR):Prop:= -1099511627776<=s.t/\s.t<1099511627776/\ -1000<=s.v/\s.v<=1000
theorem rL{l:List aR}(h:∀ s,s∈l->Small s):∀ v,v∈eh l-> -1000<=v/\v<=1000:=fun v b=>by
 unfold eh at b
 rw[List.mem_map]at b
 obtain⟨s,e,rfl⟩:=b
 exact(h s e).2.2
theorem xK(a b:List aR):eh (a++b)=eh a++eh b:=by simp[eh]
theorem It{c:List aR}(b:aE c=0):rR (bf c)=eO (eh c):=by
 have e:=fS b
 unfold rR
 rw[if_pos e.1,e.2]
 unfold Fl eO
 rw[if_pos b,eM]
theorem EX{ch:List (List aR)}{n:Nat}(h:n<ch.length):(ch.map bf).getD n []=bf (ch.getD n default):=by
 simp only[List.getD];rw[List.getElem?_map,List.getElem?_eq_getElem h];rfl
theorem AJ{x:Ln}(b:eG x)(v:∀ c,c∈x.ch->∀ s,s∈c->Small s):∀ n,n<=x.ch.length->totTo (x.ch.map bf) n=eO (eh (x.ch.take n).flatten)
 |0,_=>rfl
 |n+1,h=>by
  have e:n<x.ch.length:=by omega
  have hm:x.ch.getD n default∈x.ch:=by rw[getD_eq e];exact List.getElem_mem e
  show xH (totTo (x.ch.map bf) n) (rR ((x.ch.map bf).getD n []))=_
  rw[AJ b v n (by omega),EX e,It (b.ne _ hm).2.2,eY e,List.flatten_append,List.flatten_singleton,xK,<-getD_eq e]
  have hl:((x.ch.take n).flatten).length<=8*n:=by
   have :=pU (gs:=x.ch.take n) (k:=8) fun i I=>by
    have B:i<x.ch.length:=by rw[List.length_take]at I;omega
    have :(x.ch.take n).getD i default=x.ch.getD i default:=by simp only[List.getD];rw[List.getElem?_take,if_pos (by rw[List.length_take]at I;omega)]
    rw[this];exact(b.at B).2.1
   rw[List.length_take]at this
   have J:min n x.ch.length<=n:=Nat.min_le_left _ _
   have O:min n x.ch.length*8<=n*8:=Nat.mul_le_mul_right 8 J
   omega
  have U:=(b.ne _ hm).2.1
  have V:=b.c
  refine EW (rL fun s D=>?_) (rL (v _ hm)) (by rw[List.length_append,eM,eM];omega)
  obtain⟨c,E,G⟩:=List.mem_flatten.1 D
  exact v c (List.mem_of_mem_take E) s G
theorem Ca{x:Ln}(e:eG x):ej (x.ch.map bf)=0:=by
 have key:∀ n,n<=x.ch.length->dR (x.ch.map bf) n=0:=by
  intro n
  induction n with
  |zero=>exact fun _=>rfl
  |succ n k=>
   intro h
   have b:n<x.ch.length:=by omega
   have hm:x.ch.getD n default∈x.ch:=by rw[getD_eq b];exact List.getElem_mem b
   refine nR (k (by omega)) ?_
   rw[EX b]
   exact(fS (e.ne _ hm).2.2).1
 unfold ej
 rw[List.length_map]
 exact key _ (Nat.le_refl _)
theorem EY{x:Ln}(b:eG x)(B:∀ c,c∈x.ch->∀ s,s∈c->Small s):
  pF (x.ch.map bf)=0/\pE (x.ch.map bf)=nH ((bJ x.ch []).filter (dK (-1099511627776) 1099511627776)):=by
 have G:=b.c
 have D:=Ca b
 have hl: ¬ 100<(x.ch.map bf).length:=by rw[List.length_map];omega
 unfold pF pE
 rw[if_neg hl,if_neg hl,if_pos D,List.length_map,AJ b B _ (Nat.le_refl _),List.take_length]
 refine⟨D,?_⟩
 have E:(bJ x.ch []).filter (dK (-1099511627776) 1099511627776)=x.ch.flatten:=by
  unfold bJ
  rw[List.append_nil]
  refine List.filter_eq_self.2 fun s e=>?_
  obtain⟨c,k,v⟩:=List.mem_flatten.1 e
  have :=B c k s v
  exact Jd this.1 this.2.1
 rw[E]
 unfold nH eO
 rw[eM]
def cA(a n:Int):Int:=if a.tmod n<0 then a.tmod n+n else a.tmod n
theorem iB(a:Int){n:Int}(h:0<n):0<=cA a n/\cA a n<n:=by
 have b:=Int.tmod_lt_of_pos a h
 have e: -n<a.tmod n:=by
  have :=Int.neg_lt_neg (Int.tmod_lt_of_pos (-a) h)
  rw[Int.neg_tmod]at this;omega
 unfold cA;split <;>omega
structure Wi where
 k:Int
 n:Int
 st:Int
 v:Int
 kp:Int
 deriving Inhabited
def KH(w:Wi):List D:= [.val (.int .i64 w.k), .val (.int .i64 w.n), .val (.int .i64 w.st), .val (.int .i64 w.v), .val (.int .i64 w.kp)]
def J6(l:List Wi):Nat->Nat->D:=fun i c=>(KH (l.getD i default)).getD c .any
def JC(l:List Wi):SV:= .d (.vec 5 l.length (J6 l))
def Cl(i:Int):ByteArray:=if i=0 then⟨#[97]⟩else if i=1 then⟨#[98,50]⟩else⟨#[99,99]⟩
def Jm(t:Int)(w:Wi):Int:=t+(1+cA w.st 9)
def gp(t:Int)(w:Wi):Dd:=
 if cA w.k 16=0 then⟨1,Cl (cA w.n 3),⟨0,0⟩,0,0,0⟩
 else if cA w.k 16=1 then⟨6,Cl (cA w.n 3),⟨0,0⟩,0,0,0⟩
 else if cA w.k 16=2 then⟨5,Cl (cA w.n 3),⟨0,0⟩,0,0,cA w.kp (t+10)⟩
 else if cA w.k 16=3 then⟨3,Cl (cA w.n 3),⟨0,0⟩,cA w.kp (t+1),t,0⟩
 else if cA w.k 16=4 then⟨7,⟨#[]⟩,⟨0,0⟩,0,0,cA w.kp 900⟩
 else⟨2,Cl (cA w.n 3),⟨t,cA w.v 100-50⟩,0,0,0⟩
def tTo(l:List Wi):Nat->Int
 |0=>0
 |n+1=>Jm (tTo l n) (l.getD n default)
def Kp:List Dd:= [⟨1,⟨#[97]⟩,⟨0,0⟩,0,0,0⟩,⟨1,⟨#[98,50]⟩,⟨0,0⟩,0,0,0⟩]
def aL(l:List Wi):Nat->List Dd
 |0=>Kp
 |n+1=>aL l n++ [gp (tTo l (n+1)) (l.getD n default)]
def aC(l:List Wi):List Dd:=aL l (min l.length 80)
theorem vd(l:List Wi):∀ n,0<=tTo l n/\tTo l n<=n*10
 |0=>by simp[tTo]
 |n+1=>by
  have :=vd l n
  have h:=iB (l.getD n default).st (show(0:Int)<9 by decide)
  show 0<=tTo l n+(1+cA _ 9)/\tTo l n+(1+cA _ 9)<=_
  omega
theorem bZ(l:List Wi):∀ n,(aL l n).length=n+2
 |0=>rfl
 |n+1=>by show(aL l n++ [_]).length=_;rw[List.length_append,bZ l n];rfl
theorem mK(ds:List Dd)(d:Dd)(i c:Nat)(b:i<ds.length+1)(e:c<7):dZ (r9 ds) ds.length (iF 7 (Jf d)) i c=r9 (ds++ [d]) i c:=by
 unfold dZ
 by_cases hl:i<ds.length
 ·rw[if_pos hl]
  unfold r9
  congr 2
  simp[List.getD,List.getElem?_append_left hl]
 ·rw[if_neg hl]
  have :i=ds.length:=by omega
  subst this
  unfold r9 iF
  rw[Nat.sub_self,Nat.zero_mul,Nat.zero_add,show(ds++ [d]).getD ds.length default=d by simp[List.getD]]
theorem ek(a n:Int)(e:0<n/\n<=1000):Spec Tryd.prog GF 10 [SV.i a,SV.i n] [] (fun r k=>r=SV.i (cA a n)/\k= []):=by
 refine start 14 0 Tryd.func10 rfl rfl rfl rfl ?_
 refine r1<|sT 4 0 1 rfl<|e1 8 rfl<|ab [0,1] rfl<|r1<|sT 5 8 1 rfl<|sT 6 16 2 rfl<|sO 7 24 3 rfl<|sT 0 32 4 rfl<|e1 40 rfl<|ab [0,1] rfl<|ai<|r1<|sT 8 40 1 rfl<|sO 9 48 2 rfl<|e1 56 rfl ?_
 refine ab [0,1,9] rfl ?_
 refine q1 rfl (fun b=>?_) (fun b=>?_)
 try simp only[cs,ne_eq]at b
 refine r1<|sT 10 56 1 rfl<|sT 11 64 2 rfl ?_
 refine sA 12 72 3 rfl rfl rfl rfl rfl rfl rfl rfl rfl (by have v:=Int.tmod_lt_of_pos a e.1;have B: -n<a.tmod n:=(by have :=Int.neg_lt_neg (Int.tmod_lt_of_pos (-a) e.1);rw[Int.neg_tmod]at this;omega);unfold aj;omega) ?_
 refine sT 4 80 4 rfl<|e1 88 rfl<|ab [4] rfl<|ao<|tr ?_
 exact bm 4 (SV.i (cA a n)) (π:= []) (ae:= []) Tryd.results10 rfl (by unfold cA;first|(rw[if_pos (by assumption)];rfl)|(rw[if_neg (by omega)];rfl)) rfl rfl trivial ⟨rfl,rfl⟩
 try simp only[cs,ne_eq]at b
 refine ak<|tn<|r1<|sT 13 56 1 rfl<|sT 4 64 2 rfl<|e1 72 rfl<|ab [4] rfl<|ao ?_
 exact bm 4 (SV.i (cA a n)) (π:= []) (ae:= []) Tryd.results10 rfl (by unfold cA;first|(rw[if_pos (by assumption)];rfl)|(rw[if_neg (by omega)];rfl)) rfl rfl trivial ⟨rfl,rfl⟩
theorem Cb(n:Int):Spec Tryd.prog GF 9 [SV.i n] [] (fun r b=>r= .d (.val (.string (Cl (cA n 3))))/\b= []):=by
 have e:=iB n (show(0:Int)<3 by decide)
 refine start 8 0 Tryd.func9 rfl rfl rfl rfl ?_
 refine r1<|sT 2 0 1 rfl<|e1 8 rfl<|ab [0] rfl<|r1 ?_
 refine Hu 1 (fun i _=> .val (.string (Cl i))) 3 8 1 rfl rfl rfl rfl rfl rfl rfl rfl rfl (by intro i c k v;obtain rfl:c=0:=(by omega);match i,k with |0,_=>rfl|1,_=>rfl|2,_=>rfl) ?_
 refine sT 4 16 2 rfl ?_
 refine c1 (ek n 3 (by decide)) [] [] 5 24 3 rfl rfl rfl rfl rfl rfl rfl rfl Tryd.func10 rfl rfl rfl rfl trivial rfl rfl ?_
 refine sO 6 32 4 rfl<|sO 7 40 5 rfl ?_
 refine val 7 (.d (.val (.string (Cl (cA n 3))))) rfl (by show SV.d (D.val (Value.string (Cl _)))=_;rw[Int.toNat_of_nonneg e.1]) ?_
 refine sT 2 48 6 rfl<|e1 56 rfl<|ab [2] rfl<|ao ?_
 exact bm 2 (.d (.val (.string (Cl (cA n 3))))) (π:= []) (ae:= []) Tryd.results9 rfl rfl rfl rfl trivial ⟨rfl,rfl⟩
theorem Cc(l:List Wi):Spec Tryd.prog GF 4 [JC l,SV.i 80,SV.b true] [] (fun r ho=>r=uU (aC l)/\ho= []):=by
 refine start 96 0 Tryd.func4 rfl rfl rfl rfl ?_
 refine r1<|sT 6 0 1 rfl<|e1 8 rfl<|ab [0,1,2] rfl<|r1<|sT 13 8 1 rfl<|sT 14 16 2 rfl<|sT 15 24 3 rfl<|sT 7 32 4 rfl<|e1 40 rfl<|ab [0,1,2,7] rfl<|r1<|sT 8 40 1 rfl<|e1 48 rfl<|ab [0,1,2,7,8] rfl<|ai ?_
 refine r1<|sT 9 48 1 rfl<|e1 56 rfl<|ab [0,1,2,7,8,9] rfl<|au ?_
 refine torows 24 2 (r9 (aL l 0)) rfl (by decide) (Nat.le_of_ble_eq_true rfl) (fun i c hi O=>by match i,hi,c,O with |0,_,0,_|0,_,1,_|0,_,2,_|0,_,3,_|0,_,4,_|0,_,5,_|0,_,6,_|1,_,0,_|1,_,1,_|1,_,2,_|1,_,3,_|1,_,4,_|1,_,5,_|1,_,6,_=>rfl) ?_
 refine loop (α:=Nat) 1 (fun i=> [(0,JC l),(1,SV.i 80),(2,SV.b true),(7, .sl 0 0 (aL l (i)).length),(8,SV.i (tTo l (i))),(9,SV.i (i))]) (fun i=> [some (.rows 33 7 (aL l (i)).length (r9 (aL l (i))))]) (fun i=>(i)<=l.length/\(i)<=80) (fun i=>l.length-(i)) (((0):Nat)) [24] (fun _=>rfl) (show(0)<=l.length/\(0)<=80 from⟨Nat.zero_le _,Nat.zero_le _⟩) rfl ⟨rfl,rfl,rfl,rfl,rfl,rfl,trivial⟩ ⟨rfl,trivial⟩ (fun i Y=>?_)
 show W _ _ _ ⟨dG [(0,JC l),(1,SV.i 80),(2,SV.b true),(7, .sl 0 0 (aL l i).length),(8,SV.i (tTo l i)),(9,SV.i i)],dC [some (.rows 33 7 (aL l i).length (r9 (aL l i)))],1⟩
 have Y:i<=l.length/\i<=80:=Y
 obtain⟨aa,ah⟩:=Y
 have hb:=vd l i
 have al:=vd l (i+1)
 have av:=bZ l i
 have ax:=iB (l.getD i default).st (show(0:Int)<9 by decide)
 have hv:=iB (l.getD i default).v (show(0:Int)<100 by decide)
 have a0:tTo l (i+1)=tTo l i+(1+cA (l.getD i default).st 9):=rfl
 refine ai<|r1<|sT 16 1 1 rfl<|sT 17 9 2 rfl<|sO 18 17 3 rfl<|sO 19 25 4 rfl<|sT 20 33 5 rfl ?_
 refine ask 20 rfl (fun J=>?_) (fun J=>?_)
 ·skip
  try simp only[cs,ne_eq]at J
  refine gT 4 true 20 6 rfl rfl<|sT 21 41 6 rfl<|gT 4 true 20 7 rfl rfl<|sT 22 49 7 rfl<|gT 4 true 20 8 rfl rfl<|sO 23 57 8 rfl<|sT 24 65 9 rfl<|e1 73 rfl<|ab [0,1,2,7,8,9,24] rfl ?_
  refine q1 rfl (fun U=>?_) (fun U=>?_)
  ·skip
   try simp only[cs,ne_eq]at U
   refine ak<|tn<|ai<|au<|r1<|sT 27 73 1 rfl<|sT 28 81 2 rfl<|sO 29 89 3 rfl<|sO 30 97 4 rfl<|sT 10 105 5 rfl<|cJ 113 6 rfl rfl rfl rfl rfl<|e1 121 rfl<|ab [0,1,2,7,8,9,10] rfl<|r1<|sT 31 121 1 rfl<|sO 32 129 2 rfl ?_
   refine c1 (Cb (l.getD i default).n) [] [] 33 137 3 rfl rfl rfl rfl rfl rfl rfl rfl Tryd.func9 rfl rfl rfl rfl trivial rfl rfl ?_
   refine sT 34 145 4 rfl<|sT 11 153 5 rfl<|cJ 161 6 rfl rfl rfl rfl rfl<|e1 169 rfl<|ab [0,1,2,7,8,9,10,11] rfl<|r1<|sT 35 169 1 rfl<|sT 36 177 2 rfl<|sO 37 185 3 rfl ?_
   refine c1 (ek (l.getD i default).st 9 (by decide)) [] [] 38 193 4 rfl rfl rfl rfl rfl rfl rfl rfl Tryd.func10 rfl rfl rfl rfl trivial rfl rfl ?_
   refine de 39 201 5 rfl<|de 40 209 6 rfl<|sT 8 217 7 rfl<|e1 225 rfl<|ab [0,1,2,7,8,9,10,11] rfl ?_
   refine cB 8 (SV.i (tTo l (i+1))) rfl rfl ?_
   refine ai<|r1<|sT 41 225 1 rfl<|sO 42 233 2 rfl ?_
   refine c1 (ek (l.getD i default).k 16 (by decide)) [] [] 43 241 3 rfl rfl rfl rfl rfl rfl rfl rfl Tryd.func10 rfl rfl rfl rfl trivial rfl rfl ?_
   refine sT 12 249 4 rfl<|e1 257 rfl<|ab [0,1,2,7,8,9,10,11,12] rfl<|au<|r1<|sT 52 257 1 rfl<|sO 53 265 2 rfl<|sT 51 273 3 rfl<|e1 281 rfl<|ab [0,1,2,7,8,9,10,11,12,51] rfl ?_
   refine q1 rfl (fun e=>?_) (fun e=>?_)
   ·skip
    try simp only[cs,ne_eq]at e
    refine r0 ?_
    refine sT 54 281 1 rfl<|cJ 289 2 rfl rfl rfl rfl rfl<|e1 297 rfl<|bn<|tn ?_
    refine r0 ?_
    refine sT 91 297 1 rfl<|sO 92 305 2 rfl<|sT 93 313 3 rfl ?_
    refine sV 94 321 4 rfl ⟨Nat.le_refl _,trivial,(by show(_+1)*64<=140737488355328;omega),(by simp only[maxLen];omega)⟩ ?_
    refine sT 7 329 5 rfl<|e1 337 rfl<|bn<|tn ?_
    refine bP 321 (aL l (i+1)).length (r9 (aL l (i+1))) rfl (by have :=bZ l (i+1);omega) (fun j c V O=>by rw[show aL l (i+1)=aL l i++ [gp (tTo l (i+1)) (l.getD i default)]from rfl,<-mK _ _ j c V O];unfold gp;first|(cases G;done)|(rw[if_pos e]<;>rfl)|(rw[if_neg e,if_pos B]<;>rfl)|(rw[if_neg e,if_neg B,if_pos E]<;>rfl)|(rw[if_neg e,if_neg B,if_neg E,if_pos I]<;>rfl)|(rw[if_neg e,if_neg B,if_neg E,if_neg I,if_pos (by first|exact D|exact G|omega)]<;>rfl)|(rw[if_neg e,if_neg B,if_neg E,if_neg I,if_neg (by first|exact D|exact G|omega)]<;>rfl)) ?_
    refine cB 7 (.sl 321 0 (aL l (i+1)).length) rfl (by have :=bZ l (i+1);show SV.sl _ 0 _=_;congr 1;omega) ?_
    refine r0 ?_
    refine sT 25 337 1 rfl<|de 26 345 2 rfl<|sT 9 353 3 rfl<|e1 361 rfl<|tn ?_
    exact again ((i+1:Nat)) [321] (show(i+1)<=l.length/\(i+1)<=80 from(by omega)) (show l.length-(i+1)<l.length-i from(by omega)) rfl ⟨rfl,rfl,rfl,rfl,rfl,rfl,trivial⟩ ⟨rfl,trivial⟩
   try simp only[cs,ne_eq]at e
   refine r1<|sT 56 281 1 rfl<|sO 57 289 2 rfl<|sT 55 297 3 rfl<|e1 305 rfl<|ab [0,1,2,7,8,9,10,11,12,55] rfl ?_
   refine q1 rfl (fun B=>?_) (fun B=>?_)
   ·skip
    try simp only[cs,ne_eq]at B
    refine r0 ?_
    refine sT 58 305 1 rfl<|cJ 313 2 rfl rfl rfl rfl rfl<|e1 321 rfl<|bn<|tn ?_
    refine r0 ?_
    refine sT 91 321 1 rfl<|sO 92 329 2 rfl<|sT 93 337 3 rfl ?_
    refine sV 94 345 4 rfl ⟨Nat.le_refl _,trivial,(by show(_+1)*64<=140737488355328;omega),(by simp only[maxLen];omega)⟩ ?_
    refine sT 7 353 5 rfl<|e1 361 rfl<|bn<|tn ?_
    refine bP 345 (aL l (i+1)).length (r9 (aL l (i+1))) rfl (by have :=bZ l (i+1);omega) (fun j c V O=>by rw[show aL l (i+1)=aL l i++ [gp (tTo l (i+1)) (l.getD i default)]from rfl,<-mK _ _ j c V O];unfold gp;first|(cases G;done)|(rw[if_pos e]<;>rfl)|(rw[if_neg e,if_pos B]<;>rfl)|(rw[if_neg e,if_neg B,if_pos E]<;>rfl)|(rw[if_neg e,if_neg B,if_neg E,if_pos I]<;>rfl)|(rw[if_neg e,if_neg B,if_neg E,if_neg I,if_pos (by first|exact D|exact G|omega)]<;>rfl)|(rw[if_neg e,if_neg B,if_neg E,if_neg I,if_neg (by first|exact D|exact G|omega)]<;>rfl)) ?_
    refine cB 7 (.sl 345 0 (aL l (i+1)).length) rfl (by have :=bZ l (i+1);show SV.sl _ 0 _=_;congr 1;omega) ?_
    refine r0 ?_
    refine sT 25 361 1 rfl<|de 26 369 2 rfl<|sT 9 377 3 rfl<|e1 385 rfl<|tn ?_
    exact again ((i+1:Nat)) [345] (show(i+1)<=l.length/\(i+1)<=80 from(by omega)) (show l.length-(i+1)<l.length-i from(by omega)) rfl ⟨rfl,rfl,rfl,rfl,rfl,rfl,trivial⟩ ⟨rfl,trivial⟩
   try simp only[cs,ne_eq]at B
   refine r1<|sT 60 305 1 rfl<|sO 61 313 2 rfl<|sT 59 321 3 rfl<|e1 329 rfl<|ab [0,1,2,7,8,9,10,11,12,59] rfl ?_
   refine q1 rfl (fun E=>?_) (fun E=>?_)
   ·skip
    try simp only[cs,ne_eq]at E
    refine r1<|sT 62 329 1 rfl<|cJ 337 2 rfl rfl rfl rfl rfl<|e1 345 rfl<|ab [0,1,2,7,8,9,10,11] rfl ?_
    refine r0 ?_
    refine sT 63 345 1 rfl<|sO 64 353 2 rfl<|sT 65 361 3 rfl<|de 66 369 4 rfl ?_
    refine c1 (ek (l.getD i default).kp ((tTo l (i+1))+10) (by omega)) [] [] 67 377 5 rfl rfl rfl rfl rfl rfl rfl rfl Tryd.func10 rfl rfl rfl rfl trivial rfl rfl ?_
    refine sT 68 385 6 rfl<|cJ 393 7 rfl rfl rfl rfl rfl<|e1 401 rfl<|bn<|tn ?_
    refine r0 ?_
    refine sT 91 401 1 rfl<|sO 92 409 2 rfl<|sT 93 417 3 rfl ?_
    refine sV 94 425 4 rfl ⟨Nat.le_refl _,trivial,(by show(_+1)*64<=140737488355328;omega),(by simp only[maxLen];omega)⟩ ?_
    refine sT 7 433 5 rfl<|e1 441 rfl<|bn<|tn ?_
    refine bP 425 (aL l (i+1)).length (r9 (aL l (i+1))) rfl (by have :=bZ l (i+1);omega) (fun j c V O=>by rw[show aL l (i+1)=aL l i++ [gp (tTo l (i+1)) (l.getD i default)]from rfl,<-mK _ _ j c V O];unfold gp;first|(cases G;done)|(rw[if_pos e]<;>rfl)|(rw[if_neg e,if_pos B]<;>rfl)|(rw[if_neg e,if_neg B,if_pos E]<;>rfl)|(rw[if_neg e,if_neg B,if_neg E,if_pos I]<;>rfl)|(rw[if_neg e,if_neg B,if_neg E,if_neg I,if_pos (by first|exact D|exact G|omega)]<;>rfl)|(rw[if_neg e,if_neg B,if_neg E,if_neg I,if_neg (by first|exact D|exact G|omega)]<;>rfl)) ?_
    refine cB 7 (.sl 425 0 (aL l (i+1)).length) rfl (by have :=bZ l (i+1);show SV.sl _ 0 _=_;congr 1;omega) ?_
    refine r0 ?_
    refine sT 25 441 1 rfl<|de 26 449 2 rfl<|sT 9 457 3 rfl<|e1 465 rfl<|tn ?_
    exact again ((i+1:Nat)) [425] (show(i+1)<=l.length/\(i+1)<=80 from(by omega)) (show l.length-(i+1)<l.length-i from(by omega)) rfl ⟨rfl,rfl,rfl,rfl,rfl,rfl,trivial⟩ ⟨rfl,trivial⟩
   try simp only[cs,ne_eq]at E
   refine r1<|sT 70 329 1 rfl<|sO 71 337 2 rfl<|sT 69 345 3 rfl<|e1 353 rfl<|ab [0,1,2,7,8,9,10,11,12,69] rfl ?_
   refine q1 rfl (fun I=>?_) (fun I=>?_)
   ·skip
    try simp only[cs,ne_eq]at I
    refine r1<|sT 72 353 1 rfl<|cJ 361 2 rfl rfl rfl rfl rfl<|e1 369 rfl<|ab [0,1,2,7,8,9,10,11] rfl<|r1<|sT 73 369 1 rfl<|sO 74 377 2 rfl<|sT 75 385 3 rfl<|de 76 393 4 rfl ?_
    refine c1 (ek (l.getD i default).kp ((tTo l (i+1))+1) (by omega)) [] [] 77 401 5 rfl rfl rfl rfl rfl rfl rfl rfl Tryd.func10 rfl rfl rfl rfl trivial rfl rfl ?_
    refine sT 78 409 6 rfl<|cJ 417 7 rfl rfl rfl rfl rfl<|e1 425 rfl<|ab [0,1,2,7,8,9,11] rfl ?_
    refine r0 ?_
    refine sT 79 425 1 rfl<|sT 80 433 2 rfl<|cJ 441 3 rfl rfl rfl rfl rfl<|e1 449 rfl<|bn<|tn ?_
    refine r0 ?_
    refine sT 91 449 1 rfl<|sO 92 457 2 rfl<|sT 93 465 3 rfl ?_
    refine sV 94 473 4 rfl ⟨Nat.le_refl _,trivial,(by show(_+1)*64<=140737488355328;omega),(by simp only[maxLen];omega)⟩ ?_
    refine sT 7 481 5 rfl<|e1 489 rfl<|bn<|tn ?_
    refine bP 473 (aL l (i+1)).length (r9 (aL l (i+1))) rfl (by have :=bZ l (i+1);omega) (fun j c V O=>by rw[show aL l (i+1)=aL l i++ [gp (tTo l (i+1)) (l.getD i default)]from rfl,<-mK _ _ j c V O];unfold gp;first|(cases G;done)|(rw[if_pos e]<;>rfl)|(rw[if_neg e,if_pos B]<;>rfl)|(rw[if_neg e,if_neg B,if_pos E]<;>rfl)|(rw[if_neg e,if_neg B,if_neg E,if_pos I]<;>rfl)|(rw[if_neg e,if_neg B,if_neg E,if_neg I,if_pos (by first|exact D|exact G|omega)]<;>rfl)|(rw[if_neg e,if_neg B,if_neg E,if_neg I,if_neg (by first|exact D|exact G|omega)]<;>rfl)) ?_
    refine cB 7 (.sl 473 0 (aL l (i+1)).length) rfl (by have :=bZ l (i+1);show SV.sl _ 0 _=_;congr 1;omega) ?_
    refine r0 ?_
    refine sT 25 489 1 rfl<|de 26 497 2 rfl<|sT 9 505 3 rfl<|e1 513 rfl<|tn ?_
    exact again ((i+1:Nat)) [473] (show(i+1)<=l.length/\(i+1)<=80 from(by omega)) (show l.length-(i+1)<l.length-i from(by omega)) rfl ⟨rfl,rfl,rfl,rfl,rfl,rfl,trivial⟩ ⟨rfl,trivial⟩
   try simp only[cs,ne_eq]at I
   refine r1<|sT 82 353 1 rfl<|sO 83 361 2 rfl<|sT 84 369 3 rfl ?_
   refine ask 84 rfl (fun D=>?_) (fun D=>?_)
   ·skip
    try simp only[cs,ne_eq]at D
    refine gT 2 true 84 4 rfl rfl<|sT 85 377 4 rfl<|sT 86 385 5 rfl<|sT 81 393 6 rfl<|e1 401 rfl<|ab [0,1,2,7,8,9,10,11,81] rfl ?_
    refine q1 rfl (fun G=>?_) (fun G=>?_)
    ·skip
     try simp only[cs,ne_eq]at G
     refine r0 ?_
     refine sT 87 401 1 rfl<|sO 88 409 2 rfl ?_
     refine c1 (ek (l.getD i default).kp 900 (by decide)) [] [] 89 417 3 rfl rfl rfl rfl rfl rfl rfl rfl Tryd.func10 rfl rfl rfl rfl trivial rfl rfl ?_
     refine sT 90 425 4 rfl<|cJ 433 5 rfl rfl rfl rfl rfl<|e1 441 rfl<|bn<|tn ?_
     refine r0 ?_
     refine sT 91 441 1 rfl<|sO 92 449 2 rfl<|sT 93 457 3 rfl ?_
     refine sV 94 465 4 rfl ⟨Nat.le_refl _,trivial,(by show(_+1)*64<=140737488355328;omega),(by simp only[maxLen];omega)⟩ ?_
     refine sT 7 473 5 rfl<|e1 481 rfl<|bn<|tn ?_
     refine bP 465 (aL l (i+1)).length (r9 (aL l (i+1))) rfl (by have :=bZ l (i+1);omega) (fun j c V O=>by rw[show aL l (i+1)=aL l i++ [gp (tTo l (i+1)) (l.getD i default)]from rfl,<-mK _ _ j c V O];unfold gp;first|(cases G;done)|(rw[if_pos e]<;>rfl)|(rw[if_neg e,if_pos B]<;>rfl)|(rw[if_neg e,if_neg B,if_pos E]<;>rfl)|(rw[if_neg e,if_neg B,if_neg E,if_pos I]<;>rfl)|(rw[if_neg e,if_neg B,if_neg E,if_neg I,if_pos (by first|exact D|exact G|omega)]<;>rfl)|(rw[if_neg e,if_neg B,if_neg E,if_neg I,if_neg (by first|exact D|exact G|omega)]<;>rfl)) ?_
     refine cB 7 (.sl 465 0 (aL l (i+1)).length) rfl (by have :=bZ l (i+1);show SV.sl _ 0 _=_;congr 1;omega) ?_
     refine r0 ?_
     refine sT 25 481 1 rfl<|de 26 489 2 rfl<|sT 9 497 3 rfl<|e1 505 rfl<|tn ?_
     exact again ((i+1:Nat)) [465] (show(i+1)<=l.length/\(i+1)<=80 from(by omega)) (show l.length-(i+1)<l.length-i from(by omega)) rfl ⟨rfl,rfl,rfl,rfl,rfl,rfl,trivial⟩ ⟨rfl,trivial⟩
    try simp only[cs,ne_eq]at G
    refine r0 ?_
    refine sT 44 401 1 rfl<|sT 45 409 2 rfl<|sO 46 417 3 rfl ?_
    refine c1 (ek (l.getD i default).v 100 (by decide)) [] [] 47 425 4 rfl rfl rfl rfl rfl rfl rfl rfl Tryd.func10 rfl rfl rfl rfl trivial rfl rfl ?_
    refine de 48 433 5 rfl<|sT 49 441 6 rfl<|sT 50 449 7 rfl<|cJ 457 8 rfl rfl rfl rfl rfl<|e1 465 rfl<|bn<|tn ?_
    refine r0 ?_
    refine sT 91 465 1 rfl<|sO 92 473 2 rfl<|sT 93 481 3 rfl ?_
    refine sV 94 489 4 rfl ⟨Nat.le_refl _,trivial,(by show(_+1)*64<=140737488355328;omega),(by simp only[maxLen];omega)⟩ ?_
    refine sT 7 497 5 rfl<|e1 505 rfl<|bn<|tn ?_
    refine bP 489 (aL l (i+1)).length (r9 (aL l (i+1))) rfl (by have :=bZ l (i+1);omega) (fun j c V O=>by rw[show aL l (i+1)=aL l i++ [gp (tTo l (i+1)) (l.getD i default)]from rfl,<-mK _ _ j c V O];unfold gp;first|(cases G;done)|(rw[if_pos e]<;>rfl)|(rw[if_neg e,if_pos B]<;>rfl)|(rw[if_neg e,if_neg B,if_pos E]<;>rfl)|(rw[if_neg e,if_neg B,if_neg E,if_pos I]<;>rfl)|(rw[if_neg e,if_neg B,if_neg E,if_neg I,if_pos (by first|exact D|exact G|omega)]<;>rfl)|(rw[if_neg e,if_neg B,if_neg E,if_neg I,if_neg (by first|exact D|exact G|omega)]<;>rfl)) ?_
    refine cB 7 (.sl 489 0 (aL l (i+1)).length) rfl (by have :=bZ l (i+1);show SV.sl _ 0 _=_;congr 1;omega) ?_
    refine r0 ?_
    refine sT 25 505 1 rfl<|de 26 513 2 rfl<|sT 9 521 3 rfl<|e1 529 rfl<|tn ?_
    exact again ((i+1:Nat)) [489] (show(i+1)<=l.length/\(i+1)<=80 from(by omega)) (show l.length-(i+1)<l.length-i from(by omega)) rfl ⟨rfl,rfl,rfl,rfl,rfl,rfl,trivial⟩ ⟨rfl,trivial⟩
   try simp only[cs,ne_eq]at D
   refine gF 2 true 84 85 4 rfl rfl<|sT 86 385 5 rfl<|sT 81 393 6 rfl<|e1 401 rfl<|ab [0,1,2,7,8,9,10,11,81] rfl ?_
   refine q1 rfl (fun G=>?_) (fun G=>?_)
   exact absurd G (by decide)
   try simp only[cs,ne_eq]at G
   refine r0 ?_
   refine sT 44 401 1 rfl<|sT 45 409 2 rfl<|sO 46 417 3 rfl ?_
   refine c1 (ek (l.getD i default).v 100 (by decide)) [] [] 47 425 4 rfl rfl rfl rfl rfl rfl rfl rfl Tryd.func10 rfl rfl rfl rfl trivial rfl rfl ?_
   refine de 48 433 5 rfl<|sT 49 441 6 rfl<|sT 50 449 7 rfl<|cJ 457 8 rfl rfl rfl rfl rfl<|e1 465 rfl<|bn<|tn ?_
   refine r0 ?_
   refine sT 91 465 1 rfl<|sO 92 473 2 rfl<|sT 93 481 3 rfl ?_
   refine sV 94 489 4 rfl ⟨Nat.le_refl _,trivial,(by show(_+1)*64<=140737488355328;omega),(by simp only[maxLen];omega)⟩ ?_
   refine sT 7 497 5 rfl<|e1 505 rfl<|bn<|tn ?_
   refine bP 489 (aL l (i+1)).length (r9 (aL l (i+1))) rfl (by have :=bZ l (i+1);omega) (fun j c V O=>by rw[show aL l (i+1)=aL l i++ [gp (tTo l (i+1)) (l.getD i default)]from rfl,<-mK _ _ j c V O];unfold gp;first|(cases G;done)|(rw[if_pos e]<;>rfl)|(rw[if_neg e,if_pos B]<;>rfl)|(rw[if_neg e,if_neg B,if_pos E]<;>rfl)|(rw[if_neg e,if_neg B,if_neg E,if_pos I]<;>rfl)|(rw[if_neg e,if_neg B,if_neg E,if_neg I,if_pos (by first|exact D|exact G|omega)]<;>rfl)|(rw[if_neg e,if_neg B,if_neg E,if_neg I,if_neg (by first|exact D|exact G|omega)]<;>rfl)) ?_
   refine cB 7 (.sl 489 0 (aL l (i+1)).length) rfl (by have :=bZ l (i+1);show SV.sl _ 0 _=_;congr 1;omega) ?_
   refine r0 ?_
   refine sT 25 505 1 rfl<|de 26 513 2 rfl<|sT 9 521 3 rfl<|e1 529 rfl<|tn ?_
   exact again ((i+1:Nat)) [489] (show(i+1)<=l.length/\(i+1)<=80 from(by omega)) (show l.length-(i+1)<l.length-i from(by omega)) rfl ⟨rfl,rfl,rfl,rfl,rfl,rfl,trivial⟩ ⟨rfl,trivial⟩
  try simp only[cs,ne_eq]at U
  refine bI<|tx<|tx<|bx<|tn ?_
  have X:aL l i=aC l:=(by unfold aC;congr 1;omega)
  refine freeze 7 0 (aL l i).length rfl rfl (Nat.le_refl _) ?_
  refine cB 7 (uU (aC l)) rfl (by rw[<-X];rfl) ?_
  refine r1<|sT 95 73 1 rfl<|sT 6 81 2 rfl<|e1 89 rfl<|ab [6] rfl<|ao ?_
  exact bm 6 (uU (aC l)) (π:= []) (ae:= []) Tryd.results4 rfl rfl rfl rfl trivial ⟨rfl,rfl⟩
 try simp only[cs,ne_eq]at J
 refine gF 4 true 20 21 6 rfl rfl<|gF 4 true 20 22 7 rfl rfl<|gF 4 true 20 23 8 rfl rfl<|sT 24 65 9 rfl<|e1 73 rfl<|ab [0,1,2,7,8,9,24] rfl ?_
 refine q1 rfl (fun U=>?_) (fun U=>?_)
 exact absurd U (by decide)
 try simp only[cs,ne_eq]at U
 refine bI<|tx<|tx<|bx<|tn ?_
 have X:aL l i=aC l:=(by unfold aC;congr 1;omega)
 refine freeze 7 0 (aL l i).length rfl rfl (Nat.le_refl _) ?_
 refine cB 7 (uU (aC l)) rfl (by rw[<-X];rfl) ?_
 refine r1<|sT 95 73 1 rfl<|sT 6 81 2 rfl<|e1 89 rfl<|ab [6] rfl<|ao ?_
 exact bm 6 (uU (aC l)) (π:= []) (ae:= []) Tryd.results4 rfl rfl rfl rfl trivial ⟨rfl,rfl⟩
def J7(d:Dd):Prop:=mF d/\(d.k=2->Small d.s)
theorem EZ(i:Int):(Cl i).size<=9223372036854775807:=by
 unfold Cl;split
 ·decide
 ·split <;>decide
theorem E0{t:Int}(U:0<=t)(V:t<=800)(w:Wi):J7 (gp t w):=by
 have W:=iB w.kp (show(0:Int)<t+10 by omega)
 have J:=iB w.kp (show(0:Int)<t+1 by omega)
 have O:=iB w.kp (show(0:Int)<900 by decide)
 have X:=iB w.v (show(0:Int)<100 by decide)
 have z:aj 0:=by unfold aj;omega
 have B:=EZ (cA w.n 3)
 have b:∀ {x:Int},(-9223372036854775808<=x/\x<=9223372036854775807)->aj x:=fun h=>h
 have no:∀ {x:Int} {p:Prop},¬ x=2->x=2->p:=fun h e=>absurd e h
 unfold gp
 by_cases D:cA w.k 16=0
 ·rw[if_pos D];exact⟨⟨(b ⟨by show _<=(_:Int);simp only;omega,by simp only;omega⟩),B,⟨z,z⟩,z,z,z⟩,no (by simp only;omega)⟩
 rw[if_neg D]
 by_cases e1:cA w.k 16=1
 ·rw[if_pos e1];exact⟨⟨(b ⟨by show _<=(_:Int);simp only;omega,by simp only;omega⟩),B,⟨z,z⟩,z,z,z⟩,no (by simp only;omega)⟩
 rw[if_neg e1]
 by_cases E:cA w.k 16=2
 ·rw[if_pos E];exact⟨⟨(b ⟨by show _<=(_:Int);simp only;omega,by simp only;omega⟩),B,⟨z,z⟩,z,z,by unfold aj;show _/\_;simp only;omega⟩,no (by simp only;omega)⟩
 rw[if_neg E]
 by_cases G:cA w.k 16=3
 ·rw[if_pos G];exact⟨⟨(b ⟨by show _<=(_:Int);simp only;omega,by simp only;omega⟩),B,⟨z,z⟩,by unfold aj;simp only;omega,by unfold aj;simp only;omega,z⟩,no (by simp only;omega)⟩
 rw[if_neg G]
 by_cases I:cA w.k 16=4
 ·rw[if_pos I];exact⟨⟨(b ⟨by show _<=(_:Int);simp only;omega,by simp only;omega⟩),(by show(0:Nat)<=_;decide),⟨z,z⟩,z,z,by unfold aj;simp only;omega⟩,no (by simp only;omega)⟩
 rw[if_neg I]
 exact⟨⟨(b ⟨by show _<=(_:Int);simp only;omega,by simp only;omega⟩),B,⟨by unfold aj;simp only;omega,by unfold aj;simp only;omega⟩,z,z,z⟩,fun _=>by unfold Small;simp only;omega⟩
theorem xM(l:List Wi):∀ n,n<=80->∀ d,d∈aL l n->J7 d
 |0,_,d,hd=>by
  have z:aj 0:=by unfold aj;omega
  rcases List.mem_cons.1 hd with rfl|hd
  ·exact⟨⟨by unfold aj;decide,by decide,⟨z,z⟩,z,z,z⟩,fun h=>absurd h (by decide)⟩
  ·rcases List.mem_cons.1 hd with rfl|hd
   ·exact⟨⟨by unfold aj;decide,by decide,⟨z,z⟩,z,z,z⟩,fun h=>absurd h (by decide)⟩
   ·cases hd
 |n+1,b,d,hd=>by
  rcases List.mem_append.1 hd with hd|hd
  ·exact xM l n (by omega) d hd
  ·have :=vd l (n+1)
   simp only[List.mem_singleton]at hd
   subst hd
   exact E0 (by omega) (by omega) _
theorem ic(l:List Wi):∀ i,i<(aC l).length->J7 ((aC l).getD i default):=fun i b=>by
 refine xM l (min l.length 80) (Nat.min_le_right _ _) _ ?_
 show(aC l).getD i default∈aC l
 rw[List.getD_eq_getElem?_getD,List.getElem?_eq_getElem b];exact List.getElem_mem b
theorem px(l:List Wi):(aC l).length<=82:=by
 unfold aC;rw[bZ]
 have :min l.length 80<=80:=Nat.min_le_right _ _
 omega
structure E1 (R:List (List Int)):Prop where
 n:R.length<=200
 b:∀ i,i<R.length->Bytes (R.getD i [])/\(R.getD i []).length<=4000
 ch:∀ i,i<=R.length->(aw R i).2.length<=30/\∀ b,b∈(aw R i).2->Bytes b/\b.length<=4000/\bT b=0/\0<(cO b).length/\(cO b).length<=120
theorem Iu{L:List Ln}(h:EA L):(xy L).2.length<=30/\∀ b,b∈(xy L).2->Bytes b/\b.length<=4000/\bT b=0/\0<(cO b).length/\(cO b).length<=120:=by
 unfold xy
 cases B:bj nA L with
 |none=>exact⟨by simp,fun b e=>by cases e⟩
 |some j=>
  obtain⟨x,k,_⟩:=fe B
  have hm:=h.ln x (List.mem_of_getElem? k)
  show(((L.getD j default).ch).map bf).length<=30/\_
  rw[show L.getD j default=x by simp[List.getD,k]]
  refine⟨by rw[List.length_map];exact hm.c,fun b e=>?_⟩
  have e:b∈((L.getD j default).ch).map bf:=e
  rw[show L.getD j default=x by simp[List.getD,k]]at e
  obtain⟨c,D,rfl⟩:=List.mem_map.1 e
  obtain⟨E,I,G⟩:=hm.ne c D
  have v:=fS G
  have hl:=kO c
  exact⟨jP _ (by omega),by omega,v.1,by rw[v.2];exact E,by rw[v.2];omega⟩
theorem GL{E:List Ev}(h:Good E):E1 (E.map aY):=by
 refine⟨by rw[List.length_map];exact h.n,fun i b=>?_,fun i b=>?_⟩
 ·rw[List.length_map]at b
  have e:(E.map aY).getD i []=aY (E.getD i default):=by
   simp only[List.getD];rw[List.getElem?_map,List.getElem?_eq_getElem b];rfl
  rw[e];exact jR (h.ev b).2.2
 ·rw[List.length_map]at b
  rw[uY h i b];exact Iu (h.l i b)
structure Jn (ds:List Dd) (E:List Ev) (f2:Fd):Prop where
 k:Good E
 KI:(aw (E.map aY) E.length).1=false/\f2.code=6\/(aw (E.map aY) E.length).1=true/\f2.code=0/\pF (aw (E.map aY) E.length).2=0/\pE (aw (E.map aY) E.length).2=f2.ro
theorem Iv(l:List Wi):∃ v e,rF (aC l++ [eN,ij]) ((aC l).length+2)=rF (aC l) (aC l).length++ [v,e]/\nN (aC l++ [eN,ij]) ((aC l).length+2)=nN (aC l) (aC l).length/\Jn (aC l) (nN (aC l) (aC l).length) e:=by
 have hd:∀ i,i<(aC l).length->mF ((aC l).getD i default):=fun i B=>(ic l i B).1
 have I:∀ i,i<(aC l).length->((aC l).getD i default).k=2->Small ((aC l).getD i default).s:=fun i B=>(ic l i B).2
 obtain⟨J,v,e,O,U⟩:=BV hd
 have D:=uW hd (Nat.le_refl _)
 have V:=Ay I _ (Nat.le_refl _)
 refine⟨v,e,O,J,D.g,?_⟩
 have G:=uY D.g _ (Nat.le_refl _)
 rw[List.take_length]at G
 rw[G]
 rcases U with⟨a,b⟩|⟨j,x,a,b,c⟩
 ·exact .inl ⟨by rw[nQ a],by rw[b];rfl⟩
 ·have W:EA (aH (nN (aC l) (aC l).length)):=by
   have :=D.g.l _ (Nat.le_refl _)
   rwa[List.take_length]at this
  have X:=W.ln x (List.mem_of_getElem? b)
  obtain⟨Y,t2⟩:=EY X (fun c hc s E=>th V.ev x (List.mem_of_getElem? b) c hc s E)
  rw[oR a b,c]
  exact .inr ⟨rfl,rfl,Y,t2⟩
end Go.Proofs.YtifcaekngfgdmaaDoor.Nice
namespace Go.Proofs.YtifcaekngfgdmaaDoor.Nice
open Go Go.Conc Co
theorem xL{C:Ctx}{aK:Value->World->Prop}{Rd:aI}{a rest:Code}{Q:QX C.P}{σ:St}
  (h:W C a (il (fun aF=>WX C rest Q (fD C.P aK Rd .p0) [] aF) (fun e aF=>Q e (fD C.P aK Rd .p0) [] aF)) σ):WX C (.seq a rest) Q (fD C.P aK Rd .p0) [] σ:=by
 refine hY (F6 (Gb h) ?_)
 rintro e K ds aF ⟨rfl,rfl,h⟩
 cases e<;>exact h
theorem ze{C:Ctx}{o:Oper}{nm:Nat}{v:Operand->SV}{bs:List (Nat×aB)}{e k len L:Nat}{f:Nat->Nat->D}(G:bV C o nm v bs (fun x w=>x= .sl nm 0 len/\w= [(nm,some (.rows e k L f))]))(hl:len<=L):bV C o nm v bs (fun x w=>x= .d (.vec k len f)/\w= []):=by
 intro M F ρ a h w X Y V I E K Q hK
 refine G M F ρ a h w X Y V I E K Q ?_
 rintro M' aq u wr u' w' hM J hn ⟨rfl,rfl⟩ O U hS
 have B:h nm=none:=by
  cases e:h nm with
  |none=>rfl
  |some b=>
   obtain⟨x,W,_⟩:=V.live nm b e
   rw[E nm (Nat.le_refl _) (by omega)]at W;cases W
 obtain⟨M2,g1,g2,g3⟩:=HR.still U (n:=nm) (len:=len) (show upd h nm _ nm=_ from upd_same _ _ _) hl O
 refine hK M2 aq _ [] u' w' (aD.le_trans hM g1) J hn ⟨rfl,rfl⟩ g3 ?_ hS
 have :upd (dB h [(nm,some (aB.rows e k L f))]) nm none=dB h []:=by
  funext m
  simp only[dB,az]
  split
  ·next e=>subst e;exact B.symm
  ·rfl
 rw[<-this];exact g2
section
variable {C:Ctx} {ops:List Oper} {i:Nat} {o:Oper} {l:List Oper} {t:Nat->SV} {h h':ar} {nx:Nat} {K:St->Prop} {vc:Prop} {bs:List (Nat×aB)}
theorem Kq{e k len L:Nat}{f:Nat->Nat->D}(d nm E:Nat)(G:i+1=E)(v:nx+8*i=nm)(I:o.guard=none)(b:o.dst=some d)(hd:Nat.blt d C.sz=true)(J:gH C nm o (bE C t) h=some (vc,bs, .sl nm 0 len,[(nm,some (.rows e k L f))],h'))(B:vc)(hl:len<=L)
  (O:an C ops E l ⟨upd t d (.d (.vec k len f)),h,nx⟩ none K):an C ops i (o::l) ⟨t,h,nx⟩ none K:=by
 subst G;subst v
 obtain⟨e1,W⟩:=dM J
 obtain⟨U,V,X⟩:=qn e1 B
 refine cp (σ:=⟨t,h,nx⟩) (wr:= []) I (by unfold aM;rw[b];exact hd) (ze U hl) V rfl ?_
 unfold St.app;rw[b];exact O
end
end Go.Proofs.YtifcaekngfgdmaaDoor.Nice
namespace Go.Proofs.YtifcaekngfgdmaaDoor.Nice
open Go Go.Proofs Co
theorem rec_1{R:List (List Int)}{n:Nat}(h:nP (R.getD n [])):aw R (n+1)=(true,(aw R n).2):=by
 show mI _ _=_
 unfold mI;rw[if_pos h]
theorem rec_2{R:List (List Int)}{n:Nat}(h:nT (R.getD n [])):aw R (n+1)=((aw R n).1,(aw R n).2++ [(R.getD n []).drop 3]):=by
 show mI _ _=_
 have b: ¬ nP (R.getD n []):=fun x=>by unfold nP at x;unfold nT at h;omega
 unfold mI;rw[if_neg b,if_pos h]
theorem rec_3{R:List (List Int)}{n:Nat}(h:oQ (R.getD n [])):aw R (n+1)=((aw R n).1,(aw R n).2.filter (jm (BW (R.getD n [])))):=by
 show mI _ _=_
 have b: ¬ nP (R.getD n []):=fun x=>by unfold nP at x;unfold oQ at h;omega
 have e: ¬ nT (R.getD n []):=fun x=>by unfold nT at x;unfold oQ at h;omega
 unfold mI;rw[if_neg b,if_neg e,if_pos h]
theorem Jo{R:List (List Int)}{n:Nat}(b: ¬ nP (R.getD n []))(e: ¬ nT (R.getD n []))(k: ¬ oQ (R.getD n [])):aw R (n+1)=aw R n:=by
 show mI _ _=_
 unfold mI;rw[if_neg b,if_neg e,if_neg k]
theorem Cd(r:List Int)(k:Nat):(r.drop 3).getD k 0=r.getD (k+3) 0:=by
 simp only[List.getD];rw[List.getElem?_drop,Nat.add_comm]
theorem Ce(r:List Int)(k:Nat)(h:k+3<r.length):dS ((r.drop 3).take (k+1))=dS ((r.drop 3).take k)*256+r.getD (k+3) 0:=by
 have b:k<(r.drop 3).length:=by rw[List.length_drop];omega
 rw[List.take_succ_eq_append_getElem b,sK,<-Cd]
 congr 1
 simp only[List.getD]
 rw[List.getElem?_eq_getElem b];rfl
theorem E3(r:List Int)(h:r.length=11):(r.drop 3).take 8=r.drop 3:=List.take_of_length_le (by rw[List.length_drop];omega)
theorem tA(p:List Int->Bool)(C:List (List Int))(k:Nat)(h:k<C.length):(C.take (k+1)).filter p=if p (C.getD k [])then(C.take k).filter p++ [C.getD k []]else(C.take k).filter p:=by
 have e:C.getD k []=C[k]:=by simp[List.getD,h]
 rw[List.take_succ_eq_append_getElem h,List.filter_append,e]
 cases b:p C[k]<;>simp[List.filter,b]
end Go.Proofs.YtifcaekngfgdmaaDoor.Nice
namespace Go.Proofs.YtifcaekngfgdmaaDoor.Nice.Co
open Go
noncomputable def Jp:Code:=match Tryd.f3.body.getD .skip with | .seq _ (.seq _ (.seq _ (.seq _ (.seq _ (.seq _ (.seq _ (.seq _ (.seq _ (.seq _ (.seq _ c))))))))))=>c|_=> .skip
noncomputable def E4:Code:=match Tryd.f3.body.getD .skip with | .seq _ (.seq _ (.seq _ (.seq _ (.seq _ (.seq _ (.seq _ (.seq _ (.seq _ (.seq _ (.seq _ (.seq _ c)))))))))))=>c|_=> .skip
theorem GM(v:Fd)(r:cP)(e:Int)(B:v.code=6):W ⟨Tryd.prog,241,0,GC⟩ E4 (iP ⟨Tryd.prog,241,0,GC⟩ Tryd.f3 (fun r _=>r=SV.b true)) (fg [(15, .ptr 0 0 0),(16,SV.b false),(25, .ptr 1 0 0),(26,SV.i e)] [some (.cells 41 7 (yP v)),some (dz r)]):=by
 show W _ _ _ ⟨dG _,dC _,2⟩
 refine ai<|r1<|sT 223 2 1 rfl<|sT 224 10 2 rfl<|e1 18 rfl<|ab [15,25,26,224] rfl ?_
 refine q1 rfl (fun k=>?_) (fun k=>?_)
 try simp only[cs,ne_eq]at k
 refine r1<|sT 225 18 1 rfl<|sO 226 26 2 rfl<|sO 227 34 3 rfl<|sT 2 42 4 rfl<|e1 50 rfl<|ab [2] rfl<|ao<|tr ?_
 exact bm 2 (SV.b true) (π:= []) (ae:= []) Tryd.results3 rfl (by first|rfl|(simp only[B];rfl)|(simp[*];done)|(simp[*];rfl)) rfl rfl trivial rfl
 all_goals (exfalso;first|(simp at k;done)|(simp at k;omega)|(simp_all;done)|(simp_all;omega)|omega)
theorem E5(B:Fd)(D:B.code=0):W ⟨Tryd.prog,241,0,GC⟩ E4 (iP ⟨Tryd.prog,241,0,GC⟩ Tryd.f3 (fun r _=>r=SV.b true)) (fg [(15, .ptr 0 0 0),(16,SV.b true),(25, .ptr 1 0 0),(26,SV.i 0)] [some (.cells 41 7 (yP B)),some (dz B.ro)]):=by
 show W _ _ _ ⟨dG _,dC _,2⟩
 refine ai<|r1<|sT 223 2 1 rfl<|sT 224 10 2 rfl<|e1 18 rfl<|ab [15,25,26,224] rfl ?_
 refine q1 rfl (fun v=>?_) (fun v=>?_)
 ·skip
  all_goals (exfalso;first|(simp at v;done)|(simp at v;omega)|(simp_all;done)|(simp_all;omega)|omega)
 try simp only[cs,ne_eq]at v
 refine ak<|tn<|r1<|sT 228 18 1 rfl<|sO 229 26 2 rfl<|sT 230 34 3 rfl ?_
 refine ask 230 rfl (fun e=>?_) (fun e=>?_)
 ·skip
  try simp only[cs,ne_eq]at e
  refine gT 2 true 230 4 rfl rfl<|sT 231 42 4 rfl<|gT 2 true 230 5 rfl rfl<|sO 232 50 5 rfl<|gT 2 true 230 6 rfl rfl<|sO 233 58 6 rfl<|sT 234 66 7 rfl<|sT 235 74 8 rfl ?_
  refine ask 235 rfl (fun k=>?_) (fun k=>?_)
  try simp only[cs,ne_eq]at k
  refine gT 7 true 235 9 rfl rfl<|sO 236 82 9 rfl ?_
  refine val 236 (bb B.ro) rfl rfl ?_
  refine gT 7 true 235 10 rfl rfl<|sT 237 90 10 rfl<|gT 7 true 235 11 rfl rfl<|sO 238 98 11 rfl ?_
  refine val 238 (bb B.ro) rfl rfl ?_
  refine gT 7 true 235 12 rfl rfl ?_
  refine J8 (op:= .eql) 239 106 12 rfl rfl rfl rfl rfl rfl rfl rfl rfl (by kernel_rfl) (by kernel_rfl) rfl (.inl ⟨rfl,rfl⟩) ?_
  refine sT 240 114 13 rfl<|sT 2 122 14 rfl<|e1 130 rfl<|ab [2] rfl<|ao ?_
  exact bm 2 (SV.b true) (π:= []) (ae:= []) Tryd.results3 rfl (by first|rfl|(simp only[D];rfl)|(simp[*];done)|(simp[*];rfl)) rfl rfl trivial rfl
  try simp only[cs,ne_eq]at k
  all_goals (exfalso;first|(simp at k;done)|(simp at k;omega)|(simp_all;done)|(simp_all;omega)|omega)
 try simp only[cs,ne_eq]at e
 all_goals (exfalso;first|(simp at e;done)|(simp at e;omega)|(simp_all;done)|(simp_all;omega)|omega)
theorem Cf(aK:Value->World->Prop)(Rd:aI)(L:List (List Int))(v:∀ l,l∈L->Bytes l)(b:Bool)(e:Fd)(E:b=false/\e.code=6\/b=true/\e.code=0/\pF L=0/\pE L=e.ro):WX ⟨Tryd.prog,241,0,GC⟩ Jp (re ⟨Tryd.prog,241,0,GC⟩ Tryd.f3 (fun K r=>r=SV.b true/\Ends aK K)) (fD Tryd.prog aK Rd .p0) [] (fg [(14,pw L),(15, .ptr 0 0 0),(16,SV.b b)] [some (.cells 41 7 (yP e))]):=by
 show WX _ _ _ _ _ ⟨dG _,dC _,1⟩
 refine Hf ?_
 refine eg PZ.up [_] 0 _ (fun j k=>by simp at k;subst k;rfl) ?_
 refine sT 219 1 1 rfl<|e1 65 rfl ?_
 refine xE (Pr:=fun r=>r=ld L) (Q:=Ends aK) PZ.up rfl rfl rfl rfl Tryd.func8 rfl (fun s hX=>B8 L v Rd) rfl (rH rfl) rfl ?_
 rintro K' r rfl D
 refine eg PZ.up [_,_,_,_,_,_] 2 _ (fun j k=>by simp at k;match j,k with |0,_=>rfl|1,_=>rfl|2,_=>rfl|3,_=>rfl|4,_=>rfl|5,_=>rfl) ?_
 refine sT 218 17 3 rfl<|sT 221 25 4 rfl<|sT 222 33 5 rfl<|sT 25 41 6 rfl ?_
 refine s0 49 7 rfl rfl rfl rfl rfl trivial ?_
 refine sT 26 57 8 rfl<|e1 65 rfl ?_
 refine fO rfl rfl ?_
 refine vk ?_
 rcases E with⟨rfl,B⟩|⟨rfl,B,G,I⟩
 ·refine iG [0,41] [(15, .ptr 0 0 0),(16,SV.b false),(25, .ptr 1 0 0),(26,SV.i (pF L))] [some (.cells 41 7 (yP e)),some (dz (pE L))] ⟨rfl,⟨rfl,rfl,rfl,rfl,trivial⟩,⟨rfl,rfl,trivial⟩⟩ (lJ (GM e (pE L) (pF L) B) ?_)
  rintro π r J rfl
  exact⟨cn rfl,rfl,D⟩
 ·refine iG [0,41] [(15, .ptr 0 0 0),(16,SV.b true),(25, .ptr 1 0 0),(26,SV.i (pF L))] [some (.cells 41 7 (yP e)),some (dz (pE L))] ⟨rfl,⟨rfl,rfl,rfl,rfl,trivial⟩,⟨rfl,rfl,trivial⟩⟩ ?_
  rw[G,I]
  refine lJ (E5 e B) ?_
  rintro π r J rfl
  exact⟨cn rfl,rfl,D⟩
end Go.Proofs.YtifcaekngfgdmaaDoor.Nice.Co
namespace Go.Proofs.YtifcaekngfgdmaaDoor.Nice
open Go Go.Proofs Co
noncomputable def rM(l:List Wi):List Dd:=aC l++ [eN,ij]
noncomputable def ve(l:List Wi):List Ev:=nN (aC l) (aC l).length
theorem Iw(l:List Wi):∀ i,i<(rM l).length->mF ((rM l).getD i default):=by
 have z:aj 0:=by unfold aj;omega
 intro i b
 have hm:(rM l).getD i default∈rM l:=by rw[List.getD_eq_getElem?_getD,List.getElem?_eq_getElem b];exact List.getElem_mem b
 rcases List.mem_append.1 hm with h|h
 ·obtain⟨j,e,k⟩:=List.mem_iff_getElem.1 h
  rw[<-k]
  have :=(ic l j e).1
  rwa[getD_eq e]at this
 ·rcases List.mem_cons.1 h with h|h
  ·rw[h];exact⟨by unfold aj eN;simp only;omega,by unfold eN;decide,⟨z,z⟩,z,z,by unfold aj eN;simp only;omega⟩
  ·simp only[List.mem_singleton]at h
   rw[h];exact⟨by unfold aj ij;simp only;omega,by unfold ij nA;decide,⟨z,z⟩,by unfold aj ij;simp only;omega,by unfold aj ij;simp only;omega,z⟩
theorem GN(l:List Wi):(rM l).length=(aC l).length+2:=by unfold rM;rw[List.length_append];rfl
theorem rO(l:List Wi):km (aC l)=aA (ve l):=by
 have :=px l
 unfold km;rw[if_neg (by omega)];rfl
theorem zf(l:List Wi):vi (Ck (aC l) (aC l).length) (ve l):=uW (fun i b=>(ic l i b).1) (Nat.le_refl _)
theorem Hk(l:List Int):∀ (f n:Nat) (L:List (List Int)),(l.length:Int)<=(opn l f n L).n->(opn l f n L).e=0
 |0,n,L,_=>rfl
 |f+1,n,L,h=>by
  unfold opn at h ⊢
  split
  ·rfl
  ·rename_i v
   rw[if_neg v]at h
   split
   ·rename_i b
    rw[if_pos b]at h
    have h:(l.length:Int)<=(n:Int):=h
    omega
   ·rename_i b
    rw[if_neg b]at h
    split
    ·rename_i k
     rw[if_pos k]at h
     have h:(l.length:Int)<=(n:Int):=h
     omega
    ·rename_i k
     rw[if_neg k]at h
     exact Hk l f _ _ h
theorem oS(l:List Int)(hl:Bytes l)(e:bT l=0):Spec Tryd.prog GC 7 [cI l] [] (fun r b=>r=SV.bA [.sl 0 0 (cO l).length,SV.i 0]/\b= [some (.rows 31 2 (cO l).length (b6 (cO l)))]):=(fQ l hl).mono fun r b h=>by
 rcases h with⟨_,k,v⟩|⟨h,_⟩
 ·exact⟨k,v⟩
 ·exact absurd e h
theorem E6{e:Int}{b:List Int}(h:e<=lastT (cO b)):jm e b=true:=by unfold jm aO;rw[decide_eq_false (by omega)];rfl
theorem GO{e:Int}{b:List Int}(h:lastT (cO b)<e): ¬ jm e b=true:=by unfold jm aO;rw[decide_eq_true h];simp
theorem GQ{L:List (List Int)}{k:Nat}(h:k<L.length):L.getD k []∈L:=by
 rw[List.getD_eq_getElem?_getD,List.getElem?_eq_getElem h];exact List.getElem_mem h
theorem E7(l:List Wi):(opened (aA (ve l))).L=(ve l).map aY/\(opened (aA (ve l))).n=(aA (ve l)).length:=by
 have b:=(zf l).g
 have :=rz b.n (fun i e=>(jR (b.ev e).2.2).2) (u:=(aA (ve l)).length) (m:=(ve l).length) (Nat.le_refl _) (Nat.le_refl _) (by rw[List.take_length];exact Nat.le_refl _) (fun h=>absurd h (Nat.lt_irrefl _))
 rwa[List.take_length,List.take_length]at this
theorem GR(ds:List Dd)(a b:Dd)(i c:Nat)(k:i<ds.length+2)(v:c<7):dZ (r9 ds) ds.length (iF 7 (Jf a++Jf b)) i c=r9 (ds++ [a,b]) i c:=by
 unfold dZ
 by_cases hl:i<ds.length
 ·rw[if_pos hl]
  unfold r9
  congr 2
  simp[List.getD,List.getElem?_append_left hl]
 ·rw[if_neg hl]
  have e:(Jf a).length=7:=rfl
  obtain h|h:i=ds.length\/i=ds.length+1:=by omega
  ·subst h
   unfold r9 iF
   rw[Nat.sub_self,Nat.zero_mul,Nat.zero_add,show(ds++ [a,b]).getD ds.length default=a by simp[List.getD]]
   simp only[List.getD]
   rw[List.getElem?_append_left (by omega)]
  ·subst h
   unfold r9 iF
   rw[show ds.length+1-ds.length=1 by omega,Nat.one_mul,show(ds++ [a,b]).getD (ds.length+1) default=b by simp[List.getD]]
   simp only[List.getD]
   rw[List.getElem?_append_right (by omega),e,Nat.add_sub_cancel_left]
theorem Jq(aK:Value->World->Prop)(Rd:aI)(l:List Wi):WX ⟨Tryd.prog,241,0,GF⟩ (Tryd.f3.body.getD .skip) (re ⟨Tryd.prog,241,0,GF⟩ Tryd.f3 (fun K r=>r=SV.b true/\Co.Ends aK K)) (fD Tryd.prog aK Rd .p0) [] (fg (iE 0 [JC l]) []):=by
 have dy:=px l
 have cl:=fun i hi=>(ic l i hi).1
 have cr:=Iw l
 have br:=GN l
 have hB:=(zf l).g.An
 have dA:(km (aC l)).length<=62000:=by rw[rO];exact hB.1
 have cw:Bytes (km (aC l)):=by rw[rO];exact hB.2
 have dD:BT (aC l)=0:=by unfold BT;rw[if_neg (by omega)]
 have dN:BT (rM l)=0:=by unfold BT;rw[if_neg (by omega)]
 have dO:(xw (rM l)).length=(rM l).length:=by unfold xw;rw[if_neg (by omega),uV]
 have cQ:(opened (km (aC l))).L=(ve l).map aY:=by rw[rO];exact(E7 l).1
 have cT:(opened (km (aC l))).n=(km (aC l)).length:=by rw[rO];exact(E7 l).2
 have dT:(opened (km (aC l))).e=0:=Hk _ _ _ _ (by rw[show opn (km (aC l)) 201 0 []=opened (km (aC l))from rfl,cT];exact Int.le_refl _)
 have a6:=GL (zf l).g
 obtain⟨f1,f2,hf,cV,b2⟩:=Iv l
 have b3:(aw ((ve l).map aY) ((ve l).map aY).length).1=false/\f2.code=6\/(aw ((ve l).map aY) ((ve l).map aY).length).1=true/\f2.code=0/\pF (aw ((ve l).map aY) ((ve l).map aY).length).2=0/\pE (aw ((ve l).map aY) ((ve l).map aY).length).2=f2.ro:=by
  rw[List.length_map];exact b2.KI
 have dV:(km (rM l)).length=(km (aC l)).length:=by
  rw[rO];unfold km;rw[if_neg (by omega),br];unfold rM;rw[cV];rfl
 have c0:(xw (rM l)).getD ((rM l).length-1) (eC 0)=f2:=by
  have e:xw (rM l)=rF (aC l) (aC l).length++ [f1,f2]:=by unfold xw;rw[if_neg (by omega),br];unfold rM;rw[hf]
  have e2:(rF (aC l) (aC l).length).length=(aC l).length:=uV _ _
  rw[e,br]
  simp only[List.getD]
  rw[List.getElem?_append_right (by omega),e2,show(aC l).length+2-1-(aC l).length=1 by omega];rfl
 show WX _ _ _ _ _ ⟨dG _,dC _,0⟩
 refine xL ?_
 refine ab [0] rfl ?_
 refine r0 ?_
 refine sT 2 0 1 rfl<|e1 8 rfl<|tn ?_
 refine xL ?_
 refine ab [0] rfl ?_
 refine r0 ?_
 refine sT 27 8 1 rfl ?_
 refine c1 (Cc l) [] [] 28 16 2 rfl rfl rfl rfl rfl rfl rfl rfl Tryd.func4 rfl rfl rfl rfl trivial rfl rfl ?_
 refine sT 3 24 3 rfl<|e1 32 rfl<|tn ?_
 refine xL ?_
 refine ab [3] rfl ?_
 refine r0 ?_
 refine sT 30 32 1 rfl ?_
 refine Kq 31 40 2 rfl rfl rfl rfl rfl rfl ⟨trivial,(by show(aC l).length*64<=140737488355328;omega),(by simp only[maxLen];omega)⟩ (Nat.le_refl _) ?_
 refine c1 (Av (aC l) cl (by omega)) [] [] 32 48 3 rfl rfl rfl rfl rfl rfl rfl rfl Tryd.func5 rfl rfl rfl rfl trivial rfl rfl ?_
 refine sT 29 56 4 rfl<|sT 33 64 5 rfl<|sT 34 72 6 rfl<|sT 35 80 7 rfl<|sT 4 88 8 rfl<|sT 5 96 9 rfl<|sT 6 104 10 rfl<|e1 112 rfl<|tn ?_
 refine xL ?_
 refine ab [3,5,6] rfl ?_
 refine r0 ?_
 refine sT 36 112 1 rfl ?_
 refine sV 37 120 2 rfl ⟨trivial,(by show(aC l).length*64<=140737488355328;omega),(by simp only[maxLen];omega)⟩ ?_
 refine sT 38 128 3 rfl<|sT 39 136 4 rfl<|sT 40 144 5 rfl ?_
 refine sV 41 152 6 rfl ⟨Nat.le_refl _,trivial,(by show((aC l).length+2)*64<=140737488355328;omega),(by simp only[maxLen];omega)⟩ ?_
 refine sT 7 160 7 rfl<|e1 168 rfl<|tn ?_
 refine xL ?_
 refine ab [5,6,7] rfl ?_
 refine bP 152 (rM l).length (r9 (rM l)) rfl (by omega) (fun i c hi hc=>GR (aC l) eN ij i c hi hc) ?_
 refine cB 7 (.sl 152 0 (rM l).length) rfl (by rw[br]) ?_
 refine freeze 7 152 (rM l).length rfl rfl (Nat.le_refl _) ?_
 refine cB 7 (uU (rM l)) rfl rfl ?_
 refine r0 ?_
 refine sT 43 168 1 rfl ?_
 refine c1 (Av (rM l) cr (by omega)) [] [] 44 176 2 rfl rfl rfl rfl rfl rfl rfl rfl Tryd.func5 rfl rfl rfl rfl trivial rfl rfl ?_
 refine sT 42 184 3 rfl<|sT 45 192 4 rfl<|sT 46 200 5 rfl<|sT 47 208 6 rfl<|sT 8 216 7 rfl<|sT 9 224 8 rfl<|sT 10 232 9 rfl<|e1 240 rfl<|tn ?_
 refine xL ?_
 refine ab [5,6,7,8,9,10] rfl ?_
 refine r0 ?_
 refine sT 49 240 1 rfl ?_
 refine Kq 50 248 2 rfl rfl rfl rfl rfl rfl ⟨trivial,(by show(km (aC l)).length*1<=140737488355328;omega),(by simp only[maxLen];omega)⟩ (Nat.le_refl _) ?_
 refine c1 (sG (km (aC l)) cw (opened (km (aC l))) rfl) [] [] 51 256 3 rfl rfl rfl rfl rfl rfl rfl rfl Tryd.func6 rfl rfl rfl rfl trivial rfl rfl ?_
 refine sT 48 264 4 rfl<|sT 52 272 5 rfl<|sT 53 280 6 rfl<|sT 54 288 7 rfl<|sT 11 296 8 rfl<|sT 12 304 9 rfl<|sT 13 312 10 rfl<|e1 320 rfl<|tn ?_
 refine xL ?_
 refine ab [5,6,7,8,9,10,11,12,13] rfl<|r1<|sT 55 320 1 rfl<|sO 56 328 2 rfl<|sT 57 336 3 rfl ?_
 refine ask 57 rfl (fun B=>?_) (fun B=>?_)
 ·skip
  try simp only[cs,ne_eq]at B
  all_goals (exfalso;first|omega|(simp at B;done)|(simp at B;omega))
 try simp only[cs,ne_eq]at B
 refine gT 2 false 57 4 rfl rfl<|sT 58 344 4 rfl<|gT 2 false 57 5 rfl rfl<|sO 59 352 5 rfl<|sT 60 360 6 rfl<|sT 61 368 7 rfl ?_
 refine ask 61 rfl (fun E=>?_) (fun E=>?_)
 ·skip
  try simp only[cs,ne_eq]at E
  all_goals (exfalso;first|omega|(simp at E;done)|(simp at E;omega))
 try simp only[cs,ne_eq]at E
 refine gT 6 false 61 8 rfl rfl<|sT 62 376 8 rfl<|gT 6 false 61 9 rfl rfl<|sO 63 384 9 rfl<|sT 64 392 10 rfl<|sT 65 400 11 rfl ?_
 refine ask 65 rfl (fun G=>?_) (fun G=>?_)
 ·skip
  try simp only[cs,ne_eq]at G
  all_goals (exfalso;first|omega|(simp at G;done)|(simp at G;omega))
 try simp only[cs,ne_eq]at G
 refine gT 10 false 65 12 rfl rfl<|sT 66 408 12 rfl<|gT 10 false 65 13 rfl rfl<|sT 67 416 13 rfl<|gT 10 false 65 14 rfl rfl<|sO 68 424 14 rfl<|gT 10 false 65 15 rfl rfl<|sO 69 432 15 rfl<|sT 70 440 16 rfl<|sT 71 448 17 rfl ?_
 refine ask 71 rfl (fun I=>?_) (fun I=>?_)
 ·skip
  try simp only[cs,ne_eq]at I
  all_goals (exfalso;first|omega|(simp at I;done)|(simp at I;omega))
 try simp only[cs,ne_eq]at I
 refine gT 16 false 71 18 rfl rfl<|sT 72 456 18 rfl<|gT 16 false 71 19 rfl rfl<|sO 73 464 19 rfl<|gT 16 false 71 20 rfl rfl<|sT 74 472 20 rfl<|gT 16 false 71 21 rfl rfl<|sO 75 480 21 rfl<|gT 16 false 71 22 rfl rfl<|sO 76 488 22 rfl<|sT 77 496 23 rfl<|sT 78 504 24 rfl ?_
 refine ask 78 rfl (fun J=>?_) (fun J=>?_)
 ·skip
  try simp only[cs,ne_eq]at J
  all_goals (exfalso;first|omega|(simp at J;done)|(simp at J;omega))
 try simp only[cs,ne_eq]at J
 refine gT 23 false 78 25 rfl rfl<|sT 79 512 25 rfl<|gT 23 false 78 26 rfl rfl<|sO 80 520 26 rfl<|gT 23 false 78 27 rfl rfl<|sT 81 528 27 rfl<|gT 23 false 78 28 rfl rfl<|sO 82 536 28 rfl<|gT 23 false 78 29 rfl rfl<|sO 83 544 29 rfl<|sT 84 552 30 rfl<|e1 560 rfl<|ab [8,11,84] rfl ?_
 refine q1 rfl (fun bu=>?_) (fun bu=>?_)
 exfalso;first|(simp at bu;done)|(simp at bu;omega)|(simp_all;done)|omega
 try simp only[cs,ne_eq]at bu
 refine ak<|tn ?_
 refine xL ?_
 refine ab [8,11] rfl ?_
 refine r0 ?_
 refine sT 14 560 1 rfl<|e1 568 rfl<|tn ?_
 refine xL ?_
 refine ab [8,11,14] rfl ?_
 refine r0 ?_
 refine sT 85 568 1 rfl<|sT 86 576 2 rfl<|sO 87 584 3 rfl<|de 88 592 4 rfl<|sO 89 600 5 rfl<|sO 90 608 6 rfl ?_
 refine val 90 (.agg (yP f2)) rfl (by show SV.agg _=SV.agg (yP f2);rw[<-c0];have e:(((xw (rM l)).length:Int)-1).toNat=(rM l).length-1:=(by omega);simp only[e];rfl) ?_
 refine sT 15 616 7 rfl<|cJ 624 8 rfl rfl rfl rfl rfl<|e1 632 rfl<|tn ?_
 refine xL ?_
 refine ab [11,14,15] rfl ?_
 refine r0 ?_
 refine sT 16 632 1 rfl<|e1 640 rfl<|tn ?_
 refine xL ?_
 refine ab [11,14,15,16] rfl<|r1<|sT 17 640 1 rfl<|e1 648 rfl<|ab [11,14,15,16,17] rfl<|au ?_
 refine cB 11 (ou ((ve l).map aY)) rfl (by rw[cQ];rfl) ?_
 generalize hR:(ve l).map aY=R at *
 refine fV 14 26 1 (fM []) rfl ?_
 refine loop (α:=Nat) 2 (fun n=> [(11,ou R),(14, .sl 1 0 (aw R (n)).2.length),(15, .ptr 0 0 0),(16,SV.b (aw R (n)).1),(17,SV.i (n))]) (fun n=> [some (.cells 41 7 (yP f2)),some (.rows 26 1 (aw R (n)).2.length (fM (aw R (n)).2))]) (fun n=>(n)<=R.length) (fun n=>R.length-(n)) (((0):Nat)) [616,648] (fun _=>rfl) (show(0)<=R.length from(Nat.zero_le _)) rfl ⟨rfl,rfl,rfl,rfl,rfl,trivial⟩ ⟨rfl,rfl,trivial⟩ (fun n hx=>?_)
 show W _ _ _ ⟨dG [(11,ou R),(14, .sl 1 0 (aw R n).2.length),(15, .ptr 0 0 0),(16,SV.b (aw R n).1),(17,SV.i n)],dC [some (.cells 41 7 (yP f2)),some (.rows 26 1 (aw R n).2.length (fM (aw R n).2))],2⟩
 have hx:n<=R.length:=hx
 have a6:E1 R:=by first|exact a6|exact hR▸a6
 have c5:R.length<=200:=a6.n
 have c6:=fun h=>a6.b n h
 have df:=fun h=>a6.ch n h
 refine ai<|r1<|sT 91 2 1 rfl<|sT 92 10 2 rfl<|sO 93 18 3 rfl<|sO 94 26 4 rfl<|e1 34 rfl<|ab [11,14,15,16,17,94] rfl ?_
 refine q1 rfl (fun bo=>?_) (fun bo=>?_)
 ·skip
  try simp only[cs,ne_eq]at bo
  refine ak<|tn<|ai<|au<|r1<|sT 97 34 1 rfl<|sT 98 42 2 rfl<|sO 99 50 3 rfl ?_
  refine sV 100 58 4 rfl (by show((n:Int)).toNat<R.length;omega) ?_
  refine val 100 (cI (R.getD n [])) rfl rfl ?_
  refine sT 18 66 5 rfl<|e1 74 rfl<|ab [11,14,15,16,17,18] rfl<|au<|r1<|sT 102 74 1 rfl<|sO 103 82 2 rfl<|sO 104 90 3 rfl<|sT 105 98 4 rfl ?_
  refine pb 5 9 110 (decide ((R.getD n []).length=2/\(R.getD n []).getD 0 0=1)) [11,14,15,16,17,18,105] [11,14,15,16,17,18] rfl rfl rfl rfl ?_ (fun a3=>?_)
  ·skip
   refine sT 111 146 10 rfl ?_
   refine pb 5 15 116 (decide (nP (R.getD n []))) [11,14,15,16,17,18,111] [11,14,15,16,17,18] rfl rfl rfl rfl ?_ (fun O=>?_)
   ·skip
    refine sT 101 194 16 rfl<|e1 202 rfl<|ab [11,14,15,16,17,18,101] rfl ?_
    refine q1 rfl (fun bc=>?_) (fun bc=>?_)
    ·skip
     try simp only[cs,ne_eq]at bc
     have qe:=rec_1 bc
     refine r0 ?_
     refine sT 16 202 1 rfl<|e1 210 rfl<|bn<|bn<|tn ?_
     have bh:(aw R n).2.length=(aw R (n+1)).2.length:=by rw[qe]
     have b1:∀ i c,fM (aw R n).2 i c=fM (aw R (n+1)).2 i c:=by rw[qe];intro i c;rfl
     refine bP 1 (aw R (n+1)).2.length (fM (aw R (n+1)).2) rfl bh (fun i c hi hc=>b1 i c) ?_
     refine cB 14 (.sl 1 0 (aw R (n+1)).2.length) rfl (by rw[bh]) ?_
     refine cB 16 (SV.b (aw R (n+1)).1) rfl (by rw[qe]<;>rfl) ?_
     refine r0 ?_
     refine sT 95 210 1 rfl<|de 96 218 2 rfl<|sT 17 226 3 rfl<|e1 234 rfl<|tn ?_
     exact again ((n+1:Nat)) [0,1] (show(n+1)<=R.length from(by omega)) (show R.length-(n+1)<R.length-n from(by omega)) rfl ⟨rfl,rfl,rfl,rfl,rfl,trivial⟩ ⟨rfl,rfl,trivial⟩
    try simp only[cs,ne_eq]at bc
    refine r1<|sT 118 202 1 rfl<|sO 119 210 2 rfl<|sO 120 218 3 rfl<|sT 121 226 4 rfl ?_
    refine pb 5 9 126 (decide (3<(R.getD n []).length/\(R.getD n []).getD 0 0=2)) [11,14,15,16,17,18,121] [11,14,15,16,17,18] rfl rfl rfl rfl ?_ (fun a4=>?_)
    ·skip
     refine sT 127 274 10 rfl ?_
     refine pb 5 15 132 (decide (3<(R.getD n []).length/\(R.getD n []).getD 0 0=2/\(R.getD n []).getD 1 0=1)) [11,14,15,16,17,18,127] [11,14,15,16,17,18] rfl rfl rfl rfl ?_ (fun U=>?_)
     ·skip
      refine sT 133 322 16 rfl ?_
      refine pb 5 21 138 (decide (nT (R.getD n []))) [11,14,15,16,17,18,133] [11,14,15,16,17,18] rfl rfl rfl rfl ?_ (fun V=>?_)
      ·skip
       refine sT 117 370 22 rfl<|e1 378 rfl<|ab [11,14,15,16,17,18,117] rfl ?_
       refine q1 rfl (fun a8=>?_) (fun a8=>?_)
       ·skip
        try simp only[cs,ne_eq]at a8
        have qe:=rec_2 a8
        have ea:3<(R.getD n []).length:=a8.1
        refine r0 ?_
        refine sT 139 378 1 rfl<|sT 140 386 2 rfl ?_
        refine GY (cI ((R.getD n []).drop 3)) 141 394 3 rfl rfl rfl rfl rfl rfl ⟨by omega,by omega,by omega⟩ (fun M ρ z h=>yk (by omega) h) ?_
        refine sT 142 402 4 rfl ?_
        refine sV 143 410 5 rfl ⟨Nat.le_refl _,trivial,(by show((aw R n).2.length+1)*24<=140737488355328;omega),(by simp only[maxLen];omega)⟩ ?_
        refine sT 14 418 6 rfl<|e1 426 rfl<|bn<|bn<|tn ?_
        have bh:(aw R n).2.length+1=(aw R (n+1)).2.length:=by rw[qe];simp
        refine bP 410 (aw R (n+1)).2.length (fM (aw R (n+1)).2) rfl bh (fun i c hi hc=>by rw[qe];exact uB _ _ i c hi hc) ?_
        refine cB 14 (.sl 410 0 (aw R (n+1)).2.length) rfl (by rw[<-bh]<;>rfl) ?_
        refine cB 16 (SV.b (aw R (n+1)).1) rfl (by rw[qe]<;>rfl) ?_
        refine r0 ?_
        refine sT 95 426 1 rfl<|de 96 434 2 rfl<|sT 17 442 3 rfl<|e1 450 rfl<|tn ?_
        exact again ((n+1:Nat)) [0,410] (show(n+1)<=R.length from(by omega)) (show R.length-(n+1)<R.length-n from(by omega)) rfl ⟨rfl,rfl,rfl,rfl,rfl,trivial⟩ ⟨rfl,rfl,trivial⟩
       try simp only[cs,ne_eq]at a8
       refine r1<|sT 145 378 1 rfl<|sO 146 386 2 rfl<|sO 147 394 3 rfl<|sT 148 402 4 rfl ?_
       refine pb 5 9 153 (decide ((R.getD n []).length=11/\(R.getD n []).getD 0 0=3)) [11,14,15,16,17,18,148] [11,14,15,16,17,18] rfl rfl rfl rfl ?_ (fun a5=>?_)
       ·skip
        refine sT 154 450 10 rfl ?_
        refine pb 5 15 159 (decide ((R.getD n []).length=11/\(R.getD n []).getD 0 0=3/\(R.getD n []).getD 1 0=1)) [11,14,15,16,17,18,154] [11,14,15,16,17,18] rfl rfl rfl rfl ?_ (fun X=>?_)
        ·skip
         refine sT 160 498 16 rfl ?_
         refine pb 5 21 165 (decide (oQ (R.getD n []))) [11,14,15,16,17,18,160] [11,14,15,16,17,18] rfl rfl rfl rfl ?_ (fun Y=>?_)
         ·skip
          refine sT 144 546 22 rfl<|e1 554 rfl<|ab [11,14,15,16,17,18,144] rfl ?_
          refine q1 rfl (fun ba=>?_) (fun ba=>?_)
          ·skip
           try simp only[cs,ne_eq]at ba
           have qe:=rec_3 ba
           have b4:(R.getD n []).length=11:=ba.1
           refine r1<|sT 19 554 1 rfl<|e1 562 rfl<|ab [11,14,15,16,17,18,19] rfl<|ai<|r1<|sT 20 562 1 rfl<|e1 570 rfl<|ab [11,14,15,16,17,18,19,20] rfl<|au ?_
           refine loop (α:=Nat) 2 (fun k=> [(11,ou R),(14, .sl 1 0 (aw R n).2.length),(15, .ptr 0 0 0),(16,SV.b (aw R n).1),(17,SV.i n),(18,cI (R.getD n [])),(19,SV.i (IntKind.i64.wrap (dS (((R.getD n []).drop 3).take (k))))),(20,SV.i (((k):Int)+3))]) (fun k=> [some (.cells 41 7 (yP f2)),some (.rows 26 1 (aw R n).2.length (fM (aw R n).2))]) (fun k=>(k)<=8) (fun k=>8-(k)) (((0):Nat)) [0,1] (fun _=>rfl) (show(0)<=8 from(Nat.zero_le _)) rfl ⟨rfl,rfl,rfl,rfl,rfl,rfl,rfl,rfl,trivial⟩ ⟨rfl,rfl,trivial⟩ (fun k hx=>?_)
           show W _ _ _ ⟨dG [(11,ou R),(14, .sl 1 0 (aw R n).2.length),(15, .ptr 0 0 0),(16,SV.b (aw R n).1),(17,SV.i n),(18,cI (R.getD n [])),(19,SV.i (IntKind.i64.wrap (dS (((R.getD n []).drop 3).take k)))),(20,SV.i ((k:Int)+3))],dC [some (.cells 41 7 (yP f2)),some (.rows 26 1 (aw R n).2.length (fM (aw R n).2))],2⟩
           have hx:k<=8:=hx
           have ca:=(c6 (by omega)).1.b (k+3)
           refine ai<|r1<|sT 166 2 1 rfl<|sO 167 10 2 rfl<|e1 18 rfl<|ab [11,14,15,16,17,18,19,20,167] rfl ?_
           refine q1 rfl (fun bp=>?_) (fun bp=>?_)
           try simp only[cs,ne_eq]at bp
           refine ak<|tn<|ai<|au ?_
           refine r0 ?_
           refine sT 170 18 1 rfl ?_
           refine sV 171 26 2 rfl (by decide) ?_
           refine val 171 (SV.i (IntKind.i64.wrap (dS (((R.getD n []).drop 3).take k)*256))) rfl (congrArg SV.i (Dy _)) ?_
           refine sT 172 34 3 rfl<|sT 173 42 4 rfl<|sO 174 50 5 rfl<|sO 175 58 6 rfl ?_
           refine val 175 (.d (.val (.int .u8 ((R.getD n []).getD (k+3) 0)))) rfl (congrArg (fun x=>SV.d (D.val (Value.int .u8 x))) (by rw[show((k:Int)+3).toNat=k+3 by omega])) ?_
           refine sT 176 66 7 rfl ?_
           refine val 176 (SV.i ((R.getD n []).getD (k+3) 0)) rfl (congrArg SV.i (dP ⟨by omega,by omega⟩)) ?_
           refine sO 177 74 8 rfl ?_
           refine val 177 (SV.i (IntKind.i64.wrap (dS (((R.getD n []).drop 3).take (k+1))))) rfl (congrArg SV.i ((G5 _ ca.1 ca.2).trans (congrArg IntKind.i64.wrap (Ce _ k (by omega)).symm))) ?_
           refine sT 19 82 9 rfl<|e1 90 rfl<|bn<|tn ?_
           refine r0 ?_
           refine sT 168 90 1 rfl<|de 169 98 2 rfl ?_
           refine val 169 (SV.i (((k+1:Nat):Int)+3)) rfl (congrArg SV.i (by omega)) ?_
           refine sT 20 106 3 rfl<|e1 114 rfl<|tn ?_
           exact again ((k+1:Nat)) [0,1] (show(k+1)<=8 from(by omega)) (show 8-(k+1)<8-k from(by omega)) rfl ⟨rfl,rfl,rfl,rfl,rfl,rfl,rfl,rfl,trivial⟩ ⟨rfl,rfl,trivial⟩
           try simp only[cs,ne_eq]at bp
           refine bI<|tx<|tx<|bx<|tn ?_
           obtain rfl:k=8:=(by omega)
           refine cB 19 (SV.i (IntKind.i64.wrap (dS ((R.getD n []).drop 3)))) rfl (by rw[E3 _ b4]) ?_
           refine r1<|sT 178 18 1 rfl<|sO 179 26 2 rfl ?_
           refine val 179 (SV.i (BW (R.getD n []))) rfl rfl ?_
           refine sT 19 34 3 rfl<|e1 42 rfl<|ab [11,14,15,16,17,19] rfl<|r1<|sT 21 42 1 rfl<|e1 50 rfl<|ab [11,14,15,16,17,19,21] rfl<|ai<|r1<|sT 22 50 1 rfl<|e1 58 rfl<|ab [11,14,15,16,17,19,21,22] rfl<|au ?_
           refine fV 21 26 1 (fM []) rfl ?_
           refine loop (α:=Nat×List (List Int)) 3 (fun z=> [(11,ou R),(14, .sl 1 0 (aw R n).2.length),(15, .ptr 0 0 0),(16,SV.b (aw R n).1),(17,SV.i n),(19,SV.i (BW (R.getD n []))),(21, .sl 2 0 (z.2).length),(22,SV.i (z.1))]) (fun z=> [some (.cells 41 7 (yP f2)),some (.rows 26 1 (aw R n).2.length (fM (aw R n).2)),some (.rows 26 1 (z.2).length (fM (z.2)))]) (fun z=>(z.1)<=(aw R n).2.length/\(z.2)=((aw R n).2.take (z.1)).filter (jm (BW (R.getD n [])))) (fun z=>(aw R n).2.length-(z.1)) (((0,[]):Nat×List (List Int))) [0,1,58] (fun _=>rfl) (show(0)<=(aw R n).2.length/\([])=((aw R n).2.take (0)).filter (jm (BW (R.getD n [])))from⟨Nat.zero_le _,rfl⟩) rfl ⟨rfl,rfl,rfl,rfl,rfl,rfl,rfl,rfl,trivial⟩ ⟨rfl,rfl,rfl,trivial⟩ (fun z hx=>?_)
           obtain⟨k,K⟩:=z
           show W _ _ _ ⟨dG [(11,ou R),(14, .sl 1 0 (aw R n).2.length),(15, .ptr 0 0 0),(16,SV.b (aw R n).1),(17,SV.i n),(19,SV.i (BW (R.getD n []))),(21, .sl 2 0 K.length),(22,SV.i k)],dC [some (.cells 41 7 (yP f2)),some (.rows 26 1 (aw R n).2.length (fM (aw R n).2)),some (.rows 26 1 K.length (fM K))],3⟩
           have hx:k<=(aw R n).2.length/\K=((aw R n).2.take k).filter (jm (BW (R.getD n []))):=hx
           obtain⟨hk,hK⟩:=hx
           have di:=df (by omega)
           have ed:K.length<=(aw R n).2.length:=by rw[hK];exact Nat.le_trans (List.length_filter_le _ _) (by rw[List.length_take];omega)
           refine ai<|r1<|sT 180 3 1 rfl<|sT 181 11 2 rfl<|sO 182 19 3 rfl<|sO 183 27 4 rfl<|e1 35 rfl<|ab [11,14,15,16,17,19,21,22,183] rfl ?_
           refine q1 rfl (fun a7=>?_) (fun a7=>?_)
           ·skip
            try simp only[cs,ne_eq]at a7
            have a7:k<(aw R n).2.length:=(by omega)
            have cc:=di.2 _ (GQ a7)
            refine ak<|tn<|ai<|au<|r1<|sT 187 35 1 rfl<|sT 188 43 2 rfl<|sO 189 51 3 rfl<|sO 190 59 4 rfl ?_
            refine val 190 (cI ((aw R n).2.getD k [])) rfl (by rw[show 0+((k:Int)).toNat=k by omega]<;>rfl) ?_
            refine c1 (oS ((aw R n).2.getD k []) cc.1 cc.2.2.1) [] [67] 191 67 5 rfl rfl rfl rfl rfl rfl rfl rfl Tryd.func7 rfl rfl rfl rfl trivial rfl rfl ?_
            refine sT 186 75 6 rfl<|sT 192 83 7 rfl<|sT 193 91 8 rfl<|sT 23 99 9 rfl<|sT 24 107 10 rfl<|e1 115 rfl<|ab [11,14,15,16,17,19,21,22,23,24] rfl<|ai<|r1<|sT 194 115 1 rfl<|sO 195 123 2 rfl<|sT 196 131 3 rfl ?_
            refine ask 196 rfl (fun v=>?_) (fun v=>?_)
            ·skip
             try simp only[cs,ne_eq]at v
             all_goals (exfalso;first|omega|(simp at v;done)|(simp at v;omega)|(simp_all;done)|(simp_all;omega))
            try simp only[cs,ne_eq]at v
            refine gT 2 false 196 4 rfl rfl<|sT 197 139 4 rfl<|gT 2 false 196 5 rfl rfl<|sO 198 147 5 rfl<|gT 2 false 196 6 rfl rfl<|sO 199 155 6 rfl<|sT 200 163 7 rfl<|e1 171 rfl<|ab [11,14,15,16,17,19,21,22,23,200] rfl ?_
            refine q1 rfl (fun bq=>?_) (fun bq=>?_)
            exfalso;simp only[cs,ne_eq]at bq;omega
            try simp only[cs,ne_eq]at bq
            refine ak<|tn<|r1<|sT 201 171 1 rfl<|sT 202 179 2 rfl<|sO 203 187 3 rfl<|de 204 195 4 rfl<|sO 205 203 5 rfl<|sT 206 211 6 rfl<|sO 207 219 7 rfl ?_
            refine val 207 (SV.i (lastT (cO ((aw R n).2.getD k [])))) rfl (congrArg SV.i (by unfold lastT;exact congrArg (fun q=>((cO ((aw R n).2.getD k [])).getD q default).t) (show 0+(((cO ((aw R n).2.getD k [])).length:Int)-1).toNat=(cO ((aw R n).2.getD k [])).length-1 by omega))) ?_
            refine sT 208 227 8 rfl<|sO 209 235 9 rfl<|e1 243 rfl<|ab [11,14,15,16,17,19,21,22,209] rfl ?_
            refine q1 rfl (fun bl=>?_) (fun bl=>?_)
            ·skip
             try simp only[cs,ne_eq]at bl
             refine r0 ?_
             refine sT 210 243 1 rfl<|sT 211 251 2 rfl<|sT 212 259 3 rfl<|sO 213 267 4 rfl<|sO 214 275 5 rfl ?_
             refine val 214 (cI ((aw R n).2.getD k [])) rfl (by rw[show 0+((k:Int)).toNat=k by omega]<;>rfl) ?_
             refine sT 215 283 6 rfl ?_
             refine sV 216 291 7 rfl ⟨Nat.le_refl _,trivial,(by show(K.length+1)*24<=140737488355328;omega),(by simp only[maxLen];omega)⟩ ?_
             refine sT 21 299 8 rfl<|e1 307 rfl<|bn<|tn ?_
             refine bP 291 (K++ [((aw R n).2.getD k [])]).length (fM (K++ [((aw R n).2.getD k [])])) rfl (by simp) (fun i c hi hc=>uB K _ i c hi hc) ?_
             refine cB 21 (.sl 291 0 (K++ [((aw R n).2.getD k [])]).length) rfl (by simp) ?_
             refine r0 ?_
             refine sT 184 307 1 rfl<|de 185 315 2 rfl<|sT 22 323 3 rfl<|e1 331 rfl<|tn ?_
             exact again (((k+1,K++ [((aw R n).2.getD k [])]):Nat×List (List Int))) [0,1,291] (show(k+1)<=(aw R n).2.length/\(K++ [((aw R n).2.getD k [])])=((aw R n).2.take (k+1)).filter (jm (BW (R.getD n [])))from⟨by omega,by rw[tA _ _ _ a7,if_pos (E6 bl),hK]⟩) (show(aw R n).2.length-(k+1)<(aw R n).2.length-k from(by omega)) rfl ⟨rfl,rfl,rfl,rfl,rfl,rfl,rfl,rfl,trivial⟩ ⟨rfl,rfl,rfl,trivial⟩
            try simp only[cs,ne_eq]at bl
            refine ak<|bn<|tn ?_
            refine r0 ?_
            refine sT 184 243 1 rfl<|de 185 251 2 rfl<|sT 22 259 3 rfl<|e1 267 rfl<|tn ?_
            exact again (((k+1,K):Nat×List (List Int))) [0,1,2] (show(k+1)<=(aw R n).2.length/\(K)=((aw R n).2.take (k+1)).filter (jm (BW (R.getD n [])))from⟨by omega,by rw[tA _ _ _ a7,if_neg (GO bl),hK]⟩) (show(aw R n).2.length-(k+1)<(aw R n).2.length-k from(by omega)) rfl ⟨rfl,rfl,rfl,rfl,rfl,rfl,rfl,rfl,trivial⟩ ⟨rfl,rfl,rfl,trivial⟩
           try simp only[cs,ne_eq]at a7
           refine bI<|tx<|tx<|bx<|tn ?_
           obtain rfl:k=(aw R n).2.length:=(by omega)
           have dj:K=(aw R n).2.filter (jm (BW (R.getD n []))):=by rw[hK,List.take_length]
           refine r0 ?_
           refine sT 217 35 1 rfl<|sT 14 43 2 rfl<|e1 51 rfl<|bn<|bn<|tn ?_
           have qK:(aw R (n+1)).2=K:=by rw[qe,dj]
           refine bP 2 (aw R (n+1)).2.length (fM (aw R (n+1)).2) rfl (by rw[qK]) (fun i c hi hc=>by rw[qK]) ?_
           refine cB 14 (.sl 2 0 (aw R (n+1)).2.length) rfl (by rw[qK]) ?_
           refine cB 16 (SV.b (aw R (n+1)).1) rfl (by rw[qe]<;>rfl) ?_
           refine r0 ?_
           refine sT 95 51 1 rfl<|de 96 59 2 rfl<|sT 17 67 3 rfl<|e1 75 rfl<|tn ?_
           exact again ((n+1:Nat)) [0,2] (show(n+1)<=R.length from(by omega)) (show R.length-(n+1)<R.length-n from(by omega)) rfl ⟨rfl,rfl,rfl,rfl,rfl,trivial⟩ ⟨rfl,rfl,trivial⟩
          try simp only[cs,ne_eq]at ba
          have qe:=Jo bc a8 ba
          refine ak<|bn<|bn<|tn ?_
          have bh:(aw R n).2.length=(aw R (n+1)).2.length:=by rw[qe]
          have b1:∀ i c,fM (aw R n).2 i c=fM (aw R (n+1)).2 i c:=by rw[qe];intro i c;rfl
          refine bP 1 (aw R (n+1)).2.length (fM (aw R (n+1)).2) rfl bh (fun i c hi hc=>b1 i c) ?_
          refine cB 14 (.sl 1 0 (aw R (n+1)).2.length) rfl (by rw[bh]) ?_
          refine cB 16 (SV.b (aw R (n+1)).1) rfl (by rw[qe]<;>rfl) ?_
          refine r0 ?_
          refine sT 95 554 1 rfl<|de 96 562 2 rfl<|sT 17 570 3 rfl<|e1 578 rfl<|tn ?_
          exact again ((n+1:Nat)) [0,1] (show(n+1)<=R.length from(by omega)) (show R.length-(n+1)<R.length-n from(by omega)) rfl ⟨rfl,rfl,rfl,rfl,rfl,trivial⟩ ⟨rfl,rfl,trivial⟩
         refine ask 160 rfl (fun aa=>?_) (fun aa=>?_)
         try simp only[cs,ne_eq]at aa
         refine gT 15 true 160 17 rfl rfl<|sT 161 506 17 rfl<|gT 15 true 160 18 rfl rfl<|sO 162 514 18 rfl<|gT 15 true 160 19 rfl rfl<|sO 163 522 19 rfl<|gT 15 true 160 20 rfl rfl<|sO 164 530 20 rfl<|sT 165 538 21 rfl ?_
         exact dk Y rfl (by clear Y;refine Bool.eq_iff_iff.2 ?_;simp only[show Int.toNat 0=0 from rfl,show Int.toNat 1=1 from rfl,show Int.toNat 2=2 from rfl,beq_iff_eq,decide_eq_true_eq,Bool.false_eq_true,false_iff];(try simp only[nP,nT,oQ]);omega) ⟨rfl,rfl,rfl,rfl,rfl,rfl,trivial⟩
         try simp only[cs,ne_eq]at aa
         refine gF 15 true 160 161 17 rfl rfl<|gF 15 true 160 162 18 rfl rfl<|gF 15 true 160 163 19 rfl rfl<|gF 15 true 160 164 20 rfl rfl<|sT 165 538 21 rfl ?_
         exact dk Y rfl (by clear Y;refine Bool.eq_iff_iff.2 ?_;simp only[show Int.toNat 0=0 from rfl,show Int.toNat 1=1 from rfl,show Int.toNat 2=2 from rfl,beq_iff_eq,decide_eq_true_eq,Bool.false_eq_true,false_iff];(try simp only[nP,nT,oQ]);omega) ⟨rfl,rfl,rfl,rfl,rfl,rfl,trivial⟩
        refine ask 154 rfl (fun ah=>?_) (fun ah=>?_)
        try simp only[cs,ne_eq]at ah
        refine gT 9 true 154 11 rfl rfl<|sT 155 458 11 rfl<|gT 9 true 154 12 rfl rfl<|sO 156 466 12 rfl<|gT 9 true 154 13 rfl rfl<|sO 157 474 13 rfl<|gT 9 true 154 14 rfl rfl<|sO 158 482 14 rfl<|sT 159 490 15 rfl ?_
        exact dk X rfl (by clear X;refine Bool.eq_iff_iff.2 ?_;simp only[show Int.toNat 0=0 from rfl,show Int.toNat 1=1 from rfl,show Int.toNat 2=2 from rfl,beq_iff_eq,decide_eq_true_eq,Bool.false_eq_true,false_iff];(try simp only[nP,nT,oQ]);omega) ⟨rfl,rfl,rfl,rfl,rfl,rfl,trivial⟩
        try simp only[cs,ne_eq]at ah
        refine gF 9 true 154 155 11 rfl rfl<|gF 9 true 154 156 12 rfl rfl<|gF 9 true 154 157 13 rfl rfl<|gF 9 true 154 158 14 rfl rfl<|sT 159 490 15 rfl ?_
        exact dk X rfl (by clear X;refine Bool.eq_iff_iff.2 ?_;simp only[show Int.toNat 0=0 from rfl,show Int.toNat 1=1 from rfl,show Int.toNat 2=2 from rfl,beq_iff_eq,decide_eq_true_eq,Bool.false_eq_true,false_iff];(try simp only[nP,nT,oQ]);omega) ⟨rfl,rfl,rfl,rfl,rfl,rfl,trivial⟩
       refine ask 148 rfl (fun al=>?_) (fun al=>?_)
       try simp only[cs,ne_eq]at al
       refine gT 3 true 148 5 rfl rfl<|sT 149 410 5 rfl<|gT 3 true 148 6 rfl rfl<|sO 150 418 6 rfl<|gT 3 true 148 7 rfl rfl<|sO 151 426 7 rfl<|gT 3 true 148 8 rfl rfl<|sO 152 434 8 rfl<|sT 153 442 9 rfl ?_
       exact dk a5 rfl (by clear a5;refine Bool.eq_iff_iff.2 ?_;simp only[show Int.toNat 0=0 from rfl,show Int.toNat 1=1 from rfl,show Int.toNat 2=2 from rfl,beq_iff_eq,decide_eq_true_eq,Bool.false_eq_true,false_iff];(try simp only[nP,nT,oQ]);omega) ⟨rfl,rfl,rfl,rfl,rfl,rfl,trivial⟩
       try simp only[cs,ne_eq]at al
       refine gF 3 true 148 149 5 rfl rfl<|gF 3 true 148 150 6 rfl rfl<|gF 3 true 148 151 7 rfl rfl<|gF 3 true 148 152 8 rfl rfl<|sT 153 442 9 rfl ?_
       exact dk a5 rfl (by clear a5;refine Bool.eq_iff_iff.2 ?_;simp only[show Int.toNat 0=0 from rfl,show Int.toNat 1=1 from rfl,show Int.toNat 2=2 from rfl,beq_iff_eq,decide_eq_true_eq,Bool.false_eq_true,false_iff];(try simp only[nP,nT,oQ]);omega) ⟨rfl,rfl,rfl,rfl,rfl,rfl,trivial⟩
      refine ask 133 rfl (fun av=>?_) (fun av=>?_)
      try simp only[cs,ne_eq]at av
      refine gT 15 true 133 17 rfl rfl<|sT 134 330 17 rfl<|gT 15 true 133 18 rfl rfl<|sO 135 338 18 rfl<|gT 15 true 133 19 rfl rfl<|sO 136 346 19 rfl<|gT 15 true 133 20 rfl rfl<|sO 137 354 20 rfl<|sT 138 362 21 rfl ?_
      exact dk V rfl (by clear V;refine Bool.eq_iff_iff.2 ?_;simp only[show Int.toNat 0=0 from rfl,show Int.toNat 1=1 from rfl,show Int.toNat 2=2 from rfl,beq_iff_eq,decide_eq_true_eq,Bool.false_eq_true,false_iff];(try simp only[nP,nT,oQ]);omega) ⟨rfl,rfl,rfl,rfl,rfl,rfl,trivial⟩
      try simp only[cs,ne_eq]at av
      refine gF 15 true 133 134 17 rfl rfl<|gF 15 true 133 135 18 rfl rfl<|gF 15 true 133 136 19 rfl rfl<|gF 15 true 133 137 20 rfl rfl<|sT 138 362 21 rfl ?_
      exact dk V rfl (by clear V;refine Bool.eq_iff_iff.2 ?_;simp only[show Int.toNat 0=0 from rfl,show Int.toNat 1=1 from rfl,show Int.toNat 2=2 from rfl,beq_iff_eq,decide_eq_true_eq,Bool.false_eq_true,false_iff];(try simp only[nP,nT,oQ]);omega) ⟨rfl,rfl,rfl,rfl,rfl,rfl,trivial⟩
     refine ask 127 rfl (fun ax=>?_) (fun ax=>?_)
     try simp only[cs,ne_eq]at ax
     refine gT 9 true 127 11 rfl rfl<|sT 128 282 11 rfl<|gT 9 true 127 12 rfl rfl<|sO 129 290 12 rfl<|gT 9 true 127 13 rfl rfl<|sO 130 298 13 rfl<|gT 9 true 127 14 rfl rfl<|sO 131 306 14 rfl<|sT 132 314 15 rfl ?_
     exact dk U rfl (by clear U;refine Bool.eq_iff_iff.2 ?_;simp only[show Int.toNat 0=0 from rfl,show Int.toNat 1=1 from rfl,show Int.toNat 2=2 from rfl,beq_iff_eq,decide_eq_true_eq,Bool.false_eq_true,false_iff];(try simp only[nP,nT,oQ]);omega) ⟨rfl,rfl,rfl,rfl,rfl,rfl,trivial⟩
     try simp only[cs,ne_eq]at ax
     refine gF 9 true 127 128 11 rfl rfl<|gF 9 true 127 129 12 rfl rfl<|gF 9 true 127 130 13 rfl rfl<|gF 9 true 127 131 14 rfl rfl<|sT 132 314 15 rfl ?_
     exact dk U rfl (by clear U;refine Bool.eq_iff_iff.2 ?_;simp only[show Int.toNat 0=0 from rfl,show Int.toNat 1=1 from rfl,show Int.toNat 2=2 from rfl,beq_iff_eq,decide_eq_true_eq,Bool.false_eq_true,false_iff];(try simp only[nP,nT,oQ]);omega) ⟨rfl,rfl,rfl,rfl,rfl,rfl,trivial⟩
    refine ask 121 rfl (fun a0=>?_) (fun a0=>?_)
    try simp only[cs,ne_eq]at a0
    refine gT 3 true 121 5 rfl rfl<|sT 122 234 5 rfl<|gT 3 true 121 6 rfl rfl<|sO 123 242 6 rfl<|gT 3 true 121 7 rfl rfl<|sO 124 250 7 rfl<|gT 3 true 121 8 rfl rfl<|sO 125 258 8 rfl<|sT 126 266 9 rfl ?_
    exact dk a4 rfl (by clear a4;refine Bool.eq_iff_iff.2 ?_;simp only[show Int.toNat 0=0 from rfl,show Int.toNat 1=1 from rfl,show Int.toNat 2=2 from rfl,beq_iff_eq,decide_eq_true_eq,Bool.false_eq_true,false_iff];(try simp only[nP,nT,oQ]);omega) ⟨rfl,rfl,rfl,rfl,rfl,rfl,trivial⟩
    try simp only[cs,ne_eq]at a0
    refine gF 3 true 121 122 5 rfl rfl<|gF 3 true 121 123 6 rfl rfl<|gF 3 true 121 124 7 rfl rfl<|gF 3 true 121 125 8 rfl rfl<|sT 126 266 9 rfl ?_
    exact dk a4 rfl (by clear a4;refine Bool.eq_iff_iff.2 ?_;simp only[show Int.toNat 0=0 from rfl,show Int.toNat 1=1 from rfl,show Int.toNat 2=2 from rfl,beq_iff_eq,decide_eq_true_eq,Bool.false_eq_true,false_iff];(try simp only[nP,nT,oQ]);omega) ⟨rfl,rfl,rfl,rfl,rfl,rfl,trivial⟩
   refine ask 111 rfl (fun a1=>?_) (fun a1=>?_)
   try simp only[cs,ne_eq]at a1
   refine gT 9 true 111 11 rfl rfl<|sT 112 154 11 rfl<|gT 9 true 111 12 rfl rfl<|sO 113 162 12 rfl<|gT 9 true 111 13 rfl rfl<|sO 114 170 13 rfl<|gT 9 true 111 14 rfl rfl<|sO 115 178 14 rfl<|sT 116 186 15 rfl ?_
   exact dk O rfl (by clear O;refine Bool.eq_iff_iff.2 ?_;simp only[show Int.toNat 0=0 from rfl,show Int.toNat 1=1 from rfl,show Int.toNat 2=2 from rfl,beq_iff_eq,decide_eq_true_eq,Bool.false_eq_true,false_iff];(try simp only[nP,nT,oQ]);omega) ⟨rfl,rfl,rfl,rfl,rfl,rfl,trivial⟩
   try simp only[cs,ne_eq]at a1
   refine gF 9 true 111 112 11 rfl rfl<|gF 9 true 111 113 12 rfl rfl<|gF 9 true 111 114 13 rfl rfl<|gF 9 true 111 115 14 rfl rfl<|sT 116 186 15 rfl ?_
   exact dk O rfl (by clear O;refine Bool.eq_iff_iff.2 ?_;simp only[show Int.toNat 0=0 from rfl,show Int.toNat 1=1 from rfl,show Int.toNat 2=2 from rfl,beq_iff_eq,decide_eq_true_eq,Bool.false_eq_true,false_iff];(try simp only[nP,nT,oQ]);omega) ⟨rfl,rfl,rfl,rfl,rfl,rfl,trivial⟩
  refine ask 105 rfl (fun a2=>?_) (fun a2=>?_)
  try simp only[cs,ne_eq]at a2
  refine gT 3 true 105 5 rfl rfl<|sT 106 106 5 rfl<|gT 3 true 105 6 rfl rfl<|sO 107 114 6 rfl<|gT 3 true 105 7 rfl rfl<|sO 108 122 7 rfl<|gT 3 true 105 8 rfl rfl<|sO 109 130 8 rfl<|sT 110 138 9 rfl ?_
  exact dk a3 rfl (by clear a3;refine Bool.eq_iff_iff.2 ?_;simp only[show Int.toNat 0=0 from rfl,show Int.toNat 1=1 from rfl,show Int.toNat 2=2 from rfl,beq_iff_eq,decide_eq_true_eq,Bool.false_eq_true,false_iff];(try simp only[nP,nT,oQ]);omega) ⟨rfl,rfl,rfl,rfl,rfl,rfl,trivial⟩
  try simp only[cs,ne_eq]at a2
  refine gF 3 true 105 106 5 rfl rfl<|gF 3 true 105 107 6 rfl rfl<|gF 3 true 105 108 7 rfl rfl<|gF 3 true 105 109 8 rfl rfl<|sT 110 138 9 rfl ?_
  exact dk a3 rfl (by clear a3;refine Bool.eq_iff_iff.2 ?_;simp only[show Int.toNat 0=0 from rfl,show Int.toNat 1=1 from rfl,show Int.toNat 2=2 from rfl,beq_iff_eq,decide_eq_true_eq,Bool.false_eq_true,false_iff];(try simp only[nP,nT,oQ]);omega) ⟨rfl,rfl,rfl,rfl,rfl,rfl,trivial⟩
 try simp only[cs,ne_eq]at bo
 obtain rfl:n=R.length:=(by omega)
 refine freeze 14 1 (aw R R.length).2.length rfl rfl (Nat.le_refl _) ?_
 refine bI<|tx<|tx<|bx<|tn ?_
 refine iG [0] [(14,pw (aw R R.length).2),(15, .ptr 0 0 0),(16,SV.b (aw R R.length).1)] [some (.cells 41 7 (yP f2))] ⟨rfl,⟨rfl,rfl,rfl,trivial⟩,⟨rfl,trivial⟩⟩ ?_
 exact Cf aK Rd _ (fun b hb=>((a6.ch R.length (Nat.le_refl _)).2 b hb).1) _ f2 b3
end Go.Proofs.YtifcaekngfgdmaaDoor.Nice
namespace Go.Proofs.YtifcaekngfgdmaaDoor
open Go Nice Nice.Co
def Jr(x:(Sh.pair .int (.pair .int (.pair .int (.pair .int (.pair .int .unit))))).T):Wi:=⟨x.1,x.2.1,x.2.2.1,x.2.2.2.1,x.2.2.2.2.1⟩
theorem Ix{M:aD}{ρ:Names}{x:D}{v:Value}(h:VR M ρ (.d x) v):DR M x v:=by cases h;assumption
theorem GU{M:aD}(l:List (Sh.pair .int (.pair .int (.pair .int (.pair .int (.pair .int .unit))))).T){v:Value}(h:DR M ((Sh.slice (Sh.pair .int (.pair .int (.pair .int (.pair .int (.pair .int .unit)))))).cell l 0) v):DR M (.vec 5 (l.map Jr).length (J6 (l.map Jr))) v:=by
 rw[List.length_map]
 refine DR.fK h fun i c b k=>?_
 rw[List.getElem?_eq_getElem b]
 have e:(l.map Jr).getD i default=Jr l[i]:=by simp[List.getD,b]
 unfold J6
 rw[e]
 match c,k with
 |0,_=>rfl
 |1,_=>rfl
 |2,_=>rfl
 |3,_=>rfl
 |4,_=>rfl
end Go.Proofs.YtifcaekngfgdmaaDoor
namespace Go.Proofs.YtifcaekngfgdmaaDoor
open Go Nice Nice.Co Go.Conc
theorem vf{H:Type}{enc:TypeId×Value->H}(b:Value){b0:Nat}{d0:DataW H}{p0:List MemPlace}{s0:Nat->Bool}{E:Bool}{I:Nat}(W:World)(J:Value.okWide Tryd.prog W .any b0 22 b)(O:DataW.Trod enc Tryd.prog W I s0 E 22 b d0 p0)(U:oj W):
  ∃ M last o w' B,runNT Tryd.prog (M+1) (solo (G (Frame.enter Tryd.prog 3 #[b] .normal) []) W) #[]=(.ended o w',B)/\runN Tryd.prog M (solo (G (Frame.enter Tryd.prog 3 #[b] .normal) []) W)= .next last/\
   Go.step Tryd.prog last= .ended o w'/\Conc.Good Tryd.prog (fun v V=>v= .bool true/\RowKit.Below W.heap.size W V) last o w' B:=by
 obtain⟨D,X,k⟩:=AV (P:=Tryd.prog) (t:=22) (b0:=b0) (.pair (.int) (.pair (.int) (.pair (.int) (.pair (.int) (.pair (.int) (.unit)))))) (AW Tryd.underlying22 (by kernel_rfl) (by decide) (CK Tryd.underlying49 (by kernel_rfl) (iW rfl (by kernel_rfl) (m0 Tryd.underlying3) (iW rfl (by kernel_rfl) (m0 Tryd.underlying3) (iW rfl (by kernel_rfl) (m0 Tryd.underlying3) (iW rfl (by kernel_rfl) (m0 Tryd.underlying3) (iW rfl (by kernel_rfl) (m0 Tryd.underlying3) AX))))))) J O
 have Y:=Bf U
 refine Eb (v:= .bool true) Tryd.func3 rfl rfl (by kernel_rfl) rfl ?_ ?_ (fun aK=>Jq aK _ (D.map Jr))
 ·first|exact fun g ρ=> .any _|exact Y
 ·intro i x e
  match i,e with
  |0,e=>cases e;exact⟨b,rfl,(.d _ _ (GU D (Ix (k (fun _=>none)))))⟩
  |n+1,e=>simp at e
end Go.Proofs.YtifcaekngfgdmaaDoor
namespace Go.Proofs.YtifcaekngfgdmaaDoor
open Go Go.Conc
section
variable {H:Type} {enc:TypeId×Value->H}
theorem gR{a:Assume}{C:Checked}{E:Os}{f:FuncId}{fn:Func}{s:ChangeSpec}{conds:List PathCond}{apart fresh handsOn again:Bool}{laid:List (String×DataW Unit)}
  (own:ownKnob C.prog.godebug=none) (started:E.Started) (I:C.prog.funcs[f]? =some fn)
  (witness:∃ (w:World) (tape:Tape) (i:Input),w.os=E/\(w.forCall tape i).Shaped C.prog/\i.vars= []/\Input.okWide C.prog (w.forCall tape i) .any w.heap.size f i/\
   (OpenSpec.ofChange s).preRow enc C.prog fn conds apart laid (w.forCall tape i).memory i.args/\a.holds C.prog (lone (Frame.enter C.prog f i.args .normal) [] (w.forCall tape i)))
  (runs:∀ (W:World) (base:Nat) (args:Array Value) (ds gs:List (DataW H)) (before:List MemPlace),
   (∀ (j:Nat) t v,fn.params[j]? =some t->args[j]? =some v->Value.okWide C.prog W .any base t v)->
   DataW.Whole enc C.prog fn.params.toList s.vars apart W args.toList ds gs before->
   (DataW.weightsEach C.prog (fn.params.toList++(OpenSpec.ofChange s).bare.plain.varTypes C.prog) (ds++gs)).all (· <=reachBytes)=true->
   laidMetH C.prog laid W->
   ∃ M last o w' B,runNT C.prog (M+1) (solo (G (Frame.enter C.prog f args .normal) []) W) #[]=(.ended o w',B)/\runN C.prog M (solo (G (Frame.enter C.prog f args .normal) []) W)= .next last/\
    step C.prog last= .ended o w'/\Conc.Good C.prog (fun v Y=>s.post enc C.prog fn apart fresh handsOn again W args v Y) last o w' B):
  ReturnsInLeavingWide a C E f .any ((OpenSpec.ofChange s).preRow enc C.prog fn conds apart laid) (s.post enc C.prog fn apart fresh handsOn again):=by
 refine returnsInLeavingWide_of_good own started witness ?_
 intro w tape i _ _ _ J b D
 obtain⟨_,_,_,O,k,_,_,_,_,kg⟩:=J
 have e:O=fn:=Option.some.inj (k.symm.trans I)
 subst e
 obtain⟨⟨U,hl⟩,hz⟩:=b
 obtain⟨ds,gs,before,X,hc,hk⟩:=OpenSpec.pre_parts U
 have V:=DataW.Whole.of_heap (w':=w.forCall tape i) (by rfl) X
 obtain⟨M,last,o,w',B,h1,h2,h3,h4⟩:=runs (w.forCall tape i) w.heap.size i.args ds gs before kg V (hz.weights X) (hl.of_heap (by rfl))
 exact⟨M,last,o,w',B,h1,h2,h3,h4.mono fun v U=>ChangeSpec.post_blind U⟩
end
theorem mL(B:Looks){p:Pinned}{s:OpenSpec}{c:OpenClaim}(kinds:List LaidKind)(b:Bool)(e:Bool×String)(k:Bool)
  (I:c.holds p s) (J:c.wfByText s=true) (v:c.laidByTextAt B p kinds b)
  (E:c.start= .entering) (G:c.noBlocks=false/\c.again=false) (hm:p.checked.prog.mainIs=some (e.1,e.2.toList)) (O:(!e.1&&e.2.isEmpty&& !k)=false)
  (hl:∀ f fn,p.checked.prog.funcNamed c.func=some f->p.checked.prog.funcs[f]? =some fn->k=p.checked.prog.looks []/\∀ (j:Nat) t,fn.params[j]? =some t->p.checked.prog.wantsStandIn t=false)
  (U:true=c.goesBy p.checked.prog):
  Claim7.holds p (.plain s) {stood:={row:=c,standIns:= [],harness:=e,looks:=k},kinds:= [],alts:= [],goes:=true,laidByText:=true,laidKinds:=kinds,laidTests:=b,laidLooks:=B}:=by
 have V:Claim7.isSixth {stood:={row:=c,standIns:= [],harness:=e,looks:=k},kinds:= []}=false:=by simpa[Claim7.isSixth]using O
 exact⟨Claim7.tied_new_at B kinds b (Claim7.new_of_sixth I e k E G hm V hl) J,(fun D W=>by cases W),v,(fun h=>by cases h),U⟩
end Go.Proofs.YtifcaekngfgdmaaDoor
