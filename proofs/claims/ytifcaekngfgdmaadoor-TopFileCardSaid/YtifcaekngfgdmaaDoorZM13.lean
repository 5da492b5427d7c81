/- Part 13 of the proof of TopFile. -/
import Derived.Test.YtifcaekngfgdmaaDoorZM12
import Derived.Test.YtifcaekngfgdmaaDoorChecked
import Derived.Conc.WgLib
import Derived.Test.YtifcaekngfgdmaaDoorProg
set_option linter.unusedVariables false
set_option linter.unusedSimpArgs false
set_option maxRecDepth 100000
set_option maxHeartbeats 4000000
namespace Go.Proofs.YtifcaekngfgdmaaDoor.Nice
open Go Go.Proofs Co
theorem Je.at{L:List Ln}{e:Ev}(h:Je L e):Gm L e:=by
 rcases h with⟨nm,rfl,b,k⟩|⟨nm,l,j,x,rfl,b,hl,E,k,v,B,_⟩|⟨nm,G,j,x,rfl,b,D,k,v,B⟩
 ·exact⟨b, .inl ⟨rfl,k⟩⟩
 ·exact⟨b, .inr (.inl ⟨rfl,by show l.length<=120;omega,fS E,j,x,k,v,B⟩)⟩
 ·exact⟨b, .inr (.inr ⟨rfl,D,j,x,k,v,B⟩)⟩
theorem EF{s:aR}:aE [s]=if cK s.t/\cK s.v then 0 else 11:=by
 show(if(0:Int)=0 then bC ⟨0,0,0,0⟩ s else 0)=_
 rw[if_pos rfl]
 unfold bC
 split
 ·rw[if_neg (fun h=>by have b:=h.1;exact absurd b (show ¬ (0:Int)<0 by decide))]
 ·rfl
theorem Gx(E:List Ev)(nm:ByteArray):aA (E++ [⟨1,nm,[],0⟩])=aA E++bg ([1]++fb nm):=by rw[jQ,Ja]
theorem Au(E:List Ev)(nm:ByteArray)(l:List aR):aA (E++ [⟨2,nm,l,0⟩])=aA E++bg (aV 2 nm++bf l):=by rw[jQ,Jb]
theorem Gy(E:List Ev)(nm:ByteArray)(b:Int):aA (E++ [⟨3,nm,[],b⟩])=aA E++bg (aV 3 nm++bR 8 (cY b)):=by rw[jQ,Jc]
theorem jk{α:Type}(l:List α)(x:α):(l++ [x]).length=l.length+1:=by simp
def j8(L:List Ln)(E:List Ev):eI:=⟨L,aA E,E.length⟩
theorem EG{L:List Ln}{E:List Ev}(h:vi L E):tc (j8 L E):=⟨by have :=h.g.An.1;show(aA E).length<=_;omega,h.g.n,h.len,h.ln⟩
theorem BQ{Z:List Nat}(d:Dd)(hd:mF d)(s:eI)(J:tc s)(O:d.k=7)(U:Bytes s.F)(u:Nat)(V:(u:Int)=min (max 0 d.kp) s.F.length)(q:wC)(W:opened (s.F.take u)=q)(bs:List Ev)(v:q.L=bs.map aY)(B:bs.length<=200)(F2:List Int)(X:(F2.length:Int)=q.n)(D:F2.length<=u)(E:s.F.take F2.length=F2)(G:∀ i,i<bs.length->Gm (aH (bs.take i)) (bs.getD i default)):Spec Tryd.prog GF 11 [.ptr 0 0 0,Gl d] [.cells 55 3 [.map 1, .sl 2 0 s.F.length,SV.i s.cnt], .fam Z ⟨a9 s.L,[],none⟩,bY s.F] (fun r Y=>∃ Z2,r=kj (eC 0)/\Y= [some (.cells 55 3 [.map 3, .sl 4 0 (eI.mk (aH bs) F2 bs.length).F.length,SV.i (eI.mk (aH bs) F2 bs.length).cnt]),none,none,some (.fam Z2 ⟨a9 (eI.mk (aH bs) F2 bs.length).L,[],none⟩),some (bY (eI.mk (aH bs) F2 bs.length).F)]):=by
 refine start 47 3 Tryd.func11 rfl rfl rfl rfl ?_
 refine r1<|sT 3 3 1 rfl<|sT 4 11 2 rfl<|e1 19 rfl<|ab [0,3,4] rfl<|ai<|r1<|sT 7 19 1 rfl<|sO 8 27 2 rfl<|e1 35 rfl<|ab [0,3,4,8] rfl<|au<|r1<|sO 10 35 1 rfl<|sT 9 43 2 rfl<|e1 51 rfl ?_
 refine ab [0,3,4,8,9] rfl ?_
 refine q1 rfl (fun b=>?_) (fun b=>?_)
 simp at b;omega
 try simp only[cs,ne_eq]at b
 refine r1<|sO 17 51 1 rfl<|sT 16 59 2 rfl<|e1 67 rfl<|ab [0,3,4,8,16] rfl ?_
 refine q1 rfl (fun e=>?_) (fun e=>?_)
 try simp only[cs,ne_eq]at e
 refine r1<|sT 18 67 1 rfl<|sT 19 75 2 rfl<|sO 20 83 3 rfl ?_
 refine cQ (Et d.kp s U J.F u V q W bs v B F2 X D E G) [0,1,2] 21 91 4 rfl rfl rfl rfl rfl rfl rfl Tryd.func24 rfl rfl rfl ⟨rfl,rfl,rfl,trivial⟩ ?_
 rintro _ _ ⟨I,rfl,rfl⟩
 refine val 21 (.bA []) rfl rfl ?_
 refine kg 91 _ rfl (.fam I ⟨a9 (aH bs),[],none⟩) rfl ?_
 refine e1 99 rfl<|ab [4] rfl<|r1<|sT 22 99 1 rfl<|cJ 107 2 rfl rfl rfl rfl rfl<|e1 115 rfl<|ab [4] rfl ?_
 refine sM 11 1 (.d (.vec 2 0 (b6 []))) rfl rfl (jb 2 _) ?_
 refine ao<|br<|tr ?_
 exact cG (kj (eC 0)) (π:= [0,1,2,91,92]) (ae:= [some (.cells 55 3 [.map 3, .sl 4 0 (eI.mk (aH bs) F2 bs.length).F.length,SV.i (eI.mk (aH bs) F2 bs.length).cnt]),none,none,some (.fam I ⟨a9 (eI.mk (aH bs) F2 bs.length).L,[],none⟩),some (bY (eI.mk (aH bs) F2 bs.length).F)]) Tryd.results11 rfl (by trivial) rfl rfl rfl ⟨rfl,rfl,rfl,trivial⟩ ⟨I,rfl,rfl⟩
 simp at e;omega
theorem BS{Z:List Nat}(d:Dd)(hd:mF d){L:List Ln}{E:List Ev}(h:vi L E){f:Fd}{L2:List Ln}{E2:List Ev}(hs:dt d L E f L2 E2):Spec Tryd.prog GF 11 [.ptr 0 0 0,Gl d] [.cells 55 3 [.map 1, .sl 2 0 (aA E).length,SV.i E.length], .fam Z ⟨a9 L,[],none⟩,bY (aA E)] (fun r X=>∃ Z2,r=kj f/\X= [some (.cells 55 3 [.map 3, .sl 4 0 (aA E2).length,SV.i E2.length]),none,none,some (.fam Z2 ⟨a9 L2,[],none⟩),some (bY (aA E2))]):=by
 have I:=EG h
 have av:=h.g.n
 have a2:=h.len
 have found:∀ (j:Nat) (x:Ln) (b:2<=d.k/\d.k<=6) (B:bj d.nm L=some j) (D:L[j]? =some x) (G:x.nm=d.nm) (q:bS) (Y:xP d x (aA E) E.length=(q,f)) (h1:L.set j ⟨x.nm,q.ch,q.op⟩=L2) (V:q.F=aA E2) (h3:q.cnt=E2.length),
   Spec Tryd.prog GF 11 [.ptr 0 0 0,Gl d] [.cells 55 3 [.map 1, .sl 2 0 (aA E).length,SV.i E.length], .fam Z ⟨a9 L,[],none⟩,bY (aA E)] (fun r X=>∃ Z2,r=kj f/\X= [some (.cells 55 3 [.map 3, .sl 4 0 (aA E2).length,SV.i E2.length]),none,none,some (.fam Z2 ⟨a9 L2,[],none⟩),some (bY (aA E2))]):=by
  intro j x b B D G q Y h1 V h3
  have :=yU (Z:=Z) d hd (j8 L E) I b j x B D G q f Y
  obtain⟨e,ch,op,F,cnt⟩:=q
  have h1:L.set j ⟨x.nm,ch,op⟩=L2:=h1
  have V:F=aA E2:=V
  have h3:cnt=E2.length:=h3
  subst h1 V h3
  exact this
 have k2:d.k=2->∀ (x:Ln),xP d x (aA E) E.length=(ia x.nm d.s x.ch x.op (aA E) E.length,codeF (ia x.nm d.s x.ch x.op (aA E) E.length).e (ia x.nm d.s x.ch x.op (aA E) E.length).ch.length):=fun b x=>by unfold xP;rw[if_pos b]
 have k6:d.k=6->∀ (x:Ln),xP d x (aA E) E.length=(cH x.nm x.ch x.op (aA E) E.length,codeF (cH x.nm x.ch x.op (aA E) E.length).e (cH x.nm x.ch x.op (aA E) E.length).ch.length):=fun b x=>by unfold xP;rw[if_neg (by omega),if_pos b]
 have k5:d.k=5->∀ (x:Ln),xP d x (aA E) E.length=(gB x.nm d.kp x.ch x.op (aA E) E.length,codeF (gB x.nm d.kp x.ch x.op (aA E) E.length).e (gB x.nm d.kp x.ch x.op (aA E) E.length).ch.length):=fun b x=>by unfold xP;rw[if_neg (by omega),if_neg (by omega),if_pos b]
 have W:cK d.s.t/\cK d.s.v->aE [d.s]=0:=fun U=>by rw[EF,if_pos U]
 cases hs with
 |kind b=>exact BH (Z:=Z) d hd (j8 L E) I b
 |xm b J=>exact iz (Z:=Z) d hd (j8 L E) I b _ (kX J)
 |rC b J j B=>exact iz (Z:=Z) d hd (j8 L E) I b _ (nI (s:=j8 L E) J B)
 |xp b J B hf=>exact iz (Z:=Z) d hd (j8 L E) I b _ (kY (s:=j8 L E) J B hf)
 |BM b J B h6 V=>
  have :=iz (Z:=Z) d hd (j8 L E) I b _ (rl (s:=j8 L E) J B h6 V)
  rw[Gx,jk]
  exact this
 |gone b B=>exact BI (Z:=Z) d hd (j8 L E) I b B
 |BN b m h1 V h3=>
  have ax:=h.g.An
  have hle:=rn E m
  have hu:((min (max 0 d.kp) (aA E).length).toNat:Int)=min (max 0 d.kp) (aA E).length:=Int.toNat_of_nonneg (by omega)
  generalize hU:(min (max 0 d.kp) (aA E).length).toNat=u at hu
  have a0:u<=(aA E).length:=by omega
  have aa:(aA (E.take m)).length<=u:=by
   by_cases e:m=0
   ·subst e;simp[aA]
   ·have :=V (m-1) (by omega)
    rw[nL,show m-1+1=m by omega]at this
    omega
  have ah:m<E.length->u<(aA (E.take (m+1))).length:=fun al=>by
   have :=h3 m (Nat.le_refl _) al
   rw[nL]at this
   have a3:=nM al
   omega
  obtain⟨o1,o2⟩:=rz av (fun i B=>(jR (h.g.ev B).2.2).2) h1 a0 aa ah
  have hg:=h.g.take m
  have a4:(E.take m).length=m:=by rw[List.length_take];omega
  exact BQ (Z:=Z) d hd (j8 L E) I b ax.2 u hu _ rfl (E.take m) o1 (by omega) (aA (E.take m)) o2.symm aa (yX E m) (fun i B=>(hg.e i B).at)
 |over b j x B D G U=>
  have e:aE [d.s]=11:=by rw[EF,if_neg U]
  have a1:aE [d.s]≠0:=by rw[e];decide
  refine found j x (by omega) B D G ⟨11,x.ch,x.op,aA E,E.length⟩ ?_ (fy D) rfl rfl
  rw[k2 b,xe a1,e];rfl
 |old b j x B D G U h0 X=>
  refine found j x (by omega) B D G ⟨9,x.ch,x.op,aA E,E.length⟩ ?_ (fy D) rfl rfl
  rw[k2 b,Ae (W U) h0 X];rfl
 |plain b j x B D G U J h8=>
  refine found j x (by omega) B D G ⟨0,x.ch,x.op++ [d.s],aA E,E.length⟩ ?_ rfl rfl rfl
  rw[k2 b,uO (W U) J (by omega)];rfl
 |xq b j x B D G U J h8 hf=>
  have O:=h.ln x (List.mem_of_getElem? D)
  have X:=O.o
  have hc:=O.c
  have Y:cH x.nm x.ch x.op (aA E) E.length=_:=lH (by omega) (by omega)
  refine found j x (by omega) B D G ⟨8,x.ch,x.op,aA E,E.length⟩ ?_ (fy D) rfl rfl
  rw[k2 b,rh (W U) J (by omega) Y (show ¬ (8:Int)=0 by decide)];rfl
 |tf b j x B D G U J h8 J0 V=>
  have O:=h.ln x (List.mem_of_getElem? D)
  have X:=O.o
  have Y:cH x.nm x.ch x.op (aA E) E.length=_:=qT (by omega) (by omega) (by omega)
  refine found j x (by omega) B D G ⟨0,x.ch++ [x.op],[]++ [d.s],aA E++bg (aV 2 x.nm++bf x.op),E.length+1⟩ ?_ rfl (Au E x.nm x.op).symm (jk _ _).symm
  rw[k2 b,mE (W U) J (by omega) Y rfl];rfl
 |EE b j x B D G h0=>
  refine found j x (by omega) B D G ⟨0,x.ch,x.op,aA E,E.length⟩ ?_ (fy D) rfl rfl
  rw[k6 b,wS h0];rfl
 |xr b j x B D G h0 hf=>
  have O:=h.ln x (List.mem_of_getElem? D)
  have hc:=O.c
  refine found j x (by omega) B D G ⟨8,x.ch,x.op,aA E,E.length⟩ ?_ (fy D) rfl rfl
  rw[k6 b,lH h0 (by omega)];rfl
 |BO b j x B D G h0 J0 V=>
  refine found j x (by omega) B D G ⟨0,x.ch++ [x.op],[],aA E++bg (aV 2 x.nm++bf x.op),E.length+1⟩ ?_ rfl (Au E x.nm x.op).symm (jk _ _).symm
  rw[k6 b,qT h0 (by omega) (by omega)];rfl
 |xt b j x B D G hf=>
  refine found j x (by omega) B D G ⟨8,x.ch,x.op,aA E,E.length⟩ ?_ (fy D) rfl rfl
  rw[k5 b];unfold gB;rw[if_pos (by omega)];rfl
 |BP b j x B D G hf=>
  refine found j x (by omega) B D G ⟨0,x.ch.filter (aO d.kp),x.op,aA E++bg (aV 3 x.nm++bR 8 (cY d.kp)),E.length+1⟩ ?_ rfl (by rw[G];exact(Gy E d.nm d.kp).symm) (jk _ _).symm
  rw[k5 b];unfold gB;rw[if_neg (by omega)];rfl
 |range b j x B D G=>
  refine found j x (by omega) B D G ⟨0,x.ch,x.op,aA E,E.length⟩ ?_ (fy D) rfl rfl
  unfold xP;rw[if_neg (by omega),if_neg (by omega),if_neg (by omega),if_pos b]
 |total b j x B D G=>
  refine found j x (by omega) B D G ⟨0,x.ch,x.op,aA E,E.length⟩ ?_ (fy D) rfl rfl
  unfold xP;rw[if_neg (by omega),if_neg (by omega),if_neg (by omega),if_neg (by omega)]
def Jf(d:Dd):List D:= [.val (.int .i64 d.k), .val (.string d.nm), .val (.int .i64 d.s.t), .val (.int .i64 d.s.v), .val (.int .i64 d.fr), .val (.int .i64 d.to), .val (.int .i64 d.kp)]
def r9(ds:List Dd):Nat->Nat->D:=fun i c=>(Jf (ds.getD i default)).getD c .any
def uU(ds:List Dd):SV:= .d (.vec 7 ds.length (r9 ds))
def Ki(f:Fd):List D:= [.val (.int .i64 f.code), .vec 2 f.l.length (b6 f.l), .val (.int .i64 f.ro.c), .val (.int .i64 f.ro.lo), .val (.int .i64 f.ro.hi), .val (.int .i64 f.ro.s), .val (.int .i64 f.n)]
def Hc(b:List Fd):Nat->Nat->D:=fun i c=>(Ki (b.getD i (eC 0))).getD c .any
def Jg(b:List Fd):aB:= .rows 41 7 b.length (Hc b)
def Jh(b:List Fd):SV:= .d (.vec 7 b.length (Hc b))
theorem H8(b:List Fd)(f:Fd)(i c:Nat)(e:i<b.length+1)(k:c<7):dZ (Hc b) b.length (iF 7 (Ki f)) i c=Hc (b++ [f]) i c:=by
 unfold dZ
 by_cases hl:i<b.length
 ·rw[if_pos hl]
  unfold Hc
  congr 2
  simp[List.getD,List.getElem?_append_left hl]
 ·rw[if_neg hl]
  have :i=b.length:=by omega
  subst this
  unfold Hc iF
  rw[Nat.sub_self,Nat.zero_mul,Nat.zero_add,show(b++ [f]).getD b.length (eC 0)=f by simp[List.getD]]
noncomputable def rF(ds:List Dd)(n:Nat):List Fd:=(lM ds n).1
noncomputable def Ck(ds:List Dd)(n:Nat):List Ln:=(lM ds n).2.1
noncomputable def nN(ds:List Dd)(n:Nat):List Ev:=(lM ds n).2.2
noncomputable def fR(ds:List Dd)(n:Nat):Fd:=(rE (ds.getD n default) (Ck ds n) (nN ds n)).1
theorem nO(ds:List Dd)(n:Nat):dt (ds.getD n default) (Ck ds n) (nN ds n) (fR ds n) (Ck ds (n+1)) (nN ds (n+1)):=xu _ _ _
theorem lb(ds:List Dd)(n:Nat):rF ds (n+1)=rF ds n++ [fR ds n]:=rfl
theorem uV(ds:List Dd)(n:Nat):(rF ds n).length=n:=xv ds n
theorem uW{ds:List Dd}(hd:∀ i,i<ds.length->mF (ds.getD i default)){n:Nat}(h:n<=ds.length):vi (Ck ds n) (nN ds n):=As hd n h
noncomputable def xw(ds:List Dd):List Fd:=if 300<ds.length then[]else rF ds ds.length
noncomputable def km(ds:List Dd):List Int:=if 300<ds.length then[]else aA (nN ds ds.length)
def BT(ds:List Dd):Int:=if 300<ds.length then 1 else 0
theorem Av(ds:List Dd)(hd:∀ i,i<ds.length->mF (ds.getD i default))(X:ds.length<=300):Spec Tryd.prog GF 5 [uU ds] [] (fun r I=>r=SV.bA [Jh (xw ds),cI (km ds),SV.i (BT ds)]/\I= []):=by
 have k:xw ds=rF ds ds.length:=if_neg (by omega)
 have v:km ds=aA (nN ds ds.length):=if_neg (by omega)
 have B:BT ds=0:=if_neg (by omega)
 rw[k,v,B]
 refine start 33 0 Tryd.func5 rfl rfl rfl rfl ?_
 refine r1<|sT 2 0 1 rfl<|sT 3 8 2 rfl<|sT 4 16 3 rfl<|e1 24 rfl<|ab [0] rfl<|ai<|r1<|sT 9 24 1 rfl<|sO 10 32 2 rfl<|sO 11 40 3 rfl<|e1 48 rfl<|ab [0,11] rfl ?_
 refine q1 rfl (fun b=>?_) (fun b=>?_)
 simp at b;omega
 try simp only[cs,ne_eq]at b
 refine ak<|tn<|r1<|sT 12 48 1 rfl<|sT 13 56 2 rfl<|sT 14 64 3 rfl<|sT 5 72 4 rfl<|e1 80 rfl<|ab [0,5] rfl ?_
 refine tofam 48 rfl ?_
 refine fl 64 1 5 1 (dm []) rfl rfl rfl ?_
 refine r1<|sT 6 88 1 rfl<|e1 96 rfl<|ab [0,5,6] rfl ?_
 refine fV 6 41 7 (Hc []) rfl ?_
 refine ai<|r1<|sT 15 104 1 rfl<|sO 16 112 2 rfl<|sT 17 120 3 rfl<|e1 128 rfl<|ab [5,6,15,16,17] rfl<|au ?_
 refine loop (α:=Nat×(List Nat)) 4 (fun z=> [(5, .ptr 0 0 0),(6, .sl 3 0 (rF ds (z.1)).length),(15,uU ds),(16,SV.i ds.length),(17,SV.i (z.1))]) (fun z=> [some (.cells 55 3 [.map 1, .sl 2 0 (aA (nN ds (z.1))).length,SV.i (nN ds (z.1)).length]),some (.fam (z.2) ⟨a9 (Ck ds (z.1)),[],none⟩),some (bY (aA (nN ds (z.1)))),some (Jg (rF ds (z.1)))]) (fun z=>(z.1)<=ds.length) (fun z=>ds.length-(z.1)) (((0,[]):Nat×(List Nat))) [64,48,80,96] (fun _=>rfl) (show(0)<=ds.length from(Nat.zero_le _)) rfl ⟨rfl,rfl,rfl,rfl,rfl,trivial⟩ ⟨rfl,rfl,rfl,rfl,trivial⟩ (fun z E=>?_)
 obtain⟨n,J⟩:=z
 show W _ _ _ ⟨dG [(5, .ptr 0 0 0),(6, .sl 3 0 (rF ds n).length),(15,uU ds),(16,SV.i ds.length),(17,SV.i n)],dC [some (.cells 55 3 [.map 1, .sl 2 0 (aA (nN ds n)).length,SV.i (nN ds n).length]),some (.fam J ⟨a9 (Ck ds n),[],none⟩),some (bY (aA (nN ds n))),some (Jg (rF ds n))],4⟩
 have E:n<=ds.length:=E
 have O:=uV ds n
 refine r1<|sO 18 4 1 rfl<|e1 12 rfl<|ab [5,6,15,16,17,18] rfl<|ai ?_
 refine q1 rfl (fun e=>?_) (fun e=>?_)
 try simp only[cs,ne_eq]at e
 refine ak<|tn<|ai<|au<|r1 ?_
 refine sV 19 12 1 rfl ⟨by omega,by omega⟩ ?_
 refine sV 20 20 2 rfl (by simp only[Int.toNat_natCast];omega) ?_
 refine val 20 (Gl (ds.getD n default)) rfl (by first|rfl|(simp only[Nat.zero_add,Int.toNat_natCast];rfl)) ?_
 refine sT 8 28 3 rfl<|cJ 36 4 rfl rfl rfl rfl rfl<|e1 44 rfl<|ab [5,6,8,15,16,17] rfl ?_
 refine r0 ?_
 refine sT 21 44 1 rfl<|sT 22 52 2 rfl<|sO 23 60 3 rfl ?_
 refine cQ (BS (ds.getD n default) (hd n (by omega)) (uW hd (n:=n) (by omega)) (nO ds n)) [0,1,2] 24 68 4 rfl rfl rfl rfl rfl rfl rfl Tryd.func11 rfl rfl rfl ⟨rfl,rfl,rfl,trivial⟩ ?_
 rintro _ _ ⟨G,rfl,rfl⟩
 refine val 24 (kj (fR ds n)) rfl rfl ?_
 refine kg 68 _ rfl (.fam G ⟨a9 (Ck ds (n+1)),[],none⟩) rfl ?_
 refine sT 25 76 5 rfl ?_
 refine sV 26 84 6 rfl ⟨Nat.le_refl _,trivial,(by show(_+1)*72<=140737488355328;omega),(by simp only[maxLen];omega)⟩ ?_
 refine sT 6 92 7 rfl<|e1 100 rfl<|bn<|tn ?_
 refine bP 84 (rF ds (n+1)).length (Hc (rF ds (n+1))) rfl (by rw[lb,jk]) (fun i c U V=>by rw[lb];exact H8 _ _ i c U V) ?_
 refine cB 6 (.sl 84 0 (rF ds (n+1)).length) rfl (by rw[lb,jk]) ?_
 refine r0 ?_
 refine de 27 100 1 rfl<|sT 17 108 2 rfl<|e1 116 rfl<|tn ?_
 exact again (((n+1,G):Nat×(List Nat))) [0,68,69,84] (show(n+1)<=ds.length from(by omega)) (show ds.length-(n+1)<ds.length-n from(by omega)) rfl ⟨rfl,rfl,rfl,rfl,rfl,trivial⟩ ⟨rfl,rfl,rfl,rfl,trivial⟩
 try simp only[cs,ne_eq]at e
 refine bI<|tx<|tx<|bx<|tn ?_
 have D:n=ds.length:=(by omega)
 subst D
 refine kD rfl ?_
 refine dT 28 12 1 rfl<|dT 29 20 2 rfl<|dT 30 28 3 rfl<|dT 31 36 4 rfl<|dO 32 44 5 rfl<|dT 2 52 6 rfl<|dT 3 60 7 rfl<|dT 4 68 8 rfl<|iT 76 rfl (by kernel_rfl)<|ab [2,3,4] rfl ?_
 refine freeze 2 3 (rF ds ds.length).length rfl rfl (Nat.le_refl _) ?_
 refine freeze 3 2 (aA (nN ds ds.length)).length rfl rfl (Nat.le_refl _) ?_
 refine ao ?_
 exact FA 2 3 4 (Jh (rF ds ds.length)) (cI (aA (nN ds ds.length))) (SV.i 0) (π:= []) (ae:= []) Tryd.results5 rfl rfl rfl rfl rfl rfl rfl rfl trivial ⟨rfl,rfl⟩
def nA:ByteArray:=⟨#[97]⟩
def eN:Dd:=⟨7,⟨#[]⟩,⟨0,0⟩,0,0,1099511627776⟩
def ij:Dd:=⟨4,nA,⟨0,0⟩,-1099511627776,1099511627776,0⟩
theorem xx(A B:List Dd):∀ n,n<=A.length->lM (A++B) n=lM A n
 |0,_=>rfl
 |n+1,h=>by
  have e:(A++B).getD n default=A.getD n default:=by simp only[List.getD];rw[List.getElem?_append_left (by omega)]
  show(_,_,_)=(_,_,_)
  rw[e,xx A B n (by omega)]
theorem BU{L:List Ln}{E:List Ev}{f:Fd}{k:List Ln}{v:List Ev}(h:dt eN L E f k v)(G:((aA E).length:Int)<=1099511627776):k=aH E/\v=E:=by
 have bad:∀ {p:Prop},(2:Int)<=7/\(7:Int)<=6->p:=fun h=>by omega
 cases h with
 |BN b m B I D=>
  have :m=E.length:=by
   refine Nat.le_antisymm B (Nat.le_of_not_lt fun e=>?_)
   have :=D m (Nat.le_refl _) e
   have J:=rn E (m+1)
   rw[nL]at this
   have this:(1099511627776:Int)<((aA (E.take (m+1))).length:Int):=this
   omega
  subst this
  rw[List.take_length];exact⟨rfl,rfl⟩
 |kind h=>exact absurd h (by decide)
 |gone b=>exact absurd b (by decide)
 |xm b|rC b|xp b|BM b|over b|old b|plain b|xq b|tf b|EE b|xr b|BO b|xt b|BP b|range b|total b=>exact absurd b (by decide)
theorem EH{L:List Ln}{E:List Ev}{f:Fd}{e:List Ln}{b:List Ev}(h:dt ij L E f e b):
  b=E/\((bj nA L=none/\f=eC 6)\/∃ j x,bj nA L=some j/\L[j]? =some x/\f=⟨0,[],nH ((bJ x.ch x.op).filter (dK (-1099511627776) 1099511627776)),0⟩):=by
 cases h with
 |total hk j x hi hj hx=>exact⟨rfl, .inr ⟨j,x,hi,hj,rfl⟩⟩
 |gone hk hi=>exact⟨rfl, .inl ⟨hi,rfl⟩⟩
 |kind h=>exact absurd h (by decide)
 |xm hk|rC hk|xp hk|BM hk|BN hk|over hk|old hk|plain hk|xq hk|tf hk|EE hk|xr hk|BO hk|xt hk|BP hk|range hk=>exact absurd hk (by decide)
theorem BV{ds:List Dd}(hd:∀ i,i<ds.length->mF (ds.getD i default)):
  nN (ds++ [eN,ij]) (ds.length+2)=nN ds ds.length/\∃ G e,rF (ds++ [eN,ij]) (ds.length+2)=rF ds ds.length++ [G,e]/\
   ((bj nA (aH (nN ds ds.length))=none/\e=eC 6)\/∃ j x,bj nA (aH (nN ds ds.length))=some j/\(aH (nN ds ds.length))[j]? =some x/\e=⟨0,[],nH ((bJ x.ch []).filter (dK (-1099511627776) 1099511627776)),0⟩):=by
 have k:=xx ds [eN,ij] ds.length (Nat.le_refl _)
 have I:=uW hd (Nat.le_refl _)
 have s1:=nO (ds++ [eN,ij]) ds.length
 have D:=nO (ds++ [eN,ij]) (ds.length+1)
 have e1:(ds++ [eN,ij]).getD ds.length default=eN:=by simp[List.getD]
 have J:(ds++ [eN,ij]).getD (ds.length+1) default=ij:=by simp[List.getD]
 have l1:Ck (ds++ [eN,ij]) ds.length=Ck ds ds.length:=by unfold Ck;rw[k]
 have O:nN (ds++ [eN,ij]) ds.length=nN ds ds.length:=by unfold nN;rw[k]
 have U:rF (ds++ [eN,ij]) ds.length=rF ds ds.length:=by unfold rF;rw[k]
 rw[e1,l1,O]at s1
 have V:=I.g.An.1
 obtain⟨W,X⟩:=BU s1 (by omega)
 rw[J,W,X]at D
 obtain⟨Y,b2⟩:=EH D
 refine⟨Y,fR (ds++ [eN,ij]) ds.length,fR (ds++ [eN,ij]) (ds.length+1),?_,?_⟩
 ·rw[lb,lb,U,List.append_assoc];rfl
 ·rcases b2 with⟨v,b⟩|⟨j,x,v,b,E⟩
  ·exact .inl ⟨v,b⟩
  ·have B:=oO (nN ds ds.length) x (List.mem_of_getElem? b)
   rw[B]at E
   exact .inr ⟨j,x,v,b,E⟩
structure mH (Q:aR->Prop) (L:List Ln) (E:List Ev):Prop where
 ch:∀ x,x∈L->∀ c,c∈x.ch->∀ s,s∈c->Q s
 op:∀ x,x∈L->∀ s,s∈x.op->Q s
 ev:∀ e,e∈E->∀ s,s∈e.l->Q s
section
variable {Q:aR->Prop}
theorem Aw{L:List Ln}{nm:ByteArray}{f:Ln->Ln}{x:Ln}(h:x∈Ai L nm f):x∈L\/∃ y,y∈L/\x=f y:=by
 unfold Ai at h
 cases b:bj nm L with
 |none=>rw[b]at h;exact .inl h
 |some j=>
  rw[b]at h
  obtain⟨y,k,_⟩:=fe b
  have e:L.getD j default=y:=by simp[List.getD,k]
  have h:x∈L.set j (f (L.getD j default)):=h
  rw[e]at h
  rcases List.mem_or_eq_of_mem_set h with h|h
  ·exact .inl h
  ·exact .inr ⟨y,List.mem_of_getElem? k,h⟩
theorem th{E:List Ev}(h:∀ e,e∈E->∀ s,s∈e.l->Q s):∀ x,x∈aH E->∀ c,c∈x.ch->∀ s,s∈c->Q s:=by
 have key:∀ (E:List Ev) (L:List Ln),(∀ e,e∈E->∀ s,s∈e.l->Q s)->(∀ x,x∈L->∀ c,c∈x.ch->∀ s,s∈c->Q s)->∀ x,x∈E.foldl da L->∀ c,c∈x.ch->∀ s,s∈c->Q s:=by
  intro E
  induction E with
  |nil=>exact fun L _ h=>h
  |cons e E J=>
   intro L I B
   refine J _ (fun O D=>I O (List.mem_cons_of_mem _ D)) ?_
   intro x b c k s v
   unfold da at b
   split at b
   ·rcases List.mem_append.1 b with b|b
    ·exact B x b c k s v
    ·simp at b;subst b;simp at k
   ·split at b
    ·rcases Aw b with b|⟨y,G,rfl⟩
     ·exact B x b c k s v
     ·rcases List.mem_append.1 k with k|k
      ·exact B y G c k s v
      ·simp at k;subst k;exact I e (List.mem_cons_self ..) s v
    ·rcases Aw b with b|⟨y,G,rfl⟩
     ·exact B x b c k s v
     ·exact B y G c (List.mem_filter.1 k).1 s v
 exact key E [] h (fun x b=>by simp at b)
theorem mH.set{L:List Ln}{E k:List Ev}(h:mH Q L E){j:Nat}{y:Ln}(v:∀ c,c∈y.ch->∀ s,s∈c->Q s)(B:∀ s,s∈y.op->Q s)(D:∀ e,e∈k->∀ s,s∈e.l->Q s):mH Q (L.set j y) k:=by
 refine⟨fun x b=>?_,fun x b=>?_,D⟩
 ·rcases List.mem_or_eq_of_mem_set b with b|rfl
  ·exact h.ch x b
  ·exact v
 ·rcases List.mem_or_eq_of_mem_set b with b|rfl
  ·exact h.op x b
  ·exact B
theorem mH.step{d:Dd}(hd:d.k=2->Q d.s){L:List Ln}{E:List Ev}{f:Fd}{V:List Ln}{W:List Ev}(b:dt d L E f V W)(h:mH Q L E):mH Q V W:=by
 have evs:∀ {l:List aR} {nm:ByteArray} {k:Nat} {kp:Int},(∀ s,s∈l->Q s)->∀ e,e∈E++ [⟨k,nm,l,kp⟩]->∀ s,s∈e.l->Q s:=fun hl e B=>by
  rcases List.mem_append.1 B with B|B
  ·exact h.ev e B
  ·simp at B;subst B;exact hl
 have snoc:∀ {ch:List (List aR)} {l:List aR},(∀ c,c∈ch->∀ s,s∈c->Q s)->(∀ s,s∈l->Q s)->∀ c,c∈ch++ [l]->∀ s,s∈c->Q s:=fun X J c D=>by
  rcases List.mem_append.1 D with D|D
  ·exact X c D
  ·simp at D;subst D;exact J
 cases b with
 |BM G Y O h6 J=>
  refine⟨fun x v=>?_,fun x v=>?_,evs (fun s b=>by simp at b)⟩
  ·rcases List.mem_append.1 v with v|v
   ·exact h.ch x v
   ·simp at v;subst v;intro c D;cases D
  ·rcases List.mem_append.1 v with v|v
   ·exact h.op x v
   ·simp at v;subst v;intro s b;cases b
 |BN G m X J h3=>
  have B:∀ e,e∈E.take m->∀ s,s∈e.l->Q s:=fun e B=>h.ev e (List.mem_of_mem_take B)
  exact⟨th B,fun x v s b=>(by rw[oO _ x v]at b;cases b),B⟩
 |plain G j x O I v hb Y h8=>
  have hm:=List.mem_of_getElem? I
  refine h.set (h.ch x hm) (fun s b=>?_) h.ev
  rcases List.mem_append.1 b with b|b
  ·exact h.op x hm s b
  ·simp at b;subst b;exact hd G
 |tf G j x O I v hb Y h8 U J=>
  have hm:=List.mem_of_getElem? I
  exact h.set (snoc (h.ch x hm) (h.op x hm)) (fun s b=>by simp at b;subst b;exact hd G) (evs (h.op x hm))
 |BO G j x O I v h0 U J=>
  have hm:=List.mem_of_getElem? I
  exact h.set (snoc (h.ch x hm) (h.op x hm)) (fun s b=>by cases b) (evs (h.op x hm))
 |BP G j x O I v hf=>
  have hm:=List.mem_of_getElem? I
  exact h.set (fun c D=>h.ch x hm c (List.mem_filter.1 D).1) (h.op x hm) (evs (fun s b=>by cases b))
 |_=>exact h
theorem Ay{ds:List Dd}(e:∀ i,i<ds.length->(ds.getD i default).k=2->Q (ds.getD i default).s):∀ n,n<=ds.length->mH Q (Ck ds n) (nN ds n)
 |0,_=>⟨fun x b=>(by cases b),fun x b=>(by cases b),fun x b=>(by cases b)⟩
 |n+1,h=>(Ay e n (by omega)).step (e n (by omega)) (nO ds n)
end
def BW(r:List Int):Int:=bits .xor .i64 (IntKind.i64.wrap (dS (r.drop 3))) (-9223372036854775808)
def jm(e:Int)(b:List Int):Bool:=aO e (cO b)
def nP(r:List Int):Prop:=r.length=2/\r.getD 0 0=1/\r.getD 1 0=97
def nT(r:List Int):Prop:=3<r.length/\r.getD 0 0=2/\r.getD 1 0=1/\r.getD 2 0=97
def oQ(r:List Int):Prop:=r.length=11/\r.getD 0 0=3/\r.getD 1 0=1/\r.getD 2 0=97
instance (r:List Int):Decidable (nP r):=inferInstanceAs (Decidable (_/\_))
instance (r:List Int):Decidable (nT r):=inferInstanceAs (Decidable (_/\_))
instance (r:List Int):Decidable (oQ r):=inferInstanceAs (Decidable (_/\_))
def mI(p:Bool×List (List Int))(r:List Int):Bool×List (List Int):=
 if nP r then(true,p.2)else if nT r then(p.1,p.2++ [r.drop 3])else if oQ r then(p.1,p.2.filter (jm (BW r)))else p
def aw(R:List (List Int)):Nat->Bool×List (List Int)
 |0=>(false,[])
 |n+1=>mI (aw R n) (R.getD n [])
def xy(L:List Ln):Bool×List (List Int):=
 match bj nA L with
 |none=>(false,[])
 |some j=>(true,((L.getD j default).ch).map bf)
theorem Hd{nm:ByteArray}(h:fb nm= [97]):nm=nA:=by
 have e:nm.size=1:=by rw[<-bN nm,h];rfl
 have b:=uD nm 0 (by omega)
 rw[h]at b
 obtain⟨⟨l⟩⟩:=nm
 match l,e with
 | [a],_=>
  have b:(97:Int)=(a.toNat:Int):=b
  have :a=97:=UInt8.toNat_inj.1 (show a.toNat=97 by omega)
  subst this;rfl
theorem He:fb nA= [97]:=rfl
theorem rG{L:List Ln}{nm b:ByteArray}:bj nm (L++ [⟨b,[],[]⟩])=match bj nm L with |some j=>some j|none=>if nm=b then some L.length else none:=by
 induction L with
 |nil=>simp[bj]
 |cons x L ih=>
  show bj nm (x::(L++_))=_
  unfold bj
  by_cases e:nm=x.nm
  ·rw[if_pos e,if_pos e]
  ·rw[if_neg e,if_neg e,ih]
   cases bj nm L with
   |some j=>rfl
   |none=>by_cases k:nm=b<;>simp[k]
theorem uX{nm:ByteArray}:∀ {L:List Ln} {j:Nat} {y:Ln},(∀ x,L[j]? =some x->y.nm=x.nm)->bj nm (L.set j y)=bj nm L
 | [],_,_,_=>rfl
 |x::L,0,y,h=>by
  have :=h x rfl
  show bj nm (y::L)=_
  unfold bj;rw[this]
 |x::L,j+1,y,h=>by
  show bj nm (x::L.set j y)=_
  unfold bj
  rw[uX (L:=L) (fun z b=>h z (by simpa using b))]
theorem tj{L:List Ln}{nm:ByteArray}{f:Ln->Ln}(I:∀ x,(f x).nm=x.nm)(h:nm≠nA):xy (Ai L nm f)=xy L:=by
 unfold Ai
 cases J:bj nm L with
 |none=>rfl
 |some j=>
  obtain⟨y,b,v⟩:=fe J
  have e:L.getD j default=y:=by simp[List.getD,b]
  show xy (L.set j (f (L.getD j default)))=_
  rw[e]
  have O:bj nA (L.set j (f y))=bj nA L:=uX fun x E=>by rw[b]at E;obtain rfl:=Option.some.inj E;exact I _
  unfold xy
  rw[O]
  cases U:bj nA L with
  |none=>rfl
  |some k=>
   obtain⟨z,G,B⟩:=fe U
   have D:j≠k:=fun e=>by subst e;rw[b]at G;obtain rfl:=Option.some.inj G;exact h (v▸B▸rfl)
   have :(L.set j (f y)).getD k default=L.getD k default:=by simp only[List.getD];rw[List.getElem?_set_ne D]
   simp only[this]
theorem Az{L:List Ln}{f:Ln->Ln}(D:∀ x,(f x).nm=x.nm){j:Nat}{x:Ln}(v:bj nA L=some j)(b:L[j]? =some x):xy (Ai L nA f)=(true,(f x).ch.map bf):=by
 unfold Ai
 rw[v]
 have e:L.getD j default=x:=by simp[List.getD,b]
 show xy (L.set j (f (L.getD j default)))=_
 rw[e]
 unfold xy
 rw[uX (fun z B=>by rw[b]at B;obtain rfl:=Option.some.inj B;exact D _),v]
 have k:=(List.getElem?_eq_some_iff.1 b).1
 show(true,((L.set j (f x)).getD j default).ch.map bf)=_
 rw[show(L.set j (f x)).getD j default=f x by simp only[List.getD];rw[List.getElem?_set_self k];rfl]
theorem oR{L:List Ln}{j:Nat}{x:Ln}(b:bj nA L=some j)(e:L[j]? =some x):xy L=(true,x.ch.map bf):=by
 unfold xy;rw[b]
 show(true,((L.getD j default).ch).map bf)=_
 rw[show L.getD j default=x by simp[List.getD,e]]
theorem nQ{L:List Ln}(b:bj nA L=none):xy L=(false,[]):=by unfold xy;rw[b]
theorem H9(nm:ByteArray):aY ⟨1,nm,[],0⟩=1::fb nm:=rfl
theorem Ia(nm:ByteArray)(l:List aR):aY ⟨2,nm,l,0⟩=2::(nm.size:Int)::(fb nm++bf l):=rfl
theorem Ib(nm:ByteArray)(b:Int):aY ⟨3,nm,[],b⟩=3::(nm.size:Int)::(fb nm++bR 8 (cY b)):=rfl
theorem AA{nm:ByteArray}{R:List Int}(k:(nm.size:Int)=1)(b:(fb nm++R).getD 0 0=97):nm=nA:=by
 have hl:(fb nm).length=1:=by rw[bN];omega
 refine Hd ?_
 match e:fb nm,hl with
 | [a],_=>rw[e]at b;have b:a=97:=b;subst b;rfl
theorem Ic{L:List Ln}(hL:EA L){e:Ev}(he:Je L e)(W:EA (da L e)):mI (xy L) (aY e)=xy (da L e):=by
 rcases he with⟨nm,rfl,h8,O⟩|⟨nm,l,j,x,rfl,h8,ah,X,O,Y,hx,ho⟩|⟨nm,v,j,x,rfl,h8,J,O,Y,hx⟩
 ·have B:da L ⟨1,nm,[],0⟩=L++ [⟨nm,[],[]⟩]:=rfl
  rw[B,H9]
  by_cases D:nm=nA
  ·subst D
   have U:nP (1::fb nA):=⟨rfl,rfl,rfl⟩
   unfold mI
   rw[if_pos U]
   have :bj nA (L++ [⟨nA,[],[]⟩])=some L.length:=by rw[rG,O];simp
   rw[oR this (x:=⟨nA,[],[]⟩) (by simp),nQ O];rfl
  ·have E: ¬ nP (1::fb nm):=fun⟨a,_,b⟩=>D (by
    have hl:(fb nm).length=1:=by simpa using a
    refine Hd ?_
    match e:fb nm,hl with
    | [y],_=>rw[e]at b;have b:y=97:=b;subst b;rfl)
   have G: ¬ nT (1::fb nm):=fun⟨_,a,_⟩=>absurd (show(1:Int)=2 from a) (by decide)
   have I: ¬ oQ (1::fb nm):=fun⟨_,a,_⟩=>absurd (show(1:Int)=3 from a) (by decide)
   unfold mI
   rw[if_neg E,if_neg G,if_neg I]
   cases V:bj nA L with
   |none=>
    rw[nQ V,nQ]
    rw[rG,V];simp[Ne.symm D]
   |some k=>
    obtain⟨z,X,_⟩:=fe V
    have aa:=(List.getElem?_eq_some_iff.1 X).1
    rw[oR V X,oR (L:=L++ [_]) (by rw[rG,V]) (by rw[List.getElem?_append_left aa];exact X)]
 ·have B:da L ⟨2,nm,l,0⟩=Ai L nm (gA l):=rfl
  rw[B]at W ⊢
  rw[Ia]
  have E: ¬ nP (2::(nm.size:Int)::(fb nm++bf l)):=fun⟨_,a,_⟩=>absurd (show(2:Int)=1 from a) (by decide)
  have I: ¬ oQ (2::(nm.size:Int)::(fb nm++bf l)):=fun⟨_,a,_⟩=>absurd (show(2:Int)=3 from a) (by decide)
  unfold mI
  rw[if_neg E]
  by_cases D:nm=nA
  ·subst D
   have hr:=fS X
   have al:(bf l).length≠0:=fun e=>by
    have :=hr.1
    unfold bT at this
    rw[if_pos e]at this;exact absurd this (by decide)
   have U:nT (2::(nA.size:Int)::(fb nA++bf l)):=⟨by rw[He];simp;omega,rfl,rfl,rfl⟩
   rw[if_pos U,Az (f:=gA l) (fun _=>rfl) O Y,oR O Y]
   show(true,x.ch.map bf++ [bf l])=(true,(x.ch++ [l]).map bf)
   rw[List.map_append];rfl
  ·have G: ¬ nT (2::(nm.size:Int)::(fb nm++bf l)):=fun⟨_,_,a,b⟩=>D (AA a b)
   rw[if_neg G,if_neg I,tj (f:=gA l) (fun _=>rfl) D]
 ·have B:da L ⟨3,nm,[],v⟩=Ai L nm (iA v):=rfl
  rw[B]at W ⊢
  rw[Ib]
  have E: ¬ nP (3::(nm.size:Int)::(fb nm++bR 8 (cY v))):=fun⟨_,a,_⟩=>absurd (show(3:Int)=1 from a) (by decide)
  have G: ¬ nT (3::(nm.size:Int)::(fb nm++bR 8 (cY v))):=fun⟨_,a,_⟩=>absurd (show(3:Int)=2 from a) (by decide)
  unfold mI
  rw[if_neg E,if_neg G]
  have hp:(bR 8 (cY v)).length=8:=by unfold bR;rw[dF]
  by_cases D:nm=nA
  ·subst D
   have U:oQ (3::(nA.size:Int)::(fb nA++bR 8 (cY v))):=⟨by rw[He];simp[hp],rfl,rfl,rfl⟩
   rw[if_pos U,Az (f:=iA v) (fun _=>rfl) O Y,oR O Y]
   have V:BW (3::(nA.size:Int)::(fb nA++bR 8 (cY v)))=v:=by
    unfold BW
    show bits .xor .i64 (IntKind.i64.wrap (dS (bR 8 (cY v)))) _=_
    rw[zP v (by unfold aj at J;omega) (by unfold aj at J;omega)]
    exact zQ (by unfold aj at J;omega) (by unfold aj at J;omega)
   rw[V]
   show(true,(x.ch.map bf).filter (jm v))=(true,(x.ch.filter (aO v)).map bf)
   congr 1
   rw[List.filter_map]
   congr 1
   refine List.filter_congr fun c U=>?_
   show aO v (cO (bf c))=_
   rw[(fS (hx.ne c U).2.2).2]
  ·have I: ¬ oQ (3::(nm.size:Int)::(fb nm++bR 8 (cY v))):=fun⟨_,_,a,b⟩=>D (AA a b)
   rw[if_neg I,tj (f:=iA v) (fun _=>rfl) D]
theorem uY{E:List Ev}(h:Good E):∀ n,n<=E.length->aw (E.map aY) n=xy (aH (E.take n))
 |0,_=>rfl
 |n+1,hn=>by
  have e:(E.map aY).getD n []=aY (E.getD n default):=by
   simp only[List.getD];rw[List.getElem?_map,List.getElem?_eq_getElem (by omega)];rfl
  have b:=nK (show n<E.length by omega)
  show mI (aw (E.map aY) n) ((E.map aY).getD n [])=_
  rw[uY h n (by omega),e,b]
  exact Ic (h.l n (by omega)) (h.e n (by omega)) (by rw[<-b];exact h.l (n+1) hn)
end Go.Proofs.YtifcaekngfgdmaaDoor.Nice
namespace Go.Proofs.YtifcaekngfgdmaaDoor.Nice.Co
open Go Go.Conc Go.Conc.Lib Go.ConcR.Gen
open Go.ConcR (KK WgAt stA smA mk DC0)
section
variable {C:Ctx} {ops:List Oper} {i:Nat} {o:Oper} {l:List Oper} {t:Nat->SV} {h h':ar} {nx:Nat} {K:St->Prop}
theorem KD{f:FuncId}{args:List SV}{r:SV}{ae:List (Option aB)}(V:Spec C.P C.G f args [] (fun D E=>D=r/\E=ae)){x:Operand}{b:Array Operand}{I:Array TypeId}{fn:Func}{D:SV}
  (e:List Nat) (d nm U:Nat) (W:i+1=U) (J:nx+8*i=nm) (X:ay nm ae.length=e) (Y:o.guard=none) (v:o.dst=some d) (hd:Nat.blt d C.sz=true) (E:o.op= .call {callee:= .value x,args:=b,argTypes:=I}) (hx:yG (bE C t x)= .fn f []) (hf:C.P.funcs[f]? =some fn) (O:fE fn=true)
  (B:fZ (fun y=>yG (bE C t y)) b.toList++ []=gV [] args) (side:cS 0 args=true) (hr:(du e r).hd=some D) (hw:rQ h (c9 e e ae)=some h')
  (k:an C ops U l ⟨upd t d D,h',nx⟩ none K):an C ops i (o::l) ⟨t,h,nx⟩ none K:=by
 subst W;subst J;subst X
 refine KA (σ:=⟨t,h,nx⟩) V Y (by unfold aM;rw[v];exact hd) E hx hf O B side ?_
 rintro r1 aa ⟨rfl,rfl⟩
 unfold St.app;rw[v,SV.bD hr,ir hw];exact k
end
section
variable {C:Ctx} {A Rd:aI} {M:aD} {ds:List Deferred} {ρ:Names} {σ aF:St} {a:Act} {w:World}
theorem SX.sub{π:List Nat}{tl:List (Nat×SV)}{hl:List (Option aB)}(h:SX C A Rd M ds ρ σ.nx σ a w)(e:Sub C π σ tl hl):SX C A Rd M ds (back π ρ) (fg tl hl).nx (fg tl hl) a w:=by
 have b:=e.rel h.sr
 exact⟨h.fit,⟨b.tm,b.sz,b.df,b.hr,(fun n x h=>by cases h),b.pm,b.gl⟩,h.df,b.fr⟩
end
theorem SX.le{nb nb':Nat}{C:Ctx}{A Rd:aI}{M:aD}{ds:List Deferred}{ρ:Names}{σ:St}{a:Act}{w:World}(h:SX C A Rd M ds ρ nb σ a w)(e:nb<=nb'):SX C A Rd M ds ρ nb' σ a w:=⟨h.fit,h.sr,h.df,fun n b=>h.fr n (by omega)⟩
theorem RX.run{C:Ctx}{ops:Array Oper}{i:Nat}{Z:ZX}{K:Tr C.P}{ds:List Deferred}{σ:St}{A:aI}{M:aD}{ρ:Names}{a:Act}{w:World}{b:Frame}{k:List Item}{cs:List Frame}{nb:Nat}(h:RX C ops i Z K ds σ)(e:SX C A K.Rd M ds ρ nb σ a w)(v:nb<=σ.nx+8*i)(B:b.kind≠ .early)(D:Z M w b k cs):
 K.T A (G (b.at a (.inRegion ops (List.range' i (ops.size-i))::k)) cs) w:=h A M ρ a w (e.le v) b k cs B D
theorem SX.bump{C:Ctx}{A Rd:aI}{M:aD}{ds:List Deferred}{ρ:Names}{nb:Nat}{σ:St}{a:Act}{w:World}(h:SX C A Rd M ds ρ nb σ a w):SX C A Rd M ds ρ (St.nx ⟨σ.t,σ.h,nb⟩) ⟨σ.t,σ.h,nb⟩ a w:=⟨h.fit,⟨h.sr.tm,h.sr.sz,h.sr.df,h.sr.hr,h.sr.pn,h.sr.pm,h.sr.gl⟩,h.df,h.fr⟩
def ZB(P:Program)(f:FuncId)(e:List Item):ZX:=fun _ _ b k cs=>b=baseD f/\cs= [r6 P]/\k=e
theorem ZB.up{P:Program}{f:FuncId}{b:List Item}:Up (ZB P f b):=fun _ _ _ _ _ _ _ h _ _=>h
def SV.flat:SV->Bool
 | .agg xs=>xs.all SV.kU
 |x=>SV.kU x
theorem VR.flat{M:aD}{ρ aq:Names}{x:SV}{u:Value}(h:VR M ρ x u)(e:SV.flat x=true):VR M aq x u:=by
 cases h with
 |agg xs vs g hs v B=>
  refine .agg xs vs g hs v fun i y D=>VR.other (B i y D) ?_
  simp only[SV.flat,List.all_eq_true]at e
  exact e y (List.mem_of_getElem? D)
 |any=>exact .any _
 |d _ _ h=>exact .d _ _ h
 |vp k len f i c b o cur T E g G v B=>exact .vp k len f i c b o cur T E g G v B
 |_=>simp[SV.flat,SV.kU]at e
section
variable {C:Ctx} {Z:ZX} {ds:List Deferred} {σ:St} {ops:Array Oper} {i:Nat} {o:Oper} {Rd:aI} {aK:Value->World->Prop} {p:Pr} {x y:Operand}
theorem Gz(V:ops[i]? =some o)(hg:o.guard=none)(I:o.op= .send x y)(hx:bE C σ.t x= .d (.val (.chan (some p.Ch)))){T:SV}(hy:bE C σ.t y=T)(hT:SV.flat T=true){k:Nat}(E:∀ M v,(∀ ρ,VR M ρ T v)->p.rX k M v)
  {hl:Lo.wk k≠ .out} {hm:(Lo.wk k).mute=false}
  (hq:∀ M w b J cs (a:Act),Z M w b J cs->a.defers=ds->∀ af,gm p af->cy C.P p aK false ⟨no,no,0, .told⟩ (G (b.at a (.inRegion ops (List.range' (i+1) (ops.size-(i+1)))::J)) cs) af):RX C ops i Z (cZ C.P p aK false Rd 0 (.wk k) hl hm) ds σ:=by
 refine fx V fun A M ρ a w Y b J cs W hz=>cZ.intro fun hA af O ah=>?_
 have e:=Y.rely O
 have e1:=e.val hx
 have hv:=e.op y
 rw[hy]at hv
 refine cy.intro (.send rfl rfl k rfl rfl (G (b.at a (.inRegion ops (i::List.range' (i+1) (ops.size-(i+1)))::J)) cs) (a.eval y) (.tuple #[]) M (fun b W=>e.D2 W) e.sr.hr.fT (E M _ fun aq=>VR.flat hv hT) (fun B aa=>?_) fun B D=>?_)
 ·have U:(execOp a.eval o).run C.P B= .ok (.comm #[scase p.Ch (a.eval y) (.tuple #[])] true .send) B:=by
   simp[execOp,I,e1,scase]
  have X:(execOp a.eval o).events C.P B #[]= #[]:=by simp[execOp,I,e1]
  rw[stepG_comm V (dc hg) W U]
  unfold listed
  rw[X,seen_none]
 ·rw[served_G V]
  exact hq M w b J cs _ hz (by cases o.dst<;>simp[Act.put,Y.df]) B D
theorem xz{P:Program}{L:WgLink}(H:WgLib P L)(v:p.n<2147483647){f:FuncId}{fn:Func}(B:P.funcs[f]? =some fn)(D:fn.results= #[]){T:Array Value}{w:World}(e:gm p w):
  cy P p aK false ⟨no,no,0, .told⟩ (G ((baseD f).at ⟨T,[dcall L.done #[.pointer (some ⟨p.Wg,0,none⟩)]]⟩ [.inRegion ops []]) [r6 P]) w:=by
 have b:WK p no no w w:=⟨e, .refl w⟩
 refine cy.bH (n:=10) (by simp) ?_
 u_c stepG_region_end ag b
 u_c stepG_end ag b
 u_in ag b
 rw[stepG_unwind_enter rfl H.f_done (nm_done L) rfl]
 simp only[goes_go]
 refine⟨by u_nil,?_⟩
 (refine Goes.stop (fun E k=>?_);replace b:=ag b k;clear k)
 exact F7 H v rfl (s7 B D) b.1
end
theorem HR.Ie{M F:aD}{ρ:Names}{h:ar}{w:World}(B:HR M F ρ h w){n ty:Nat}{x:SV}{X:D}(I:h n=some (.cells ty 1 [x]))(hx:∀ M ρ v,VR M ρ x v->DR M X v){v:Value}(hv:VR M ρ (.ptr n 0 0) v):
  ∃ M',M.le M'/\HR M' F ρ (upd h n none) w/\VR M' ρ (.vp 1 1 (fun _ _=>X) 0 0) v:=by
 cases hv with
 |ptr _ _ _ y J=>
  obtain⟨y',E,O⟩:=B.live n _ I
  rw[J]at E;obtain rfl:=Option.some.inj E
  rcases O with⟨_,hg⟩|⟨V,hM,hF,o,h3,W⟩
  ·simp[aB.ghost]at hg
  cases o with
  |cells cur T fz=>
   obtain⟨rfl,rfl,g1,Y,g3,g4⟩:=W
   let M':aD:=fun b=>if b=y.b then some (.cells cur T (0,0))else M b
   have hle:M.le M':=by
    intro b o k
    have :b≠y.b:=by rintro rfl;rw[hM]at k;cases k
    simp[M',this,k]
   obtain⟨u,hu,U⟩:=g4 0 x rfl
   refine⟨M',hle,B.tB hle (fun m b hm=>?_) ?_ ?_ (fun m b z hm hz q0=>?_) (fun m S es hm b k=>?_),?_⟩
   ·rw[az]at hm;split at hm
    ·cases hm
    ·exact hm
   ·intro b o k
    by_cases e:b=y.b
    ·subst e;simp[M']at k;subst k;exact h3
    ·simp[M',e]at k;exact B.fT b o k
   ·intro b o k
    have :b≠y.b:=by rintro rfl;rw[hF]at k;cases k
    simp[M',this];exact B.j9 b o k
   ·rw[az]at hm;split at hm
    ·cases hm
    ·next e=>
     obtain⟨z',G,O⟩:=B.live m b hm
     rw[hz]at G;obtain rfl:=Option.some.inj G
     have :z.b≠y.b:=fun k=>e (B.sep m n z y (by rw[hm];simp) (by rw[I];simp) hz J q0 V k)
     rcases O with⟨aa,_⟩|⟨_,q1,_⟩
     ·omega
     ·simp[M',this,q1]
   ·rw[az]at hm;split at hm
    ·cases hm
    ·obtain⟨_,_,_,g1,Y,_⟩:=B.fam m S es hm
     have :b≠y.b:=fun e=>Y n y (by rw[I];simp) J V (e▸k)
     simp[M',this,(g1 b k).1]
   ·rw[g1]
    exact .vp 1 1 (fun _ _=>X) 0 0 y.b 0 cur T (0,0) (fun _ _=>u) (by simp[M']) (fun i c hi hc=>by
     have e1:i=0:=by omega
     have e2:c=0:=by omega
     subst e1 e2;exact hu) (fun i c hi hc=>(hx _ _ _ U).mono hle)
  |_=>exact W.elim
theorem yZ{C:Ctx}{σ:St}(s n:Nat){ty:Nat}{x:SV}(X:D)(B:σ.t s= .ptr n 0 0)(E:σ.h n=some (.cells ty 1 [x]))(G:∀ M ρ v,VR M ρ x v->DR M X v):
  ∀ M F pin ρ a w,SR C M F pin ρ σ a w->∃ M' aq,M.le M'/\SR C M' F pin aq ⟨upd σ.t s (.vp 1 1 (fun _ _=>X) 0 0),upd σ.h n none,σ.nx⟩ a w:=by
 intro M F pin ρ a w b
 have k:=b.tm s
 rw[B]at k
 obtain⟨M',g1,I,J⟩:=HR.Ie b.hr E G k
 refine⟨M',ρ,g1,⟨⟨fun j=>?_,b.sz,b.df,I,b.pn,b.pm,fun g ρ=>(b.gl g ρ).mono g1 (Names.le_refl _)⟩,b.fr⟩⟩
 show VR M' ρ (upd σ.t s _ j) _
 rw[az]
 split
 ·next e=>subst e;exact J
 ·exact(b.tm j).mono g1 (Names.le_refl _)
theorem uZ{X:D}:∀ M ρ v,VR M ρ (.d X) v->DR M X v:=fun M ρ v h=>by cases h with |d _ _ h=>exact h
theorem EI{f:FuncId}:∀ M ρ v,VR M ρ (.fn f []) v->DR M (.val (.func (.func f) #[] #[])) v:=fun M ρ v h=>by
 cases h with
 |fn _ _ vs g b e k=>
  have :vs= #[]:=Array.eq_empty_of_size_eq_zero (by simpa using b)
  subst this
  exact .val _ rfl
section
variable {C:Ctx} {Q:QX C.P} {K:Tr C.P} {ds:List Deferred} {t:Nat->SV} {h:ar} {nx:Nat} {c:Code}
theorem jT(s n:Nat){ty:Nat}{x:SV}(X:D)(b:t s= .ptr n 0 0)(e:h n=some (.cells ty 1 [x]))(B:∀ M ρ v,VR M ρ x v->DR M X v)(k:WX C c Q K ds ⟨upd t s (.vp 1 1 (fun _ _=>X) 0 0),upd h n none,nx⟩):WX C c Q K ds ⟨t,h,nx⟩:=
 uN (yZ (σ:=⟨t,h,nx⟩) s n X b e B) k
end
section
variable {C:Ctx} {Q:QX C.P} {K:Tr C.P} {ds:List Deferred} {σ:St} {id:Nat} {ops:Array Oper} {y:Code}
theorem x1(k:an C ops.toList 0 ops.toList σ none (fun aF=>WX C y Q K [] aF)):WX C (.seq (.region id ops false) y) Q K [] σ:=
 hY (Ab (Q0:=fun e aF=>q8 (WX C y Q) Q e K [] aF) (fX k) fun _ _ h=>h)
theorem x0(k:an C ops.toList 0 ops.toList σ none (fun aF=>Q .normal K [] aF)):WX C (.region id ops false) Q K [] σ:=
 Ab (Q0:=fun e aF=>Q e K [] aF) (fX k) fun _ _ h=>h
theorem KE(hm:C.P.follows .mixedOrders=true)(k:an C ops.toList 0 ops.toList σ (some []) (fun aF=>Q .normal K [] aF)):WX C (.region id ops true) Q K [] σ:=
 Ab (Q0:=fun e aF=>Q e K [] aF) (dI hm k) fun _ _ h=>h
theorem Hf(k:RX C ops 0 (PZ C (q8 (WX C y Q) Q)) K ds σ):WX C (.seq (.region id ops false) y) Q K ds σ:=hY (s5 k)
theorem KF(k:RX C ops 0 (PZ C Q) K ds σ):WX C (.region id ops false) Q K ds σ:=s5 k
theorem vk{P:Program}{R:Tr P->List Deferred->St->Prop}{Q:QX P}{K:Tr P}{ds:List Deferred}{σ:St}(k:R K ds σ):q8 R Q .normal K ds σ:=k
theorem Kj{P:Program}{id:Nat}{Q:QX P}{K:Tr P}{ds:List Deferred}{σ:St}(k:Q .normal K ds σ):kT id Q .normal K ds σ:=k
theorem Kl{P:Program}{id:Nat}{Q:QX P}{K:Tr P}{ds:List Deferred}{σ:St}(k:Q .normal K ds σ):kT id Q (.exit id) K ds σ:=by simp[kT,k]
theorem JA{P:Program}{id:Nat}{R:Tr P->List Deferred->St->Prop}{Q:QX P}{K:Tr P}{ds:List Deferred}{σ:St}(k:Q (.exit id) K ds σ):q8 R Q (.exit id) K ds σ:=k
end
section
variable {C:Ctx} {Q:QX C.P} {K:Tr C.P} {ds:List Deferred} {t:Nat->SV} {h:ar} {nx:Nat} {c:Code}
theorem xA(n e:Nat)(g:Nat->Nat->D){ty k L:Nat}{f:Nat->Nat->D}(G:h n=some (.rows ty k L f))(hl:L=e)(I:∀ i c,i<L->c<k->f i c=g i c)(J:WX C c Q K ds ⟨t,upd h n (some (.rows ty k e g)),nx⟩):WX C c Q K ds ⟨t,h,nx⟩:=by
 subst hl
 refine uN (fun M F pin ρ a w b=>?_) J
 refine⟨M,ρ,aD.le_refl _,⟨⟨b.tm,b.sz,b.df,?_,b.pn,b.pm,b.gl⟩,b.fr⟩⟩
 refine b.hr.swap n G (fun x obj v=>?_) (fun h=>by cases L with |zero=>rfl|succ L=>cases h)
 cases obj with
 |cells cur T fz=>
  obtain⟨O,U,V,W,X,Y⟩:=v
  exact⟨O,U,V,W,X,fun i c B E=>by rw[<-I i c B E];exact Y i c B E⟩
 |_=>exact v.elim
end
section
variable {C:Ctx} {Q:QX C.P} {K:Tr C.P} {ds:List Deferred} {c:Code}
theorem GD{t:Nat->SV}{h:ar}{nx:Nat}(v:List Nat){l:List (Nat×SV)}(e:mZ t v=some l)(k:WX C c Q K ds ⟨dG l,h,nx⟩):WX C c Q K ds ⟨t,h,nx⟩:=by
 refine uN (fun M F pin ρ a w b=>?_) k
 refine⟨M,ρ,aD.le_refl _,⟨⟨fun n=>?_,b.sz,b.df,b.hr,b.pn,b.pm,b.gl⟩,b.fr⟩⟩
 rcases iU e n with h|h
 ·show VR M ρ (dG l n) _;rw[h];exact .any _
 ·show VR M ρ (dG l n) _;rw[h];exact b.tm n
end
def nv(J:List Nat):Nat->Nat
 |0=>0
 |m+1=>nv J m+if m∈J then 0 else 1
theorem AB(k:Nat)(J:List Nat):∀ m,nv (k::J) m<=nv J m
 |0=>Nat.le_refl _
 |m+1=>by
  have :=AB k J m
  simp only[nv,List.mem_cons]
  by_cases h:m∈J
  ·simp[h];exact this
  ·by_cases e:m=k
   ·subst e;simp[h];omega
   ·simp[h,e];exact this
theorem AD{k:Nat}{J:List Nat}(b:k∉J):∀ {m:Nat},k<m->nv (k::J) m<nv J m
 |0,h=>by omega
 |m+1,h=>by
  simp only[nv,List.mem_cons]
  by_cases e:m=k
  ·subst e
   have :=AB m J m
   simp[b];omega
  ·have :=AD b (m:=m) (by omega)
   by_cases v:m∈J
   ·simp[v];exact this
   ·simp[v,e];exact this
end Go.Proofs.YtifcaekngfgdmaaDoor.Nice.Co
namespace Go.Proofs
abbrev YtifcaekngfgdmaaDoor.Ig:Go.Conc.Lib.WgLink:={add:=48,done:=50,wait:=52,relMerge:=63,disable:=64,enable:=65,inBubble:=66,associate:=67,fatal:=68,uOr:=69,uAdd:=70,raceRead:=71,uLoad:=72,uStore:=73,disassociate:=74,semrelease:=75,acquire:=76,isAssociated:=77,uCas:=78,raceWrite:=79,semacquire:=80,orU64:=88,addU64:=89,loadU64:=90,storeU64:=91,casU64:=92,tWgP:=135,tUP:=137,tAssoc:=139,tWg:=122,tAU:=119,tU64:=117,tUint:=42,tU32:=120,tPU32:=143,tPAU:=162,tPU64:=164,tNoCopy:=114,tANoCopy:=115,tAlign64:=116}
theorem YtifcaekngfgdmaaDoor.EJ:Go.Conc.Lib.WgLib Tryd.prog YtifcaekngfgdmaaDoor.Ig:=
 ⟨Tryd.func48,Tryd.func50,Tryd.func52,Tryd.func63,Tryd.func64,Tryd.func65,Tryd.func66,Tryd.func67,Tryd.func68,Tryd.func69,Tryd.func70,Tryd.func71,Tryd.func72,Tryd.func73,Tryd.func74,Tryd.func75,Tryd.func76,Tryd.func77,Tryd.func78,Tryd.func79,Tryd.func80,Tryd.func88,Tryd.func89,Tryd.func90,Tryd.func91,Tryd.func92,Tryd.underlying135,Tryd.runUnderlying135,Tryd.sizeOf135,Tryd.isAgg135,Tryd.zeroValue135,Tryd.underlying137,Tryd.runUnderlying137,Tryd.sizeOf137,Tryd.isAgg137,Tryd.zeroValue137,Tryd.underlying139,Tryd.runUnderlying139,Tryd.sizeOf139,Tryd.isAgg139,Tryd.zeroValue139,Tryd.underlying122,Tryd.runUnderlying122,Tryd.sizeOf122,Tryd.isAgg122,Tryd.zeroValue122,Tryd.underlying119,Tryd.runUnderlying119,Tryd.sizeOf119,Tryd.isAgg119,Tryd.zeroValue119,Tryd.underlying117,Tryd.runUnderlying117,Tryd.sizeOf117,Tryd.isAgg117,Tryd.zeroValue117,Tryd.underlying42,Tryd.runUnderlying42,Tryd.sizeOf42,Tryd.isAgg42,Tryd.zeroValue42,Tryd.underlying120,Tryd.runUnderlying120,Tryd.sizeOf120,Tryd.isAgg120,Tryd.zeroValue120,Tryd.underlying143,Tryd.runUnderlying143,Tryd.sizeOf143,Tryd.isAgg143,Tryd.zeroValue143,Tryd.underlying162,Tryd.runUnderlying162,Tryd.sizeOf162,Tryd.isAgg162,Tryd.zeroValue162,Tryd.underlying164,Tryd.runUnderlying164,Tryd.sizeOf164,Tryd.isAgg164,Tryd.zeroValue164,Tryd.underlying0,Tryd.runUnderlying0,Tryd.sizeOf0,Tryd.isAgg0,Tryd.zeroValue0,Tryd.underlying3,Tryd.runUnderlying3,Tryd.sizeOf3,Tryd.isAgg3,Tryd.zeroValue3,Tryd.underlying4,Tryd.runUnderlying4,Tryd.sizeOf4,Tryd.isAgg4,Tryd.zeroValue4,Tryd.underlying9,Tryd.runUnderlying9,Tryd.sizeOf9,Tryd.isAgg9,Tryd.zeroValue9,Tryd.underlying20,Tryd.runUnderlying20,Tryd.sizeOf20,Tryd.isAgg20,Tryd.zeroValue20,Tryd.underlying21,Tryd.runUnderlying21,Tryd.sizeOf21,Tryd.isAgg21,Tryd.zeroValue21,(by kernel_rfl),(by kernel_rfl)⟩
end Go.Proofs
namespace Go.Proofs.YtifcaekngfgdmaaDoor.Nice.Co
open Go Go.Conc Go.Conc.Lib Go.ConcR.Gen
open Go.ConcR (KK WgAt stA smA mk DC0)
def u4(p:Pr):List SV:= [.d (.val (.pointer (some ⟨p.Wg,0,none⟩))), .vp 1 1 (fun _ _=> .val (.chan (some p.Ch))) 0 0]
def u5(p:Pr)(mk:FuncId)(X:D)(k:Nat):List SV:=
 [.d (.val (.pointer (some ⟨p.Wg,0,none⟩))), .vp 1 1 (fun _ _=> .val (.func (.func mk) #[] #[])) 0 0, .vp 1 1 (fun _ _=>X) 0 0, .vp 1 1 (fun _ _=> .val (.chan (some p.Ch))) 0 0, .vp 1 1 (fun _ _=> .val (.int .i64 k)) 0 0]
theorem u6(w:World):(Instr.alloc 122 true (.tuple #[])).run Tryd.prog w= .ok (.pointer (some ⟨w.heap.size,0,none⟩)) (w.alloc (pk 122)):=by
 have h:eP Tryd.prog 122=some [.int .u64 0, .int .u32 0]:=by kernel_rfl
 obtain⟨i,z,e,k,b,_,_⟩:=dx h
 have v:z.cells= #[.int .u64 0, .int .u32 0]:=by rw[<-b]
 simp[Instr.alloc,zeroValue,typeInfo,e,k,newVar,newRow,v]
 rfl
theorem xB(w:World):(Instr.alloc 122 true (.tuple #[])).events Tryd.prog w #[]= #[]:=by
 have h:eP Tryd.prog 122=some [.int .u64 0, .int .u32 0]:=by kernel_rfl
 obtain⟨i,z,b,e,k,_,_⟩:=dx h
 simp[Instr.alloc,zeroValue,typeInfo,b,e,newVar,newRow]
theorem hS{j:Nat}{q:Bool}:Lo.spawn j q≠ .out:=by simp
theorem GG{f:FuncId}:gP (.fn f []):=fun M ρ aq u h=>by
 cases h with
 |fn _ _ vs g b e v=>exact .fn f [] vs g b e fun i x k=>by simp at k
theorem rH{l:List SV}(h:l.all SV.kU=true):∀ y,y∈l->gP y:=fun y b=>cn (List.all_eq_true.1 h y b)
end Go.Proofs.YtifcaekngfgdmaaDoor.Nice.Co
namespace Go.Proofs.YtifcaekngfgdmaaDoor.Nice.Co
open Go
def bl(l:List Int)(n w:Nat):List Int:=(List.range w).map fun i=>b5 l (n+i)
theorem Ih(l:List Int)(n w:Nat):(bl l n w).length=w:=by simp[bl]
theorem y5(l:List Int)(n a b:Nat):bl l n a++bl l (n+a) b=bl l n (a+b):=by
 unfold bl
 rw[List.range_add,List.map_append,List.map_map]
 congr 1
 exact List.map_congr_left fun i _=>by show b5 l (n+a+i)=b5 l (n+(a+i));rw[Nat.add_assoc]
theorem AE(l:List Int)(n:Nat):∀ w j,j<w->bL l n w/2^(w-1-j)%2=b5 l (n+j)
 |0,j,h=>by omega
 |w+1,j,h=>by
  have k:=iy l (n+w)
  by_cases e:j=w
  ·subst e
   rw[show j+1-1-j=0 by omega,Int.pow_zero,Int.ediv_one]
   show(2*bL l n j+b5 l (n+j))%2=_
   omega
  ·have b:=AE l n w j (by omega)
   rw[show w+1-1-j=(w-1-j)+1 by omega,Int.pow_succ,Int.mul_comm,<-Int.ediv_ediv_of_nonneg (by decide)]
   show(2*bL l n w+b5 l (n+w))/2/_%2=_
   rw[show(2*bL l n w+b5 l (n+w))/2=bL l n w by omega]
   exact b
theorem EK(l:List Int)(n w:Nat):bitsOf w (bL l n w)=bl l n w:=by
 apply List.ext_getElem?
 intro j
 by_cases h:j<w
 ·rw[mg w j _ h,AE l n w j h];simp[bl,h]
 ·rw[List.getElem?_eq_none (by rw[bd];omega),List.getElem?_eq_none (by rw[Ih];omega)]
theorem BX{l:List Int}{n q m:Nat}(B:n<=8*l.length)(h:cL l 4 n 0=(true,q,m)):q<=4/\m=n+um q/\bitsOf (um q) (Ci q)=bl l n (um q):=by
 have D:um 0=1/\um 1=2/\um 2=3/\um 3=4/\um 4=4:=⟨rfl,rfl,rfl,rfl,rfl⟩
 have b0:=iy l n;have e:=iy l (n+1);have k:=iy l (n+2);have v:=iy l (n+3)
 simp only[cL,Nat.zero_add,Nat.reduceAdd,Nat.add_assoc]at h
 split at h
 ·cases h
 split at h
 ·next b=>
  cases h
  refine⟨by omega,rfl,?_⟩
  show[0]= [b5 l (n+0)]
  rw[Nat.add_zero,b]
 next E=>
 have b0:b5 l n=1:=by omega
 split at h
 ·cases h
 split at h
 ·next b=>
  cases h
  refine⟨by omega,rfl,?_⟩
  show[1,0]= [b5 l (n+0),b5 l (n+1)]
  rw[Nat.add_zero,b0,b]
 next e1=>
 have e:b5 l (n+1)=1:=by omega
 split at h
 ·cases h
 split at h
 ·next b=>
  cases h
  refine⟨by omega,rfl,?_⟩
  show[1,1,0]= [b5 l (n+0),b5 l (n+1),b5 l (n+2)]
  rw[Nat.add_zero,b0,e,b]
 next G=>
 have k:b5 l (n+2)=1:=by omega
 split at h
 ·cases h
 split at h
 ·next b=>
  cases h
  refine⟨by omega,rfl,?_⟩
  show[1,1,1,0]= [b5 l (n+0),b5 l (n+1),b5 l (n+2),b5 l (n+3)]
  rw[Nat.add_zero,b0,e,k,b]
 next I=>
 have v:b5 l (n+3)=1:=by omega
 cases h
 refine⟨by omega,rfl,?_⟩
 show[1,1,1,1]= [b5 l (n+0),b5 l (n+1),b5 l (n+2),b5 l (n+3)]
 rw[Nat.add_zero,b0,e,k,v]
theorem EL{v:Int}(h:0<=v):cq (lK v)=v:=by
 unfold cq lK;repeat' split
 all_goals omega
theorem xC{l:List Int}{n:Nat}(B:n<=8*l.length)(h:(bk l n).e=0):n<=(bk l n).at'/\e9 (bk l n).x=bl l n ((bk l n).at'-n):=by
 obtain⟨f,q,m,b⟩:∃ f q m,cL l 4 n 0=(f,q,m):=⟨_,_,_,rfl⟩
 cases f with
 |false=>rw[sE b]at h;exact absurd h (show ¬ (5:Int)=0 by decide)
 |true=>
  by_cases k:8*l.length<m+fB q
  ·rw[mn b k]at h;exact absurd h (show ¬ (5:Int)=0 by decide)
  by_cases v:cls (bL l m (fB q))=q
  ·rw[ux b k v]
   obtain⟨E,hm,D⟩:=BX B b
   have hX:=zI l m (uy q)
   refine⟨by simp only[];omega,?_⟩
   show e9 (lK (bL l m (fB q)))=bl l n (m+fB q-n)
   unfold e9
   rw[EL hX.1,v,D,EK,hm,y5]
   congr 1;omega
  ·rw[qJ b k v]at h;exact absurd h (show ¬ (4:Int)=0 by decide)
theorem tk(M:List aR)(s:aR):∀ k,k<=M.length->nE (M++ [s]) k=nE M k
 |0,_=>rfl
 |k+1,h=>by
  rw[mB,mB,tk M s k (by omega),jd M s k (by omega)]
  have :(M++ [s]).getD k default=M.getD k default:=by simp only[List.getD];rw[List.getElem?_append_left (by omega)]
  rw[this]
theorem EM(a:wu)(x y:Int):cT a (aS a x y)=x/\cV a (aS a x y)=y:=by
 unfold cT cV aS
 by_cases h:a.n=0
 ·rw[if_pos h,if_pos h,if_pos h];exact⟨rfl,rfl⟩
 ·rw[if_neg h,if_neg h,if_neg h];exact⟨by simp only[];omega,by simp only[];omega⟩
theorem tp{l:List Int}(U:l.length≠0):∀ k,(dg l k).e=0->(dg l k).M.length=k/\8<=(dg l k).n/\(dg l k).n<=8*l.length/\aN (dg l k).M k=0/\(nE (dg l k).M k).flatMap e9=bl l 8 ((dg l k).n-8)
 |0,_=>⟨rfl,Nat.le_refl _,by show 8<=_;omega,rfl,rfl⟩
 |k+1,h=>by
  have E:(dg l k).e=0:=by
   refine Decidable.by_contra fun e=>?_
   have :dg l (k+1)=dg l k:=by show eB l k (dg l k)=_;unfold eB;rw[if_pos e]
   rw[this]at h;exact e h
  obtain⟨b,O,v,G,I⟩:=tp U k E
  obtain⟨M,n,e,hd⟩:∃ M n e,dg l k=⟨M,n,e⟩:=⟨_,_,_,rfl⟩
  rw[hd]at E b O v G I
  simp only[]at E b O v G I
  subst E
  by_cases e1:(bk l n).e=0
  ·by_cases B:(bk l (bk l n).at').e=0
   ·by_cases J:bC (aT M k) (aS (aT M k) (bk l n).x (bk l (bk l n).at').x)=0
    ·rw[yI hd e1 B J]
     obtain⟨Y,V⟩:=xC v e1
     obtain⟨z3,W⟩:=xC (oq l n v) B
     have D:=EM (aT M k) (bk l n).x (bk l (bk l n).at').x
     refine⟨by simp[b],by simp only[];omega,oq l _ (oq l n v),?_,?_⟩
     ·subst b
      show aN (M++ [_]) (M.length+1)=0
      rw[jO M _ G];exact J
     ·simp only[]
      rw[mB,tk M _ k (by omega),jd M _ k (by omega)]
      rw[show(M++ [aS (aT M k) (bk l n).x (bk l (bk l n).at').x]).getD k default=aS (aT M k) (bk l n).x (bk l (bk l n).at').x by rw[<-b];exact oL M _]
      rw[List.flatMap_append,I,D.1,D.2]
      show bl l 8 (n-8)++(e9 _++(e9 _++ []))=_
      rw[List.append_nil,V,W]
      have q1:bl l n ((bk l n).at'-n)=bl l (8+(n-8)) ((bk l n).at'-n):=by congr 1;omega
      have X:bl l (bk l n).at' ((bk l (bk l n).at').at'-(bk l n).at')=bl l (8+(n-8+((bk l n).at'-n))) ((bk l (bk l n).at').at'-(bk l n).at'):=by congr 1;omega
      rw[<-List.append_assoc,q1,y5,X,y5]
      congr 1;omega
    ·have :=Eg hd e1 B J;rw[this]at h;exact absurd h (by decide)
   ·have :=Ef hd e1 B;rw[this]at h;exact absurd h B
  ·have :=Ee hd e1;rw[this]at h;exact absurd h e1
theorem Ii{M:List aR}{k:Nat}(b:aN M k=0)(D:M.length=k)(j:Nat):cK (M.getD j default).t/\cK (M.getD j default).v:=by
 by_cases B:j<k
 ·exact⟨(g8 b B).1,(g8 b B).2.1⟩
 ·have e:M.getD j default=default:=by rw[List.getD_eq_getElem?_getD,List.getElem?_eq_none (by omega)];rfl
  rw[e];exact⟨⟨by decide,by decide⟩,⟨by decide,by decide⟩⟩
end Go.Proofs.YtifcaekngfgdmaaDoor.Nice.Co
namespace Go.Proofs.YtifcaekngfgdmaaDoor.Nice.Co
open Go Go.Conc Go.Conc.Lib Go.ConcR.Gen
open Go.ConcR (KK WgAt stA smA mk DC0)
section
variable {p:Pr} {aK:Value->World->Prop}
theorem EN(E:p.n<2147483647):Child Tryd.prog GC p aK 51 (u4 p) (.cw p.n):=by
 refine po (hl:=by simp) (hm:=rfl) Tryd.func51 rfl rfl (Nat.le_of_ble_eq_true rfl) fun Rd M a w G I=>?_
 refine Tr.idle _ rfl (fun _=>stepG_seq) ?_
 refine Tr.idle _ rfl (fun _=>stepG_region) ?_
 rw[List.range_eq_range']
 refine RX.run (C:=⟨Tryd.prog,4,0,GC⟩) (i:=0) (Z:=ZB Tryd.prog 51 _) (σ:=fg (iE 0 (u4 p)) []) ?_ G (Nat.le_refl _) (by simp[baseD]) ⟨rfl,rfl,rfl⟩
 refine F9 ZB.up YtifcaekngfgdmaaDoor.EJ rfl rfl rfl rfl rfl E (hl':=by simp) (hm':=rfl) ?_
 intro A' M' aq U w' e b k cs V ⟨v,B,J⟩
 subst v B J
 refine Tr.idle _ rfl (fun _=>stepG_region_end) ?_
 refine Tr.idle _ rfl (fun _=>stepG_region) ?_
 rw[List.range_eq_range']
 refine RX.run (C:=⟨Tryd.prog,4,0,GC⟩) (i:=0) (Z:=ZB Tryd.prog 51 []) (σ:=⟨upd (dG (iE 0 (u4 p))) 2 .any,dC [],8⟩) ?_ e.bump (Nat.le_refl _) (by simp[baseD]) ⟨rfl,rfl,rfl⟩
 refine eg ZB.up [_] 0 _ (fun j D=>by simp at D;subst D;rfl) ?_
 refine sV 3 8 1 rfl (by decide) ?_
 refine e1 24 rfl ?_
 refine D6 rfl rfl rfl rfl (fun M w b k cs a O hd=>?_)
 obtain⟨rfl,rfl,rfl⟩:=O
 refine⟨rfl,4,?_⟩
 q_c stepG_region_end
 q_c stepG_end
 obtain⟨T,d⟩:=a
 simp only at hd
 subst hd
 exact s7 Tryd.func51 rfl
end
theorem BY{l:List Int}(h:bT l=0):l.length≠0/\bL l 0 8<=120/\(dg l (iI l)).e=0:=by
 unfold bT at h
 split at h
 ·cases h
 ·next k=>
  split at h
  ·cases h
  ·next v=>
   split at h
   ·next b=>exact absurd h b
   ·next b=>exact⟨k,by omega,by omega⟩
theorem BZ{l:List Int}(h:bT l=0):aE (cO l)=0/\jY (cO l)/\(cO l).length<=120:=by
 obtain⟨D,I,E⟩:=BY h
 obtain⟨b,_,_,e,_⟩:=tp D (iI l) E
 have J:=(jG l 0 8).1
 have G:iI l<=120:=by unfold iI;omega
 have hl:(cO l).length<=120:=by unfold cO;rw[b];exact G
 have B:∀ k,aj ((cO l).getD k default).t/\aj ((cO l).getD k default).v:=fun k=>by
  have :=Ii (M:=cO l) e b k
  simp only[cK]at this
  unfold aj
  constructor<;>omega
 refine⟨?_,⟨by omega,fun k=>(B k).1,fun k=>(B k).2⟩,hl⟩
 unfold aE
 rw[if_neg (by omega)]
 unfold cO
 rw[b];exact e
def rR(l:List Int):cP:=if bT l=0 then Fl (cO l)else⟨0,0,0,0⟩
theorem oS(l:List Int)(hl:Bytes l)(e:bT l=0):Spec Tryd.prog GC 7 [cI l] [] (fun r b=>r=SV.bA [.sl 0 0 (cO l).length,SV.i 0]/\b= [some (.rows 31 2 (cO l).length (b6 (cO l)))]):=(fQ l hl).mono fun r b h=>by
 rcases h with⟨_,k,v⟩|⟨h,_⟩
 ·exact⟨k,v⟩
 ·exact absurd e h
theorem y6(l:List Int)(hl:Bytes l)(e:bT l≠0):Spec Tryd.prog GC 7 [cI l] [] (fun r b=>r=SV.bA [.d .bz,SV.i (bT l)]/\b= []):=(fQ l hl).mono fun r b h=>by
 rcases h with⟨h,_⟩|⟨_,k,v⟩
 ·exact absurd h e
 ·exact⟨k,v⟩
theorem Ji(l:List Int)(hl:Bytes l)(e:bT l=0):Spec Tryd.prog GC 32 [cI l] [] (fun r v=>r=SV.bA [bb (rR l),SV.i (bT l)]/\v= []):=by
 obtain⟨B,k,hlen⟩:=BZ e
 refine start 19 0 Tryd.func32 rfl rfl rfl rfl ?_
 refine r1<|sT 2 0 1 rfl<|sT 3 8 2 rfl<|e1 16 rfl<|ab [0,2] rfl<|r1<|sT 7 16 1 rfl ?_
 refine c1 (oS l hl e) [] [24] 8 24 2 rfl rfl rfl rfl rfl rfl rfl rfl Tryd.func7 rfl rfl rfl rfl trivial rfl rfl ?_
 refine sT 6 32 3 rfl<|sT 9 40 4 rfl<|sT 10 48 5 rfl<|sT 4 56 6 rfl<|sT 5 64 7 rfl<|e1 72 rfl<|ab [2,4,5] rfl<|ai<|r1<|sT 11 72 1 rfl<|sO 12 80 2 rfl<|e1 88 rfl<|ab [2,4,5,12] rfl ?_
 refine q1 rfl (fun b=>?_) (fun b=>?_)
 exact absurd b (by decide)
 try simp only[cs,ne_eq]at b
 refine ak<|tn ?_
 refine freeze 4 24 (cO l).length rfl rfl (Nat.le_refl _) ?_
 refine r1<|sT 15 88 1 rfl ?_
 refine c1 (yM (cO l) k) [] [] 16 96 2 rfl rfl rfl rfl rfl rfl rfl rfl Tryd.func33 rfl rfl rfl rfl trivial rfl rfl ?_
 refine sT 17 104 3 rfl<|sT 18 112 4 rfl<|cJ 120 5 rfl rfl rfl rfl rfl<|sT 3 128 6 rfl<|e1 136 rfl<|ab [2,3] rfl<|ao ?_
 exact cG (SV.bA [bb (rR l),SV.i (bT l)]) (π:= []) (ae:= []) Tryd.results32 rfl (by trivial) (by rw[e];unfold rR;rw[if_pos e];exact(by rw[B]:SV.bA [bb (Fl (cO l)),SV.i (aE (cO l))]=_)) rfl rfl trivial ⟨rfl,rfl⟩
theorem Ij(l:List Int)(hl:Bytes l)(e:bT l≠0):Spec Tryd.prog GC 32 [cI l] [] (fun r k=>r=SV.bA [bb (rR l),SV.i (bT l)]/\k= []):=by
 refine start 19 0 Tryd.func32 rfl rfl rfl rfl ?_
 refine r1<|sT 2 0 1 rfl<|sT 3 8 2 rfl<|e1 16 rfl<|ab [0,2] rfl<|r1<|sT 7 16 1 rfl ?_
 refine c1 (y6 l hl e) [] [] 8 24 2 rfl rfl rfl rfl rfl rfl rfl rfl Tryd.func7 rfl rfl rfl rfl trivial rfl rfl ?_
 refine sT 6 32 3 rfl<|sT 9 40 4 rfl<|sT 10 48 5 rfl<|sT 4 56 6 rfl<|sT 5 64 7 rfl<|e1 72 rfl<|ab [2,4,5] rfl<|ai<|r1<|sT 11 72 1 rfl<|sO 12 80 2 rfl<|e1 88 rfl<|ab [2,4,5,12] rfl ?_
 refine q1 rfl (fun b=>?_) (fun b=>?_)
 try simp only[cs,ne_eq]at b
 refine r1<|sT 13 88 1 rfl<|sT 14 96 2 rfl<|cJ 104 3 rfl rfl rfl rfl rfl<|sT 3 112 4 rfl<|e1 120 rfl<|ab [2,3] rfl<|ao<|tr ?_
 exact cG (SV.bA [bb (rR l),SV.i (bT l)]) (π:= []) (ae:= []) Tryd.results32 rfl (by trivial) (by unfold rR;rw[if_neg e];rfl) rfl rfl trivial ⟨rfl,rfl⟩
 exact absurd b (by simpa using e)
theorem Ik(l:List Int)(hl:Bytes l):Spec Tryd.prog GC 32 [cI l] [] (fun r e=>r=SV.bA [bb (rR l),SV.i (bT l)]/\e= []):=by
 by_cases b:bT l=0
 ·exact Ji l hl b
 ·exact Ij l hl b
def GH(l:List Int)(k:Nat):SV:= .agg [SV.i k,SV.i (rR l).c,SV.i (rR l).lo,SV.i (rR l).hi,SV.i (rR l).s,SV.i (bT l)]
section
variable {p:Pr} {aK:Value->World->Prop}
theorem EO(X:p.n<2147483647)(l:List Int)(E:Bytes l)(k:Nat)(Y:∀ M v,(∀ ρ,VR M ρ (GH l k) v)->p.rX k M v):Child Tryd.prog GC p aK 49 (u5 p 32 (.vec 1 l.length (dm l)) k) (.wk k):=by
 refine po (hl:=by simp) (hm:=rfl) Tryd.func49 rfl rfl (Nat.le_of_ble_eq_true rfl) fun Rd M a w G aa=>?_
 have e:a.eval (.tmp 0)= .pointer (some ⟨p.Wg,0,none⟩):=G.val (x:= .tmp 0) rfl
 refine Tr.idle _ rfl (fun _=>stepG_seq) ?_
 refine Tr.idle _ rfl (fun _=>stepG_region) ?_
 refine Tr.idle _ rfl (fun _=>stepG_defer (i:=0) (rest:= []) rfl rfl (by simp[baseD]) rfl) ?_
 refine Tr.idle _ rfl (fun _=>stepG_region_end) ?_
 refine Tr.idle _ rfl (fun _=>stepG_seq) ?_
 refine Tr.idle _ rfl (fun _=>stepG_region) ?_
 rw[List.range_eq_range']
 have I:SX ⟨Tryd.prog,18,0,GC⟩ no Rd M [dcall 50 #[.pointer (some ⟨p.Wg,0,none⟩)]] jM 8 ⟨dG (iE 0 (u5 p 32 (.vec 1 l.length (dm l)) k)),dC [],8⟩ (Act.put ⟨a.tmps,dcall 50 (#[Operand.tmp 0].map a.eval)::a.defers⟩ none undef) w:=by
  have D:=(G.le (nb':=8) (by omega)).bump
  refine⟨D.fit,D.sr,?_,D.fr⟩
  simp[Act.put,G.df,e]
 refine RX.run (C:=⟨Tryd.prog,18,0,GC⟩) (i:=0) (Z:=ZB Tryd.prog 49 _) (σ:=⟨dG (iE 0 (u5 p 32 (.vec 1 l.length (dm l)) k)),dC [],8⟩) ?_ I (Nat.le_refl _) (by simp[baseD]) ⟨rfl,rfl,rfl⟩
 refine eg ZB.up [_,_,_,_,_,_,_,_,_] 0 _ (fun j B=>by simp at B;match j,B with |0,_=>rfl|1,_=>rfl|2,_=>rfl|3,_=>rfl|4,_=>rfl|5,_=>rfl|6,_=>rfl|7,_=>rfl|8,_=>rfl) ?_
 refine sV 8 8 1 rfl (by decide) ?_
 refine sV 9 16 2 rfl (by decide) ?_
 refine KD (Ik l E) [] 10 24 3 rfl rfl rfl rfl rfl rfl rfl rfl Tryd.func32 rfl rfl rfl rfl rfl ?_
 refine sT 7 32 4 rfl<|sT 11 40 5 rfl<|sT 12 48 6 rfl<|sT 5 56 7 rfl ?_
 refine s0 64 8 rfl rfl rfl rfl rfl trivial ?_
 refine sT 6 72 9 rfl<|e1 80 rfl ?_
 intro A' M' aq a' w' J b kk cs D ⟨O,U,hk⟩
 subst O U hk
 refine Tr.idle _ rfl (fun _=>stepG_region_end) ?_
 refine Tr.idle _ rfl (fun _=>stepG_region) ?_
 rw[List.range_eq_range']
 have V:=J.bump.sub (π:= [56]) (tl:= [(3, .vp 1 1 (fun _ _=> .val (.chan (some p.Ch))) 0 0),(4, .vp 1 1 (fun _ _=> .val (.int .i64 k)) 0 0),(5, .ptr 0 0 0),(6,SV.i (bT l))]) (hl:= [some (dz (rR l))]) ⟨rfl,⟨rfl,rfl,rfl,rfl,trivial⟩,⟨rfl,trivial⟩⟩
 refine RX.run (C:=⟨Tryd.prog,18,0,GC⟩) (i:=0) (Z:=ZB Tryd.prog 49 []) (σ:=fg [(3, .vp 1 1 (fun _ _=> .val (.chan (some p.Ch))) 0 0),(4, .vp 1 1 (fun _ _=> .val (.int .i64 k)) 0 0),(5, .ptr 0 0 0),(6,SV.i (bT l))] [some (dz (rR l))]) ?_ V (Nat.le_refl _) (by simp[baseD]) ⟨rfl,rfl,rfl⟩
 refine eg ZB.up [_,_,_,_,_] 0 _ (fun j B=>by simp at B;match j,B with |0,_=>rfl|1,_=>rfl|2,_=>rfl|3,_=>rfl|4,_=>rfl) ?_
 refine sV 13 1 1 rfl (by decide) ?_
 refine sV 14 9 2 rfl (by decide) ?_
 refine sT 15 17 3 rfl<|sT 16 25 4 rfl<|sT 17 33 5 rfl<|e1 49 rfl ?_
 refine Gz (T:=GH l k) rfl rfl rfl rfl rfl rfl Y (fun M w b kk cs a hz hd af W=>?_)
 obtain⟨rfl,rfl,rfl⟩:=hz
 obtain⟨T,d⟩:=a
 simp only at hd
 subst hd
 exact xz YtifcaekngfgdmaaDoor.EJ X Tryd.func49 rfl W
end
end Go.Proofs.YtifcaekngfgdmaaDoor.Nice.Co
namespace Go.Proofs.YtifcaekngfgdmaaDoor.Nice.Co
open Go Go.Conc Go.Conc.Lib
open Go.ConcR (KK WgAt stA smA mk DC0)
open Go.ConcR.Gen (body_add)
def un(A X:aI):aI:=fun b=>A b\/X b
def Has(O:aD)(w:World):Prop:=∀ b o,O b=some o->w.heap[b]? =some o
structure Aside where
 X:aI
 O:aD
 at_:∀ b,X b->O b≠none
def u7(s:Aside)(A Rd:aI):Prop:=∀ b,s.X b-> ¬ A b/\ ¬ Rd b
theorem Has.ab{s:Aside}{A Rd:aI}{w af:World}(h:Has s.O w)(hX:∀ b,s.O b≠none->s.X b)(r:dd (un A s.X) Rd w af):Has s.O af:=fun b o e=>by
 rw[r.ab b (.inl (.inr (hX b (by rw[e];simp))))];exact h b o e
theorem GI(A X:aI)(w w':World):more (un A X) w w'=un (more A w w') X:=by
 funext b;apply propext
 unfold more un
 constructor
 ·rintro((h|h)|h)
  ·exact .inl (.inl h)
  ·exact .inr h
  ·exact .inl (.inr h)
 ·rintro((h|h)|h)
  ·exact .inl (.inl h)
  ·exact .inr h
  ·exact .inl (.inr h)
theorem dd.less{A A' Rd:aI}{w af:World}(r:dd A Rd w af)(h:∀ b,A' b->A b):dd A' Rd w af:=⟨r.same,fun b e=>r.ab b (e.imp (h b) id)⟩
theorem l9.un{A X Rd:aI}{e:Event}(h:l9 A Rd e):l9 (un A X) Rd e:=by
 rcases h with⟨ad,s,rfl,h⟩|⟨ad,s,rfl,h⟩|rfl|⟨r,wr,rfl,h⟩
 ·exact .inl ⟨ad,s,rfl,h.imp .inl id⟩
 ·exact .inr (.inl ⟨ad,s,rfl, .inl h⟩)
 ·exact .inr (.inr (.inl rfl))
 ·exact .inr (.inr (.inr ⟨r,wr,rfl, .inl h⟩))
def jU{P:Program}(s:Aside)(hX:∀ b,s.O b≠none->s.X b)(K:Tr P):Tr P where
 main:=K.main
 Rd:=K.Rd
 T:=fun A g w=>u7 s A K.Rd->∀ w',dd A K.Rd w w'->Has s.O w'->K.T (un A s.X) g w'
 step:=fun A g w U h hd w' I E=>by
  refine K.step _ g w' U fun af B=>?_
  have k:=E.ab hX B
  obtain⟨g',v,es,a,b,c⟩:=h af (I.trans (B.less fun b=> .inl))
  have hold:∀ b,s.X b->b<af.heap.size:=fun b G=>by
   obtain⟨o,V⟩:=Option.ne_none_iff_exists'.1 (s.at_ b G)
   exact(Array.getElem?_eq_some_iff.1 (k b o V)).1
  have J:Has s.O v:=fun q o G=>by
   have D:=hX q (by rw[G];simp)
   rw[b.ab q (hold q D) (hd q D).1];exact k q o G
  refine⟨g',v,es,a,⟨b.same,fun x D W=>b.ab x D fun h=>W (.inl h),fun e Y=>(b.evs e Y).un⟩,?_⟩
  rw[GI]
  exact c (fun x D=>⟨fun hm=>hm.elim (hd x D).1 fun hm=>by have :=hold x D;omega,(hd x D).2⟩) v (.refl v) J
 rely:=fun A g w af h r hd w' I E=>h hd w' (r.trans I) E
section
variable {P:Program} {p:Pr} {aK:Value->World->Prop} {main:Bool} {Rd A:aI} {d:Nat} {lo:Lo} {hl:lo≠ .out} {hm:lo.mute=false} {g:Goroutine} {w:World} {s:Aside} {hX:∀ b,s.O b≠none->s.X b}
theorem lX.intro(h:u7 s A Rd->oF p (un A s.X) Rd->∀ af,dd A Rd w af->Has s.O af->gm p af->cy P p aK main ⟨un A s.X,Rd,d,lo⟩ g af):(jU s hX (cZ P p aK main Rd d lo hl hm)).T A g w:=
 fun hd w' B v D af e k=>h hd D af (B.trans (e.less fun b=> .inl)) (v.ab hX e) k
theorem lX.elim(h:(jU s hX (cZ P p aK main Rd d lo hl hm)).T A g w)(hd:u7 s A Rd)(e:Has s.O w)(k:oF p (un A s.X) Rd)(b:gm p w):cy P p aK main ⟨un A s.X,Rd,d,lo⟩ g w:=h hd w (.refl w) e k w (.refl w) b
theorem oF.less{A':aI}(h:oF p A Rd)(k:∀ b,A' b->A b):oF p A' Rd:=fun b e=>h b (e.imp (k b) id)
theorem Has.lt(e:Has s.O w){b:Nat}(k:s.X b):b<w.heap.size:=by
 obtain⟨o,v⟩:=Option.ne_none_iff_exists'.1 (s.at_ b k)
 exact(Array.getElem?_eq_some_iff.1 (e b o v)).1
theorem Has.made{w':World}{o:Obj}(k:Has s.O w)(m:Made w w' o):Has s.O w':=fun b o v=>by
 have e:=(Array.getElem?_eq_some_iff.1 (k b o v)).1
 rw[m.ab b e];exact k b o v
theorem AF{M:aD}(hd:u7 s A Rd):(fun b=>un A s.X b/\ ¬ (A b/\M b≠none))=un (fun b=>A b/\ ¬ (A b/\M b≠none)) s.X:=by
 funext b;apply propext
 unfold un
 constructor
 ·rintro⟨h|h,k⟩
  ·exact .inl ⟨h,k⟩
  ·exact .inr h
 ·rintro(⟨h,k⟩|h)
  ·exact⟨.inl h,k⟩
  ·exact⟨.inr h,fun k=>(hd b h).1 k.1⟩
theorem u7.w6{M:aD}(hd:u7 s A Rd):u7 s (fun b=>A b/\ ¬ (A b/\M b≠none)) (fun b=>Rd b\/(A b/\M b≠none)):=fun b e=>
 ⟨fun h=>(hd b e).1 h.1,fun h=>h.elim (hd b e).2 fun h=>(hd b e).1 h.1⟩
theorem oF.Hg{M:aD}(h:oF p (un A s.X) Rd):oF p (un (fun b=>A b/\ ¬ (A b/\M b≠none)) s.X) (fun b=>Rd b\/(A b/\M b≠none)):=by
 intro b e
 rcases e with(⟨x,_⟩|x)|x|⟨x,_⟩
 ·exact h b (.inl (.inl x))
 ·exact h b (.inl (.inr x))
 ·exact h b (.inr x)
 ·exact h b (.inl (.inl x))
end
section
variable {C:Ctx} {Z:ZX} {ds:List Deferred} {σ:St} {ops:Array Oper} {i:Nat} {o:Oper} {Rd:aI} {aK:Value->World->Prop} {s:Aside} {hX:∀ b,s.O b≠none->s.X b}
theorem xD(hZ:Up Z)(U:ops[i]? =some o)(hg:o.guard=none){ty e:TypeId}{dir:ChanDir}{inf:TypeInfo}{x:Operand}(G:o.op= .makeChan ty x)(hx:bE C σ.t x=SV.i 0)(V:C.P.underlying ty=some (.chan dir e))(W:C.P.info? e=some inf)
  (hd:(match o.dst with |none=>true|some d=>Nat.blt d C.sz)=true) (h:∀ Ch,RX C ops (i+1) Z (jU s hX (fD C.P aK Rd (.p1 Ch))) ds (σ.app o.dst (.d (.val (.chan (some Ch)))) [])):RX C ops i Z (jU s hX (fD C.P aK Rd .p0)) ds σ:=by
 refine fx U fun A M ρ a w hs b k cs X hz=>fun J w' hr hw=>?_
 refine oG.intro (.By rfl rfl fun af D=>?_)
 have B:dd A Rd w af:=dd.trans hr (D.less fun b=> .inl)
 have v:=SX.rely hs B
 have E:=hw.ab hX D
 have Y:a.eval x= .int .i64 0:=v.val hx
 have I:(execOp a.eval o).run C.P af= .ok (.value (.chan (some af.heap.size))) (af.alloc s6):=by
  have :=run_makeChan (w:=af) V W .i64 0 (by omega) (by simp)
  simp[execOp,G,Y]
  simp only[Int.ofNat_zero,Int.natCast_zero,Int.cast_ofNat_Int]at this
  rw[this];rfl
 have O:(execOp a.eval o).events C.P af #[]= #[]:=by
  have :=events_makeChan (w:=af) V W .i64 0 (by omega) (by simp) #[]
  simp[execOp,G,Y]
  simp only[Int.ofNat_zero,Int.natCast_zero,Int.cast_ofNat_Int]at this
  rw[this]
 refine⟨_,_,ra U hg X I O,fP _ _,?_⟩
 have r:=(fP af s6).rely (A:=A) (Rd:=Rd) (M:=M) v.Ha
 exact h af.heap.size A M ρ _ _ ((SX.rely v r).put hd (.d _ _ (.val _ rfl)) (by show σ.nx+8*i<=σ.nx+8*(i+1);omega)) b k cs X (hZ _ _ _ _ _ _ _ hz (aD.le_refl _) (B.same.trans r.same)) J _ (.refl _) (E.made (fP _ _))
theorem y7(hZ:Up Z)(Y:ops[i]? =some o)(hg:o.guard=none){ty:TypeId}(J:o.op= .alloc ty)(B:∀ w,(Instr.alloc ty true (.tuple #[])).run C.P w= .ok (.pointer (some ⟨w.heap.size,0,none⟩)) (w.alloc (pk ty)))(V:∀ w,(Instr.alloc ty true (.tuple #[])).events C.P w #[]= #[])
  (hd:(match o.dst with |none=>true|some d=>Nat.blt d C.sz)=true) {Ch:Nat} (n:Nat) (D:Nat->aD->Value->Prop) {hl:Lo.spawn 0 false≠ .out} {hm:(Lo.spawn 0 false).mute=false}
  (h:∀ Wg,RX C ops (i+1) Z (jU s hX (cZ C.P ⟨n,Wg,Ch,ty,D⟩ aK true Rd 0 (.spawn 0 false) hl hm)) ds (σ.app o.dst (.d (.val (.pointer (some ⟨Wg,0,none⟩)))) [])):RX C ops i Z (jU s hX (fD C.P aK Rd (.p1 Ch))) ds σ:=by
 refine fx Y fun A M ρ a w hs b k cs hb hz=>fun W w' hr hw=>?_
 refine oG.intro (.Bz rfl Ch ty rfl fun af E=>?_)
 have e:dd A Rd w af:=dd.trans hr (E.less fun b=> .inl)
 have v:=SX.rely hs e
 have G:=hw.ab hX E
 have X:(execOp a.eval o).run C.P af= .ok (.value (.pointer (some ⟨af.heap.size,0,none⟩))) (af.alloc (pk ty)):=by
  simp[execOp,J,B]
 have he:(execOp a.eval o).events C.P af #[]= #[]:=by simp[execOp,J,B,V]
 refine⟨_,_,ra Y hg hb X he,fP _ _,?_⟩
 have r:=(fP af (pk ty)).rely (A:=A) (Rd:=Rd) (M:=M) v.Ha
 have hT:=h af.heap.size A M ρ _ _ ((SX.rely v r).put hd (u:= .d (.val (.pointer (some ⟨af.heap.size,0,none⟩)))) (.d _ _ (.val _ rfl)) (by show σ.nx+8*i<=σ.nx+8*(i+1);omega)) b k cs hb (hZ _ _ _ _ _ _ _ hz (aD.le_refl _) (e.same.trans r.same))
 exact oG.intro (.start ⟨n,af.heap.size,Ch,ty,D⟩ rfl fun ha O U I=>hT W _ (.refl _) (G.made (fP _ _)) ha O U I)
section
variable {p:Pr} {aZ:List SV} {f:FuncId} {x:Operand}
theorem B0(hZ:Up Z)(ho:ops[i]? =some o)(hg:o.guard=none)(X:o.op= .go {callee:= .value x,args:= #[],argTypes:= #[]})(U:o.dst=none)(hx:bE C σ.t x= .fn f aZ)(I:∀ y,y∈aZ->SV.kU y=true){j:Nat}
  {hl:Lo.spawn j true≠ .out} {hm:(Lo.spawn j true).mute=false} {hl':Lo.spawn (j+1) false≠ .out} {hm':(Lo.spawn (j+1) false).mute=false}
  (Y:Child C.P C.G p aK f aZ (.wk j)) (h:∀ Rd',RX C ops (i+1) Z (jU s hX (cZ C.P p aK true Rd' 0 (.spawn (j+1) false) hl' hm')) ds σ):RX C ops i Z (jU s hX (cZ C.P p aK true Rd 0 (.spawn j true) hl hm)) ds σ:=by
 refine fx ho fun A M ρ a w hs b k cs W hz=>lX.intro fun V hA af D hw aa=>?_
 refine cy.intro (.kP rfl rfl j rfl rfl fun E v=>?_)
 have J:=v.ry.less (A':=A) fun b=> .inl
 have e:=SX.rely (SX.rely hs D) J
 have B:=v.wg aa
 have O:=hw.ab hX v.ry
 obtain⟨vs,hq,ah,al⟩:=jy (by have :=e.op x;rw[hx]at this;exact this)
 refine⟨fun b=>A b/\M b≠none,_,_,fun b W=> .inl W.1,Ad ho hg W X hq,?_,Y _ M E vs e.sr.gl e.shared (oF.w6 (hA.less fun b=> .inl)).2 B ah fun j y hy=>?_⟩
 ·rw[U,AF V]
  refine lX.elim (h (fun b=>Rd b\/(A b/\M b≠none)) (fun b=>A b/\ ¬ (A b/\M b≠none)) M ρ a E ?_ b k cs W (hZ _ _ _ _ _ _ _ hz (aD.le_refl _) (D.same.trans v.ry.same))) V.w6 O hA.Hg B
  have g:=e.w6
  exact⟨g.fit,g.sr,g.df,fun n hn=>g.fr n (by have av:σ.nx+8*(i+1)<=n:=hn;omega)⟩
 ·obtain⟨u,h1,h2⟩:=al j y hy
  exact⟨u,h1,fun aq=>VR.other h2 (I y (List.mem_of_getElem? hy))⟩
theorem B1(hZ:Up Z)(ho:ops[i]? =some o)(hg:o.guard=none)(X:o.op= .go {callee:= .value x,args:= #[],argTypes:= #[]})(U:o.dst=none)(hx:bE C σ.t x= .fn f aZ)(I:∀ y,y∈aZ->SV.kU y=true)
  {hl:Lo.spawn p.n false≠ .out} {hm:(Lo.spawn p.n false).mute=false} {hl':Lo.recv []≠ .out} {hm':(Lo.recv []).mute=false}
  (Y:Child C.P C.G p aK f aZ (.cw p.n)) (h:∀ Rd',RX C ops (i+1) Z (jU s hX (cZ C.P p aK true Rd' 0 (.recv []) hl' hm')) ds σ):RX C ops i Z (jU s hX (cZ C.P p aK true Rd 0 (.spawn p.n false) hl hm)) ds σ:=by
 refine fx ho fun A M ρ a w hs b k cs W hz=>lX.intro fun V hA af D hw aa=>?_
 refine cy.intro (.kQ rfl rfl rfl rfl fun E v=>?_)
 have J:=v.ry.less (A':=A) fun b=> .inl
 have e:=SX.rely (SX.rely hs D) J
 have B:=v.wg aa
 have O:=hw.ab hX v.ry
 obtain⟨vs,hq,ah,al⟩:=jy (by have :=e.op x;rw[hx]at this;exact this)
 refine⟨fun b=>A b/\M b≠none,_,_,fun b W=> .inl W.1,Ad ho hg W X hq,?_,Y _ M E vs e.sr.gl e.shared (oF.w6 (hA.less fun b=> .inl)).2 B ah fun j y hy=>?_⟩
 ·rw[U,AF V]
  refine lX.elim (h (fun b=>Rd b\/(A b/\M b≠none)) (fun b=>A b/\ ¬ (A b/\M b≠none)) M ρ a E ?_ b k cs W (hZ _ _ _ _ _ _ _ hz (aD.le_refl _) (D.same.trans v.ry.same))) V.w6 O hA.Hg B
  have g:=e.w6
  exact⟨g.fit,g.sr,g.df,fun n hn=>g.fr n (by have av:σ.nx+8*(i+1)<=n:=hn;omega)⟩
 ·obtain⟨u,h1,h2⟩:=al j y hy
  exact⟨u,h1,fun aq=>VR.other h2 (I y (List.mem_of_getElem? hy))⟩
theorem Il(hZ:Up Z){L:WgLink}(H:WgLib C.P L)(Y:ops[i]? =some o)(hg:o.guard=none){y:Operand}{aa:Array TypeId}(U:o.op= .call {callee:= .value (.func L.add),args:= #[x,y],argTypes:=aa})(hx:bE C σ.t x= .d (.val (.pointer (some ⟨p.Wg,0,none⟩))))(hy:bE C σ.t y=SV.i 1)
  (hd:(match o.dst with |none=>true|some d=>Nat.blt d C.sz)=true) {j:Nat} (hj:j<p.n) (hn:p.n<2147483647)
  {hl:Lo.spawn j false≠ .out} {hm:(Lo.spawn j false).mute=false} {hl':Lo.spawn j true≠ .out} {hm':(Lo.spawn j true).mute=false}
  (h:RX C ops (i+1) Z (jU s hX (cZ C.P p aK true Rd 0 (.spawn j true) hl' hm')) ds (σ.app o.dst .any [])):RX C ops i Z (jU s hX (cZ C.P p aK true Rd 0 (.spawn j false) hl hm)) ds σ:=by
 refine fx Y fun A M ρ a w hs b k cs hb hz=>lX.intro fun ah hA af I hw al=>?_
 refine cy.intro (.own rfl (by simp) fun B E=>?_)
 have J:=E.ry.less (A':=A) fun b=> .inl
 have D:=SX.rely (SX.rely hs I) J
 have G:=E.wg al
 have O:=hw.ab hX E.ry
 have e1:=D.val hx
 have e2:=D.val (v:= .int .i64 1) hy
 have V:(addFn L).body.isNone=false:=rfl
 have W:(execOp a.eval o).run C.P B= .ok (.enter L.add #[.pointer (some ⟨p.Wg,0,none⟩), .int .i64 1]) B:=by
  rw[run_call_body U H.f_add (Go.ConcR.Gen.nm_add L) V]
  simp[e1,e2]
 have av:(execOp a.eval o).events C.P B #[]= #[]:=events_call_body U H.f_add (Go.ConcR.Gen.nm_add L) V _
 refine⟨_,B,#[],(stepG_enter Y (dc hg) hb W).trans (by unfold listed;rw[av,seen_none]),fun _=>rfl,mc.idle _,?_⟩
 rw[dp,enter_at _ H.f_add (c:=body_add L) rfl]
 refine HS H hA hj hn G fun w' r X=>?_
 have rA:dd A Rd B w':=dd.less r fun b=> .inl
 have hT:=h A M ρ (a.put o.dst (.tuple #[])) w' ((SX.rely D rA).put hd (.any _) (by show σ.nx+8*i<=σ.nx+8*(i+1);omega)) b k cs hb (hZ _ _ _ _ _ _ _ hz (aD.le_refl _) (I.same.trans (E.ry.same.trans r.same)))
 have e:(ops[i]?).bind (·.dst)=o.dst:=by rw[Y];rfl
 rw[e]
 exact lX.elim hT ah (O.ab hX r) hA X
theorem GJ(hZ:Up Z)(ho:ops[i]? =some o)(hg:o.guard=none){ty e:TypeId}{dir:ChanDir}{z:Value}(av:o.op= .recv ty x true)(hx:bE C σ.t x= .d (.val (.chan (some p.Ch))))(hu:∀ w,(underlying ty).run C.P w= .ok (.chan dir e) w)(a7:∀ w,(underlying ty).events C.P w #[]= #[])(ax:∀ w,(zeroValue e).run C.P w= .ok z w)(a8:∀ w,(zeroValue e).events C.P w #[]= #[])
  (hd:(match o.dst with |none=>true|some d=>Nat.blt d C.sz)=true) (T:Nat->SV) (hT:∀ k M v,p.rX k M v->∀ ρ,VR M ρ (T k) v) {J:List Nat}
  {hl:Lo.recv J≠ .out} {hm:(Lo.recv J).mute=false} {hl1:∀ k,Lo.recv (k::J)≠ .out} {hm1:∀ k,(Lo.recv (k::J)).mute=false} {hl2:Lo.fin≠ .out} {hm2:Lo.fin.mute=false}
  (a0:∀ k Rd',k<p.n->k∉J->RX C ops (i+1) Z (jU s hX (cZ C.P p aK true Rd' 0 (.recv (k::J)) (hl1 k) (hm1 k))) ds (σ.app o.dst (.bA [T k,SV.b true]) []))
  (a1:(∀ k,k<p.n->k∈J)->RX C ops (i+1) Z (jU s hX (cZ C.P p aK true Rd 0 .fin hl2 hm2)) ds (σ.app o.dst (.bA [.any,SV.b false]) [])):RX C ops i Z (jU s hX (cZ C.P p aK true Rd 0 (.recv J) hl hm)) ds σ:=by
 refine fx ho fun A M ρ a w hs b k cs E a2=>lX.intro fun ah hA af Y hw a3=>?_
 have U:=SX.rely hs Y
 have e1:=U.val hx
 refine cy.intro (.recv rfl J (G (b.at a (.inRegion ops (i::List.range' (i+1) (ops.size-(i+1)))::k)) cs) z ⟨rfl,rfl,rfl, .refl _,fun I D=>?_,fun k' M' v I D ba bc ht hh a4=>?_,fun I D a5=>?_⟩)
 ·have a6:(execOp a.eval o).run C.P I= .ok (.comm #[rcase p.Ch z] true (.recv true)) I:=by
   simp[execOp,av,hu,ax,e1,rcase]
  have bh:(execOp a.eval o).events C.P I #[]= #[]:=by
   simp[execOp,av,hu,a7,ax,a8,e1]
  rw[stepG_comm ho (dc hg) E a6]
  unfold listed
  rw[bh,seen_none]
 ·have V:=D.ry.less (A':=A) fun b=> .inl
  have B:=SX.rely U V
  have O:=D.wg a3
  have W:=hw.ab hX D.ry
  rw[served_G ho]
  have aa:∀ b,M' b≠none-> ¬ un A s.X b:=fun b E=>(a4 b E).1
  obtain⟨M2,l1,l2,l3,H2⟩:=D4 B.sr.hr B.fit hh (fun b E h=>aa b E (.inl h))
  have bl:oF p (un A s.X) (fun b=>Rd b\/M' b≠none):=fun b E=>by
   rcases E with E|E|E
   ·exact hA b (.inl E)
   ·exact hA b (.inr E)
   ·exact(a4 b E).2
  refine lX.elim (a0 k' (fun b=>Rd b\/M' b≠none) ba bc A M2 ρ _ I ?_ b k cs E (hZ _ _ _ _ _ _ _ a2 l1 (Y.same.trans D.ry.same))) (fun b E=>⟨(ah b E).1,fun h=>h.elim (ah b E).2 fun h=>aa b h (.inr E)⟩) W bl O
  refine B.app (wr:= []) hd ⟨fun b E=>absurd rfl E,fun b E=>?_,B.fit.lt⟩ l1 (Names.le_refl _) ?_ H2 (fun n hn=>B.fr n (by have bn:σ.nx+8*(i+1)<=n:=hn;omega))
  ·rcases E with E|E
   ·obtain⟨o',al⟩:=Option.ne_none_iff_exists'.1 (B.fit.rm b E)
    rw[l1 b o' al];simp
   ·obtain⟨o',al⟩:=Option.ne_none_iff_exists'.1 E
    rw[l2 b o' al];simp
  ·exact VR.pair ((hT k' M' v ht ρ).mono l2 (Names.le_refl _)) (.d _ _ (.val _ rfl))
 ·have V:=D.ry.less (A':=A) fun b=> .inl
  have B:=SX.rely U V
  have O:=D.wg a3
  have W:=hw.ab hX D.ry
  rw[served_G ho]
  refine lX.elim (a1 a5 A M ρ _ I ?_ b k cs E (hZ _ _ _ _ _ _ _ a2 (aD.le_refl _) (Y.same.trans D.ry.same))) ah W hA O
  exact B.put hd (VR.pair (.any _) (.d _ _ (.val _ rfl))) (by show σ.nx+8*i<=σ.nx+8*(i+1);omega)
end
end
theorem GK{A Rd A' Rd':aI}{M M':aD}{ρ:Names}{h:ar}{w w':World}(H:HR M (ext A Rd F0 w) ρ h w)(f:Fit A Rd F0 M w)(hM:M.le M')(hold:∀ b,A b->M b=none->w'.heap[b]? =w.heap[b]?)(v:∀ b,A b->M b=none->A' b)
  (G:∀ b,A b->M b=none->M' b=none) (hi:Holds M' w') (I:∀ b,M' b≠none->A' b\/Rd' b) (X:w.heap.size<=w'.heap.size):HR M' (ext A' Rd' F0 w') ρ h w':=by
 have J:∀ b,A' b->ext A' Rd' F0 w' b=none:=fun b k=>by rw[cm (.inl k)]
 refine⟨hi,fun b o k=>?_,fun b o k=>?_,fun n blk D=>?_,H.sep,?_⟩
 ·by_cases e:A' b\/Rd' b
  ·rw[cm e]at k;cases k
  ·rw[c8 e]at k;exact k
 ·by_cases e:A' b\/Rd' b
  ·rw[cm e]at k;cases k
  ·exact Classical.byContradiction fun O=>e (I b O)
 ·obtain⟨x,Y,U⟩:=H.live n blk D
  refine⟨x,Y,?_⟩
  rcases U with U|⟨h0,B,h2,o,W,h4⟩
  ·exact .inl U
  ·have E:=m4 f B h2 W
   exact .inr ⟨h0,G _ E B,J _ (v _ E B),o,by rw[hold _ E B];exact W,h4.mono hM (Names.le_refl _)⟩
 ·refine H.dh (fun _ _ _ h=>h) (Names.le_refl _) hM X (fun n S es D b k g1 g2=>?_) (fun n S es x c _ D Y h0 O=>?_) (fun _ _ _ m y _ a b _=> .inl ⟨a,b⟩)
  ·obtain⟨_,_,_,k1,_⟩:=H.fam n S es D
   obtain⟨_,_,k3⟩:=k1 b k
   have E:=m4 f g1 g2 (Array.getElem?_eq_getElem k3)
   exact⟨G _ E g1,J _ (v _ E g1)⟩
  ·rcases O with rfl|O
   ·obtain⟨x',V,U⟩:=H.live n _ D
    rw[Y]at V;obtain rfl:=Option.some.inj V
    rcases U with⟨aa,_⟩|⟨_,B,h2,o,W,_⟩
    ·omega
    ·exact hold _ (m4 f B h2 W) B
   ·obtain⟨_,_,_,k1,_⟩:=H.fam n S es D
    obtain⟨m1,k2,k3⟩:=k1 c O
    exact hold _ (m4 f m1 k2 (Array.getElem?_eq_getElem k3)) m1
section
variable {C:Ctx} {Z:ZX} {ds:List Deferred} {σ:St} {ops:Array Oper} {i:Nat} {o:Oper} {K:Tr C.P} {x:Operand}
open Classical in
theorem xE(hZ:Up Z)(ho:ops[i]? =some o)(hg:o.guard=none){f:FuncId}{fn:Func}{E:Array Operand}{a4:Array TypeId}(a5:o.op= .call {callee:= .value x,args:=E,argTypes:=a4})(hx:bE C σ.t x= .fn f [])(hf:C.P.funcs[f]? =some fn)(a6:fE fn=true)
  {args:List SV} {Pr:SV->Prop} {Q:Tr C.P->Prop} (hF:∀ s hX,lW C.P C.G f args (jU s hX K) (fun K' r=>Pr r/\∃ Jj,K'=jU s hX Jj/\Q Jj)) (V:fZ (bE C σ.t) E.toList=args) (W:∀ y,y∈args->gP y) (hd:(match o.dst with |none=>true|some d=>Nat.blt d C.sz)=true)
  (h:∀ (K':Tr C.P) r,Pr r->Q K'->RX C ops (i+1) Z K' ds (σ.app o.dst r [])):RX C ops i Z K ds σ:=by
 refine fx ho fun A M ρ a w hs b k cs D hz=>?_
 refine K.step A _ w rfl fun af J=>?_
 have B:=hs.rely J
 have aa:=B.op x
 rw[hx]at aa
 obtain⟨vs,hq,a7,bn⟩:=jy aa
 have ah:vs= #[]:=Array.eq_empty_of_size_eq_zero (by simpa using a7)
 subst ah
 have al:=kA (M:=M) (ρ:=ρ) (a:=a) (v:=bE C σ.t) (xs:=E) (fun y hy=>B.op y)
 obtain⟨av,a8⟩:=iN (P:=C.P) (w:=af) (a:=a) a5 hq hf a6
 have hl:listed C.P b.fn a o af= #[]:=by unfold listed;rw[a8];exact seen_none _ _
 refine⟨_,af,#[],(stepG_enter ho (dc hg) D av).trans (by rw[hl]),mc.idle af,?_⟩
 rw[dp]
 subst V
 have ax:∀ b,A b->∃ o,af.heap[b]? =some o:=fun b D=>⟨_,Array.getElem?_eq_getElem (B.fit.lt b D)⟩
 let s:Aside:=⟨fun b=>A b/\M b=none,fun b=>if A b/\M b=none then af.heap[b]? else none,fun b D=>by
  obtain⟨o,ho⟩:=ax b D.1
  show(if A b/\M b=none then af.heap[b]? else none)≠none
  rw[if_pos D,ho];simp⟩
 have sX:∀ b,s.X b=(A b/\M b=none):=fun b=>rfl
 have sO:∀ b,s.O b=if A b/\M b=none then af.heap[b]? else none:=fun b=>rfl
 have hX:∀ b,s.O b≠none->s.X b:=fun b D=>by
  rw[sO]at D
  by_cases e:A b/\M b=none
  ·exact e
  ·rw[if_neg e]at D;exact absurd rfl D
 have ba:un (fun b=>A b/\M b≠none) s.X=A:=by
  funext b;apply propext
  unfold un
  rw[sX]
  constructor
  ·rintro(h|h)
   ·exact h.1
   ·exact h.1
  ·intro D
   by_cases e:M b=none
   ·exact .inr ⟨D,e⟩
   ·exact .inl ⟨D,e⟩
 have bc:u7 s (fun b=>A b/\M b≠none) K.Rd:=fun b D=>⟨fun h=>h.2 D.2,fun h=>B.fit.rm b h D.2⟩
 have hO:Has s.O af:=fun b o D=>by
  rw[sO]at D
  by_cases e:A b/\M b=none
  ·rw[if_pos e]at D;exact D
  ·rw[if_neg e]at D;cases D
 have key:=hF s hX (fun b=>A b/\M b≠none) M (E.map a.eval++ #[]) af ⟨fun b D=>absurd rfl D,B.fit.rm,fun b D=>B.fit.lt b D.1⟩ B.sr.gl B.holds (fun b D=>(B.D2 D).imp (fun h=>⟨h,D⟩) id) (by simp[cd]) (fun j y hy=>?_) ((b.at a (.inRegion ops (i::List.range' (i+1) (ops.size-(i+1)))::k))) cs ?_
 ·have :=key bc af (.refl af) hO
  rw[ba]at this
  exact this
 ·obtain⟨u,u1,u2⟩:=al.2 j y hy
  exact⟨u,by simpa using u1,W y (List.mem_of_getElem? hy) _ _ _ _ u2⟩
 ·rintro K' A' M' r u w' k1 k2 k3 k4 k5 k6 k7 ⟨bh,Jj,rfl,hQ⟩
  intro a0 a1 I U
  have bl:∀ b,A b->M b=none->M' b=none:=fun b Y h2=>Classical.byContradiction fun hc=>(k5 b hc).elim (a0 b ⟨Y,h2⟩).1 (a0 b ⟨Y,h2⟩).2
  have a2:Holds M' a1:=fun b o D=>by rw[I.ab b (k5 b (by rw[D];simp))];exact k4 b o D
  rw[Frame.finish_at,ho]
  refine h Jj r bh hQ (un A' s.X) M' ρ (a.put o.dst u) a1 ?_ b k cs D (hZ _ _ _ _ _ _ _ hz k1 (J.same.trans (k2.trans I.same)))
  refine SX.app (wr:= []) (A':=un A' s.X) (Rd':=Jj.Rd) (nb':=σ.nx+8*(i+1)) B hd ⟨fun b D=>absurd rfl D,k3.rm,fun b D=>D.elim (fun h=>Nat.lt_of_lt_of_le (k3.lt b h) I.same.size) fun h=>Has.lt U h⟩ k1 (Names.le_refl _) (k7 _ _ _ _ k6)
   (GK B.sr.hr B.fit k1 (fun b Y h2=>?_) (fun b Y h2=> .inr ⟨Y,h2⟩) bl a2 (fun b D=>(k5 b D).imp .inl id) (k2.trans I.same).size) (fun n hn=>B.fr n (by omega))
  obtain⟨o',a3⟩:=ax b Y
  rw[a3]
  exact U b o' (by rw[sO,if_pos ⟨Y,h2⟩];exact a3)
end
end Go.Proofs.YtifcaekngfgdmaaDoor.Nice.Co
namespace Go.Proofs.YtifcaekngfgdmaaDoor.Nice.Co
open Go Go.Conc Go.Conc.Lib Go.ConcR.Gen
open Go.ConcR (KK WgAt stA smA mk DC0)
noncomputable abbrev CR:Ctx:=⟨Tryd.prog,63,0,GC⟩
def Km(L:List (List Int))(i:Nat):D:= .vec 1 (L.getD i []).length (dm (L.getD i []))
def pw(L:List (List Int)):SV:= .d (.vec 1 L.length (fun i _=>Km L i))
def Hh(L:List (List Int)):Nat->aD->Value->Prop:=fun k M v=>∀ ρ,VR M ρ (GH (L.getD k []) k) v
abbrev pR(L:List (List Int))(Wg Ch:Nat):Pr:=⟨L.length,Wg,Ch,122,Hh L⟩
def Im(L:List (List Int))(Wg Ch:Nat)(j:Nat):List (Nat×SV):=
 [(0,pw L),(3, .vp 1 1 (fun _ _=> .val (.func (.func 32) #[] #[])) 0 0),(6, .vp 1 1 (fun _ _=> .val (.chan (some Ch))) 0 0),(7, .d (.val (.pointer (some ⟨Wg,0,none⟩)))),(19,pw L),(20,SV.i L.length),(21,SV.i j)]
noncomputable def y8:Code:=match Tryd.f31.body.getD .skip with | .seq _ (.seq _ (.seq _ (.seq _ (.seq _ c))))=>c|_=> .skip
theorem EP{aK:Value->World->Prop}{s:Aside}{hX:∀ b,s.O b≠none->s.X b}(L:List (List Int))(U:L.length<=100)(I:∀ l,l∈L->Bytes l)(Rd:aI){Q:QX Tryd.prog}
  (k:∀ Wg Ch Rd' π σ,Sub CR π σ (Im L Wg Ch L.length) []->WX CR y8 Q (jU s hX (cZ Tryd.prog (pR L Wg Ch) aK true Rd' 0 (.spawn L.length false) hS rfl)) [] σ):WX CR (Tryd.f31.body.getD .skip) Q (jU s hX (fD Tryd.prog aK Rd .p0)) [] (fg (iE 0 [pw L, .fn 32 []]) []):=by
 obtain⟨inf,E⟩:∃ inf,Tryd.prog.info? 124=some inf:=Option.isSome_iff_exists.1 (by kernel_rfl)
 refine x1 ?_
 refine sT 3 0 1 rfl<|sT 4 8 2 rfl<|sT 5 16 3 rfl<|e1 24 rfl ?_
 refine hY ?_
 refine x1 ?_
 refine sT 15 24 1 rfl<|sT 16 32 2 rfl<|sT 17 40 3 rfl<|e1 48 rfl ?_
 refine nB rfl (fun B=>?_) fun B=>?_
 ·exfalso
  simp at B;omega
 refine uM ?_
 refine vk ?_
 refine jT 3 0 (.val (.func (.func 32) #[] #[])) rfl rfl EI ?_
 refine Hf ?_
 refine xD PZ.up rfl rfl rfl rfl Tryd.underlying112 E rfl fun Ch=>?_
 refine eg PZ.up [_,_] 1 _ (fun j D=>by simp at D;match j,D with |0,_=>rfl|1,_=>rfl) ?_
 refine sT 6 56 2 rfl ?_
 refine s0 64 3 rfl rfl rfl rfl rfl trivial ?_
 refine e1 72 rfl ?_
 refine fO rfl rfl ?_
 refine vk ?_
 refine jT 6 56 (.val (.chan (some Ch))) rfl rfl uZ ?_
 refine Hf ?_
 refine y7 PZ.up rfl rfl rfl u6 xB rfl L.length (Hh L) (hl:=hS) (hm:=rfl) fun Wg=>?_
 refine fO rfl rfl ?_
 refine vk ?_
 refine hY ?_
 refine x1 ?_
 refine sT 19 80 1 rfl<|sT 20 88 2 rfl<|sT 21 96 3 rfl<|e1 104 rfl ?_
 refine nC ?_
 refine wY (fun m K ds σ=>ds= []/\∃ j Rd' π,j<=L.length/\m=L.length-j/\K=jU s hX (cZ Tryd.prog (pR L Wg Ch) aK true Rd' 0 (.spawn j false) hS rfl)/\Sub CR π σ (Im L Wg Ch j) []) L.length ⟨rfl,0,_,[],Nat.zero_le _,rfl,rfl,⟨rfl,⟨rfl,rfl,rfl,rfl,rfl,rfl,rfl,trivial⟩,trivial⟩⟩ ?_
 rintro m K ds σ ⟨rfl,j,Rd',π,D,rfl,rfl,G⟩
 refine iG π _ _ G ?_
 refine x1 ?_
 refine sT 22 0 1 rfl<|e1 8 rfl ?_
 refine hY ?_
 refine nB rfl (fun B=>?_) fun B=>?_
 ·have e:j<L.length:=by simpa using B
  refine uM ?_
  refine vk ?_
  refine hY ?_
  refine nC ?_
  refine x1 ?_
  refine sT 23 8 1 rfl<|sO 24 16 2 rfl<|sO 25 24 3 rfl<|sT 8 32 4 rfl<|sT 9 40 5 rfl ?_
  refine s0 48 6 rfl rfl rfl rfl rfl trivial ?_
  refine s0 56 7 rfl rfl rfl rfl rfl trivial ?_
  refine e1 64 rfl ?_
  refine jT 8 32 (.val (.int .i64 j)) rfl rfl uZ ?_
  refine jT 9 40 (Km L j) rfl rfl uZ ?_
  refine Hf ?_
  refine Il PZ.up YtifcaekngfgdmaaDoor.EJ rfl rfl rfl rfl rfl rfl e (Nat.lt_of_le_of_lt U (by omega)) (hl':=hS) (hm':=rfl) ?_
  refine fO rfl rfl ?_
  refine vk ?_
  refine KF ?_
  refine eg PZ.up [_] 0 _ (fun j D=>by simp at D;subst D;rfl) ?_
  refine sT 27 72 1 rfl<|e1 88 rfl ?_
  refine B0 PZ.up rfl rfl rfl rfl rfl ?_ (hl':=hS) (hm':=rfl) (EO (p:=pR L Wg Ch) (Nat.lt_of_le_of_lt U (by omega)) (L.getD j []) ?_ j (fun M v h=>h)) fun J=>?_
  ·exact fun y V=>List.all_eq_true.1 (show(u5 (pR L Wg Ch) 32 _ j).all SV.kU=true from rfl) y V
  ·refine I _ ?_
   rw[List.getD_eq_getElem?_getD,List.getElem?_eq_getElem e]
   exact List.getElem_mem e
  refine fO rfl rfl ?_
  refine Kj ?_
  refine vk ?_
  refine x0 ?_
  refine de 28 88 1 rfl<|sT 21 96 2 rfl<|e1 104 rfl ?_
  exact⟨L.length-(j+1),by omega,rfl,j+1,J,[],by omega,rfl,rfl,⟨rfl,⟨rfl,rfl,rfl,rfl,rfl,rfl,rfl,trivial⟩,trivial⟩⟩
 ·have e:j=L.length:=by
   have : ¬ ((j:Int)<L.length):=by simpa using B
   omega
  subst e
  refine Ac ?_
  refine JA ?_
  refine JA ?_
  refine Kl ?_
  refine vk ?_
  exact k Wg Ch Rd' [] _ ⟨rfl,⟨rfl,rfl,rfl,rfl,rfl,rfl,rfl,trivial⟩,trivial⟩
end Go.Proofs.YtifcaekngfgdmaaDoor.Nice.Co
namespace Go.Proofs.YtifcaekngfgdmaaDoor.Nice.Co
open Go
def Io(r:cP):Nat->D
 |0=> .val (.int .i64 r.c)
 |1=> .val (.int .i64 r.lo)
 |2=> .val (.int .i64 r.hi)
 |_=> .val (.int .i64 r.s)
def tq(L:List (List Int))(i c:Nat):D:=Io (rR (L.getD i [])) c
def dR(L:List (List Int)):Nat->Int
 |0=>0
 |n+1=>if dR L n=0 then bT (L.getD n [])else dR L n
def ej(L:List (List Int)):Int:=dR L L.length
theorem u9{L:List (List Int)}{k n:Nat}(b:k<=n)(h:dR L k≠0):dR L n=dR L k:=by
 induction n with
 |zero=>
  obtain rfl:k=0:=by omega
  rfl
 |succ n ih=>
  by_cases e:k=n+1
  ·subst e;rfl
  ·have :=ih (by omega)
   show(if dR L n=0 then _ else _)=_
   rw[if_neg (by rw[this];exact h),this]
theorem y9{L:List (List Int)}{k n:Nat}(b:k<n)(v:dR L k=0)(h:bT (L.getD k [])≠0):dR L n=bT (L.getD k []):=by
 have e:dR L (k+1)=bT (L.getD k []):=by show(if _ then _ else _)=_;rw[if_pos v]
 rw[u9 (k:=k+1) b (by rw[e];exact h),e]
theorem nR{L:List (List Int)}{k:Nat}(b:dR L k=0)(h:bT (L.getD k [])=0):dR L (k+1)=0:=by show(if _ then _ else _)=_;rw[if_pos b,h]
def mJ(L:List (List Int)):SV:= .d (.vec 4 L.length (fun i c=>tq L i c))
def eH(L:List (List Int)):SV:=if 100<L.length then .bA [.d .bz,SV.i 1]else if ej L=0 then .bA [mJ L,SV.i 0]else .bA [.d .bz,SV.i (ej L)]
theorem AG{L:List (List Int)}(b:L.length<=100)(h:ej L=0):eH L= .bA [mJ L,SV.i 0]:=by unfold eH;rw[if_neg (by omega),if_pos h]
theorem xF{L:List (List Int)}(b:L.length<=100)(h:ej L≠0):eH L= .bA [.d .bz,SV.i (ej L)]:=by unfold eH;rw[if_neg (by omega),if_neg h]
theorem tu{L:List (List Int)}(b:100<L.length):eH L= .bA [.d .bz,SV.i 1]:=by unfold eH;rw[if_pos b]
theorem tv(L:List (List Int))(π:List Nat):du π (eH L)=eH L/\gP (eH L):=by
 have key:∀ x y:D,du π (.bA [.d x, .d y])= .bA [.d x, .d y]/\gP (.bA [.d x, .d y]):=fun x y=>⟨rfl,kV (cn rfl) (cn rfl)⟩
 unfold eH
 split
 ·exact key _ _
 ·split
  ·exact key _ _
  ·exact key _ _
noncomputable def Ip:Code:=match y8 with | .seq _ (.seq _ (.seq _ (.seq _ c)))=>c|_=> .skip
theorem Iq(L:List (List Int))(B:L.length<=100):W ⟨Tryd.prog,63,0,GC⟩ Ip (iP ⟨Tryd.prog,63,0,GC⟩ Tryd.f31 (fun r _=>r=eH L)) (fg [(10, .sl 0 0 L.length),(11, .sl 1 0 L.length)] [some (.rows 39 4 L.length (fun i c=>tq L i c)),some (.rows 27 1 L.length (fun i _=> .val (.int .i64 (bT (L.getD i [])))))]):=by
 show W _ _ _ ⟨dG _,dC _,2⟩
 refine ai<|r1<|sT 52 2 1 rfl<|sO 53 10 2 rfl<|sT 54 18 3 rfl<|e1 26 rfl<|ab [10,52,53,54] rfl<|au ?_
 refine loop (α:=Nat) 2 (fun n=> [(10, .sl 0 0 L.length),(52, .sl 1 0 L.length),(53,SV.i L.length),(54,SV.i n)]) (fun n=> [some (.rows 39 4 L.length (fun i c=>tq L i c)),some (.rows 27 1 L.length (fun i _=> .val (.int .i64 (bT (L.getD i [])))))]) (fun n=>n<=L.length/\dR L n=0) (fun n=>L.length-n) (0) [0,1] (fun _=>rfl) ⟨Nat.zero_le _,rfl⟩ rfl ⟨rfl,rfl,rfl,rfl,trivial⟩ ⟨rfl,rfl,trivial⟩ (fun n D=>?_)
 obtain⟨E,v⟩:=D
 refine r1<|sO 55 2 1 rfl<|e1 10 rfl<|ab [10,52,53,54,55] rfl<|ai ?_
 refine q1 rfl (fun e=>?_) (fun e=>?_)
 try simp only[cs,ne_eq]at e
 refine ak<|tn<|ai<|au<|r1<|sO 56 10 1 rfl<|sO 57 18 2 rfl<|sT 14 26 3 rfl<|e1 34 rfl<|ab [10,14,52,53,54] rfl<|r1<|sT 58 34 1 rfl<|sO 59 42 2 rfl<|e1 50 rfl<|ab [10,14,52,53,54,59] rfl ?_
 refine q1 rfl (fun b=>?_) (fun b=>?_)
 try simp only[cs,ne_eq]at b
 refine r1<|sT 60 50 1 rfl<|sT 4 58 2 rfl<|sT 5 66 3 rfl<|e1 74 rfl<|ab [4,5] rfl<|ao<|br<|tr<|tr<|br<|tr ?_
 exact eF 4 5 (.d .bz) (SV.i (bT (L.getD n []))) (π:= []) (ae:= []) Tryd.results31 rfl rfl rfl (by simp only[Int.toNat_natCast,Nat.zero_add];rfl) rfl rfl trivial (by have h:=y9 (L:=L) (k:=n) (n:=L.length) (by omega) v (by simpa using b);rw[xF B (by unfold ej;rw[h];simpa using b)];unfold ej;rw[h])
 try simp only[cs,ne_eq]at b
 refine ak<|bn<|tn ?_
 refine r0 ?_
 refine de 61 50 1 rfl<|sT 54 58 2 rfl<|e1 66 rfl<|tn ?_
 exact again (n+1) [0,1] ⟨by omega,nR v (by simpa using b)⟩ (by omega) rfl ⟨rfl,rfl,rfl,rfl,trivial⟩ ⟨rfl,rfl,trivial⟩
 try simp only[cs,ne_eq]at e
 refine bI<|tx<|tx<|bx<|tn ?_
 obtain rfl:n=L.length:=(by omega)
 refine freeze 10 0 L.length rfl rfl (Nat.le_refl _) ?_
 refine r1<|sT 62 10 1 rfl<|sT 4 18 2 rfl<|sT 5 26 3 rfl<|e1 34 rfl<|ab [4,5] rfl<|ao ?_
 exact eF 4 5 (mJ L) (SV.i 0) (π:= []) (ae:= []) Tryd.results31 rfl rfl rfl rfl rfl rfl trivial (AG B v).symm
end Go.Proofs.YtifcaekngfgdmaaDoor.Nice.Co
namespace Go.Proofs.YtifcaekngfgdmaaDoor.Nice.Co
open Go Go.Conc Go.Conc.Lib Go.ConcR.Gen
open Go.ConcR (KK WgAt stA smA mk DC0)
def ER(s:Aside)(hX:∀ b,s.O b≠none->s.X b)(L:List (List Int))(aK:Value->World->Prop):Tr Tryd.prog->SV->Prop:=fun K r=>r=eH L/\∃ e,K=jU s hX e/\Ends aK e
def gO(L:List (List Int))(J:List Nat):Nat->Nat->D:=fun i c=>if i∈J then tq L i c else .val (.int .i64 0)
def gC(L:List (List Int))(J:List Nat):Nat->Nat->D:=fun i _=>if i∈J then .val (.int .i64 (bT (L.getD i [])))else .val (.int .i64 0)
theorem Ir{L:List (List Int)}{J:List Nat}{v:Nat->Nat->D}{k i c:Nat}(h:∀ i c,i<L.length->c<4->v i c=gO L J i c)(B:i<L.length)(b:c<4):pz v (0+(k:Int).toNat) 0 [.val (.int .i64 (rR (L.getD k [])).c), .val (.int .i64 (rR (L.getD k [])).lo), .val (.int .i64 (rR (L.getD k [])).hi), .val (.int .i64 (rR (L.getD k [])).s)] i c=gO L (k::J) i c:=by
 unfold pz
 rw[Int.toNat_natCast,Nat.zero_add]
 by_cases e:i=k
 ·subst e
  rw[if_pos ⟨rfl,Nat.zero_le _,by simpa using b⟩]
  simp only[gO,List.mem_cons,true_or,if_true]
  match c,b with
  |0,_=>rfl
  |1,_=>rfl
  |2,_=>rfl
  |3,_=>rfl
 ·rw[if_neg (fun h=>e h.1),h i c B b]
  simp[gO,e]
theorem Is{L:List (List Int)}{J:List Nat}{b:Nat->Nat->D}{k i:Nat}{x:Int}(h:∀ i,i<L.length->b i 0=gC L J i 0)(v:i<L.length)(hX:bT (L.getD k [])=x):pz b (0+(k:Int).toNat) 0 [.val (.int .i64 x)] i 0=gC L (k::J) i 0:=by
 unfold pz
 rw[Int.toNat_natCast,Nat.zero_add]
 subst hX
 by_cases e:i=k
 ·subst e;simp[gC]
 ·simp[e,h i v,gC]
def J1(n Ch:Nat):List (Nat×SV):= [(10, .sl 0 0 n),(11, .sl 1 0 n),(36, .d (.val (.chan (some Ch))))]
def J2(n:Nat)(b e:Nat->Nat->D):List (Option aB):= [some (.rows 39 4 n b),some (.rows 27 1 n e)]
theorem J3{J:List Nat}:Lo.recv J≠ .out:=by simp
theorem ES{aK:Value->World->Prop}{s:Aside}{hX:∀ b,s.O b≠none->s.X b}(L:List (List Int))(hL:L.length<=100)(av:∀ l,l∈L->Bytes l)(Wg Ch:Nat)(Rd:aI){π:List Nat}{σ:St}(I:Sub CR π σ (Im L Wg Ch L.length) []):
  WX CR y8 (re CR Tryd.f31 (ER s hX L aK)) (jU s hX (cZ Tryd.prog (pR L Wg Ch) aK true Rd 0 (.spawn L.length false) hS rfl)) [] σ:=by
 refine iG π _ _ I ?_
 refine Hf ?_
 refine eg PZ.up [_] 0 _ (fun j D=>by simp at D;subst D;rfl) ?_
 refine sT 29 0 1 rfl<|e1 16 rfl ?_
 refine B1 (p:=pR L Wg Ch) PZ.up rfl rfl rfl rfl rfl ?_ (hl':=J3) (hm':=rfl) (EN (Nat.lt_of_le_of_lt hL (by omega))) fun W=>?_
 ·exact fun y hy=>List.all_eq_true.1 (show(u4 (pR L Wg Ch)).all SV.kU=true from rfl) y hy
 refine fO rfl rfl ?_
 refine vk ?_
 refine x1 ?_
 refine sT 30 16 1 rfl<|sT 31 24 2 rfl ?_
 refine sV 32 32 3 rfl ⟨by omega,rfl,(by show(L.length:Int)*((32:Nat):Int)<=((140737488355328:Nat):Int);omega),by omega⟩ ?_
 refine sT 10 40 4 rfl<|e1 48 rfl ?_
 refine x1 ?_
 refine sT 33 48 1 rfl<|sT 34 56 2 rfl ?_
 refine sV 35 64 3 rfl ⟨by omega,rfl,(by show(L.length:Int)*((8:Nat):Int)<=((140737488355328:Nat):Int);omega),by omega⟩ ?_
 refine sT 11 72 4 rfl<|e1 80 rfl ?_
 refine hY ?_
 refine x1 ?_
 refine sV 36 80 1 rfl (by decide) ?_
 refine e1 88 rfl ?_
 refine nC ?_
 refine wY (fun m K ds σ=>ds= []/\∃ J Rd' π Y fc,m=nv J L.length/\K=jU s hX (cZ Tryd.prog (pR L Wg Ch) aK true Rd' 0 (.recv J) J3 rfl)/\(∀ i c,i<L.length->c<4->Y i c=gO L J i c)/\(∀ i,i<L.length->fc i 0=gC L J i 0)/\Sub CR π σ (J1 L.length Ch) (J2 L.length Y fc)) (nv [] L.length) ⟨rfl,[],W,[32,64],_,_,rfl,rfl,?_,?_,⟨rfl,⟨rfl,rfl,rfl,trivial⟩,⟨rfl,rfl,trivial⟩⟩⟩ ?_
 ·intro i c e B
  simp only[gO,List.not_mem_nil,if_false]
  match c,B with
  |0,_=>rfl
  |1,_=>rfl
  |2,_=>rfl
  |3,_=>rfl
 ·intro i e;simp[gC];rfl
 rintro m K ds σ ⟨rfl,J,Rd',aa,Y,fc,rfl,rfl,U,V,G⟩
 refine iG aa _ _ G ?_
 refine Hf ?_
 refine GJ (p:=pR L Wg Ch) PZ.up rfl rfl rfl rfl Tryd.runUnderlying112 (fun w=>by simp) Tryd.zeroValue124 (fun w=>by simp) rfl (fun k=>GH (L.getD k []) k) (fun k M v h=>h) (hl1:=fun k=>J3) (hm1:=fun k=>rfl) (hl2:=by simp) (hm2:=rfl) (fun k ah hk al=>?_) (fun E=>?_)
 ·have hk:k<L.length:=hk
  refine eg PZ.up [_] 1 _ (fun j D=>by simp at D;subst D;rfl) ?_
  refine sT 38 10 2 rfl<|e1 18 rfl ?_
  refine fO rfl rfl ?_
  refine vk ?_
  refine hY ?_
  refine nB rfl (fun _=>?_) (fun B=>by cases B)
  refine uM ?_
  refine vk ?_
  refine nC ?_
  refine x1 ?_
  refine sT 39 18 1 rfl<|sT 12 26 2 rfl ?_
  refine s0 34 3 rfl rfl rfl rfl rfl trivial ?_
  refine e1 42 rfl ?_
  refine GD [10,11,12,36] rfl ?_
  refine KE (by kernel_rfl) ?_
  refine dT 40 42 1 rfl<|dT 41 50 2 rfl<|dT 42 58 3 rfl<|dT 43 66 4 rfl<|dT 44 74 5 rfl<|dT 45 82 6 rfl<|dT 46 90 7 rfl<|dT 47 98 8 rfl<|dT 48 106 9 rfl<|dT 49 114 10 rfl<|dO 50 122 11 rfl ?_
  refine d0 130 12 rfl rfl rfl rfl rfl (by first|trivial|omega) ?_
  refine dO 51 138 13 rfl ?_
  refine d0 146 14 rfl rfl rfl rfl rfl (by first|trivial|omega) ?_
  refine iT 154 rfl (by kernel_rfl) ?_
  refine Kj ?_
  exact⟨nv (k::J) L.length,AD al hk,rfl,k::J,ah,[0,1],_,_,rfl,rfl,(fun i c e B=>Ir U e B),(fun i e=>Is V e rfl),⟨rfl,⟨rfl,rfl,rfl,trivial⟩,⟨rfl,rfl,trivial⟩⟩⟩
 ·refine eg PZ.up [_] 1 _ (fun j D=>by simp at D;subst D;rfl) ?_
  refine sT 38 10 2 rfl<|e1 18 rfl ?_
  refine fO rfl rfl ?_
  refine vk ?_
  refine hY ?_
  refine nB rfl (fun B=>by cases B) (fun _=>?_)
  refine Ac ?_
  refine JA ?_
  refine JA ?_
  refine Kl ?_
  refine vk ?_
  refine xA 0 L.length (fun i c=>tq L i c) rfl rfl (fun i c e B=>?_) ?_
  ·rw[U i c e B];unfold gO;rw[if_pos (E i e)]
  refine xA 1 L.length (fun i _=> .val (.int .i64 (bT (L.getD i [])))) rfl rfl (fun i c e B=>?_) ?_
  ·obtain rfl:c=0:=by omega
   rw[V i e];unfold gC;rw[if_pos (E i e)]
  refine iG [0,1] [(10, .sl 0 0 L.length),(11, .sl 1 0 L.length)] [some (.rows 39 4 L.length (fun i c=>tq L i c)),some (.rows 27 1 L.length (fun i _=> .val (.int .i64 (bT (L.getD i [])))))] ⟨rfl,⟨rfl,rfl,trivial⟩,⟨rfl,rfl,trivial⟩⟩ (lJ (Iq L hL) ?_)
  rintro π r ho rfl
  rw[(tv L π).1]
  exact⟨(tv L []).2,rfl,_,rfl,Ea⟩
end Go.Proofs.YtifcaekngfgdmaaDoor.Nice.Co
namespace Go.Proofs.YtifcaekngfgdmaaDoor.Nice.Co
open Go
theorem B2(L:List (List Int)):(∃ c,eH L= .bA [.d .bz,SV.i c])\/∃ n f c,eH L= .bA [.d (.vec 4 n f),SV.i c]:=by
 unfold eH
 split
 ·exact .inl ⟨_,rfl⟩
 ·split
  ·exact .inr ⟨_,_,_,rfl⟩
  ·exact .inl ⟨_,rfl⟩
section
variable {aK:Value->World->Prop} {s:Aside} {hX:∀ b,s.O b≠none->s.X b}
theorem zb(L:List (List Int))(b:∀ l,l∈L->Bytes l)(Rd:aI):lW Tryd.prog GC 31 [pw L, .fn 32 []] (jU s hX (fD Tryd.prog aK Rd .p0)) (ER s hX L aK):=by
 refine oI Tryd.func31 rfl rfl ?_
 by_cases e:L.length<=100
 ·exact EP L e b Rd fun Wg Ch Rd' π σ v=>ES L e b Wg Ch Rd' v
 ·refine x1 ?_
  refine sT 3 0 1 rfl<|sT 4 8 2 rfl<|sT 5 16 3 rfl<|e1 24 rfl ?_
  refine hY ?_
  refine x1 ?_
  refine sT 15 24 1 rfl<|sT 16 32 2 rfl<|sT 17 40 3 rfl<|e1 48 rfl ?_
  refine nB rfl (fun k=>?_) fun k=>?_
  ·refine x1 ?_
   refine sT 4 48 1 rfl<|sT 5 56 2 rfl<|e1 64 rfl ?_
   refine yH ?_
   refine KB ?_
   exact Ec 4 5 Tryd.results31 rfl rfl (cn rfl) (cn rfl) ⟨(tu (by omega)).symm,_,rfl,D9⟩
  ·exfalso
   simp at k;omega
theorem B3(L:List (List Int))(k:∀ l,l∈L->Bytes l)(Rd:aI):lW Tryd.prog GC 20 [pw L] (jU s hX (fD Tryd.prog aK Rd .p0)) (ER s hX L aK):=by
 refine oI Tryd.func20 rfl rfl ?_
 refine x1 ?_
 refine sT 2 0 1 rfl<|sT 3 8 2 rfl<|e1 16 rfl ?_
 refine Hf ?_
 refine eg PZ.up [_] 0 _ (fun j b=>by simp at b;subst b;rfl) ?_
 refine sT 4 16 1 rfl<|e1 64 rfl ?_
 refine Ga PZ.up rfl rfl rfl rfl Tryd.func31 rfl (zb L k Rd) rfl ?_ (fun n=>rfl) rfl ?_
 ·intro y v
  simp at v
  rcases v with rfl|rfl
  ·exact cn rfl
  ·exact GG
 rintro K' r ⟨rfl,B⟩
 rcases B2 L with⟨c,e⟩|⟨n,f,c,e⟩
 ·rw[e]
  refine eg PZ.up [_,_,_,_] 2 _ (fun j b=>by simp at b;match j,b with |0,_=>rfl|1,_=>rfl|2,_=>rfl|3,_=>rfl) ?_
  refine sT 6 32 3 rfl<|sT 7 40 4 rfl<|sT 2 48 5 rfl<|sT 3 56 6 rfl<|e1 64 rfl ?_
  refine fO rfl rfl ?_
  refine vk ?_
  refine yH ?_
  exact Ec 2 3 Tryd.results20 rfl rfl (cn rfl) (cn rfl) ⟨e.symm,B⟩
 ·rw[e]
  refine eg PZ.up [_,_,_,_] 2 _ (fun j b=>by simp at b;match j,b with |0,_=>rfl|1,_=>rfl|2,_=>rfl|3,_=>rfl) ?_
  refine sT 6 32 3 rfl<|sT 7 40 4 rfl<|sT 2 48 5 rfl<|sT 3 56 6 rfl<|e1 64 rfl ?_
  refine fO rfl rfl ?_
  refine vk ?_
  refine yH ?_
  exact Ec 2 3 Tryd.results20 rfl rfl (cn rfl) (cn rfl) ⟨e.symm,B⟩
end
end Go.Proofs.YtifcaekngfgdmaaDoor.Nice.Co
namespace Go.Proofs.YtifcaekngfgdmaaDoor.Nice.Co.J
open Go
def G0:Nat->SV:=fun _=> .any
structure cP where
 c:Int
 lo:Int
 hi:Int
 s:Int
 deriving DecidableEq
def bb(r:cP):SV:= .agg [SV.i r.c,SV.i r.lo,SV.i r.hi,SV.i r.s]
def cK(n:Int):Bool:=decide (-2305843009213693952<=n)&&decide (n<2305843009213693952)
def fA(r:cP):Bool:=(decide (r.c=0)&&(decide (r.lo=0)&&(decide (r.hi=0)&&decide (r.s=0))))||(decide (0<r.c)&&(decide (r.c<=1048576)&&(decide (r.lo<=r.hi)&&(cK r.lo&&(cK r.hi&&cK r.s)))))
def joined(a b:cP):cP:=if a.c=0 then b else if b.c=0 then a else⟨a.c+b.c,if b.lo<a.lo then b.lo else a.lo,if a.hi<b.hi then b.hi else a.hi,a.s+b.s⟩
def join(a b:cP):cP×Int:=if fA a=true/\fA b=true then(if fA (joined a b)=true then(joined a b,0)else(⟨0,0,0,0⟩,11))else(⟨0,0,0,0⟩,4)
theorem tw{a b:cP}(h: ¬ (fA a=true/\fA b=true)):join a b=(⟨0,0,0,0⟩,4):=by unfold join;rw[if_neg h]
theorem B4{a b:cP}(h:fA a=true)(e:fA b=true)(k:fA (joined a b)=false):join a b=(⟨0,0,0,0⟩,11):=by unfold join;rw[if_pos ⟨h,e⟩,if_neg (by rw[k];decide)]
theorem AH{a b:cP}(h:fA a=true)(e:fA b=true)(k:fA (joined a b)=true):join a b=(joined a b,0):=by unfold join;rw[if_pos ⟨h,e⟩,if_pos k]
theorem pX{r:cP}(h:fA r=true):(r.c=0/\r.lo=0/\r.hi=0/\r.s=0)\/(0<r.c/\r.c<=1048576/\r.lo<=r.hi/\ -2305843009213693952<=r.lo/\r.hi<2305843009213693952/\ -2305843009213693952<=r.s/\r.s<2305843009213693952):=by
 simp[fA,cK]at h
 omega
def JB(a b d:Int):Nat->Int
 |0=>a
 |1=>b
 |_=>d
def Ko(a b d:Int):Nat->Nat->D:=fun i _=> .val (.int .i64 (JB a b d i))
theorem J4{a b d:Int}(h:∀ j,j<3->cK (JB a b d j)=true):cK a=true/\cK b=true/\cK d=true:=⟨h 0 (by omega),h 1 (by omega),h 2 (by omega)⟩
theorem Jk{a b d:Int}{n:Nat}(e:n<3)(h:cK (JB a b d n)=false):(cK a&&(cK b&&cK d))=false:=by
 match n,e with
 |0,_=>have h:cK a=false:=h;rw[h];rfl
 |1,_=>have h:cK b=false:=h;rw[h];simp
 |2,_=>have h:cK d=false:=h;rw[h];simp
theorem jK(a b d:Int):Spec Tryd.prog G0 55 [.sl 0 0 3] [.cells 3 1 [SV.i a,SV.i b,SV.i d]] (fun r G=>r=SV.b (cK a&&(cK b&&cK d))/\G= [none]):=by
 refine start 18 1 Tryd.func55 rfl rfl rfl rfl ?_
 refine torows 0 3 (Ko a b d) rfl (by decide) (Nat.le_refl _) (fun i c I J=>by have O:c<1:=J;obtain rfl:c=0:=(by omega);match i,I with |0,_=>rfl|1,_=>rfl|2,_=>rfl) ?_
 refine freeze 0 0 3 rfl rfl (Nat.le_refl _) ?_
 refine r1<|sT 2 1 1 rfl<|e1 9 rfl<|ab [0] rfl<|ai<|r1<|sT 5 9 1 rfl<|sO 6 17 2 rfl<|sT 7 25 3 rfl<|e1 33 rfl<|ab [5,6,7] rfl<|au ?_
 refine loop (α:=Nat) 1 (fun n=> [(5, .d (.vec 1 3 (Ko a b d))),(6,SV.i 3),(7,SV.i n)]) (fun n=> [none]) (fun n=>n<=3/\∀ j,j<n->cK (JB a b d j)=true) (fun n=>3-n) (0) [0] (fun _=>rfl) ⟨Nat.zero_le _,fun j E=>by omega⟩ rfl ⟨rfl,rfl,rfl,trivial⟩ trivial (fun n U=>?_)
 obtain⟨Y,B⟩:=U
 refine r1<|sO 8 1 1 rfl<|e1 9 rfl<|ab [5,6,7,8] rfl<|ai ?_
 refine q1 rfl (fun D=>?_) (fun D=>?_)
 try simp only[cs,ne_eq]at D
 refine ak<|tn<|ai<|au<|r1<|sO 9 9 1 rfl<|sO 10 17 2 rfl<|sT 4 25 3 rfl<|e1 33 rfl<|ab [4,5,6,7] rfl<|r1<|sT 11 33 1 rfl<|sO 12 41 2 rfl<|sT 13 49 3 rfl ?_
 refine ask 13 rfl (fun k=>?_) (fun k=>?_)
 try simp only[cs,ne_eq]at k
 refine gF 2 false 13 14 4 rfl rfl<|gF 2 false 13 15 5 rfl rfl<|sT 16 73 6 rfl<|e1 81 rfl<|ab [5,6,7,16] rfl ?_
 refine q1 rfl (fun v=>?_) (fun v=>?_)
 try simp only[cs,ne_eq]at v
 refine r1<|sT 2 81 1 rfl<|e1 89 rfl<|ab [2] rfl<|ao<|br<|tr<|tr<|br<|tr ?_
 exact bm 2 (SV.b (cK a&&(cK b&&cK d))) (π:= [0]) (ae:= [none]) Tryd.results55 rfl (by rw[Jk (n:=n) (by omega) (by simp only[Int.toNat_natCast]at *;simp[cK];omega)];rfl) rfl rfl trivial ⟨rfl,rfl⟩
 exact absurd v (by decide)
 try simp only[cs,ne_eq]at k
 refine gT 2 false 13 4 rfl rfl<|sT 14 57 4 rfl<|gT 2 false 13 5 rfl rfl<|sO 15 65 5 rfl<|sT 16 73 6 rfl<|e1 81 rfl<|ab [5,6,7,16] rfl ?_
 refine q1 rfl (fun v=>?_) (fun v=>?_)
 try simp only[cs,ne_eq]at v
 refine r1<|sT 2 81 1 rfl<|e1 89 rfl<|ab [2] rfl<|ao<|br<|tr<|tr<|br<|tr ?_
 exact bm 2 (SV.b (cK a&&(cK b&&cK d))) (π:= [0]) (ae:= [none]) Tryd.results55 rfl (by rw[Jk (n:=n) (by omega) (by simp only[Int.toNat_natCast]at *;simp[cK];omega)];rfl) rfl rfl trivial ⟨rfl,rfl⟩
 try simp only[cs,ne_eq]at v
 refine ak<|bn<|tn ?_
 refine r0 ?_
 refine de 17 81 1 rfl<|sT 7 89 2 rfl<|e1 97 rfl<|tn ?_
 exact again (n+1) [0] ⟨by omega,fun j E=>by by_cases e:j=n;(subst e;clear B;simp only[Int.toNat_natCast]at *;simp[cK];omega);exact B j (by omega)⟩ (by omega) rfl ⟨rfl,rfl,rfl,trivial⟩ trivial
 try simp only[cs,ne_eq]at D
 refine bI<|tx<|tx<|bx<|tn<|r1<|sT 2 9 1 rfl<|e1 17 rfl<|ab [2] rfl<|ao ?_
 exact bm 2 (SV.b (cK a&&(cK b&&cK d))) (π:= [0]) (ae:= [none]) Tryd.results55 rfl (by obtain⟨V,W,X⟩:=J4 (fun j E=>B j (by omega));rw[V,W,X];rfl) rfl rfl trivial ⟨rfl,rfl⟩
theorem vb(q:cP):Spec Tryd.prog G0 34 [bb q] [] (fun r I=>r=SV.b (fA q)/\I= []):=by
 refine start 34 0 Tryd.func34 rfl rfl rfl rfl ?_
 refine r1<|sT 1 0 1 rfl<|sT 2 8 2 rfl<|e1 16 rfl<|ab [1] rfl<|ai<|r1<|sT 3 16 1 rfl<|sO 4 24 2 rfl<|sO 5 32 3 rfl<|e1 40 rfl<|ab [1,5] rfl ?_
 refine q1 rfl (fun G=>?_) (fun G=>?_)
 ·skip
  try simp only[cs,ne_eq]at G
  refine r1<|sO 6 40 1 rfl<|sT 7 48 2 rfl ?_
  refine J8 (op:= .eql) 8 56 3 rfl rfl rfl rfl rfl rfl rfl rfl rfl (by kernel_rfl) (by kernel_rfl) rfl (.inl ⟨rfl,rfl⟩) ?_
  refine sT 2 64 4 rfl<|e1 72 rfl<|ab [2] rfl<|ao<|tr ?_
  exact bm 2 (SV.b (fA q)) (π:= []) (ae:= []) Tryd.results34 rfl (by show SV.b _=SV.b _;refine congrArg SV.b (Bool.eq_iff_iff.2 ?_);cases B:cK q.lo<;>cases D:cK q.hi<;>cases E:cK q.s<;>simp[fA,B,D,E]at * <;>omega) rfl rfl trivial ⟨rfl,rfl⟩
 try simp only[cs,ne_eq]at G
 refine ak<|tn<|r1<|sT 9 40 1 rfl<|sO 10 48 2 rfl<|sO 11 56 3 rfl<|sT 12 64 4 rfl ?_
 refine ask 12 rfl (fun e=>?_) (fun e=>?_)
 ·skip
  try simp only[cs,ne_eq]at e
  refine gT 3 true 12 5 rfl rfl<|sT 13 72 5 rfl<|gT 3 true 12 6 rfl rfl<|sO 14 80 6 rfl<|gT 3 true 12 7 rfl rfl<|sO 15 88 7 rfl<|sT 16 96 8 rfl<|sT 17 104 9 rfl ?_
  refine ask 17 rfl (fun k=>?_) (fun k=>?_)
  ·skip
   try simp only[cs,ne_eq]at k
   refine gT 8 true 17 10 rfl rfl<|sT 18 112 10 rfl<|gT 8 true 17 11 rfl rfl<|sO 19 120 11 rfl<|gT 8 true 17 12 rfl rfl<|sT 20 128 12 rfl<|gT 8 true 17 13 rfl rfl<|sO 21 136 13 rfl<|gT 8 true 17 14 rfl rfl<|sO 22 144 14 rfl<|sT 23 152 15 rfl<|sT 24 160 16 rfl ?_
   refine ask 24 rfl (fun v=>?_) (fun v=>?_)
   ·skip
    try simp only[cs,ne_eq]at v
    refine gT 15 true 24 17 rfl rfl<|sT 25 168 17 rfl<|gT 15 true 24 18 rfl rfl<|sO 26 176 18 rfl<|gT 15 true 24 19 rfl rfl<|sT 27 184 19 rfl<|gT 15 true 24 20 rfl rfl<|sO 28 192 20 rfl<|gT 15 true 24 21 rfl rfl<|sT 29 200 21 rfl<|gT 15 true 24 22 rfl rfl<|sO 30 208 22 rfl<|gT 15 true 24 23 rfl rfl<|sT 31 216 23 rfl<|gT 15 true 24 24 rfl rfl ?_
    refine c1 (jK q.lo q.hi q.s) [216] [216] 32 224 24 rfl rfl rfl rfl rfl rfl rfl rfl Tryd.func55 rfl rfl rfl rfl ⟨rfl,trivial⟩ rfl rfl ?_
    refine sT 33 232 25 rfl<|sT 2 240 26 rfl<|e1 248 rfl<|ab [2] rfl<|ao ?_
    exact bm 2 (SV.b (fA q)) (π:= []) (ae:= []) Tryd.results34 rfl (by show SV.b _=SV.b _;refine congrArg SV.b (Bool.eq_iff_iff.2 ?_);cases B:cK q.lo<;>cases D:cK q.hi<;>cases E:cK q.s<;>simp[fA,B,D,E]at * <;>omega) rfl rfl trivial ⟨rfl,rfl⟩
   try simp only[cs,ne_eq]at v
   refine gF 15 true 24 25 17 rfl rfl<|gF 15 true 24 26 18 rfl rfl<|gF 15 true 24 27 19 rfl rfl<|gF 15 true 24 28 20 rfl rfl<|gF 15 true 24 29 21 rfl rfl<|gF 15 true 24 30 22 rfl rfl<|gF 15 true 24 31 23 rfl rfl<|gF 15 true 24 32 24 rfl rfl<|sT 33 232 25 rfl<|sT 2 240 26 rfl<|e1 248 rfl<|ab [2] rfl<|ao ?_
   exact bm 2 (SV.b (fA q)) (π:= []) (ae:= []) Tryd.results34 rfl (by show SV.b _=SV.b _;refine congrArg SV.b (Bool.eq_iff_iff.2 ?_);cases B:cK q.lo<;>cases D:cK q.hi<;>cases E:cK q.s<;>simp[fA,B,D,E]at * <;>omega) rfl rfl trivial ⟨rfl,rfl⟩
  try simp only[cs,ne_eq]at k
  refine gF 8 true 17 18 10 rfl rfl<|gF 8 true 17 19 11 rfl rfl<|gF 8 true 17 20 12 rfl rfl<|gF 8 true 17 21 13 rfl rfl<|gF 8 true 17 22 14 rfl rfl<|sT 23 152 15 rfl<|sT 24 160 16 rfl<|gF 15 true 24 25 17 rfl rfl<|gF 15 true 24 26 18 rfl rfl<|gF 15 true 24 27 19 rfl rfl<|gF 15 true 24 28 20 rfl rfl<|gF 15 true 24 29 21 rfl rfl<|gF 15 true 24 30 22 rfl rfl<|gF 15 true 24 31 23 rfl rfl<|gF 15 true 24 32 24 rfl rfl<|sT 33 232 25 rfl ?_
  refine sT 2 240 26 rfl<|e1 248 rfl<|ab [2] rfl<|ao ?_
  exact bm 2 (SV.b (fA q)) (π:= []) (ae:= []) Tryd.results34 rfl (by show SV.b _=SV.b _;refine congrArg SV.b (Bool.eq_iff_iff.2 ?_);cases B:cK q.lo<;>cases D:cK q.hi<;>cases E:cK q.s<;>simp[fA,B,D,E]at * <;>omega) rfl rfl trivial ⟨rfl,rfl⟩
 try simp only[cs,ne_eq]at e
 refine gF 3 true 12 13 5 rfl rfl<|gF 3 true 12 14 6 rfl rfl<|gF 3 true 12 15 7 rfl rfl<|sT 16 96 8 rfl<|sT 17 104 9 rfl<|gF 8 true 17 18 10 rfl rfl<|gF 8 true 17 19 11 rfl rfl<|gF 8 true 17 20 12 rfl rfl<|gF 8 true 17 21 13 rfl rfl<|gF 8 true 17 22 14 rfl rfl<|sT 23 152 15 rfl<|sT 24 160 16 rfl<|gF 15 true 24 25 17 rfl rfl<|gF 15 true 24 26 18 rfl rfl<|gF 15 true 24 27 19 rfl rfl<|gF 15 true 24 28 20 rfl rfl ?_
 refine gF 15 true 24 29 21 rfl rfl<|gF 15 true 24 30 22 rfl rfl<|gF 15 true 24 31 23 rfl rfl<|gF 15 true 24 32 24 rfl rfl<|sT 33 232 25 rfl<|sT 2 240 26 rfl<|e1 248 rfl<|ab [2] rfl<|ao ?_
 exact bm 2 (SV.b (fA q)) (π:= []) (ae:= []) Tryd.results34 rfl (by show SV.b _=SV.b _;refine congrArg SV.b (Bool.eq_iff_iff.2 ?_);cases B:cK q.lo<;>cases D:cK q.hi<;>cases E:cK q.s<;>simp[fA,B,D,E]at * <;>omega) rfl rfl trivial ⟨rfl,rfl⟩
theorem mC(a b:cP)(v:fA a=true)(B:fA b=true):Spec Tryd.prog G0 35 [bb a,bb b] [] (fun r D=>r=bb (joined a b)/\D= []):=by
 refine start 36 0 Tryd.func35 rfl rfl rfl rfl ?_
 refine r1<|sT 2 0 1 rfl<|sT 3 8 2 rfl<|sT 4 16 3 rfl<|e1 24 rfl<|ab [2,3,4] rfl<|ai<|au<|r1<|sT 6 24 1 rfl<|sO 7 32 2 rfl<|sO 8 40 3 rfl<|sT 5 48 4 rfl<|e1 56 rfl<|ab [2,3,4,5] rfl ?_
 refine q1 rfl (fun e=>?_) (fun e=>?_)
 try simp only[cs,ne_eq]at e
 refine r1<|sO 9 56 1 rfl<|cJ 64 2 rfl rfl rfl rfl rfl<|e1 72 rfl<|ab [4] rfl<|ao<|br<|tr ?_
 exact cG (bb (joined a b)) (π:= []) (ae:= []) Tryd.results35 rfl (by trivial) (by unfold joined;rw[if_pos e];rfl) rfl rfl trivial ⟨rfl,rfl⟩
 try simp only[cs,ne_eq]at e
 refine r1<|sT 11 56 1 rfl<|sO 12 64 2 rfl<|sO 13 72 3 rfl<|sT 10 80 4 rfl<|e1 88 rfl<|ab [2,3,4,10] rfl ?_
 refine q1 rfl (fun k=>?_) (fun k=>?_)
 try simp only[cs,ne_eq]at k
 refine r1<|sO 14 88 1 rfl<|cJ 96 2 rfl rfl rfl rfl rfl<|e1 104 rfl<|ab [4] rfl<|ao<|br<|tr ?_
 exact cG (bb (joined a b)) (π:= []) (ae:= []) Tryd.results35 rfl (by trivial) (by unfold joined;rw[if_neg e,if_pos k];rfl) rfl rfl trivial ⟨rfl,rfl⟩
 try simp only[cs,ne_eq]at k
 refine ak<|bn<|tn<|r1<|sT 15 88 1 rfl<|sO 16 96 2 rfl<|sT 17 104 3 rfl<|sO 18 112 4 rfl ?_
 refine sA 19 120 5 rfl rfl rfl rfl rfl rfl rfl rfl rfl (by have :=pX v;have :=pX B;unfold aj;omega) ?_
 refine sT 20 128 6 rfl<|sO 21 136 7 rfl<|sT 22 144 8 rfl<|sO 23 152 9 rfl<|sT 24 160 10 rfl<|sT 25 168 11 rfl<|sO 26 176 12 rfl<|sT 27 184 13 rfl<|sO 28 192 14 rfl<|sT 29 200 15 rfl<|sT 30 208 16 rfl<|sO 31 216 17 rfl<|sT 32 224 18 rfl<|sO 33 232 19 rfl ?_
 refine sA 34 240 20 rfl rfl rfl rfl rfl rfl rfl rfl rfl (by have :=pX v;have :=pX B;unfold aj;omega) ?_
 refine sT 35 248 21 rfl<|cJ 256 22 rfl rfl rfl rfl rfl<|e1 264 rfl<|ab [4] rfl<|ao ?_
 exact cG (bb (joined a b)) (π:= []) (ae:= []) Tryd.results35 rfl (by trivial) (by unfold joined;rw[if_neg e,if_neg k];rfl) rfl rfl trivial ⟨rfl,rfl⟩
theorem ET(a b:cP):Spec Tryd.prog G0 21 [bb a,bb b] [] (fun r B=>r=SV.bA [bb (join a b).1,SV.i (join a b).2]/\B= []):=by
 refine start 24 0 Tryd.func21 rfl rfl rfl rfl ?_
 refine r1<|sT 2 0 1 rfl<|sT 3 8 2 rfl<|sT 4 16 3 rfl<|sT 5 24 4 rfl<|e1 32 rfl<|ab [2,3,4] rfl<|ai<|r1<|sO 7 32 1 rfl ?_
 refine c1 (vb a) [] [] 8 40 2 rfl rfl rfl rfl rfl rfl rfl rfl Tryd.func34 rfl rfl rfl rfl trivial rfl rfl ?_
 refine sT 9 48 3 rfl<|sT 10 56 4 rfl ?_
 refine ask 10 rfl (fun e=>?_) (fun e=>?_)
 try simp only[cs,ne_eq]at e
 refine gF 3 false 10 11 5 rfl rfl<|gF 3 false 10 12 6 rfl rfl<|gF 3 false 10 13 7 rfl rfl<|sT 14 88 8 rfl<|e1 96 rfl<|ab [2,3,4,14] rfl ?_
 refine q1 rfl (fun k=>?_) (fun k=>?_)
 try simp only[cs,ne_eq]at k
 refine r1<|sT 15 96 1 rfl<|cJ 104 2 rfl rfl rfl rfl rfl<|sT 5 112 3 rfl<|e1 120 rfl<|ab [4,5] rfl<|ao<|tr ?_
 exact cG (SV.bA [bb (join a b).1,SV.i (join a b).2]) (π:= []) (ae:= []) Tryd.results21 rfl (by trivial) (by rw[tw (by simp[*])];rfl) rfl rfl trivial ⟨rfl,rfl⟩
 exact absurd k (by decide)
 try simp only[cs,ne_eq]at e
 refine gT 3 false 10 5 rfl rfl<|sO 11 64 5 rfl<|gT 3 false 10 6 rfl rfl ?_
 refine c1 (vb b) [] [] 12 72 6 rfl rfl rfl rfl rfl rfl rfl rfl Tryd.func34 rfl rfl rfl rfl trivial rfl rfl ?_
 refine gT 3 false 10 7 rfl rfl<|sT 13 80 7 rfl<|sT 14 88 8 rfl<|e1 96 rfl<|ab [2,3,4,14] rfl ?_
 refine q1 rfl (fun k=>?_) (fun k=>?_)
 try simp only[cs,ne_eq]at k
 refine r1<|sT 15 96 1 rfl<|cJ 104 2 rfl rfl rfl rfl rfl<|sT 5 112 3 rfl<|e1 120 rfl<|ab [4,5] rfl<|ao<|tr ?_
 exact cG (SV.bA [bb (join a b).1,SV.i (join a b).2]) (π:= []) (ae:= []) Tryd.results21 rfl (by trivial) (by rw[tw (by simp[*])];rfl) rfl rfl trivial ⟨rfl,rfl⟩
 try simp only[cs,ne_eq]at k
 refine ak<|tn<|r1<|sO 16 96 1 rfl<|sO 17 104 2 rfl ?_
 refine c1 (mC a b e k) [] [] 18 112 3 rfl rfl rfl rfl rfl rfl rfl rfl Tryd.func35 rfl rfl rfl rfl trivial rfl rfl ?_
 refine sT 6 120 4 rfl<|cJ 128 5 rfl rfl rfl rfl rfl<|e1 136 rfl<|ab [4,6] rfl<|ai<|r1<|sO 19 136 1 rfl ?_
 refine c1 (vb (joined a b)) [] [] 20 144 2 rfl rfl rfl rfl rfl rfl rfl rfl Tryd.func34 rfl rfl rfl rfl trivial rfl rfl ?_
 refine sT 21 152 3 rfl<|e1 160 rfl<|ab [4,6,21] rfl ?_
 refine q1 rfl (fun v=>?_) (fun v=>?_)
 try simp only[cs,ne_eq]at v
 refine r1<|sT 22 160 1 rfl<|cJ 168 2 rfl rfl rfl rfl rfl<|sT 5 176 3 rfl<|e1 184 rfl<|ab [4,5] rfl<|ao<|tr ?_
 exact cG (SV.bA [bb (join a b).1,SV.i (join a b).2]) (π:= []) (ae:= []) Tryd.results21 rfl (by trivial) (by rw[B4 e k v];rfl) rfl rfl trivial ⟨rfl,rfl⟩
 try simp only[cs,ne_eq]at v
 refine ak<|tn<|r1<|sO 23 160 1 rfl<|cJ 168 2 rfl rfl rfl rfl rfl<|sT 5 176 3 rfl<|e1 184 rfl<|ab [4,5] rfl<|ao ?_
 exact cG (SV.bA [bb (join a b).1,SV.i (join a b).2]) (π:= []) (ae:= []) Tryd.results21 rfl (by trivial) (by rw[AH e k v];rfl) rfl rfl trivial ⟨rfl,rfl⟩
end Go.Proofs.YtifcaekngfgdmaaDoor.Nice.Co.J
