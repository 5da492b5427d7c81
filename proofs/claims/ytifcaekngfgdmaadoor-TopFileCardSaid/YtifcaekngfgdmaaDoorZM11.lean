/- Part 11 of the proof of TopFile. -/
import Derived.Test.YtifcaekngfgdmaaDoorZM10
set_option linter.unusedVariables false
set_option linter.unusedSimpArgs false
set_option maxRecDepth 100000
set_option maxHeartbeats 4000000
namespace Go.Proofs.YtifcaekngfgdmaaDoor.Nice.Co
open Go
def aS(a:wu)(x y:Int):aR:=if a.n=0 then⟨x,y⟩else⟨a.t+a.st+x,a.v+y⟩
structure Ed where
 M:List aR
 n:Nat
 e:Int
def eB(l:List Int)(k:Nat)(p:Ed):Ed:=
 if p.e≠0 then p
 else if(bk l p.n).e≠0 then⟨p.M,0,(bk l p.n).e⟩
 else if(bk l (bk l p.n).at').e≠0 then⟨p.M,0,(bk l (bk l p.n).at').e⟩
 else if bC (aT p.M k) (aS (aT p.M k) (bk l p.n).x (bk l (bk l p.n).at').x)≠0 then⟨p.M,0,4⟩
 else⟨p.M++ [aS (aT p.M k) (bk l p.n).x (bk l (bk l p.n).at').x],(bk l (bk l p.n).at').at',0⟩
def dg(l:List Int):Nat->Ed
 |0=>⟨[],8,0⟩
 |k+1=>eB l k (dg l k)
def oJ(l:List Int)(n:Nat):Prop:=bL l n ((8*l.length-n)%8)=0/\8*l.length-n<8
instance (l:List Int) (n:Nat):Decidable (oJ l n):=inferInstanceAs (Decidable (_/\_))
def iI(l:List Int):Nat:=(bL l 0 8).toNat
def bT(l:List Int):Int:=if l.length=0 then 5 else if 120<bL l 0 8 then 4 else if(dg l (iI l)).e≠0 then(dg l (iI l)).e else if oJ l (dg l (iI l)).n then 0 else 4
def cO(l:List Int):List aR:=(dg l (iI l)).M
theorem BC{l:List Int}{k n:Nat}(B:k<=n)(h:(dg l k).e≠0):dg l n=dg l k:=by
 induction n with
 |zero=>
  obtain rfl:k=0:=by omega
  rfl
 |succ n ih=>
  rcases Nat.lt_or_ge n k with v|b
  ·obtain rfl:k=n+1:=by omega
   rfl
  ·have :=ih b
   show eB l n (dg l n)=_
   unfold eB
   rw[if_pos (by rw[this];exact h),this]
theorem Ee{l:List Int}{k n:Nat}{M:List aR}(h:dg l k=⟨M,n,0⟩)(b:(bk l n).e≠0):(dg l (k+1)).e=(bk l n).e:=by
 show(eB l k (dg l k)).e=_
 unfold eB;rw[h];simp only[ne_eq,not_true,if_false];rw[if_pos b]
theorem Ef{l:List Int}{k n:Nat}{M:List aR}(h:dg l k=⟨M,n,0⟩)(v:(bk l n).e=0)(b:(bk l (bk l n).at').e≠0):(dg l (k+1)).e=(bk l (bk l n).at').e:=by
 show(eB l k (dg l k)).e=_
 unfold eB;rw[h];simp only[ne_eq,not_true,if_false];rw[if_neg (by omega),if_pos b]
theorem Eg{l:List Int}{k n:Nat}{M:List aR}(h:dg l k=⟨M,n,0⟩)(v:(bk l n).e=0)(B:(bk l (bk l n).at').e=0)(b:bC (aT M k) (aS (aT M k) (bk l n).x (bk l (bk l n).at').x)≠0):(dg l (k+1)).e=4:=by
 show(eB l k (dg l k)).e=_
 unfold eB;rw[h];simp only[ne_eq,not_true,if_false];rw[if_neg (by omega),if_neg (by omega),if_pos b]
theorem yI{l:List Int}{k n:Nat}{M:List aR}(h:dg l k=⟨M,n,0⟩)(b:(bk l n).e=0)(v:(bk l (bk l n).at').e=0)(B:bC (aT M k) (aS (aT M k) (bk l n).x (bk l (bk l n).at').x)=0):dg l (k+1)=⟨M++ [aS (aT M k) (bk l n).x (bk l (bk l n).at').x],(bk l (bk l n).at').at',0⟩:=by
 show(eB l k (dg l k))=_
 unfold eB;rw[h];simp only[ne_eq,not_true,if_false];rw[if_neg (by omega),if_neg (by omega),if_neg (by omega)]
theorem oK{l:List Int}{k:Nat}(b:l.length≠0)(B:bL l 0 8<=120)(v:k<=iI l)(h:(dg l k).e≠0):bT l=(dg l k).e:=by
 unfold bT
 rw[if_neg b,if_neg (by omega),BC v h,if_pos h]
theorem Eh{l:List Int}{n:Nat}{M:List aR}(b:l.length≠0)(e:bL l 0 8<=120)(h:dg l (iI l)=⟨M,n,0⟩):bT l=if oJ l n then 0 else 4:=by
 unfold bT
 rw[if_neg b,if_neg (by omega),h];rfl
theorem jd(M:List aR)(s:aR):∀ k,k<=M.length->aT (M++ [s]) k=aT M k
 |0,_=>rfl
 |k+1,h=>by
  show Bg (aT (M++ [s]) k) ((M++ [s]).getD k default)=Bg (aT M k) (M.getD k default)
  rw[jd M s k (by omega)]
  have :(M++ [s]).getD k default=M.getD k default:=by simp only[List.getD];rw[List.getElem?_append_left (by omega)]
  rw[this]
theorem pq(M:List aR)(s:aR):∀ k,k<=M.length->aN (M++ [s]) k=aN M k
 |0,_=>rfl
 |k+1,h=>by
  show(if aN (M++ [s]) k=0 then bC (aT (M++ [s]) k) ((M++ [s]).getD k default)else aN (M++ [s]) k)=(if aN M k=0 then bC (aT M k) (M.getD k default)else aN M k)
  rw[jd M s k (by omega),pq M s k (by omega)]
  have :(M++ [s]).getD k default=M.getD k default:=by simp only[List.getD];rw[List.getElem?_append_left (by omega)]
  rw[this]
theorem oL(M:List aR)(s:aR):(M++ [s]).getD M.length default=s:=by simp[List.getD]
theorem jO(M:List aR)(s:aR)(h:aN M M.length=0):aN (M++ [s]) (M.length+1)=bC (aT M M.length) s:=by
 show(if aN (M++ [s]) M.length=0 then bC (aT (M++ [s]) M.length) ((M++ [s]).getD M.length default)else aN (M++ [s]) M.length)=_
 rw[pq M s _ (Nat.le_refl _),if_pos h,jd M s _ (Nat.le_refl _),oL]
theorem BD(M:List aR)(s:aR):aT (M++ [s]) (M.length+1)=Bg (aT M M.length) s:=by
 show Bg (aT (M++ [s]) M.length) ((M++ [s]).getD M.length default)=_
 rw[jd M s _ (Nat.le_refl _),oL]
theorem xb{A:List aR}{s:aR}(i c:Nat)(e:i<A.length+1)(b:c<2):dZ (b6 A) A.length (iF 2 [.val (.int .i64 s.t), .val (.int .i64 s.v)]) i c=b6 (A++ [s]) i c:=by
 unfold dZ b6
 by_cases h:i<A.length
 ·rw[if_pos h];simp[List.getD,List.getElem?_append_left h]
 ·obtain rfl:i=A.length:=by omega
  rw[if_neg (Nat.lt_irrefl _)]
  have :(A++ [s]).getD A.length default=s:=by simp[List.getD]
  rw[this,Nat.sub_self]
  match c,b with
  |0,_=>rfl
  |1,_=>rfl
theorem yJ(a:wu)(x y:Int)(e:wv a)(k:kh x)(v:kh y):Spec Tryd.prog GC 16 [.ptr 0 0 0,SV.i x,SV.i y] [.cells 64 4 (fh a)] (fun r B=>r=nj (aS a x y)/\B= [some (.cells 64 4 (fh a))]):=by
 obtain⟨⟨J,O⟩,⟨U,V⟩,⟨W,X⟩,Y,h8⟩:=e
 obtain⟨D,E⟩:=k
 obtain⟨G,I⟩:=v
 refine start 35 1 Tryd.func16 rfl rfl rfl rfl ?_
 refine r1<|sT 6 1 1 rfl<|e1 9 rfl<|ab [0,1,2,6] rfl<|ai<|r1<|sT 7 9 1 rfl<|sT 8 17 2 rfl<|sT 9 25 3 rfl<|sO 10 33 4 rfl<|sO 11 41 5 rfl<|e1 49 rfl<|ab [0,1,2,6,11] rfl ?_
 refine q1 rfl (fun b=>?_) (fun b=>?_)
 try simp only[cs,ne_eq]at b
 refine r1<|sT 12 49 1 rfl<|sT 13 57 2 rfl<|sT 14 65 3 rfl<|cJ 73 4 rfl rfl rfl rfl rfl<|e1 81 rfl<|ab [6] rfl<|ao<|tr ?_
 exact cG (nj (aS a x y)) (π:= [0]) (ae:= [some (.cells 64 4 (fh a))]) Tryd.results16 rfl (by trivial) (by unfold aS;rw[if_pos (by omega)];rfl) rfl rfl ⟨rfl,trivial⟩ ⟨rfl,rfl⟩
 try simp only[cs,ne_eq]at b
 refine ak<|tn ?_
 refine kD rfl ?_
 refine dT 15 49 1 rfl<|dT 16 57 2 rfl<|dT 17 65 3 rfl<|dT 18 73 4 rfl<|dO 19 81 5 rfl<|dT 20 89 6 rfl<|dT 21 97 7 rfl<|dT 22 105 8 rfl<|dO 23 113 9 rfl<|xN 24 121 10 rfl<|dT 25 129 11 rfl<|xN 26 137 12 rfl<|dT 27 145 13 rfl<|dT 28 153 14 rfl<|dT 29 161 15 rfl<|dT 30 169 16 rfl ?_
 refine dO 31 177 17 rfl<|dT 32 185 18 rfl<|xN 33 193 19 rfl<|dT 34 201 20 rfl ?_
 refine d0 209 21 rfl rfl rfl rfl rfl (by first|trivial|omega) ?_
 refine iT 217 rfl (by kernel_rfl)<|ab [6] rfl<|ao ?_
 exact cG (nj (aS a x y)) (π:= [0]) (ae:= [some (.cells 64 4 (fh a))]) Tryd.results16 rfl (by trivial) (by unfold aS;rw[if_neg (by omega)];rfl) rfl rfl ⟨rfl,trivial⟩ ⟨rfl,rfl⟩
theorem fQ(l:List Int)(hl:Bytes l):Spec Tryd.prog GC 7 [cI l] [] (fun r ho=>(bT l=0/\r=SV.bA [.sl 0 0 (cO l).length,SV.i 0]/\ho= [some (.rows 31 2 (cO l).length (b6 (cO l)))])\/(bT l≠0/\r=SV.bA [.d .bz,SV.i (bT l)]/\ho= [])):=by
 have J:=hl
 obtain⟨hl1,hl2⟩:=hl
 refine start 76 0 Tryd.func7 rfl rfl rfl rfl ?_
 refine r1<|sT 2 0 1 rfl<|sT 3 8 2 rfl<|e1 16 rfl<|ab [0] rfl<|r1<|sT 15 16 1 rfl ?_
 refine c1 (C8 l) [] [24] 16 24 2 rfl rfl rfl rfl rfl rfl rfl rfl Tryd.func13 rfl rfl rfl rfl trivial rfl rfl ?_
 refine sT 4 32 3 rfl<|e1 40 rfl<|ab [4] rfl<|r1<|sT 18 40 1 rfl ?_
 refine c1 (ns l J 0 (by omega) 8 (by decide)) [24] [24] 19 48 2 rfl rfl rfl rfl rfl rfl rfl rfl Tryd.func14 rfl rfl rfl rfl ⟨rfl,trivial⟩ rfl rfl ?_
 refine sT 17 56 3 rfl<|sT 20 64 4 rfl<|sT 21 72 5 rfl<|sT 5 80 6 rfl<|sT 6 88 7 rfl<|e1 96 rfl<|ab [4,5,6] rfl<|ai<|au<|r1<|sT 23 96 1 rfl<|sT 24 104 2 rfl<|sT 22 112 3 rfl<|e1 120 rfl<|ab [4,5,22] rfl ?_
 refine q1 rfl (fun O=>?_) (fun O=>?_)
 try simp only[cs,ne_eq]at O
 refine r1<|sT 2 120 1 rfl<|sT 3 128 2 rfl<|e1 136 rfl<|ab [2,3] rfl<|ao<|br<|tr ?_
 have I:bT l=5:=(by unfold bT;rw[if_pos (by simp[zF]at O;omega)])
 exact eF 2 3 (.d .bz) (SV.i (bT l)) (π:= []) (ae:= []) Tryd.results7 rfl rfl rfl (by rw[I];rfl) rfl rfl trivial (.inr ⟨by rw[I];first|decide|assumption,rfl,rfl⟩)
 try simp only[cs,ne_eq]at O
 have h0:l.length≠0:=(by simp[zF]at O;omega)
 have aa:0+8<=8*l.length:=(by omega)
 have ah:uw l 0 8=bL l 0 8:=if_pos aa
 have a3:mj l 0 8=8:=if_pos aa
 refine r1<|sT 26 120 1 rfl<|sO 27 128 2 rfl<|sT 25 136 3 rfl<|e1 144 rfl<|ab [4,5,25] rfl ?_
 refine q1 rfl (fun Y=>?_) (fun Y=>?_)
 try simp only[cs,ne_eq]at Y
 refine r1<|sT 2 144 1 rfl<|sT 3 152 2 rfl<|e1 160 rfl<|ab [2,3] rfl<|ao<|br<|tr ?_
 have I:bT l=4:=(by unfold bT;rw[if_neg h0,if_pos (by rw[<-ah];simpa using Y)])
 exact eF 2 3 (.d .bz) (SV.i (bT l)) (π:= []) (ae:= []) Tryd.results7 rfl rfl rfl (by rw[I];rfl) rfl rfl trivial (.inr ⟨by rw[I];first|decide|assumption,rfl,rfl⟩)
 try simp only[cs,ne_eq]at Y
 have hN:bL l 0 8<=120:=(by rw[<-ah];omega)
 have a4:=(jG l 0 8).1
 refine ak<|bn<|tn<|r1<|sT 7 144 1 rfl<|e1 152 rfl<|ab [4,5,7] rfl<|r1<|sT 8 152 1 rfl<|e1 160 rfl<|ab [4,5,7,8] rfl<|ai ?_
 refine cB 5 (SV.i (bL l 0 8)) rfl (by rw[ah]) ?_
 refine bW 24 (.cells 85 2 [cI l,SV.i (8:Nat)]) rfl (by rw[a3];rfl) ?_
 refine r1<|sT 28 160 1 rfl<|sT 29 168 2 rfl<|e1 176 rfl<|ab [4,7,8,28,29] rfl<|au ?_
 refine fV 7 31 2 (b6 []) rfl ?_
 refine loop (α:=Nat×Nat×List aR) 3 (fun z=> [(4, .ptr 0 0 0),(7, .sl 2 0 (z.2.2).length),(8, .ptr 1 0 0),(28,SV.i (bL l 0 8)),(29,SV.i (z.1))]) (fun z=> [some (.cells 85 2 [cI l,SV.i ((z.2.1):Nat)]),some (.cells 64 4 (fh (aT (z.2.2) (z.1)))),some (.rows 31 2 (z.2.2).length (b6 (z.2.2)))]) (fun z=>((z.1):Int)<=bL l 0 8/\dg l (z.1)=⟨(z.2.2),(z.2.1),0⟩/\(z.2.2).length=(z.1)/\aN (z.2.2) (z.1)=0/\(z.2.1)<=8*l.length) (fun z=>(bL l 0 8).toNat-(z.1)) (((0,8,[]):Nat×Nat×List aR)) [24,152,176] (fun _=>rfl) (show((0):Int)<=bL l 0 8/\dg l (0)=⟨([]),(8),0⟩/\([]).length=(0)/\aN ([]) (0)=0/\(8)<=8*l.length from⟨a4,rfl,rfl,rfl,by omega⟩) rfl ⟨rfl,rfl,rfl,rfl,rfl,trivial⟩ ⟨rfl,rfl,rfl,trivial⟩ (fun z hx=>?_)
 obtain⟨k,n,M⟩:=z
 show W _ _ _ ⟨dG [(4, .ptr 0 0 0),(7, .sl 2 0 M.length),(8, .ptr 1 0 0),(28,SV.i (bL l 0 8)),(29,SV.i k)],dC [some (.cells 85 2 [cI l,SV.i (n:Nat)]),some (.cells 64 4 (fh (aT M k))),some (.rows 31 2 M.length (b6 M))],3⟩
 have hx:(k:Int)<=bL l 0 8/\dg l k=⟨M,n,0⟩/\M.length=k/\aN M k=0/\n<=8*l.length:=hx
 obtain⟨hk,hd,U,hf,hn⟩:=hx
 have ha:=uu hf (by omega)
 refine r1<|sO 30 3 1 rfl<|e1 11 rfl<|ab [4,7,8,28,29,30] rfl<|ai ?_
 refine q1 rfl (fun V=>?_) (fun V=>?_)
 try simp only[cs,ne_eq]at V
 refine ak<|tn<|ai<|au<|r1<|sT 32 11 1 rfl ?_
 refine c1 (wy l J n hn) [0] [0] 33 19 2 rfl rfl rfl rfl rfl rfl rfl rfl Tryd.func15 rfl rfl rfl rfl ⟨rfl,trivial⟩ rfl rfl ?_
 refine sT 31 27 3 rfl<|sT 34 35 4 rfl<|sT 35 43 5 rfl<|sT 9 51 6 rfl<|sT 10 59 7 rfl<|e1 67 rfl<|ab [4,7,8,9,10,28,29] rfl<|ai<|r1<|sT 36 67 1 rfl<|sO 37 75 2 rfl<|e1 83 rfl<|ab [4,7,8,9,10,28,29,37] rfl ?_
 refine q1 rfl (fun b=>?_) (fun b=>?_)
 try simp only[cs,ne_eq]at b
 refine r1<|sT 38 83 1 rfl<|sT 2 91 2 rfl<|sT 3 99 3 rfl<|e1 107 rfl<|ab [2,3] rfl<|ao<|tr<|br<|tr<|tr<|br<|tr ?_
 have he:=Ee hd b
 have I:bT l=(bk l n).e:=(by rw[oK h0 hN (show k+1<=iI l by unfold iI;omega) (by rw[he];exact b),he])
 exact eF 2 3 (.d .bz) (SV.i (bT l)) (π:= []) (ae:= []) Tryd.results7 rfl rfl rfl (by rw[I];rfl) rfl rfl trivial (.inr ⟨by rw[I];first|decide|assumption,rfl,rfl⟩)
 try simp only[cs,ne_eq]at b
 refine ak<|tn<|r1<|sT 40 83 1 rfl ?_
 refine c1 (wy l J ((bk l n).at') (oq l n hn)) [0] [0] 41 91 2 rfl rfl rfl rfl rfl rfl rfl rfl Tryd.func15 rfl rfl rfl rfl ⟨rfl,trivial⟩ rfl rfl ?_
 refine sT 39 99 3 rfl<|sT 42 107 4 rfl<|sT 43 115 5 rfl<|sT 11 123 6 rfl<|sT 10 131 7 rfl<|e1 139 rfl<|ab [4,7,8,9,10,11,28,29] rfl<|ai<|r1<|sT 44 139 1 rfl<|sO 45 147 2 rfl<|e1 155 rfl<|ab [4,7,8,9,10,11,28,29,45] rfl ?_
 refine q1 rfl (fun v=>?_) (fun v=>?_)
 try simp only[cs,ne_eq]at v
 refine r1<|sT 46 155 1 rfl<|sT 2 163 2 rfl<|sT 3 171 3 rfl<|e1 179 rfl<|ab [2,3] rfl<|ao<|tr<|br<|tr<|tr<|br<|tr ?_
 have he:=Ef hd b v
 have I:bT l=(bk l ((bk l n).at')).e:=(by rw[oK h0 hN (show k+1<=iI l by unfold iI;omega) (by rw[he];exact v),he])
 exact eF 2 3 (.d .bz) (SV.i (bT l)) (π:= []) (ae:= []) Tryd.results7 rfl rfl rfl (by rw[I];rfl) rfl rfl trivial (.inr ⟨by rw[I];first|decide|assumption,rfl,rfl⟩)
 try simp only[cs,ne_eq]at v
 refine ak<|tn<|r1<|sT 47 155 1 rfl<|sT 48 163 2 rfl ?_
 refine c1 (yJ (aT M k) (bk l n).x (bk l ((bk l n).at')).x ha (Db l n) (Db l _)) [1] [1] 49 171 3 rfl rfl rfl rfl rfl rfl rfl rfl Tryd.func16 rfl rfl rfl rfl ⟨rfl,trivial⟩ rfl rfl ?_
 refine sT 12 179 4 rfl<|cJ 187 5 rfl rfl rfl rfl rfl<|e1 195 rfl<|ab [4,7,8,12,28,29] rfl<|ai<|r1<|sO 50 195 1 rfl ?_
 refine c1 (om (aT M k) (aS (aT M k) (bk l n).x (bk l ((bk l n).at')).x)) [1] [1] 51 203 2 rfl rfl rfl rfl rfl rfl rfl rfl Tryd.func17 rfl rfl rfl rfl ⟨rfl,trivial⟩ rfl rfl ?_
 refine sO 52 211 3 rfl<|e1 219 rfl<|ab [4,7,8,12,28,29,52] rfl ?_
 refine q1 rfl (fun B=>?_) (fun B=>?_)
 try simp only[cs,ne_eq]at B
 refine r1<|sT 2 219 1 rfl<|sT 3 227 2 rfl<|e1 235 rfl<|ab [2,3] rfl<|ao<|tr<|br<|tr<|tr<|br<|tr ?_
 have he:=Eg hd b v B
 have I:bT l=4:=(by rw[oK h0 hN (show k+1<=iI l by unfold iI;omega) (by rw[he];decide),he])
 exact eF 2 3 (.d .bz) (SV.i (bT l)) (π:= []) (ae:= []) Tryd.results7 rfl rfl rfl (by rw[I];rfl) rfl rfl trivial (.inr ⟨by rw[I];first|decide|assumption,rfl,rfl⟩)
 try simp only[cs,ne_eq]at B
 have al:=iw B
 have a5:=yI hd b v B
 refine ak<|tn<|r1<|sO 53 219 1 rfl ?_
 refine c1 (qI (aT M k) (aS (aT M k) (bk l n).x (bk l ((bk l n).at')).x) ha al.1 al.2.1) [1] [1] 54 227 2 rfl rfl rfl rfl rfl rfl rfl rfl Tryd.func18 rfl rfl rfl rfl ⟨rfl,trivial⟩ rfl rfl ?_
 refine e1 235 rfl<|ab [4,7,8,12,28,29] rfl ?_
 refine r0 ?_
 refine sT 55 235 1 rfl<|sO 56 243 2 rfl<|sT 57 251 3 rfl ?_
 refine sV 58 259 4 rfl ⟨Nat.le_refl _,trivial,(by show(M.length+1)*16<=140737488355328;omega),(by simp only[maxLen];omega)⟩ ?_
 refine sT 7 267 5 rfl<|e1 275 rfl<|bn<|tn ?_
 refine bP 259 (M++ [(aS (aT M k) (bk l n).x (bk l ((bk l n).at')).x)]).length (b6 (M++ [(aS (aT M k) (bk l n).x (bk l ((bk l n).at')).x)])) rfl (by simp) (fun q c hq hc=>xb (s:=(aS (aT M k) (bk l n).x (bk l ((bk l n).at')).x)) q c hq hc) ?_
 refine cB 7 (.sl 259 0 (M++ [(aS (aT M k) (bk l n).x (bk l ((bk l n).at')).x)]).length) rfl (by simp) ?_
 have a6:aT (M++ [(aS (aT M k) (bk l n).x (bk l ((bk l n).at')).x)]) (k+1)=Bg (aT M k) (aS (aT M k) (bk l n).x (bk l ((bk l n).at')).x):=(by rw[<-U];exact BD M _)
 refine bW 1 (.cells 64 4 (fh (aT (M++ [(aS (aT M k) (bk l n).x (bk l ((bk l n).at')).x)]) (k+1)))) rfl (by rw[a6];rfl) ?_
 refine r0 ?_
 refine de 59 275 1 rfl<|sT 29 283 2 rfl<|e1 291 rfl<|tn ?_
 exact again (((k+1,(bk l ((bk l n).at')).at',M++ [(aS (aT M k) (bk l n).x (bk l ((bk l n).at')).x)]):Nat×Nat×List aR)) [0,1,259] (show((k+1):Int)<=bL l 0 8/\dg l (k+1)=⟨(M++ [(aS (aT M k) (bk l n).x (bk l ((bk l n).at')).x)]),((bk l ((bk l n).at')).at'),0⟩/\(M++ [(aS (aT M k) (bk l n).x (bk l ((bk l n).at')).x)]).length=(k+1)/\aN (M++ [(aS (aT M k) (bk l n).x (bk l ((bk l n).at')).x)]) (k+1)=0/\((bk l ((bk l n).at')).at')<=8*l.length from⟨by omega,a5,by simp[U],(by rw[<-U,jO M _ (by rw[U];exact hf),U];exact B),oq l _ (oq l n hn)⟩) (show(bL l 0 8).toNat-(k+1)<(bL l 0 8).toNat-k from(by omega)) rfl ⟨rfl,rfl,rfl,rfl,rfl,trivial⟩ ⟨rfl,rfl,rfl,trivial⟩
 try simp only[cs,ne_eq]at V
 refine bI<|tx<|tx<|bx<|tn ?_
 have a7:k=iI l:=(by unfold iI;omega)
 have av:dg l (iI l)=⟨M,n,0⟩:=(by rw[<-a7];exact hd)
 have X:=Eh h0 hN av
 refine r1<|sT 61 11 1 rfl<|sT 62 19 2 rfl ?_
 refine c1 (nn l J n hn) [0] [0] 63 27 3 rfl rfl rfl rfl rfl rfl rfl rfl Tryd.func19 rfl rfl rfl rfl ⟨rfl,trivial⟩ rfl rfl ?_
 refine sD 64 35 4 rfl rfl rfl rfl rfl rfl rfl rfl rfl (by omega) ?_
 refine val 64 (SV.i (((8*l.length-n)%8):Nat)) rfl (congrArg (fun x=>SV.d (D.val (Value.int .i64 x))) (by omega)) ?_
 refine c1 (ns l J n hn ((8*l.length-n)%8) (by omega)) [0] [0] 65 43 5 rfl rfl rfl rfl rfl rfl rfl rfl Tryd.func14 rfl rfl rfl rfl ⟨rfl,trivial⟩ rfl rfl ?_
 refine sT 60 51 6 rfl<|sT 66 59 7 rfl<|sT 67 67 8 rfl<|sT 13 75 9 rfl<|sT 14 83 10 rfl<|e1 91 rfl<|ab [4,7,13] rfl<|ai ?_
 have ax:n+((8*l.length-n)%8)<=8*l.length:=(by omega)
 have a0:uw l n ((8*l.length-n)%8)=bL l n ((8*l.length-n)%8):=if_pos ax
 have a1:mj l n ((8*l.length-n)%8)=n+((8*l.length-n)%8):=if_pos ax
 have a8:=(jG l n ((8*l.length-n)%8)).1
 refine cB 13 (SV.i (bL l n ((8*l.length-n)%8))) rfl (by rw[a0]) ?_
 refine bW 0 (.cells 85 2 [cI l,SV.i (n+((8*l.length-n)%8):Nat)]) rfl (by rw[a1];rfl) ?_
 refine r1<|sT 68 91 1 rfl<|sO 69 99 2 rfl<|sT 70 107 3 rfl ?_
 refine ask 70 rfl (fun E=>?_) (fun E=>?_)
 try simp only[cs,ne_eq]at E
 refine gF 2 false 70 71 4 rfl rfl<|gF 2 false 70 72 5 rfl rfl<|gF 2 false 70 73 6 rfl rfl<|sT 74 139 7 rfl<|e1 147 rfl<|ab [7,74] rfl ?_
 refine q1 rfl (fun G=>?_) (fun G=>?_)
 try simp only[cs,ne_eq]at G
 refine r1<|sT 2 147 1 rfl<|sT 3 155 2 rfl<|e1 163 rfl<|ab [2,3] rfl<|ao<|tr ?_
 have I:bT l=4:=(by rw[X,if_neg (by unfold oJ;omega)])
 exact eF 2 3 (.d .bz) (SV.i (bT l)) (π:= []) (ae:= []) Tryd.results7 rfl rfl rfl (by rw[I];rfl) rfl rfl trivial (.inr ⟨by rw[I];first|decide|assumption,rfl,rfl⟩)
 exact absurd G (by decide)
 try simp only[cs,ne_eq]at E
 refine gT 2 false 70 4 rfl rfl<|sT 71 115 4 rfl<|gT 2 false 70 5 rfl rfl ?_
 refine c1 (nn l J (n+((8*l.length-n)%8)) (by omega)) [0] [0] 72 123 5 rfl rfl rfl rfl rfl rfl rfl rfl Tryd.func19 rfl rfl rfl rfl ⟨rfl,trivial⟩ rfl rfl ?_
 refine gT 2 false 70 6 rfl rfl<|sO 73 131 6 rfl<|sT 74 139 7 rfl<|e1 147 rfl<|ab [7,74] rfl ?_
 refine q1 rfl (fun G=>?_) (fun G=>?_)
 try simp only[cs,ne_eq]at G
 refine r1<|sT 2 147 1 rfl<|sT 3 155 2 rfl<|e1 163 rfl<|ab [2,3] rfl<|ao<|tr ?_
 have I:bT l=4:=(by rw[X,if_neg (by unfold oJ;omega)])
 exact eF 2 3 (.d .bz) (SV.i (bT l)) (π:= []) (ae:= []) Tryd.results7 rfl rfl rfl (by rw[I];rfl) rfl rfl trivial (.inr ⟨by rw[I];first|decide|assumption,rfl,rfl⟩)
 try simp only[cs,ne_eq]at G
 refine ak<|tn<|r1<|sT 75 147 1 rfl<|sT 2 155 2 rfl<|sT 3 163 3 rfl<|e1 171 rfl<|ab [2,3] rfl<|ao ?_
 have I:bT l=0:=(by rw[X,if_pos (by unfold oJ;omega)])
 have a2:cO l=M:=(by unfold cO;rw[av])
 exact eF 2 3 (.sl 0 0 (cO l).length) (SV.i 0) (π:= [2]) (ae:= [some (.rows 31 2 (cO l).length (b6 (cO l)))]) Tryd.results7 rfl rfl (by rw[a2];rfl) rfl rfl rfl ⟨(by rw[a2];rfl),trivial⟩ (.inl ⟨I,rfl,rfl⟩)
def nE(l:List aR)(k:Nat):List Int:=(List.range k).flatMap fun i=> [cT (aT l i) (l.getD i default),cV (aT l i) (l.getD i default)]
def HT(l:List aR):List Int:=nE l l.length
theorem mB(l:List aR)(k:Nat):nE l (k+1)=nE l k++ [cT (aT l k) (l.getD k default),cV (aT l k) (l.getD k default)]:=by unfold nE;rw[List.range_succ,List.flatMap_append];simp
theorem Gc{l:List aR}(e:aN l l.length=0)(hl:l.length<=120):∀ n∈HT l,kh n:=by
 intro n k
 unfold HT nE at k
 obtain⟨i,b,hm⟩:=List.mem_flatMap.1 k
 rw[List.mem_range]at b
 have v:=g8 e b
 have B:=uv (uu (jE (Nat.le_of_lt b) e) (by omega)) v.1 v.2.1
 simp only[List.mem_cons,List.not_mem_nil,or_false]at hm
 rcases hm with rfl|rfl
 ·exact B.1
 ·exact B.2
structure cP where
 c:Int
 lo:Int
 hi:Int
 s:Int
 deriving DecidableEq
def bb(r:cP):SV:= .agg [SV.i r.c,SV.i r.lo,SV.i r.hi,SV.i r.s]
def joined(a b:cP):cP:=if a.c=0 then b else if b.c=0 then a else⟨a.c+b.c,if b.lo<a.lo then b.lo else a.lo,if a.hi<b.hi then b.hi else a.hi,a.s+b.s⟩
def pt(a:cP)(v:Int):cP:=joined a ⟨1,v,v,v⟩
def s8(r:cP)(n:Nat)(v:Int):cP:=⟨r.c+1,if n=0\/v<r.lo then v else r.lo,if n=0\/r.hi<v then v else r.hi,r.s+v⟩
def aQ(l:List Int):Nat->cP
 |0=>⟨0,0,0,0⟩
 |n+1=>s8 (aQ l n) n (l.getD n 0)
def dz(r:cP):aB:= .cells 39 4 [SV.i r.c,SV.i r.lo,SV.i r.hi,SV.i r.s]
theorem rf(l:List Int):∀ n,(aQ l n).c=n
 |0=>rfl
 |n+1=>by show(aQ l n).c+1=_;rw[rf l n];omega
theorem oM(l:List Int)(n:Nat):aQ l (n+1)=pt (aQ l n) (l.getD n 0):=by
 by_cases h:n=0
 ·subst h
  simp[aQ,s8,pt,joined]
 ·have b:pt (aQ l n) (l.getD n 0)=⟨(aQ l n).c+1,if l.getD n 0<(aQ l n).lo then l.getD n 0 else(aQ l n).lo,if(aQ l n).hi<l.getD n 0 then l.getD n 0 else(aQ l n).hi,(aQ l n).s+l.getD n 0⟩:=by
   unfold pt joined
   rw[if_neg (by rw[rf];omega),if_neg (by show ¬ (1:Int)=0;decide)]
  rw[b]
  show s8 _ _ _=_
  unfold s8
  simp only[h,false_or]
def Hb(x:Int):Prop:= -36028797018963968<=x/\x<36028797018963968
theorem yK{l:List Int}(h:∀ j,j<l.length->Hb (l.getD j 0)):∀ n,n<=l.length-> -(n*36028797018963968)<=(aQ l n).s/\(aQ l n).s<=n*36028797018963968
 |0,_=>by simp[aQ]
 |n+1,hn=>by
  have :=yK h n (by omega)
  have :=h n (by omega)
  unfold Hb at this
  show _<=(aQ l n).s+l.getD n 0/\(aQ l n).s+l.getD n 0<=_
  omega
def eh(l:List aR):List Int:=l.map (·.v)
theorem eM(l:List aR):(eh l).length=l.length:=by simp[eh]
theorem jf{l:List aR}{k:Nat}(h:k<l.length):(eh l).getD k 0=(l.getD k default).v:=by simp[eh,List.getD,h]
theorem jg{l:List aR}(b:aE l=0):l.length<=120/\aN l l.length=0:=by
 unfold aE at b
 by_cases h:120<l.length
 ·rw[if_pos h]at b;cases b
 ·rw[if_neg h]at b;exact⟨by omega,b⟩
theorem Gd{l:List aR}(e:aE l=0):∀ j,j<(eh l).length->Hb ((eh l).getD j 0):=by
 intro j b
 rw[eM]at b
 rw[jf b]
 exact(g8 (jg e).2 b).2.1
def Fl(l:List aR):cP:=if aE l=0 then aQ (eh l) l.length else⟨0,0,0,0⟩
theorem mC(a b:cP)(v:aj (a.c+b.c))(B:aj (a.s+b.s)):Spec Tryd.prog GC 35 [bb a,bb b] [] (fun r D=>r=bb (joined a b)/\D= []):=by
 refine start 36 0 Tryd.func35 rfl rfl rfl rfl ?_
 refine r1<|sT 2 0 1 rfl<|sT 3 8 2 rfl<|sT 4 16 3 rfl<|e1 24 rfl<|ab [2,3,4] rfl<|ai<|au<|r1<|sT 6 24 1 rfl<|sO 7 32 2 rfl<|sO 8 40 3 rfl<|sT 5 48 4 rfl<|e1 56 rfl<|ab [2,3,4,5] rfl ?_
 refine q1 rfl (fun e=>?_) (fun e=>?_)
 try simp only[cs,ne_eq]at e
 refine r1<|sO 9 56 1 rfl<|cJ 64 2 rfl rfl rfl rfl rfl<|e1 72 rfl<|ab [4] rfl<|ao<|br<|tr ?_
 exact cG (bb (joined a b)) (π:= []) (ae:= []) Tryd.results35 rfl (by trivial) (by unfold joined;rw[if_pos e];rfl) rfl rfl trivial ⟨rfl,rfl⟩
 try simp only[cs,ne_eq]at e
 refine r1<|sT 11 56 1 rfl<|sO 12 64 2 rfl<|sO 13 72 3 rfl<|sT 10 80 4 rfl<|e1 88 rfl<|ab [2,3,4,10] rfl ?_
 refine q1 rfl (fun k=>?_) (fun k=>?_)
 try simp only[cs,ne_eq]at k
 refine r1<|sO 14 88 1 rfl<|cJ 96 2 rfl rfl rfl rfl rfl<|e1 104 rfl<|ab [4] rfl<|ao<|br<|tr ?_
 exact cG (bb (joined a b)) (π:= []) (ae:= []) Tryd.results35 rfl (by trivial) (by unfold joined;rw[if_neg e,if_pos k];rfl) rfl rfl trivial ⟨rfl,rfl⟩
 try simp only[cs,ne_eq]at k
 refine ak<|bn<|tn<|r1<|sT 15 88 1 rfl<|sO 16 96 2 rfl<|sT 17 104 3 rfl<|sO 18 112 4 rfl ?_
 refine sA 19 120 5 rfl rfl rfl rfl rfl rfl rfl rfl rfl v ?_
 refine sT 20 128 6 rfl<|sO 21 136 7 rfl<|sT 22 144 8 rfl<|sO 23 152 9 rfl<|sT 24 160 10 rfl<|sT 25 168 11 rfl<|sO 26 176 12 rfl<|sT 27 184 13 rfl<|sO 28 192 14 rfl<|sT 29 200 15 rfl<|sT 30 208 16 rfl<|sO 31 216 17 rfl<|sT 32 224 18 rfl<|sO 33 232 19 rfl ?_
 refine sA 34 240 20 rfl rfl rfl rfl rfl rfl rfl rfl rfl B ?_
 refine sT 35 248 21 rfl<|cJ 256 22 rfl rfl rfl rfl rfl<|e1 264 rfl<|ab [4] rfl<|ao ?_
 exact cG (bb (joined a b)) (π:= []) (ae:= []) Tryd.results35 rfl (by trivial) (by unfold joined;rw[if_neg e,if_neg k];rfl) rfl rfl trivial ⟨rfl,rfl⟩
theorem nF(a:cP)(v:Int)(b:aj (a.c+1))(e:aj (a.s+v)):Spec Tryd.prog GC 45 [bb a,SV.i v] [] (fun r k=>r=bb (pt a v)/\k= []):=by
 refine start 11 0 Tryd.func45 rfl rfl rfl rfl ?_
 refine r1<|sT 2 0 1 rfl<|sT 4 8 2 rfl<|e1 16 rfl<|ab [1,2,4] rfl<|r1<|sO 5 16 1 rfl<|sT 6 24 2 rfl<|sT 7 32 3 rfl<|sT 8 40 4 rfl<|sT 9 48 5 rfl ?_
 refine c1 (mC a ⟨1,v,v,v⟩ b e) [] [] 10 56 6 rfl rfl rfl rfl rfl rfl rfl rfl Tryd.func35 rfl rfl rfl rfl trivial rfl rfl ?_
 refine cJ 64 7 rfl rfl rfl rfl rfl<|e1 72 rfl<|ab [4] rfl<|ao ?_
 exact cG (bb (pt a v)) (π:= []) (ae:= []) Tryd.results45 rfl (by trivial) rfl rfl rfl trivial ⟨rfl,rfl⟩
theorem mD(l:List aR)(hl:l.length<=120)(B:∀ j,j<(eh l).length->Hb ((eh l).getD j 0)):Spec Tryd.prog GC 54 [jD l] [] (fun r D=>r=bb (aQ (eh l) l.length)/\D= []):=by
 refine start 17 0 Tryd.func54 rfl rfl rfl rfl ?_
 refine r1<|sT 2 0 1 rfl<|e1 8 rfl<|ab [0,2] rfl<|ai<|r1<|sT 5 8 1 rfl<|sO 6 16 2 rfl<|sT 7 24 3 rfl<|e1 32 rfl<|ab [2,5,6,7] rfl<|au ?_
 refine loop (α:=Nat) 1 (fun n=> [(2, .ptr 0 0 0),(5,jD l),(6,SV.i l.length),(7,SV.i (n))]) (fun n=> [some (dz (aQ (eh l) (n)))]) (fun n=>(n)<=l.length) (fun n=>l.length-(n)) (((0):Nat)) [0] (fun _=>rfl) (show(0)<=l.length from(Nat.zero_le _)) rfl ⟨rfl,rfl,rfl,rfl,trivial⟩ ⟨rfl,trivial⟩ (fun n k=>?_)
 show W _ _ _ ⟨dG [(2, .ptr 0 0 0),(5,jD l),(6,SV.i l.length),(7,SV.i n)],dC [some (dz (aQ (eh l) n))],1⟩
 have k:n<=l.length:=k
 have G:=yK B n (by rw[eM];exact k)
 have E:=rf (eh l) n
 refine r1<|sO 8 1 1 rfl<|e1 9 rfl<|ab [2,5,6,7,8] rfl<|ai ?_
 refine q1 rfl (fun b=>?_) (fun b=>?_)
 try simp only[cs,ne_eq]at b
 have e:=B n (by rw[eM];omega)
 rw[jf (by omega)]at e
 unfold Hb at e
 refine ak<|tn<|ai<|au<|r1<|sO 9 9 1 rfl<|sO 10 17 2 rfl ?_
 refine val 10 (nj (l.getD n default)) rfl (by first|rfl|(simp only[Nat.zero_add,Int.toNat_natCast];rfl)) ?_
 refine sT 4 25 3 rfl<|cJ 33 4 rfl rfl rfl rfl rfl<|e1 41 rfl<|ab [2,4,5,6,7] rfl ?_
 refine r0 ?_
 refine sO 11 41 1 rfl<|sT 12 49 2 rfl<|sO 13 57 3 rfl ?_
 refine c1 (nF (aQ (eh l) n) (l.getD n default).v ⟨by omega,by omega⟩ ⟨by omega,by omega⟩) [] [] 14 65 4 rfl rfl rfl rfl rfl rfl rfl rfl Tryd.func45 rfl rfl rfl rfl trivial rfl rfl ?_
 refine cJ 73 5 rfl rfl rfl rfl rfl<|e1 81 rfl<|bn<|tn ?_
 refine bW 0 (dz (aQ (eh l) (n+1))) rfl (by rw[oM,jf (by omega)];rfl) ?_
 refine r0 ?_
 refine de 15 81 1 rfl<|sT 7 89 2 rfl<|e1 97 rfl<|tn ?_
 exact again ((n+1:Nat)) [0] (show(n+1)<=l.length from(by omega)) (show l.length-(n+1)<l.length-n from(by omega)) rfl ⟨rfl,rfl,rfl,rfl,trivial⟩ ⟨rfl,trivial⟩
 try simp only[cs,ne_eq]at b
 refine bI<|tx<|tx<|bx<|tn ?_
 obtain rfl:n=l.length:=(by omega)
 refine r1<|sO 16 9 1 rfl<|cJ 17 2 rfl rfl rfl rfl rfl<|e1 25 rfl<|ab [2] rfl<|ao ?_
 exact cG (bb (aQ (eh l) l.length)) (π:= []) (ae:= []) Tryd.results54 rfl (by trivial) rfl rfl rfl trivial ⟨rfl,rfl⟩
theorem BE(l:List aR)(k:jY l)(e:aE l=0):Spec Tryd.prog GC 33 [jD l] [] (fun r v=>r=SV.bA [bb (Fl l),SV.i (aE l)]/\v= []):=by
 have B:=jg e
 have D:=Gd e
 refine start 17 0 Tryd.func33 rfl rfl rfl rfl ?_
 refine r1<|sT 2 0 1 rfl<|sT 3 8 2 rfl<|e1 16 rfl<|ab [0,2] rfl<|ai<|r1<|sT 7 16 1 rfl ?_
 refine c1 (ja l k e) [] [24] 8 24 2 rfl rfl rfl rfl rfl rfl rfl rfl Tryd.func53 rfl rfl rfl rfl trivial rfl rfl ?_
 refine sT 6 32 3 rfl<|sT 9 40 4 rfl<|sT 10 48 5 rfl<|sT 4 56 6 rfl<|sT 5 64 7 rfl<|e1 72 rfl<|ab [0,2,5] rfl<|r1<|sT 11 72 1 rfl<|sO 12 80 2 rfl<|e1 88 rfl<|ab [0,2,5,12] rfl ?_
 refine q1 rfl (fun b=>?_) (fun b=>?_)
 exact absurd b (by decide)
 try simp only[cs,ne_eq]at b
 refine ak<|tn<|r1<|sT 15 88 1 rfl ?_
 refine c1 (mD l B.1 D) [] [] 16 96 2 rfl rfl rfl rfl rfl rfl rfl rfl Tryd.func54 rfl rfl rfl rfl trivial rfl rfl ?_
 refine cJ 104 3 rfl rfl rfl rfl rfl<|sT 3 112 4 rfl<|e1 120 rfl<|ab [2,3] rfl<|ao ?_
 exact cG (SV.bA [bb (Fl l),SV.i (aE l)]) (π:= []) (ae:= []) Tryd.results33 rfl (by trivial) (by unfold Fl;rw[if_pos e,e];rfl) rfl rfl trivial ⟨rfl,rfl⟩
theorem yL(l:List aR)(e:jY l)(k:aE l≠0):Spec Tryd.prog GC 33 [jD l] [] (fun r v=>r=SV.bA [bb (Fl l),SV.i (aE l)]/\v= []):=by
 refine start 17 0 Tryd.func33 rfl rfl rfl rfl ?_
 refine r1<|sT 2 0 1 rfl<|sT 3 8 2 rfl<|e1 16 rfl<|ab [0,2] rfl<|ai<|r1<|sT 7 16 1 rfl ?_
 refine c1 (jF l e k) [] [] 8 24 2 rfl rfl rfl rfl rfl rfl rfl rfl Tryd.func53 rfl rfl rfl rfl trivial rfl rfl ?_
 refine sT 6 32 3 rfl<|sT 9 40 4 rfl<|sT 10 48 5 rfl<|sT 4 56 6 rfl<|sT 5 64 7 rfl<|e1 72 rfl<|ab [0,2,5] rfl<|r1<|sT 11 72 1 rfl<|sO 12 80 2 rfl<|e1 88 rfl<|ab [0,2,5,12] rfl ?_
 refine q1 rfl (fun b=>?_) (fun b=>?_)
 try simp only[cs,ne_eq]at b
 refine r1<|sT 13 88 1 rfl<|sT 14 96 2 rfl<|cJ 104 3 rfl rfl rfl rfl rfl<|sT 3 112 4 rfl<|e1 120 rfl<|ab [2,3] rfl<|ao<|tr ?_
 exact cG (SV.bA [bb (Fl l),SV.i (aE l)]) (π:= []) (ae:= []) Tryd.results33 rfl (by trivial) (by unfold Fl;rw[if_neg k];rfl) rfl rfl trivial ⟨rfl,rfl⟩
 exact absurd b (by simpa using k)
theorem yM(l:List aR)(b:jY l):Spec Tryd.prog GC 33 [jD l] [] (fun r k=>r=SV.bA [bb (Fl l),SV.i (aE l)]/\k= []):=by
 by_cases e:aE l=0
 ·exact BE l b e
 ·exact yL l b e
end Go.Proofs.YtifcaekngfgdmaaDoor.Nice.Co
namespace Go.Proofs.YtifcaekngfgdmaaDoor.Nice
open Go Go.Proofs Co
theorem ja(l:List aR)(b:jY l)(e:aE l=0):Spec Tryd.prog GC 53 [jD l] [] (fun r k=>r=SV.bA [.sl 0 0 (bf l).length,SV.i 0]/\k= [some (.rows 5 1 (bf l).length (dm (bf l)))]):=(Co.ja l b e).lone
theorem jF(l:List aR)(b:jY l)(e:aE l≠0):Spec Tryd.prog GC 53 [jD l] [] (fun r k=>r=SV.bA [.d .bz,SV.i (aE l)]/\k= []):=(Co.jF l b e).lone
theorem fQ(l:List Int)(hl:Bytes l):Spec Tryd.prog GC 7 [cI l] [] (fun r b=>(bT l=0/\r=SV.bA [.sl 0 0 (cO l).length,SV.i 0]/\b= [some (.rows 31 2 (cO l).length (b6 (cO l)))])\/(bT l≠0/\r=SV.bA [.d .bz,SV.i (bT l)]/\b= [])):=(Co.fQ l hl).lone
theorem nF(a:cP)(v:Int)(b:aj (a.c+1))(e:aj (a.s+v)):Spec Tryd.prog GC 45 [bb a,SV.i v] [] (fun r k=>r=bb (pt a v)/\k= []):=(Co.nF a v b e).lone
theorem Ei{l:List aR}(h:aE l=0):jY l:=by
 obtain⟨D,B⟩:=jg h
 have key:∀ k,aj (l.getD k default).t/\aj (l.getD k default).v:=by
  intro k
  by_cases e:k<l.length
  ·obtain⟨a,b,_⟩:=g8 B e
   unfold cK at a b
   unfold aj
   exact⟨by omega,by omega⟩
  ·rw[show l.getD k default=default from by simp[List.getD,e]]
   exact⟨by unfold aj;constructor<;>decide,by unfold aj;constructor<;>decide⟩
 exact⟨by omega,fun k=>(key k).1,fun k=>(key k).2⟩
theorem s9{s:aR}(h:aj s.t/\aj s.v):jY [s]:=by
 refine⟨by simp,fun k=>?_,fun k=>?_⟩
 ·cases k with
  |zero=>exact h.1
  |succ k=>show aj (default:aR).t;unfold aj;constructor<;>decide
 ·cases k with
  |zero=>exact h.2
  |succ k=>show aj (default:aR).v;unfold aj;constructor<;>decide
theorem jP(l:List aR)(h:l.length<=120):Bytes (bf l):=by
 refine wT _ (fL l _) ?_
 have :=kK l l.length
 omega
theorem nG(k:Int)(s:ByteArray)(e:0<=k)(v:k<=255)(B:s.size<=200):Bytes (aV k s):=by
 refine dJ (gg (by simp) fun x b=>?_) (gU s (by omega)) (by simp[bN];omega)
 simp at b
 rcases b with rfl|rfl<;>omega
theorem xd(nm:ByteArray)(b:nm.size<=8)(l:List aR)(h:l.length<=120):Bytes (aV 2 nm++bf l)/\(aV 2 nm++bf l).length<=4000:=by
 have e:=kO l
 have k:=g9 2 nm
 refine⟨dJ (nG 2 nm (by omega) (by omega) (by omega)) (jP l h) (by omega),by rw[List.length_append];omega⟩
def ia(nm:ByteArray)(s:aR)(ch:List (List aR))(op:List aR)(F:List Int)(cnt:Nat):bS:=
 if aE [s]≠0 then⟨aE [s],ch,op,F,cnt⟩
 else if 0<(bJ ch op).length/\s.t<=lastT (bJ ch op)then⟨9,ch,op,F,cnt⟩
 else if op.length=8 then(if(cH nm ch op F cnt).e≠0 then cH nm ch op F cnt else⟨0,(cH nm ch op F cnt).ch,(cH nm ch op F cnt).op++ [s],(cH nm ch op F cnt).F,(cH nm ch op F cnt).cnt⟩)
 else⟨0,ch,op++ [s],F,cnt⟩
section
variable {nm:ByteArray} {s:aR} {ch:List (List aR)} {op:List aR} {F:List Int} {cnt:Nat}
theorem xe(h:aE [s]≠0):ia nm s ch op F cnt=⟨aE [s],ch,op,F,cnt⟩:=by unfold ia;rw[if_pos h]
theorem Ae(h:aE [s]=0)(b:0<(bJ ch op).length)(e:s.t<=lastT (bJ ch op)):ia nm s ch op F cnt=⟨9,ch,op,F,cnt⟩:=by unfold ia;rw[if_neg (by rw[h];simp),if_pos ⟨b,e⟩]
theorem rh{q:bS}(h:aE [s]=0)(b: ¬ (0<(bJ ch op).length/\s.t<=lastT (bJ ch op)))(k:op.length=8)(v:cH nm ch op F cnt=q)(B:q.e≠0):ia nm s ch op F cnt=q:=by unfold ia;rw[if_neg (by rw[h];simp),if_neg b,if_pos k,v,if_pos B]
theorem mE{q:bS}(h:aE [s]=0)(b: ¬ (0<(bJ ch op).length/\s.t<=lastT (bJ ch op)))(k:op.length=8)(v:cH nm ch op F cnt=q)(B:q.e=0):ia nm s ch op F cnt=⟨0,q.ch,q.op++ [s],q.F,q.cnt⟩:=by unfold ia;rw[if_neg (by rw[h];simp),if_neg b,if_pos k,v,if_neg (by rw[B];simp)]
theorem uO(h:aE [s]=0)(b: ¬ (0<(bJ ch op).length/\s.t<=lastT (bJ ch op)))(e: ¬ op.length=8):ia nm s ch op F cnt=⟨0,ch,op++ [s],F,cnt⟩:=by unfold ia;rw[if_neg (by rw[h];simp),if_neg b,if_neg e]
end
theorem uP{A:List aR}{s:aR}(i c:Nat)(b:i<A.length+1)(e:c<2):dZ (b6 A) A.length (iF 2 [.val (.int .i64 s.t), .val (.int .i64 s.v)]) i c=b6 (A++ [s]) i c:=xb i c b e
theorem kW(A:List aR)(s:aR):A.length+1=(A++ [s]).length:=by simp
theorem Ej{nm:ByteArray}{ch:List (List aR)}{op:List aR}{F:List Int}{cnt:Nat}(e:nm.size<=8)(b:op.length<=120):(cH nm ch op F cnt).op.length<=op.length/\(cH nm ch op F cnt).ch.length<=ch.length+1/\(cH nm ch op F cnt).F.length<=F.length+4006:=by
 unfold cH
 have :=(xd nm e op b).2
 have k:=fv (aV 2 nm++bf op)
 split
 ·exact⟨Nat.le_refl _,Nat.le_succ _,by simp⟩
 ·split
  ·exact⟨Nat.le_refl _,Nat.le_succ _,by simp⟩
  ·refine⟨Nat.zero_le _,by simp,?_⟩
   simp only[List.length_append]at *;omega
theorem rj{Z:List Nat}{es:List (Value×SV×List ff)}{j:Nat}(nm:ByteArray)(G:nm.size<=8)(ch:List (List aR))(op:List aR)(I:lL ch op)(D:aE op=0)(U:ch.length<=30)(V:op.length<=8)(F:List Int)(X:F.length<=900000)(cnt:Nat)(Y:cnt<=200)(q:bS)(E:cH nm ch op F cnt=q):Spec Tryd.prog GF 40 [.ptr 0 0 0, .ptr 3 0 0, .d (.val (.string nm))] [.cells 55 3 [.map 1, .sl 2 0 F.length,SV.i cnt], .fam Z ⟨es,[(j, .ptr 3 0 0)],none⟩,bY F, .cells 100 2 [.sl 4 0 ch.length, .sl 5 0 op.length],bw ch,dw op] (fun r W=>r=SV.i q.e/\W= [some (.cells 55 3 [.map 1, .sl 6 0 q.F.length,SV.i q.cnt]),some (.fam Z ⟨es,[(j, .ptr 3 0 0)],none⟩),none,some (.cells 100 2 [.sl 7 0 q.ch.length, .sl 8 0 q.op.length]),none,none,some (bY q.F),some (bw q.ch),some (dw q.op)]):=by
 have v:=xd nm G op I.o
 refine start 60 6 Tryd.func40 rfl rfl rfl rfl ?_
 refine r1<|sT 6 6 1 rfl<|e1 14 rfl<|ab [0,1,2] rfl<|ai<|au<|r1<|sT 10 14 1 rfl<|sT 11 22 2 rfl<|sT 12 30 3 rfl<|sO 13 38 4 rfl<|sO 14 46 5 rfl<|sO 15 54 6 rfl<|sT 9 62 7 rfl<|e1 70 rfl<|ab [0,1,2,9] rfl ?_
 refine q1 rfl (fun B=>?_) (fun B=>?_)
 try simp only[cs,ne_eq]at B
 refine r1<|sT 6 70 1 rfl<|e1 78 rfl<|ab [6] rfl<|rename 2 rfl rfl<|rename 4 rfl rfl<|rename 5 rfl rfl<|ao<|br<|tr ?_
 obtain rfl:=E.symm.trans (wS (by omega))
 exact bm 6 (SV.i 0) (π:= [0,1,2,3,4,5,78,86,94]) (ae:= [some (.cells 55 3 [.map 1, .sl 6 0 (bS.mk 0 ch op F cnt).F.length,SV.i (bS.mk 0 ch op F cnt).cnt]),some (.fam Z ⟨es,[(j, .ptr 3 0 0)],none⟩),none,some (.cells 100 2 [.sl 7 0 (bS.mk 0 ch op F cnt).ch.length, .sl 8 0 (bS.mk 0 ch op F cnt).op.length]),none,none,some (bY (bS.mk 0 ch op F cnt).F),some (bw (bS.mk 0 ch op F cnt).ch),some (dw (bS.mk 0 ch op F cnt).op)]) Tryd.results40 rfl rfl rfl rfl ⟨rfl,rfl,rfl,rfl,rfl,rfl,trivial⟩ ⟨rfl,rfl⟩
 try simp only[cs,ne_eq]at B
 refine r1<|sT 17 70 1 rfl<|sT 18 78 2 rfl<|sT 19 86 3 rfl<|sO 20 94 4 rfl<|sO 21 102 5 rfl<|sO 22 110 6 rfl<|sT 23 118 7 rfl ?_
 refine ask 23 rfl (fun b=>?_) (fun b=>?_)
 try simp only[cs,ne_eq]at b
 refine gF 6 false 23 24 8 rfl rfl<|gF 6 false 23 25 9 rfl rfl<|gF 6 false 23 26 10 rfl rfl<|gF 6 false 23 27 11 rfl rfl<|gF 6 false 23 28 12 rfl rfl<|sT 29 166 13 rfl<|sT 16 174 14 rfl<|e1 182 rfl<|ab [0,1,2,16] rfl ?_
 refine q1 rfl (fun k=>?_) (fun k=>?_)
 try simp only[cs,ne_eq]at k
 refine r1<|sT 6 182 1 rfl<|e1 190 rfl<|ab [6] rfl<|rename 2 rfl rfl<|rename 4 rfl rfl<|rename 5 rfl rfl<|ao<|br<|tr ?_
 obtain rfl:=E.symm.trans (lH (by omega) (by omega))
 exact bm 6 (SV.i 8) (π:= [0,1,2,3,4,5,190,198,206]) (ae:= [some (.cells 55 3 [.map 1, .sl 6 0 (bS.mk 8 ch op F cnt).F.length,SV.i (bS.mk 8 ch op F cnt).cnt]),some (.fam Z ⟨es,[(j, .ptr 3 0 0)],none⟩),none,some (.cells 100 2 [.sl 7 0 (bS.mk 8 ch op F cnt).ch.length, .sl 8 0 (bS.mk 8 ch op F cnt).op.length]),none,none,some (bY (bS.mk 8 ch op F cnt).F),some (bw (bS.mk 8 ch op F cnt).ch),some (dw (bS.mk 8 ch op F cnt).op)]) Tryd.results40 rfl rfl rfl rfl ⟨rfl,rfl,rfl,rfl,rfl,rfl,trivial⟩ ⟨rfl,rfl⟩
 exact absurd k (by decide)
 try simp only[cs,ne_eq]at b
 refine gT 6 false 23 8 rfl rfl<|sT 24 126 8 rfl<|gT 6 false 23 9 rfl rfl<|sT 25 134 9 rfl<|gT 6 false 23 10 rfl rfl<|sT 26 142 10 rfl<|gT 6 false 23 11 rfl rfl<|sO 27 150 11 rfl<|gT 6 false 23 12 rfl rfl<|sO 28 158 12 rfl<|sT 29 166 13 rfl<|sT 16 174 14 rfl<|e1 182 rfl<|ab [0,1,2,16] rfl ?_
 refine q1 rfl (fun k=>?_) (fun k=>?_)
 try simp only[cs,ne_eq]at k
 refine r1<|sT 6 182 1 rfl<|e1 190 rfl<|ab [6] rfl<|rename 2 rfl rfl<|rename 4 rfl rfl<|rename 5 rfl rfl<|ao<|br<|tr ?_
 obtain rfl:=E.symm.trans (lH (by omega) (by omega))
 exact bm 6 (SV.i 8) (π:= [0,1,2,3,4,5,190,198,206]) (ae:= [some (.cells 55 3 [.map 1, .sl 6 0 (bS.mk 8 ch op F cnt).F.length,SV.i (bS.mk 8 ch op F cnt).cnt]),some (.fam Z ⟨es,[(j, .ptr 3 0 0)],none⟩),none,some (.cells 100 2 [.sl 7 0 (bS.mk 8 ch op F cnt).ch.length, .sl 8 0 (bS.mk 8 ch op F cnt).op.length]),none,none,some (bY (bS.mk 8 ch op F cnt).F),some (bw (bS.mk 8 ch op F cnt).ch),some (dw (bS.mk 8 ch op F cnt).op)]) Tryd.results40 rfl rfl rfl rfl ⟨rfl,rfl,rfl,rfl,rfl,rfl,trivial⟩ ⟨rfl,rfl⟩
 try simp only[cs,ne_eq]at k
 refine ak<|bn<|tn ?_
 refine zz 3 1 5 op.length rfl rfl rfl (Nat.le_refl _) rfl ?_
 refine r1<|sT 31 182 1 rfl<|sT 32 190 2 rfl<|sT 33 198 3 rfl<|sO 34 206 4 rfl ?_
 refine c1 (ja op (Ei D) D) [] [214] 35 214 5 rfl rfl rfl rfl rfl rfl rfl rfl Tryd.func53 rfl rfl rfl rfl trivial rfl rfl ?_
 refine sT 30 222 6 rfl<|sT 36 230 7 rfl<|sT 37 238 8 rfl<|sT 7 246 9 rfl<|sT 8 254 10 rfl<|e1 262 rfl<|ab [0,1,2,7] rfl<|r1<|sT 38 262 1 rfl<|sT 39 270 2 rfl ?_
 refine c1 (sQ 2 nm (by omega)) [] [278] 40 278 3 rfl rfl rfl rfl rfl rfl rfl rfl Tryd.func43 rfl rfl rfl rfl trivial rfl rfl ?_
 refine sT 41 286 4 rfl ?_
 refine sV 42 294 5 rfl ⟨Nat.le_refl _,(by omega),(by have :=v.2;rw[List.length_append]at this;show(_+_)*1<=140737488355328;omega),(by have :=v.2;rw[List.length_append]at this;simp only[maxLen];omega)⟩ ?_
 refine c1 (DL F (aV 2 nm++bf op) (by omega) v.1 v.2 cnt (by omega) (pV _ _) (fun i c J O=>mq i c J O)) [0,1,2,294,3,4] [0,1,2,294,3,4,302] 43 302 6 rfl rfl rfl rfl rfl rfl rfl rfl Tryd.func37 rfl rfl rfl rfl ⟨rfl,rfl,rfl,rfl,rfl,rfl,trivial⟩ rfl rfl ?_
 refine e1 310 rfl<|ab [1] rfl ?_
 refine kD rfl ?_
 refine dT 44 310 1 rfl<|dT 45 318 2 rfl<|dT 46 326 3 rfl<|dT 47 334 4 rfl<|dT 48 342 5 rfl<|dO 49 350 6 rfl<|dT 50 358 7 rfl<|dT 51 366 8 rfl<|dT 52 374 9 rfl<|dO 53 382 10 rfl<|dT 54 390 11 rfl ?_
 refine dV 55 398 12 rfl ⟨Nat.le_refl _,trivial,(by show(_+1)*24<=140737488355328;omega),(by simp only[maxLen];omega)⟩ ?_
 refine dT 56 406 13 rfl<|dT 57 414 14 rfl ?_
 refine d0 422 15 rfl rfl rfl rfl rfl (by first|trivial|omega) ?_
 refine dT 58 430 16 rfl<|dT 59 438 17 rfl ?_
 refine d0 446 18 rfl rfl rfl rfl rfl (by first|trivial|omega) ?_
 refine iT 454 rfl (by kernel_rfl)<|ab [] rfl ?_
 refine bP 398 (ch++ [op]).length (qR (ch++ [op])) rfl (by simp) (fun i c J O=>yq rfl i c J O) ?_
 refine fl 3 1 31 2 (b6 []) rfl rfl rfl ?_
 refine bW 3 (.cells 100 2 [.sl 398 0 (ch++ [op]).length, .sl 454 0 0]) rfl (congrArg (fun n=>aB.cells 100 2 [.sl 398 0 n, .sl 454 0 0]) (show ch.length+1=(ch++ [op]).length by simp)) ?_
 refine r1<|sT 6 462 1 rfl<|e1 470 rfl<|ab [6] rfl<|ao ?_
 obtain rfl:=E.symm.trans (qT (by omega) (by omega) (by omega))
 exact bm 6 (SV.i 0) (π:= [0,1,2,3,4,5,302,398,454]) (ae:= [some (.cells 55 3 [.map 1, .sl 6 0 (bS.mk 0 (ch++ [op]) [] (F++bg (aV 2 nm++bf op)) (cnt+1)).F.length,SV.i (bS.mk 0 (ch++ [op]) [] (F++bg (aV 2 nm++bf op)) (cnt+1)).cnt]),some (.fam Z ⟨es,[(j, .ptr 3 0 0)],none⟩),none,some (.cells 100 2 [.sl 7 0 (bS.mk 0 (ch++ [op]) [] (F++bg (aV 2 nm++bf op)) (cnt+1)).ch.length, .sl 8 0 (bS.mk 0 (ch++ [op]) [] (F++bg (aV 2 nm++bf op)) (cnt+1)).op.length]),none,none,some (bY (bS.mk 0 (ch++ [op]) [] (F++bg (aV 2 nm++bf op)) (cnt+1)).F),some (bw (bS.mk 0 (ch++ [op]) [] (F++bg (aV 2 nm++bf op)) (cnt+1)).ch),some (dw (bS.mk 0 (ch++ [op]) [] (F++bg (aV 2 nm++bf op)) (cnt+1)).op)]) Tryd.results40 rfl rfl rfl rfl ⟨rfl,rfl,rfl,rfl,rfl,rfl,trivial⟩ ⟨rfl,rfl⟩
theorem yN{Z:List Nat}{es:List (Value×SV×List ff)}{j:Nat}(nm:ByteArray)(I:nm.size<=8)(s:aR)(k J O U:Int)(V:aj s.t/\aj s.v)(ch:List (List aR))(op:List aR)(W:lL ch op)(X:aE op=0)(G:ch.length<=30)(Y:op.length<=8)(F:List Int)(hF:F.length<=900000)(cnt:Nat)(hr:cnt<=200)(b:bS)(D:ia nm s ch op F cnt=b)(E:aE [s]≠0):Spec Tryd.prog GF 39 [.ptr 0 0 0, .ptr 3 0 0, .agg [SV.i k, .d (.val (.string nm)),SV.i s.t,SV.i s.v,SV.i J,SV.i O,SV.i U]] [.cells 55 3 [.map 1, .sl 2 0 F.length,SV.i cnt], .fam Z ⟨es,[(j, .ptr 3 0 0)],none⟩,bY F, .cells 100 2 [.sl 4 0 ch.length, .sl 5 0 op.length],bw ch,dw op] (fun r ho=>r=SV.i b.e/\ho= [some (.cells 55 3 [.map 1, .sl 6 0 b.F.length,SV.i b.cnt]),some (.fam Z ⟨es,[(j, .ptr 3 0 0)],none⟩),none,some (.cells 100 2 [.sl 7 0 b.ch.length, .sl 8 0 b.op.length]),none,none,some (bY b.F),some (bw b.ch),some (dw b.op)]):=by
 refine start 64 6 Tryd.func39 rfl rfl rfl rfl ?_
 refine r1<|sT 5 6 1 rfl<|sT 6 14 2 rfl<|e1 22 rfl<|ab [0,1,5] rfl<|ai<|r1<|sT 12 22 1 rfl<|sO 13 30 2 rfl ?_
 refine Hu 2 (b6 [s]) 14 38 3 rfl rfl rfl rfl rfl rfl rfl rfl rfl (by intro i c hi hc;obtain rfl:i=0:=(by omega);match c,hc with |0,_=>rfl|1,_=>rfl) ?_
 refine c1 (jF [s] (show jY [s]from s9 V) E) [] [] 15 46 4 rfl rfl rfl rfl rfl rfl rfl rfl Tryd.func53 rfl rfl rfl rfl trivial rfl rfl ?_
 refine sT 11 54 5 rfl<|sT 16 62 6 rfl<|sT 17 70 7 rfl<|sT 7 78 8 rfl<|sT 8 86 9 rfl<|e1 94 rfl<|ab [0,1,5,8] rfl<|r1<|sT 18 94 1 rfl<|sO 19 102 2 rfl<|e1 110 rfl<|ab [0,1,5,8,19] rfl ?_
 refine q1 rfl (fun B=>?_) (fun B=>?_)
 try simp only[cs,ne_eq]at B
 refine r1<|sT 20 110 1 rfl<|sT 6 118 2 rfl<|e1 126 rfl<|ab [6] rfl<|rename 2 rfl rfl<|rename 4 rfl rfl<|rename 5 rfl rfl<|ao<|tr ?_
 obtain rfl:=D.symm.trans (xe E)
 exact bm 6 (SV.i (aE [s])) (π:= [0,1,2,3,4,5,126,134,142]) (ae:= [some (.cells 55 3 [.map 1, .sl 6 0 (bS.mk (aE [s]) ch op F cnt).F.length,SV.i (bS.mk (aE [s]) ch op F cnt).cnt]),some (.fam Z ⟨es,[(j, .ptr 3 0 0)],none⟩),none,some (.cells 100 2 [.sl 7 0 (bS.mk (aE [s]) ch op F cnt).ch.length, .sl 8 0 (bS.mk (aE [s]) ch op F cnt).op.length]),none,none,some (bY (bS.mk (aE [s]) ch op F cnt).F),some (bw (bS.mk (aE [s]) ch op F cnt).ch),some (dw (bS.mk (aE [s]) ch op F cnt).op)]) Tryd.results39 rfl rfl rfl rfl ⟨rfl,rfl,rfl,rfl,rfl,rfl,trivial⟩ ⟨rfl,rfl⟩
 exact absurd E (by simpa using B)
theorem BF{Z:List Nat}{es:List (Value×SV×List ff)}{j:Nat}(nm:ByteArray)(aa:nm.size<=8)(s:aR)(k fr to kp:Int)(hs:aj s.t/\aj s.v)(ch:List (List aR))(op:List aR)(O:lL ch op)(av:aE op=0)(W:ch.length<=30)(ax:op.length<=8)(F:List Int)(hF:F.length<=900000)(cnt:Nat)(hr:cnt<=200)(B:bS)(G:ia nm s ch op F cnt=B)(X:aE [s]=0):Spec Tryd.prog GF 39 [.ptr 0 0 0, .ptr 3 0 0, .agg [SV.i k, .d (.val (.string nm)),SV.i s.t,SV.i s.v,SV.i fr,SV.i to,SV.i kp]] [.cells 55 3 [.map 1, .sl 2 0 F.length,SV.i cnt], .fam Z ⟨es,[(j, .ptr 3 0 0)],none⟩,bY F, .cells 100 2 [.sl 4 0 ch.length, .sl 5 0 op.length],bw ch,dw op] (fun r ho=>r=SV.i B.e/\ho= [some (.cells 55 3 [.map 1, .sl 6 0 B.F.length,SV.i B.cnt]),some (.fam Z ⟨es,[(j, .ptr 3 0 0)],none⟩),none,some (.cells 100 2 [.sl 7 0 B.ch.length, .sl 8 0 B.op.length]),none,none,some (bY B.F),some (bw B.ch),some (dw B.op)]):=by
 have a1:=O.all
 have a2:=O.o
 have a3:(bJ ch op).length=ch.flatten.length+op.length:=(by unfold bJ;rw[List.length_append])
 have a0:=Ej (nm:=nm) (ch:=ch) (F:=F) (cnt:=cnt) aa O.o
 refine start 64 6 Tryd.func39 rfl rfl rfl rfl ?_
 refine r1<|sT 5 6 1 rfl<|sT 6 14 2 rfl<|e1 22 rfl<|ab [0,1,5] rfl<|ai<|r1<|sT 12 22 1 rfl<|sO 13 30 2 rfl ?_
 refine Hu 2 (b6 [s]) 14 38 3 rfl rfl rfl rfl rfl rfl rfl rfl rfl (by intro i c Y U;obtain rfl:i=0:=(by omega);match c,U with |0,_=>rfl|1,_=>rfl) ?_
 refine c1 (ja [s] (show jY [s]from s9 hs) X) [] [46] 15 46 4 rfl rfl rfl rfl rfl rfl rfl rfl Tryd.func53 rfl rfl rfl rfl trivial rfl rfl ?_
 refine sT 11 54 5 rfl<|sT 16 62 6 rfl<|sT 17 70 7 rfl<|sT 7 78 8 rfl<|sT 8 86 9 rfl<|e1 94 rfl<|ab [0,1,5,8] rfl<|r1<|sT 18 94 1 rfl<|sO 19 102 2 rfl<|e1 110 rfl<|ab [0,1,5,8,19] rfl ?_
 refine q1 rfl (fun ah=>?_) (fun ah=>?_)
 exact absurd ah (by decide)
 try simp only[cs,ne_eq]at ah
 refine ak<|tn<|ai<|r1<|sT 21 110 1 rfl ?_
 refine G4 (zU ch op O) (wQ _) [(3, .cells 100 2 [.sl 4 0 ch.length, .sl 5 0 op.length]),(4,bw ch),(5,dw op)] 22 118 2 rfl rfl rfl rfl rfl rfl rfl Tryd.func57 rfl rfl ⟨rfl,rfl,rfl,trivial⟩ (by intro M F ρ a h w hv hH al i y hy;match i,hy with |0,hy=>(cases hy;refine⟨_,rfl,Dv hH (show h 3=some _ from al (3, .cells 100 2 [.sl 4 0 ch.length, .sl 5 0 op.length]) (by simp)) (hv (.tmp 21) (by simp[Op.operands,Call.operands])) fun j d hd=>?_⟩;match j,hd with |0,hd=>(cases hd;exact⟨_,rfl,fun u hu=>uC hH (show h 4=some _ from al (4,bw ch) (by simp)) (Nat.le_refl _) hu⟩)|1,hd=>(cases hd;exact⟨_,rfl,fun u hu=>uC hH (show h 5=some _ from al (5,dw op) (by simp)) (Nat.le_refl _) hu⟩)|j+2,hd=>simp at hd)|i+1,hy=>simp at hy) ?_
 refine sT 9 126 3 rfl<|e1 134 rfl<|ab [0,1,5,9] rfl ?_
 refine kD rfl ?_
 refine dT 23 134 1 rfl<|dO 24 142 2 rfl<|dO 25 150 3 rfl<|dT 26 158 4 rfl ?_
 refine ask 26 rfl (fun E=>?_) (fun E=>?_)
 try simp only[cs,ne_eq]at E
 refine gT 3 true 26 5 rfl rfl<|dT 27 166 5 rfl<|gT 3 true 26 6 rfl rfl<|dT 28 174 6 rfl<|gT 3 true 26 7 rfl rfl<|dO 29 182 7 rfl<|gT 3 true 26 8 rfl rfl<|xN 30 190 8 rfl<|gT 3 true 26 9 rfl rfl ?_
 refine dV 31 198 9 rfl ⟨⟨by omega,by omega⟩,by omega⟩ ?_
 refine gT 3 true 26 10 rfl rfl<|dT 32 206 10 rfl<|gT 3 true 26 11 rfl rfl<|dO 33 214 11 rfl ?_
 refine val 33 (SV.i (lastT (bJ ch op))) rfl (congrArg SV.i (congrArg (fun n=>((bJ ch op).getD n default).t) (by omega))) ?_
 refine gT 3 true 26 12 rfl rfl<|dT 34 222 12 rfl<|gT 3 true 26 13 rfl rfl<|dT 35 230 13 rfl<|gT 3 true 26 14 rfl rfl<|dO 36 238 14 rfl<|gT 3 true 26 15 rfl rfl<|dO 37 246 15 rfl<|dT 38 254 16 rfl<|iT 262 rfl (by kernel_rfl)<|ab [0,1,5,38] rfl ?_
 refine q1 rfl (fun I=>?_) (fun I=>?_)
 try simp only[cs,ne_eq]at I
 refine r1<|sT 6 262 1 rfl<|e1 270 rfl<|ab [6] rfl<|rename 2 rfl rfl<|rename 4 rfl rfl<|rename 5 rfl rfl<|ao<|tr ?_
 obtain rfl:=G.symm.trans (Ae X (by omega) (by omega))
 exact bm 6 (SV.i 9) (π:= [0,1,2,3,4,5,270,278,286]) (ae:= [some (.cells 55 3 [.map 1, .sl 6 0 (bS.mk 9 ch op F cnt).F.length,SV.i (bS.mk 9 ch op F cnt).cnt]),some (.fam Z ⟨es,[(j, .ptr 3 0 0)],none⟩),none,some (.cells 100 2 [.sl 7 0 (bS.mk 9 ch op F cnt).ch.length, .sl 8 0 (bS.mk 9 ch op F cnt).op.length]),none,none,some (bY (bS.mk 9 ch op F cnt).F),some (bw (bS.mk 9 ch op F cnt).ch),some (dw (bS.mk 9 ch op F cnt).op)]) Tryd.results39 rfl rfl rfl rfl ⟨rfl,rfl,rfl,rfl,rfl,rfl,trivial⟩ ⟨rfl,rfl⟩
 try simp only[cs,ne_eq]at I
 have b: ¬ (0<(bJ ch op).length/\s.t<=lastT (bJ ch op)):=(fun h=>by have h1:=h.1;have h2:=h.2;omega)
 refine ak<|tn<|ai<|r1<|sT 39 262 1 rfl<|sT 40 270 2 rfl<|sT 41 278 3 rfl<|sO 42 286 4 rfl<|sO 43 294 5 rfl<|sO 44 302 6 rfl<|e1 310 rfl<|ab [0,1,5,44] rfl ?_
 refine q1 rfl (fun J=>?_) (fun J=>?_)
 try simp only[cs,ne_eq]at J
 obtain⟨q,V⟩:∃ q,cH nm ch op F cnt=q:=⟨_,rfl⟩
 rw[V]at a0
 refine r1<|sT 45 310 1 rfl<|sT 46 318 2 rfl<|sT 47 326 3 rfl<|sO 48 334 4 rfl ?_
 refine c1 (rj nm aa ch op O av W ax F hF cnt hr q V) [0,1,2,3,4,5] [0,1,2,3,4,5,342,343,344] 49 342 5 rfl rfl rfl rfl rfl rfl rfl rfl Tryd.func40 rfl rfl rfl rfl ⟨rfl,rfl,rfl,rfl,rfl,rfl,trivial⟩ rfl rfl ?_
 refine sT 10 350 6 rfl<|e1 358 rfl<|ab [1,5,10] rfl<|r1<|sT 50 358 1 rfl<|sO 51 366 2 rfl<|e1 374 rfl<|ab [1,5,10,51] rfl ?_
 refine q1 rfl (fun D=>?_) (fun D=>?_)
 try simp only[cs,ne_eq]at D
 refine r1<|sT 52 374 1 rfl<|sT 6 382 2 rfl<|e1 390 rfl<|ab [6] rfl<|ao<|tr ?_
 have e0:B=q:=G.symm.trans (rh X b (by omega) V D)
 subst e0
 exact bm 6 (SV.i B.e) (π:= [0,1,2,3,4,5,342,343,344]) (ae:= [some (.cells 55 3 [.map 1, .sl 6 0 B.F.length,SV.i B.cnt]),some (.fam Z ⟨es,[(j, .ptr 3 0 0)],none⟩),none,some (.cells 100 2 [.sl 7 0 B.ch.length, .sl 8 0 B.op.length]),none,none,some (bY B.F),some (bw B.ch),some (dw B.op)]) Tryd.results39 rfl rfl rfl rfl ⟨rfl,rfl,rfl,rfl,rfl,rfl,trivial⟩ ⟨rfl,rfl⟩
 try simp only[cs,ne_eq]at D
 refine ak<|tn ?_
 refine kD rfl ?_
 refine dT 53 374 1 rfl<|dT 54 382 2 rfl<|dT 55 390 3 rfl<|dT 56 398 4 rfl<|dO 57 406 5 rfl<|dT 58 414 6 rfl<|dO 59 422 7 rfl<|dT 60 430 8 rfl ?_
 refine dV 61 438 9 rfl ⟨Nat.le_refl _,trivial,(by show(_+1)*16<=140737488355328;omega),(by simp only[maxLen];omega)⟩ ?_
 refine dT 62 446 10 rfl<|dT 63 454 11 rfl ?_
 refine d0 462 12 rfl rfl rfl rfl rfl (by first|trivial|omega) ?_
 refine iT 470 rfl (by kernel_rfl)<|ab [] rfl ?_
 refine bP 438 (q.op++ [s]).length (b6 (q.op++ [s])) rfl (kW _ _) (fun i c Y U=>uP i c Y U) ?_
 refine bW 3 (.cells 100 2 [.sl 343 0 q.ch.length, .sl 438 0 (q.op++ [s]).length]) rfl (congrArg (fun n=>aB.cells 100 2 [.sl 343 0 q.ch.length, .sl 438 0 n]) (kW q.op s)) ?_
 refine r1<|sT 6 470 1 rfl<|e1 478 rfl<|ab [6] rfl<|ao ?_
 obtain rfl:=G.symm.trans (mE X b (by omega) V D)
 exact bm 6 (SV.i 0) (π:= [0,1,2,3,4,5,342,343,438]) (ae:= [some (.cells 55 3 [.map 1, .sl 6 0 (bS.mk 0 q.ch (q.op++ [s]) q.F q.cnt).F.length,SV.i (bS.mk 0 q.ch (q.op++ [s]) q.F q.cnt).cnt]),some (.fam Z ⟨es,[(j, .ptr 3 0 0)],none⟩),none,some (.cells 100 2 [.sl 7 0 (bS.mk 0 q.ch (q.op++ [s]) q.F q.cnt).ch.length, .sl 8 0 (bS.mk 0 q.ch (q.op++ [s]) q.F q.cnt).op.length]),none,none,some (bY (bS.mk 0 q.ch (q.op++ [s]) q.F q.cnt).F),some (bw (bS.mk 0 q.ch (q.op++ [s]) q.F q.cnt).ch),some (dw (bS.mk 0 q.ch (q.op++ [s]) q.F q.cnt).op)]) Tryd.results39 rfl rfl rfl rfl ⟨rfl,rfl,rfl,rfl,rfl,rfl,trivial⟩ ⟨rfl,rfl⟩
 try simp only[cs,ne_eq]at J
 refine ak<|tn ?_
 refine kD rfl ?_
 refine dT 53 310 1 rfl<|dT 54 318 2 rfl<|dT 55 326 3 rfl<|dT 56 334 4 rfl<|dO 57 342 5 rfl<|dT 58 350 6 rfl<|dO 59 358 7 rfl<|dT 60 366 8 rfl ?_
 refine dV 61 374 9 rfl ⟨Nat.le_refl _,trivial,(by show(_+1)*16<=140737488355328;omega),(by simp only[maxLen];omega)⟩ ?_
 refine dT 62 382 10 rfl<|dT 63 390 11 rfl ?_
 refine d0 398 12 rfl rfl rfl rfl rfl (by first|trivial|omega) ?_
 refine iT 406 rfl (by kernel_rfl)<|ab [] rfl ?_
 refine bP 374 (op++ [s]).length (b6 (op++ [s])) rfl (kW _ _) (fun i c Y U=>uP i c Y U) ?_
 refine bW 3 (.cells 100 2 [.sl 4 0 ch.length, .sl 374 0 (op++ [s]).length]) rfl (congrArg (fun n=>aB.cells 100 2 [.sl 4 0 ch.length, .sl 374 0 n]) (kW op s)) ?_
 refine r1<|sT 6 406 1 rfl<|e1 414 rfl<|ab [6] rfl<|rename 2 rfl rfl<|rename 4 rfl rfl<|ao ?_
 obtain rfl:=G.symm.trans (uO X b (by omega))
 exact bm 6 (SV.i 0) (π:= [0,1,2,3,4,5,414,422,374]) (ae:= [some (.cells 55 3 [.map 1, .sl 6 0 (bS.mk 0 ch (op++ [s]) F cnt).F.length,SV.i (bS.mk 0 ch (op++ [s]) F cnt).cnt]),some (.fam Z ⟨es,[(j, .ptr 3 0 0)],none⟩),none,some (.cells 100 2 [.sl 7 0 (bS.mk 0 ch (op++ [s]) F cnt).ch.length, .sl 8 0 (bS.mk 0 ch (op++ [s]) F cnt).op.length]),none,none,some (bY (bS.mk 0 ch (op++ [s]) F cnt).F),some (bw (bS.mk 0 ch (op++ [s]) F cnt).ch),some (dw (bS.mk 0 ch (op++ [s]) F cnt).op)]) Tryd.results39 rfl rfl rfl rfl ⟨rfl,rfl,rfl,rfl,rfl,rfl,trivial⟩ ⟨rfl,rfl⟩
 try simp only[cs,ne_eq]at E
 have b: ¬ (0<(bJ ch op).length/\s.t<=lastT (bJ ch op)):=(fun h=>by have h1:=h.1;omega)
 refine gF 3 true 26 27 5 rfl rfl<|gF 3 true 26 28 6 rfl rfl<|gF 3 true 26 29 7 rfl rfl<|gF 3 true 26 30 8 rfl rfl<|gF 3 true 26 31 9 rfl rfl<|gF 3 true 26 32 10 rfl rfl<|gF 3 true 26 33 11 rfl rfl<|gF 3 true 26 34 12 rfl rfl<|gF 3 true 26 35 13 rfl rfl<|gF 3 true 26 36 14 rfl rfl<|gF 3 true 26 37 15 rfl rfl<|dT 38 254 16 rfl<|iT 262 rfl (by kernel_rfl)<|ab [0,1,5,38] rfl ?_
 refine q1 rfl (fun I=>?_) (fun I=>?_)
 exact absurd I (by decide)
 try simp only[cs,ne_eq]at I
 have b: ¬ (0<(bJ ch op).length/\s.t<=lastT (bJ ch op)):=(fun h=>by have h1:=h.1;have h2:=h.2;omega)
 refine ak<|tn<|ai<|r1<|sT 39 262 1 rfl<|sT 40 270 2 rfl<|sT 41 278 3 rfl<|sO 42 286 4 rfl<|sO 43 294 5 rfl<|sO 44 302 6 rfl<|e1 310 rfl<|ab [0,1,5,44] rfl ?_
 refine q1 rfl (fun J=>?_) (fun J=>?_)
 try simp only[cs,ne_eq]at J
 obtain⟨q,V⟩:∃ q,cH nm ch op F cnt=q:=⟨_,rfl⟩
 rw[V]at a0
 refine r1<|sT 45 310 1 rfl<|sT 46 318 2 rfl<|sT 47 326 3 rfl<|sO 48 334 4 rfl ?_
 refine c1 (rj nm aa ch op O av W ax F hF cnt hr q V) [0,1,2,3,4,5] [0,1,2,3,4,5,342,343,344] 49 342 5 rfl rfl rfl rfl rfl rfl rfl rfl Tryd.func40 rfl rfl rfl rfl ⟨rfl,rfl,rfl,rfl,rfl,rfl,trivial⟩ rfl rfl ?_
 refine sT 10 350 6 rfl<|e1 358 rfl<|ab [1,5,10] rfl<|r1<|sT 50 358 1 rfl<|sO 51 366 2 rfl<|e1 374 rfl<|ab [1,5,10,51] rfl ?_
 refine q1 rfl (fun D=>?_) (fun D=>?_)
 try simp only[cs,ne_eq]at D
 refine r1<|sT 52 374 1 rfl<|sT 6 382 2 rfl<|e1 390 rfl<|ab [6] rfl<|ao<|tr ?_
 have e0:B=q:=G.symm.trans (rh X b (by omega) V D)
 subst e0
 exact bm 6 (SV.i B.e) (π:= [0,1,2,3,4,5,342,343,344]) (ae:= [some (.cells 55 3 [.map 1, .sl 6 0 B.F.length,SV.i B.cnt]),some (.fam Z ⟨es,[(j, .ptr 3 0 0)],none⟩),none,some (.cells 100 2 [.sl 7 0 B.ch.length, .sl 8 0 B.op.length]),none,none,some (bY B.F),some (bw B.ch),some (dw B.op)]) Tryd.results39 rfl rfl rfl rfl ⟨rfl,rfl,rfl,rfl,rfl,rfl,trivial⟩ ⟨rfl,rfl⟩
 try simp only[cs,ne_eq]at D
 refine ak<|tn ?_
 refine kD rfl ?_
 refine dT 53 374 1 rfl<|dT 54 382 2 rfl<|dT 55 390 3 rfl<|dT 56 398 4 rfl<|dO 57 406 5 rfl<|dT 58 414 6 rfl<|dO 59 422 7 rfl<|dT 60 430 8 rfl ?_
 refine dV 61 438 9 rfl ⟨Nat.le_refl _,trivial,(by show(_+1)*16<=140737488355328;omega),(by simp only[maxLen];omega)⟩ ?_
 refine dT 62 446 10 rfl<|dT 63 454 11 rfl ?_
 refine d0 462 12 rfl rfl rfl rfl rfl (by first|trivial|omega) ?_
 refine iT 470 rfl (by kernel_rfl)<|ab [] rfl ?_
 refine bP 438 (q.op++ [s]).length (b6 (q.op++ [s])) rfl (kW _ _) (fun i c Y U=>uP i c Y U) ?_
 refine bW 3 (.cells 100 2 [.sl 343 0 q.ch.length, .sl 438 0 (q.op++ [s]).length]) rfl (congrArg (fun n=>aB.cells 100 2 [.sl 343 0 q.ch.length, .sl 438 0 n]) (kW q.op s)) ?_
 refine r1<|sT 6 470 1 rfl<|e1 478 rfl<|ab [6] rfl<|ao ?_
 obtain rfl:=G.symm.trans (mE X b (by omega) V D)
 exact bm 6 (SV.i 0) (π:= [0,1,2,3,4,5,342,343,438]) (ae:= [some (.cells 55 3 [.map 1, .sl 6 0 (bS.mk 0 q.ch (q.op++ [s]) q.F q.cnt).F.length,SV.i (bS.mk 0 q.ch (q.op++ [s]) q.F q.cnt).cnt]),some (.fam Z ⟨es,[(j, .ptr 3 0 0)],none⟩),none,some (.cells 100 2 [.sl 7 0 (bS.mk 0 q.ch (q.op++ [s]) q.F q.cnt).ch.length, .sl 8 0 (bS.mk 0 q.ch (q.op++ [s]) q.F q.cnt).op.length]),none,none,some (bY (bS.mk 0 q.ch (q.op++ [s]) q.F q.cnt).F),some (bw (bS.mk 0 q.ch (q.op++ [s]) q.F q.cnt).ch),some (dw (bS.mk 0 q.ch (q.op++ [s]) q.F q.cnt).op)]) Tryd.results39 rfl rfl rfl rfl ⟨rfl,rfl,rfl,rfl,rfl,rfl,trivial⟩ ⟨rfl,rfl⟩
 try simp only[cs,ne_eq]at J
 refine ak<|tn ?_
 refine kD rfl ?_
 refine dT 53 310 1 rfl<|dT 54 318 2 rfl<|dT 55 326 3 rfl<|dT 56 334 4 rfl<|dO 57 342 5 rfl<|dT 58 350 6 rfl<|dO 59 358 7 rfl<|dT 60 366 8 rfl ?_
 refine dV 61 374 9 rfl ⟨Nat.le_refl _,trivial,(by show(_+1)*16<=140737488355328;omega),(by simp only[maxLen];omega)⟩ ?_
 refine dT 62 382 10 rfl<|dT 63 390 11 rfl ?_
 refine d0 398 12 rfl rfl rfl rfl rfl (by first|trivial|omega) ?_
 refine iT 406 rfl (by kernel_rfl)<|ab [] rfl ?_
 refine bP 374 (op++ [s]).length (b6 (op++ [s])) rfl (kW _ _) (fun i c Y U=>uP i c Y U) ?_
 refine bW 3 (.cells 100 2 [.sl 4 0 ch.length, .sl 374 0 (op++ [s]).length]) rfl (congrArg (fun n=>aB.cells 100 2 [.sl 4 0 ch.length, .sl 374 0 n]) (kW op s)) ?_
 refine r1<|sT 6 406 1 rfl<|e1 414 rfl<|ab [6] rfl<|rename 2 rfl rfl<|rename 4 rfl rfl<|ao ?_
 obtain rfl:=G.symm.trans (uO X b (by omega))
 exact bm 6 (SV.i 0) (π:= [0,1,2,3,4,5,414,422,374]) (ae:= [some (.cells 55 3 [.map 1, .sl 6 0 (bS.mk 0 ch (op++ [s]) F cnt).F.length,SV.i (bS.mk 0 ch (op++ [s]) F cnt).cnt]),some (.fam Z ⟨es,[(j, .ptr 3 0 0)],none⟩),none,some (.cells 100 2 [.sl 7 0 (bS.mk 0 ch (op++ [s]) F cnt).ch.length, .sl 8 0 (bS.mk 0 ch (op++ [s]) F cnt).op.length]),none,none,some (bY (bS.mk 0 ch (op++ [s]) F cnt).F),some (bw (bS.mk 0 ch (op++ [s]) F cnt).ch),some (dw (bS.mk 0 ch (op++ [s]) F cnt).op)]) Tryd.results39 rfl rfl rfl rfl ⟨rfl,rfl,rfl,rfl,rfl,rfl,trivial⟩ ⟨rfl,rfl⟩
theorem yO{Z:List Nat}{es:List (Value×SV×List ff)}{j:Nat}(nm:ByteArray)(D:nm.size<=8)(s:aR)(k O U V:Int)(W:aj s.t/\aj s.v)(ch:List (List aR))(op:List aR)(E:lL ch op)(G:aE op=0)(B:ch.length<=30)(I:op.length<=8)(F:List Int)(X:F.length<=900000)(cnt:Nat)(Y:cnt<=200)(b:bS)(J:ia nm s ch op F cnt=b):Spec Tryd.prog GF 39 [.ptr 0 0 0, .ptr 3 0 0, .agg [SV.i k, .d (.val (.string nm)),SV.i s.t,SV.i s.v,SV.i O,SV.i U,SV.i V]] [.cells 55 3 [.map 1, .sl 2 0 F.length,SV.i cnt], .fam Z ⟨es,[(j, .ptr 3 0 0)],none⟩,bY F, .cells 100 2 [.sl 4 0 ch.length, .sl 5 0 op.length],bw ch,dw op] (fun r ho=>r=SV.i b.e/\ho= [some (.cells 55 3 [.map 1, .sl 6 0 b.F.length,SV.i b.cnt]),some (.fam Z ⟨es,[(j, .ptr 3 0 0)],none⟩),none,some (.cells 100 2 [.sl 7 0 b.ch.length, .sl 8 0 b.op.length]),none,none,some (bY b.F),some (bw b.ch),some (dw b.op)]):=by
 by_cases hz:aE [s]=0
 ·exact BF nm D s k O U V W ch op E G B I F X cnt Y b J hz
 ·exact yN nm D s k O U V W ch op E G B I F X cnt Y b J hz
structure Fd where
 code:Int
 l:List aR
 ro:cP
 n:Int
def rk:cP:=⟨0,0,0,0⟩
def yP(f:Fd):List SV:= [SV.i f.code, .d (.vec 2 f.l.length (b6 f.l)),SV.i f.ro.c,SV.i f.ro.lo,SV.i f.ro.hi,SV.i f.ro.s,SV.i f.n]
def kj(f:Fd):SV:= .agg (yP f)
def eC(e:Int):Fd:=⟨e,[],rk,0⟩
def pv(n:Int):Fd:=⟨0,[],rk,n⟩
def codeF(e:Int)(n:Nat):Fd:=if e=0 then pv n else eC e
theorem Af{e:Int}{n:Nat}(h:e=0):codeF e n=pv n:=by unfold codeF;rw[if_pos h]
theorem xf{e:Int}{n:Nat}(h: ¬ e=0):codeF e n=eC e:=by unfold codeF;rw[if_neg h]
def gB(nm:ByteArray)(b:Int)(ch:List (List aR))(op:List aR)(F:List Int)(cnt:Nat):bS:=
 if cnt=200 then⟨8,ch,op,F,cnt⟩else⟨0,ch.filter (aO b),op,F++bg (aV 3 nm++bR 8 (cY b)),cnt+1⟩
def nH(l:List aR):cP:=aQ (eh l) l.length
theorem Ek(nm:ByteArray)(b:nm.size<=8)(v:Int):Bytes (aV 3 nm++bR 8 v)/\(aV 3 nm++bR 8 v).length<=4000:=by
 have e:=g9 3 nm
 have k:(bR 8 v).length=8:=by unfold bR;rw[dF]
 refine⟨dJ (nG 3 nm (by omega) (by omega) (by omega)) (mr 8 v (by omega)) (by omega),by rw[List.length_append];omega⟩
theorem Ge{x:Int}(h:aj x):aj (cY x):=by unfold aj at *;unfold cY;split <;>omega
theorem iJ(e:Int):Spec Tryd.prog GF 22 [SV.i e] [] (fun r b=>r=kj (eC e)/\b= []):=by
 refine start 5 0 Tryd.func22 rfl rfl rfl rfl ?_
 refine r1<|sT 2 0 1 rfl<|e1 8 rfl<|ab [0,2] rfl<|r1<|sT 3 8 1 rfl<|sT 4 16 2 rfl<|cJ 24 3 rfl rfl rfl rfl rfl<|e1 32 rfl<|ab [2] rfl ?_
 refine sM 0 1 (.d (.vec 2 0 (b6 []))) rfl rfl (jb 2 _) ?_
 refine ao ?_
 exact cG (kj (eC e)) (π:= []) (ae:= []) Tryd.results22 rfl (by trivial) rfl rfl rfl trivial ⟨rfl,rfl⟩
theorem HU{Z:List Nat}{es:List (Value×SV×List ff)}{j:Nat}(nm:ByteArray)(D:nm.size<=8)(s:aR)(O U E:Int)(V:aj s.t/\aj s.v)(W:aj E)(ch:List (List aR))(op:List aR)(G:lL ch op)(I:aE op=0)(B:ch.length<=30)(J:op.length<=8)(F:List Int)(X:F.length<=900000)(cnt:Nat)(Y:cnt<=200)(q:bS)(hq:ia nm s ch op F cnt=q):Spec Tryd.prog GF 25 [.ptr 0 0 0, .ptr 3 0 0, .agg [SV.i 2, .d (.val (.string nm)),SV.i s.t,SV.i s.v,SV.i O,SV.i U,SV.i E]] [.cells 55 3 [.map 1, .sl 2 0 F.length,SV.i cnt], .fam Z ⟨es,[(j, .ptr 3 0 0)],none⟩,bY F, .cells 100 2 [.sl 4 0 ch.length, .sl 5 0 op.length],bw ch,dw op] (fun r ho=>r=kj (codeF q.e q.ch.length)/\ho= [some (.cells 55 3 [.map 1, .sl 6 0 q.F.length,SV.i q.cnt]),some (.fam Z ⟨es,[(j, .ptr 3 0 0)],none⟩),none,some (.cells 100 2 [.sl 7 0 q.ch.length, .sl 8 0 q.op.length]),none,none,some (bY q.F),some (bw q.ch),some (dw q.op)]):=by
 refine start 82 6 Tryd.func25 rfl rfl rfl rfl ?_
 refine r1<|sT 5 6 1 rfl<|sT 6 14 2 rfl<|e1 22 rfl<|ab [0,1,5,6] rfl<|r1<|sT 7 22 1 rfl<|e1 30 rfl<|ab [0,1,5,6,7] rfl<|ai<|r1<|sT 12 30 1 rfl<|sO 13 38 2 rfl<|e1 46 rfl<|ab [0,1,5,6,7,13] rfl<|au ?_
 refine r1<|sO 39 46 1 rfl<|sT 38 54 2 rfl<|e1 62 rfl<|ab [0,1,5,6,7,13,38] rfl ?_
 refine q1 rfl (fun k=>?_) (fun k=>?_)
 try simp only[cs,ne_eq]at k
 refine r0 ?_
 refine sT 40 62 1 rfl<|sT 41 70 2 rfl<|sO 42 78 3 rfl ?_
 refine c1 (yO nm D s 2 O U E V ch op G I B J F X cnt Y q hq) [0,1,2,3,4,5] [0,1,2,3,4,5,86,87,88] 43 86 4 rfl rfl rfl rfl rfl rfl rfl rfl Tryd.func39 rfl rfl rfl rfl ⟨rfl,rfl,rfl,rfl,rfl,rfl,trivial⟩ rfl rfl ?_
 refine sT 7 94 5 rfl<|e1 102 rfl<|bn<|tn<|ai<|r1<|sT 72 102 1 rfl<|sO 73 110 2 rfl<|e1 118 rfl<|ab [1,6,7,73] rfl ?_
 refine q1 rfl (fun b=>?_) (fun b=>?_)
 try simp only[cs,ne_eq]at b
 refine r1<|sT 74 118 1 rfl ?_
 refine c1 (iJ q.e) [] [] 75 126 2 rfl rfl rfl rfl rfl rfl rfl rfl Tryd.func22 rfl rfl rfl rfl trivial rfl rfl ?_
 refine cJ 134 3 rfl rfl rfl rfl rfl<|e1 142 rfl<|ab [6] rfl<|ao<|tr ?_
 exact cG (kj (codeF q.e q.ch.length)) (π:= [0,1,2,3,4,5,86,87,88]) (ae:= [some (.cells 55 3 [.map 1, .sl 6 0 q.F.length,SV.i q.cnt]),some (.fam Z ⟨es,[(j, .ptr 3 0 0)],none⟩),none,some (.cells 100 2 [.sl 7 0 q.ch.length, .sl 8 0 q.op.length]),none,none,some (bY q.F),some (bw q.ch),some (dw q.op)]) Tryd.results25 rfl (by trivial) (by rw[xf b];rfl) rfl rfl ⟨rfl,rfl,rfl,rfl,rfl,rfl,trivial⟩ ⟨rfl,rfl⟩
 try simp only[cs,ne_eq]at b
 refine ak<|tn<|r1<|sT 76 118 1 rfl<|sT 77 126 2 rfl<|sT 78 134 3 rfl<|sO 79 142 4 rfl<|sO 80 150 5 rfl<|sT 81 158 6 rfl<|cJ 166 7 rfl rfl rfl rfl rfl<|e1 174 rfl<|ab [6] rfl ?_
 refine sM 14 1 (.d (.vec 2 0 (b6 []))) rfl rfl (jb 2 _) ?_
 refine ao ?_
 exact cG (kj (codeF q.e q.ch.length)) (π:= [0,1,2,3,4,5,86,87,88]) (ae:= [some (.cells 55 3 [.map 1, .sl 6 0 q.F.length,SV.i q.cnt]),some (.fam Z ⟨es,[(j, .ptr 3 0 0)],none⟩),none,some (.cells 100 2 [.sl 7 0 q.ch.length, .sl 8 0 q.op.length]),none,none,some (bY q.F),some (bw q.ch),some (dw q.op)]) Tryd.results25 rfl (by trivial) (by rw[Af b];rfl) rfl rfl ⟨rfl,rfl,rfl,rfl,rfl,rfl,trivial⟩ ⟨rfl,rfl⟩
 exact absurd k (by decide)
theorem Gf{Z:List Nat}{es:List (Value×SV×List ff)}{j:Nat}(nm:ByteArray)(E:nm.size<=8)(s:aR)(U V O:Int)(hs:aj s.t/\aj s.v)(W:aj O)(ch:List (List aR))(op:List aR)(G:lL ch op)(I:aE op=0)(D:ch.length<=30)(J:op.length<=8)(F:List Int)(X:F.length<=900000)(cnt:Nat)(Y:cnt<=200)(q:bS)(hq:cH nm ch op F cnt=q):Spec Tryd.prog GF 25 [.ptr 0 0 0, .ptr 3 0 0, .agg [SV.i 6, .d (.val (.string nm)),SV.i s.t,SV.i s.v,SV.i U,SV.i V,SV.i O]] [.cells 55 3 [.map 1, .sl 2 0 F.length,SV.i cnt], .fam Z ⟨es,[(j, .ptr 3 0 0)],none⟩,bY F, .cells 100 2 [.sl 4 0 ch.length, .sl 5 0 op.length],bw ch,dw op] (fun r ho=>r=kj (codeF q.e q.ch.length)/\ho= [some (.cells 55 3 [.map 1, .sl 6 0 q.F.length,SV.i q.cnt]),some (.fam Z ⟨es,[(j, .ptr 3 0 0)],none⟩),none,some (.cells 100 2 [.sl 7 0 q.ch.length, .sl 8 0 q.op.length]),none,none,some (bY q.F),some (bw q.ch),some (dw q.op)]):=by
 refine start 82 6 Tryd.func25 rfl rfl rfl rfl ?_
 refine r1<|sT 5 6 1 rfl<|sT 6 14 2 rfl<|e1 22 rfl<|ab [0,1,5,6] rfl<|r1<|sT 7 22 1 rfl<|e1 30 rfl<|ab [0,1,5,6,7] rfl<|ai<|r1<|sT 12 30 1 rfl<|sO 13 38 2 rfl<|e1 46 rfl<|ab [0,1,5,6,7,13] rfl<|au ?_
 refine r1<|sO 39 46 1 rfl<|sT 38 54 2 rfl<|e1 62 rfl<|ab [0,1,5,6,7,13,38] rfl ?_
 refine q1 rfl (fun k=>?_) (fun k=>?_)
 exact absurd k (by decide)
 try simp only[cs,ne_eq]at k
 refine r1<|sO 45 62 1 rfl<|sT 44 70 2 rfl<|e1 78 rfl<|ab [0,1,5,6,7,13,44] rfl ?_
 refine q1 rfl (fun B=>?_) (fun B=>?_)
 try simp only[cs,ne_eq]at B
 refine r0 ?_
 refine sT 46 78 1 rfl<|sT 47 86 2 rfl<|sT 48 94 3 rfl<|sO 49 102 4 rfl ?_
 refine c1 (rj nm E ch op G I D J F X cnt Y q hq) [0,1,2,3,4,5] [0,1,2,3,4,5,110,111,112] 50 110 5 rfl rfl rfl rfl rfl rfl rfl rfl Tryd.func40 rfl rfl rfl rfl ⟨rfl,rfl,rfl,rfl,rfl,rfl,trivial⟩ rfl rfl ?_
 refine sT 7 118 6 rfl<|e1 126 rfl<|bn<|tn<|ai<|r1<|sT 72 126 1 rfl<|sO 73 134 2 rfl<|e1 142 rfl<|ab [1,6,7,73] rfl ?_
 refine q1 rfl (fun b=>?_) (fun b=>?_)
 try simp only[cs,ne_eq]at b
 refine r1<|sT 74 142 1 rfl ?_
 refine c1 (iJ q.e) [] [] 75 150 2 rfl rfl rfl rfl rfl rfl rfl rfl Tryd.func22 rfl rfl rfl rfl trivial rfl rfl ?_
 refine cJ 158 3 rfl rfl rfl rfl rfl<|e1 166 rfl<|ab [6] rfl<|ao<|tr ?_
 exact cG (kj (codeF q.e q.ch.length)) (π:= [0,1,2,3,4,5,110,111,112]) (ae:= [some (.cells 55 3 [.map 1, .sl 6 0 q.F.length,SV.i q.cnt]),some (.fam Z ⟨es,[(j, .ptr 3 0 0)],none⟩),none,some (.cells 100 2 [.sl 7 0 q.ch.length, .sl 8 0 q.op.length]),none,none,some (bY q.F),some (bw q.ch),some (dw q.op)]) Tryd.results25 rfl (by trivial) (by rw[xf b];rfl) rfl rfl ⟨rfl,rfl,rfl,rfl,rfl,rfl,trivial⟩ ⟨rfl,rfl⟩
 try simp only[cs,ne_eq]at b
 refine ak<|tn<|r1<|sT 76 142 1 rfl<|sT 77 150 2 rfl<|sT 78 158 3 rfl<|sO 79 166 4 rfl<|sO 80 174 5 rfl<|sT 81 182 6 rfl<|cJ 190 7 rfl rfl rfl rfl rfl<|e1 198 rfl<|ab [6] rfl ?_
 refine sM 14 1 (.d (.vec 2 0 (b6 []))) rfl rfl (jb 2 _) ?_
 refine ao ?_
 exact cG (kj (codeF q.e q.ch.length)) (π:= [0,1,2,3,4,5,110,111,112]) (ae:= [some (.cells 55 3 [.map 1, .sl 6 0 q.F.length,SV.i q.cnt]),some (.fam Z ⟨es,[(j, .ptr 3 0 0)],none⟩),none,some (.cells 100 2 [.sl 7 0 q.ch.length, .sl 8 0 q.op.length]),none,none,some (bY q.F),some (bw q.ch),some (dw q.op)]) Tryd.results25 rfl (by trivial) (by rw[Af b];rfl) rfl rfl ⟨rfl,rfl,rfl,rfl,rfl,rfl,trivial⟩ ⟨rfl,rfl⟩
 exact absurd B (by decide)
theorem Gg{Z:List Nat}{es:List (Value×SV×List ff)}{j:Nat}(nm:ByteArray)(O:nm.size<=8)(s:aR)(fr to b:Int)(hs:aj s.t/\aj s.v)(I:aj b)(ch:List (List aR))(op:List aR)(U:lL ch op)(aa:aE op=0)(X:ch.length<=30)(ah:op.length<=8)(F:List Int)(hF:F.length<=900000)(cnt:Nat)(hr:cnt<=200)(q:bS)(Y:gB nm b ch op F cnt=q):Spec Tryd.prog GF 25 [.ptr 0 0 0, .ptr 3 0 0, .agg [SV.i 5, .d (.val (.string nm)),SV.i s.t,SV.i s.v,SV.i fr,SV.i to,SV.i b]] [.cells 55 3 [.map 1, .sl 2 0 F.length,SV.i cnt], .fam Z ⟨es,[(j, .ptr 3 0 0)],none⟩,bY F, .cells 100 2 [.sl 4 0 ch.length, .sl 5 0 op.length],bw ch,dw op] (fun r ho=>r=kj (codeF q.e q.ch.length)/\ho= [some (.cells 55 3 [.map 1, .sl 6 0 q.F.length,SV.i q.cnt]),some (.fam Z ⟨es,[(j, .ptr 3 0 0)],none⟩),none,some (.cells 100 2 [.sl 7 0 q.ch.length, .sl 8 0 q.op.length]),none,none,some (bY q.F),some (bw q.ch),some (dw q.op)]):=by
 have J:=Ek nm O (cY b)
 have V:=Ge I
 refine start 82 6 Tryd.func25 rfl rfl rfl rfl ?_
 refine r1<|sT 5 6 1 rfl<|sT 6 14 2 rfl<|e1 22 rfl<|ab [0,1,5,6] rfl<|r1<|sT 7 22 1 rfl<|e1 30 rfl<|ab [0,1,5,6,7] rfl<|ai<|r1<|sT 12 30 1 rfl<|sO 13 38 2 rfl<|e1 46 rfl<|ab [0,1,5,6,7,13] rfl<|au ?_
 refine r1<|sO 39 46 1 rfl<|sT 38 54 2 rfl<|e1 62 rfl<|ab [0,1,5,6,7,13,38] rfl ?_
 refine q1 rfl (fun k=>?_) (fun k=>?_)
 exact absurd k (by decide)
 try simp only[cs,ne_eq]at k
 refine r1<|sO 45 62 1 rfl<|sT 44 70 2 rfl<|e1 78 rfl<|ab [0,1,5,6,7,13,44] rfl ?_
 refine q1 rfl (fun B=>?_) (fun B=>?_)
 exact absurd B (by decide)
 try simp only[cs,ne_eq]at B
 refine r1<|sO 52 78 1 rfl<|sT 51 86 2 rfl<|e1 94 rfl<|ab [0,1,5,6,7,51] rfl ?_
 refine q1 rfl (fun D=>?_) (fun D=>?_)
 try simp only[cs,ne_eq]at D
 refine ai<|r1<|sT 53 94 1 rfl<|sT 54 102 2 rfl<|sT 55 110 3 rfl<|sO 56 118 4 rfl<|sO 57 126 5 rfl<|e1 134 rfl<|ab [0,1,5,6,7,57] rfl ?_
 refine q1 rfl (fun E=>?_) (fun E=>?_)
 try simp only[cs,ne_eq]at E
 refine r1 ?_
 refine c1 (iJ 8) [] [] 58 134 1 rfl rfl rfl rfl rfl rfl rfl rfl Tryd.func22 rfl rfl rfl rfl trivial rfl rfl ?_
 refine cJ 142 2 rfl rfl rfl rfl rfl<|e1 150 rfl<|ab [6] rfl<|rename 2 rfl rfl<|rename 4 rfl rfl<|rename 5 rfl rfl<|ao<|tr<|br<|tr ?_
 have W:gB nm b ch op F cnt=⟨8,ch,op,F,cnt⟩:=(by unfold gB;rw[if_pos (by omega)])
 obtain rfl:=Y.symm.trans W
 exact cG (kj (eC 8)) (π:= [0,1,2,3,4,5,150,158,166]) (ae:= [some (.cells 55 3 [.map 1, .sl 6 0 (bS.mk 8 ch op F cnt).F.length,SV.i (bS.mk 8 ch op F cnt).cnt]),some (.fam Z ⟨es,[(j, .ptr 3 0 0)],none⟩),none,some (.cells 100 2 [.sl 7 0 (bS.mk 8 ch op F cnt).ch.length, .sl 8 0 (bS.mk 8 ch op F cnt).op.length]),none,none,some (bY (bS.mk 8 ch op F cnt).F),some (bw (bS.mk 8 ch op F cnt).ch),some (dw (bS.mk 8 ch op F cnt).op)]) Tryd.results25 rfl (by trivial) rfl rfl rfl ⟨rfl,rfl,rfl,rfl,rfl,rfl,trivial⟩ ⟨rfl,rfl⟩
 try simp only[cs,ne_eq]at E
 refine ak<|tn<|r1<|sT 59 134 1 rfl<|sT 60 142 2 rfl<|sO 61 150 3 rfl ?_
 refine c1 (wR ch op U b) [3,4,5] [3,4,5,158] 62 158 4 rfl rfl rfl rfl rfl rfl rfl rfl Tryd.func41 rfl rfl rfl rfl ⟨rfl,rfl,rfl,trivial⟩ rfl rfl ?_
 refine e1 166 rfl<|ab [0,1,5,6,7] rfl ?_
 refine rd0 rfl ?_
 refine dT 63 166 1 rfl<|dT 64 174 2 rfl<|dO 65 182 3 rfl ?_
 refine Fg (sQ 3 nm (by omega)) [] [190] 66 190 4 rfl rfl rfl rfl rfl rfl rfl rfl Tryd.func43 rfl rfl rfl rfl trivial rfl rfl ?_
 refine dT 67 198 5 rfl<|dO 68 206 6 rfl<|dO 69 214 7 rfl ?_
 refine val 69 (SV.i (cY b)) rfl (congrArg SV.i (sL (by unfold aj at I;omega) (by unfold aj at I;omega))) ?_
 refine Fg (zR (aV 3 nm) (by have :=g9 3 nm;omega) 8 (by omega) (cY b) V) [190] [190,222] 70 222 8 rfl rfl rfl rfl rfl rfl rfl rfl Tryd.func42 rfl rfl rfl rfl ⟨rfl,trivial⟩ rfl rfl ?_
 refine Fg (DK F (aV 3 nm++bR 8 (cY b)) (by omega) J.1 J.2 cnt (by omega) rfl (fun i c hi hc=>rfl)) [0,1,2,222,3,158,5] [0,1,2,222,3,158,5,230] 71 230 9 rfl rfl rfl rfl rfl rfl rfl rfl Tryd.func37 rfl rfl rfl rfl ⟨rfl,rfl,rfl,rfl,rfl,rfl,rfl,trivial⟩ rfl rfl ?_
 refine iT 238 rfl (by kernel_rfl)<|bn<|tn<|ai<|r1<|sT 72 238 1 rfl<|sO 73 246 2 rfl<|e1 254 rfl<|ab [1,6,7,73] rfl ?_
 refine q1 rfl (fun G=>?_) (fun G=>?_)
 exact absurd G (by decide)
 try simp only[cs,ne_eq]at G
 refine ak<|tn<|r1<|sT 76 254 1 rfl<|sT 77 262 2 rfl<|sT 78 270 3 rfl<|sO 79 278 4 rfl<|sO 80 286 5 rfl<|sT 81 294 6 rfl<|cJ 302 7 rfl rfl rfl rfl rfl<|e1 310 rfl<|ab [6] rfl ?_
 refine sM 14 1 (.d (.vec 2 0 (b6 []))) rfl rfl (jb 2 _) ?_
 refine rename 5 rfl rfl<|ao ?_
 have W:gB nm b ch op F cnt=⟨0,ch.filter (aO b),op,F++bg (aV 3 nm++bR 8 (cY b)),cnt+1⟩:=(by unfold gB;rw[if_neg (by omega)])
 obtain rfl:=Y.symm.trans W
 exact cG (kj (pv (ch.filter (aO b)).length)) (π:= [0,1,2,3,4,5,230,158,310]) (ae:= [some (.cells 55 3 [.map 1, .sl 6 0 (bS.mk 0 (ch.filter (aO b)) op (F++bg (aV 3 nm++bR 8 (cY b))) (cnt+1)).F.length,SV.i (bS.mk 0 (ch.filter (aO b)) op (F++bg (aV 3 nm++bR 8 (cY b))) (cnt+1)).cnt]),some (.fam Z ⟨es,[(j, .ptr 3 0 0)],none⟩),none,some (.cells 100 2 [.sl 7 0 (bS.mk 0 (ch.filter (aO b)) op (F++bg (aV 3 nm++bR 8 (cY b))) (cnt+1)).ch.length, .sl 8 0 (bS.mk 0 (ch.filter (aO b)) op (F++bg (aV 3 nm++bR 8 (cY b))) (cnt+1)).op.length]),none,none,some (bY (bS.mk 0 (ch.filter (aO b)) op (F++bg (aV 3 nm++bR 8 (cY b))) (cnt+1)).F),some (bw (bS.mk 0 (ch.filter (aO b)) op (F++bg (aV 3 nm++bR 8 (cY b))) (cnt+1)).ch),some (dw (bS.mk 0 (ch.filter (aO b)) op (F++bg (aV 3 nm++bR 8 (cY b))) (cnt+1)).op)]) Tryd.results25 rfl (by trivial) rfl rfl rfl ⟨rfl,rfl,rfl,rfl,rfl,rfl,trivial⟩ ⟨rfl,rfl⟩
 exact absurd D (by decide)
theorem El{Z:List Nat}{es:List (Value×SV×List ff)}{j:Nat}(nm:ByteArray)(O:nm.size<=8)(s:aR)(D E I:Int)(Y:aj s.t/\aj s.v)(U:aj I)(ch:List (List aR))(op:List aR)(G:lL ch op)(V:aE op=0)(J:ch.length<=30)(W:op.length<=8)(F:List Int)(hF:F.length<=900000)(cnt:Nat)(hr:cnt<=200):Spec Tryd.prog GF 25 [.ptr 0 0 0, .ptr 3 0 0, .agg [SV.i 3, .d (.val (.string nm)),SV.i s.t,SV.i s.v,SV.i D,SV.i E,SV.i I]] [.cells 55 3 [.map 1, .sl 2 0 F.length,SV.i cnt], .fam Z ⟨es,[(j, .ptr 3 0 0)],none⟩,bY F, .cells 100 2 [.sl 4 0 ch.length, .sl 5 0 op.length],bw ch,dw op] (fun r X=>r=kj ⟨0,((bJ ch op).filter (dK D E)),rk,0⟩/\X= [some (.cells 55 3 [.map 1, .sl 6 0 (bS.mk 0 ch op F cnt).F.length,SV.i (bS.mk 0 ch op F cnt).cnt]),some (.fam Z ⟨es,[(j, .ptr 3 0 0)],none⟩),none,some (.cells 100 2 [.sl 7 0 (bS.mk 0 ch op F cnt).ch.length, .sl 8 0 (bS.mk 0 ch op F cnt).op.length]),none,none,some (bY (bS.mk 0 ch op F cnt).F),some (bw (bS.mk 0 ch op F cnt).ch),some (dw (bS.mk 0 ch op F cnt).op)]):=by
 refine start 82 6 Tryd.func25 rfl rfl rfl rfl ?_
 refine r1<|sT 5 6 1 rfl<|sT 6 14 2 rfl<|e1 22 rfl<|ab [0,1,5,6] rfl<|r1<|sT 7 22 1 rfl<|e1 30 rfl<|ab [0,1,5,6,7] rfl<|ai<|r1<|sT 12 30 1 rfl<|sO 13 38 2 rfl<|e1 46 rfl<|ab [0,1,5,6,7,13] rfl<|au ?_
 refine r1<|sO 39 46 1 rfl<|sT 38 54 2 rfl<|e1 62 rfl<|ab [0,1,5,6,7,13,38] rfl ?_
 refine q1 rfl (fun b=>?_) (fun b=>?_)
 exact absurd b (by decide)
 try simp only[cs,ne_eq]at b
 refine r1<|sO 45 62 1 rfl<|sT 44 70 2 rfl<|e1 78 rfl<|ab [0,1,5,6,7,13,44] rfl ?_
 refine q1 rfl (fun e=>?_) (fun e=>?_)
 exact absurd e (by decide)
 try simp only[cs,ne_eq]at e
 refine r1<|sO 52 78 1 rfl<|sT 51 86 2 rfl<|e1 94 rfl<|ab [0,1,5,6,7,51] rfl ?_
 refine q1 rfl (fun k=>?_) (fun k=>?_)
 exact absurd k (by decide)
 try simp only[cs,ne_eq]at k
 refine r1<|sT 14 94 1 rfl<|sT 15 102 2 rfl<|sO 16 110 3 rfl<|sT 17 118 4 rfl<|sO 18 126 5 rfl ?_
 refine c1 (jK ch op G D E) [3,4,5] [3,4,5,134] 19 134 6 rfl rfl rfl rfl rfl rfl rfl rfl Tryd.func44 rfl rfl rfl rfl ⟨rfl,rfl,rfl,trivial⟩ rfl rfl ?_
 refine sT 8 142 7 rfl<|e1 150 rfl<|ab [5,6,8] rfl ?_
 refine freeze 8 134 ((bJ ch op).filter (dK D E)).length rfl rfl (Nat.le_refl _) ?_
 refine ai<|r1<|sT 20 150 1 rfl<|sO 21 158 2 rfl<|sO 22 166 3 rfl<|e1 174 rfl<|ab [6,8,22] rfl ?_
 refine q1 rfl (fun B=>?_) (fun B=>?_)
 try simp only[cs,ne_eq]at B
 refine r1<|sT 23 174 1 rfl<|sT 24 182 2 rfl<|cJ 190 3 rfl rfl rfl rfl rfl<|e1 198 rfl<|ab [6] rfl<|rename 2 rfl rfl<|rename 4 rfl rfl<|rename 5 rfl rfl<|ao<|tr<|br<|tr ?_
 exact cG (kj ⟨0,((bJ ch op).filter (dK D E)),rk,0⟩) (π:= [0,1,2,3,4,5,198,206,214]) (ae:= [some (.cells 55 3 [.map 1, .sl 6 0 (bS.mk 0 ch op F cnt).F.length,SV.i (bS.mk 0 ch op F cnt).cnt]),some (.fam Z ⟨es,[(j, .ptr 3 0 0)],none⟩),none,some (.cells 100 2 [.sl 7 0 (bS.mk 0 ch op F cnt).ch.length, .sl 8 0 (bS.mk 0 ch op F cnt).op.length]),none,none,some (bY (bS.mk 0 ch op F cnt).F),some (bw (bS.mk 0 ch op F cnt).ch),some (dw (bS.mk 0 ch op F cnt).op)]) Tryd.results25 rfl (by trivial) rfl rfl rfl ⟨rfl,rfl,rfl,rfl,rfl,rfl,trivial⟩ ⟨rfl,rfl⟩
 exact absurd B (by decide)
theorem Em{Z:List Nat}{es:List (Value×SV×List ff)}{j:Nat}(nm:ByteArray)(al:nm.size<=8)(s:aR)(G I V:Int)(hs:aj s.t/\aj s.v)(av:aj V)(ch:List (List aR))(op:List aR)(B:lL ch op)(ax:aE op=0)(X:ch.length<=30)(a0:op.length<=8)(F:List Int)(hF:F.length<=900000)(cnt:Nat)(hr:cnt<=200)(l:List aR)(hl:((bJ ch op).filter (dK G I))=l)(Y:l.length<=250)(hv:∀ i,i<(eh l).length->Hb ((eh l).getD i 0)):Spec Tryd.prog GF 25 [.ptr 0 0 0, .ptr 3 0 0, .agg [SV.i 4, .d (.val (.string nm)),SV.i s.t,SV.i s.v,SV.i G,SV.i I,SV.i V]] [.cells 55 3 [.map 1, .sl 2 0 F.length,SV.i cnt], .fam Z ⟨es,[(j, .ptr 3 0 0)],none⟩,bY F, .cells 100 2 [.sl 4 0 ch.length, .sl 5 0 op.length],bw ch,dw op] (fun r ho=>r=kj ⟨0,[],nH l,0⟩/\ho= [some (.cells 55 3 [.map 1, .sl 6 0 (bS.mk 0 ch op F cnt).F.length,SV.i (bS.mk 0 ch op F cnt).cnt]),some (.fam Z ⟨es,[(j, .ptr 3 0 0)],none⟩),none,some (.cells 100 2 [.sl 7 0 (bS.mk 0 ch op F cnt).ch.length, .sl 8 0 (bS.mk 0 ch op F cnt).op.length]),none,none,some (bY (bS.mk 0 ch op F cnt).F),some (bw (bS.mk 0 ch op F cnt).ch),some (dw (bS.mk 0 ch op F cnt).op)]):=by
 have aa:=B.all
 have a1:(bJ ch op).length=ch.flatten.length+op.length:=(by unfold bJ;rw[List.length_append])
 have ah:=B.o
 have O:=List.length_filter_le (dK G I) (bJ ch op)
 rw[hl]at O
 refine start 82 6 Tryd.func25 rfl rfl rfl rfl ?_
 refine r1<|sT 5 6 1 rfl<|sT 6 14 2 rfl<|e1 22 rfl<|ab [0,1,5,6] rfl<|r1<|sT 7 22 1 rfl<|e1 30 rfl<|ab [0,1,5,6,7] rfl<|ai<|r1<|sT 12 30 1 rfl<|sO 13 38 2 rfl<|e1 46 rfl<|ab [0,1,5,6,7,13] rfl<|au ?_
 refine r1<|sO 39 46 1 rfl<|sT 38 54 2 rfl<|e1 62 rfl<|ab [0,1,5,6,7,13,38] rfl ?_
 refine q1 rfl (fun b=>?_) (fun b=>?_)
 exact absurd b (by decide)
 try simp only[cs,ne_eq]at b
 refine r1<|sO 45 62 1 rfl<|sT 44 70 2 rfl<|e1 78 rfl<|ab [0,1,5,6,7,13,44] rfl ?_
 refine q1 rfl (fun e=>?_) (fun e=>?_)
 exact absurd e (by decide)
 try simp only[cs,ne_eq]at e
 refine r1<|sO 52 78 1 rfl<|sT 51 86 2 rfl<|e1 94 rfl<|ab [0,1,5,6,7,51] rfl ?_
 refine q1 rfl (fun k=>?_) (fun k=>?_)
 exact absurd k (by decide)
 try simp only[cs,ne_eq]at k
 refine r1<|sT 14 94 1 rfl<|sT 15 102 2 rfl<|sO 16 110 3 rfl<|sT 17 118 4 rfl<|sO 18 126 5 rfl ?_
 refine c1 (jK ch op B G I) [3,4,5] [3,4,5,134] 19 134 6 rfl rfl rfl rfl rfl rfl rfl rfl Tryd.func44 rfl rfl rfl rfl ⟨rfl,rfl,rfl,trivial⟩ rfl rfl ?_
 refine sT 8 142 7 rfl<|e1 150 rfl<|ab [5,6,8] rfl ?_
 refine freeze 8 134 ((bJ ch op).filter (dK G I)).length rfl rfl (Nat.le_refl _) ?_
 refine cB 8 (jD l) rfl (by rw[hl];rfl) ?_
 refine ai<|r1<|sT 20 150 1 rfl<|sO 21 158 2 rfl<|sO 22 166 3 rfl<|e1 174 rfl<|ab [6,8,22] rfl ?_
 refine q1 rfl (fun D=>?_) (fun D=>?_)
 exact absurd D (by decide)
 try simp only[cs,ne_eq]at D
 refine ak<|tn<|r1<|sT 9 174 1 rfl<|e1 182 rfl<|ab [6,8,9] rfl<|ai<|r1<|sT 25 182 1 rfl<|sO 26 190 2 rfl<|sT 27 198 3 rfl<|e1 206 rfl<|ab [6,9,25,26,27] rfl<|au ?_
 refine bW 174 (dz (aQ (eh l) 0)) rfl rfl ?_
 refine loop (α:=Nat) 8 (fun n=> [(6, .ptr 6 0 0),(9, .ptr 7 0 0),(25,jD l),(26,SV.i l.length),(27,SV.i (n))]) (fun n=> [some (.cells 55 3 [.map 1, .sl 2 0 F.length,SV.i cnt]),some (.fam Z ⟨es,[(j, .ptr 3 0 0)],none⟩),some (bY F),some (.cells 100 2 [.sl 4 0 ch.length, .sl 5 0 op.length]),some (bw ch),some (dw op),some (.cells 41 7 [SV.i 0, .d .bz,SV.i 0,SV.i 0,SV.i 0,SV.i 0,SV.i 0]),some (dz (aQ (eh l) (n)))]) (fun n=>(n)<=l.length) (fun n=>l.length-(n)) (((0):Nat)) [0,1,2,3,4,5,14,174] (fun _=>rfl) (show(0)<=l.length from(Nat.zero_le _)) rfl ⟨rfl,rfl,rfl,rfl,rfl,trivial⟩ ⟨rfl,rfl,rfl,rfl,rfl,rfl,rfl,rfl,trivial⟩ (fun n U=>?_)
 show W _ _ _ ⟨dG [(6, .ptr 6 0 0),(9, .ptr 7 0 0),(25,jD l),(26,SV.i l.length),(27,SV.i n)],dC [some (.cells 55 3 [.map 1, .sl 2 0 F.length,SV.i cnt]),some (.fam Z ⟨es,[(j, .ptr 3 0 0)],none⟩),some (bY F),some (.cells 100 2 [.sl 4 0 ch.length, .sl 5 0 op.length]),some (bw ch),some (dw op),some (.cells 41 7 [SV.i 0, .d .bz,SV.i 0,SV.i 0,SV.i 0,SV.i 0,SV.i 0]),some (dz (aQ (eh l) n))],8⟩
 have U:n<=l.length:=U
 have a2:=yK hv n (by rw[eM];exact U)
 have a3:=rf (eh l) n
 refine r1<|sO 28 8 1 rfl<|e1 16 rfl<|ab [6,9,25,26,27,28] rfl<|ai ?_
 refine q1 rfl (fun E=>?_) (fun E=>?_)
 try simp only[cs,ne_eq]at E
 have J:=hv n (by rw[eM];omega)
 rw[jf (by omega)]at J
 unfold Hb at J
 refine ak<|tn<|ai<|au<|r1<|sO 29 16 1 rfl<|sO 30 24 2 rfl ?_
 refine val 30 (nj (l.getD n default)) rfl (by first|rfl|(simp only[Nat.zero_add,Int.toNat_natCast];rfl)) ?_
 refine sT 11 32 3 rfl<|cJ 40 4 rfl rfl rfl rfl rfl<|e1 48 rfl<|ab [6,9,11,25,26,27] rfl ?_
 refine r0 ?_
 refine sO 31 48 1 rfl<|sT 32 56 2 rfl<|sO 33 64 3 rfl ?_
 refine c1 (nF (aQ (eh l) n) (l.getD n default).v ⟨by omega,by omega⟩ ⟨by omega,by omega⟩) [] [] 34 72 4 rfl rfl rfl rfl rfl rfl rfl rfl Tryd.func45 rfl rfl rfl rfl trivial rfl rfl ?_
 refine cJ 80 5 rfl rfl rfl rfl rfl<|e1 88 rfl<|bn<|tn ?_
 refine bW 7 (dz (aQ (eh l) (n+1))) rfl (by rw[oM,jf (by omega)];rfl) ?_
 refine r0 ?_
 refine de 35 88 1 rfl<|sT 27 96 2 rfl<|e1 104 rfl<|tn ?_
 exact again ((n+1:Nat)) [0,1,2,3,4,5,6,7] (show(n+1)<=l.length from(by omega)) (show l.length-(n+1)<l.length-n from(by omega)) rfl ⟨rfl,rfl,rfl,rfl,rfl,trivial⟩ ⟨rfl,rfl,rfl,rfl,rfl,rfl,rfl,rfl,trivial⟩
 try simp only[cs,ne_eq]at E
 refine bI<|tx<|tx<|bx<|tn ?_
 obtain rfl:n=l.length:=(by omega)
 refine r1<|sO 36 16 1 rfl<|sT 37 24 2 rfl<|cJ 32 3 rfl rfl rfl rfl rfl<|e1 40 rfl<|ab [6] rfl ?_
 refine sM 6 1 (.d (.vec 2 0 (b6 []))) rfl rfl (jb 2 _) ?_
 refine rename 2 rfl rfl<|rename 4 rfl rfl<|rename 5 rfl rfl<|ao<|br<|tr ?_
 exact cG (kj ⟨0,[],nH l,0⟩) (π:= [0,1,2,3,4,5,40,48,56]) (ae:= [some (.cells 55 3 [.map 1, .sl 6 0 (bS.mk 0 ch op F cnt).F.length,SV.i (bS.mk 0 ch op F cnt).cnt]),some (.fam Z ⟨es,[(j, .ptr 3 0 0)],none⟩),none,some (.cells 100 2 [.sl 7 0 (bS.mk 0 ch op F cnt).ch.length, .sl 8 0 (bS.mk 0 ch op F cnt).op.length]),none,none,some (bY (bS.mk 0 ch op F cnt).F),some (bw (bS.mk 0 ch op F cnt).ch),some (dw (bS.mk 0 ch op F cnt).op)]) Tryd.results25 rfl (by trivial) rfl rfl rfl ⟨rfl,rfl,rfl,rfl,rfl,rfl,trivial⟩ ⟨rfl,rfl⟩
def jh(x:Ln):List ff:= [.cells 100 2 [.sl 1 0 x.ch.length, .sl 2 0 x.op.length], .rows 37 1 x.ch.length (qR x.ch), .rows 31 2 x.op.length (b6 x.op)]
def HV(x:Ln):Value×SV×List ff:=(.string x.nm, .ptr 0 0 0,jh x)
def a9(L:List Ln):List (Value×SV×List ff):=L.map HV
def bj(nm:ByteArray):List Ln->Option Nat
 | []=>none
 |x::r=>if nm=x.nm then some 0 else(bj nm r).map (· +1)
theorem fe{nm:ByteArray}:∀ {L:List Ln} {j:Nat},bj nm L=some j->∃ x,L[j]? =some x/\x.nm=nm
 |x::r,j,h=>by
  unfold bj at h
  by_cases e:nm=x.nm
  ·rw[if_pos e]at h;cases h;exact⟨x,rfl,e.symm⟩
  ·rw[if_neg e]at h
   obtain⟨k,b,rfl⟩:=Option.map_eq_some_iff.1 h
   simpa using fe (L:=r) b
theorem I6{a b:ByteArray}:(a==b)=true↔a=b:=by
 rw[beq_toListBytes,beq_iff_eq]
 exact HA.symm
theorem En(nm:ByteArray):∀ L:List Ln,lT .string (.string nm) ((a9 L).map (·.1))=some (bj nm L)
 | []=>rfl
 |x::r=>by
  have b:=En nm r
  simp only[a9,List.map_cons,HV,lT,Instr.sameNow,bj]at b ⊢
  by_cases e:nm=x.nm
  ·rw[if_pos e,I6.2 e]
  ·rw[if_neg e,show(nm==x.nm)=false from by rw[<-Bool.not_eq_true,I6];exact e]
   simp only[b,Option.map_some]
theorem KN(nm:ByteArray)(L:List Ln):lS Tryd.prog 9 (.string nm) ((a9 L).map (·.1)) (bj nm L):=CW Tryd.underlying9 rfl (En nm L)
theorem dQ{L:List Ln}{j:Nat}{x:Ln}(h:L[j]? =some x):(a9 L)[j]? =some (.string x.nm, .ptr 0 0 0,jh x):=by unfold a9;rw[List.getElem?_map,h];rfl
theorem ib(L:List Ln)(j:Nat)(x:Ln):(a9 L).set j (.string x.nm, .ptr 0 0 0,jh x)=a9 (L.set j x):=by unfold a9;rw[List.map_set];rfl
theorem ta(L:List Ln)(x:Ln):(a9 L++ [(Value.string x.nm,SV.any,([]:List ff))]).set (a9 L).length (.string x.nm, .ptr 0 0 0,jh x)=a9 (L++ [x]):=by
 rw[List.set_append_right _ _ (Nat.le_refl _),Nat.sub_self]
 unfold a9;simp[HV]
theorem xg(L:List Ln)(k:Value):(a9 L++ [(k,SV.any,([]:List ff))])[(a9 L).length]? =some (k, .any,[]):=by simp
theorem Eo(L:List Ln):(a9 L).length=L.length:=by simp[a9]
structure eI where
 L:List Ln
 F:List Int
 cnt:Nat
structure I7 where
 e:Int
 s:eI
def eT(nm:ByteArray)(s:eI):I7:=
 if dq nm=false then⟨4,s⟩else if(bj nm s.L).isSome then⟨7,s⟩else if s.L.length=6\/s.cnt=200 then⟨8,s⟩else⟨0,⟨s.L++ [⟨nm,[],[]⟩],s.F++bg ([1]++fb nm),s.cnt+1⟩⟩
theorem kX{nm:ByteArray}{s:eI}(h:dq nm=false):eT nm s=⟨4,s⟩:=by unfold eT;rw[if_pos h]
theorem nI{nm:ByteArray}{s:eI}{j:Nat}(h:dq nm=true)(b:bj nm s.L=some j):eT nm s=⟨7,s⟩:=by unfold eT;rw[if_neg (by rw[h];simp),b];rfl
theorem kY{nm:ByteArray}{s:eI}(h:dq nm=true)(b:bj nm s.L=none)(e:s.L.length=6\/s.cnt=200):eT nm s=⟨8,s⟩:=by unfold eT;rw[if_neg (by rw[h];simp),b,if_neg (by simp),if_pos e]
theorem rl{nm:ByteArray}{s:eI}(h:dq nm=true)(b:bj nm s.L=none)(e: ¬ s.L.length=6)(k: ¬ s.cnt=200):eT nm s=⟨0,⟨s.L++ [⟨nm,[],[]⟩],s.F++bg ([1]++fb nm),s.cnt+1⟩⟩:=by unfold eT;rw[if_neg (by rw[h];simp),b,if_neg (by simp),if_neg (by omega)]
theorem Ag(nm:ByteArray)(e:nm.size<=8):Bytes ([1]++fb nm)/\([1]++fb nm).length<=4000:=by
 refine⟨dJ (gg (by simp) fun x b=>?_) (gU nm (by omega)) (by simp[bN];omega),by simp[bN];omega⟩
 simp at b;subst b;omega
theorem Gh{nm:ByteArray}(i c:Nat)(b:i<1+nm.size)(e:c<1):dZ (iF 1 [.val (.int .u8 1)]) 1 (ey nm) i c=dm ([1]++fb nm) i c:=by
 rw[<-Dx (A:= [1]) i c b e]
 unfold dZ
 split
 ·obtain rfl:c=0:=by omega
  have :i=0:=by omega
  subst this;rfl
 ·next h=>rw[if_neg (by simpa using h)];rfl
theorem yQ{Z:List Nat}(nm:ByteArray)(B:nm.size<=9223372036854775807)(s:eI)(U:s.F.length<=900000)(V:s.cnt<=200)(W:s.L.length<=6)(q:I7)(E:eT nm s=q){j:Nat}(G:bj nm s.L=some j):Spec Tryd.prog GF 23 [.ptr 0 0 0, .d (.val (.string nm))] [.cells 55 3 [.map 1, .sl 2 0 s.F.length,SV.i s.cnt], .fam Z ⟨a9 s.L,[],none⟩,bY s.F] (fun r I=>∃ J,r=SV.i q.e/\I= [some (.cells 55 3 [.map 3, .sl 4 0 q.s.F.length,SV.i q.s.cnt]),none,none,some (.fam J ⟨a9 q.s.L,[],none⟩),some (bY q.s.F)]):=by
 refine start 48 3 Tryd.func23 rfl rfl rfl rfl ?_
 refine r1<|sT 4 3 1 rfl<|e1 11 rfl<|ab [0,1] rfl<|r1<|sT 8 11 1 rfl<|sT 9 19 2 rfl<|sT 10 27 3 rfl<|sO 11 35 4 rfl<|sT 12 43 5 rfl ?_
 refine HH j (G▸KN nm s.L) 13 51 6 rfl rfl rfl rfl rfl rfl Tryd.underlying53 rfl (fun M ρ u h=>h.val) rfl rfl ?_
 refine sT 7 59 7 rfl<|sT 14 67 8 rfl<|sT 15 75 9 rfl<|sT 5 83 10 rfl<|sT 6 91 11 rfl<|e1 99 rfl<|ab [0,1,6] rfl<|ai<|au<|r1<|sT 17 99 1 rfl ?_
 refine c1 (wJ nm B) [] [] 18 107 2 rfl rfl rfl rfl rfl rfl rfl rfl Tryd.func36 rfl rfl rfl rfl trivial rfl rfl ?_
 refine sT 19 115 3 rfl<|sT 16 123 4 rfl<|e1 131 rfl<|ab [0,1,6,16] rfl ?_
 refine q1 rfl (fun b=>?_) (fun b=>?_)
 try simp only[cs,ne_eq]at b
 have k:dq nm=false:=(by simpa using b)
 refine r1<|sT 4 131 1 rfl<|e1 139 rfl<|ab [4] rfl<|rename 1 rfl rfl<|rename 2 rfl rfl<|ao<|br<|tr ?_
 obtain rfl:=E.symm.trans (kX k)
 exact bm 4 (SV.i 4) (π:= [0,1,2,139,147]) (ae:= [some (.cells 55 3 [.map 3, .sl 4 0 s.F.length,SV.i s.cnt]),none,none,some (.fam Z ⟨a9 s.L,[],none⟩),some (bY s.F)]) Tryd.results23 rfl rfl rfl rfl ⟨rfl,rfl,rfl,trivial⟩ ⟨Z,rfl,rfl⟩
 try simp only[cs,ne_eq]at b
 have k:dq nm=true:=(by simpa using b)
 have D:=ox k
 have O:=Ag nm D.2
 refine r1<|sT 21 131 1 rfl<|sT 20 139 2 rfl<|e1 147 rfl<|ab [0,1,20] rfl ?_
 refine q1 rfl (fun v=>?_) (fun v=>?_)
 try simp only[cs,ne_eq]at v
 refine r1<|sT 4 147 1 rfl<|e1 155 rfl<|ab [4] rfl<|rename 1 rfl rfl<|rename 2 rfl rfl<|ao<|br<|tr ?_
 obtain rfl:=E.symm.trans (nI k G)
 exact bm 4 (SV.i 7) (π:= [0,1,2,155,163]) (ae:= [some (.cells 55 3 [.map 3, .sl 4 0 s.F.length,SV.i s.cnt]),none,none,some (.fam Z ⟨a9 s.L,[],none⟩),some (bY s.F)]) Tryd.results23 rfl rfl rfl rfl ⟨rfl,rfl,rfl,trivial⟩ ⟨Z,rfl,rfl⟩
 exact absurd v (by decide)
theorem yR{Z:List Nat}(nm:ByteArray)(O:nm.size<=9223372036854775807)(s:eI)(hF:s.F.length<=900000)(hr:s.cnt<=200)(hL:s.L.length<=6)(q:I7)(I:eT nm s=q)(E:bj nm s.L=none):Spec Tryd.prog GF 23 [.ptr 0 0 0, .d (.val (.string nm))] [.cells 55 3 [.map 1, .sl 2 0 s.F.length,SV.i s.cnt], .fam Z ⟨a9 s.L,[],none⟩,bY s.F] (fun r V=>∃ W,r=SV.i q.e/\V= [some (.cells 55 3 [.map 3, .sl 4 0 q.s.F.length,SV.i q.s.cnt]),none,none,some (.fam W ⟨a9 q.s.L,[],none⟩),some (bY q.s.F)]):=by
 refine start 48 3 Tryd.func23 rfl rfl rfl rfl ?_
 refine r1<|sT 4 3 1 rfl<|e1 11 rfl<|ab [0,1] rfl<|r1<|sT 8 11 1 rfl<|sT 9 19 2 rfl<|sT 10 27 3 rfl<|sO 11 35 4 rfl<|sT 12 43 5 rfl ?_
 refine Hy none (.d (.val (.pointer none))) (E▸KN nm s.L) (.inl ⟨rfl, .pointer none,(by kernel_rfl),rfl,rfl⟩) 13 51 6 rfl rfl rfl rfl rfl rfl Tryd.underlying53 rfl (fun M ρ u h=>h.val) rfl rfl ?_
 refine sT 7 59 7 rfl<|sT 14 67 8 rfl<|sT 15 75 9 rfl<|sT 5 83 10 rfl<|sT 6 91 11 rfl<|e1 99 rfl<|ab [0,1,6] rfl<|ai<|au<|r1<|sT 17 99 1 rfl ?_
 refine c1 (wJ nm O) [] [] 18 107 2 rfl rfl rfl rfl rfl rfl rfl rfl Tryd.func36 rfl rfl rfl rfl trivial rfl rfl ?_
 refine sT 19 115 3 rfl<|sT 16 123 4 rfl<|e1 131 rfl<|ab [0,1,6,16] rfl ?_
 refine q1 rfl (fun B=>?_) (fun B=>?_)
 try simp only[cs,ne_eq]at B
 have v:dq nm=false:=(by simpa using B)
 refine r1<|sT 4 131 1 rfl<|e1 139 rfl<|ab [4] rfl<|rename 1 rfl rfl<|rename 2 rfl rfl<|ao<|br<|tr ?_
 obtain rfl:=I.symm.trans (kX v)
 exact bm 4 (SV.i 4) (π:= [0,1,2,139,147]) (ae:= [some (.cells 55 3 [.map 3, .sl 4 0 s.F.length,SV.i s.cnt]),none,none,some (.fam Z ⟨a9 s.L,[],none⟩),some (bY s.F)]) Tryd.results23 rfl rfl rfl rfl ⟨rfl,rfl,rfl,trivial⟩ ⟨Z,rfl,rfl⟩
 try simp only[cs,ne_eq]at B
 have v:dq nm=true:=(by simpa using B)
 have U:=ox v
 have G:=Ag nm U.2
 refine r1<|sT 21 131 1 rfl<|sT 20 139 2 rfl<|e1 147 rfl<|ab [0,1,20] rfl ?_
 refine q1 rfl (fun D=>?_) (fun D=>?_)
 exact absurd D (by decide)
 try simp only[cs,ne_eq]at D
 refine r1<|sT 23 147 1 rfl<|sT 24 155 2 rfl<|sT 25 163 3 rfl<|sO 26 171 4 rfl ?_
 refine I0 (L:=s.L.length) 27 179 5 rfl rfl rfl rfl rfl rfl Tryd.underlying53 rfl rfl rfl (Eo _) ?_
 refine sO 28 187 6 rfl<|sT 29 195 7 rfl ?_
 refine ask 29 rfl (fun b=>?_) (fun b=>?_)
 try simp only[cs,ne_eq]at b
 refine gF 6 false 29 30 8 rfl rfl<|gF 6 false 29 31 9 rfl rfl<|gF 6 false 29 32 10 rfl rfl<|gF 6 false 29 33 11 rfl rfl<|gF 6 false 29 34 12 rfl rfl<|sT 35 243 13 rfl<|sT 22 251 14 rfl<|e1 259 rfl<|ab [0,1,22] rfl ?_
 refine q1 rfl (fun k=>?_) (fun k=>?_)
 try simp only[cs,ne_eq]at k
 refine r1<|sT 4 259 1 rfl<|e1 267 rfl<|ab [4] rfl<|rename 1 rfl rfl<|rename 2 rfl rfl<|ao<|br<|tr ?_
 obtain rfl:=I.symm.trans (kY v E (by omega))
 exact bm 4 (SV.i 8) (π:= [0,1,2,267,275]) (ae:= [some (.cells 55 3 [.map 3, .sl 4 0 s.F.length,SV.i s.cnt]),none,none,some (.fam Z ⟨a9 s.L,[],none⟩),some (bY s.F)]) Tryd.results23 rfl rfl rfl rfl ⟨rfl,rfl,rfl,trivial⟩ ⟨Z,rfl,rfl⟩
 exact absurd k (by decide)
 try simp only[cs,ne_eq]at b
 refine gT 6 false 29 8 rfl rfl<|sT 30 203 8 rfl<|gT 6 false 29 9 rfl rfl<|sT 31 211 9 rfl<|gT 6 false 29 10 rfl rfl<|sT 32 219 10 rfl<|gT 6 false 29 11 rfl rfl<|sO 33 227 11 rfl<|gT 6 false 29 12 rfl rfl<|sO 34 235 12 rfl<|sT 35 243 13 rfl<|sT 22 251 14 rfl<|e1 259 rfl<|ab [0,1,22] rfl ?_
 refine q1 rfl (fun k=>?_) (fun k=>?_)
 try simp only[cs,ne_eq]at k
 refine r1<|sT 4 259 1 rfl<|e1 267 rfl<|ab [4] rfl<|rename 1 rfl rfl<|rename 2 rfl rfl<|ao<|br<|tr ?_
 obtain rfl:=I.symm.trans (kY v E (by omega))
 exact bm 4 (SV.i 8) (π:= [0,1,2,267,275]) (ae:= [some (.cells 55 3 [.map 3, .sl 4 0 s.F.length,SV.i s.cnt]),none,none,some (.fam Z ⟨a9 s.L,[],none⟩),some (bY s.F)]) Tryd.results23 rfl rfl rfl rfl ⟨rfl,rfl,rfl,trivial⟩ ⟨Z,rfl,rfl⟩
 try simp only[cs,ne_eq]at k
 refine ak<|bn<|tn<|r1<|sT 36 259 1 rfl<|sT 37 267 2 rfl<|sT 38 275 3 rfl<|sO 39 283 4 rfl<|sT 40 291 5 rfl<|sT 41 299 6 rfl<|sT 42 307 7 rfl ?_
 refine IP none (.ptr 307 0 0) (E▸KN nm s.L) (fun p X=>by cases X) 315 8 rfl rfl rfl rfl rfl Tryd.underlying53 rfl (fun M ρ u h=>h.val) rfl rfl ?_
 refine e1 323 rfl<|ab [0,1] rfl ?_
 refine fl 307 0 37 1 (qR []) rfl rfl rfl ?_
 refine fl 307 1 31 2 (b6 []) rfl rfl rfl ?_
 refine iu 1 (a9 s.L).length [307,323,331] (.ptr 0 0 0) (jh (Ln.mk nm [] [])) rfl (xg s.L _) rfl ⟨rfl,rfl,rfl,trivial⟩ rfl (fun J=>?_)
 refine bW 1 (.fam J ⟨a9 (s.L++ [(Ln.mk nm [] [])]),[],none⟩) rfl (congrArg (fun l=>aB.fam J ⟨l,[],none⟩) (ta s.L (Ln.mk nm [] []))) ?_
 refine r1<|sT 43 339 1 rfl<|sT 44 347 2 rfl<|sT 45 355 3 rfl ?_
 refine IX 46 363 4 rfl rfl rfl rfl rfl rfl Tryd.underlying26 Tryd.underlying9 rfl rfl rfl rfl rfl rfl rfl rfl rfl (by omega) (by show(1+nm.size)*1<=140737488355328;omega) (by simp only[maxLen];omega) ?_
 refine c1 (DJ s.F ([1]++fb nm) (by omega) G.1 G.2 s.cnt (by omega) (by rw[List.length_append,bN];rfl) (fun i c Y hc=>Gh i c Y hc)) [0,1,2,363] [0,1,2,363,371] 47 371 5 rfl rfl rfl rfl rfl rfl rfl rfl Tryd.func37 rfl rfl rfl rfl ⟨rfl,rfl,rfl,rfl,trivial⟩ rfl rfl ?_
 refine e1 379 rfl<|ab [] rfl<|r1<|sT 4 379 1 rfl<|e1 387 rfl<|ab [4] rfl<|rename 1 rfl rfl<|ao ?_
 obtain rfl:=I.symm.trans (rl v E (by omega) (by omega))
 exact bm 4 (SV.i 0) (π:= [0,1,2,387,371]) (ae:= [some (.cells 55 3 [.map 3, .sl 4 0 (eI.mk (s.L++ [(Ln.mk nm [] [])]) (s.F++bg ([1]++fb nm)) (s.cnt+1)).F.length,SV.i (eI.mk (s.L++ [(Ln.mk nm [] [])]) (s.F++bg ([1]++fb nm)) (s.cnt+1)).cnt]),none,none,some (.fam J ⟨a9 (eI.mk (s.L++ [(Ln.mk nm [] [])]) (s.F++bg ([1]++fb nm)) (s.cnt+1)).L,[],none⟩),some (bY (eI.mk (s.L++ [(Ln.mk nm [] [])]) (s.F++bg ([1]++fb nm)) (s.cnt+1)).F)]) Tryd.results23 rfl rfl rfl rfl ⟨rfl,rfl,rfl,trivial⟩ ⟨J,rfl,rfl⟩
theorem yS{Z:List Nat}(nm:ByteArray)(b:nm.size<=9223372036854775807)(s:eI)(k:s.F.length<=900000)(v:s.cnt<=200)(B:s.L.length<=6)(q:I7)(D:eT nm s=q):Spec Tryd.prog GF 23 [.ptr 0 0 0, .d (.val (.string nm))] [.cells 55 3 [.map 1, .sl 2 0 s.F.length,SV.i s.cnt], .fam Z ⟨a9 s.L,[],none⟩,bY s.F] (fun r G=>∃ I,r=SV.i q.e/\G= [some (.cells 55 3 [.map 3, .sl 4 0 q.s.F.length,SV.i q.s.cnt]),none,none,some (.fam I ⟨a9 q.s.L,[],none⟩),some (bY q.s.F)]):=by
 cases E:bj nm s.L with
 |none=>exact yR nm b s k v B q D E
 |some j=>exact yQ nm b s k v B q D E
end Go.Proofs.YtifcaekngfgdmaaDoor.Nice
