/- Part 7 of the proof of TopFile. -/
import Derived.Test.YtifcaekngfgdmaaDoorZM6
import Derived.WalkKit
import Derived.Lib.AppendStr
set_option linter.unusedVariables false
set_option linter.unusedSimpArgs false
set_option maxRecDepth 100000
set_option maxHeartbeats 4000000
namespace Go.Proofs.YtifcaekngfgdmaaDoor.Nice.Co
open Go
def b5(l:List Int)(i:Nat):Int:=l.getD (i/8) 0/2^(7-i%8)%2
def bL(l:List Int)(n:Nat):Nat->Int
 |0=>0
 |w+1=>2*bL l n w+b5 l (n+w)
structure Bytes (l:List Int):Prop where
 n:l.length<=140737488351232
 b:∀ k,0<=l.getD k 0/\l.getD k 0<=255
theorem iy(l:List Int)(i:Nat):b5 l i=0\/b5 l i=1:=by
 unfold b5;generalize l.getD (i/8) 0/2^(7-i%8)=u;omega
theorem jG(l:List Int)(n w:Nat):0<=bL l n w/\bL l n w<2^w:=by
 induction w with
 |zero=>simp[bL]
 |succ k ih=>
  have :=iy l (n+k)
  rw[bL,Int.pow_succ]
  omega
theorem zE{a b:Nat}(h:a<=b):(2:Int)^a<=2^b:=by
 have k:2^a<=2^b:=Nat.pow_le_pow_right (by decide) h
 have e:((2^a:Nat):Int)=(2:Int)^a:=by simp
 have v:((2^b:Nat):Int)=(2:Int)^b:=by simp
 omega
theorem FK(l:List Int)(n:Nat){j:Nat}(h:j<=58):kh (bL l n j):=by
 have :=jG l n j
 have b:=zE h
 unfold kh
 have :(2:Int)^58=288230376151711744:=by decide
 omega
theorem JL{k v:Int}{r:Nat}(h:k=7-r)(b:r<8):v.fdiv (2^(min k.toNat 8))=v/2^(7-r):=by
 subst h
 rw[show((7:Int)-r).toNat=7-r by omega,Nat.min_eq_left (by omega),Int.fdiv_eq_ediv_of_nonneg _ (Int.le_of_lt (Int.pow_pos (by decide)))]
theorem C7{x:Int}(b:0<=x)(e:x<=255)(r:Nat):0<=x/2^r/\x/2^r<=255:=by
 have k:(0:Int)<2^r:=Int.pow_pos (by decide)
 exact⟨Int.ediv_nonneg b (by omega),Int.le_trans (Int.ediv_le_self _ b) e⟩
theorem JM{x:Int}(b:0<=x)(e:x<=255):bits .and .i64 x 1=x%2:=kJ x (by omega) (by omega)
theorem FL{s b:Int}(e:0<=s)(k:s<288230376151711744)(v:b=0\/b=1):bits .or .i64 (s*2) b=2*s+b:=by
 obtain⟨s,rfl⟩:=Int.eq_ofNat_of_zero_le e
 obtain⟨y,rfl⟩:=Int.eq_ofNat_of_zero_le (show 0<=b by omega)
 rw[show(s:Int)*2=((s*2:Nat):Int) by omega,mf _ _ (by omega) (by omega),nat_join 1 _ _ (by omega) (by omega)]
 omega
def zF(l:List Int)(n w:Nat):Bool:=decide (n+w<=8*l.length)
def uw(l:List Int)(n w:Nat):Int:=if n+w<=8*l.length then bL l n w else 0
def mj(l:List Int)(n w:Nat):Nat:=if n+w<=8*l.length then n+w else n
theorem C8(l:List Int):Spec Tryd.prog GC 13 [cI l] [] (fun r b=>r= .ptr 0 0 0/\b= [some (.cells 85 2 [cI l,SV.i (0:Nat)])]):=by
 refine start 6 0 Tryd.func13 rfl rfl rfl rfl ?_
 refine r1<|sT 2 0 1 rfl<|e1 8 rfl<|ab [0] rfl<|r1<|sT 3 8 1 rfl<|sT 4 16 2 rfl<|sT 5 24 3 rfl<|sT 2 32 4 rfl<|e1 40 rfl<|ab [2] rfl<|ao ?_
 exact bm 2 (.ptr 0 0 0) (π:= [24]) (ae:= [some (.cells 85 2 [cI l,SV.i (0:Nat)])]) Tryd.results13 rfl rfl rfl rfl ⟨rfl,trivial⟩ ⟨rfl,rfl⟩
theorem nn(l:List Int)(hl:Bytes l)(n:Nat)(e:n<=8*l.length):Spec Tryd.prog GC 19 [.ptr 0 0 0] [.cells 85 2 [cI l,SV.i (n:Nat)]] (fun r b=>r=SV.i (8*l.length-n)/\b= [some (.cells 85 2 [cI l,SV.i (n:Nat)])]):=by
 obtain⟨hl1,hl2⟩:=hl
 refine start 14 1 Tryd.func19 rfl rfl rfl rfl ?_
 refine r1<|sT 2 1 1 rfl<|e1 9 rfl<|ab [0] rfl ?_
 refine kD rfl ?_
 refine dT 3 9 1 rfl<|dT 4 17 2 rfl<|dT 5 25 3 rfl<|dO 6 33 4 rfl<|dO 7 41 5 rfl<|xN 8 49 6 rfl<|dT 9 57 7 rfl<|dT 10 65 8 rfl<|dT 11 73 9 rfl<|dO 12 81 10 rfl<|xN 13 89 11 rfl<|dT 2 97 12 rfl<|iT 105 rfl (by kernel_rfl)<|ab [2] rfl<|ao ?_
 exact bm 2 (SV.i (8*l.length-n)) (π:= [0]) (ae:= [some (.cells 85 2 [cI l,SV.i (n:Nat)])]) Tryd.results19 rfl rfl rfl rfl ⟨rfl,trivial⟩ ⟨rfl,rfl⟩
theorem HC(l:List Int)(hl:Bytes l)(n:Nat)(I:n<=8*l.length)(w:Nat)(U:w<=59)(J:n+w<=8*l.length):Spec Tryd.prog GC 14 [.ptr 0 0 0,SV.i w] [.cells 85 2 [cI l,SV.i (n:Nat)]] (fun r O=>r=SV.bA [SV.i (bL l n w),SV.b true]/\O= [some (.cells 85 2 [cI l,SV.i (n+w:Nat)])]):=by
 have v:=hl
 obtain⟨hl1,hl2⟩:=hl
 refine start 46 1 Tryd.func14 rfl rfl rfl rfl ?_
 refine r1<|sT 4 1 1 rfl<|sT 5 9 2 rfl<|e1 17 rfl<|ab [0,1] rfl<|ai<|r1<|sT 7 17 1 rfl<|sT 8 25 2 rfl ?_
 refine c1 (nn l v n I) [0] [0] 9 33 3 rfl rfl rfl rfl rfl rfl rfl rfl Tryd.func19 rfl rfl rfl rfl ⟨rfl,trivial⟩ rfl rfl ?_
 refine sO 10 41 4 rfl<|e1 49 rfl<|ab [0,1,10] rfl ?_
 refine q1 rfl (fun e=>?_) (fun e=>?_)
 exfalso;simp at e;omega
 try simp only[cs,ne_eq]at e
 refine ak<|tn<|r1<|sT 6 49 1 rfl<|e1 57 rfl<|ab [0,1,6] rfl<|ai<|r1<|sT 11 57 1 rfl<|sT 12 65 2 rfl<|e1 73 rfl<|ab [0,6,11,12] rfl<|au ?_
 refine loop (α:=Nat) 1 (fun j=> [(0, .ptr 0 0 0),(6,SV.i (bL l n (j))),(11,SV.i w),(12,SV.i (j))]) (fun j=> [some (.cells 85 2 [cI l,SV.i (n+(j):Nat)])]) (fun j=>(j)<=w) (fun j=>w-(j)) (((0):Nat)) [0] (fun _=>rfl) (show(0)<=w from(Nat.zero_le _)) rfl ⟨rfl,rfl,rfl,rfl,trivial⟩ ⟨rfl,trivial⟩ (fun j B=>?_)
 show W _ _ _ ⟨dG [(0, .ptr 0 0 0),(6,SV.i (bL l n j)),(11,SV.i w),(12,SV.i j)],dC [some (.cells 85 2 [cI l,SV.i (n+j:Nat)])],1⟩
 have B:j<=w:=B
 refine r1<|sO 13 1 1 rfl<|e1 9 rfl<|ab [0,6,11,12,13] rfl<|ai ?_
 refine q1 rfl (fun k=>?_) (fun k=>?_)
 ·skip
  try simp only[cs,ne_eq]at k
  have E:=hl2 ((n+j)/8)
  have hd:=C7 E.1 E.2 (7-(n+j)%8)
  have G:=FK l n (show j<=58 by omega)
  refine ak<|tn<|ai<|au ?_
  refine kD rfl ?_
  refine dT 14 9 1 rfl ?_
  refine dV 15 17 2 rfl (by decide) ?_
  refine val 15 (SV.i (bL l n j*2)) rfl (congrArg (fun x=>SV.d (D.val (Value.int .i64 x))) (IS G)) ?_
  refine dT 16 25 3 rfl<|dT 17 33 4 rfl<|dT 18 41 5 rfl<|dO 19 49 6 rfl<|dT 20 57 7 rfl<|dT 21 65 8 rfl<|dT 22 73 9 rfl<|dO 23 81 10 rfl ?_
  refine dD 24 89 11 rfl rfl rfl rfl rfl rfl rfl rfl rfl (by omega) ?_
  refine dV 25 97 12 rfl (by constructor<;>omega) ?_
  refine dO 26 105 13 rfl ?_
  refine val 26 (.d (.val (.int .u8 (l.getD ((n+j)/8) 0)))) rfl (by first|rfl|(rw[show(((n+j:Nat):Int)/8).toNat=(n+j)/8 by omega])) ?_
  refine dT 27 113 14 rfl<|dT 28 121 15 rfl<|dT 29 129 16 rfl<|dO 30 137 17 rfl ?_
  refine dD 31 145 18 rfl rfl rfl rfl rfl rfl rfl rfl rfl (by omega) ?_
  refine xN 32 153 19 rfl<|dO 33 161 20 rfl ?_
  refine val 33 (.d (.val (.int .u8 ((l.getD ((n+j)/8) 0)/2^(7-(n+j)%8))))) rfl (congrArg (fun x=>SV.d (D.val (Value.int .u8 x))) (JL (by omega) (by omega))) ?_
  refine dT 34 169 21 rfl ?_
  refine val 34 (SV.i ((l.getD ((n+j)/8) 0)/2^(7-(n+j)%8))) rfl (congrArg (fun x=>SV.d (D.val (Value.int .i64 x))) (dP ⟨by omega,by omega⟩)) ?_
  refine dO 35 177 22 rfl ?_
  refine val 35 (SV.i (b5 l (n+j))) rfl (congrArg (fun x=>SV.d (D.val (Value.int .i64 x))) (JM hd.1 hd.2)) ?_
  refine dO 36 185 23 rfl ?_
  refine val 36 (SV.i (bL l n (j+1))) rfl (congrArg (fun x=>SV.d (D.val (Value.int .i64 x))) (FL (jG l n j).1 G.2 (iy l _))) ?_
  refine dT 6 193 24 rfl<|iT 201 rfl (by kernel_rfl)<|ab [0,6,11,12] rfl ?_
  refine r0 ?_
  refine sT 37 201 1 rfl<|sT 38 209 2 rfl<|sT 39 217 3 rfl<|sO 40 225 4 rfl<|de 41 233 5 rfl<|sT 42 241 6 rfl<|sT 43 249 7 rfl<|cJ 257 8 rfl rfl rfl rfl rfl<|e1 265 rfl<|bn<|tn ?_
  refine r0 ?_
  refine de 44 265 1 rfl<|sT 12 273 2 rfl<|e1 281 rfl<|tn ?_
  exact again ((j+1:Nat)) [0] (show(j+1)<=w from(by omega)) (show w-(j+1)<w-j from(by omega)) rfl ⟨rfl,rfl,rfl,rfl,trivial⟩ ⟨rfl,trivial⟩
 try simp only[cs,ne_eq]at k
 refine bI<|tx<|tx<|bx<|tn<|r1<|sT 45 9 1 rfl<|sT 4 17 2 rfl<|sT 5 25 3 rfl<|e1 33 rfl<|ab [4,5] rfl<|ao ?_
 obtain rfl:w=j:=(by omega)
 exact eF 4 5 (SV.i (bL l n w)) (SV.b true) (π:= [0]) (ae:= [some (.cells 85 2 [cI l,SV.i (n+w:Nat)])]) Tryd.results14 rfl rfl rfl rfl rfl rfl ⟨rfl,trivial⟩ ⟨rfl,rfl⟩
theorem Bh(l:List Int)(hl:Bytes l)(n:Nat)(v:n<=8*l.length)(w:Nat)(E:w<=59)(B: ¬ n+w<=8*l.length):Spec Tryd.prog GC 14 [.ptr 0 0 0,SV.i w] [.cells 85 2 [cI l,SV.i (n:Nat)]] (fun r D=>r=SV.bA [SV.i 0,SV.b false]/\D= [some (.cells 85 2 [cI l,SV.i (n:Nat)])]):=by
 have k:=hl
 obtain⟨hl1,hl2⟩:=hl
 refine start 46 1 Tryd.func14 rfl rfl rfl rfl ?_
 refine r1<|sT 4 1 1 rfl<|sT 5 9 2 rfl<|e1 17 rfl<|ab [0,1] rfl<|ai<|r1<|sT 7 17 1 rfl<|sT 8 25 2 rfl ?_
 refine c1 (nn l k n v) [0] [0] 9 33 3 rfl rfl rfl rfl rfl rfl rfl rfl Tryd.func19 rfl rfl rfl rfl ⟨rfl,trivial⟩ rfl rfl ?_
 refine sO 10 41 4 rfl<|e1 49 rfl<|ab [0,1,10] rfl ?_
 refine q1 rfl (fun e=>?_) (fun e=>?_)
 try simp only[cs,ne_eq]at e
 refine r1<|sT 4 49 1 rfl<|sT 5 57 2 rfl<|e1 65 rfl<|ab [4,5] rfl<|ao<|tr ?_
 exact eF 4 5 (SV.i 0) (SV.b false) (π:= [0]) (ae:= [some (.cells 85 2 [cI l,SV.i (n:Nat)])]) Tryd.results14 rfl rfl rfl rfl rfl rfl ⟨rfl,trivial⟩ ⟨rfl,rfl⟩
 exfalso;simp at e;omega
theorem ns(l:List Int)(hl:Bytes l)(n:Nat)(e:n<=8*l.length)(w:Nat)(k:w<=59):Spec Tryd.prog GC 14 [.ptr 0 0 0,SV.i w] [.cells 85 2 [cI l,SV.i (n:Nat)]] (fun r v=>r=SV.bA [SV.i (uw l n w),SV.b (zF l n w)]/\v= [some (.cells 85 2 [cI l,SV.i (mj l n w:Nat)])]):=by
 by_cases h:n+w<=8*l.length
 ·simp only[uw,zF,mj,if_pos h,decide_eq_true h];exact HC l hl n e w k h
 ·simp only[uw,zF,mj,if_neg h,decide_eq_false h];exact Bh l hl n e w k h
def cL(l:List Int):Nat->Nat->Nat->Bool×Nat×Nat
 |0,n,k=>(true,k,n)
 |f+1,n,k=>if 8*l.length<=n then(false,k,n)else if b5 l n=0 then(true,k,n+1)else cL l f (n+1) (k+1)
structure ZG where
 x:Int
 at':Nat
 e:Int
def bk(l:List Int)(n:Nat):ZG:=
 if(cL l 4 n 0).1=false then⟨0,(cL l 4 n 0).2.2,5⟩
 else if 8*l.length<(cL l 4 n 0).2.2+fB (cL l 4 n 0).2.1 then⟨0,(cL l 4 n 0).2.2,5⟩
 else if cls (bL l (cL l 4 n 0).2.2 (fB (cL l 4 n 0).2.1))=(cL l 4 n 0).2.1 then⟨lK (bL l (cL l 4 n 0).2.2 (fB (cL l 4 n 0).2.1)),(cL l 4 n 0).2.2+fB (cL l 4 n 0).2.1,0⟩
 else⟨0,(cL l 4 n 0).2.2+fB (cL l 4 n 0).2.1,4⟩
theorem sE{l:List Int}{n q m:Nat}(h:cL l 4 n 0=(false,q,m)):bk l n=⟨0,m,5⟩:=by unfold bk;rw[h];rfl
theorem mn{l:List Int}{n q m:Nat}(h:cL l 4 n 0=(true,q,m))(b:8*l.length<m+fB q):bk l n=⟨0,m,5⟩:=by unfold bk;rw[h];simp only[Bool.true_eq_false,if_false];rw[if_pos b]
theorem qJ{l:List Int}{n q m:Nat}(h:cL l 4 n 0=(true,q,m))(b: ¬ 8*l.length<m+fB q)(e:cls (bL l m (fB q))≠q):bk l n=⟨0,m+fB q,4⟩:=by unfold bk;rw[h];simp only[Bool.true_eq_false,if_false];rw[if_neg b,if_neg e]
theorem ux{l:List Int}{n q m:Nat}(h:cL l 4 n 0=(true,q,m))(b: ¬ 8*l.length<m+fB q)(e:cls (bL l m (fB q))=q):bk l n=⟨lK (bL l m (fB q)),m+fB q,0⟩:=by unfold bk;rw[h];simp only[Bool.true_eq_false,if_false];rw[if_neg b,if_pos e]
theorem C9(l:List Int)(k n:Nat)(h:k<4)(b:8*l.length<=n):cL l (4-k) n k=(false,k,n):=by
 rw[show 4-k=(3-k)+1 by omega,cL,if_pos b]
theorem Bi(l:List Int)(k n:Nat)(h:k<4)(b: ¬ 8*l.length<=n)(e:b5 l n=0):cL l (4-k) n k=(true,k,n+1):=by
 rw[show 4-k=(3-k)+1 by omega,cL,if_neg b,if_pos e]
theorem Da(l:List Int)(k n:Nat)(h:k<4)(b: ¬ 8*l.length<=n)(e:b5 l n≠0):cL l (4-k) n k=cL l (4-(k+1)) (n+1) (k+1):=by
 rw[show 4-k=(4-(k+1))+1 by omega,cL,if_neg b,if_neg e]
theorem JN(l:List Int)(n:Nat):bL l n 1=b5 l n:=by show 2*0+b5 l (n+0)=_;rw[Nat.add_zero];omega
def Jt:Nat->Nat->D:=fun i j=>JK 0 (i*3+j)
theorem G1{q:Nat}(h:q<=4):IC.getD (q*3) 0=Ci q:=by
 match q,h with
 |0,_|1,_|2,_|3,_|4,_=>rfl
theorem G2{q:Nat}(h:q<=4):IC.getD (q*3+1) 0=um q:=by
 match q,h with
 |0,_|1,_|2,_|3,_|4,_=>rfl
theorem zG{q:Nat}(h:q<=4):IC.getD (q*3+2) 0=fB q:=by
 match q,h with
 |0,_|1,_|2,_|3,_|4,_=>rfl
theorem uy(q:Nat):fB q<=59:=by
 unfold fB
 match q with
 |0|1|2|3|4=>decide
 |n+5=>simp
theorem zH{p q:Nat}(b:p<=4)(e:q<=4)(h:Ci p=Ci q):p=q:=by
 match p,b,q,e with
 |0,_,0,_|1,_,1,_|2,_,2,_|3,_,3,_|4,_,4,_=>rfl
 |0,_,1,_|0,_,2,_|0,_,3,_|0,_,4,_|1,_,0,_|1,_,2,_|1,_,3,_|1,_,4,_|2,_,0,_|2,_,1,_|2,_,3,_|2,_,4,_|3,_,0,_|3,_,1,_|3,_,2,_|3,_,4,_|4,_,0,_|4,_,1,_|4,_,2,_|4,_,3,_=>exact absurd h (by decide)
theorem zI(l:List Int)(n:Nat){w:Nat}(h:w<=59):0<=bL l n w/\bL l n w<576460752303423488:=by
 have :=jG l n w
 have b:=zE h
 have :(2:Int)^59=576460752303423488:=by decide
 omega
theorem FM{x:Int}(e:0<=x)(k:x<576460752303423488){a b:Int}(v:a=x/2)(B:b= -(x%2)):bits .xor .i64 a b=lK x:=by subst v;subst B;exact C0 x e k
theorem zJ(l:List Int):∀ f n k,n<=8*l.length->(cL l f n k).2.2<=8*l.length
 |0,n,k,h=>h
 |f+1,n,k,h=>by
  unfold cL
  split
  ·exact h
  ·split
   ·show n+1<=_;omega
   ·exact zJ l f (n+1) (k+1) (by omega)
theorem oq(l:List Int)(n:Nat)(h:n<=8*l.length):(bk l n).at'<=8*l.length:=by
 have :=zJ l 4 n 0 h
 unfold bk
 repeat' split
 all_goals (simp only[];omega)
theorem Db(l:List Int)(n:Nat):kh (bk l n).x:=by
 have b:=zI l (cL l 4 n 0).2.2 (uy (cL l 4 n 0).2.1)
 have :=FI _ b.1 b.2
 unfold bk kh
 repeat' split
 all_goals (simp only[];omega)
theorem qL(x:Int)(v:0<=x)(B:x<576460752303423488):Spec Tryd.prog GC 30 [SV.i x] [] (fun r E=>r=SV.bA [SV.i (lK x),SV.i 0]/\E= []):=by
 refine start 16 0 Tryd.func30 rfl rfl rfl rfl ?_
 refine r1<|sT 2 0 1 rfl<|sT 3 8 2 rfl<|e1 16 rfl<|ab [0] rfl<|ai<|r1<|sT 4 16 1 rfl<|sO 5 24 2 rfl<|sT 6 32 3 rfl ?_
 refine ask 6 rfl (fun b=>?_) (fun b=>?_)
 try simp only[cs,ne_eq]at b
 refine gF 2 false 6 7 4 rfl rfl<|gF 2 false 6 8 5 rfl rfl<|sT 9 56 6 rfl<|e1 64 rfl<|ab [0,9] rfl ?_
 refine q1 rfl (fun e=>?_) (fun e=>?_)
 exfalso;simp at e;omega
 exact absurd e (by decide)
 try simp only[cs,ne_eq]at b
 refine gT 2 false 6 4 rfl rfl<|sT 7 40 4 rfl<|gT 2 false 6 5 rfl rfl<|sO 8 48 5 rfl<|sT 9 56 6 rfl<|e1 64 rfl<|ab [0,9] rfl ?_
 refine q1 rfl (fun e=>?_) (fun e=>?_)
 exfalso;simp at e;omega
 try simp only[cs,ne_eq]at e
 refine ak<|tn<|r1<|sT 10 64 1 rfl ?_
 refine sV 11 72 2 rfl (by decide) ?_
 refine val 11 (SV.i (x/2)) rfl (congrArg (fun x=>SV.d (D.val (Value.int .i64 x))) (fu (k:=1) (q:=1) rfl (by decide))) ?_
 refine sT 12 80 3 rfl<|sO 13 88 4 rfl ?_
 refine val 13 (SV.i (x%2)) rfl (congrArg (fun x=>SV.d (D.val (Value.int .i64 x))) (kJ x (by omega) (by omega))) ?_
 refine sT 14 96 5 rfl ?_
 refine val 14 (SV.i (-(x%2))) rfl (congrArg (fun x=>SV.d (D.val (Value.int .i64 x))) (show IntKind.i64.wrap (0-x%2)=_ from by rw[Int.zero_sub];exact dP ⟨by omega,by omega⟩)) ?_
 refine sO 15 104 6 rfl ?_
 refine val 15 (SV.i (lK x)) rfl (congrArg (fun x=>SV.d (D.val (Value.int .i64 x))) (FM v B rfl rfl)) ?_
 refine sT 2 112 7 rfl<|sT 3 120 8 rfl<|e1 128 rfl<|ab [2,3] rfl<|ao ?_
 exact eF 2 3 (SV.i (lK x)) (SV.i 0) (π:= []) (ae:= []) Tryd.results30 rfl rfl rfl rfl rfl rfl trivial ⟨rfl,rfl⟩
theorem wy(l:List Int)(hl:Bytes l)(n:Nat)(hn:n<=8*l.length):Spec Tryd.prog GC 15 [.ptr 0 0 0] [.cells 85 2 [cI l,SV.i (n:Nat)]] (fun r ho=>r=SV.bA [SV.i (bk l n).x,SV.i (bk l n).e]/\ho= [some (.cells 85 2 [cI l,SV.i ((bk l n).at':Nat)])]):=by
 have ah:=hl
 obtain⟨hl1,hl2⟩:=hl
 refine start 43 1 Tryd.func15 rfl rfl rfl rfl ?_
 refine r1<|sT 2 1 1 rfl<|sT 3 9 2 rfl<|e1 17 rfl<|ab [0] rfl<|r1<|sT 4 17 1 rfl<|e1 25 rfl<|ab [0,4] rfl<|ai<|au ?_
 refine loop (α:=Nat) 1 (fun k=> [(0, .ptr 0 0 0),(4,SV.i (k))]) (fun k=> [some (.cells 85 2 [cI l,SV.i (n+(k):Nat)])]) (fun k=>(k)<=4/\n+(k)<=8*l.length/\cL l 4 n 0=cL l (4-(k)) (n+(k)) (k)) (fun k=>4-(k)) (((0):Nat)) [0] (fun _=>rfl) (show(0)<=4/\n+(0)<=8*l.length/\cL l 4 n 0=cL l (4-(0)) (n+(0)) (0)from⟨Nat.zero_le _,hn,rfl⟩) rfl ⟨rfl,rfl,trivial⟩ ⟨rfl,trivial⟩ (fun k hx=>?_)
 show W _ _ _ ⟨dG [(0, .ptr 0 0 0),(4,SV.i k)],dC [some (.cells 85 2 [cI l,SV.i (n+k:Nat)])],1⟩
 have hx:k<=4/\n+k<=8*l.length/\cL l 4 n 0=cL l (4-k) (n+k) k:=hx
 obtain⟨hk,a0,O⟩:=hx
 refine ai<|r1<|sT 9 1 1 rfl<|sO 10 9 2 rfl<|e1 17 rfl<|ab [0,4,10] rfl ?_
 refine q1 rfl (fun al=>?_) (fun al=>?_)
 ·skip
  try simp only[cs,ne_eq]at al
  refine ak<|tn<|au<|r1<|sT 12 17 1 rfl ?_
  refine c1 (ns l ah (n+k) a0 1 (by decide)) [0] [0] 13 25 2 rfl rfl rfl rfl rfl rfl rfl rfl Tryd.func14 rfl rfl rfl rfl ⟨rfl,trivial⟩ rfl rfl ?_
  refine sT 11 33 3 rfl<|sT 14 41 4 rfl<|sT 15 49 5 rfl<|sT 5 57 6 rfl<|sT 6 65 7 rfl<|e1 73 rfl<|ab [0,4,5,6] rfl<|ai<|r1<|sT 16 73 1 rfl<|sT 17 81 2 rfl<|e1 89 rfl<|ab [0,4,5,17] rfl ?_
  refine q1 rfl (fun I=>?_) (fun I=>?_)
  try simp only[cs,ne_eq]at I
  refine r1<|sT 2 89 1 rfl<|sT 3 97 2 rfl<|e1 105 rfl<|ab [2,3] rfl<|ao<|tr<|br<|tr<|br<|tr ?_
  have b:=sE (O.trans (C9 l k (n+k) (by omega) (by simp[zF]at I;omega)))
  have E:mj l (n+k) 1=n+k:=(by unfold mj;rw[if_neg (by simp[zF]at I;omega)])
  exact eF 2 3 (SV.i (bk l n).x) (SV.i (bk l n).e) (π:= [0]) (ae:= [some (.cells 85 2 [cI l,SV.i ((bk l n).at':Nat)])]) Tryd.results15 rfl rfl (by rw[b];rfl) (by rw[b];rfl) rfl rfl ⟨(by rw[b];first|rfl|(simp only[];rw[<-E];rfl)|(rw[E];rfl)),trivial⟩ ⟨rfl,rfl⟩
  try simp only[cs,ne_eq]at I
  have G:n+k+1<=8*l.length:=(by simp[zF]at I;exact I)
  have a1:mj l (n+k) 1=n+k+1:=if_pos G
  have J:uw l (n+k) 1=b5 l (n+k):=(by unfold uw;rw[if_pos G,JN])
  refine ak<|tn<|ai<|r1<|sT 18 89 1 rfl<|sO 19 97 2 rfl<|e1 105 rfl<|ab [0,4,19] rfl ?_
  refine q1 rfl (fun U=>?_) (fun U=>?_)
  ·skip
   try simp only[cs,ne_eq]at U
   have V:b5 l (n+k)=0:=(by rw[<-J];simpa using U)
   refine bI<|tx<|bo rfl<|tx<|bx<|tn ?_
   obtain⟨q,m,X,O,hm,av,Y⟩:∃ q m:Nat,q<=4/\cL l 4 n 0=(true,q,m)/\m<=8*l.length/\(k:Int)=q/\mj l (n+k) 1=m:=⟨k,n+k+1,by omega,O.trans (Bi l k (n+k) (by omega) (by omega) V),G,rfl,a1⟩
   refine cB 4 (SV.i q) rfl (by rw[av]) ?_
   refine bW 0 (.cells 85 2 [cI l,SV.i (m:Nat)]) rfl (by first|(rw[Y];done)|(rw[Y];rfl)) ?_
   have aa:=uy q
   refine r1<|sT 23 105 1 rfl<|sT 24 113 2 rfl ?_
   refine GY (.vp 3 5 Jt q 0) 25 121 3 rfl rfl rfl rfl rfl rfl (by constructor<;>omega) (fun M ρ z h=>h.zy (by rw[Int.toNat_natCast,Nat.zero_add];rfl) (by decide)) ?_
   refine sT 26 129 4 rfl<|sO 27 137 5 rfl ?_
   refine val 27 (SV.i (fB q)) rfl (congrArg (fun x=>SV.d (D.val (Value.int .i64 x))) (zG X)) ?_
   refine c1 (ns l ah m hm (fB q) aa) [0] [0] 28 145 6 rfl rfl rfl rfl rfl rfl rfl rfl Tryd.func14 rfl rfl rfl rfl ⟨rfl,trivial⟩ rfl rfl ?_
   refine sT 22 153 7 rfl<|sT 29 161 8 rfl<|sT 30 169 9 rfl<|sT 7 177 10 rfl<|sT 8 185 11 rfl<|e1 193 rfl<|ab [4,7,8] rfl<|ai<|r1<|sT 31 193 1 rfl<|sT 32 201 2 rfl<|e1 209 rfl<|ab [4,7,32] rfl ?_
   refine q1 rfl (fun B=>?_) (fun B=>?_)
   try simp only[cs,ne_eq]at B
   refine r1<|sT 2 209 1 rfl<|sT 3 217 2 rfl<|e1 225 rfl<|ab [2,3] rfl<|ao<|tr ?_
   have b:=mn O (by simp[zF]at B;omega)
   have E:mj l m (fB q)=m:=(by unfold mj;rw[if_neg (by simp[zF]at B;omega)])
   exact eF 2 3 (SV.i (bk l n).x) (SV.i (bk l n).e) (π:= [0]) (ae:= [some (.cells 85 2 [cI l,SV.i ((bk l n).at':Nat)])]) Tryd.results15 rfl rfl (by rw[b];rfl) (by rw[b];rfl) rfl rfl ⟨(by rw[b];first|rfl|(simp only[];rw[<-E];rfl)|(rw[E];rfl)),trivial⟩ ⟨rfl,rfl⟩
   try simp only[cs,ne_eq]at B
   have G:m+fB q<=8*l.length:=(by simp[zF]at B;exact B)
   have E:mj l m (fB q)=m+fB q:=if_pos G
   have J:uw l m (fB q)=(bL l m (fB q)):=if_pos G
   have hX:=zI l m aa
   refine ak<|tn<|ai ?_
   refine cB 7 (SV.i (bL l m (fB q))) rfl (by rw[J]) ?_
   refine bW 0 (.cells 85 2 [cI l,SV.i (m+fB q:Nat)]) rfl (by rw[E];rfl) ?_
   refine kD rfl ?_
   refine dT 33 209 1 rfl ?_
   refine Fg (uo (bL l m (fB q)) hX.1) [] [] 34 217 2 rfl rfl rfl rfl rfl rfl rfl rfl Tryd.func29 rfl rfl rfl rfl trivial rfl rfl ?_
   refine dT 35 225 3 rfl ?_
   refine Fi (.vp 3 5 Jt q 0) 36 233 4 rfl rfl rfl rfl rfl rfl (by constructor<;>omega) (fun M ρ z h=>h.zy (by rw[Int.toNat_natCast,Nat.zero_add];rfl) (by decide)) ?_
   refine dO 37 241 5 rfl ?_
   refine val 37 (qG q) rfl (by unfold qG;rw[<-G1 X,<-G2 X,<-zG X];rfl) ?_
   refine J9 (op:= .neq) 38 249 6 rfl rfl rfl rfl rfl rfl rfl rfl rfl (by kernel_rfl) (by kernel_rfl) rfl (.inr ⟨rfl,rfl⟩) ?_
   refine iT 257 rfl (by kernel_rfl)<|ab [7,38] rfl ?_
   refine q1 rfl (fun v=>?_) (fun v=>?_)
   try simp only[cs,ne_eq]at v
   refine r1<|sT 2 257 1 rfl<|sT 3 265 2 rfl<|e1 273 rfl<|ab [2,3] rfl<|ao<|tr ?_
   have b:=qJ O (by omega) (fun e=>by rw[e]at v;simp at v)
   exact eF 2 3 (SV.i (bk l n).x) (SV.i (bk l n).e) (π:= [0]) (ae:= [some (.cells 85 2 [cI l,SV.i ((bk l n).at':Nat)])]) Tryd.results15 rfl rfl (by rw[b];rfl) (by rw[b];rfl) rfl rfl ⟨(by rw[b];first|rfl|(simp only[];rw[<-E];rfl)|(rw[E];rfl)),trivial⟩ ⟨rfl,rfl⟩
   try simp only[cs,ne_eq]at v
   have ax:cls (bL l m (fB q))=q:=zH (by have :=C3 (bL l m (fB q));omega) X (by simp at v;exact v.1)
   refine ak<|tn<|r1<|sT 39 257 1 rfl ?_
   refine c1 (qL (bL l m (fB q)) hX.1 hX.2) [] [] 40 265 2 rfl rfl rfl rfl rfl rfl rfl rfl Tryd.func30 rfl rfl rfl rfl trivial rfl rfl ?_
   refine sT 41 273 3 rfl<|sT 42 281 4 rfl<|sT 2 289 5 rfl<|sT 3 297 6 rfl<|e1 305 rfl<|ab [2,3] rfl<|ao ?_
   have b:=ux O (by omega) ax
   exact eF 2 3 (SV.i (bk l n).x) (SV.i (bk l n).e) (π:= [0]) (ae:= [some (.cells 85 2 [cI l,SV.i ((bk l n).at':Nat)])]) Tryd.results15 rfl rfl (by rw[b];rfl) (by rw[b];rfl) rfl rfl ⟨(by rw[b];first|rfl|(simp only[];rw[<-E];rfl)|(rw[E];rfl)),trivial⟩ ⟨rfl,rfl⟩
  try simp only[cs,ne_eq]at U
  have V:b5 l (n+k)≠0:=(by rw[<-J];simpa using U)
  refine ak<|tn ?_
  refine bW 0 (.cells 85 2 [cI l,SV.i (n+(k+1):Nat)]) rfl (by rw[a1];rfl) ?_
  refine r0 ?_
  refine sT 20 105 1 rfl<|de 21 113 2 rfl<|sT 4 121 3 rfl<|e1 129 rfl<|bn<|tn ?_
  exact again ((k+1:Nat)) [0] (show(k+1)<=4/\n+(k+1)<=8*l.length/\cL l 4 n 0=cL l (4-(k+1)) (n+(k+1)) (k+1)from⟨by omega,by omega,O.trans (Da l k (n+k) (by omega) (by omega) V)⟩) (show 4-(k+1)<4-k from(by omega)) rfl ⟨rfl,rfl,trivial⟩ ⟨rfl,trivial⟩
 try simp only[cs,ne_eq]at al
 refine bI<|tx<|tx<|bx<|tn ?_
 obtain⟨q,m,X,O,hm,av,Y⟩:∃ q m:Nat,q<=4/\cL l 4 n 0=(true,q,m)/\m<=8*l.length/\(k:Int)=q/\n+k=m:=⟨4,n+k,by omega,by rw[O,show k=4 by omega];rfl,a0,by omega,rfl⟩
 refine cB 4 (SV.i q) rfl (by rw[av]) ?_
 refine bW 0 (.cells 85 2 [cI l,SV.i (m:Nat)]) rfl (by first|(rw[Y];done)|(rw[Y];rfl)) ?_
 have aa:=uy q
 refine r1<|sT 23 17 1 rfl<|sT 24 25 2 rfl ?_
 refine GY (.vp 3 5 Jt q 0) 25 33 3 rfl rfl rfl rfl rfl rfl (by constructor<;>omega) (fun M ρ z h=>h.zy (by rw[Int.toNat_natCast,Nat.zero_add];rfl) (by decide)) ?_
 refine sT 26 41 4 rfl<|sO 27 49 5 rfl ?_
 refine val 27 (SV.i (fB q)) rfl (congrArg (fun x=>SV.d (D.val (Value.int .i64 x))) (zG X)) ?_
 refine c1 (ns l ah m hm (fB q) aa) [0] [0] 28 57 6 rfl rfl rfl rfl rfl rfl rfl rfl Tryd.func14 rfl rfl rfl rfl ⟨rfl,trivial⟩ rfl rfl ?_
 refine sT 22 65 7 rfl<|sT 29 73 8 rfl<|sT 30 81 9 rfl<|sT 7 89 10 rfl<|sT 8 97 11 rfl<|e1 105 rfl<|ab [4,7,8] rfl<|ai<|r1<|sT 31 105 1 rfl<|sT 32 113 2 rfl<|e1 121 rfl<|ab [4,7,32] rfl ?_
 refine q1 rfl (fun B=>?_) (fun B=>?_)
 try simp only[cs,ne_eq]at B
 refine r1<|sT 2 121 1 rfl<|sT 3 129 2 rfl<|e1 137 rfl<|ab [2,3] rfl<|ao<|tr ?_
 have b:=mn O (by simp[zF]at B;omega)
 have E:mj l m (fB q)=m:=(by unfold mj;rw[if_neg (by simp[zF]at B;omega)])
 exact eF 2 3 (SV.i (bk l n).x) (SV.i (bk l n).e) (π:= [0]) (ae:= [some (.cells 85 2 [cI l,SV.i ((bk l n).at':Nat)])]) Tryd.results15 rfl rfl (by rw[b];rfl) (by rw[b];rfl) rfl rfl ⟨(by rw[b];first|rfl|(simp only[];rw[<-E];rfl)|(rw[E];rfl)),trivial⟩ ⟨rfl,rfl⟩
 try simp only[cs,ne_eq]at B
 have G:m+fB q<=8*l.length:=(by simp[zF]at B;exact B)
 have E:mj l m (fB q)=m+fB q:=if_pos G
 have J:uw l m (fB q)=(bL l m (fB q)):=if_pos G
 have hX:=zI l m aa
 refine ak<|tn<|ai ?_
 refine cB 7 (SV.i (bL l m (fB q))) rfl (by rw[J]) ?_
 refine bW 0 (.cells 85 2 [cI l,SV.i (m+fB q:Nat)]) rfl (by rw[E];rfl) ?_
 refine kD rfl ?_
 refine dT 33 121 1 rfl ?_
 refine Fg (uo (bL l m (fB q)) hX.1) [] [] 34 129 2 rfl rfl rfl rfl rfl rfl rfl rfl Tryd.func29 rfl rfl rfl rfl trivial rfl rfl ?_
 refine dT 35 137 3 rfl ?_
 refine Fi (.vp 3 5 Jt q 0) 36 145 4 rfl rfl rfl rfl rfl rfl (by constructor<;>omega) (fun M ρ z h=>h.zy (by rw[Int.toNat_natCast,Nat.zero_add];rfl) (by decide)) ?_
 refine dO 37 153 5 rfl ?_
 refine val 37 (qG q) rfl (by unfold qG;rw[<-G1 X,<-G2 X,<-zG X];rfl) ?_
 refine J9 (op:= .neq) 38 161 6 rfl rfl rfl rfl rfl rfl rfl rfl rfl (by kernel_rfl) (by kernel_rfl) rfl (.inr ⟨rfl,rfl⟩) ?_
 refine iT 169 rfl (by kernel_rfl)<|ab [7,38] rfl ?_
 refine q1 rfl (fun v=>?_) (fun v=>?_)
 try simp only[cs,ne_eq]at v
 refine r1<|sT 2 169 1 rfl<|sT 3 177 2 rfl<|e1 185 rfl<|ab [2,3] rfl<|ao<|tr ?_
 have b:=qJ O (by omega) (fun e=>by rw[e]at v;simp at v)
 exact eF 2 3 (SV.i (bk l n).x) (SV.i (bk l n).e) (π:= [0]) (ae:= [some (.cells 85 2 [cI l,SV.i ((bk l n).at':Nat)])]) Tryd.results15 rfl rfl (by rw[b];rfl) (by rw[b];rfl) rfl rfl ⟨(by rw[b];first|rfl|(simp only[];rw[<-E];rfl)|(rw[E];rfl)),trivial⟩ ⟨rfl,rfl⟩
 try simp only[cs,ne_eq]at v
 have ax:cls (bL l m (fB q))=q:=zH (by have :=C3 (bL l m (fB q));omega) X (by simp at v;exact v.1)
 refine ak<|tn<|r1<|sT 39 169 1 rfl ?_
 refine c1 (qL (bL l m (fB q)) hX.1 hX.2) [] [] 40 177 2 rfl rfl rfl rfl rfl rfl rfl rfl Tryd.func30 rfl rfl rfl rfl trivial rfl rfl ?_
 refine sT 41 185 3 rfl<|sT 42 193 4 rfl<|sT 2 201 5 rfl<|sT 3 209 6 rfl<|e1 217 rfl<|ab [2,3] rfl<|ao ?_
 have b:=ux O (by omega) ax
 exact eF 2 3 (SV.i (bk l n).x) (SV.i (bk l n).e) (π:= [0]) (ae:= [some (.cells 85 2 [cI l,SV.i ((bk l n).at':Nat)])]) Tryd.results15 rfl rfl (by rw[b];rfl) (by rw[b];rfl) rfl rfl ⟨(by rw[b];first|rfl|(simp only[];rw[<-E];rfl)|(rw[E];rfl)),trivial⟩ ⟨rfl,rfl⟩
end Go.Proofs.YtifcaekngfgdmaaDoor.Nice.Co
namespace Go.Proofs.YtifcaekngfgdmaaDoor.Nice
open Go Co
abbrev GF:=GC
end Go.Proofs.YtifcaekngfgdmaaDoor.Nice
namespace Go.Proofs.YtifcaekngfgdmaaDoor
open Go Go.RowKit
def jH(p:Int×Int)(x:Int):Int×Int:=((p.1+x)%65521,(p.2+(p.1+x))%65521)
def pC(p:Int×Int)(l:List Int):Int×Int:=l.foldl jH p
theorem Dc(p:Int×Int)(l:List Int)(x:Int):pC p (l++ [x])=jH (pC p l) x:=by simp[pC]
theorem kL(l:List Int)(k:Nat)(h:k<l.length):l.take (k+1)=l.take k++ [l.getD k 0]:=by
 rw[List.take_succ_eq_append_getElem h];simp[List.getD,List.getElem?_eq_getElem h]
theorem De(p:Int×Int)(l:List Int)(k:Nat)(h:k<l.length):pC p (l.take (k+1))=jH (pC p (l.take k)) (l.getD k 0):=by
 rw[kL l k h,Dc]
theorem Bj(p:Int×Int)(x:Int):0<=(jH p x).1/\(jH p x).1<65521/\0<=(jH p x).2/\(jH p x).2<65521:=by
 unfold jH;refine⟨?_,?_,?_,?_⟩<;>simp only[]<;>omega
theorem Df(p:Int×Int)(l:List Int)(e:0<=p.1)(k:p.1<65521)(v:0<=p.2)(B:p.2<65521):
  0<=(pC p l).1/\(pC p l).1<65521/\0<=(pC p l).2/\(pC p l).2<65521:=by
 induction l generalizing p with
 |nil=>exact⟨e,k,v,B⟩
 |cons x l ih=>
  have b:=Bj p x
  exact ih (jH p x) b.1 b.2.1 b.2.2.1 b.2.2.2
theorem HD(a b:Int)(k:0<=a)(B:a<65536)(v:0<=b)(D:b<65536):bits .or .i64 (b*65536) a=b*65536+a:=by
 obtain⟨x,rfl⟩:=Int.eq_ofNat_of_zero_le k
 obtain⟨y,rfl⟩:=Int.eq_ofNat_of_zero_le v
 have e:((y:Int)*65536)=((y*65536:Nat):Int):=by omega
 rw[e,mf _ _ (by omega) (by omega),nat_join 16 _ _ (by omega) (by omega)]
 omega
end Go.Proofs.YtifcaekngfgdmaaDoor
namespace Go.Proofs.YtifcaekngfgdmaaDoor.Nice
open Go Co
def bY(l:List Int):aB:= .rows 5 1 l.length (dm l)
theorem mo{l:List Int}(h:Bytes l)(k:Nat):Bytes (l.drop k):=by
 refine⟨by rw[List.length_drop];have :=h.n;omega,fun j=>?_⟩
 have :=h.b (k+j)
 simpa[List.getD,List.getElem?_drop]using this
theorem jI{l:List Int}(h:Bytes l)(k:Nat):Bytes (l.take k):=by
 refine⟨by rw[List.length_take];have :=h.n;omega,fun j=>?_⟩
 rw[List.getD_eq_getElem?_getD,List.getElem?_take]
 split
 ·rw[<-List.getD_eq_getElem?_getD];exact h.b j
 ·exact⟨by decide,by decide⟩
theorem wz(l:List Int)(k:Nat):(fun r c=>dm l (k+r) c)=dm (l.drop k):=by
 funext r c;unfold dm;simp[List.getD,List.getElem?_drop]
theorem wA(l:List Int){n i:Nat}(h:i<n)(c:Nat):dm l i c=dm (l.take n) i c:=by
 unfold dm;simp[List.getD,List.getElem?_take,h]
theorem uz{M:aD}{ρ:Names}{l:List Int}{a n m:Nat}{z:Value}(hm:m=n)(k:a+n<=l.length)(h:VR M ρ (.d (.vec 1 m (fun r c=>dm l (a+r) c))) z):VR M ρ (cI ((l.drop a).take n)) z:=by
 subst hm
 rw[wz]at h
 have e:((l.drop a).take m).length=m:=by rw[List.length_take,List.length_drop];omega
 unfold cI;rw[e]
 exact VR.fK h fun i c b _=>wA _ b c
theorem qM{M:aD}{ρ:Names}{l:List Int}{n m:Nat}{z:Value}(hm:m=n)(k:n<=l.length)(h:VR M ρ (.d (.vec 1 m (dm l))) z):VR M ρ (cI (l.take n)) z:=by
 subst hm
 have e:(l.take m).length=m:=by rw[List.length_take];omega
 unfold cI;rw[e]
 exact VR.fK h fun i c b _=>wA _ b c
theorem yk{M:aD}{ρ:Names}{l:List Int}{a m:Nat}{z:Value}(hm:m=l.length-a)(h:VR M ρ (.d (.vec 1 m (fun r c=>dm l (a+r) c))) z):VR M ρ (cI (l.drop a)) z:=by
 subst hm
 rw[wz]at h
 unfold cI;rw[List.length_drop];exact h
def dS(l:List Int):Int:=l.foldl (fun n x=>n*256+x) 0
theorem ot(l:List Int)(k:Nat)(h:k<l.length):dS (l.take (k+1))=dS (l.take k)*256+l.getD k 0:=by
 rw[kL l k h];unfold dS;rw[List.foldl_append];rfl
theorem uA{l:List Int}(h:∀ k,0<=l.getD k 0/\l.getD k 0<=255):∀ k,k<=l.length->0<=dS (l.take k)/\dS (l.take k)<256^k
 |0,_=>by rw[List.take_zero];exact⟨by decide,by decide⟩
 |k+1,hk=>by
  have b:=uA h k (by omega)
  have :=h k
  rw[ot l k (by omega),Int.pow_succ]
  omega
theorem JO{a:Int}(b:0<=a)(e:a<281474976710656):IntKind.i64.wrap (a*2^(min (8:Int).toNat 64))=a*256:=by
 rw[show(2:Int)^(min (8:Int).toNat 64)=256 from rfl]
 exact dP ⟨by omega,by omega⟩
theorem IU{a:Int}(b:0<=a)(e:a<65521):IntKind.i64.wrap (a*2^(min (16:Int).toNat 64))=a*65536:=by
 rw[show(2:Int)^(min (16:Int).toNat 64)=65536 from rfl]
 exact dP ⟨by omega,by omega⟩
theorem Ku{a x:Int}(b:0<=a)(k:a<281474976710656)(e:0<=x)(v:x<=255):bits .or .i64 (a*256) x=a*256+x:=by
 obtain⟨a,rfl⟩:=Int.eq_ofNat_of_zero_le b
 obtain⟨y,rfl⟩:=Int.eq_ofNat_of_zero_le e
 rw[show(a:Int)*256=((a*256:Nat):Int) by omega,mf _ _ (by omega) (by omega),nat_join 8 _ _ (by omega) (by omega)]
 omega
theorem HE{k:Nat}(h:k<=6):(256:Int)^k<=281474976710656:=by
 have b:256^k<=256^6:=Nat.pow_le_pow_right (by decide) h
 have e:((256^k:Nat):Int)=(256:Int)^k:=by simp
 have :(256:Nat)^6=281474976710656:=by decide
 omega
def HF(l:List Int):Int×Int:=pC (1,0) l
def rV(l:List Int):Int:=(HF l).2*65536+(HF l).1
theorem Dg(l:List Int):0<=(HF l).1/\(HF l).1<65521/\0<=(HF l).2/\(HF l).2<65521:=Df _ _ (by decide) (by decide) (by decide) (by decide)
theorem Dh(l:List Int):0<=rV l/\rV l<4294967296:=by have :=Dg l;unfold rV;omega
def Ju(p:Int×Int):SV:= .agg [SV.i p.1,SV.i p.2]
theorem wB(p:Int×Int)(l:List Int)(n:Nat)(b:0<=p.1/\p.1<65521)(e:0<=p.2/\p.2<65521):0<=(pC p (l.take n)).1/\(pC p (l.take n)).1<65521/\0<=(pC p (l.take n)).2/\(pC p (l.take n)).2<65521:=Df _ _ b.1 b.2 e.1 e.2
structure HG where
 e:Int
 body:List Int
def gK(l:List Int):Nat:=(dS (l.take 2)).toNat
def jJ(l:List Int):List Int:=(l.drop 6).take (gK l)
def Di(l:List Int):Int:=dS ((l.drop 2).take 4)
def dU(l:List Int):HG:=if l.length<6 then⟨5,[]⟩else if 4000<gK l then⟨1,[]⟩else if l.length<6+gK l then⟨5,[]⟩else if rV (jJ l)=Di l then⟨0,jJ l⟩else⟨10,[]⟩
theorem Dk{l:List Int}(h:(dU l).e=0): ¬ l.length<6/\ ¬ 4000<gK l/\ ¬ l.length<6+gK l/\rV (jJ l)=Di l/\(dU l).body=jJ l/\(jJ l).length=gK l:=by
 have hl: ¬ l.length<6+gK l->(jJ l).length=gK l:=fun h=>by unfold jJ;rw[List.length_take,List.length_drop];omega
 unfold dU at *
 by_cases k:l.length<6
 ·rw[if_pos k]at h;cases h
 ·rw[if_neg k]at h ⊢
  by_cases v:4000<gK l
  ·rw[if_pos v]at h;cases h
  ·rw[if_neg v]at h ⊢
   by_cases b:l.length<6+gK l
   ·rw[if_pos b]at h;cases h
   ·rw[if_neg b]at h ⊢
    by_cases B:rV (jJ l)=Di l
    ·rw[if_pos B];exact⟨k,v,b,B,rfl,hl b⟩
    ·rw[if_neg B]at h;cases h
theorem sF{l:List Int}(h:l.length<6):dU l=⟨5,[]⟩:=by unfold dU;rw[if_pos h]
theorem Dl{l:List Int}(h: ¬ l.length<6)(b:4000<gK l):dU l=⟨1,[]⟩:=by unfold dU;rw[if_neg h,if_pos b]
theorem qN{l:List Int}(h: ¬ l.length<6)(b: ¬ 4000<gK l)(e:l.length<6+gK l):dU l=⟨5,[]⟩:=by unfold dU;rw[if_neg h,if_neg b,if_pos e]
theorem FN{l:List Int}(h: ¬ l.length<6)(b: ¬ 4000<gK l)(e: ¬ l.length<6+gK l)(k: ¬ rV (jJ l)=Di l):dU l=⟨10,[]⟩:=by unfold dU;rw[if_neg h,if_neg b,if_neg e,if_neg k]
theorem zK{l:List Int}(h: ¬ l.length<6)(b: ¬ 4000<gK l)(e: ¬ l.length<6+gK l)(k:rV (jJ l)=Di l):dU l=⟨0,jJ l⟩:=by unfold dU;rw[if_neg h,if_neg b,if_neg e,if_pos k]
theorem FO{l:List Int}(h:Bytes l)(k:2<=l.length):dS (l.take 2)=(gK l:Int)/\gK l<65536:=by
 have :=uA h.b 2 k
 unfold gK
 have e:(256:Int)^2=65536:=by decide
 omega
structure wC where
 L:List (List Int)
 n:Int
 e:Int
def opn(l:List Int):Nat->Nat->List (List Int)->wC
 |0,n,L=>⟨L,n,0⟩
 |f+1,n,L=>if l.length<=n then⟨L,n,0⟩else if L.length=200 then⟨L,n,8⟩else if(dU (l.drop n)).e≠0 then⟨L,n,(dU (l.drop n)).e⟩else opn l f (n+(6+(dU (l.drop n)).body.length)) (L++ [(dU (l.drop n)).body])
def opened(l:List Int):wC:=opn l 201 0 []
theorem zL{l:List Int}{f n:Nat}{L:List (List Int)}(h:l.length<=n):opn l f n L=⟨L,n,0⟩:=by
 cases f with
 |zero=>rfl
 |succ f=>unfold opn;rw[if_pos h]
theorem Dm{l:List Int}{f n:Nat}{L:List (List Int)}(e:0<f)(h: ¬ l.length<=n)(b:L.length=200):opn l f n L=⟨L,n,8⟩:=by
 cases f with
 |zero=>omega
 |succ f=>unfold opn;rw[if_neg h,if_pos b]
theorem zM{l:List Int}{f n:Nat}{L:List (List Int)}(B:0<f)(h: ¬ l.length<=n)(b: ¬ L.length=200){r:HG}(k:dU (l.drop n)=r)(v:r.e≠0):opn l f n L=⟨L,n,r.e⟩:=by
 subst k
 cases f with
 |zero=>omega
 |succ f=>unfold opn;rw[if_neg h,if_neg b,if_pos v]
theorem Dn{l:List Int}{f n:Nat}{L:List (List Int)}(v:0<f)(h: ¬ l.length<=n)(b: ¬ L.length=200)(k:(dU (l.drop n)).e=0):opn l f n L=opn l (f-1) (n+(6+(dU (l.drop n)).body.length)) (L++ [(dU (l.drop n)).body]):=by
 cases f with
 |zero=>omega
 |succ f=>rw[opn,if_neg h,if_neg b,if_neg (by rw[k];simp)];rfl
def fM(L:List (List Int)):Nat->Nat->D:=fun i _=> .vec 1 (L.getD i []).length (dm (L.getD i []))
def ou(L:List (List Int)):SV:= .d (.vec 1 L.length (fM L))
theorem uB(L:List (List Int))(b:List Int)(i c:Nat)(e:i<L.length+1)(k:c<1):dZ (fM L) L.length (iF 1 [.vec 1 b.length (dm b)]) i c=fM (L++ [b]) i c:=by
 obtain rfl:c=0:=by omega
 unfold dZ fM iF
 by_cases h:i<L.length
 ·rw[if_pos h];simp[List.getD,List.getElem?_append_left h]
 ·obtain rfl:i=L.length:=by omega
  rw[if_neg (Nat.lt_irrefl _)];simp[List.getD]
theorem wD(l:List Int)(hl:Bytes l)(I:l.length<=6):Spec Tryd.prog GF 26 [cI l] [] (fun r E=>r=SV.i (dS l)/\E= []):=by
 have hl2:=hl.b
 have G:=hl.n
 refine start 19 0 Tryd.func26 rfl rfl rfl rfl ?_
 refine r1<|sT 2 0 1 rfl<|e1 8 rfl<|ab [0] rfl<|r1<|sT 3 8 1 rfl<|e1 16 rfl<|ab [0,3] rfl<|ai<|r1<|sT 6 16 1 rfl<|sO 7 24 2 rfl<|sT 8 32 3 rfl<|e1 40 rfl<|ab [3,6,7,8] rfl<|au ?_
 refine loop (α:=Nat) 0 (fun n=> [(3,SV.i (dS (l.take (n)))),(6,cI l),(7,SV.i l.length),(8,SV.i (n))]) (fun n=> []) (fun n=>(n)<=l.length) (fun n=>l.length-(n)) (((0):Nat)) [] (fun _=>rfl) (show(0)<=l.length from(Nat.zero_le _)) rfl ⟨rfl,rfl,rfl,rfl,trivial⟩ trivial (fun n v=>?_)
 show W _ _ _ ⟨dG [(3,SV.i (dS (l.take n))),(6,cI l),(7,SV.i l.length),(8,SV.i n)],dC [],0⟩
 have v:n<=l.length:=v
 have B:=uA hl2 n v
 have J:=HE (show n<=6 by omega)
 have k:=hl2 n
 refine r1<|sO 9 0 1 rfl<|e1 8 rfl<|ab [3,6,7,8,9] rfl<|ai ?_
 refine q1 rfl (fun e=>?_) (fun e=>?_)
 try simp only[cs,ne_eq]at e
 refine ak<|tn<|ai<|au<|r1<|sO 10 8 1 rfl<|sO 11 16 2 rfl ?_
 refine val 11 (.d (.val (.int .u8 (l.getD n 0)))) rfl (by simp only[Int.toNat_natCast]) ?_
 refine sT 5 24 3 rfl<|e1 32 rfl<|ab [3,5,6,7,8] rfl ?_
 refine r0 ?_
 refine sT 12 32 1 rfl ?_
 refine sV 13 40 2 rfl (by decide) ?_
 refine val 13 (SV.i (dS (l.take n)*256)) rfl (congrArg (fun x=>SV.d (D.val (Value.int .i64 x))) (JO B.1 (by omega))) ?_
 refine sT 14 48 3 rfl<|sT 15 56 4 rfl ?_
 refine val 15 (SV.i (l.getD n 0)) rfl (congrArg (fun x=>SV.d (D.val (Value.int .i64 x))) (dP ⟨by omega,by omega⟩)) ?_
 refine sO 16 64 5 rfl ?_
 refine val 16 (SV.i (dS (l.take (n+1)))) rfl (congrArg (fun x=>SV.d (D.val (Value.int .i64 x))) ((Ku B.1 (by omega) k.1 k.2).trans (ot l n (by omega)).symm)) ?_
 refine sT 3 72 6 rfl<|e1 80 rfl<|bn<|tn ?_
 refine r0 ?_
 refine de 17 80 1 rfl<|sT 8 88 2 rfl<|e1 96 rfl<|tn ?_
 exact again ((n+1:Nat)) [] (show(n+1)<=l.length from(by omega)) (show l.length-(n+1)<l.length-n from(by omega)) rfl ⟨rfl,rfl,rfl,rfl,trivial⟩ trivial
 try simp only[cs,ne_eq]at e
 refine bI<|tx<|tx<|bx<|tn<|r1<|sT 18 8 1 rfl<|sT 2 16 2 rfl<|e1 24 rfl<|ab [2] rfl<|ao ?_
 obtain rfl:n=l.length:=(by omega)
 exact bm 2 (SV.i (dS l)) (π:= []) (ae:= []) Tryd.results26 rfl (by rw[List.take_length];rfl) rfl rfl trivial ⟨rfl,rfl⟩
theorem Bl(l:List Int)(hl:Bytes l)(p:Int×Int)(B:0<=p.1/\p.1<65521)(E:0<=p.2/\p.2<65521):Spec Tryd.prog GF 46 [Ju p,cI l] [] (fun r G=>r=Ju (pC p l)/\G= []):=by
 have hl2:=hl.b
 have I:=hl.n
 refine start 29 0 Tryd.func46 rfl rfl rfl rfl ?_
 refine r1<|sT 2 0 1 rfl<|sT 4 8 2 rfl<|e1 16 rfl<|ab [1,2,4] rfl<|ai<|r1<|sT 7 16 1 rfl<|sO 8 24 2 rfl<|sT 9 32 3 rfl<|e1 40 rfl<|ab [2,4,7,8,9] rfl<|au ?_
 refine loop (α:=Nat) 2 (fun n=> [(2, .ptr 0 0 0),(4, .ptr 1 0 0),(7,cI l),(8,SV.i l.length),(9,SV.i (n))]) (fun n=> [some (.cells 110 2 [SV.i (pC p (l.take (n))).1,SV.i (pC p (l.take (n))).2]),some (.cells 110 2 [SV.i 0,SV.i 0])]) (fun n=>(n)<=l.length) (fun n=>l.length-(n)) (((0):Nat)) [0,8] (fun _=>rfl) (show(0)<=l.length from(Nat.zero_le _)) rfl ⟨rfl,rfl,rfl,rfl,rfl,trivial⟩ ⟨rfl,rfl,trivial⟩ (fun n v=>?_)
 show W _ _ _ ⟨dG [(2, .ptr 0 0 0),(4, .ptr 1 0 0),(7,cI l),(8,SV.i l.length),(9,SV.i n)],dC [some (.cells 110 2 [SV.i (pC p (l.take n)).1,SV.i (pC p (l.take n)).2]),some (.cells 110 2 [SV.i 0,SV.i 0])],2⟩
 have v:n<=l.length:=v
 have O:=wB p l n B E
 have J:=hl2 n
 have k:=De p l n
 refine r1<|sO 10 2 1 rfl<|e1 10 rfl<|ab [2,4,7,8,9,10] rfl<|ai ?_
 refine q1 rfl (fun e=>?_) (fun e=>?_)
 try simp only[cs,ne_eq]at e
 refine ak<|tn<|ai<|au<|r1<|sO 11 10 1 rfl<|sO 12 18 2 rfl ?_
 refine val 12 (.d (.val (.int .u8 (l.getD n 0)))) rfl (by simp only[Int.toNat_natCast]) ?_
 refine sT 6 26 3 rfl<|e1 34 rfl<|ab [2,4,6,7,8,9] rfl<|r1<|sT 13 34 1 rfl<|sO 14 42 2 rfl<|sT 15 50 3 rfl<|sT 16 58 4 rfl ?_
 refine val 16 (SV.i (l.getD n 0)) rfl (congrArg (fun x=>SV.d (D.val (Value.int .i64 x))) (dP ⟨by omega,by omega⟩)) ?_
 refine de 17 66 5 rfl ?_
 refine sD 18 74 6 rfl rfl rfl rfl rfl rfl rfl rfl rfl (by omega) ?_
 refine val 18 (SV.i (((pC p (l.take n)).1+(l.getD n 0))%65521)) rfl (congrArg (fun x=>SV.d (D.val (Value.int .i64 x))) rfl) ?_
 refine sT 19 82 7 rfl<|cJ 90 8 rfl rfl rfl rfl rfl<|e1 98 rfl<|ab [2,4,7,8,9] rfl ?_
 refine r0 ?_
 refine sT 20 98 1 rfl<|sO 21 106 2 rfl<|sT 22 114 3 rfl<|sO 23 122 4 rfl<|de 24 130 5 rfl ?_
 refine sD 25 138 6 rfl rfl rfl rfl rfl rfl rfl rfl rfl (by omega) ?_
 refine val 25 (SV.i (((pC p (l.take n)).2+((pC p (l.take n)).1+(l.getD n 0)))%65521)) rfl (congrArg (fun x=>SV.d (D.val (Value.int .i64 x))) (by omega)) ?_
 refine sT 26 146 7 rfl<|cJ 154 8 rfl rfl rfl rfl rfl<|e1 162 rfl<|bn<|tn ?_
 refine bW 0 (.cells 110 2 [SV.i (pC p (l.take (n+1))).1,SV.i (pC p (l.take (n+1))).2]) rfl (by rw[k (by omega)];rfl) ?_
 refine r0 ?_
 refine de 27 162 1 rfl<|sT 9 170 2 rfl<|e1 178 rfl<|tn ?_
 exact again ((n+1:Nat)) [0,1] (show(n+1)<=l.length from(by omega)) (show l.length-(n+1)<l.length-n from(by omega)) rfl ⟨rfl,rfl,rfl,rfl,rfl,trivial⟩ ⟨rfl,rfl,trivial⟩
 try simp only[cs,ne_eq]at e
 refine bI<|tx<|tx<|bx<|tn<|r1<|sO 28 10 1 rfl<|cJ 18 2 rfl rfl rfl rfl rfl<|e1 26 rfl<|ab [4] rfl<|ao ?_
 obtain rfl:n=l.length:=(by omega)
 exact cG (Ju (pC p l)) (π:= []) (ae:= []) Tryd.results46 rfl (by trivial) (by rw[List.take_length];rfl) rfl rfl trivial ⟨rfl,rfl⟩
theorem Dp(p:Int×Int)(k:0<=p.1/\p.1<65521)(b:0<=p.2/\p.2<65521):Spec Tryd.prog GF 47 [Ju p] [] (fun r e=>r=SV.i (p.2*65536+p.1)/\e= []):=by
 refine start 9 0 Tryd.func47 rfl rfl rfl rfl ?_
 refine r1<|sT 1 0 1 rfl<|sT 2 8 2 rfl<|e1 16 rfl<|ab [1] rfl<|r1<|sT 3 16 1 rfl<|sO 4 24 2 rfl ?_
 refine sV 5 32 3 rfl (by decide) ?_
 refine val 5 (SV.i (p.2*65536)) rfl (congrArg (fun x=>SV.d (D.val (Value.int .i64 x))) (IU b.1 b.2)) ?_
 refine sT 6 40 4 rfl<|sO 7 48 5 rfl<|sO 8 56 6 rfl ?_
 refine val 8 (SV.i (p.2*65536+p.1)) rfl (congrArg (fun x=>SV.d (D.val (Value.int .i64 x))) (HD _ _ (by omega) (by omega) (by omega) (by omega))) ?_
 refine sT 2 64 7 rfl<|e1 72 rfl<|ab [2] rfl<|ao ?_
 exact bm 2 (SV.i (p.2*65536+p.1)) (π:= []) (ae:= []) Tryd.results47 rfl rfl rfl rfl trivial ⟨rfl,rfl⟩
theorem wE(l:List Int)(hl:Bytes l):Spec Tryd.prog GF 27 [cI l] [] (fun r e=>r=SV.i (rV l)/\e= []):=by
 have b:=Dg l
 refine start 7 0 Tryd.func27 rfl rfl rfl rfl ?_
 refine r1<|sT 2 0 1 rfl<|e1 8 rfl<|ab [0] rfl<|r1<|sT 3 8 1 rfl<|sT 4 16 2 rfl ?_
 refine c1 (Bl l hl (1,0) (by decide) (by decide)) [] [] 5 24 3 rfl rfl rfl rfl rfl rfl rfl rfl Tryd.func46 rfl rfl rfl rfl trivial rfl rfl ?_
 refine c1 (Dp (HF l) ⟨b.1,b.2.1⟩ ⟨b.2.2.1,b.2.2.2⟩) [] [] 6 32 4 rfl rfl rfl rfl rfl rfl rfl rfl Tryd.func47 rfl rfl rfl rfl trivial rfl rfl ?_
 refine sT 2 40 5 rfl<|e1 48 rfl<|ab [2] rfl<|ao ?_
 exact bm 2 (SV.i (rV l)) (π:= []) (ae:= []) Tryd.results27 rfl rfl rfl rfl trivial ⟨rfl,rfl⟩
theorem qO(l:List Int)(hl:l.length<=1048576):Spec Tryd.prog GF 28 [cI l] [] (fun r k=>r= .sl 0 0 l.length/\k= [some (bY l)]):=by
 refine start 8 0 Tryd.func28 rfl rfl rfl rfl ?_
 refine r1<|sT 2 0 1 rfl<|e1 8 rfl<|ab [0] rfl<|ai<|r1<|sT 3 8 1 rfl ?_
 refine GZ 4 16 2 rfl rfl rfl rfl rfl rfl rfl rfl (fun b v=>?_)
 refine e1 24 rfl<|ab [0,4] rfl ?_
 refine q1 rfl (fun e=>?_) (fun e=>?_)
 try simp only[cs,ne_eq]at e
 obtain rfl:l= []:=List.length_eq_zero_iff.1 (v e)
 refine r1<|sT 2 24 1 rfl<|e1 32 rfl<|ab [2] rfl ?_
 refine fV 2 5 1 (dm []) rfl ?_
 refine ao<|tr ?_
 exact bm 2 (.sl 0 0 0) (π:= [32]) (ae:= [some (bY [])]) Tryd.results28 rfl rfl rfl rfl ⟨rfl,trivial⟩ ⟨rfl,rfl⟩
 try simp only[cs,ne_eq]at e
 refine ak<|tn<|r1<|sT 5 24 1 rfl<|sT 6 32 2 rfl ?_
 refine sV 7 40 3 rfl ⟨trivial,(by show l.length*1<=140737488355328;omega),(by simp only[maxLen];omega)⟩ ?_
 refine sT 2 48 4 rfl<|e1 56 rfl<|ab [2] rfl<|ao ?_
 exact bm 2 (.sl 0 0 l.length) (π:= [40]) (ae:= [some (bY l)]) Tryd.results28 rfl rfl rfl rfl ⟨rfl,trivial⟩ ⟨rfl,rfl⟩
theorem Bm(l:List Int)(hl:Bytes l)(q:HG)(E:dU l=q):Spec Tryd.prog GF 12 [cI l] [] (fun r G=>r=SV.bA [cI q.body,SV.i q.e]/\G= []):=by
 have J:=hl.n
 refine start 35 0 Tryd.func12 rfl rfl rfl rfl ?_
 refine r1<|sT 2 0 1 rfl<|sT 3 8 2 rfl<|e1 16 rfl<|ab [0] rfl<|ai<|r1<|sT 5 16 1 rfl<|sO 6 24 2 rfl<|sO 7 32 3 rfl<|e1 40 rfl<|ab [0,7] rfl ?_
 refine q1 rfl (fun v=>?_) (fun v=>?_)
 try simp only[cs,ne_eq]at v
 refine r1<|sT 2 40 1 rfl<|sT 3 48 2 rfl<|e1 56 rfl<|ab [2,3] rfl ?_
 refine FD 2 1 (dm []) rfl ?_
 refine ao<|tr ?_
 have b:=E.symm.trans (sF (by omega))
 exact eF 2 3 (cI q.body) (SV.i q.e) (π:= []) (ae:= []) Tryd.results12 rfl rfl (by rw[b];rfl) (by rw[b];rfl) rfl rfl trivial ⟨rfl,rfl⟩
 try simp only[cs,ne_eq]at v
 have I:=FO hl (by omega)
 refine ak<|tn<|r1<|sT 8 40 1 rfl ?_
 refine GY (cI (l.take 2)) 9 48 2 rfl rfl rfl rfl rfl rfl ⟨by omega,by omega,by omega⟩ (fun M ρ z h=>qM (by rfl) (by omega) h) ?_
 refine c1 (wD (l.take 2) (jI hl 2) (by rw[List.length_take];omega)) [] [] 10 56 3 rfl rfl rfl rfl rfl rfl rfl rfl Tryd.func26 rfl rfl rfl rfl trivial rfl rfl ?_
 refine sT 4 64 4 rfl<|e1 72 rfl<|ab [0,4] rfl<|ai<|au ?_
 refine cB 4 (SV.i (gK l:Nat)) rfl (by rw[I.1]) ?_
 refine r1<|sT 12 72 1 rfl<|sO 13 80 2 rfl<|sT 11 88 3 rfl<|e1 96 rfl<|ab [0,4,11] rfl ?_
 refine q1 rfl (fun B=>?_) (fun B=>?_)
 try simp only[cs,ne_eq]at B
 refine r1<|sT 2 96 1 rfl<|sT 3 104 2 rfl<|e1 112 rfl<|ab [2,3] rfl ?_
 refine FD 2 1 (dm []) rfl ?_
 refine ao<|br<|tr ?_
 have b:=E.symm.trans (Dl (by omega) (by omega))
 exact eF 2 3 (cI q.body) (SV.i q.e) (π:= []) (ae:= []) Tryd.results12 rfl rfl (by rw[b];rfl) (by rw[b];rfl) rfl rfl trivial ⟨rfl,rfl⟩
 try simp only[cs,ne_eq]at B
 refine r1<|sT 15 96 1 rfl<|sO 16 104 2 rfl<|de 17 112 3 rfl<|sT 18 120 4 rfl<|sO 19 128 5 rfl<|sT 14 136 6 rfl<|e1 144 rfl<|ab [0,4,14] rfl ?_
 refine q1 rfl (fun D=>?_) (fun D=>?_)
 try simp only[cs,ne_eq]at D
 refine r1<|sT 2 144 1 rfl<|sT 3 152 2 rfl<|e1 160 rfl<|ab [2,3] rfl ?_
 refine FD 2 1 (dm []) rfl ?_
 refine ao<|br<|tr ?_
 have b:=E.symm.trans (qN (by omega) (by omega) (by omega))
 exact eF 2 3 (cI q.body) (SV.i q.e) (π:= []) (ae:= []) Tryd.results12 rfl rfl (by rw[b];rfl) (by rw[b];rfl) rfl rfl trivial ⟨rfl,rfl⟩
 try simp only[cs,ne_eq]at D
 refine kD rfl ?_
 refine dT 21 144 1 rfl<|dT 22 152 2 rfl<|xN 23 160 3 rfl ?_
 refine Fi (cI (jJ l)) 24 168 4 rfl rfl rfl rfl rfl rfl ⟨by omega,by omega,by omega⟩ (fun M ρ z h=>uz (by omega) (by omega) h) ?_
 refine Fg (wE (jJ l) (jI (mo hl 6) _)) [] [] 25 176 5 rfl rfl rfl rfl rfl rfl rfl rfl Tryd.func27 rfl rfl rfl rfl trivial rfl rfl ?_
 refine dT 26 184 6 rfl ?_
 refine Fi (cI ((l.drop 2).take 4)) 27 192 7 rfl rfl rfl rfl rfl rfl ⟨by omega,by omega,by omega⟩ (fun M ρ z h=>uz (by omega) (by omega) h) ?_
 refine Fg (wD ((l.drop 2).take 4) (jI (mo hl 2) _) (by rw[List.length_take];omega)) [] [] 28 200 8 rfl rfl rfl rfl rfl rfl rfl rfl Tryd.func26 rfl rfl rfl rfl trivial rfl rfl ?_
 refine dO 29 208 9 rfl<|dT 20 216 10 rfl<|iT 224 rfl (by kernel_rfl)<|ab [0,4,20] rfl ?_
 refine q1 rfl (fun k=>?_) (fun k=>?_)
 try simp only[cs,ne_eq]at k
 refine r1<|sT 2 224 1 rfl<|sT 3 232 2 rfl<|e1 240 rfl<|ab [2,3] rfl ?_
 refine FD 2 1 (dm []) rfl ?_
 refine ao<|br<|tr ?_
 have b:=E.symm.trans (FN (by omega) (by omega) (by omega) k)
 exact eF 2 3 (cI q.body) (SV.i q.e) (π:= []) (ae:= []) Tryd.results12 rfl rfl (by rw[b];rfl) (by rw[b];rfl) rfl rfl trivial ⟨rfl,rfl⟩
 try simp only[cs,ne_eq]at k
 refine ak<|bn<|tn<|r1<|sT 30 224 1 rfl<|sT 31 232 2 rfl<|de 32 240 3 rfl ?_
 refine GY (cI (jJ l)) 33 248 4 rfl rfl rfl rfl rfl rfl ⟨by omega,by omega,by omega⟩ (fun M ρ z h=>uz (by omega) (by omega) h) ?_
 refine c1 (qO (jJ l) (by unfold jJ;rw[List.length_take];omega)) [] [256] 34 256 5 rfl rfl rfl rfl rfl rfl rfl rfl Tryd.func28 rfl rfl rfl rfl trivial rfl rfl ?_
 refine sT 2 264 6 rfl<|sT 3 272 7 rfl<|e1 280 rfl<|ab [2,3] rfl ?_
 refine freeze 2 256 (jJ l).length rfl rfl (Nat.le_refl _) ?_
 refine ao ?_
 have b:=E.symm.trans (zK (by omega) (by omega) (by omega) k)
 exact eF 2 3 (cI q.body) (SV.i q.e) (π:= []) (ae:= []) Tryd.results12 rfl rfl (by rw[b];rfl) (by rw[b];rfl) rfl rfl trivial ⟨rfl,rfl⟩
def Dq(b:List Int):List Int:= [(b.length:Int)/256%256,(b.length:Int)%256,rV b/16777216%256,rV b/65536%256,rV b/256%256,rV b%256]
def bg(b:List Int):List Int:=Dq b++b
theorem fv(b:List Int):(bg b).length=6+b.length:=by unfold bg Dq;simp;omega
theorem sG(l:List Int)(hl:Bytes l)(q:wC)(I:opened l=q):Spec Tryd.prog GF 6 [cI l] [] (fun r U=>r=SV.bA [ou q.L,SV.i q.n,SV.i q.e]/\U= []):=by
 have V:=hl.n
 refine start 41 0 Tryd.func6 rfl rfl rfl rfl ?_
 refine r1<|sT 2 0 1 rfl<|sT 3 8 2 rfl<|sT 4 16 3 rfl<|e1 24 rfl<|ab [0] rfl<|r1<|sT 5 24 1 rfl<|e1 32 rfl<|ab [0,5] rfl<|r1<|sT 6 32 1 rfl<|e1 40 rfl<|ab [0,5,6] rfl<|ai<|au ?_
 refine fV 5 26 1 (fM []) rfl ?_
 refine loop (α:=Nat×List (List Int)) 1 (fun z=> [(0,cI l),(5, .sl 0 0 (z.2).length),(6,SV.i (z.1))]) (fun z=> [some (.rows 26 1 (z.2).length (fM (z.2)))]) (fun z=>(z.1)<=l.length/\(z.2).length<=200/\opened l=opn l (201-(z.2).length) (z.1) (z.2)) (fun z=>l.length-(z.1)) (((0,[]):Nat×List (List Int))) [40] (fun _=>rfl) (show(0)<=l.length/\([]).length<=200/\opened l=opn l (201-([]).length) (0) ([])from⟨Nat.zero_le _,Nat.zero_le _,rfl⟩) rfl ⟨rfl,rfl,rfl,trivial⟩ ⟨rfl,trivial⟩ (fun z J=>?_)
 obtain⟨n,L⟩:=z
 show W _ _ _ ⟨dG [(0,cI l),(5, .sl 0 0 L.length),(6,SV.i n)],dC [some (.rows 26 1 L.length (fM L))],1⟩
 have J:n<=l.length/\L.length<=200/\opened l=opn l (201-L.length) n L:=J
 obtain⟨hn,hL,k⟩:=J
 refine ai<|r1<|sT 9 1 1 rfl<|sT 10 9 2 rfl<|sO 11 17 3 rfl<|sO 12 25 4 rfl<|e1 33 rfl<|ab [0,5,6,12] rfl ?_
 refine q1 rfl (fun B=>?_) (fun B=>?_)
 try simp only[cs,ne_eq]at B
 refine ak<|tn<|au<|ai<|r1<|sT 13 33 1 rfl<|sO 14 41 2 rfl<|sO 15 49 3 rfl<|e1 57 rfl<|ab [0,5,6,15] rfl ?_
 refine q1 rfl (fun D=>?_) (fun D=>?_)
 try simp only[cs,ne_eq]at D
 refine r1<|sT 16 57 1 rfl<|sT 17 65 2 rfl<|sT 2 73 3 rfl<|sT 3 81 4 rfl<|sT 4 89 5 rfl<|e1 97 rfl<|ab [2,3,4] rfl ?_
 refine freeze 2 0 L.length rfl rfl (Nat.le_refl _) ?_
 refine ao<|tr<|br<|tr<|br<|tr ?_
 have v:=I.symm.trans (k.trans (Dm (by omega) (by omega) (by omega)))
 exact FA 2 3 4 (ou q.L) (SV.i q.n) (SV.i q.e) (π:= []) (ae:= []) Tryd.results6 rfl rfl rfl (by rw[v];rfl) (by rw[v];rfl) (by rw[v];rfl) rfl rfl trivial ⟨rfl,rfl⟩
 try simp only[cs,ne_eq]at D
 refine ak<|tn<|r1<|sT 19 57 1 rfl<|sT 20 65 2 rfl ?_
 refine GY (cI (l.drop n)) 21 73 3 rfl rfl rfl rfl rfl rfl ⟨by omega,by omega,by omega⟩ (fun M ρ z h=>yk (by omega) h) ?_
 refine c1 (Bm (l.drop n) (mo hl n) _ rfl) [] [] 22 81 4 rfl rfl rfl rfl rfl rfl rfl rfl Tryd.func12 rfl rfl rfl rfl trivial rfl rfl ?_
 refine sT 18 89 5 rfl<|sT 23 97 6 rfl<|sT 24 105 7 rfl<|sT 7 113 8 rfl<|sT 8 121 9 rfl<|e1 129 rfl<|ab [0,5,6,7,8] rfl<|ai<|r1<|sT 25 129 1 rfl<|sO 26 137 2 rfl<|e1 145 rfl<|ab [0,5,6,7,8,26] rfl ?_
 refine q1 rfl (fun b=>?_) (fun b=>?_)
 try simp only[cs,ne_eq]at b
 refine r1<|sT 27 145 1 rfl<|sT 28 153 2 rfl<|sT 29 161 3 rfl<|sT 2 169 4 rfl<|sT 3 177 5 rfl<|sT 4 185 6 rfl<|e1 193 rfl<|ab [2,3,4] rfl ?_
 refine freeze 2 0 L.length rfl rfl (Nat.le_refl _) ?_
 refine ao<|tr<|br<|tr<|br<|tr ?_
 have v:=I.symm.trans (k.trans (zM (by omega) (by omega) (by omega) rfl b))
 exact FA 2 3 4 (ou q.L) (SV.i q.n) (SV.i q.e) (π:= []) (ae:= []) Tryd.results6 rfl rfl rfl (by rw[v];rfl) (by rw[v];rfl) (by rw[v];rfl) rfl rfl trivial ⟨rfl,rfl⟩
 try simp only[cs,ne_eq]at b
 have G:=Dk b
 have O:(dU (l.drop n)).body.length<=4000:=(by rw[G.2.2.2.2.1,G.2.2.2.2.2];omega)
 refine ak<|tn<|r1<|sT 30 145 1 rfl<|sT 31 153 2 rfl<|sT 32 161 3 rfl ?_
 refine sV 33 169 4 rfl ⟨Nat.le_refl _,trivial,(by show(L.length+1)*24<=140737488355328;omega),(by simp only[maxLen];omega)⟩ ?_
 refine sT 5 177 5 rfl<|e1 185 rfl<|ab [0,5,6,7] rfl ?_
 refine bP 169 (L++ [(dU (l.drop n)).body]).length (fM (L++ [(dU (l.drop n)).body])) rfl (by simp) (fun i c X Y=>uB L _ i c X Y) ?_
 refine cB 5 (.sl 169 0 (L++ [(dU (l.drop n)).body]).length) rfl (by simp) ?_
 refine r0 ?_
 refine sT 34 185 1 rfl<|sT 35 193 2 rfl<|sO 36 201 3 rfl<|de 37 209 4 rfl<|de 38 217 5 rfl<|sT 6 225 6 rfl<|e1 233 rfl<|bn<|tn ?_
 have E:=Dk b
 rw[List.length_drop]at E
 exact again (((n+(6+(dU (l.drop n)).body.length),L++ [(dU (l.drop n)).body]):Nat×List (List Int))) [169] (show(n+(6+(dU (l.drop n)).body.length))<=l.length/\(L++ [(dU (l.drop n)).body]).length<=200/\opened l=opn l (201-(L++ [(dU (l.drop n)).body]).length) (n+(6+(dU (l.drop n)).body.length)) (L++ [(dU (l.drop n)).body])from⟨by rw[E.2.2.2.2.1,E.2.2.2.2.2];omega,by simp;omega,(by rw[k,Dn (by omega) (by omega) (by omega) b,List.length_append,List.length_singleton,show 201-L.length-1=201-(L.length+1) by omega])⟩) (show l.length-(n+(6+(dU (l.drop n)).body.length))<l.length-n from(by omega)) rfl ⟨rfl,rfl,rfl,trivial⟩ ⟨rfl,trivial⟩
 try simp only[cs,ne_eq]at B
 refine bI<|tx<|tx<|bx<|tn<|r1<|sT 39 33 1 rfl<|sT 40 41 2 rfl<|sT 2 49 3 rfl<|sT 3 57 4 rfl<|sT 4 65 5 rfl<|e1 73 rfl<|ab [2,3,4] rfl ?_
 refine freeze 2 0 L.length rfl rfl (Nat.le_refl _) ?_
 refine ao ?_
 have v:=I.symm.trans (k.trans (zL (by omega)))
 exact FA 2 3 4 (ou q.L) (SV.i q.n) (SV.i q.e) (π:= []) (ae:= []) Tryd.results6 rfl rfl rfl (by rw[v];rfl) (by rw[v];rfl) (by rw[v];rfl) rfl rfl trivial ⟨rfl,rfl⟩
end Go.Proofs.YtifcaekngfgdmaaDoor.Nice
namespace Go.Proofs.YtifcaekngfgdmaaDoor.Nice
open Go
theorem HR.sH{M F:aD}{ρ:Names}{h:ar}{w w':World}(H:HR M F ρ h w)(k:RowKit.Below w.heap.size w w'):HR M F ρ h w':=by
 have O:∀ b o,M b=some o->b<w.heap.size:=fun b o e=>(Array.getElem?_eq_some_iff.1 (H.fT b o e)).1
 have U:∀ b o,F b=some o->b<w.heap.size:=fun b o e=>(Array.getElem?_eq_some_iff.1 (H.iL b o e)).1
 refine⟨fun b o e=>by rw[k.block b (O b o e)];exact H.fT b o e,fun b o e=>by rw[k.block b (U b o e)];exact H.iL b o e,H.j9,fun n blk D=>?_,H.sep,?_⟩
 ·obtain⟨x,G,v⟩:=H.live n blk D
  refine⟨x,G,?_⟩
  rcases v with v|⟨J,V,W,o,E,X⟩
  ·exact .inl v
  ·exact .inr ⟨J,V,W,o,by rw[k.block _ (Array.getElem?_eq_some_iff.1 E).1];exact E,X⟩
 ·refine H.dh (fun _ _ _ h=>h) (Names.le_refl _) (aD.le_refl _) k.size (fun _ _ _ _ _ _ a b=>⟨a,b⟩) (fun n S es x c _ D G J I=>?_) (fun _ _ _ m y _ a b _=> .inl ⟨a,b⟩)
  rcases I with rfl|I
  ·obtain⟨x',B,v⟩:=H.live n _ D
   rw[G]at B;obtain rfl:=Option.some.inj B
   rcases v with⟨_,Y⟩|⟨_,_,_,o,E,_⟩
   ·simp[aB.ghost]at Y
   ·exact k.block _ (Array.getElem?_eq_some_iff.1 E).1
  ·obtain⟨_,_,_,g1,_⟩:=H.fam n S es D
   exact k.block _ (g1 c I).2.2
theorem HR.Dr{M F:aD}{ρ:Names}{h:ar}{w:World}(H:HR M F ρ h w){n:Nat}(v:h n≠none){y:Own}(B:ρ n=some y)(I:0<y.R):y.b<w.heap.size:=by
 cases e:h n with
 |none=>exact absurd e v
 |some blk=>
  obtain⟨x,k,D⟩:=H.live n blk e
  rw[B]at k;obtain rfl:=Option.some.inj k
  rcases D with⟨E,_⟩|⟨_,_,_,o,G,_⟩
  ·omega
  ·exact(Array.getElem?_eq_some_iff.1 G).1
theorem HR.IV{M F:aD}{ρ:Names}{h:ar}{w w':World}(H:HR M F ρ h w)(J:RowKit.Below w.heap.size w w'){nm:Nat}(E:∀ n,nm<=n->n<nm+8->ρ n=none)(x:Own)(O:0<x.R)(hx:w.heap.size<=x.b){blk:aB}{o:Obj}(U:w'.heap[x.b]? =some o)
  (V:∀ aq:Names,BR M aq x blk o) (G:∀ S es,blk≠ .fam S es):
  ∃ aq:Names,ρ.le aq/\(∀ n,n<nm\/nm+8<=n->aq n=ρ n)/\aq nm=some x/\HR M F aq (upd h nm (some blk)) w':=by
 have W:=E nm (Nat.le_refl _) (by omega)
 have H':=H.sH J
 have X:M x.b=none:=by
  cases e:M x.b with
  |none=>rfl
  |some o=>exact absurd (Array.getElem?_eq_some_iff.1 (H.fT _ _ e)).1 (by omega)
 have Y:F x.b=none:=by
  cases e:F x.b with
  |none=>rfl
  |some o=>exact absurd (Array.getElem?_eq_some_iff.1 (H.iL _ _ e)).1 (by omega)
 have hle:ρ.le (fun m=>if m=nm then some x else ρ m):=by
  intro m y k
  have :m≠nm:=by rintro rfl;rw[W]at k;cases k
  simp[this,k]
 have old:∀ m y,m≠nm->upd h nm (some blk) m≠none->(fun m=>if m=nm then some x else ρ m) m=some y->h m≠none/\ρ m=some y:=by
  intro m y e a b
  rw[bU _ _ _ _ e]at a
  simp only[e,if_false]at b
  exact⟨a,b⟩
 refine⟨_,hle,fun n h=>by
  have :n≠nm:=by omega
  simp[this],by simp,H'.fT,H'.iL,H'.j9,?_,?_,?_⟩
 ·intro m b hm
  rw[az]at hm
  split at hm
  ·next e=>subst e;cases hm;exact⟨x,by simp, .inr ⟨O,X,Y,o,U,V _⟩⟩
  ·next e=>
   obtain⟨y,k,I⟩:=H'.live m b hm
   refine⟨y,by simp[e,k],?_⟩
   rcases I with I|⟨a0,a1,a2,o',a3,a4⟩
   ·exact .inl I
   ·exact .inr ⟨a0,a1,a2,o',a3,a4.mono (aD.le_refl _) hle⟩
 ·intro n m y z a b c d e f g
  by_cases e1:n=nm
  ·by_cases v:m=nm
   ·rw[e1,v]
   ·exfalso
    obtain⟨B,D⟩:=old m z v b d
    have :=H.Dr B D f
    subst e1;simp at c;subst c
    omega
  ·by_cases v:m=nm
   ·exfalso
    obtain⟨B,D⟩:=old n y e1 a c
    have :=H.Dr B D e
    subst v;simp at d;subst d
    omega
   ·obtain⟨B,D⟩:=old n y e1 a c
    obtain⟨k3,k4⟩:=old m z v b d
    exact H.sep n m y z B k3 D k4 e f g
 ·refine H'.dh (fun m S es hm=>?_) hle (aD.le_refl _) (Nat.le_refl _) (fun _ _ _ _ _ _ a b=>⟨a,b⟩) (fun _ _ _ _ _ _ _ _ _ _=>rfl) (fun m S es p y hm hp k aa=>?_)
  ·rw[az]at hm
   split at hm
   ·cases hm;exact absurd rfl (G _ _)
   ·exact hm
  ·by_cases e:p=nm
   ·subst e;simp at k;subst k
    refine .inr fun hS=>?_
    obtain⟨_,_,_,g1,_⟩:=H.fam m S es hm
    have :=(g1 _ hS).2.2
    omega
   ·exact .inl (old p y e hp k)
theorem yl{P:Program}{G:Nat->SV}{f:FuncId}{args:List SV}{post:SV->List (Option aB)->Prop}(W:Spec P G f args [] post){w:World}{vs:Array Value}(I:vs.size=args.length)
  (X:∀ g ρ,VR (allM w) ρ (G g) (.pointer (some ⟨g,0,none⟩))) (v:∀ (i:Nat) (x:SV),args[i]? =some x->∃ u,vs[i]? =some u/\VR (allM w) (fun _=>none) x u):
  js P f vs w fun e w'=>∃ M' aq r B u,e= .returned u/\(allM w).le M'/\VR M' aq r u/\HR M' (fun _=>none) aq (dC B) w'/\dY 0 r B=true/\post r B/\bG w w'/\RowKit.Below w.heap.size w w':=by
 refine(W (allM w) (fun _=>none) (fun _=>none) vs w X ⟨fun b o h=>h,(fun b o h=>by cases h),(fun b o h=>by cases h),?_,?_,fun n S es D=>by simp[dC]at D⟩ I v (fun _ _=>rfl)).mono ?_
 ·intro n b D;simp[dC]at D
 ·intro n m x y D;simp[dC]at D
 ·rintro e w' ⟨M',aq,r,B,u,rfl,J,h2,Y,O,h5,E,h7⟩
  refine⟨M',aq,r,B,u,rfl,J,Y,O,h5,h7,E,E.os,E.tape,E.output,E.size,fun k U=>?_⟩
  have V:w.heap[k]? =some (w.heap[k]'U):=Array.getElem?_eq_getElem U
  rw[O.fT k _ (J k _ V),V]
theorem FQ{C:Ctx}{o:Oper}{nm:Nat}{v:Operand->SV}{x:Operand}{E:Array Operand}{a1:Array TypeId}(ho:o.op= .call {callee:= .value x,args:=E,argTypes:=a1}){f:FuncId}(hx:v x= .fn f [])
  {fn:Func} (hf:C.P.funcs[f]? =some fn) (Y:fE fn=true) {args:List SV} {ty k N:Nat} {g:Nat->Nat->D} (hF:Spec C.P C.G f args [] (fun r hs=>r= .sl 0 0 N/\hs= [some (.rows ty k N g)])) (O:∀ i c,c<k->∃ u,g i c= .val u) {bs:List (Nat×aB)}
  (hlen:args.length=E.size)
  (U:∀ M F ρ (a:Act) h w,(∀ x,x∈o.op.operands->VR M ρ (v x) (a.eval x))->HR M F ρ h w->(∀ p,p∈bs->h p.1=some p.2)->∀ (i:Nat) (y:SV),args[i]? =some y->∃ c,E[i]? =some c/\VR (allM w) (fun _=>none) y (a.eval c)):
  bV C o nm v bs (fun u wr=>u= .sl nm 0 N/\wr= [(nm,some (.rows ty k N g))]):=by
 intro M F ρ a h w hv hG hH a2 ah K Q hK
 have al:=hv x (by rw[ho];simp[Op.operands,Call.operands])
 rw[hx]at al
 obtain⟨vs,hq,a3,_⟩:=jy al
 have av:vs= #[]:=Array.eq_empty_of_size_eq_zero a3
 subst av
 have ax:(execOp a.eval o).run C.P w= .ok (.enter f (E.map a.eval)) w:=by
  simp only[fE,Bool.and_eq_true,Bool.not_eq_true']at Y
  obtain⟨n1,n2⟩:=Y
  have n1:fn.name≠ "runtime.NumGoroutine" :=by simpa using n1
  have n3:fn.body≠none:=by intro e;rw[e]at n2;cases n2
  simp[execOp,ho,resolve,hq,Deferred.ofValue,invoke,callFunc,hf,n1,n3]
 unfold Cr
 rw[ax]
 have V:M.le (allM w):=fun b o e=>hH.fT b o e
 refine(yl hF (vs:=E.map a.eval) (by simp[hlen]) (fun g aq=>(hG g aq).mono V (Names.le_refl _)) (fun i y hy=>?_)).mono ?_
 ·obtain⟨c,c1,c2⟩:=U M F ρ a h w hv hH a2 i y hy
  exact⟨a.eval c,by rw[Array.getElem?_map,c1];rfl,c2⟩
 ·rintro e w' ⟨M',aq,r,hs,u,rfl,h1,h3,h4,h5,⟨rfl,rfl⟩,I,J⟩
  have W:∀ {A B:aD} {i c:Nat} {z:Value},c<k->DR A (g i c) z->DR B (g i c) z:=by
   intro A B i c z hc hz
   obtain⟨y,hy⟩:=O i c hc
   rw[hy]at hz ⊢
   cases hz
   exact .val _ (by assumption)
  cases h3 with
  |jo _ _ q Kb hR aa=>
   obtain⟨X,k1,k2,k3,k4⟩:=(hH.sH J).ghost ah ty k g
   exact hK M X _ _ _ w' (aD.le_refl _) k1 k2 ⟨rfl,rfl⟩ (.jo nm 0 _ k3 rfl aa) k4 I
  |sl _ _ _ q Kb a4 hR h0=>
   obtain⟨q',a0,hr⟩:=h4.live 0 _ rfl
   rw[Kb]at a0;obtain rfl:=Option.some.inj a0
   rcases hr with⟨a8,_⟩|⟨_,a5,_,ob,o3,o4⟩
   ·omega
   have a6:w.heap.size<=q.b:=by
    apply Nat.le_of_not_lt;intro a7
    have :=h1 q.b _ (Array.getElem?_eq_getElem a7)
    rw[a5]at this;cases this
   cases ob with
   |cells cur T fz=>
    obtain⟨rfl,rfl,g1,g2,g3,g4⟩:=o4
    obtain⟨X,k1,k2,k3,k4⟩:=hH.IV J ah q h0 a6 (blk:= .rows T k N g) o3 (fun aq=>⟨rfl,rfl,g1,g2,g3,fun i c hi hc=>let⟨z,z1,z2⟩:=g4 i c hi hc;⟨z,z1,W hc z2⟩⟩) (fun S es h=>by cases h)
    exact hK M X _ _ _ w' (aD.le_refl _) k1 k2 ⟨rfl,rfl⟩ (.sl nm 0 _ q k3 a4 hR h0) k4 I
   |_=>exact o4.elim
def Kv(T:TypeId)(ds:List D):MP:=⟨fun M v=>∃ b o cur k,v= .pointer (some ⟨b,o,none⟩)/\M b=some (.cells cur T k)/\∀ (j:Nat) (d:D),ds[j]? =some d->∃ u,cur[o+j]? =some u/\DR M d u,
 fun M M' v h ⟨b,o,cur,k,e,B,E⟩=>⟨b,o,cur,k,e,h _ _ B,fun j d hd=>let⟨u,a,r⟩:=E j d hd;⟨u,a,r.mono h⟩⟩,fun M v ⟨b,o,cur,k,e,_⟩=>by rw[e];rfl⟩
def FT(T:TypeId)(c:Nat)(d:D):MP:=⟨fun M v=>∃ b o cur k u,v= .pointer (some ⟨b,o+c,none⟩)/\M b=some (.cells cur T k)/\cur[o+c]? =some u/\DR M d u,
 fun M M' v h ⟨b,o,cur,k,u,e,B,E,hd⟩=>⟨b,o,cur,k,u,e,h _ _ B,E,hd.mono h⟩,fun M v ⟨b,o,cur,k,u,e,_⟩=>by rw[e];rfl⟩
def G3(T:TypeId)(ds:List D):SV:= .d (.pr (Kv T ds))
theorem Ds{C:Ctx}{o:Oper}{nm:Nat}{v:Operand->SV}{y:Operand}(e:o.op= .nilCheck y){T:TypeId}{ds:List D}(k:v y=G3 T ds):bV C o nm v [] (fun x wr=>x=G3 T ds/\wr= []):=by
 refine aJ fun M F ρ a h w B O _=>?_
 have e1:=B y (by rw[e];exact cF)
 rw[k]at e1
 obtain⟨b,off,cur,E,G,I,J⟩:=uk e1
 exact⟨.pointer (some ⟨b,off,none⟩),by simp[execOp,e,G,Instr.sureAddr],CZ ⟨b,off,cur,E,rfl,I,J⟩⟩
theorem ym{C:Ctx}{o:Oper}{nm:Nat}{v:Operand->SV}{y:Operand}{t:TypeId}{f:Nat}(G:o.op= .fieldAddr t y f){T:TypeId}{ds:List D}{d:D}(J:v y=G3 T ds){I:Array Field}{e:Field}{i:TypeInfo}(B:C.P.underlying t=some (.struct I))(E:I[f]? =some e)(O:C.P.info? e.type=some i)(k:i.size≠0)(hd:ds[e.offset]? =some d):
  bV C o nm v [] (fun x wr=>x= .d (.pr (FT T e.offset d))/\wr= []):=by
 refine aJ fun M F ρ a h w U hH _=>?_
 have e1:=U y (by rw[G];exact cF)
 rw[J]at e1
 obtain⟨b,off,cur,V,W,X,Y⟩:=uk e1
 obtain⟨u,hu,hr⟩:=Y _ _ hd
 refine⟨.pointer (some ⟨b,off+e.offset,none⟩),?_,CZ ⟨b,off,cur,V,u,rfl,X,hu,hr⟩⟩
 have run:(Instr.fieldAt t (.pointer (some ⟨b,off,none⟩)) f).run C.P w= .ok (.pointer (some ⟨b,off+e.offset,none⟩)) w:=by
  simp[Instr.fieldAt,run_underlying B,E,Instr.sureAddr,fieldPlace,sizeOf,typeInfo,O,k,Addr.add_lit]
 simp[execOp,G,W,run]
theorem Bn{C:Ctx}{o:Oper}{nm:Nat}{v:Operand->SV}{y:Operand}{t:TypeId}(E:o.op= .load t y){T:TypeId}{c:Nat}{d:D}(G:v y= .d (.pr (FT T c d)))(k:eV C.P t=some false):
  bV C o nm v [] (fun x wr=>x= .d d/\wr= []):=by
 refine aJ fun M F ρ a h w I J _=>?_
 have e1:=I y (by rw[E];simp[Op.operands])
 rw[G]at e1
 obtain⟨b,off,cur,X,u,O,U,V,W⟩:=uk e1
 have e:w.cell? ⟨b,off+c,none⟩=some u:=by simp[World.cell?,J.fT b _ U,V]
 have B:(loadVar t ⟨b,off+c,none⟩).run C.P w= .ok u w:=by simp[loadVar,ew k,e]
 exact⟨u,by simp[execOp,E,O,Instr.loadAt,Instr.sureAddr,B], .d _ _ W⟩
section
variable {C:Ctx} {ops:List Oper} {i:Nat} {o:Oper} {l:List Oper} {t:Nat->SV} {h:ar} {nx:Nat} {K:St->Prop} {acc:Option (List FP)} {y:Operand}
theorem Dt{T:TypeId}{ds:List D}(d nm v:Nat)(B:i+1=v)(e:nx+8*i=nm)(E:o.guard=none)(b:o.dst=some d)(hd:Nat.blt d C.sz=true)(G:o.op= .nilCheck y)(I:bE C t y=G3 T ds)
  (k:an C ops v l ⟨upd t d (G3 T ds),h,nx⟩ (acc.map (· ++ [([],[])])) K):an C ops i (o::l) ⟨t,h,nx⟩ acc K:=by
 subst B;subst e
 refine cp (σ:=⟨t,h,nx⟩) E (by unfold aM;rw[b];exact hd) (Ds (nm:=nx+8*i) G I) (fun p J=>by cases J) rfl ?_
 unfold St.app;rw[b];exact k
theorem wF{T:TypeId}{ds:List D}{e:D}{ty:TypeId}{f:Nat}{I:Array Field}{B:Field}{inf:TypeInfo}(d nm J:Nat)(O:i+1=J)(U:nx+8*i=nm)(V:o.guard=none)(b:o.dst=some d)(hd:Nat.blt d C.sz=true)(W:o.op= .fieldAddr ty y f)(X:bE C t y=G3 T ds)
  (E:C.P.underlying ty=some (.struct I)) (G:I[f]? =some B) (O:C.P.info? B.type=some inf) (v:inf.size≠0) (Y:ds[B.offset]? =some e)
  (k:an C ops J l ⟨upd t d (.d (.pr (FT T B.offset e))),h,nx⟩ (acc.map (· ++ [([],[])])) K):an C ops i (o::l) ⟨t,h,nx⟩ acc K:=by
 subst_vars
 refine cp (σ:=⟨t,h,nx⟩) V (by unfold aM;rw[b];exact hd) (ym (nm:=nx+8*i) W X E G O v Y) (fun p hp=>by cases hp) rfl ?_
 unfold St.app;rw[b];exact k
theorem zN{T:TypeId}{c:Nat}{e:D}{ty:TypeId}(d nm E:Nat)(G:i+1=E)(B:nx+8*i=nm)(I:o.guard=none)(b:o.dst=some d)(hd:Nat.blt d C.sz=true)(J:o.op= .load ty y)(O:bE C t y= .d (.pr (FT T c e)))(v:eV C.P ty=some false)
  (k:an C ops E l ⟨upd t d (.d e),h,nx⟩ (acc.map (· ++ [([],[])])) K):an C ops i (o::l) ⟨t,h,nx⟩ acc K:=by
 subst G;subst B
 refine cp (σ:=⟨t,h,nx⟩) I (by unfold aM;rw[b];exact hd) (Bn (nm:=nx+8*i) J O v) (fun p U=>by cases U) rfl ?_
 unfold St.app;rw[b];exact k
end
open Go.Lib in
theorem yn{P:Program}{M F:aD}{ρ:Names}{h:ar}{w:World}(hH:HR M F ρ h w){nm:Nat}(V:∀ n,nm<=n->n<nm+8->ρ n=none){t u ty e:TypeId}{i:TypeInfo}{zv:Value}
  (ht:P.underlying t=some (.slice e)) (hu:P.underlying u=some .string) (hi:P.info? e=some i) (av:i.zero=some zv) (ax:zv.cells.size=i.size) (U:i.size=1) {n len:Nat} {x:Own} (hn:h n≠none) (hx:ρ n=some x) (h0:0<x.R) (hR:x.R<=maxLen) (E:x.k=i.size)
  {cur:Array Value} (v:w.heap[x.b]? =some (.cells cur e (0,0))) (a0:cur.size=x.R*x.k) (hlen:len<=x.R) {G I blk:aB} {J:List Value} (W:cur.toList.take (len*i.size)=J) (hd:CR M ρ i.size G len J) (s:ByteArray)
  (hs:CR M ρ i.size I s.size (strCells s)) (X:fI e i.size G len I s.size=some blk) (hb:(len+s.size)*i.bytes<=iR) (Y:len+s.size<=maxLen):
  ∃ aq v' w',ρ.le aq/\(∀ n,n<nm\/nm+8<=n->aq n=ρ n)/\(Builtin.append_ #[t,u] ty #[.slice (some ⟨x.b,0,none⟩) len x.R, .string s]).run P w= .ok v' w'/\VR M aq (.sl nm 0 (len+s.size)) v'/\
   HR M F aq (upd (upd h n none) nm (some blk)) w'/\bG w w':=by
 obtain⟨O,aa⟩:=n4 (by omega) hd hs X
 have B:=hd.length
 by_cases D:len+s.size<=x.R
 ·have ah:len+s.size<=cur.size:=by rw[a0,E,U];omega
  have hr:=run_append_room_string (P:=P) w t u ty e i ht hu hi U x.b len x.R cur v s D ah
  have hB:BR M ρ x blk (.cells (cur.toList.take len++strCells s++cur.toList.drop (len+s.size)).toArray e):=by
   rw[<-aa]
   refine CR.BR (x:=x) (l:=J++strCells s) (by rw[E];exact O) ?_ ?_ D
   ·rw[E,U,Nat.mul_one,List.toList_toArray,show cur.toList.take len=J by rw[<-W,U,Nat.mul_one]]
    rw[show len+s.size=(J++strCells s).length by rw[List.length_append,B,strCells_length,U,Nat.mul_one]]
    exact List.take_left
   ·rw[List.size_toArray,List.length_append,List.length_append,List.length_take,List.length_drop,Array.length_toList,strCells_length,E,U]at *
    omega
  obtain⟨aq,k1,k2,k3,k4⟩:=hH.move V x hn hx h0 blk _ (setRow_heap w x.b cur _ e _ v) (fun b hb=>setRow_other w x.b b _ hb) hB O.CB (by simp)
  refine⟨aq,_,_,k1,k2,hr,?_,k4,⟨rfl,rfl,rfl,by simp⟩⟩
  have :=VR.sl (M:=M) nm 0 (len+s.size) x k3 (by omega) hR h0
  simpa using this
 ·have al:((len+s.size:Nat):Int)<=9223372036854775807:=by simp only[maxLen]at Y;omega
  have a1:=grownCap_ge w (len+s.size) x.R e
  have hr:=run_append_grow_string (P:=P) w t u ty e i zv ht hu hi av ⟨x.b,0,none⟩ len x.R J B (fun j u hj=>by
    rw[Addr.add_lit,Nat.zero_add,cell_of_row w x.b _ cur e (0,0) v]
    rw[<-W,List.getElem?_take]at hj
    split at hj
    ·rw[<-Array.getElem?_toList];exact hj
    ·cases hj) s (by omega) al (growslice_fits (by omega) (by unfold iR at hb;exact hb))
  obtain⟨aq,k1,k2,k3,k4,k5⟩:=iq (hH.drop n) V (e:=e) ax (by omega) a1 (grownCap_le_maxLen w (len+s.size) x.R e Y) O aa (J.toArray++(strCells s).toArray) (by simp)
  exact⟨aq,_,_,k1,k2,hr,k3,k4,k5⟩
theorem IW{M:aD}{ρ:Names}(e:TypeId)(s:ByteArray):CR M ρ 1 (.rows e 1 s.size (ey s)) s.size (Go.Lib.strCells s):=by
 refine⟨rfl,rfl,by rw[Go.Lib.strCells_length,Nat.mul_one],fun i c k v=>?_⟩
 obtain rfl:c=0:=by omega
 have b:i<s.data.toList.length:=by rw[Array.length_toList];exact k
 refine⟨.int .u8 ((s.data.getD i 0).toNat:Int),?_, .val _ rfl⟩
 unfold Go.Lib.strCells
 rw[List.getElem?_map,Nat.mul_one,Nat.add_zero,Array.getElem?_toList,Array.getElem?_eq_getElem (by simpa using b)]
 simp only[Array.getD,Option.map_some]
 rw[dif_pos (show i<s.data.size from k)]
 rfl
def qP:aB->TypeId->Nat->Option aB
 | .rows ty k L f,e,len=>if Nat.beq ty e&&(Nat.beq k 1&&Nat.ble len L)then some (.rows e 1 len f)else none
 | .cells ty k xs,e,len=>if Nat.beq ty e&&(Nat.beq k 1&&Nat.beq (xs.take len).length len)then some (.cells e 1 (xs.take len))else none
 |_,_,_=>none
theorem Bo{C:Ctx}{o:Oper}{nm:Nat}{v:Operand->SV}{a b:Operand}{t u e:TypeId}(ho:o.op= .call {callee:= .builtin .append,args:= #[a,b],argTypes:= #[t,u]})(ht:C.P.underlying t=some (.slice e))(hu:C.P.underlying u=some .string){i:TypeInfo}{zv:Value}(hi:C.P.info? e=some i)(aa:i.zero=some zv)(ah:zv.cells.size=i.size)(W:i.size=1)
  {n len:Nat} {s:ByteArray} {B E blk:aB} (ha:v a= .sl n 0 len) (hb:v b= .d (.val (.string s))) (D:qP B e len=some E) (X:fI e 1 E len (.rows e 1 s.size (ey s)) s.size=some blk) (a1:0<len) (I:(len+s.size)*i.bytes<=iR) (al:len+s.size<=maxLen):
  bV C o nm v [(n,B)] (fun x w=>x= .sl nm 0 (len+s.size)/\w= [(n,none),(nm,some blk)]):=by
 refine dn fun M F ρ a' h w hv hH av ax=>?_
 have J:=hv a (by rw[ho];simp[Op.operands,Call.operands])
 have Y:=hv b (by rw[ho];simp[Op.operands,Call.operands])
 rw[ha]at J;rw[hb]at Y
 have hn:=av (n,B) (List.mem_cons_self ..)
 have hn:h n=some B:=hn
 generalize hq:a'.eval a=q at J
 cases J with
 |jo=>omega
 |sl _ _ _ x hx hl hR h0=>
  have O:∃ cur,w.heap[x.b]? =some (.cells cur e (0,0))/\x.k=1/\cur.size=x.R*x.k/\CR M ρ 1 E len (cur.toList.take (len*1)):=by
   cases B with
   |rows ty k L f=>
    simp only[qP]at D
    split at D
    ·next G=>
     cases D
     simp only[Bool.and_eq_true]at G
     have e1:=Nat.eq_of_beq_eq_true G.1;subst e1
     have e2:=Nat.eq_of_beq_eq_true G.2.1;subst e2
     have e3:=Nat.le_of_ble_eq_true G.2.2
     obtain⟨cur,k1,k2,U,V,k5,k6⟩:=hH.rows hn (by omega) hx
     refine⟨cur,k1,U,by rw[V,U],rfl,rfl,?_,fun j c hj G=>?_⟩
     ·rw[List.length_take,Array.length_toList,V];omega
     ·obtain⟨z,z1,z2⟩:=k6 j c (by omega) G
      exact⟨z,by rw[List.getElem?_take_of_lt (by omega),Array.getElem?_toList];exact z1,z2⟩
    ·cases D
   |cells ty k xs=>
    simp only[qP]at D
    split at D
    ·next G=>
     cases D
     simp only[Bool.and_eq_true]at G
     have e1:=Nat.eq_of_beq_eq_true G.1;subst e1
     have e2:=Nat.eq_of_beq_eq_true G.2.1;subst e2
     have e3:=Nat.eq_of_beq_eq_true G.2.2
     obtain⟨cur,k1,k2,U,V,k5,k6⟩:=hH.cells hn hx
     refine⟨cur,k1,U,by rw[V,U],rfl,by rw[Nat.mul_one];exact e3,?_,fun j y hy=>?_⟩
     ·rw[List.length_take]at e3
      rw[List.length_take,Array.length_toList];omega
     ·rw[List.getElem?_take]at hy ⊢
      split at hy
      ·next hj=>rw[if_pos (by omega),Array.getElem?_toList];exact k6 j y hy
      ·cases hy
    ·cases D
   |_=>simp[qP]at D
  obtain⟨cur,c1,c2,c3,c4⟩:=O
  obtain⟨aq,v',w',k1,k2,U,V,k5,k6⟩:=yn hH ax (ty:=o.type) ht hu hi aa ah W (by rw[hn];simp) hx h0 hR (by rw[c2,W]) c1 c3 (by omega) rfl (by rw[W];exact c4) s (by rw[W];exact IW e s) (by rw[W];exact X) I al
  refine⟨aq,v',w',k1,k2,?_,V,k5,k6⟩
  unfold execOp
  simp only[ho,resolve,invoke,builtin,Sem.run_bind,Sem.run_pure,Result.andThen_ok,List.map_toArray,List.map_cons,List.map_nil,hq,Y.val]
  have a0:(Builtin.append_ #[t,u] o.type #[.slice (some ⟨x.b,0*x.k,none⟩) len (x.R-0), .string s]).run C.P w= .ok v' w':=by simpa using U
  simp only[a0,Result.andThen_ok,Sem.run_pure]
section
variable {C:Ctx} {ops:List Oper} {i:Nat} {o:Oper} {l:List Oper} {tm:Nat->SV} {h:ar} {nx:Nat} {K:St->Prop} {acc:Option (List FP)}
theorem IX{a b:Operand}{t u e:TypeId}{inf:TypeInfo}{X:Value}{n len:Nat}{s:ByteArray}{B D blk:aB}(d nm Y:Nat)(hi:i+1=Y)(J:nx+8*i=nm)(hg:o.guard=none)(E:o.dst=some d)(hd:Nat.blt d C.sz=true)(ho:o.op= .call {callee:= .builtin .append,args:= #[a,b],argTypes:= #[t,u]})
  (ht:C.P.underlying t=some (.slice e)) (hu:C.P.underlying u=some .string) (G:C.P.info? e=some inf) (O:inf.zero=some X) (U:X.cells.size=inf.size) (h1:inf.size=1) (ha:bE C tm a= .sl n 0 len) (hb:bE C tm b= .d (.val (.string s))) (hn:h n=some B) (hB:qP B e len=some D)
  (I:fI e 1 D len (.rows e 1 s.size (ey s)) s.size=some blk) (V:0<len) (v:(len+s.size)*inf.bytes<=iR) (W:len+s.size<=maxLen)
  (k:an C ops Y l ⟨upd tm d (.sl nm 0 (len+s.size)),upd (upd h n none) nm (some blk),nx⟩ (acc.map (· ++ [([n],[n,nm])])) K):an C ops i (o::l) ⟨tm,h,nx⟩ acc K:=by
 subst hi;subst J
 refine cp (σ:=⟨tm,h,nx⟩) hg (by unfold aM;rw[E];exact hd) (Bo (nm:=nx+8*i) ho ht hu G O U h1 ha hb hB I V v W) (fun p hp=>by rw[List.mem_singleton.1 hp];exact hn) (by simp[cC]) ?_
 unfold St.app;rw[E];exact k
end
theorem ov{P:Program}{w:World}{t u ty e:TypeId}{q:IntKind}{i:TypeInfo}{z:Value}(v:P.underlying t=some (.slice e))(B:P.underlying u=some (.int q))(D:P.info? e=some i)(E:i.zero=some z)(X:0<i.size)(n:Nat)(G:0<n)(I:(n:Int)<=9223372036854775807)(Y:n*i.bytes<=140737488355328)(a:Option Addr):
  (Builtin.append_ #[t,u] ty #[.slice a 0 0, .int .i64 n]).run P w=
   .ok (.slice (some ⟨w.heap.size,0,none⟩) n (grownCap w n 0 e)) (w.drew.alloc (.cells (Builtin.zeroCells z.cells n++Builtin.zeroCells z.cells (grownCap w n 0 e-n)) e)):=by
 have J:IntKind.i64.wrap (n:Int)=n:=dP (by unfold aj;omega)
 have O:n≠0:=by omega
 have k: ¬ (n*i.size=0):=by rw[Nat.mul_eq_zero];omega
 have U: ¬ ((n:Int)<0):=by omega
 have V: ¬ (281474976710656<(n:Int)*(i.bytes:Int)):=by
  have :((n*i.bytes:Nat):Int)=(n:Int)*i.bytes:=by simp
  omega
 have W: ¬ (9223372036854775807<(n:Int)):=by omega
 have b: ¬ (281474976710656<Builtin.nextslicecap n 0*i.bytes):=by rw[nextslicecap_zero G];omega
 cases a<;>simp[Builtin.append_,run_underlying v,run_underlying B,sizeOf,typeInfo,zeroValue,D,E,Builtin.lenOf,asInt,asIntOf,J,U,V,W,O,k,b,Question.forced,Builtin.firstCells,loadCells,loadCellsFrom,newRow,grownCap]
theorem yo{C:Ctx}{o:Oper}{nm:Nat}{v:Operand->SV}{a b:Operand}{t u e:TypeId}{q:IntKind}(X:o.op= .call {callee:= .builtin .append,args:= #[a,b],argTypes:= #[t,u]})(ht:C.P.underlying t=some (.slice e))(hu:C.P.underlying u=some (.int q)){i:TypeInfo}{B:Value}(hi:C.P.info? e=some i)(Y:i.zero=some B)(E:B.cells.size=i.size)(hk:0<i.size)
  {n:Nat} {F0:Nat->Nat->D} (ha:v a= .d .bz) (hb:v b=SV.i n) (h0:0<n) (hF:∀ M j c,c<i.size->∃ z,B.cells[c]? =some z/\DR M (F0 j c) z) (k:n*i.bytes<=iR) (I:n<=maxLen):
  bV C o nm v [] (fun x w=>x= .sl nm 0 n/\w= [(nm,some (.rows e i.size n F0))]):=by
 refine dn fun M F ρ a' h w hv hH ax aa=>?_
 have J:=hv a (by rw[X];simp[Op.operands,Call.operands])
 have O:=hv b (by rw[X];simp[Op.operands,Call.operands])
 rw[ha]at J;rw[hb]at O
 obtain⟨U,hq⟩:∃ U,a'.eval a= .slice U 0 0:=by
  cases J with |d _ _ hd=>generalize a'.eval a=q at hd;cases hd with |bz U=>exact⟨U,rfl⟩
 have V:=ov (P:=C.P) (w:=w) (ty:=o.type) ht hu hi Y hk n h0 (by simp only[maxLen]at I;omega) (by unfold iR at k;exact k) U
 have G:(Builtin.zeroCells B.cells n).size=n*i.size:=by rw[size_zeroCells,E]
 have ah:CR M ρ i.size (.rows e i.size n F0) n (Builtin.zeroCells B.cells n).toList:=by
  refine⟨rfl,rfl,by rw[Array.length_toList,G],fun j c hj hc=>?_⟩
  obtain⟨z,z1,z2⟩:=hF M j c hc
  refine⟨z,?_,z2⟩
  have al:j*i.size+c<n*i.size:=by
   have :(j+1)*i.size<=n*i.size:=Nat.mul_le_mul_right _ hj
   rw[Nat.succ_mul]at this;omega
  have W:(j*i.size+c)%i.size=c:=by rw[Nat.mul_comm,Nat.mul_add_mod,Nat.mod_eq_of_lt hc]
  unfold Builtin.zeroCells
  rw[Array.getElem?_toList,Array.getElem?_map,E,Array.getElem?_range,if_pos al]
  simp only[Option.map_some]
  rw[W]
  refine congrArg some ?_
  have av:c<B.cells.size:=(Array.getElem?_eq_some_iff.1 z1).1
  rw[getElem!_pos B.cells c av]
  exact(Array.getElem?_eq_some_iff.1 z1).2
 obtain⟨aq,k1,k2,k3,k4,k5⟩:=iq hH aa (e:=e) E h0 (grownCap_ge w n 0 e) (grownCap_le_maxLen w n 0 e I) ah rfl (Builtin.zeroCells B.cells n) rfl
 refine⟨aq,_,_,k1,k2,?_,k3,k4,k5⟩
 unfold execOp
 simp only[X,resolve,invoke,builtin,Sem.run_bind,Sem.run_pure,Result.andThen_ok,List.map_toArray,List.map_cons,List.map_nil,hq,O.val,V]
theorem Bp{C:Ctx}{o:Oper}{nm:Nat}{v:Operand->SV}{y:Operand}{t el:TypeId}(e:o.op= .call {callee:= .builtin .cap,args:= #[y],argTypes:= #[t]})(k:C.P.underlying t=some (.slice el))(B:v y= .d .bz):
  bV C o nm v [] (fun x wr=>x=SV.i 0/\wr= []):=by
 refine aJ fun M F ρ a h w D I _=>⟨.int .i64 0,?_, .d _ _ (.val _ rfl)⟩
 have e1:=D y (by rw[e];simp[Op.operands,Call.operands])
 rw[B]at e1
 obtain⟨b,E⟩:∃ b,a.eval y= .slice b 0 0:=by
  cases e1 with |d _ _ hd=>generalize a.eval y=q at hd;cases hd with |bz b=>exact⟨b,rfl⟩
 have G:(Builtin.cap_ #[t] o.type #[a.eval y]).run C.P w= .ok (.int .i64 0) w:=by rw[E];simp[Builtin.cap_,run_underlying k,goInt]
 unfold execOp
 simp only[e,resolve,invoke,builtin,Sem.run_bind,Sem.run_pure,Result.andThen_ok,List.map_toArray,List.map_cons,List.map_nil,G]
section
variable {C:Ctx} {ops:List Oper} {i:Nat} {o:Oper} {l:List Oper} {tm:Nat->SV} {h:ar} {nx:Nat} {K:St->Prop} {acc:Option (List FP)}
theorem zO{y:Operand}{t el:TypeId}(d nm v:Nat)(B:i+1=v)(e:nx+8*i=nm)(D:o.guard=none)(b:o.dst=some d)(hd:Nat.blt d C.sz=true)(E:o.op= .call {callee:= .builtin .cap,args:= #[y],argTypes:= #[t]})(G:C.P.underlying t=some (.slice el))(I:bE C tm y= .d .bz)
  (k:an C ops v l ⟨upd tm d (SV.i 0),h,nx⟩ (acc.map (· ++ [([],[])])) K):an C ops i (o::l) ⟨tm,h,nx⟩ acc K:=by
 subst B;subst e
 refine cp (σ:=⟨tm,h,nx⟩) D (by unfold aM;rw[b];exact hd) (Bp (nm:=nx+8*i) E G I) (fun p J=>by cases J) rfl ?_
 unfold St.app;rw[b];exact k
theorem JP{a b:Operand}{t u e:TypeId}{q:IntKind}{inf:TypeInfo}{G:Value}{n:Nat}(F0:Nat->Nat->D)(d nm V:Nat)(W:i+1=V)(I:nx+8*i=nm)(X:o.guard=none)(B:o.dst=some d)(hd:Nat.blt d C.sz=true)(Y:o.op= .call {callee:= .builtin .append,args:= #[a,b],argTypes:= #[t,u]})
  (ht:C.P.underlying t=some (.slice e)) (hu:C.P.underlying u=some (.int q)) (E:C.P.info? e=some inf) (J:inf.zero=some G) (O:G.cells.size=inf.size) (hk:0<inf.size) (ha:bE C tm a= .d .bz) (hb:bE C tm b=SV.i n) (h0:0<n) (hF:∀ M j c,c<inf.size->∃ z,G.cells[c]? =some z/\DR M (F0 j c) z) (v:n*inf.bytes<=iR) (U:n<=maxLen)
  (k:an C ops V l ⟨upd tm d (.sl nm 0 n),upd h nm (some (.rows e inf.size n F0)),nx⟩ (acc.map (· ++ [([],[nm])])) K):an C ops i (o::l) ⟨tm,h,nx⟩ acc K:=by
 subst W;subst I
 refine cp (σ:=⟨tm,h,nx⟩) X (by unfold aM;rw[B];exact hd) (yo (nm:=nx+8*i) Y ht hu E J O hk ha hb h0 hF v U) (fun p hp=>by cases hp) (by simp[cC]) ?_
 unfold St.app;rw[B];exact k
end
theorem Du{C:Ctx}{c:Code}{Q:Exit->St->Prop}{t:Nat->SV}{h:ar}{nx:Nat}(n e:Nat)(g:Nat->Nat->D){ty k L:Nat}{f:Nat->Nat->D}(E:h n=some (.rows ty k L f))(hl:e<=L)(G:∀ i c,i<e->c<k->f i c=g i c)
  (I:W C c Q ⟨t,upd h n (some (.rows ty k e g)),nx⟩):W C c Q ⟨t,h,nx⟩:=by
 intro M F pin ρ a w b
 refine I M F pin ρ a w ⟨⟨b.tm,b.sz,b.df,?_,b.pn,b.pm,b.gl⟩,b.fr⟩
 refine b.hr.swap n E (fun x obj v=>?_) (fun h=>by cases L with |zero=>(obtain rfl:e=0:=by omega);rfl|succ L=>cases h)
 cases obj with
 |cells cur T fz=>
  obtain⟨J,O,U,V,h5,X⟩:=v
  exact⟨J,O,U,V,by omega,fun i c Y B=>by rw[<-G i c Y B];exact X i c (by omega) B⟩
 |_=>exact v.elim
theorem uC{M F:aD}{ρ:Names}{h:ar}{w:World}(H:HR M F ρ h w){m ty k L len:Nat}{f:Nat->Nat->D}(hm:h m=some (.rows ty k L f))(hl:len<=L){u:Value}(O:VR M ρ (.sl m 0 len) u):DR (allM w) (.vec k len f) u:=by
 cases O with
 |jo _ _ x hx hR aa=>exact .ie _ _ _ _
 |sl _ _ _ x hx IK hR h0=>
  obtain⟨x',B,U⟩:=H.live m _ hm
  rw[hx]at B;obtain rfl:=Option.some.inj B
  rcases U with⟨V,_⟩|⟨_,_,_,o,W,I⟩
  ·omega
  cases o with
  |cells cur T fz=>
   obtain⟨rfl,rfl,g1,g2,g3,J⟩:=I
   subst g1
   refine .vec x.k len f x.b (0*x.k) _ cur T (0,0) (fun i c=>(cur[i*x.k+c]?).getD undef) W (by omega) (fun i c X E=>?_) (fun i c X E=>?_)
   ·obtain⟨v,G,_⟩:=J i c (by omega) E
    rw[Nat.zero_mul,Nat.zero_add,G];rfl
   ·obtain⟨v,G,Y⟩:=J i c (by omega) E
    simp only[G,Option.getD_some]
    exact Y.mono (fun b o e=>H.fT b o e)
  |_=>exact I.elim
section
variable {C:Ctx} {ops:List Oper} {i:Nat} {o:Oper} {l:List Oper} {tm:Nat->SV} {h:ar} {nx:Nat} {K:St->Prop} {acc:Option (List FP)}
theorem G4{f:FuncId}{args:List SV}{ty k N:Nat}{g:Nat->Nat->D}(V:Spec C.P C.G f args [] (fun r W=>r= .sl 0 0 N/\W= [some (.rows ty k N g)]))(v:∀ i c,c<k->∃ u,g i c= .val u)(bs:List (Nat×aB)){x:Operand}{b:Array Operand}{E:Array TypeId}{fn:Func}(d nm U:Nat)(X:i+1=U)(I:nx+8*i=nm)(Y:o.guard=none)(e:o.dst=some d)(hd:Nat.blt d C.sz=true)
  (ho:o.op= .call {callee:= .value x,args:=b,argTypes:=E}) (hx:bE C tm x= .fn f []) (hf:C.P.funcs[f]? =some fn) (J:fE fn=true) (hlen:args.length=b.size) (O:fJ h bs)
  (B:∀ M F ρ (a:Act) h w,(∀ x,x∈o.op.operands->VR M ρ (bE C tm x) (a.eval x))->HR M F ρ h w->(∀ p,p∈bs->h p.1=some p.2)->∀ (i:Nat) (y:SV),args[i]? =some y->∃ c,b[i]? =some c/\VR (allM w) (fun _=>none) y (a.eval c))
  (kk:an C ops U l ⟨upd tm d (.sl nm 0 N),upd h nm (some (.rows ty k N g)),nx⟩ (acc.map (· ++ [(bs.map (·.1),[nm])])) K):an C ops i (o::l) ⟨tm,h,nx⟩ acc K:=by
 subst X;subst I
 refine cp (σ:=⟨tm,h,nx⟩) Y (by unfold aM;rw[e];exact hd) (FQ (nm:=nx+8*i) ho hx hf J V v hlen B) (eW O) (by simp[cC]) ?_
 unfold St.app;rw[e];exact kk
end
theorem Dv{M F:aD}{ρ aq:Names}{h:ar}{w:World}(H:HR M F ρ h w){n T k:Nat}{xs:List SV}{ds:List D}(E:h n=some (.cells T k xs)){v:Value}(G:VR M ρ (.ptr n 0 0) v)(hd:∀ (j:Nat) (d:D),ds[j]? =some d->∃ s,xs[j]? =some s/\∀ u,VR M ρ s u->DR (allM w) d u):VR (allM w) aq (G3 T ds) v:=by
 cases G with
 |ptr _ _ _ x hx=>
  obtain⟨x',e,I⟩:=H.live n _ E
  rw[hx]at e;obtain rfl:=Option.some.inj e
  rcases I with⟨_,J⟩|⟨h0,_,_,o,O,B⟩
  ·simp[aB.ghost]at J
  cases o with
  |cells cur T' fz=>
   obtain⟨rfl,rfl,g1,g2,g3,U⟩:=B
   refine CZ ⟨x.b,0,cur,(0,0),by simp,O,fun j d V=>?_⟩
   obtain⟨s,s1,W⟩:=hd j d V
   obtain⟨u,X,Y⟩:=U j s s1
   exact⟨u,by rw[Nat.zero_add];exact X,W u Y⟩
  |_=>exact B.elim
section
variable {C:Ctx} {ops:List Oper} {i:Nat} {o:Oper} {l:List Oper} {t:Nat->SV} {h:ar} {nx:Nat} {K:St->Prop} {acc:Option (List FP)}
end
end Go.Proofs.YtifcaekngfgdmaaDoor.Nice
namespace Go.Proofs.YtifcaekngfgdmaaDoor.Nice
open Go Go.Proofs Co
def cX(s:ByteArray)(i:Nat):Int:=((s.data.getD i 0).toNat:Int)
def fb(s:ByteArray):List Int:=(List.range s.size).map (cX s)
theorem bN(s:ByteArray):(fb s).length=s.size:=by simp[fb]
theorem uD(s:ByteArray)(i:Nat)(h:i<s.size):(fb s).getD i 0=cX s i:=by simp[fb,List.getD,h]
theorem Bq(s:ByteArray)(i:Nat):0<=cX s i/\cX s i<=255:=by
 unfold cX
 have :=(s.data.getD i 0).toNat_lt
 omega
theorem mq{A B:List Int}(i c:Nat)(b:i<A.length+B.length)(e:c<1):dZ (dm A) A.length (dm B) i c=dm (A++B) i c:=by
 unfold dZ dm
 by_cases h:i<A.length
 ·rw[if_pos h];simp[List.getD,List.getElem?_append_left h]
 ·rw[if_neg h];simp[List.getD,List.getElem?_append_right (by omega:A.length<=i)]
theorem Dw{A:List Int}{b b':Int}(e:b'=b)(i c:Nat)(k:i<A.length+1)(v:c<1):dZ (dm A) A.length (iF 1 [.val (.int .u8 b')]) i c=dm (A++ [b]) i c:=by
 subst e
 rw[<-mq i c k v]
 unfold dZ
 split
 ·rfl
 ·obtain rfl:c=0:=by omega
  have :i-A.length=0:=by omega
  rw[this];rfl
theorem Dx{A:List Int}{s:ByteArray}(i c:Nat)(b:i<A.length+s.size)(e:c<1):dZ (dm A) A.length (ey s) i c=dm (A++fb s) i c:=by
 rw[<-mq i c (by rw[bN];exact b) e]
 unfold dZ
 split
 ·rfl
 ·obtain rfl:c=0:=by omega
  unfold dm ey
  rw[uD s _ (by omega)];rfl
theorem gU(s:ByteArray)(h:s.size<=1000):Bytes (fb s):=by
 refine⟨by rw[bN];omega,fun k=>?_⟩
 by_cases b:k<s.size
 ·rw[uD s k b];exact Bq s k
 ·rw[List.getD_eq_getElem?_getD,List.getElem?_eq_none (by rw[bN];omega)];decide
theorem dJ{x y:List Int}(e:Bytes x)(v:Bytes y)(h:x.length+y.length<=140737488351232):Bytes (x++y):=by
 refine⟨by simpa using h,fun k=>?_⟩
 by_cases B:k<x.length
 ·have :=e.b k
  rwa[List.getD_eq_getElem?_getD,List.getElem?_append_left B,<-List.getD_eq_getElem?_getD]
 ·have :=v.b (k-x.length)
  rwa[List.getD_eq_getElem?_getD,List.getElem?_append_right (by omega),<-List.getD_eq_getElem?_getD]
theorem gg{l:List Int}(e:l.length<=140737488351232)(h:∀ x,x∈l->0<=x/\x<=255):Bytes l:=by
 refine⟨e,fun k=>?_⟩
 by_cases b:k<l.length
 ·rw[show l.getD k 0=l[k] by simp[List.getD,b]];exact h _ (List.getElem_mem b)
 ·rw[List.getD_eq_getElem?_getD,List.getElem?_eq_none (by omega)];decide
def eX(n:Nat)(v:Int)(k:Nat):List Int:=(List.range k).map fun j=>v/2^(8*(n-1-j))%256
def bR(n:Nat)(v:Int):List Int:=eX n v n
theorem dF(n:Nat)(v:Int)(k:Nat):(eX n v k).length=k:=by simp[eX]
theorem ez(n:Nat)(v:Int)(k:Nat):eX n v (k+1)=eX n v k++ [v/2^(8*(n-1-k))%256]:=by simp[eX,List.range_succ]
theorem mr(n:Nat)(v:Int)(h:n<=100):Bytes (bR n v):=by
 refine gg (by unfold bR;rw[dF];omega) fun x b=>?_
 obtain⟨j,_,rfl⟩:=List.mem_map.1 b
 generalize v/2^(8*(n-1-j))=q
 omega
theorem Br{a b:Int}(h:a%18446744073709551616=b%18446744073709551616):BitVec.ofInt 64 a=BitVec.ofInt 64 b:=by
 apply BitVec.eq_of_toNat_eq
 rw[BitVec.toNat_ofInt,BitVec.toNat_ofInt]
 show(a%18446744073709551616).toNat=(b%18446744073709551616).toNat
 rw[h]
theorem sI{a b:Int}(h:a%18446744073709551616=b%18446744073709551616):IntKind.i64.wrap a=IntKind.i64.wrap b:=by
 rw[IntKind.wrap_i64,IntKind.wrap_i64];omega
theorem sJ(n:Int):IntKind.i64.wrap n%18446744073709551616=n%18446744073709551616:=by
 rw[IntKind.wrap_i64];omega
theorem G5(A:Int){x:Int}(b:0<=x)(e:x<=255):bits .or .i64 (IntKind.i64.wrap (A*256)) x=IntKind.i64.wrap (A*256+x):=by
 show IntKind.i64.wrap ((BitVec.ofInt 64 (IntKind.i64.wrap (A*256))|||BitVec.ofInt 64 x).toNat:Int)=_
 rw[Br (sJ _),BitVec.toNat_or,BitVec.toNat_ofInt,BitVec.toNat_ofInt]
 obtain⟨y,rfl⟩:=Int.eq_ofNat_of_zero_le b
 show IntKind.i64.wrap (((A*256%18446744073709551616).toNat|||((y:Int)%18446744073709551616).toNat:Nat):Int)=_
 obtain⟨m,hm⟩:∃ m:Nat,(A*256%18446744073709551616).toNat=m*256:=⟨(A*256%18446744073709551616).toNat/256,by omega⟩
 rw[hm,show((y:Int)%18446744073709551616).toNat=y by omega,nat_join 8 _ _ (by omega) (by omega)]
 apply sI
 omega
theorem Dy(A:Int):IntKind.i64.wrap (IntKind.i64.wrap A*2^(min (8:Int).toNat 64))=IntKind.i64.wrap (A*256):=by
 apply sI
 show IntKind.i64.wrap A*256%_=_
 have :=sJ A
 omega
theorem sK(l:List Int)(x:Int):dS (l++ [x])=dS l*256+x:=by simp[dS]
theorem wG(n:Nat)(v:Int)(b:0<=v):∀ k,k<=n->dS (eX n v k)=v/2^(8*(n-k))-v/2^(8*n)*2^(8*k)
 |0,_=>by simp[eX,dS]
 |k+1,h=>by
  rw[ez,sK,wG n v b k (by omega)]
  have e1:(2:Int)^(8*(n-k))=2^(8*(n-1-k))*256:=by
   rw[show 8*(n-k)=8*(n-1-k)+8 by omega,Int.pow_add];rfl
  have e:(2:Int)^(8*(k+1))=2^(8*k)*256:=by
   rw[show 8*(k+1)=8*k+8 by omega,Int.pow_add];rfl
  rw[e1,e,<-Int.ediv_ediv_of_nonneg (Int.le_of_lt (Int.pow_pos (by decide))),show n-(k+1)=n-1-k by omega,<-Int.mul_assoc]
  generalize v/2^(8*(n-1-k))=q
  generalize v/2^(8*n)*2^(8*k)=r
  omega
theorem Bs{v:Int}(b:0<=v){n:Nat}(h:v<2^(8*n)):dS (bR n v)=v:=by
 unfold bR
 rw[wG n v b n (Nat.le_refl _),Nat.sub_self,Nat.mul_zero,Int.pow_zero,Int.ediv_one,Int.ediv_eq_zero_of_lt b h]
 omega
def cY(x:Int):Int:=if x<0 then x+9223372036854775808 else x-9223372036854775808
theorem pe{m:Nat}(h:m<9223372036854775808):m^^^9223372036854775808=9223372036854775808+m:=by
 show m^^^2^63=2^63+m
 apply Nat.eq_of_testBit_eq
 intro i
 rw[Nat.testBit_xor,Nat.testBit_two_pow]
 rcases Nat.lt_trichotomy i 63 with b|b|b
 ·rw[Nat.testBit_two_pow_add_gt b]
  have : ¬ 63=i:=by omega
  simp[this]
 ·subst b
  rw[Nat.testBit_two_pow_add_eq];simp
 ·have e:m<2^i:=Nat.lt_of_lt_of_le h (show 2^63<=2^i from Nat.pow_le_pow_right (by decide) (by omega))
  have k:2^63+m<2^i:=Nat.lt_of_lt_of_le (m:=2^64) (by omega) (show 2^64<=2^i from Nat.pow_le_pow_right (by decide) (by omega))
  rw[Nat.testBit_lt_two_pow e,Nat.testBit_lt_two_pow k]
  have : ¬ 63=i:=by omega
  simp[this]
theorem sL{x:Int}(b: -9223372036854775808<=x)(k:x<9223372036854775808):bits .xor .i64 x (-9223372036854775808)=cY x:=by
 show IntKind.i64.wrap ((BitVec.ofInt 64 x^^^BitVec.ofInt 64 (-9223372036854775808)).toNat:Int)=_
 rw[BitVec.toNat_xor,gv x b k,show(BitVec.ofInt 64 (-9223372036854775808)).toNat=9223372036854775808 from rfl]
 unfold cY
 by_cases h:x<0
 ·rw[if_pos h,if_pos h]
  obtain⟨m,hm⟩:∃ m:Nat,(m:Int)=x+9223372036854775808:=⟨(x+9223372036854775808).toNat,by omega⟩
  have e:(x+18446744073709551616).toNat=9223372036854775808+m:=by omega
  rw[e,<-pe (m:=m) (by omega),Nat.xor_assoc,Nat.xor_self,Nat.xor_zero,IntKind.wrap_i64];omega
 ·rw[if_neg h,if_neg h,pe (by omega),IntKind.wrap_i64];omega
theorem wH(v:Int)(k:Nat):∀ j,j<=8->eX 8 (v+k*18446744073709551616) j=eX 8 v j
 |0,_=>rfl
 |j+1,h=>by
  rw[ez,ez,wH v k j (by omega)]
  congr 2
  have e:(18446744073709551616:Int)=2^(8*(8-1-j))*(256*2^(8*j)):=by
   have :j=0\/j=1\/j=2\/j=3\/j=4\/j=5\/j=6\/j=7:=by omega
   rcases this with rfl|rfl|rfl|rfl|rfl|rfl|rfl|rfl<;>decide
  have B:(2:Int)^(8*(8-1-j))≠0:=by
   have :(0:Int)<2^(8*(8-1-j)):=Int.pow_pos (by decide)
   omega
  have D:v+(k:Int)*18446744073709551616=v+2^(8*(8-1-j))*(256*((k:Int)*2^(8*j))):=by
   rw[e];generalize(2:Int)^(8*(8-1-j))=a;generalize(2:Int)^(8*j)=b
   congr 1
   rw[Int.mul_left_comm,Int.mul_left_comm (k:Int) 256 b]
  rw[D,Int.add_mul_ediv_left _ _ B]
  omega
theorem zP(x:Int)(b: -9223372036854775808<=x)(e:x<9223372036854775808):bR 8 (cY x)=bR 8 (x+9223372036854775808):=by
 unfold cY bR
 split
 ·rfl
 ·have :=wH (x-9223372036854775808) 1 8 (Nat.le_refl _)
  rw[<-this];congr 1;omega
theorem zQ{x:Int}(b: -9223372036854775808<=x)(k:x<9223372036854775808):bits .xor .i64 (IntKind.i64.wrap (dS (bR 8 (x+9223372036854775808)))) (-9223372036854775808)=x:=by
 rw[Bs (by omega) (by show x+9223372036854775808<18446744073709551616;omega)]
 have e:IntKind.i64.wrap (x+9223372036854775808)=cY x:=by
  rw[IntKind.wrap_i64];unfold cY;split <;>omega
 rw[e,sL (by unfold cY;split <;>omega) (by unfold cY;split <;>omega)]
 unfold cY;split <;>split <;>omega
theorem yp(l:List Int):(bR 2 l.length++bR 4 (rV l))++l=bg l:=by
 unfold bg Dq bR eX
 simp[List.range_succ]
def Cj(c:Int):Bool:=(decide (97<=c)&&decide (c<=122))||(decide (48<=c)&&decide (c<=57))
def dq(s:ByteArray):Bool:=(decide (1<=s.size)&&decide (s.size<=8))&&(List.range s.size).all fun i=>Cj (cX s i)
theorem nt{s:ByteArray}{n:Nat}(h:n<s.size)(b:Cj (cX s n)=false):dq s=false:=by
 have :((List.range s.size).all fun i=>Cj (cX s i))=false:=by
  rw[List.all_eq_false];exact⟨n,by simpa using h,by rw[b];decide⟩
 unfold dq;rw[this];simp
theorem wI{s:ByteArray}(h:∀ j,j<s.size->Cj (cX s j)=true):dq s=(decide (1<=s.size)&&decide (s.size<=8)):=by
 have :((List.range s.size).all fun i=>Cj (cX s i))=true:=by
  rw[List.all_eq_true];intro j b;exact h j (by simpa using b)
 unfold dq;rw[this];simp
theorem mu{c:Int}:Cj c=true↔(97<=c/\c<=122)\/(48<=c/\c<=57):=by simp[Cj]
theorem ox{s:ByteArray}(h:dq s=true):1<=s.size/\s.size<=8:=by
 unfold dq at h
 simp only[Bool.and_eq_true,decide_eq_true_eq]at h
 exact h.1
theorem zR(b:List Int)(J:b.length<=1000000)(n:Nat)(O:n<=8)(v:Int)(U:aj v):Spec Tryd.prog GF 42 [.sl 0 0 b.length,SV.i n,SV.i v] [bY b] (fun r E=>r= .sl 1 0 (b++bR n v).length/\E= [none,some (bY (b++bR n v))]):=by
 refine start 23 1 Tryd.func42 rfl rfl rfl rfl ?_
 refine r1<|sT 6 1 1 rfl<|e1 9 rfl<|ab [0,1,2] rfl<|ai<|r1<|sT 8 9 1 rfl<|de 9 17 2 rfl<|sT 7 25 3 rfl<|e1 33 rfl<|ab [0,2,7] rfl<|au ?_
 refine bW 0 (bY (b++eX n v 0)) rfl (by simp[eX]) ?_
 refine cB 0 (.sl 0 0 (b++eX n v 0).length) rfl (by simp[eX]) ?_
 refine rename 0 rfl rfl ?_
 refine loop (α:=Nat) 2 (fun k=> [(0, .sl 1 0 (b++eX n v (k)).length),(2,SV.i v),(7,SV.i (n-1-(k):Int))]) (fun k=> [none,some (bY (b++eX n v (k)))]) (fun k=>(k)<=n) (fun k=>n-(k)) (((0):Nat)) [0,33] (fun _=>rfl) (show(0)<=n from(Nat.zero_le _)) rfl ⟨rfl,rfl,(congrArg SV.i (by omega)),trivial⟩ ⟨rfl,trivial⟩ (fun k B=>?_)
 show W _ _ _ ⟨dG [(0, .sl 1 0 (b++eX n v k).length),(2,SV.i v),(7,SV.i (n-1-k:Int))],dC [none,some (bY (b++eX n v k))],2⟩
 have B:k<=n:=B
 have hlen:(b++eX n v k).length=b.length+k:=(by rw[List.length_append,dF])
 refine ai<|r1<|sT 10 2 1 rfl<|sO 11 10 2 rfl<|e1 18 rfl<|ab [0,2,7,11] rfl ?_
 refine q1 rfl (fun e=>?_) (fun e=>?_)
 try simp only[cs,ne_eq]at e
 refine ak<|tn<|ai<|au ?_
 refine r0 ?_
 refine sT 14 18 1 rfl<|sT 15 26 2 rfl<|sT 16 34 3 rfl<|de 17 42 4 rfl<|sO 18 50 5 rfl ?_
 refine val 18 (SV.i (v/2^(8*(n-1-k)))) rfl (congrArg SV.i (fu (by omega) (by omega))) ?_
 refine sT 19 58 6 rfl ?_
 refine val 19 (.d (.val (.int .u8 (v/2^(8*(n-1-k))%256)))) rfl (congrArg (fun x=>SV.d (D.val (Value.int .u8 x))) rfl) ?_
 refine sT 20 66 7 rfl ?_
 refine sV 21 74 8 rfl ⟨Nat.le_refl _,trivial,(by show(_+1)*1<=140737488355328;omega),(by simp only[maxLen];omega)⟩ ?_
 refine sT 0 82 9 rfl<|e1 90 rfl<|bn<|tn ?_
 refine bP 74 (b++eX n v (k+1)).length (dm (b++eX n v (k+1))) rfl (by rw[ez,<-List.append_assoc,List.length_append (bs:= [_])];rfl) (fun i c G I=>by rw[ez,<-List.append_assoc];exact Dw rfl i c G I) ?_
 refine cB 0 (.sl 74 0 (b++eX n v (k+1)).length) rfl (by rw[ez,<-List.append_assoc,List.length_append (bs:= [_])];rfl) ?_
 refine r0 ?_
 refine sT 12 90 1 rfl<|de 13 98 2 rfl<|sT 7 106 3 rfl<|e1 114 rfl<|tn ?_
 exact again ((k+1:Nat)) [0,74] (show(k+1)<=n from(by omega)) (show n-(k+1)<n-k from(by omega)) rfl ⟨rfl,rfl,(congrArg SV.i (by omega)),trivial⟩ ⟨rfl,trivial⟩
 try simp only[cs,ne_eq]at e
 refine bI<|tx<|tx<|bx<|tn<|r1<|sT 22 18 1 rfl<|sT 6 26 2 rfl<|e1 34 rfl<|ab [6] rfl<|ao ?_
 obtain rfl:n=k:=(by omega)
 exact bm 6 (.sl 1 0 (b++bR n v).length) (π:= [0,1]) (ae:= [none,some (bY (b++bR n v))]) Tryd.results42 rfl rfl rfl rfl ⟨rfl,trivial⟩ ⟨rfl,rfl⟩
theorem FU(n:Nat)(I:n<=8)(v:Int)(J:aj v):Spec Tryd.prog GF 42 [.d .bz,SV.i n,SV.i v] [] (fun r B=>r= .sl 0 0 (bR n v).length/\B= [some (bY (bR n v))]):=by
 refine start 23 0 Tryd.func42 rfl rfl rfl rfl ?_
 refine r1<|sT 6 0 1 rfl<|e1 8 rfl<|ab [0,1,2] rfl<|ai<|r1<|sT 8 8 1 rfl<|de 9 16 2 rfl<|sT 7 24 3 rfl<|e1 32 rfl<|ab [0,2,7] rfl<|au ?_
 have O:([]:List Int).length<=1000000:=(by decide)
 refine fV 0 5 1 (dm []) rfl ?_
 refine loop (α:=Nat) 1 (fun k=> [(0, .sl 0 0 (([]:List Int)++eX n v (k)).length),(2,SV.i v),(7,SV.i (n-1-(k):Int))]) (fun k=> [some (bY (([]:List Int)++eX n v (k)))]) (fun k=>(k)<=n) (fun k=>n-(k)) (((0):Nat)) [32] (fun _=>rfl) (show(0)<=n from(Nat.zero_le _)) rfl ⟨rfl,rfl,(congrArg SV.i (by omega)),trivial⟩ ⟨rfl,trivial⟩ (fun k e=>?_)
 show W _ _ _ ⟨dG [(0, .sl 0 0 (([]:List Int)++eX n v k).length),(2,SV.i v),(7,SV.i (n-1-k:Int))],dC [some (bY (([]:List Int)++eX n v k))],1⟩
 have e:k<=n:=e
 have hlen:(([]:List Int)++eX n v k).length=([]:List Int).length+k:=(by rw[List.length_append,dF])
 refine ai<|r1<|sT 10 1 1 rfl<|sO 11 9 2 rfl<|e1 17 rfl<|ab [0,2,7,11] rfl ?_
 refine q1 rfl (fun b=>?_) (fun b=>?_)
 try simp only[cs,ne_eq]at b
 refine ak<|tn<|ai<|au ?_
 refine r0 ?_
 refine sT 14 17 1 rfl<|sT 15 25 2 rfl<|sT 16 33 3 rfl<|de 17 41 4 rfl<|sO 18 49 5 rfl ?_
 refine val 18 (SV.i (v/2^(8*(n-1-k)))) rfl (congrArg SV.i (fu (by omega) (by omega))) ?_
 refine sT 19 57 6 rfl ?_
 refine val 19 (.d (.val (.int .u8 (v/2^(8*(n-1-k))%256)))) rfl (congrArg (fun x=>SV.d (D.val (Value.int .u8 x))) rfl) ?_
 refine sT 20 65 7 rfl ?_
 refine sV 21 73 8 rfl ⟨Nat.le_refl _,trivial,(by show(_+1)*1<=140737488355328;omega),(by simp only[maxLen];omega)⟩ ?_
 refine sT 0 81 9 rfl<|e1 89 rfl<|bn<|tn ?_
 refine bP 73 (([]:List Int)++eX n v (k+1)).length (dm (([]:List Int)++eX n v (k+1))) rfl (by rw[ez,<-List.append_assoc,List.length_append (bs:= [_])];rfl) (fun i c E G=>by rw[ez,<-List.append_assoc];exact Dw rfl i c E G) ?_
 refine cB 0 (.sl 73 0 (([]:List Int)++eX n v (k+1)).length) rfl (by rw[ez,<-List.append_assoc,List.length_append (bs:= [_])];rfl) ?_
 refine r0 ?_
 refine sT 12 89 1 rfl<|de 13 97 2 rfl<|sT 7 105 3 rfl<|e1 113 rfl<|tn ?_
 exact again ((k+1:Nat)) [73] (show(k+1)<=n from(by omega)) (show n-(k+1)<n-k from(by omega)) rfl ⟨rfl,rfl,(congrArg SV.i (by omega)),trivial⟩ ⟨rfl,trivial⟩
 try simp only[cs,ne_eq]at b
 refine bI<|tx<|tx<|bx<|tn<|r1<|sT 22 17 1 rfl<|sT 6 25 2 rfl<|e1 33 rfl<|ab [6] rfl<|ao ?_
 obtain rfl:n=k:=(by omega)
 exact bm 6 (.sl 0 0 (bR n v).length) (π:= [0]) (ae:= [some (bY (bR n v))]) Tryd.results42 rfl rfl rfl rfl ⟨rfl,trivial⟩ ⟨rfl,rfl⟩
theorem IY(l:List Int)(hl:Bytes l)(E:l.length<=8):Spec Tryd.prog GF 26 [cI l] [] (fun r B=>r=SV.i (IntKind.i64.wrap (dS l))/\B= []):=by
 have hl2:=hl.b
 have D:=hl.n
 refine start 19 0 Tryd.func26 rfl rfl rfl rfl ?_
 refine r1<|sT 2 0 1 rfl<|e1 8 rfl<|ab [0] rfl<|r1<|sT 3 8 1 rfl<|e1 16 rfl<|ab [0,3] rfl<|ai<|r1<|sT 6 16 1 rfl<|sO 7 24 2 rfl<|sT 8 32 3 rfl<|e1 40 rfl<|ab [3,6,7,8] rfl<|au ?_
 refine loop (α:=Nat) 0 (fun n=> [(3,SV.i (IntKind.i64.wrap (dS (l.take (n))))),(6,cI l),(7,SV.i l.length),(8,SV.i (n))]) (fun n=> []) (fun n=>(n)<=l.length) (fun n=>l.length-(n)) (((0):Nat)) [] (fun _=>rfl) (show(0)<=l.length from(Nat.zero_le _)) rfl ⟨rfl,rfl,rfl,rfl,trivial⟩ trivial (fun n v=>?_)
 show W _ _ _ ⟨dG [(3,SV.i (IntKind.i64.wrap (dS (l.take n)))),(6,cI l),(7,SV.i l.length),(8,SV.i n)],dC [],0⟩
 have v:n<=l.length:=v
 have k:=hl2 n
 refine r1<|sO 9 0 1 rfl<|e1 8 rfl<|ab [3,6,7,8,9] rfl<|ai ?_
 refine q1 rfl (fun e=>?_) (fun e=>?_)
 try simp only[cs,ne_eq]at e
 refine ak<|tn<|ai<|au<|r1<|sO 10 8 1 rfl<|sO 11 16 2 rfl ?_
 refine val 11 (.d (.val (.int .u8 (l.getD n 0)))) rfl (by simp only[Int.toNat_natCast]) ?_
 refine sT 5 24 3 rfl<|e1 32 rfl<|ab [3,5,6,7,8] rfl ?_
 refine r0 ?_
 refine sT 12 32 1 rfl ?_
 refine sV 13 40 2 rfl (by decide) ?_
 refine val 13 (SV.i (IntKind.i64.wrap (dS (l.take n)*256))) rfl (congrArg SV.i (Dy _)) ?_
 refine sT 14 48 3 rfl<|sT 15 56 4 rfl ?_
 refine val 15 (SV.i (l.getD n 0)) rfl (congrArg SV.i (dP ⟨by omega,by omega⟩)) ?_
 refine sO 16 64 5 rfl ?_
 refine val 16 (SV.i (IntKind.i64.wrap (dS (l.take (n+1))))) rfl (congrArg SV.i ((G5 _ k.1 k.2).trans (congrArg IntKind.i64.wrap (ot l n (by omega)).symm))) ?_
 refine sT 3 72 6 rfl<|e1 80 rfl<|bn<|tn ?_
 refine r0 ?_
 refine de 17 80 1 rfl<|sT 8 88 2 rfl<|e1 96 rfl<|tn ?_
 exact again ((n+1:Nat)) [] (show(n+1)<=l.length from(by omega)) (show l.length-(n+1)<l.length-n from(by omega)) rfl ⟨rfl,rfl,rfl,rfl,trivial⟩ trivial
 try simp only[cs,ne_eq]at e
 refine bI<|tx<|tx<|bx<|tn<|r1<|sT 18 8 1 rfl<|sT 2 16 2 rfl<|e1 24 rfl<|ab [2] rfl<|ao ?_
 obtain rfl:n=l.length:=(by omega)
 exact bm 2 (SV.i (IntKind.i64.wrap (dS l))) (π:= []) (ae:= []) Tryd.results26 rfl (by rw[List.take_length];rfl) rfl rfl trivial ⟨rfl,rfl⟩
theorem qQ(l:List Int)(hl:Bytes l)(D:l.length<=4000):Spec Tryd.prog GF 56 [cI l] [] (fun r e=>r=SV.bA [.sl 0 0 (bg l).length,SV.i 0]/\e= [some (bY (bg l))]):=by
 have k:=hl.n
 have E:=Dh l
 refine start 15 0 Tryd.func56 rfl rfl rfl rfl ?_
 refine r1<|sT 2 0 1 rfl<|sT 3 8 2 rfl<|e1 16 rfl<|ab [0] rfl<|ai<|r1<|sT 4 16 1 rfl<|sO 5 24 2 rfl<|sO 6 32 3 rfl<|e1 40 rfl<|ab [0,6] rfl ?_
 refine q1 rfl (fun b=>?_) (fun b=>?_)
 exfalso;simp at b;omega
 try simp only[cs,ne_eq]at b
 refine ak<|tn<|r1<|sT 7 40 1 rfl<|sO 8 48 2 rfl ?_
 refine c1 (FU 2 (by omega) l.length ⟨by omega,by omega⟩) [] [56] 9 56 3 rfl rfl rfl rfl rfl rfl rfl rfl Tryd.func42 rfl rfl rfl rfl trivial rfl rfl ?_
 refine sT 10 64 4 rfl ?_
 refine c1 (wE l hl) [] [] 11 72 5 rfl rfl rfl rfl rfl rfl rfl rfl Tryd.func27 rfl rfl rfl rfl trivial rfl rfl ?_
 refine c1 (zR (bR 2 l.length) (by unfold bR;rw[dF];omega) 4 (by omega) (rV l) ⟨by omega,by omega⟩) [56] [56,80] 12 80 6 rfl rfl rfl rfl rfl rfl rfl rfl Tryd.func42 rfl rfl rfl rfl ⟨rfl,trivial⟩ rfl rfl ?_
 refine sT 13 88 7 rfl ?_
 refine sV 14 96 8 rfl ⟨Nat.le_refl _,trivial,(by simp only[List.length_append,bR,dF];show(_+l.length)*1<=140737488355328;omega),(by simp only[List.length_append,bR,dF,maxLen];omega)⟩ ?_
 refine sT 2 104 9 rfl<|sT 3 112 10 rfl<|e1 120 rfl<|ab [2,3] rfl ?_
 refine bP 96 (bg l).length (dm (bg l)) rfl (by rw[<-yp,List.length_append (bs:=l)]) (fun i c v B=>by rw[<-yp];exact mq i c v B) ?_
 refine cB 2 (.sl 96 0 (bg l).length) rfl (by rw[<-yp,List.length_append (bs:=l)]) ?_
 refine ao ?_
 exact eF 2 3 (.sl 0 0 (bg l).length) (SV.i 0) (π:= [96]) (ae:= [some (bY (bg l))]) Tryd.results56 rfl rfl rfl rfl rfl rfl ⟨rfl,trivial⟩ ⟨rfl,rfl⟩
theorem wJ(s:ByteArray)(W:s.size<=9223372036854775807):Spec Tryd.prog GF 36 [.d (.val (.string s))] [] (fun r U=>r=SV.b (dq s)/\U= []):=by
 refine start 35 0 Tryd.func36 rfl rfl rfl rfl ?_
 refine r1<|sT 2 0 1 rfl<|e1 8 rfl<|ab [0] rfl<|ai<|r1<|sT 5 8 1 rfl<|sT 6 16 2 rfl<|sO 7 24 3 rfl<|sT 8 32 4 rfl<|e1 40 rfl<|ab [0,6,7,8] rfl<|au ?_
 refine loop (α:=Nat) 0 (fun n=> [(0, .d (.val (.string s))),(6, .d (.vec 1 s.size (ey s))),(7,SV.i s.size),(8,SV.i n)]) (fun n=> []) (fun n=>n<=s.size/\∀ j,j<n->Cj (cX s j)=true) (fun n=>s.size-n) (0) [] (fun _=>rfl) ⟨Nat.zero_le _,fun j O=>by omega⟩ rfl ⟨rfl,rfl,rfl,rfl,trivial⟩ trivial (fun n V=>?_)
 obtain⟨X,G⟩:=V
 refine r1<|sO 9 0 1 rfl<|e1 8 rfl<|ab [0,6,7,8,9] rfl<|ai ?_
 refine q1 rfl (fun I=>?_) (fun I=>?_)
 try simp only[cs,ne_eq]at I
 refine ak<|tn<|ai<|au<|r1<|sO 10 8 1 rfl<|sO 11 16 2 rfl<|sT 4 24 3 rfl<|e1 32 rfl<|ab [0,4,6,7,8] rfl<|r1<|sT 12 32 1 rfl<|sO 13 40 2 rfl<|sT 14 48 3 rfl ?_
 refine ask 14 rfl (fun B=>?_) (fun B=>?_)
 try simp only[cs,ne_eq]at B
 refine gF 2 false 14 15 4 rfl rfl<|gF 2 false 14 16 5 rfl rfl<|sT 17 72 6 rfl<|sT 18 80 7 rfl<|gT 6 true 18 8 rfl rfl<|sT 19 88 8 rfl<|gT 6 true 18 9 rfl rfl<|sO 20 96 9 rfl<|gT 6 true 18 10 rfl rfl<|sT 21 104 10 rfl ?_
 refine ask 21 rfl (fun k=>?_) (fun k=>?_)
 try simp only[cs,ne_eq]at k
 refine gF 9 false 21 22 11 rfl rfl<|gF 9 false 21 23 12 rfl rfl<|gT 6 true 18 13 rfl rfl<|sT 24 128 13 rfl<|sT 25 136 14 rfl<|e1 144 rfl<|ab [0,6,7,8,25] rfl ?_
 refine q1 rfl (fun v=>?_) (fun v=>?_)
 try simp only[cs,ne_eq]at v
 refine r1<|sT 2 144 1 rfl<|e1 152 rfl<|ab [2] rfl<|ao<|br<|tr<|tr<|br<|tr ?_
 exact bm 2 (SV.b (dq s)) (π:= []) (ae:= []) Tryd.results36 rfl (by have J:Cj (cX s n)=false:=(by rw[<-Bool.not_eq_true,mu];unfold cX;(try simp only[Int.toNat_natCast]at *);omega);show SV.b _=SV.b _;refine congrArg SV.b ?_;rw[nt (n:=n) (by omega) J]) rfl rfl trivial ⟨rfl,rfl⟩
 exact absurd v (by decide)
 try simp only[cs,ne_eq]at k
 refine gT 9 false 21 11 rfl rfl<|sT 22 112 11 rfl<|gT 9 false 21 12 rfl rfl<|sO 23 120 12 rfl<|gT 6 true 18 13 rfl rfl<|sT 24 128 13 rfl<|sT 25 136 14 rfl<|e1 144 rfl<|ab [0,6,7,8,25] rfl ?_
 refine q1 rfl (fun v=>?_) (fun v=>?_)
 try simp only[cs,ne_eq]at v
 refine r1<|sT 2 144 1 rfl<|e1 152 rfl<|ab [2] rfl<|ao<|br<|tr<|tr<|br<|tr ?_
 exact bm 2 (SV.b (dq s)) (π:= []) (ae:= []) Tryd.results36 rfl (by have J:Cj (cX s n)=false:=(by rw[<-Bool.not_eq_true,mu];unfold cX;(try simp only[Int.toNat_natCast]at *);omega);show SV.b _=SV.b _;refine congrArg SV.b ?_;rw[nt (n:=n) (by omega) J]) rfl rfl trivial ⟨rfl,rfl⟩
 try simp only[cs,ne_eq]at v
 refine ak<|bn<|tn ?_
 refine r0 ?_
 refine de 26 144 1 rfl<|sT 8 152 2 rfl<|e1 160 rfl<|tn ?_
 exact again (n+1) [] ⟨by omega,fun j O=>by by_cases e:j=n;(subst e;clear G;exact(by rw[mu];unfold cX;(try simp only[Int.toNat_natCast]at *);omega));exact G j (by omega)⟩ (by omega) rfl ⟨rfl,rfl,rfl,rfl,trivial⟩ trivial
 try simp only[cs,ne_eq]at B
 refine gT 2 false 14 4 rfl rfl<|sT 15 56 4 rfl<|gT 2 false 14 5 rfl rfl<|sO 16 64 5 rfl<|sT 17 72 6 rfl<|sT 18 80 7 rfl ?_
 refine ask 18 rfl (fun D=>?_) (fun D=>?_)
 try simp only[cs,ne_eq]at D
 refine gT 6 true 18 8 rfl rfl<|sT 19 88 8 rfl<|gT 6 true 18 9 rfl rfl<|sO 20 96 9 rfl<|gT 6 true 18 10 rfl rfl<|sT 21 104 10 rfl ?_
 refine ask 21 rfl (fun k=>?_) (fun k=>?_)
 try simp only[cs,ne_eq]at k
 refine gF 9 false 21 22 11 rfl rfl<|gF 9 false 21 23 12 rfl rfl<|gT 6 true 18 13 rfl rfl<|sT 24 128 13 rfl<|sT 25 136 14 rfl<|e1 144 rfl<|ab [0,6,7,8,25] rfl ?_
 refine q1 rfl (fun v=>?_) (fun v=>?_)
 try simp only[cs,ne_eq]at v
 refine r1<|sT 2 144 1 rfl<|e1 152 rfl<|ab [2] rfl<|ao<|br<|tr<|tr<|br<|tr ?_
 exact bm 2 (SV.b (dq s)) (π:= []) (ae:= []) Tryd.results36 rfl (by have J:Cj (cX s n)=false:=(by rw[<-Bool.not_eq_true,mu];unfold cX;(try simp only[Int.toNat_natCast]at *);omega);show SV.b _=SV.b _;refine congrArg SV.b ?_;rw[nt (n:=n) (by omega) J]) rfl rfl trivial ⟨rfl,rfl⟩
 exact absurd v (by decide)
 try simp only[cs,ne_eq]at k
 refine gT 9 false 21 11 rfl rfl<|sT 22 112 11 rfl<|gT 9 false 21 12 rfl rfl<|sO 23 120 12 rfl<|gT 6 true 18 13 rfl rfl<|sT 24 128 13 rfl<|sT 25 136 14 rfl<|e1 144 rfl<|ab [0,6,7,8,25] rfl ?_
 refine q1 rfl (fun v=>?_) (fun v=>?_)
 try simp only[cs,ne_eq]at v
 refine r1<|sT 2 144 1 rfl<|e1 152 rfl<|ab [2] rfl<|ao<|br<|tr<|tr<|br<|tr ?_
 exact bm 2 (SV.b (dq s)) (π:= []) (ae:= []) Tryd.results36 rfl (by have J:Cj (cX s n)=false:=(by rw[<-Bool.not_eq_true,mu];unfold cX;(try simp only[Int.toNat_natCast]at *);omega);show SV.b _=SV.b _;refine congrArg SV.b ?_;rw[nt (n:=n) (by omega) J]) rfl rfl trivial ⟨rfl,rfl⟩
 try simp only[cs,ne_eq]at v
 refine ak<|bn<|tn ?_
 refine r0 ?_
 refine de 26 144 1 rfl<|sT 8 152 2 rfl<|e1 160 rfl<|tn ?_
 exact again (n+1) [] ⟨by omega,fun j O=>by by_cases e:j=n;(subst e;clear G;exact(by rw[mu];unfold cX;(try simp only[Int.toNat_natCast]at *);omega));exact G j (by omega)⟩ (by omega) rfl ⟨rfl,rfl,rfl,rfl,trivial⟩ trivial
 try simp only[cs,ne_eq]at D
 refine gF 6 true 18 19 8 rfl rfl<|gF 6 true 18 20 9 rfl rfl<|gF 6 true 18 21 10 rfl rfl ?_
 refine gz 9 false 21 22 11 rfl rfl rfl rfl rfl rfl ?_
 refine gz 9 false 21 23 12 rfl rfl rfl rfl rfl rfl ?_
 refine gF 6 true 18 24 13 rfl rfl<|sT 25 136 14 rfl<|e1 144 rfl<|ab [0,6,7,8,25] rfl ?_
 refine q1 rfl (fun v=>?_) (fun v=>?_)
 exact absurd v (by decide)
 try simp only[cs,ne_eq]at v
 refine ak<|bn<|tn ?_
 refine r0 ?_
 refine de 26 144 1 rfl<|sT 8 152 2 rfl<|e1 160 rfl<|tn ?_
 exact again (n+1) [] ⟨by omega,fun j O=>by by_cases e:j=n;(subst e;clear G;exact(by rw[mu];unfold cX;(try simp only[Int.toNat_natCast]at *);omega));exact G j (by omega)⟩ (by omega) rfl ⟨rfl,rfl,rfl,rfl,trivial⟩ trivial
 try simp only[cs,ne_eq]at I
 refine bI<|tx<|tx<|bx<|tn<|r1<|sT 27 8 1 rfl<|sO 28 16 2 rfl<|sO 29 24 3 rfl<|sT 30 32 4 rfl ?_
 refine ask 30 rfl (fun E=>?_) (fun E=>?_)
 try simp only[cs,ne_eq]at E
 refine gT 3 true 30 5 rfl rfl<|sT 31 40 5 rfl<|gT 3 true 30 6 rfl rfl<|sO 32 48 6 rfl<|gT 3 true 30 7 rfl rfl<|sO 33 56 7 rfl<|sT 34 64 8 rfl<|sT 2 72 9 rfl<|e1 80 rfl<|ab [2] rfl<|ao ?_
 exact bm 2 (SV.b (dq s)) (π:= []) (ae:= []) Tryd.results36 rfl (by rw[wI (fun j O=>G j (by omega))];show SV.b _=SV.b _;refine congrArg SV.b (Bool.eq_iff_iff.2 ?_);simp at *;omega) rfl rfl trivial ⟨rfl,rfl⟩
 try simp only[cs,ne_eq]at E
 refine gF 3 true 30 31 5 rfl rfl<|gF 3 true 30 32 6 rfl rfl<|gF 3 true 30 33 7 rfl rfl<|sT 34 64 8 rfl<|sT 2 72 9 rfl<|e1 80 rfl<|ab [2] rfl<|ao ?_
 exact bm 2 (SV.b (dq s)) (π:= []) (ae:= []) Tryd.results36 rfl (by rw[wI (fun j O=>G j (by omega))];show SV.b _=SV.b _;refine congrArg SV.b (Bool.eq_iff_iff.2 ?_);simp at *;omega) rfl rfl trivial ⟨rfl,rfl⟩
end Go.Proofs.YtifcaekngfgdmaaDoor.Nice
