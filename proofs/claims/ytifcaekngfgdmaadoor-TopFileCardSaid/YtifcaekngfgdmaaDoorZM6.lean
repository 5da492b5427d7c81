/- Part 6 of the proof of TopFile. -/
import Derived.Test.YtifcaekngfgdmaaDoorZM5
import Derived.Maps.RangeRun
import Derived.WalkKit
import Derived.Laws.BitsAllLaws
import Derived.Laws.BitsLemmas
import Derived.Test.YtifcaekngfgdmaaDoorProg
import Derived.Test.YtifcaekngfgdmaaDoorRows
import Derived.Lib.LaidTab
import Derived.ChangeArms
import Derived.OpenShut
set_option linter.unusedVariables false
set_option linter.unusedSimpArgs false
set_option maxRecDepth 100000
set_option maxHeartbeats 4000000
namespace Go.Proofs.YtifcaekngfgdmaaDoor.Nice
open Go
theorem tofam{C:Ctx}{c:Code}{Q:Exit->St->Prop}{t:Nat->SV}{h:ar}{nx:Nat}(n:Nat)(O:h n=some (.map []))(kk:W C c Q ⟨t,upd h n (some (.fam [] ⟨[],[],none⟩)),nx⟩):W C c Q ⟨t,h,nx⟩:=by
 intro M F pin ρ a w v
 have B:HR M F ρ h w:=v.hr
 have U:∀ m,upd h n (some (.fam [] ⟨[],[],none⟩)) m≠none->h m≠none:=by
  intro m hm e
  rw[az]at hm;split at hm
  ·next e2=>subst e2;rw[O]at e;cases e
  ·exact hm e
 refine kk M F pin ρ a w ⟨⟨v.tm,v.sz,v.df,⟨B.fT,B.iL,B.j9,fun m b hm=>?_,fun p q y z E D=>B.sep p q y z (U p E) (U q D),fun m S es hm=>?_⟩,v.pn,v.pm,v.gl⟩,v.fr⟩
 ·replace hm:upd h n (some (.fam [] ⟨[],[],none⟩)) m=some b:=hm
  rw[az]at hm
  split at hm
  ·next e=>
   subst e;cases hm
   obtain⟨x,I,V⟩:=B.live m _ O
   refine⟨x,I,?_⟩
   rcases V with⟨_,X⟩|⟨Y,h1,h2,o,h3,h4⟩
   ·simp[aB.ghost]at X
   ·refine .inr ⟨Y,h1,h2,o,h3,?_⟩
    cases o with
    |map iK cl=>exact⟨rfl,h4.1,fun j e he=>by simp at he,fun p E=>by cases E⟩
    |_=>exact h4.elim
  ·exact B.live m b hm
 ·replace hm:upd h n (some (.fam [] ⟨[],[],none⟩)) m=some (.fam S es):=hm
  rw[az]at hm
  split at hm
  ·next e=>
   subst e;cases hm
   obtain⟨x,I,V⟩:=B.live m _ O
   rcases V with⟨_,X⟩|⟨Y,_⟩
   ·simp[aB.ghost]at X
   ·exact⟨x,I,Y,fun b G=>(by cases G),fun _ _ _ _ _ G=>(by cases G),fun _ _ _ _ _ b G=>(by cases G),fun _=>fun _=>none,fun j k s bl hj=>by have :=hj.1;simp at this,fun j j' k k' s s' bl aa i i' c c' z z' hj=>by have :=hj.1;simp at this⟩
  ·next e=>
   obtain⟨x,I,g0,g1,g2,g3,g4⟩:=B.fam m S es hm
   refine⟨x,I,g0,g1,fun p y E=>g2 p y (U p E),fun p S2 J E D b G=>?_,g4⟩
   replace D:upd h n (some (.fam [] ⟨[],[],none⟩)) p=some (.fam S2 J):=D
   rw[az]at D
   split at D
   ·cases D;simp
   ·exact g3 p S2 J E D b G
theorem Hz{bl:List ff}{π:List Nat}{i:Nat}{c:ff}(h:bl[i]? =some c):(bl.map fun c=>some c.blk)[i]? =some (some c.blk):=by
 rw[List.getElem?_map,h];rfl
def uj(p:Nat)(bl:List ff):Bool:=bl.all fun c=>c.blk.under p
theorem jC{C:Ctx}{c:Code}{Q:Exit->St->Prop}{t:Nat->SV}{h:ar}{nx:Nat}(n j:Nat){S:List Nat}{es:List (Value×SV×List ff)}{ly:Option (TypeId×Nat)}{k:Value}{s:SV}{bl:List ff}(hn:h n=some (.fam S ⟨es,[],ly⟩))(hj:es[j]? =some (k,s,bl))(al:Nat.blt n nx=true)
  (side:(Nat.ble bl.length 8&&(s.under bl.length&&uj bl.length bl))=true)
  (kk:∀ S',W C c Q ⟨t,dB (upd h n (some (.fam S' ⟨es,[(j,du (ay nx bl.length) s)],ly⟩))) (c9 (ay nx bl.length) (ay nx bl.length) (bl.map fun c=>some c.blk)),nx+8⟩):W C c Q ⟨t,h,nx⟩:=by
 intro M F pin ρ a w G
 have hH:HR M F ρ h w:=G.hr
 simp only[Bool.and_eq_true]at side
 obtain⟨s1,s2,s3⟩:=side
 have s1:=Nat.le_of_ble_eq_true s1
 have cw:n<nx:=by simpa using al
 generalize hp:bl.length=p at s1 s2 s3 kk
 obtain⟨x,hx,g0,g1,g2,g3,Y,r1,r2⟩:=hH.fam n S _ hn
 obtain⟨bn,bo,ob,o1,oB⟩:=hH.CX hn hx
 have a1:(⟨es,[],ly⟩:ko).at j k s bl:=⟨hj,fun p hp=>by cases hp⟩
 obtain⟨⟨cQ,y,f1,f2,f3⟩,f4⟩:=r1 j k s bl a1
 rw[o1]at f1;cases f1
 let a2:Nat->Prop:=fun b=>∃ i c z,bl[i]? =some c/\Y j i=some z/\0<z.R/\z.b=b
 have dec:∀ b,Decidable (a2 b):=fun b=>Classical.propDecidable _
 let S':=S.filter fun b=> !(@decide (a2 b) (dec b))
 have ah:∀ b,b∈S'↔b∈S/\ ¬ a2 b:=by
  intro b
  simp only[S',List.mem_filter,Bool.not_eq_true',decide_eq_false_iff_not]
 let aq:Names:=fun m=>if nx<=m/\m<nx+p then Y j (m-nx)else ρ m
 have O:∀ m,aq m=if nx<=m/\m<nx+p then Y j (m-nx)else ρ m:=fun m=>rfl
 have hle:ρ.le aq:=by
  intro m z E
  rw[O,if_neg]
  ·exact E
  ·rintro⟨h1,_⟩
   rw[G.fr m h1]at E;cases E
 have a7:∀ i,i<p->aq ((ay nx p).getD i 0)=Y j i:=by
  intro i hi
  rw[List.getD_eq_getElem?_getD,cu p nx i hi]
  show aq (nx+i)=_
  rw[O,if_pos ⟨by omega,by omega⟩];congr 1;omega
 have bp:(ay nx p).length=(bl.map fun c=>some c.blk).length:=by rw[cD,List.length_map,hp]
 have bq:∀ i i' m:Nat,(ay nx p)[i]? =some m->(ay nx p)[i']? =some m->i=i':=by
  intro i i' m h1 h2
  have cV:i<p:=by have :=(List.getElem?_eq_some_iff.1 h1).1;rw[cD]at this;exact this
  have c0:i'<p:=by have :=(List.getElem?_eq_some_iff.1 h2).1;rw[cD]at this;exact this
  rw[cu p nx i cV]at h1;rw[cu p nx i' c0]at h2
  have :=Option.some.inj h1;have :=Option.some.inj h2;omega
 let I:ko:=⟨es,[(j,du (ay nx p) s)],ly⟩
 obtain⟨a8,ba⟩:=mU (π:=ay nx p) (ay nx p) (bl.map fun c=>some c.blk) (upd h n (some (.fam S' I))) bp bq
 have mem:∀ m,m∈ay nx p↔nx<=m/\m<nx+p:=by
  intro m
  constructor
  ·intro hm
   obtain⟨i,hi⟩:=List.mem_iff_getElem?.1 hm
   have cV:i<p:=by have :=(List.getElem?_eq_some_iff.1 hi).1;rw[cD]at this;exact this
   rw[cu p nx i cV]at hi
   have :=Option.some.inj hi;omega
  ·rintro⟨h1,h2⟩
   refine List.mem_iff_getElem?.2 ⟨m-nx,?_⟩
   rw[cu p nx _ (by omega)];congr 1;omega
 have new:∀ m,nx<=m/\m<nx+p->∃ i c z,m=nx+i/\i<p/\bl[i]? =some c/\Y j i=some z/\aq m=some z/\dB (upd h n (some (.fam S' I))) (c9 (ay nx p) (ay nx p) (bl.map fun c=>some c.blk)) m=some (dW (ay nx p) c.blk)/\
   ((z.R=0/\c.blk.ghost=true)\/(0<z.R/\z.b∈S/\∃ o,w.heap[z.b]? =some o/\BR M (Y j) z c.blk o)):=by
  rintro m ⟨h1,h2⟩
  have hi:m-nx<bl.length:=by omega
  obtain⟨z,z1,z2⟩:=f4 (m-nx) _ (List.getElem?_eq_getElem hi)
  refine⟨m-nx,_,z,by omega,by omega,List.getElem?_eq_getElem hi,z1,by rw[O,if_pos ⟨h1,h2⟩];exact z1,?_,z2⟩
  have :=a8 (m-nx) m _ (by rw[cu p nx _ (by omega)];congr 1;omega) (Hz (π:= []) (List.getElem?_eq_getElem hi))
  rw[this];rfl
 have old:∀ m,¬ (nx<=m/\m<nx+p)->dB (upd h n (some (.fam S' I))) (c9 (ay nx p) (ay nx p) (bl.map fun c=>some c.blk)) m=(if m=n then some (.fam S' I)else h m)/\aq m=ρ m:=by
  intro m hm
  rw[ba m (fun e=>hm ((mem m).1 e)),az]
  exact⟨rfl,by rw[O,if_neg hm]⟩
 have U:∀ m,¬ (nx<=m/\m<nx+p)->dB (upd h n (some (.fam S' I))) (c9 (ay nx p) (ay nx p) (bl.map fun c=>some c.blk)) m≠none->h m≠none:=by
  intro m hm al e
  rw[(old m hm).1]at al
  split at al
  ·next e2=>subst e2;rw[hn]at e;cases e
  ·exact al e
 refine kk S' M F pin aq a w ⟨⟨fun q=>(G.tm q).mono (aD.le_refl _) hle,G.sz,G.df,⟨hH.fT,hH.iL,hH.j9,fun m b hm=>?_,fun q q' z z' v bc E V B av X=>?_,fun m S2 a3 hm=>?_⟩,Names.le_trans G.pn hle,G.pm,G.gl⟩,fun m hm=>?_⟩
 ·
  replace hm:dB (upd h n (some (.fam S' I))) (c9 (ay nx p) (ay nx p) (bl.map fun c=>some c.blk)) m=some b:=hm
  by_cases e:nx<=m/\m<nx+p
  ·obtain⟨i,c,z,rfl,hi,hc,z1,z2,z3,z4⟩:=new m e
   rw[z3]at hm;cases hm
   have br:c.blk.under p=true:=(List.all_eq_true.1 s3) c (List.mem_of_getElem? hc)
   refine⟨z,z2,?_⟩
   rcases z4 with⟨z5,z6⟩|⟨z5,z6,o,z7,z8⟩
   ·exact .inl ⟨z5,by rw[eU];exact z6⟩
   ·exact .inr ⟨z5,(g1 _ z6).1,(g1 _ z6).2.1,o,z7,z8.fwd a7 br⟩
  ·rw[(old m e).1]at hm
   split at hm
   ·next e2=>
    subst e2;cases hm
    refine⟨x,hle m x hx, .inr ⟨g0,bn,bo,_,o1,oB.IG fun q v=>?_⟩⟩
    rw[List.mem_singleton.1 v]
    exact⟨y,f2,f3.fwd a7 s2⟩
   ·next e2=>
    obtain⟨z,E,bu⟩:=hH.live m b hm
    refine⟨z,hle m z E,?_⟩
    rcases bu with bu|⟨h0,h1,h2,o,h3,h4⟩
    ·exact .inl bu
    ·exact .inr ⟨h0,h1,h2,o,h3,h4.mono (aD.le_refl _) hle⟩
 ·
  by_cases e:nx<=q/\q<nx+p<;>by_cases e':nx<=q'/\q'<nx+p
  ·obtain⟨i,c,z1,rfl,hi,hc,k1,D,_,_⟩:=new q e
   obtain⟨i',c',z2,rfl,cT,a5,bx,bh,_,_⟩:=new q' e'
   rw[E]at D;obtain rfl:=Option.some.inj D
   rw[V]at bh;obtain rfl:=Option.some.inj bh
   have :=(r2 j j k k s s bl bl i i' c c' _ _ a1 a1 hc a5 k1 bx B av X).2
   omega
  ·obtain⟨i,c,z1,rfl,hi,hc,k1,D,_,z4⟩:=new q e
   rw[E]at D;obtain rfl:=Option.some.inj D
   rcases z4 with⟨z5,_⟩|⟨_,z6,_⟩
   ·omega
   ·rw[(old q' e').2]at V
    exact absurd (X▸z6) (g2 q' z' (U q' e' bc) V av)
  ·obtain⟨i,c,z1,rfl,hi,hc,k1,D,_,z4⟩:=new q' e'
   rw[V]at D;obtain rfl:=Option.some.inj D
   rcases z4 with⟨z5,_⟩|⟨_,z6,_⟩
   ·omega
   ·rw[(old q e).2]at E
    exact absurd (X.symm▸z6) (g2 q z (U q e v) E B)
  ·rw[(old q e).2]at E;rw[(old q' e').2]at V
   exact hH.sep q q' z z' (U q e v) (U q' e' bc) E V B av X
 ·
  replace hm:dB (upd h n (some (.fam S' I))) (c9 (ay nx p) (ay nx p) (bl.map fun c=>some c.blk)) m=some (.fam S2 a3):=hm
  have J:∀ m S es,nx<=m/\m<nx+p->dB (upd h n (some (.fam S' I))) (c9 (ay nx p) (ay nx p) (bl.map fun c=>some c.blk)) m≠some (.fam S es):=by
   intro m S es e he
   obtain⟨i,c,z,rfl,hi,hc,z1,z2,z3,z4⟩:=new m e
   rw[z3]at he
   cases c<;>simp[ff.blk,dW]at he
  by_cases e:nx<=m/\m<nx+p
  ·exact absurd hm (J m _ _ e)
  rw[(old m e).1]at hm
  have seen:∀ q z,dB (upd h n (some (.fam S' I))) (c9 (ay nx p) (ay nx p) (bl.map fun c=>some c.blk)) q≠none->aq q=some z->0<z.R->(h q≠none/\ρ q=some z)\/(z.b∈S/\a2 z.b):=by
   intro q z v E B
   by_cases e:nx<=q/\q<nx+p
   ·obtain⟨i,c,z1,rfl,hi,hc,k1,D,_,z4⟩:=new q e
    rw[E]at D;obtain rfl:=Option.some.inj D
    rcases z4 with⟨z5,_⟩|⟨_,z6,_⟩
    ·omega
    ·exact .inr ⟨z6,i,c,z,hc,k1,B,rfl⟩
   ·rw[(old q e).2]at E
    exact .inl ⟨U q e v,E⟩
  split at hm
  ·next e2=>
   subst e2;cases hm
   refine⟨x,hle m x hx,g0,fun b X=>g1 b ((ah b).1 X).1,fun q z v E B X=>?_,fun q S3 a6 a4 v b X=>?_,Y,fun j2 D ax a0 aa=>?_,?_⟩
   ·rcases seen q z v E B with⟨k1,D⟩|⟨_,D⟩
    ·exact g2 q z k1 D B ((ah _).1 X).1
    ·exact((ah _).1 X).2 D
   ·by_cases e3:nx<=q/\q<nx+p
    ·exact absurd v (J q _ _ e3)
    ·replace v:=(old q e3).1.symm.trans v
     rw[if_neg a4]at v
     exact g3 q S3 a6 a4 v b ((ah b).1 X).1
   ·have b1:j2≠j:=fun e=>aa.2 _ (List.mem_singleton.2 rfl) e.symm
    replace aa:(⟨es,[],ly⟩:ko).at j2 D ax a0:=⟨aa.1,fun p hp=>by cases hp⟩
    obtain⟨q1,q2⟩:=r1 j2 D ax a0 aa
    refine⟨q1,fun i c hc=>?_⟩
    obtain⟨z,z1,z2⟩:=q2 i c hc
    refine⟨z,z1,?_⟩
    rcases z2 with z2|⟨z2,z3,z4⟩
    ·exact .inl z2
    ·refine .inr ⟨z2,(ah _).2 ⟨z3,?_⟩,z4⟩
     rintro⟨i',c',z',a5,V,b2,b3⟩
     exact b1 (r2 j j2 k D s ax bl a0 i' i c' c z' z a1 aa a5 hc V z1 b2 z2 b3).1.symm
   ·intro j2 j3 D k3 ax b4 a0 ca i i' c c' z z' aa cc
    exact r2 j2 j3 D k3 ax b4 a0 ca i i' c c' z z' ⟨aa.1,fun p hp=>by cases hp⟩ ⟨cc.1,fun p hp=>by cases hp⟩
  ·next e2=>
   obtain⟨x2,cl,q0,q1,q2,q3,q4⟩:=hH.fam m S2 a3 hm
   refine⟨x2,hle m x2 cl,q0,q1,fun q z v E B=>?_,fun q S3 a6 a4 v b X=>?_,q4⟩
   ·rcases seen q z v E B with⟨k1,D⟩|⟨k1,_⟩
    ·exact q2 q z k1 D B
    ·exact fun X=>g3 m S2 a3 e2 hm _ k1 X
   ·by_cases e3:nx<=q/\q<nx+p
    ·exact absurd v (J q _ _ e3)
    ·replace v:=(old q e3).1.symm.trans v
     split at v
     ·next e4=>
      subst e4;cases v
      exact fun cr=>g3 m S2 a3 e2 hm b ((ah b).1 cr).1 X
     ·exact q3 q S3 a6 a4 v b X
 ·have hm:nx+8<=m:=hm
  rw[O,if_neg (by omega)]
  exact G.fr m (by show nx<=m;omega)
theorem iu{C:Ctx}{c:Code}{Q:Exit->St->Prop}{t:Nat->SV}{h:ar}{nx:Nat}(n j:Nat)(π:List Nat)(s:SV)(bl:List ff){S:List Nat}{es:List (Value×SV×List ff)}{ly:Option (TypeId×Nat)}{k:Value}{e0:SV×List ff}{u:SV}(hn:h n=some (.fam S ⟨es,[(j,u)],ly⟩))(hj:es[j]? =some (k,e0))(hu:u=du π s)
  (b2:fJ h (gG π π (bl.map ff.blk))) (side:(Nat.beq π.length bl.length&&(bK (n::π)&&(s.under bl.length&&uj bl.length bl)))=true)
  (kk:∀ S',W C c Q ⟨t,dB (upd h n (some (.fam S' ⟨es.set j (k,s,bl),[],ly⟩))) (π.map fun m=>(m,none)),nx⟩):W C c Q ⟨t,h,nx⟩:=by
 intro M F pin ρ a w X
 have hH:HR M F ρ h w:=X.hr
 simp only[Bool.and_eq_true]at side
 obtain⟨s1,s0,s2,s3⟩:=side
 have s1:=Nat.eq_of_beq_eq_true s1
 obtain⟨x,hx,g0,g1,g2,g3,bh,r1,r2⟩:=hH.fam n S _ hn
 obtain⟨b3,b4,ob,o1,oB⟩:=hH.CX hn hx
 have ca:j<es.length:=(List.getElem?_eq_some_iff.1 hj).1
 have cT:n∉π:=by
  intro hm
  obtain⟨i,hi⟩:=List.mem_iff_getElem?.1 hm
  have :=ck s0 0 (i+1) n rfl (by simpa using hi)
  omega
 have bn:∀ i i' m:Nat,π[i]? =some m->π[i']? =some m->i=i':=by
  intro i i' m h1 h2
  have :=ck s0 (i+1) (i'+1) m (by simpa using h1) (by simpa using h2)
  omega
 have bq:∀ (i:Nat) (c:ff),bl[i]? =some c->∃ m,π[i]? =some m/\h m=some (dW π c.blk):=by
  intro i c hc
  obtain⟨m,hm,D⟩:=gY (π:=π) π (bl.map ff.blk) (by rw[s1,List.length_map]) i c.blk (by rw[List.getElem?_map,hc];rfl)
  exact⟨m,hm,eW b2 _ D⟩
 have B:∀ (i m:Nat),π[i]? =some m->∃ c,bl[i]? =some c/\h m=some (dW π c.blk)/\∃ z,ρ m=some z/\((z.R=0/\c.blk.ghost=true)\/(0<z.R/\M z.b=none/\F z.b=none/\∃ o,w.heap[z.b]? =some o/\BR M ρ z (dW π c.blk) o)):=by
  intro i m hm
  have hi:i<bl.length:=by rw[<-s1];exact(List.getElem?_eq_some_iff.1 hm).1
  obtain⟨m',hm',D⟩:=bq i _ (List.getElem?_eq_getElem hi)
  rw[hm]at hm';obtain rfl:=Option.some.inj hm'
  obtain⟨z,v,bc⟩:=hH.live m _ D
  refine⟨_,List.getElem?_eq_getElem hi,D,z,v,?_⟩
  rw[eU]at bc
  exact bc
 have b1:∀ (i m:Nat) S es,π[i]? =some m->h m≠some (.fam S es):=by
  intro i m S es hm he
  obtain⟨c,_,D,_⟩:=B i m hm
  rw[D]at he
  cases c<;>simp[ff.blk,dW]at he
 let S':=S++π.filterMap fun m=>(ρ m).bind fun z=>if 0<z.R then some z.b else none
 have ax:∀ b,b∈S'↔b∈S\/∃ m z,m∈π/\ρ m=some z/\0<z.R/\z.b=b:=by
  intro b
  simp only[S',List.mem_append,List.mem_filterMap]
  constructor
  ·rintro(h1|⟨m,hm,h2⟩)
   ·exact .inl h1
   ·right
    cases v:ρ m with
    |none=>rw[v]at h2;cases h2
    |some z=>
     rw[v]at h2
     simp only[Option.bind_some]at h2
     split at h2
     ·next U=>exact⟨m,z,hm,v,U,Option.some.inj h2⟩
     ·cases h2
  ·rintro(h1|⟨m,z,hm,v,U,D⟩)
   ·exact .inl h1
   ·exact .inr ⟨m,hm,by rw[v];simp[U,D]⟩
 have cc:∀ (l:List Nat) (U:ar) (m:Nat),dB U (l.map fun m=>(m,none)) m=if m∈l then none else U m:=by
  intro l
  induction l with
  |nil=>intro U m;simp[dB]
  |cons q r ih=>
   intro U m
   simp only[List.map_cons,dB]
   rw[ih,az]
   by_cases e:m∈r
   ·simp[e]
   ·by_cases V:m=q
    ·simp[V]
    ·simp[e,V]
 let a5:ko:=⟨es.set j (k,s,bl),[],ly⟩
 have at':∀ m,dB (upd h n (some (.fam S' a5))) (π.map fun m=>(m,none)) m=if m∈π then none else if m=n then some (.fam S' a5)else h m:=by
  intro m;rw[cc,az]
 have ne:∀ m,dB (upd h n (some (.fam S' a5))) (π.map fun m=>(m,none)) m≠none->m∉π/\h m≠none:=by
  intro m hm
  rw[at']at hm
  by_cases e:m∈π
  ·rw[if_pos e]at hm;exact absurd rfl hm
  ·refine⟨e,fun V=>?_⟩
   rw[if_neg e]at hm
   split at hm
   ·next e3=>subst e3;rw[hn]at V;cases V
   ·exact hm V
 have br:∀ b,b∈S'->M b=none/\F b=none/\b<w.heap.size:=by
  intro b D
  rcases(ax b).1 D with D|⟨m,z,hm,v,U,rfl⟩
  ·exact g1 b D
  ·obtain⟨i,hi⟩:=List.mem_iff_getElem?.1 hm
   obtain⟨c,_,_,Y,E,bc⟩:=B i m hi
   rw[v]at E;obtain rfl:=Option.some.inj E
   rcases bc with⟨cV,_⟩|⟨_,h1,h2,o,h3,_⟩
   ·omega
   ·exact⟨h1,h2,(Array.getElem?_eq_some_iff.1 h3).1⟩
 obtain⟨aa,I,al⟩:∃ aa:Nat->Names,aa j=back π ρ/\∀ q,q≠j->aa q=bh q:=⟨fun q=>if q=j then back π ρ else bh q,if_pos rfl,fun q G=>if_neg G⟩
 refine kk S' M F pin ρ a w ⟨⟨X.tm,X.sz,X.df,⟨hH.fT,hH.iL,hH.j9,fun m b hm=>?_,fun q q' z Y G cl=>hH.sep q q' z Y (ne q G).2 (ne q' cl).2,fun m S2 bu hm=>?_⟩,X.pn,X.pm,X.gl⟩,X.fr⟩
 ·replace hm:=(at' m).symm.trans hm
  by_cases e:m∈π
  ·rw[if_pos e]at hm;cases hm
  ·rw[if_neg e]at hm
   split at hm
   ·next V=>
    subst V;cases hm
    exact⟨x,hx, .inr ⟨g0,b3,b4,_,o1,oB.Cm hj⟩⟩
   ·exact hH.live m b hm
 ·replace hm:=(at' m).symm.trans hm
  by_cases e:m∈π
  ·rw[if_pos e]at hm;cases hm
  ·rw[if_neg e]at hm
   split at hm
   ·next V=>
    subst V;cases hm
    refine⟨x,hx,g0,br,fun q z G v a6 D=>?_,fun q S3 a7 a8 G b D=>?_,aa,fun j2 k2 a3 a4 J=>?_,?_⟩
    ·obtain⟨q1,q2⟩:=ne q G
     rcases(ax _).1 D with D|⟨m',Y,hm',E,O,D⟩
     ·exact g2 q z q2 v a6 D
     ·obtain⟨i,hi⟩:=List.mem_iff_getElem?.1 hm'
      obtain⟨c,_,ah,_⟩:=B i m' hi
      have :=hH.sep q m' z Y q2 (by rw[ah];simp) v E a6 O D.symm
      subst this;exact q1 hm'
    ·replace G:=(at' q).symm.trans G
     by_cases e3:q∈π
     ·rw[if_pos e3]at G;cases G
     rw[if_neg e3,if_neg a8]at G
     rcases(ax _).1 D with D|⟨m',Y,hm',E,O,rfl⟩
     ·exact g3 q S3 a7 a8 G b D
     ·obtain⟨i,hi⟩:=List.mem_iff_getElem?.1 hm'
      obtain⟨c,_,ah,_⟩:=B i m' hi
      obtain⟨_,_,_,_,t2,_⟩:=hH.fam q S3 a7 G
      exact t2 m' Y (by rw[ah];simp) E O
    ·by_cases a0:j2=j
     ·subst a0
      replace J:=J.1
      rw[List.getElem?_set_self ca]at J
      cases J
      obtain⟨y',y1,y3⟩:=oB.open (p:=(j2,u)) (List.mem_singleton.2 rfl)
      refine⟨⟨_,y',o1,y1,?_⟩,fun i c hc=>?_⟩
      ·rw[I]
       exact y3.back s hu (by rw[s1];exact s2)
      ·obtain⟨m',hm',_⟩:=bq i c hc
       obtain⟨c',a1,c0,z,v,bc⟩:=B i m' hm'
       rw[hc]at a1;obtain rfl:=Option.some.inj a1
       refine⟨z,by rw[I];simp[back,hm',v],?_⟩
       rcases bc with bc|⟨U,h1,h2,o,h3,h4⟩
       ·exact .inl bc
       ·refine .inr ⟨U,(ax _).2 (.inr ⟨m',z,List.mem_of_getElem? hm',v,U,rfl⟩),o,h3,?_⟩
        rw[I]
        exact h4.back (by rw[s1];exact(List.all_eq_true.1 s3) c (List.mem_of_getElem? hc))
     ·replace J:=J.1
      rw[List.getElem?_set_ne (Ne.symm a0)]at J
      obtain⟨q1,q2⟩:=r1 j2 k2 a3 a4 ⟨J,fun p hp=>by cases List.mem_singleton.1 hp;exact Ne.symm a0⟩
      refine⟨?_,fun i c hc=>?_⟩
      ·rw[al j2 a0];exact q1
      ·obtain⟨z,z1,z2⟩:=q2 i c hc
       refine⟨z,by rw[al j2 a0];exact z1,?_⟩
       rcases z2 with z2|⟨z2,z3,o,z4,z5⟩
       ·exact .inl z2
       ·exact .inr ⟨z2,(ax _).2 (.inl z3),o,z4,by rw[al j2 a0];exact z5⟩
    ·intro j2 j3 k2 k3 a3 bo a4 bp i i' c c' z Y J bx hc a1 v E U O D
     have ba:∀ (q:Nat) (k':Value) (s':SV) (a2:List ff) (i:Nat) (c:ff) (z:Own),q≠j->a5.at q k' s' a2->a2[i]? =some c->aa q i=some z->0<z.R->z.b∈S/\(⟨es,[(j,u)],ly⟩:ko).at q k' s' a2/\bh q i=some z:=by
      intro q k' s' a2 i c z G he hc v U
      replace he:=he.1
      rw[List.getElem?_set_ne (Ne.symm G)]at he
      replace he:(⟨es,[(j,u)],ly⟩:ko).at q k' s' a2:=⟨he,fun p hp=>by cases List.mem_singleton.1 hp;exact Ne.symm G⟩
      rw[al q G]at v
      obtain⟨_,q2⟩:=r1 q k' s' a2 he
      obtain⟨Y,z1,z2⟩:=q2 i c hc
      rw[v]at z1;obtain rfl:=Option.some.inj z1
      rcases z2 with⟨z2,_⟩|⟨_,z3,_⟩
      ·omega
      ·exact⟨z3,he,v⟩
     have av:∀ (i:Nat) (z:Own),back π ρ i=some z->∃ m,π[i]? =some m/\ρ m=some z:=by
      intro i z v
      unfold back at v
      cases e:π[i]? with
      |none=>rw[e]at v;cases v
      |some m=>rw[e]at v;exact⟨m,rfl,v⟩
     by_cases V:j2=j<;>by_cases e3:j3=j
     ·rw[V,I]at v;rw[e3,I]at E
      obtain⟨m1,c5,c6⟩:=av i z v
      obtain⟨m2,di,dj⟩:=av i' Y E
      obtain⟨_,_,c1,_⟩:=B i m1 c5
      obtain⟨_,_,c2,_⟩:=B i' m2 di
      have :=hH.sep m1 m2 z Y (by rw[c1];simp) (by rw[c2];simp) c6 dj U O D
      subst this
      exact⟨V.trans e3.symm,bn i i' m1 c5 di⟩
     ·rw[V,I]at v
      obtain⟨m1,c5,c6⟩:=av i z v
      obtain⟨_,_,c1,_⟩:=B i m1 c5
      obtain⟨k1,_,_⟩:=ba j3 k3 bo bp i' c' Y e3 bx a1 E O
      exact absurd (D▸k1) (g2 m1 z (by rw[c1];simp) c6 U)
     ·rw[e3,I]at E
      obtain⟨m1,c5,c6⟩:=av i' Y E
      obtain⟨_,_,c1,_⟩:=B i' m1 c5
      obtain⟨k1,_,_⟩:=ba j2 k2 a3 a4 i c z V J hc v U
      exact absurd (D.symm▸k1) (g2 m1 Y (by rw[c1];simp) c6 O)
     ·obtain⟨_,k1,l1⟩:=ba j2 k2 a3 a4 i c z V J hc v U
      obtain⟨_,cr,l2⟩:=ba j3 k3 bo bp i' c' Y e3 bx a1 E O
      exact r2 j2 j3 k2 k3 a3 bo a4 bp i i' c c' z Y k1 cr hc a1 l1 l2 U O D
   ·next V=>
    obtain⟨x2,cw,q0,q1,q2,q3,q4⟩:=hH.fam m S2 bu hm
    refine⟨x2,cw,q0,q1,fun q z G v a6=>q2 q z (ne q G).2 v a6,fun q S3 a7 a8 G b D=>?_,q4⟩
    replace G:=(at' q).symm.trans G
    by_cases e3:q∈π
    ·rw[if_pos e3]at G;cases G
    rw[if_neg e3]at G
    split at G
    ·next e4=>
     subst e4;cases G
     intro ah
     rcases(ax _).1 ah with ah|⟨m',Y,hm',E,O,rfl⟩
     ·exact g3 m S2 bu V hm b ah D
     ·obtain⟨i,hi⟩:=List.mem_iff_getElem?.1 hm'
      obtain⟨c,_,cQ,_⟩:=B i m' hi
      exact q2 m' Y (by rw[cQ];simp) E O D
    ·exact q3 q S3 a7 a8 G b D
theorem uk{M:aD}{ρ:Names}{p:MP}{v:Value}(h:VR M ρ (.d (.pr p)) v):p.p M v:=by
 cases h with |d _ _ h=>cases h with |pr _ _ h=>exact h
theorem CZ{M:aD}{ρ:Names}{p:MP}{v:Value}(h:p.p M v):VR M ρ (.d (.pr p)) v:= .d _ _ (.pr _ _ h)
section
variable {C:Ctx} {ops:List Oper} {i:Nat} {o:Oper} {l:List Oper} {t:Nat->SV} {h h':ar} {nx:Nat} {K:St->Prop} {acc:List FP} {T T':TypeId} {y:Operand} {td:TypeDesc} {name:String}
end
section
variable {C:Ctx} {ops:List Oper} {i:Nat} {o:Oper} {l:List Oper} {t:Nat->SV} {h h':ar} {nx:Nat} {K:St->Prop} {acc:List FP} {bs:List (Nat×aB)} {wr:List (Nat×Option aB)} {u u':SV}
end
theorem cQ{C:Ctx}{ops:List Oper}{i:Nat}{o:Oper}{l:List Oper}{t:Nat->SV}{h:ar}{nx:Nat}{K:St->Prop}{f:FuncId}{args:List SV}{b:List aB}{post:SV->List (Option aB)->Prop}(U:Spec C.P C.G f args b post){x:Operand}{e:Array Operand}{D:Array TypeId}{aZ:List SV}{fn:Func}
  (π:List Nat) (d nm O:Nat) (V:i+1=O) (E:nx+8*i=nm) (W:o.guard=none) (v:o.dst=some d) (hd:Nat.blt d C.sz=true) (X:o.op= .call {callee:= .value x,args:=e,argTypes:=D}) (Y:bE C t x= .fn f aZ) (hf:C.P.funcs[f]? =some fn) (I:fE fn=true)
  (B:fZ (bE C t) e.toList++aZ=gV π args) (side:(Nat.beq π.length b.length&&(bK π&&(aW b.length (b.map some)&&cS b.length args)))=true) (J:fJ h (gG π π b))
  (k:∀ r ae,post r ae->an C ops O l ⟨upd t d (du (π++ay nm (ae.length-b.length)) r),dB h (c9 (π++ay nm (ae.length-b.length)) (π++ay nm (ae.length-b.length)) ae),nx⟩ none K):an C ops i (o::l) ⟨t,h,nx⟩ none K:=by
 subst V;subst E
 refine CI (σ:=⟨t,h,nx⟩) π U W (by unfold aM;rw[v];exact hd) X Y hf I B side J fun r ae hp=>?_
 have :=k r ae hp
 unfold St.app;rw[v];exact this
theorem HA{x y:ByteArray}:x=y↔x.toList=y.toList:=by
 constructor
 ·rintro rfl;rfl
 ·intro e;rw[ByteArray.toList_eq,ByteArray.toList_eq]at e;exact WideShapes.bytes_inj e
section
variable {C:Ctx} {ops:List Oper} {i:Nat} {o:Oper} {l:List Oper} {t:Nat->SV} {h h':ar} {nx:Nat} {K:St->Prop} {acc:List FP} {ty kt el:TypeId} {y z q:Operand} {ok:Bool} {n:Nat} {es:List (Value×D)} {key:Value} {u u':SV} {zl:Value}
end
section
variable {C:Ctx} {ops:List Oper} {i:Nat} {o:Oper} {l:List Oper} {t:Nat->SV} {h:ar} {nx:Nat} {K:St->Prop} {y:Operand} {m n L j:Nat} {seen:List Nat} {S:List Nat} {es:ko}
end
section
variable {C:Ctx} {ops:List Oper} {i:Nat} {o:Oper} {l:List Oper} {t:Nat->SV} {h h':ar} {nx:Nat} {K:St->Prop} {vc:Prop} {bs:List (Nat×aB)} {u:SV} {wr:List (Nat×Option aB)}
def og(C:Ctx)(i nx:Nat)(o:Oper)(d nm b:Nat):Bool:=
 Nat.beq (i+1) b&&(Nat.beq (nx+8*i) nm&&(o.guard.isNone&&((match o.dst with |some d'=>Nat.beq d' d|none=>false)&&Nat.blt d C.sz)))
def gb(C:Ctx)(i nx:Nat)(o:Oper)(t:Nat->SV)(h:ar)(d nm b:Nat):Option (Prop×List (Nat×aB)×SV×List (Nat×Option aB)×ar):=
 match og C i nx o d nm b with
 |true=>gH C nm o (bE C t) h
 |false=>none
theorem fq{d nm v:Nat}(e:gb C i nx o t h d nm v=some (vc,bs,u,wr,h')):i+1=v/\nx+8*i=nm/\o.guard=none/\o.dst=some d/\Nat.blt d C.sz=true/\gH C nm o (bE C t) h=some (vc,bs,u,wr,h'):=by
 unfold gb at e
 split at e
 ·next b=>
  unfold og at b
  simp only[Bool.and_eq_true,Option.isNone_iff_eq_none]at b
  obtain⟨B,D,E,k,G⟩:=b
  refine⟨Nat.eq_of_beq_eq_true B,Nat.eq_of_beq_eq_true D,E,?_,G,e⟩
  split at k
  ·next hd=>rw[hd,Nat.eq_of_beq_eq_true k]
  ·cases k
 ·cases e
theorem sT(d nm b:Nat)(e:gb C i nx o t h d nm b=some (True,bs,u,wr,h'))(k:an C ops b l ⟨upd t d u,h',nx⟩ none K):an C ops i (o::l) ⟨t,h,nx⟩ none K:=by
 obtain⟨v,B,D,E,G,I⟩:=fq e
 exact s1 d nm b v B D E G I trivial k
theorem sO(d nm b:Nat)(e:gb C i nx o t h d nm b=some (vc,bs,u,wr,h'))(k:an C ops b l ⟨upd t d u,h',nx⟩ none K)(v:vc:=by first|trivial|omega):an C ops i (o::l) ⟨t,h,nx⟩ none K:=by
 obtain⟨B,D,E,G,I,J⟩:=fq e
 exact s1 d nm b B D E G I J v k
theorem cJ(nm v:Nat)(E:i+1=v)(B:nx+8*i=nm)(G:o.guard=none)(b:o.dst=none)(e:gH C nm o (bE C t) h=some (vc,bs,u,wr,h'))(k:an C ops v l ⟨t,h',nx⟩ none K)(D:vc:=by first|trivial|omega):an C ops i (o::l) ⟨t,h,nx⟩ none K:=s0 nm v E B G b e D k
variable {acc:List FP}
theorem dT(d nm b:Nat)(e:gb C i nx o t h d nm b=some (True,bs,u,wr,h'))(k:an C ops b l ⟨upd t d u,h',nx⟩ (some (acc++ [(bs.map (·.1),wr.map (·.1))])) K):an C ops i (o::l) ⟨t,h,nx⟩ (some acc) K:=by
 obtain⟨v,B,D,E,G,I⟩:=fq e
 exact d1 d nm b v B D E G I trivial k
theorem dO(d nm b:Nat)(e:gb C i nx o t h d nm b=some (vc,bs,u,wr,h'))(k:an C ops b l ⟨upd t d u,h',nx⟩ (some (acc++ [(bs.map (·.1),wr.map (·.1))])) K)(v:vc:=by first|trivial|omega):an C ops i (o::l) ⟨t,h,nx⟩ (some acc) K:=by
 obtain⟨B,D,E,G,I,J⟩:=fq e
 exact d1 d nm b B D E G I J v k
def uh(C:Ctx)(i nx:Nat)(o:Oper)(t:Nat->SV)(d nm e:Nat):Option Int:=
 match og C i nx o d nm e with
 |true=>match o.op with
  | .binOp op _ y z _=>match(bE C t y).hd,(bE C t z).hd with
   |some (.d (.val (.int .i64 a))),some (.d (.val (.int .i64 b)))=>arith op a b
   |_,_=>none
  |_=>none
 |false=>none
theorem m7{d nm k:Nat}(b:og C i nx o d nm k=true):i+1=k/\nx+8*i=nm/\o.guard=none/\o.dst=some d/\Nat.blt d C.sz=true:=by
 unfold og at b
 simp only[Bool.and_eq_true,Option.isNone_iff_eq_none]at b
 obtain⟨v,B,D,e,E⟩:=b
 refine⟨Nat.eq_of_beq_eq_true v,Nat.eq_of_beq_eq_true B,D,?_,E⟩
 split at e
 ·next hd=>rw[hd,Nat.eq_of_beq_eq_true e]
 ·cases e
theorem m8{d nm v:Nat}{r:Int}(e:uh C i nx o t d nm v=some r):og C i nx o d nm v=true/\∃ op ty y z k a b,o.op= .binOp op ty y z k/\(bE C t y).hd=some (SV.i a)/\(bE C t z).hd=some (SV.i b)/\arith op a b=some r:=by
 unfold uh at e
 split at e
 ·next B=>
  split at e
  ·next op ty y z k D=>
   split at e
   ·next a b E G=>exact⟨B,op,ty,y,z,k,a,b,D,E,G,e⟩
   ·cases e
  ·cases e
 ·cases e
theorem de(d nm v:Nat){r:Int}(e:uh C i nx o t d nm v=some r)(k:an C ops v l ⟨upd t d (SV.i r),h,nx⟩ none K)(B:aj r:=by unfold aj;omega):an C ops i (o::l) ⟨t,h,nx⟩ none K:=by
 obtain⟨D,op,ty,y,z,E,a,b,G,I,J,O⟩:=m8 e
 obtain⟨U,V,W,X,Y⟩:=m7 D
 exact sA d nm v U V W X Y G I J O B k
theorem xN(d nm v:Nat){r:Int}(e:uh C i nx o t d nm v=some r)(k:an C ops v l ⟨upd t d (SV.i r),h,nx⟩ (some (acc++ [([],[])])) K)(B:aj r:=by unfold aj;omega):an C ops i (o::l) ⟨t,h,nx⟩ (some acc) K:=by
 obtain⟨D,op,ty,y,z,E,a,b,G,I,J,O⟩:=m8 e
 obtain⟨U,V,W,X,Y⟩:=m7 D
 exact dA d nm v U V W X Y G I J O B k
def ui(C:Ctx)(ops:List Oper)(i:Nat)(o:Oper)(j:Nat)(want:Bool)(s b:Nat):Bool:=
 Nat.beq (i+1) b&&((match o.guard with |some (e,w)=>Nat.beq e j&&cond want w (!w)|none=>false)&&((match eD ops j with |some s'=>Nat.beq s' s|none=>false)&&aM C o))
theorem m9{j s v:Nat}{want:Bool}(e:ui C ops i o j want s v=true):i+1=v/\o.guard=some (j,want)/\eD ops j=some s/\aM C o=true:=by
 unfold ui at e
 simp only[Bool.and_eq_true]at e
 obtain⟨B,b,k,D⟩:=e
 refine⟨Nat.eq_of_beq_eq_true B,?_,?_,D⟩
 ·split at b
  ·next J w E=>
   simp only[Bool.and_eq_true]at b
   rw[E,Nat.eq_of_beq_eq_true b.1]
   have G:=b.2
   cases want<;>cases w<;>first|rfl|(simp at G;done)
  ·cases b
 ·split at k
  ·next s' I=>rw[I,Nat.eq_of_beq_eq_true k]
  ·cases k
theorem gT{A:Option (List FP)}(j:Nat)(want:Bool)(s k:Nat)(e:ui C ops i o j want s k=true)(v:t s=SV.b want)
  (on:an C ops i ({o with guard:=none}::l) ⟨upd t s (SV.b want),h,nx⟩ A K):an C ops i (o::l) ⟨t,h,nx⟩ A K:=by
 obtain⟨B,D,E,G⟩:=m9 e
 exact g1 j want s 0 k B D E v G on
theorem gF{A:Option (List FP)}(j:Nat)(want:Bool)(s d k:Nat)(e:(ui C ops i o j want s k&&(match o.dst with |some d'=>Nat.beq d' d|none=>false))=true)(D:t s=SV.b (!want))
  (off:an C ops k l ⟨upd t d (.bA []),h,nx⟩ (A.map (· ++ [([],[])])) K):an C ops i (o::l) ⟨t,h,nx⟩ A K:=by
 simp only[Bool.and_eq_true]at e
 obtain⟨E,G,I,v⟩:=m9 e.1
 have hd:o.dst=some d:=by
  have B:=e.2
  split at B
  ·next hd=>rw[hd,Nat.eq_of_beq_eq_true B]
  ·cases B
 exact g0 j want s d k E G I D hd (by unfold aM at v;rw[hd]at v;exact v) off
theorem sV(d nm b:Nat)(e:gb C i nx o t h d nm b=some (vc,bs,u,wr,h'))(v:vc)(k:an C ops b l ⟨upd t d u,h',nx⟩ none K):an C ops i (o::l) ⟨t,h,nx⟩ none K:=sO d nm b e k v
theorem dV(d nm b:Nat)(e:gb C i nx o t h d nm b=some (vc,bs,u,wr,h'))(v:vc)(k:an C ops b l ⟨upd t d u,h',nx⟩ (some (acc++ [(bs.map (·.1),wr.map (·.1))])) K):an C ops i (o::l) ⟨t,h,nx⟩ (some acc) K:=dO d nm b e k v
end
end Go.Proofs.YtifcaekngfgdmaaDoor.Nice
namespace Go.Proofs.YtifcaekngfgdmaaDoor
open Go
theorem sw(a:Nat)(b:a<9223372036854775808):(BitVec.ofInt 64 (a:Int)).toNat=a:=by
 rw[BitVec.ofInt_natCast,BitVec.toNat_ofNat];exact Nat.mod_eq_of_lt (by omega)
theorem mf(a b:Nat)(e:a<9223372036854775808)(k:b<9223372036854775808):bits .or .i64 (a:Int) (b:Int)=((a|||b:Nat):Int):=by
 have v:a|||b<2^63:=Nat.or_lt_two_pow (by omega) (by omega)
 show IntKind.i64.wrap ((BitVec.ofInt 64 (a:Int)|||BitVec.ofInt 64 (b:Int)).toNat:Int)=_
 rw[BitVec.toNat_or,sw a e,sw b k,IntKind.wrap_i64]
 omega
theorem gv(a:Int)(b: -9223372036854775808<=a)(e:a<9223372036854775808):
  (BitVec.ofInt 64 a).toNat=(if a<0 then a+18446744073709551616 else a).toNat:=by
 rw[BitVec.toNat_ofInt]
 split <;>omega
theorem kI(r:BitVec 64):IntKind.i64.wrap (r.toNat:Int)=r.toInt:=by
 rw[IntKind.wrap_i64,BitVec.toInt_eq_toNat_cond]
 have :=r.isLt
 split <;>omega
theorem ofInt_toInt(a:Int)(b: -9223372036854775808<=a)(e:a<9223372036854775808):(BitVec.ofInt 64 a).toInt=a:=by
 rw[BitVec.toInt_ofInt];simp only[Int.bmod];omega
theorem na(a:Int)(b: -9223372036854775808<=a)(e:a<9223372036854775808):bits .xor .i64 a 0=a:=by
 show IntKind.i64.wrap ((BitVec.ofInt 64 a^^^BitVec.ofInt 64 0).toNat:Int)=_
 rw[kI,show BitVec.ofInt 64 0=0#64 from rfl,BitVec.xor_zero,ofInt_toInt a b e]
theorem nc(a:Int)(b: -9223372036854775808<=a)(e:a<9223372036854775808):bits .xor .i64 a (-1)= -a-1:=by
 show IntKind.i64.wrap ((BitVec.ofInt 64 a^^^BitVec.ofInt 64 (-1)).toNat:Int)=_
 rw[kI,show BitVec.ofInt 64 (-1)=BitVec.allOnes 64 from rfl,BitVec.xor_allOnes]
 rw[BitVec.toInt_not,gv a b e]
 simp only[Int.bmod]
 split <;>omega
theorem kJ(a:Int)(b: -9223372036854775808<=a)(e:a<9223372036854775808):bits .and .i64 a 1=a%2:=by
 show IntKind.i64.wrap ((BitVec.ofInt 64 a&&&BitVec.ofInt 64 1).toNat:Int)=_
 rw[BitVec.toNat_and,show(BitVec.ofInt 64 1).toNat=1 from rfl,Nat.and_one_is_mod,IntKind.wrap_i64,gv a b e]
 split <;>omega
end Go.Proofs.YtifcaekngfgdmaaDoor
namespace Go.Proofs.YtifcaekngfgdmaaDoor
open Go Go.RowKit
def bitsOf:Nat->Int->List Int
 |0,_=> []
 |w+1,v=>v/2^w%2::bitsOf w v
theorem bd(w:Nat)(v:Int):(bitsOf w v).length=w:=by induction w with
 |zero=>rfl
 |succ w ih=>simp[bitsOf,ih]
def bt(L:List Int):Prop:=∀ x∈L,x=0\/x=1
theorem iv:bt []:=by simp[bt]
theorem bt.append{L M:List Int}(h:bt L)(k:bt M):bt (L++M):=by
 intro x b
 rcases List.mem_append.1 b with b|b
 ·exact h x b
 ·exact k x b
theorem bt.take{L:List Int}(h:bt L)(k:Nat):bt (L.take k):=fun x b=>h x (List.mem_of_mem_take b)
theorem gf(w:Nat)(v:Int):bt (bitsOf w v):=by
 induction w with
 |zero=>exact iv
 |succ w ih=>
  intro x b
  rcases List.mem_cons.1 b with rfl|b
  ·generalize v/2^w=u;omega
  ·exact ih x b
theorem bt.getD{L:List Int}(h:bt L)(i:Nat):L.getD i 0=0\/L.getD i 0=1:=by
 rcases Nat.lt_or_ge i L.length with b|b
 ·simpa[List.getD,List.getElem?_eq_getElem b]using h _ (List.getElem_mem b)
 ·simp[List.getD,List.getElem?_eq_none b]
theorem mg(w j:Nat)(v:Int)(h:j<w):(bitsOf w v)[j]? =some (v/2^(w-1-j)%2):=by
 induction w generalizing j with
 |zero=>omega
 |succ w ih=>
  cases j with
  |zero=>simp[bitsOf]
  |succ j=>
   simp only[bitsOf,List.getElem?_cons_succ]
   rw[ih j (by omega),show w-1-j=w+1-1-(j+1) by omega]
theorem pd(w j:Nat)(v:Int)(h:j<w):(bitsOf w v).take (j+1)=(bitsOf w v).take j++ [v/2^(w-1-j)%2]:=by
 rw[List.take_add_one,mg w j v h];rfl
def aX(L:List Int)(j:Nat):Int:=
 L.getD (8*j) 0*128+L.getD (8*j+1) 0*64+L.getD (8*j+2) 0*32+L.getD (8*j+3) 0*16+L.getD (8*j+4) 0*8+L.getD (8*j+5) 0*4+L.getD (8*j+6) 0*2+L.getD (8*j+7) 0
def pack(L:List Int):List Int:=(List.range ((L.length+7)/8)).map (aX L)
theorem cf(L:List Int):(pack L).length=(L.length+7)/8:=by simp[pack]
theorem wm(L:List Int)(h:bt L)(j:Nat):0<=aX L j/\aX L j<=255:=by
 have b:=h.getD (8*j);have e:=h.getD (8*j+1);have k:=h.getD (8*j+2);have v:=h.getD (8*j+3)
 have B:=h.getD (8*j+4);have D:=h.getD (8*j+5);have E:=h.getD (8*j+6);have G:=h.getD (8*j+7)
 unfold aX;omega
theorem FH(L:List Int)(h:bt L):∀ x∈pack L,0<=x/\x<=255:=by
 intro x b
 obtain⟨j,_,rfl⟩:=List.mem_map.1 b
 exact wm L h j
theorem sx(L:List Int)(b:Int)(i:Nat):(L++ [b]).getD i 0=if i<L.length then L.getD i 0 else if i=L.length then b else 0:=by
 rcases Nat.lt_or_ge i L.length with e|e
 ·rw[if_pos e];simp[List.getD,List.getElem?_append_left e]
 ·rw[if_neg (by omega)]
  by_cases k:i=L.length
  ·subst k;simp[List.getD]
  ·rw[if_neg k];simp[List.getD,List.getElem?_eq_none (show(L++ [b]).length<=i by simp;omega)]
theorem bX(L:List Int)(i:Nat)(h:L.length<=i):L.getD i 0=0:=by simp[List.getD,List.getElem?_eq_none h]
theorem qE(L:List Int)(b:Int)(j:Nat)(h:j≠L.length/8):aX (L++ [b]) j=aX L j:=by
 unfold aX
 simp only[sx]
 rcases Nat.lt_or_ge j (L.length/8)with e|e
 ·simp only[if_pos (show 8*j<L.length by omega),if_pos (show 8*j+1<L.length by omega),if_pos (show 8*j+2<L.length by omega),if_pos (show 8*j+3<L.length by omega),if_pos (show 8*j+4<L.length by omega),if_pos (show 8*j+5<L.length by omega),if_pos (show 8*j+6<L.length by omega),if_pos (show 8*j+7<L.length by omega)]
 ·simp only[if_neg (show ¬ 8*j<L.length by omega),if_neg (show ¬ 8*j+1<L.length by omega),if_neg (show ¬ 8*j+2<L.length by omega),if_neg (show ¬ 8*j+3<L.length by omega),if_neg (show ¬ 8*j+4<L.length by omega),if_neg (show ¬ 8*j+5<L.length by omega),if_neg (show ¬ 8*j+6<L.length by omega),if_neg (show ¬ 8*j+7<L.length by omega),
   if_neg (show ¬ 8*j=L.length by omega),if_neg (show ¬ 8*j+1=L.length by omega),if_neg (show ¬ 8*j+2=L.length by omega),if_neg (show ¬ 8*j+3=L.length by omega),if_neg (show ¬ 8*j+4=L.length by omega),if_neg (show ¬ 8*j+5=L.length by omega),if_neg (show ¬ 8*j+6=L.length by omega),if_neg (show ¬ 8*j+7=L.length by omega)]
  simp only[bX L (8*j) (by omega),bX L (8*j+1) (by omega),bX L (8*j+2) (by omega),bX L (8*j+3) (by omega),bX L (8*j+4) (by omega),bX L (8*j+5) (by omega),bX L (8*j+6) (by omega),bX L (8*j+7) (by omega)]
theorem yf(L:List Int)(b:Int)(q r i:Nat)(h:L.length=8*q+r):(L++ [b]).getD (8*q+i) 0=if i<r then L.getD (8*q+i) 0 else if i=r then b else 0:=by
 rw[sx,h]
 by_cases e:i<r
 ·rw[if_pos e,if_pos (by omega)]
 ·rw[if_neg e,if_neg (by omega)]
  by_cases k:i=r
  ·rw[if_pos k,if_pos (by omega)]
  ·rw[if_neg k,if_neg (by omega)]
theorem ee(L:List Int)(q r i:Nat)(h:L.length=8*q+r)(b:r<=i):L.getD (8*q+i) 0=0:=bX L _ (by omega)
theorem lU(L:List Int)(j:Nat):aX L j=
 L.getD (8*j+0) 0*128+L.getD (8*j+1) 0*64+L.getD (8*j+2) 0*32+L.getD (8*j+3) 0*16+L.getD (8*j+4) 0*8+L.getD (8*j+5) 0*4+L.getD (8*j+6) 0*2+L.getD (8*j+7) 0:=rfl
theorem lV(L:List Int)(k:bt L)(b:Int)(q r:Nat)(h:L.length=8*q+r)(v:r<8):
  aX (L++ [b]) q=aX L q+b*2^(7-r)/\aX L q%2^(8-r)=0/\0<=aX L q/\aX L q<=256-2^(8-r):=by
 have B:=k.getD (8*q+0);have D:=k.getD (8*q+1);have E:=k.getD (8*q+2);have G:=k.getD (8*q+3)
 have I:=k.getD (8*q+4);have J:=k.getD (8*q+5);have O:=k.getD (8*q+6);have U:=k.getD (8*q+7)
 have V:=ee L q r 0 h;have W:=ee L q r 1 h;have X:=ee L q r 2 h;have Y:=ee L q r 3 h
 have z4:=ee L q r 4 h;have z5:=ee L q r 5 h;have z6:=ee L q r 6 h;have z7:=ee L q r 7 h
 rw[lU,lU]
 simp only[yf L b q r _ h]
 generalize L.getD (8*q+0) 0=a0 at *
 generalize L.getD (8*q+1) 0=a1 at *
 generalize L.getD (8*q+2) 0=a2 at *
 generalize L.getD (8*q+3) 0=a3 at *
 generalize L.getD (8*q+4) 0=a4 at *
 generalize L.getD (8*q+5) 0=a5 at *
 generalize L.getD (8*q+6) 0=a6 at *
 generalize L.getD (8*q+7) 0=a7 at *
 have e:r=0\/r=1\/r=2\/r=3\/r=4\/r=5\/r=6\/r=7:=by omega
 rcases e with rfl|rfl|rfl|rfl|rfl|rfl|rfl|rfl<;>simp at * <;>omega
theorem nd(L:List Int)(j:Nat):(pack L)[j]? =if j<(L.length+7)/8 then some (aX L j)else none:=by
 unfold pack
 rw[List.getElem?_map]
 by_cases h:j<(L.length+7)/8
 ·rw[if_pos h,List.getElem?_range h];rfl
 ·rw[if_neg h,List.getElem?_eq_none (by simpa using h)];rfl
def bQ(L:List Int):List Int:=if L.length%8=0 then pack L++ [0]else pack L
theorem dE(L:List Int):(bQ L).length=L.length/8+1:=by
 unfold bQ;split <;>simp[cf]<;>omega
theorem nf(L:List Int)(j:Nat)(h:j<L.length/8+1):(bQ L)[j]? =some (aX L j):=by
 unfold bQ
 split
 ·next b=>
  rcases Nat.lt_or_ge j (L.length/8)with e|e
  ·rw[List.getElem?_append_left (by rw[cf];omega),nd,if_pos (by omega)]
  ·have :j=L.length/8:=by omega
   subst this
   rw[List.getElem?_append_right (by rw[cf];omega),cf,show L.length/8-(L.length+7)/8=0 by omega]
   have :aX L (L.length/8)=0:=by
    unfold aX
    simp only[bX L (8*(L.length/8)) (by omega),bX L (8*(L.length/8)+1) (by omega),bX L (8*(L.length/8)+2) (by omega),bX L (8*(L.length/8)+3) (by omega),bX L (8*(L.length/8)+4) (by omega),bX L (8*(L.length/8)+5) (by omega),bX L (8*(L.length/8)+6) (by omega),bX L (8*(L.length/8)+7) (by omega)]
    rfl
   rw[this];rfl
 ·next b=>rw[nd,if_pos (by omega)]
theorem Bb(L:List Int)(v:bt L)(b:Int):pack (L++ [b])=(bQ L).set (L.length/8) (aX L (L.length/8)+b*2^(7-L.length%8)):=by
 apply List.ext_getElem?
 intro j
 rw[nd,List.length_append,List.length_cons,List.length_nil,List.getElem?_set,dE]
 by_cases e:j<L.length/8+1
 ·rw[if_pos (by omega)]
  by_cases k:L.length/8=j
  ·subst k
   rw[if_pos rfl,if_pos e,(lV L v b (L.length/8) (L.length%8) (by omega) (by omega)).1]
  ·rw[if_neg k,nf L j e,qE L b j (by omega)]
 ·rw[if_neg (by omega),if_neg (by omega),List.getElem?_eq_none (by rw[dE];omega)]
theorem zB(L:List Int)(I:bt L)(b:Int)(O:b=0\/b=1):
  bits .or .u8 (aX L (L.length/8)) (b*2^(7-L.length%8))=aX L (L.length/8)+b*2^(7-L.length%8)/\0<=b*2^(7-L.length%8)/\b*2^(7-L.length%8)<256:=by
 obtain⟨_,k,v,U⟩:=lV L I b (L.length/8) (L.length%8) (by omega) (by omega)
 generalize aX L (L.length/8)=x at *
 have V:L.length%8<8:=by omega
 generalize L.length%8=r at *
 have e:r=0\/r=1\/r=2\/r=3\/r=4\/r=5\/r=6\/r=7:=by omega
 have key:∀ (m:Nat) (y:Int),0<=x->x<=255->x%2^m=0->0<=y->y<2^m->m<=8->bits .or .u8 x y=x+y:=by
  intro m y B J D E G hm
  have W:(2:Int)^m<=256:=by
   have :m=0\/m=1\/m=2\/m=3\/m=4\/m=5\/m=6\/m=7\/m=8:=by omega
   rcases this with rfl|rfl|rfl|rfl|rfl|rfl|rfl|rfl|rfl<;>decide
  obtain⟨X,rfl⟩:=Int.eq_ofNat_of_zero_le B
  obtain⟨Y,rfl⟩:=Int.eq_ofNat_of_zero_le E
  rw[u8_or_nat _ _ (by omega) (by omega),nat_join m X Y (by exact_mod_cast D) (by exact_mod_cast G)]
  omega
 rcases e with rfl|rfl|rfl|rfl|rfl|rfl|rfl|rfl
 ·refine⟨key 8 _ v ?_ k ?_ ?_ ?_,?_,?_⟩<;>simp at * <;>omega
 ·refine⟨key 7 _ v ?_ k ?_ ?_ ?_,?_,?_⟩<;>simp at * <;>omega
 ·refine⟨key 6 _ v ?_ k ?_ ?_ ?_,?_,?_⟩<;>simp at * <;>omega
 ·refine⟨key 5 _ v ?_ k ?_ ?_ ?_,?_,?_⟩<;>simp at * <;>omega
 ·refine⟨key 4 _ v ?_ k ?_ ?_ ?_,?_,?_⟩<;>simp at * <;>omega
 ·refine⟨key 3 _ v ?_ k ?_ ?_ ?_,?_,?_⟩<;>simp at * <;>omega
 ·refine⟨key 2 _ v ?_ k ?_ ?_ ?_,?_,?_⟩<;>simp at * <;>omega
 ·refine⟨key 1 _ v ?_ k ?_ ?_ ?_,?_,?_⟩<;>simp at * <;>omega
theorem yg(v:Int)(k:Nat)(e: -9223372036854775808<=v)(B:v<9223372036854775808): -9223372036854775808<=v/2^k/\v/2^k<9223372036854775808:=by
 have b:(0:Int)<2^k:=Int.pow_pos (by decide)
 generalize(2:Int)^k=p at *
 constructor
 ·apply Int.le_ediv_of_mul_le b
  omega
 ·apply Int.ediv_lt_of_lt_mul b
  omega
def lK(n:Int):Int:=if n%2=1 then -((n+1)/2)else n/2
def cq(n:Int):Int:=if n<0 then -2*n-1 else 2*n
theorem C0(n:Int)(b:0<=n)(e:n<576460752303423488):bits .xor .i64 (n/2) (-(n%2))=lK n:=by
 unfold lK
 split
 ·next h=>rw[h,nc _ (by omega) (by omega)];omega
 ·next h=>rw[show n%2=0 by omega,Int.neg_zero,na _ (by omega) (by omega)]
theorem Bc(n:Int)(b: -288230376151711744<=n)(e:n<288230376151711744):bits .xor .i64 (n*2) (n/9223372036854775808)=cq n:=by
 unfold cq
 split
 ·next h=>rw[show n/9223372036854775808= -1 by omega,nc _ (by omega) (by omega)];omega
 ·next h=>rw[show n/9223372036854775808=0 by omega,na _ (by omega) (by omega)];omega
theorem C1(n:Int)(b: -288230376151711744<=n)(e:n<288230376151711744):0<=cq n/\cq n<576460752303423488:=by
 unfold cq;split <;>omega
theorem FI(n:Int)(b:0<=n)(e:n<576460752303423488): -288230376151711744<=lK n/\lK n<288230376151711744:=by
 unfold lK;split <;>omega
end Go.Proofs.YtifcaekngfgdmaaDoor
namespace Go.Proofs.YtifcaekngfgdmaaDoor.Nice.Co
open Go
def dm(l:List Int):Nat->Nat->D:=fun i _=> .val (.int .u8 (l.getD i 0))
def cI(l:List Int):SV:= .d (.vec 1 l.length (dm l))
theorem wo(M:List Int)(j:Nat)(h:j<M.length/8+1):(bQ M).getD j 0=aX M j:=by rw[List.getD,nf M j h];rfl
theorem C2{M:List Int}(h:M.length%8=0)(i c:Nat)(k:i<(pack M).length+1)(v:c<1):dZ (dm (pack M)) (pack M).length (iF 1 [.val (.int .u8 0)]) i c=dm (bQ M) i c:=by
 obtain rfl:c=0:=by omega
 have e:bQ M=pack M++ [0]:=by unfold bQ;rw[if_pos h]
 unfold dZ dm
 rw[e]
 by_cases b:i<(pack M).length
 ·rw[if_pos b];simp[List.getD,List.getElem?_append_left b]
 ·obtain rfl:i=(pack M).length:=by omega
  rw[if_neg (Nat.lt_irrefl _),Nat.sub_self]
  have :(pack M++ [0]).getD (pack M).length 0=0:=by simp[List.getD]
  rw[this];rfl
theorem oh{M:List Int}(h: ¬ M.length%8=0):bQ M=pack M:=by unfold bQ;rw[if_neg h]
theorem wq{M:List Int}(v:bt M)(b x:Int)(B:x=aX M (M.length/8)+b*2^(7-M.length%8))(i c:Nat)(k:i<(bQ M).length)(D:c<1):
  pz (dm (bQ M)) (M.length/8) 0 [.val (.int .u8 x)] i c=dm (pack (M++ [b])) i c:=by
 obtain rfl:c=0:=by omega
 subst B
 rw[Bb M v b]
 unfold pz dm
 by_cases h:i=M.length/8
 ·subst h
  simp[List.getD,k]
 ·rw[if_neg (fun e=>h e.1)]
  rw[dE]at k
  simp[List.getD,Ne.symm h]
theorem ng{M:List Int}(b:Int):(bQ M).length=(pack (M++ [b])).length:=by rw[dE,cf];simp;omega
theorem fu{k v:Int}{q:Nat}(h:k=q)(b:q<=64):v.fdiv (2^(min k.toNat 64))=v/2^q:=by
 subst h
 rw[Int.toNat_natCast,Nat.min_eq_left b,Int.fdiv_eq_ediv_of_nonneg _ (Int.le_of_lt (Int.pow_pos (by decide)))]
theorem qF(v:Int)(q:Nat):v/2^q%2=0\/v/2^q%2=1:=by generalize v/2^q=u;omega
theorem zC{v:Int}(e:aj v)(q:Nat):IntKind.u8.wrap (bits .and .i64 (v/2^q) 1)=v/2^q%2:=by
 unfold aj at e
 have hd:=yg v q (by omega) (by omega)
 rw[kJ _ hd.1 hd.2]
 have :=qF v q
 generalize v/2^q%2=b at *
 rcases this with rfl|rfl<;>decide
theorem zD{b k:Int}{r:Nat}(v:b=0\/b=1)(D:r<8)(B:k=7-r):IntKind.u8.wrap (b*2^(min k.toNat 8))=b*2^(7-r):=by
 subst B
 have e:r=0\/r=1\/r=2\/r=3\/r=4\/r=5\/r=6\/r=7:=by omega
 rcases v with rfl|rfl<;>rcases e with rfl|rfl|rfl|rfl|rfl|rfl|rfl|rfl<;>decide
def IC:List Int:= [0,1,0,2,2,6,6,3,12,14,4,24,15,4,59]
def JK:Nat->Nat->D:=fun _ c=> .val (.int .i64 (IC.getD c 0))
def GC:Nat->SV
 |0=> .vp 15 1 JK 0 0
 |_=> .any
def cls(x:Int):Nat:=if x=0 then 0 else if x<64 then 1 else if x<4096 then 2 else if x<16777216 then 3 else 4
def Ci(n:Nat):Int:= [0,2,6,14,15].getD n 0
def um(n:Nat):Nat:= [1,2,3,4,4].getD n 0
def fB(n:Nat):Nat:= [0,6,12,24,59].getD n 0
def qG(n:Nat):SV:= .agg [SV.i (Ci n),SV.i (um n),SV.i (fB n)]
theorem C3(x:Int):cls x<5:=by unfold cls;repeat' split <;>try omega
theorem yh(n:Nat):um n<=60:=by
 unfold um
 match n with
 |0|1|2|3|4=>decide
 |n+5=>simp
theorem C4(n:Nat):fB n<=60:=by
 unfold fB
 match n with
 |0|1|2|3|4=>decide
 |n+5=>simp
theorem HB(n:Nat):aj (Ci n):=by
 unfold Ci aj
 match n with
 |0|1|2|3|4=>decide
 |n+5=>simp
def gI(L:List Int)(n:Int):List Int:=(L++bitsOf (um (cls (cq n))) (Ci (cls (cq n))))++bitsOf (fB (cls (cq n))) (cq n)
def e9(n:Int):List Int:=bitsOf (um (cls (cq n))) (Ci (cls (cq n)))++bitsOf (fB (cls (cq n))) (cq n)
theorem pS(L:List Int)(n:Int):gI L n=L++e9 n:=by unfold gI e9;rw[List.append_assoc]
theorem lF{L:List Int}(h:bt L)(n:Int):bt (gI L n):=(h.append (gf _ _)).append (gf _ _)
theorem nh(L:List Int)(n:Int):(gI L n).length<=L.length+120:=by
 unfold gI
 rw[List.length_append,List.length_append,bd,bd]
 have :=yh (cls (cq n));have :=C4 (cls (cq n));omega
def kh(n:Int):Prop:= -288230376151711744<=n/\n<288230376151711744
theorem C5{n:Int}(h:kh n){a b:Int}(e:a=n*2)(k:b=n/9223372036854775808):bits .xor .i64 a b=cq n:=by subst e;subst k;exact Bc n h.1 h.2
theorem IS{n:Int}(h:kh n):IntKind.i64.wrap (n*2^(min (1:Int).toNat 64))=n*2:=by
 have :(2:Int)^(min (1:Int).toNat 64)=2:=rfl
 rw[this];obtain⟨b,e⟩:=h;exact dP ⟨by omega,by omega⟩
theorem IT(n:Int):n.fdiv (2^(min (63:Int).toNat 64))=n/9223372036854775808:=fu (k:=63) (q:=63) rfl (by decide)
theorem pT(L:List Int)(V:bt L)(hlen:L.length<=1000000)(w:Nat)(v:Int)(hw:w<=60)(U:aj v):Spec Tryd.prog GC 81 [.ptr 0 0 0,SV.i w,SV.i v] [.cells 151 2 [.sl 1 0 (pack L).length,SV.i L.length], .rows 5 1 (pack L).length (dm (pack L))] (fun r X=>r=SV.bA []/\X= [some (.cells 151 2 [.sl 2 0 (pack (L++bitsOf w v)).length,SV.i (L++bitsOf w v).length]),none,some (.rows 5 1 (pack (L++bitsOf w v)).length (dm (pack (L++bitsOf w v))))]):=by
 refine start 60 2 Tryd.func81 rfl rfl rfl rfl ?_
 refine r1<|sT 7 2 1 rfl<|de 8 10 2 rfl<|sT 6 18 3 rfl<|e1 26 rfl<|ab [0,2,6] rfl<|au<|rename 1 rfl rfl ?_
 refine loop (α:=Nat×List Int×Int) 3 (fun z=> [(0, .ptr 0 0 0),(2,SV.i v),(6,SV.i (z.2.2))]) (fun z=> [some (.cells 151 2 [.sl 2 0 (pack (z.2.1)).length,SV.i (z.2.1).length]),none,some (.rows 5 1 (pack (z.2.1)).length (dm (pack (z.2.1))))]) (fun z=>(z.1)<=w/\(z.2.1)=L++(bitsOf w v).take (z.1)/\(z.2.2)=w-1-(z.1)) (fun z=>w-(z.1)) (((0,L,(w:Int)-1):Nat×List Int×Int)) [0,1,26] (fun _=>rfl) (show(0)<=w/\(L)=L++(bitsOf w v).take (0)/\((w:Int)-1)=w-1-(0)from⟨Nat.zero_le _,by simp,by simp⟩) rfl ⟨rfl,rfl,rfl,trivial⟩ ⟨rfl,rfl,trivial⟩ (fun z O=>?_)
 obtain⟨j,M,k⟩:=z
 show W _ _ _ ⟨dG [(0, .ptr 0 0 0),(2,SV.i v),(6,SV.i k)],dC [some (.cells 151 2 [.sl 2 0 (pack M).length,SV.i M.length]),none,some (.rows 5 1 (pack M).length (dm (pack M)))],3⟩
 have O:j<=w/\M=L++(bitsOf w v).take j/\k=w-1-j:=O
 obtain⟨hj,G,hk⟩:=O
 have J:bt M:=(by rw[G];exact V.append ((gf w v).take j))
 have Y:M.length<=1000060:=(by rw[G,List.length_append,List.length_take,bd];omega)
 have aa:(pack M).length<=200000:=(by rw[cf];omega)
 have I:=dE M
 refine ai<|r1<|sT 9 3 1 rfl<|sO 10 11 2 rfl<|e1 19 rfl<|ab [0,2,6,10] rfl ?_
 refine q1 rfl (fun b=>?_) (fun b=>?_)
 try simp only[cs,ne_eq]at b
 refine ak<|tn<|ai<|au<|ai<|r1<|sT 13 19 1 rfl<|sT 14 27 2 rfl<|sT 15 35 3 rfl<|sO 16 43 4 rfl ?_
 refine sD 17 51 5 rfl rfl rfl rfl rfl rfl rfl rfl rfl (by omega) ?_
 refine sO 18 59 6 rfl<|e1 67 rfl<|ab [0,2,6,18] rfl ?_
 refine q1 rfl (fun e=>?_) (fun e=>?_)
 try simp only[cs,ne_eq]at e
 refine r0 ?_
 refine sT 19 67 1 rfl<|sT 20 75 2 rfl<|sT 21 83 3 rfl<|sT 22 91 4 rfl<|sO 23 99 5 rfl<|sT 24 107 6 rfl ?_
 refine sV 25 115 7 rfl ⟨Nat.le_refl _,trivial,(by show((pack M).length+1)*1<=140737488355328;omega),(by simp only[maxLen];omega)⟩ ?_
 refine sT 26 123 8 rfl<|sT 27 131 9 rfl<|cJ 139 10 rfl rfl rfl rfl rfl<|e1 147 rfl<|tn ?_
 refine bP 115 (bQ M).length (dm (bQ M)) rfl (by rw[I,cf];omega) (fun i c B E=>C2 (by omega) i c B E) ?_
 refine bW 0 (.cells 151 2 [.sl 115 0 (bQ M).length,SV.i M.length]) rfl (by rw[show(bQ M).length=(pack M).length+1 from(by rw[I,cf];omega)];try rfl) ?_
 refine kD rfl ?_
 refine dT 28 147 1 rfl<|dT 29 155 2 rfl<|dT 30 163 3 rfl<|dO 31 171 4 rfl<|dT 32 179 5 rfl<|dT 33 187 6 rfl<|dT 34 195 7 rfl<|dO 35 203 8 rfl ?_
 refine dD 36 211 9 rfl rfl rfl rfl rfl rfl rfl rfl rfl (by omega) ?_
 refine dO 37 219 10 rfl ?_
 refine val 37 (.ptr 115 (M.length/8) 0) rfl (by rw[show((M.length:Int)/8).toNat=M.length/8 by omega,Nat.zero_add]) ?_
 refine dO 38 227 11 rfl ?_
 refine val 38 (.d (.val (.int .u8 (aX M (M.length/8))))) rfl (by rw[wo M _ (by omega)]) ?_
 refine dT 39 235 12 rfl<|dT 40 243 13 rfl ?_
 refine dV 41 251 14 rfl (by show 0<=k;omega) ?_
 refine val 41 (SV.i (v/2^(w-1-j))) rfl (congrArg (fun x=>SV.d (D.val (Value.int .i64 x))) (fu (by omega) (by omega))) ?_
 refine dO 42 259 15 rfl<|dT 43 267 16 rfl ?_
 refine val 43 (.d (.val (.int .u8 (v/2^(w-1-j)%2)))) rfl (congrArg (fun x=>SV.d (D.val (Value.int .u8 x))) (zC U _)) ?_
 refine dT 44 275 17 rfl<|dT 45 283 18 rfl<|dT 46 291 19 rfl<|dO 47 299 20 rfl ?_
 refine dD 48 307 21 rfl rfl rfl rfl rfl rfl rfl rfl rfl (by omega) ?_
 refine xN 49 315 22 rfl<|dO 50 323 23 rfl ?_
 refine val 50 (.d (.val (.int .u8 ((v/2^(w-1-j)%2)*2^(7-M.length%8))))) rfl (congrArg (fun x=>SV.d (D.val (Value.int .u8 x))) (zD (qF _ _) (by omega) (by omega))) ?_
 refine dO 51 331 24 rfl ?_
 refine val 51 (.d (.val (.int .u8 (aX M (M.length/8)+(v/2^(w-1-j)%2)*2^(7-M.length%8))))) rfl (congrArg (fun x=>SV.d (D.val (Value.int .u8 x))) (zB M J _ (qF _ _)).1) ?_
 refine dO 52 339 25 rfl ?_
 refine val 52 (.ptr 115 (M.length/8) 0) rfl (by rw[show((M.length:Int)/8).toNat=M.length/8 by omega,Nat.zero_add]) ?_
 refine d0 347 26 rfl rfl rfl rfl rfl (by omega) ?_
 refine iT 355 rfl (by kernel_rfl)<|ab [0,2,6] rfl ?_
 refine r0 ?_
 refine sT 53 355 1 rfl<|sT 54 363 2 rfl<|sT 55 371 3 rfl<|sO 56 379 4 rfl<|de 57 387 5 rfl<|sT 58 395 6 rfl<|sT 59 403 7 rfl<|cJ 411 8 rfl rfl rfl rfl rfl<|e1 419 rfl<|bn<|tn ?_
 refine bP 115 (pack (M++ [(v/2^(w-1-j)%2)])).length (dm (pack (M++ [(v/2^(w-1-j)%2)]))) rfl (ng _) (fun i c B E=>wq J _ _ rfl i c B E) ?_
 refine bW 0 (.cells 151 2 [.sl 115 0 (pack (M++ [(v/2^(w-1-j)%2)])).length,SV.i (M++ [(v/2^(w-1-j)%2)]).length]) rfl (by rw[<-ng,List.length_append];rfl) ?_
 refine r0 ?_
 refine sT 11 419 1 rfl<|de 12 427 2 rfl<|sT 6 435 3 rfl<|e1 443 rfl<|tn ?_
 exact again (((j+1,M++ [(v/2^(w-1-j)%2)],k-1):Nat×List Int×Int)) [0,1,115] (show(j+1)<=w/\(M++ [(v/2^(w-1-j)%2)])=L++(bitsOf w v).take (j+1)/\(k-1)=w-1-(j+1)from⟨by omega,by rw[G,pd w j v (by omega),List.append_assoc],by omega⟩) (show w-(j+1)<w-j from(by omega)) rfl ⟨rfl,rfl,rfl,trivial⟩ ⟨rfl,rfl,trivial⟩
 try simp only[cs,ne_eq]at e
 refine ak<|tn ?_
 refine bP 2 (bQ M).length (dm (bQ M)) rfl (by rw[oh (by omega)]) (fun i c B E=>by rw[oh (by omega)]) ?_
 refine bW 0 (.cells 151 2 [.sl 2 0 (bQ M).length,SV.i M.length]) rfl (by rw[oh (by omega)];try rfl) ?_
 refine kD rfl ?_
 refine dT 28 67 1 rfl<|dT 29 75 2 rfl<|dT 30 83 3 rfl<|dO 31 91 4 rfl<|dT 32 99 5 rfl<|dT 33 107 6 rfl<|dT 34 115 7 rfl<|dO 35 123 8 rfl ?_
 refine dD 36 131 9 rfl rfl rfl rfl rfl rfl rfl rfl rfl (by omega) ?_
 refine dO 37 139 10 rfl ?_
 refine val 37 (.ptr 2 (M.length/8) 0) rfl (by rw[show((M.length:Int)/8).toNat=M.length/8 by omega,Nat.zero_add]) ?_
 refine dO 38 147 11 rfl ?_
 refine val 38 (.d (.val (.int .u8 (aX M (M.length/8))))) rfl (by rw[wo M _ (by omega)]) ?_
 refine dT 39 155 12 rfl<|dT 40 163 13 rfl ?_
 refine dV 41 171 14 rfl (by show 0<=k;omega) ?_
 refine val 41 (SV.i (v/2^(w-1-j))) rfl (congrArg (fun x=>SV.d (D.val (Value.int .i64 x))) (fu (by omega) (by omega))) ?_
 refine dO 42 179 15 rfl<|dT 43 187 16 rfl ?_
 refine val 43 (.d (.val (.int .u8 (v/2^(w-1-j)%2)))) rfl (congrArg (fun x=>SV.d (D.val (Value.int .u8 x))) (zC U _)) ?_
 refine dT 44 195 17 rfl<|dT 45 203 18 rfl<|dT 46 211 19 rfl<|dO 47 219 20 rfl ?_
 refine dD 48 227 21 rfl rfl rfl rfl rfl rfl rfl rfl rfl (by omega) ?_
 refine xN 49 235 22 rfl<|dO 50 243 23 rfl ?_
 refine val 50 (.d (.val (.int .u8 ((v/2^(w-1-j)%2)*2^(7-M.length%8))))) rfl (congrArg (fun x=>SV.d (D.val (Value.int .u8 x))) (zD (qF _ _) (by omega) (by omega))) ?_
 refine dO 51 251 24 rfl ?_
 refine val 51 (.d (.val (.int .u8 (aX M (M.length/8)+(v/2^(w-1-j)%2)*2^(7-M.length%8))))) rfl (congrArg (fun x=>SV.d (D.val (Value.int .u8 x))) (zB M J _ (qF _ _)).1) ?_
 refine dO 52 259 25 rfl ?_
 refine val 52 (.ptr 2 (M.length/8) 0) rfl (by rw[show((M.length:Int)/8).toNat=M.length/8 by omega,Nat.zero_add]) ?_
 refine d0 267 26 rfl rfl rfl rfl rfl (by omega) ?_
 refine iT 275 rfl (by kernel_rfl)<|ab [0,2,6] rfl ?_
 refine r0 ?_
 refine sT 53 275 1 rfl<|sT 54 283 2 rfl<|sT 55 291 3 rfl<|sO 56 299 4 rfl<|de 57 307 5 rfl<|sT 58 315 6 rfl<|sT 59 323 7 rfl<|cJ 331 8 rfl rfl rfl rfl rfl<|e1 339 rfl<|bn<|tn ?_
 refine bP 2 (pack (M++ [(v/2^(w-1-j)%2)])).length (dm (pack (M++ [(v/2^(w-1-j)%2)]))) rfl (ng _) (fun i c B E=>wq J _ _ rfl i c B E) ?_
 refine bW 0 (.cells 151 2 [.sl 2 0 (pack (M++ [(v/2^(w-1-j)%2)])).length,SV.i (M++ [(v/2^(w-1-j)%2)]).length]) rfl (by rw[<-ng,List.length_append];rfl) ?_
 refine r0 ?_
 refine sT 11 339 1 rfl<|de 12 347 2 rfl<|sT 6 355 3 rfl<|e1 363 rfl<|tn ?_
 exact again (((j+1,M++ [(v/2^(w-1-j)%2)],k-1):Nat×List Int×Int)) [0,1,2] (show(j+1)<=w/\(M++ [(v/2^(w-1-j)%2)])=L++(bitsOf w v).take (j+1)/\(k-1)=w-1-(j+1)from⟨by omega,by rw[G,pd w j v (by omega),List.append_assoc],by omega⟩) (show w-(j+1)<w-j from(by omega)) rfl ⟨rfl,rfl,rfl,trivial⟩ ⟨rfl,rfl,trivial⟩
 try simp only[cs,ne_eq]at b
 refine bI<|tx<|tx<|bx ?_
 obtain rfl:M=L++bitsOf w v:=(by rw[G,List.take_of_length_le (by rw[bd];omega)])
 exact oa (π:= [0,1,2]) (ae:= [some (.cells 151 2 [.sl 2 0 (pack (L++bitsOf w v)).length,SV.i (L++bitsOf w v).length]),none,some (.rows 5 1 (pack (L++bitsOf w v)).length (dm (pack (L++bitsOf w v))))]) Tryd.results81 rfl rfl ⟨rfl,rfl,trivial⟩ ⟨rfl,rfl⟩
theorem Bd(n:Int):Spec Tryd.prog GC 95 [SV.i n] [] (fun r k=>r=SV.b (decide (-288230376151711744<=n)&&decide (n<288230376151711744))/\k= []):=by
 refine start 9 0 Tryd.func95 rfl rfl rfl rfl ?_
 refine r1<|sT 2 0 1 rfl<|e1 8 rfl<|ab [0] rfl<|r1<|sT 3 8 1 rfl<|sO 4 16 2 rfl<|sT 5 24 3 rfl ?_
 refine ask 5 rfl (fun e=>?_) (fun e=>?_)
 try simp only[cs,ne_eq]at e
 refine gT 2 true 5 4 rfl rfl<|sT 6 32 4 rfl<|gT 2 true 5 5 rfl rfl<|sO 7 40 5 rfl<|sT 8 48 6 rfl<|sT 2 56 7 rfl<|e1 64 rfl<|ab [2] rfl<|ao ?_
 exact bm 2 (SV.b (decide (-288230376151711744<=n)&&decide (n<288230376151711744))) (π:= []) (ae:= []) Tryd.results95 rfl (by show SV.b _=SV.b _;refine congrArg SV.b (Bool.eq_iff_iff.2 ?_);simp at *;try omega) rfl rfl trivial ⟨rfl,rfl⟩
 try simp only[cs,ne_eq]at e
 refine gF 2 true 5 6 4 rfl rfl<|gF 2 true 5 7 5 rfl rfl<|sT 8 48 6 rfl<|sT 2 56 7 rfl<|e1 64 rfl<|ab [2] rfl<|ao ?_
 exact bm 2 (SV.b (decide (-288230376151711744<=n)&&decide (n<288230376151711744))) (π:= []) (ae:= []) Tryd.results95 rfl (by show SV.b _=SV.b _;refine congrArg SV.b (Bool.eq_iff_iff.2 ?_);simp at *;try omega) rfl rfl trivial ⟨rfl,rfl⟩
theorem C6(n:Int)(h:kh n):Spec Tryd.prog GC 93 [SV.i n] [] (fun r e=>r=SV.bA [SV.i (cq n),SV.i 0]/\e= []):=by
 refine start 12 0 Tryd.func93 rfl rfl rfl rfl ?_
 refine r1<|sT 2 0 1 rfl<|sT 3 8 2 rfl<|e1 16 rfl<|ab [0] rfl<|ai<|r1<|sT 4 16 1 rfl ?_
 refine c1 (Bd n) [] [] 5 24 2 rfl rfl rfl rfl rfl rfl rfl rfl Tryd.func95 rfl rfl rfl rfl trivial rfl rfl ?_
 refine sT 6 32 3 rfl<|e1 40 rfl<|ab [0,6] rfl ?_
 refine q1 rfl (fun b=>?_) (fun b=>?_)
 exfalso;have :=h.1;have :=h.2;simp at b;omega
 try simp only[cs,ne_eq]at b
 refine ak<|tn<|r1<|sT 7 40 1 rfl ?_
 refine sV 8 48 2 rfl (by decide) ?_
 refine val 8 (SV.i (n*2)) rfl (congrArg (fun x=>SV.d (D.val (Value.int .i64 x))) (IS h)) ?_
 refine sT 9 56 3 rfl ?_
 refine sV 10 64 4 rfl (by decide) ?_
 refine val 10 (SV.i (n/9223372036854775808)) rfl (congrArg (fun x=>SV.d (D.val (Value.int .i64 x))) (IT n)) ?_
 refine sO 11 72 5 rfl ?_
 refine val 11 (SV.i (cq n)) rfl (congrArg (fun x=>SV.d (D.val (Value.int .i64 x))) (C5 h rfl rfl)) ?_
 refine sT 2 80 6 rfl<|sT 3 88 7 rfl<|e1 96 rfl<|ab [2,3] rfl<|ao ?_
 exact eF 2 3 (SV.i (cq n)) (SV.i 0) (π:= []) (ae:= []) Tryd.results93 rfl rfl rfl rfl rfl rfl trivial ⟨rfl,rfl⟩
theorem uo(x:Int)(E:0<=x):Spec Tryd.prog GC 29 [SV.i x] [] (fun r B=>r=qG (cls x)/\B= []):=by
 refine start 18 0 Tryd.func29 rfl rfl rfl rfl ?_
 refine r1<|sT 2 0 1 rfl<|e1 8 rfl<|ab [0,2] rfl<|ai<|r1<|sO 5 8 1 rfl<|sT 6 16 2 rfl<|e1 24 rfl<|ab [0,2,5,6] rfl<|au ?_
 refine we 6 ?_
 refine Hx ?_
 refine r1<|sO 7 24 1 rfl<|e1 32 rfl<|ab [0,2,5,6,7] rfl<|ai ?_
 refine q1 rfl (fun b=>?_) (fun b=>?_)
 try simp only[cs,ne_eq]at b
 refine ak<|tn<|ai<|au<|r1 ?_
 refine wh 8 32 1 rfl rfl rfl rfl rfl rfl rfl (by decide) ?_
 refine sT 4 40 2 rfl<|cJ 48 3 rfl rfl rfl rfl rfl<|e1 56 rfl<|ab [0,2,4,5,6] rfl<|r1<|sT 9 56 1 rfl<|sT 10 64 2 rfl<|sO 11 72 3 rfl ?_
 refine val 11 (SV.i 0) rfl rfl ?_
 refine sV 12 80 4 rfl (by decide) ?_
 refine val 12 (SV.i (x/2^0)) rfl (congrArg (fun x=>SV.d (D.val (Value.int .i64 x))) (fu (k:=0) (q:=0) rfl (by decide))) ?_
 refine sO 13 88 5 rfl<|e1 96 rfl<|ab [0,2,4,5,6,13] rfl ?_
 refine q1 rfl (fun e=>?_) (fun e=>?_)
 try simp only[cs,ne_eq]at e
 refine r1<|sO 14 96 1 rfl<|cJ 104 2 rfl rfl rfl rfl rfl<|e1 112 rfl<|ab [2] rfl<|ao<|br<|tr<|tr<|br<|tr ?_
 have v:cls x=0:=(by unfold cls;rw[if_pos (by omega)])
 exact cG (qG (cls x)) (π:= []) (ae:= []) Tryd.results29 rfl (by trivial) (by rw[v];rfl) rfl rfl trivial ⟨rfl,rfl⟩
 try simp only[cs,ne_eq]at e
 refine ak<|bn<|tn ?_
 refine r0 ?_
 refine de 15 96 1 rfl ?_
 refine val 15 (SV.i 1) rfl rfl ?_
 refine sT 6 104 2 rfl<|e1 112 rfl<|tn ?_
 refine Hx ?_
 refine r1<|sO 7 112 1 rfl<|e1 120 rfl<|ab [0,2,5,6,7] rfl<|ai ?_
 refine q1 rfl (fun b=>?_) (fun b=>?_)
 try simp only[cs,ne_eq]at b
 refine ak<|tn<|ai<|au<|r1 ?_
 refine wh 8 120 1 rfl rfl rfl rfl rfl rfl rfl (by decide) ?_
 refine sT 4 128 2 rfl<|cJ 136 3 rfl rfl rfl rfl rfl<|e1 144 rfl<|ab [0,2,4,5,6] rfl<|r1<|sT 9 144 1 rfl<|sT 10 152 2 rfl<|sO 11 160 3 rfl ?_
 refine val 11 (SV.i 6) rfl rfl ?_
 refine sV 12 168 4 rfl (by decide) ?_
 refine val 12 (SV.i (x/2^6)) rfl (congrArg (fun x=>SV.d (D.val (Value.int .i64 x))) (fu (k:=6) (q:=6) rfl (by decide))) ?_
 refine sO 13 176 5 rfl<|e1 184 rfl<|ab [0,2,4,5,6,13] rfl ?_
 refine q1 rfl (fun e=>?_) (fun e=>?_)
 try simp only[cs,ne_eq]at e
 refine r1<|sO 14 184 1 rfl<|cJ 192 2 rfl rfl rfl rfl rfl<|e1 200 rfl<|ab [2] rfl<|ao<|br<|tr<|tr<|br<|tr ?_
 have v:cls x=1:=(by unfold cls;rw[if_neg (by omega)];rw[if_pos (by omega)])
 exact cG (qG (cls x)) (π:= []) (ae:= []) Tryd.results29 rfl (by trivial) (by rw[v];rfl) rfl rfl trivial ⟨rfl,rfl⟩
 try simp only[cs,ne_eq]at e
 refine ak<|bn<|tn ?_
 refine r0 ?_
 refine de 15 184 1 rfl ?_
 refine val 15 (SV.i 2) rfl rfl ?_
 refine sT 6 192 2 rfl<|e1 200 rfl<|tn ?_
 refine Hx ?_
 refine r1<|sO 7 200 1 rfl<|e1 208 rfl<|ab [0,2,5,6,7] rfl<|ai ?_
 refine q1 rfl (fun b=>?_) (fun b=>?_)
 try simp only[cs,ne_eq]at b
 refine ak<|tn<|ai<|au<|r1 ?_
 refine wh 8 208 1 rfl rfl rfl rfl rfl rfl rfl (by decide) ?_
 refine sT 4 216 2 rfl<|cJ 224 3 rfl rfl rfl rfl rfl<|e1 232 rfl<|ab [0,2,4,5,6] rfl<|r1<|sT 9 232 1 rfl<|sT 10 240 2 rfl<|sO 11 248 3 rfl ?_
 refine val 11 (SV.i 12) rfl rfl ?_
 refine sV 12 256 4 rfl (by decide) ?_
 refine val 12 (SV.i (x/2^12)) rfl (congrArg (fun x=>SV.d (D.val (Value.int .i64 x))) (fu (k:=12) (q:=12) rfl (by decide))) ?_
 refine sO 13 264 5 rfl<|e1 272 rfl<|ab [0,2,4,5,6,13] rfl ?_
 refine q1 rfl (fun e=>?_) (fun e=>?_)
 try simp only[cs,ne_eq]at e
 refine r1<|sO 14 272 1 rfl<|cJ 280 2 rfl rfl rfl rfl rfl<|e1 288 rfl<|ab [2] rfl<|ao<|br<|tr<|tr<|br<|tr ?_
 have v:cls x=2:=(by unfold cls;rw[if_neg (by omega)];rw[if_neg (by omega)];rw[if_pos (by omega)])
 exact cG (qG (cls x)) (π:= []) (ae:= []) Tryd.results29 rfl (by trivial) (by rw[v];rfl) rfl rfl trivial ⟨rfl,rfl⟩
 try simp only[cs,ne_eq]at e
 refine ak<|bn<|tn ?_
 refine r0 ?_
 refine de 15 272 1 rfl ?_
 refine val 15 (SV.i 3) rfl rfl ?_
 refine sT 6 280 2 rfl<|e1 288 rfl<|tn ?_
 refine Hx ?_
 refine r1<|sO 7 288 1 rfl<|e1 296 rfl<|ab [0,2,5,6,7] rfl<|ai ?_
 refine q1 rfl (fun b=>?_) (fun b=>?_)
 try simp only[cs,ne_eq]at b
 refine ak<|tn<|ai<|au<|r1 ?_
 refine wh 8 296 1 rfl rfl rfl rfl rfl rfl rfl (by decide) ?_
 refine sT 4 304 2 rfl<|cJ 312 3 rfl rfl rfl rfl rfl<|e1 320 rfl<|ab [0,2,4,5,6] rfl<|r1<|sT 9 320 1 rfl<|sT 10 328 2 rfl<|sO 11 336 3 rfl ?_
 refine val 11 (SV.i 24) rfl rfl ?_
 refine sV 12 344 4 rfl (by decide) ?_
 refine val 12 (SV.i (x/2^24)) rfl (congrArg (fun x=>SV.d (D.val (Value.int .i64 x))) (fu (k:=24) (q:=24) rfl (by decide))) ?_
 refine sO 13 352 5 rfl<|e1 360 rfl<|ab [0,2,4,5,6,13] rfl ?_
 refine q1 rfl (fun e=>?_) (fun e=>?_)
 try simp only[cs,ne_eq]at e
 refine r1<|sO 14 360 1 rfl<|cJ 368 2 rfl rfl rfl rfl rfl<|e1 376 rfl<|ab [2] rfl<|ao<|br<|tr<|tr<|br<|tr ?_
 have v:cls x=3:=(by unfold cls;rw[if_neg (by omega)];rw[if_neg (by omega)];rw[if_neg (by omega)];rw[if_pos (by omega)])
 exact cG (qG (cls x)) (π:= []) (ae:= []) Tryd.results29 rfl (by trivial) (by rw[v];rfl) rfl rfl trivial ⟨rfl,rfl⟩
 try simp only[cs,ne_eq]at e
 refine ak<|bn<|tn ?_
 refine r0 ?_
 refine de 15 360 1 rfl ?_
 refine val 15 (SV.i 4) rfl rfl ?_
 refine sT 6 368 2 rfl<|e1 376 rfl<|tn ?_
 refine Hx ?_
 refine r1<|sO 7 376 1 rfl<|e1 384 rfl<|ab [0,2,5,6,7] rfl<|ai ?_
 refine q1 rfl (fun b=>?_) (fun b=>?_)
 try simp only[cs,ne_eq]at b
 refine ak<|tn<|ai<|au<|r1 ?_
 refine wh 8 384 1 rfl rfl rfl rfl rfl rfl rfl (by decide) ?_
 refine sT 4 392 2 rfl<|cJ 400 3 rfl rfl rfl rfl rfl<|e1 408 rfl<|ab [0,2,4,5,6] rfl<|r1<|sT 9 408 1 rfl<|sT 10 416 2 rfl<|sO 11 424 3 rfl ?_
 refine val 11 (SV.i 59) rfl rfl ?_
 refine sV 12 432 4 rfl (by decide) ?_
 refine val 12 (SV.i (x/2^59)) rfl (congrArg (fun x=>SV.d (D.val (Value.int .i64 x))) (fu (k:=59) (q:=59) rfl (by decide))) ?_
 refine sO 13 440 5 rfl<|e1 448 rfl<|ab [0,2,4,5,6,13] rfl ?_
 refine q1 rfl (fun e=>?_) (fun e=>?_)
 try simp only[cs,ne_eq]at e
 refine r1<|sO 14 448 1 rfl<|cJ 456 2 rfl rfl rfl rfl rfl<|e1 464 rfl<|ab [2] rfl<|ao<|br<|tr<|tr<|br<|tr ?_
 have v:cls x=4:=(by unfold cls;rw[if_neg (by omega)];rw[if_neg (by omega)];rw[if_neg (by omega)];rw[if_neg (by omega)])
 exact cG (qG (cls x)) (π:= []) (ae:= []) Tryd.results29 rfl (by trivial) (by rw[v];rfl) rfl rfl trivial ⟨rfl,rfl⟩
 try simp only[cs,ne_eq]at e
 refine ak<|bn<|tn ?_
 refine r0 ?_
 refine de 15 448 1 rfl ?_
 refine val 15 (SV.i 5) rfl rfl ?_
 refine sT 6 456 2 rfl<|e1 464 rfl<|tn ?_
 refine Hx ?_
 refine r1<|sO 7 464 1 rfl<|e1 472 rfl<|ab [0,2,5,6,7] rfl<|ai ?_
 refine q1 rfl (fun b=>?_) (fun b=>?_)
 exact absurd b (by decide)
 try simp only[cs,ne_eq]at b
 refine bI<|tx<|tx<|bx<|tn<|r1 ?_
 refine sV 16 472 1 rfl (by decide) ?_
 refine sV 17 480 2 rfl (by decide) ?_
 refine cJ 488 3 rfl rfl rfl rfl rfl<|e1 496 rfl<|ab [2] rfl<|ao ?_
 have v:cls x=4:=(by unfold cls;rw[if_neg (by omega)];rw[if_neg (by omega)];rw[if_neg (by omega)];rw[if_neg (by omega)])
 exact cG (qG (cls x)) (π:= []) (ae:= []) Tryd.results29 rfl (by trivial) (by rw[v];rfl) rfl rfl trivial ⟨rfl,rfl⟩
 exact absurd b (by decide)
 exact absurd b (by decide)
 exact absurd b (by decide)
 exact absurd b (by decide)
 exact absurd b (by decide)
theorem ni(L:List Int)(b:bt L)(hlen:L.length<=900000)(n:Int)(h:kh n):Spec Tryd.prog GC 83 [.ptr 0 0 0,SV.i n] [.cells 151 2 [.sl 1 0 (pack L).length,SV.i L.length], .rows 5 1 (pack L).length (dm (pack L))] (fun r e=>r=SV.bA []/\e= [some (.cells 151 2 [.sl 2 0 (pack (gI L n)).length,SV.i (gI L n).length]),none,some (.rows 5 1 (pack (gI L n)).length (dm (pack (gI L n))))]):=by
 have k:=C1 n h.1 h.2
 refine start 25 2 Tryd.func83 rfl rfl rfl rfl ?_
 refine r1<|sT 8 2 1 rfl ?_
 refine c1 (C6 n h) [] [] 9 10 2 rfl rfl rfl rfl rfl rfl rfl rfl Tryd.func93 rfl rfl rfl rfl trivial rfl rfl ?_
 refine sT 7 18 3 rfl<|sT 10 26 4 rfl<|sT 11 34 5 rfl<|sT 4 42 6 rfl<|sT 5 50 7 rfl<|e1 58 rfl<|ab [0,4] rfl<|r1<|sT 12 58 1 rfl ?_
 refine c1 (uo (cq n) k.1) [] [] 13 66 2 rfl rfl rfl rfl rfl rfl rfl rfl Tryd.func29 rfl rfl rfl rfl trivial rfl rfl ?_
 refine sT 6 74 3 rfl<|cJ 82 4 rfl rfl rfl rfl rfl<|e1 90 rfl<|ab [0,4,6] rfl<|r1<|sT 14 90 1 rfl<|sT 15 98 2 rfl<|sO 16 106 3 rfl<|sT 17 114 4 rfl<|sO 18 122 5 rfl ?_
 refine c1 (pT L b (by omega) (um (cls (cq n))) (Ci (cls (cq n))) (yh _) (HB _)) [0,1] [0,1,130] 19 130 6 rfl rfl rfl rfl rfl rfl rfl rfl Tryd.func81 rfl rfl rfl rfl ⟨rfl,rfl,trivial⟩ rfl rfl ?_
 refine e1 138 rfl<|ab [0,4,6] rfl ?_
 refine r0 ?_
 refine sT 20 138 1 rfl<|sT 21 146 2 rfl<|sO 22 154 3 rfl<|sT 23 162 4 rfl ?_
 refine c1 (pT (L++bitsOf (um (cls (cq n))) (Ci (cls (cq n)))) (b.append (gf _ _)) (by rw[List.length_append,bd];have :=yh (cls (cq n));omega) (fB (cls (cq n))) (cq n) (C4 _) ⟨by omega,by omega⟩) [0,130] [0,130,170] 24 170 5 rfl rfl rfl rfl rfl rfl rfl rfl Tryd.func81 rfl rfl rfl rfl ⟨rfl,rfl,trivial⟩ rfl rfl ?_
 refine e1 178 rfl ?_
 exact oa (π:= [0,1,170]) (ae:= [some (.cells 151 2 [.sl 2 0 (pack (gI L n)).length,SV.i (gI L n).length]),none,some (.rows 5 1 (pack (gI L n)).length (dm (pack (gI L n))))]) Tryd.results83 rfl rfl ⟨rfl,rfl,trivial⟩ ⟨rfl,rfl⟩
theorem sB(L:List Int):Spec Tryd.prog GC 84 [.ptr 0 0 0] [.cells 151 2 [.sl 1 0 (pack L).length,SV.i L.length], .rows 5 1 (pack L).length (dm (pack L))] (fun r b=>r= .sl 1 0 (pack L).length/\b= [some (.cells 151 2 [.sl 1 0 (pack L).length,SV.i L.length]),some (.rows 5 1 (pack L).length (dm (pack L)))]):=by
 refine start 7 2 Tryd.func84 rfl rfl rfl rfl ?_
 refine r1<|sT 2 2 1 rfl<|e1 10 rfl<|ab [0] rfl<|r1<|sT 3 10 1 rfl<|sT 4 18 2 rfl<|sT 5 26 3 rfl<|sO 6 34 4 rfl<|sT 2 42 5 rfl<|e1 50 rfl<|ab [2] rfl<|ao ?_
 exact bm 2 (.sl 1 0 (pack L).length) (π:= [0,1]) (ae:= [some (.cells 151 2 [.sl 1 0 (pack L).length,SV.i L.length]),some (.rows 5 1 (pack L).length (dm (pack L)))]) Tryd.results84 rfl rfl rfl rfl ⟨rfl,rfl,trivial⟩ ⟨rfl,rfl⟩
end Go.Proofs.YtifcaekngfgdmaaDoor.Nice.Co
namespace Go.Proofs.YtifcaekngfgdmaaDoor
open Go Go.RowKit
def oj(w:World):Prop:=∃ (t:TypeId) (b:Nat×Nat),w.heap[(0:Nat)]? =some (.cells #[.int .i64 0, .int .i64 1, .int .i64 0, .int .i64 2, .int .i64 2, .int .i64 6, .int .i64 6, .int .i64 3, .int .i64 12, .int .i64 14, .int .i64 4, .int .i64 24, .int .i64 15, .int .i64 4, .int .i64 59] t b)
theorem Be{H:Type}{enc:TypeId×Value->H}{P:Program}{w:World}{base:Nat}{sp:Nat->Bool}{held:Bool}{fuel:Nat}{t e:TypeId}{n m:Nat}{fs:Array Field}{cs:List Value}{rows:List (DataW H)}{p:List MemPlace}
  (ht:P.underlying t=some (.array n e)) (he:P.underlying e=some (.struct fs)) (U:P.cellsOf e=m)
  (h:DataW.trod enc P w base sp held fuel t cs=some (.agg rows,p)) (i j:Nat) (f:Field) (r:List (DataW H)) (z:Int) (hi:i<n) (hr:rows[i]? =some (.agg r)) (hj:fs[j]? =some f) (I:f.offset=j) (V:P.underlying f.type=some (.int .i64)) (W:P.cellsOf f.type=1) (X:j<m)
  (hz:r[j]? =some (.lit (.int .i64 z))):cs[i*m+j]? =some (.int .i64 z):=by
 obtain⟨xs,k,_,hx,_,ax,Y⟩:=DataW.trod_array ht h
 have h1:=Y i hi
 rw[U]at h1
 have J:xs[i]? =some (xs[i]'(by omega)):=List.getElem?_eq_getElem (by omega)
 rw[J]at h1
 have B:=(Prod.mk.inj hx).1
 injection B with B
 have D:(xs.map (·.1))[i]? =some (.agg r):=by rw[<-B];exact hr
 rw[List.getElem?_map,J]at D
 simp only[Option.map_some,Option.some.injEq]at D
 obtain⟨G,k2,_,hy,_,aa,hf⟩:=DataW.trod_struct he h1
 have h2:=hf j f hj
 rw[I,W]at h2
 have E:j<G.length:=by rw[aa];exact(Array.getElem?_eq_some_iff.1 hj).1
 have O:G[j]? =some (G[j]'E):=List.getElem?_eq_getElem E
 rw[O]at h2
 obtain⟨z',ah,al,_⟩:=DataW.trod_int V h2
 have v:DataW.agg (G.map (·.1))= .agg r:=by
  have :=congrArg Prod.fst hy
  rw[<-D];exact this.symm
 injection v with v
 have b:(G.map (·.1))[j]? =some (.lit (.int .i64 z)):=by rw[v];exact hz
 rw[List.getElem?_map,O]at b
 simp only[Option.map_some,Option.some.injEq]at b
 have av:z'=z:=by
  have :(G[j]'E).1= .lit (.int .i64 z'):=by rw[al]
  rw[this]at b
  injection b with b
  injection b
 subst av
 have h3:=congrArg (·[0]?) ah
 simp only[List.getElem?_take,List.getElem?_drop]at h3
 simpa[X]using h3
set_option maxRecDepth 100000 in
theorem uq{W:World}(h:laidMetH Tryd.prog [("barograph/zig.classes",Rows.laid_barograph_zig_classes)] W):oj W:=by
 have h':laidMet Tryd.prog [("barograph/zig.classes",Rows.laid_barograph_zig_classes)] W:=h
 obtain⟨ps,⟨g',t',cs,fuel,p,q,D,E,b,hd,_,_⟩,_⟩:=h'
 have hg:Tryd.prog.globalNamed "barograph/zig.classes" =some 0:=by kernel_rfl
 have G:(Tryd.prog.globals[(0:Nat)]?).map (·.type)=some 88:=by kernel_rfl
 obtain rfl:=Option.some.inj (hg.symm.trans D)
 obtain rfl:=Option.some.inj (G.symm.trans E)
 have al:cs.toList.length=15:=by
  obtain⟨_,_,_,_,hl,_,_⟩:=DataW.trod_array Tryd.underlying88 hd
  rw[hl];kernel_rfl
 have key:=fun i j f r z B hr hj v I J O hz=>Be (m:=3) Tryd.underlying88 Tryd.underlying87 (by kernel_rfl) hd i j f r z B hr hj v I J O hz
 have e:=Tryd.underlying3
 have k:Tryd.prog.cellsOf 3=1:=by kernel_rfl
 have k0:cs.toList[0]? =some (.int .i64 0):=key 0 0 _ _ 0 (by decide) rfl rfl rfl e k (by decide) rfl
 have k1:cs.toList[1]? =some (.int .i64 1):=key 0 1 _ _ 1 (by decide) rfl rfl rfl e k (by decide) rfl
 have k2:cs.toList[2]? =some (.int .i64 0):=key 0 2 _ _ 0 (by decide) rfl rfl rfl e k (by decide) rfl
 have k3:cs.toList[3]? =some (.int .i64 2):=key 1 0 _ _ 2 (by decide) rfl rfl rfl e k (by decide) rfl
 have k4:cs.toList[4]? =some (.int .i64 2):=key 1 1 _ _ 2 (by decide) rfl rfl rfl e k (by decide) rfl
 have k5:cs.toList[5]? =some (.int .i64 6):=key 1 2 _ _ 6 (by decide) rfl rfl rfl e k (by decide) rfl
 have k6:cs.toList[6]? =some (.int .i64 6):=key 2 0 _ _ 6 (by decide) rfl rfl rfl e k (by decide) rfl
 have k7:cs.toList[7]? =some (.int .i64 3):=key 2 1 _ _ 3 (by decide) rfl rfl rfl e k (by decide) rfl
 have k8:cs.toList[8]? =some (.int .i64 12):=key 2 2 _ _ 12 (by decide) rfl rfl rfl e k (by decide) rfl
 have k9:cs.toList[9]? =some (.int .i64 14):=key 3 0 _ _ 14 (by decide) rfl rfl rfl e k (by decide) rfl
 have U:cs.toList[10]? =some (.int .i64 4):=key 3 1 _ _ 4 (by decide) rfl rfl rfl e k (by decide) rfl
 have V:cs.toList[11]? =some (.int .i64 24):=key 3 2 _ _ 24 (by decide) rfl rfl rfl e k (by decide) rfl
 have X:cs.toList[12]? =some (.int .i64 15):=key 4 0 _ _ 15 (by decide) rfl rfl rfl e k (by decide) rfl
 have Y:cs.toList[13]? =some (.int .i64 4):=key 4 1 _ _ 4 (by decide) rfl rfl rfl e k (by decide) rfl
 have aa:cs.toList[14]? =some (.int .i64 59):=key 4 2 _ _ 59 (by decide) rfl rfl rfl e k (by decide) rfl
 have ah:cs.toList= [.int .i64 0, .int .i64 1, .int .i64 0, .int .i64 2, .int .i64 2, .int .i64 6, .int .i64 6, .int .i64 3, .int .i64 12, .int .i64 14, .int .i64 4, .int .i64 24, .int .i64 15, .int .i64 4, .int .i64 59]:=by
  apply List.ext_getElem?
  intro i
  rcases Nat.lt_or_ge i 15 with B|B
  ·have :i=0\/i=1\/i=2\/i=3\/i=4\/i=5\/i=6\/i=7\/i=8\/i=9\/i=10\/i=11\/i=12\/i=13\/i=14:=by omega
   rcases this with rfl|rfl|rfl|rfl|rfl|rfl|rfl|rfl|rfl|rfl|rfl|rfl|rfl|rfl|rfl
   ·exact k0
   ·exact k1
   ·exact k2
   ·exact k3
   ·exact k4
   ·exact k5
   ·exact k6
   ·exact k7
   ·exact k8
   ·exact k9
   ·exact U
   ·exact V
   ·exact X
   ·exact Y
   ·exact aa
  ·rw[List.getElem?_eq_none (by omega),List.getElem?_eq_none (by simpa using B)]
 simp only[World.var?,hg,Option.bind_some]at b
 split at b
 ·rename_i av t fr he
  simp only[Option.some.injEq]at b
  refine⟨t,fr,?_⟩
  rw[he,b,<-Array.toArray_toList (xs:=cs),ah]
 ·cases b
theorem Bf{W:World}(h:oj W):∀ g ρ,Nice.VR (fun b=>W.heap[b]?) ρ (Nice.Co.GC g) (.pointer (some ⟨g,0,none⟩)):=by
 intro g ρ
 by_cases k:g=0
 ·subst k
  obtain⟨T,v,B⟩:=h
  have key:∀ c,c<15->(#[.int .i64 0, .int .i64 1, .int .i64 0, .int .i64 2, .int .i64 2, .int .i64 6, .int .i64 6, .int .i64 3, .int .i64 12, .int .i64 14, .int .i64 4, .int .i64 24, .int .i64 15, .int .i64 4, .int .i64 59]:Array Value)[c]? =some (.int .i64 (Nice.Co.IC.getD c 0)):=by
   intro c e
   have :c=0\/c=1\/c=2\/c=3\/c=4\/c=5\/c=6\/c=7\/c=8\/c=9\/c=10\/c=11\/c=12\/c=13\/c=14:=by omega
   rcases this with rfl|rfl|rfl|rfl|rfl|rfl|rfl|rfl|rfl|rfl|rfl|rfl|rfl|rfl|rfl<;>rfl
  refine .vp 15 1 Nice.Co.JK 0 0 0 0 _ T v (fun i c=> .int .i64 (Nice.Co.IC.getD c 0)) B (fun i c D e=>?_) (fun i c D e=> .val _ rfl)
  obtain rfl:i=0:=by omega
  rw[show 0+0*15+c=c by omega];exact key c e
 ·have :Nice.Co.GC g= .any:=by
   unfold Nice.Co.GC
   split
   ·exact absurd rfl k
   ·rfl
  rw[this];exact .any _
end Go.Proofs.YtifcaekngfgdmaaDoor
namespace Go.Proofs.YtifcaekngfgdmaaDoor.Nice.Co
open Go Go.Conc
theorem bV.weaken{C:Ctx}{o:Oper}{nm:Nat}{v:Operand->SV}{bs:List (Nat×aB)}{u u':SV}{wr:List (Nat×Option aB)}(h:bV C o nm v bs (fun x y=>x=u/\y=wr))(I:∀ M ρ z,VR M ρ u z->VR M ρ u' z):bV C o nm v bs (fun x y=>x=u'/\y=wr):=
 fun K A F M ρ a J w O U V W B D X b ops i rest k cs E G Y hK=>h K A F M ρ a J w O U V W B D X b ops i rest k cs E G Y fun A' M' aq x y z w' a0 a1 a2 a3 e a5 a6 a7 a8=>hK A' M' aq u' y z w' a0 a1 a2 a3 ⟨rfl,e.2⟩ (I _ _ _ (e.1▸a5)) a6 a7 a8
section
variable {C:Ctx} {ops:List Oper} {i:Nat} {o:Oper} {l:List Oper} {t:Nat->SV} {h h':ar} {nx:Nat} {K:St->Prop} {vc:Prop} {bs:List (Nat×aB)} {u:SV} {wr:List (Nat×Option aB)} {acc:List FP}
theorem GY(u':SV)(d nm D:Nat)(E:i+1=D)(v:nx+8*i=nm)(G:o.guard=none)(b:o.dst=some d)(hd:Nat.blt d C.sz=true)(e:gH C nm o (bE C t) h=some (vc,bs,u,wr,h'))(B:vc)(I:∀ M ρ z,VR M ρ u z->VR M ρ u' z)
  (k:an C ops D l ⟨upd t d u',h',nx⟩ none K):an C ops i (o::l) ⟨t,h,nx⟩ none K:=by
 subst E;subst v
 obtain⟨e1,J⟩:=dM e
 obtain⟨O,U,V⟩:=uf e1 B
 refine cp (σ:=⟨t,h,nx⟩) G (by unfold aM;rw[b];exact hd) (O.weaken I) U V ?_
 unfold St.app;rw[b,J];exact k
theorem Fi(u':SV)(d nm D:Nat)(E:i+1=D)(v:nx+8*i=nm)(G:o.guard=none)(b:o.dst=some d)(hd:Nat.blt d C.sz=true)(e:gH C nm o (bE C t) h=some (vc,bs,u,wr,h'))(B:vc)(I:∀ M ρ z,VR M ρ u z->VR M ρ u' z)
  (k:an C ops D l ⟨upd t d u',h',nx⟩ (some (acc++ [(bs.map (·.1),wr.map (·.1))])) K):an C ops i (o::l) ⟨t,h,nx⟩ (some acc) K:=by
 subst E;subst v
 obtain⟨e1,J⟩:=dM e
 obtain⟨O,U,V⟩:=uf e1 B
 refine cp (σ:=⟨t,h,nx⟩) G (by unfold aM;rw[b];exact hd) (O.weaken I) U V ?_
 unfold St.app;rw[b,J];exact k
end
end Go.Proofs.YtifcaekngfgdmaaDoor.Nice.Co
namespace Go.Proofs.YtifcaekngfgdmaaDoor.Nice.Co
open Go
structure aR where
 t:Int
 v:Int
 deriving Inhabited,DecidableEq
def b6(l:List aR):Nat->Nat->D:=fun i c=>match c with |0=> .val (.int .i64 (l.getD i default).t)|1=> .val (.int .i64 (l.getD i default).v)|_=> .any
def jD(l:List aR):SV:= .d (.vec 2 l.length (b6 l))
def nj(s:aR):SV:= .agg [SV.i s.t,SV.i s.v]
structure jY (l:List aR):Prop where
 n:l.length<=9223372036854775807
 t:∀ k,aj (l.getD k default).t
 v:∀ k,aj (l.getD k default).v
structure wu where
 t:Int
 v:Int
 st:Int
 n:Int
def fh(a:wu):List SV:= [SV.i a.t,SV.i a.v,SV.i a.st,SV.i a.n]
def cK(x:Int):Prop:= -36028797018963968<=x/\x<36028797018963968
instance (x:Int):Decidable (cK x):=inferInstanceAs (Decidable (_/\_))
def bC(a:wu)(s:aR):Int:=if cK s.t/\cK s.v then(if 0<a.n/\s.t<=a.t then 9 else 0)else 11
def cT(a:wu)(s:aR):Int:=if a.n=0 then s.t else s.t-a.t-a.st
def cV(a:wu)(s:aR):Int:=if a.n=0 then s.v else s.v-a.v
def Bg(a:wu)(s:aR):wu:=⟨s.t,s.v,if 0<a.n then s.t-a.t else a.st,a.n+1⟩
structure wv (a:wu):Prop where
 t:cK a.t
 v:cK a.v
 st: -72057594037927936<=a.st/\a.st<=72057594037927936
 n:0<=a.n/\a.n<=1000
def aT(l:List aR):Nat->wu
 |0=>⟨0,0,0,0⟩
 |k+1=>Bg (aT l k) (l.getD k default)
def aN(l:List aR):Nat->Int
 |0=>0
 |k+1=>if aN l k=0 then bC (aT l k) (l.getD k default)else aN l k
def aE(l:List aR):Int:=if 120<l.length then 1 else aN l l.length
def cv(l:List aR):Nat->List Int
 |0=> []++bitsOf 8 l.length
 |k+1=>gI (gI (cv l k) (cT (aT l k) (l.getD k default))) (cV (aT l k) (l.getD k default))
def bf(l:List aR):List Int:=pack (cv l l.length)
theorem qH(l:List aR):∀ k,(aT l k).n=k
 |0=>rfl
 |k+1=>by show(aT l k).n+1=_;rw[qH l k];omega
theorem iw{a:wu}{s:aR}(h:bC a s=0):cK s.t/\cK s.v/\(0<a.n->a.t<s.t):=by
 unfold bC at h
 split at h
 ·next b=>
  split at h
  ·cases h
  ·next k=>exact⟨b.1,b.2,fun B=>by
    have : ¬ s.t<=a.t:=fun e=>k ⟨B,e⟩
    omega⟩
 ·cases h
theorem gJ{l:List aR}{k:Nat}(h:aN l (k+1)=0):aN l k=0/\bC (aT l k) (l.getD k default)=0:=by
 unfold aN at h
 split at h
 ·next b=>exact⟨b,h⟩
 ·next b=>exact absurd h b
theorem jE{l:List aR}{k n:Nat}(v:k<=n)(h:aN l n=0):aN l k=0:=by
 induction n with
 |zero=>
  obtain rfl:k=0:=by omega
  exact h
 |succ n ih=>
  rcases Nat.lt_or_ge n k with e|b
  ·obtain rfl:k=n+1:=by omega
   exact h
  ·exact ih b (gJ h).1
theorem ur{l:List aR}{k n:Nat}(v:k<=n)(h:aN l k≠0):aN l n=aN l k:=by
 induction n with
 |zero=>
  obtain rfl:k=0:=by omega
  rfl
 |succ n ih=>
  rcases Nat.lt_or_ge n k with e|b
  ·obtain rfl:k=n+1:=by omega
   rfl
  ·have :=ih b
   show(if aN l n=0 then _ else aN l n)=_
   rw[if_neg (by rw[this];exact h),this]
theorem yi{l:List aR}{k n:Nat}(b:k<n)(v:aN l k=0)(h:bC (aT l k) (l.getD k default)≠0):aN l n=bC (aT l k) (l.getD k default):=by
 have e:aN l (k+1)=bC (aT l k) (l.getD k default):=by show(if _ then _ else _)=_;rw[if_pos v]
 rw[ur (k:=k+1) b (by rw[e];exact h),e]
theorem nk{l:List aR}{k:Nat}(b:aN l k=0)(h:bC (aT l k) (l.getD k default)=0):aN l (k+1)=0:=by show(if _ then _ else _)=_;rw[if_pos b,h]
theorem g8{l:List aR}{k n:Nat}(h:aN l n=0)(b:k<n):cK (l.getD k default).t/\cK (l.getD k default).v/\(0<k->(aT l k).t<(l.getD k default).t):=by
 have :=iw (gJ (jE (show k+1<=n from b) h)).2
 rw[qH]at this
 exact⟨this.1,this.2.1,fun b=>this.2.2 (by omega)⟩
theorem yj(l:List aR){k:Nat}(b:0<k):(aT l k).t=(l.getD (k-1) default).t/\(aT l k).v=(l.getD (k-1) default).v:=by
 obtain⟨j,rfl⟩:∃ j,k=j+1:=⟨k-1,by omega⟩
 exact⟨rfl,rfl⟩
theorem FJ(l:List aR)(k:Nat):(aT l k).st=if 2<=k then(l.getD (k-1) default).t-(l.getD (k-2) default).t else 0:=by
 match k with
 |0=>rfl
 |1=>rfl
 |k+2=>
  rw[if_pos (by omega)]
  show(if 0<(aT l (k+1)).n then _ else _)=_
  rw[if_pos (by rw[qH];omega)]
  rfl
theorem uu{l:List aR}{k:Nat}(h:aN l k=0)(e:k<=1000):wv (aT l k):=by
 refine⟨?_,?_,?_,by rw[qH];omega⟩
 ·rcases Nat.eq_zero_or_pos k with rfl|b
  ·show cK 0;exact⟨by decide,by decide⟩
  ·rw[(yj l b).1];exact(g8 h (show k-1<k by omega)).1
 ·rcases Nat.eq_zero_or_pos k with rfl|b
  ·show cK 0;exact⟨by decide,by decide⟩
  ·rw[(yj l b).2];exact(g8 h (show k-1<k by omega)).2.1
 ·rw[FJ]
  split
  ·next v=>
   obtain⟨B,D⟩:=(g8 h (show k-1<k by omega)).1
   obtain⟨E,G⟩:=(g8 h (show k-2<k by omega)).1
   omega
  ·omega
theorem fL(l:List aR):∀ k,bt (cv l k)
 |0=>iv.append (gf _ _)
 |k+1=>lF (lF (fL l k) _) _
theorem kK(l:List aR):∀ k,(cv l k).length<=8+240*k
 |0=>by show([]++bitsOf 8 _).length<=_;rw[List.nil_append,bd];omega
 |k+1=>by
  have b:=nh (gI (cv l k) (cT (aT l k) (l.getD k default))) (cV (aT l k) (l.getD k default))
  have e:=nh (cv l k) (cT (aT l k) (l.getD k default))
  have v:=kK l k
  show(gI (gI _ _) _).length<=_
  omega
theorem uv{a:wu}{s:aR}(h:wv a)(b:cK s.t)(e:cK s.v):kh (cT a s)/\kh (cV a s):=by
 obtain⟨⟨k,B⟩,⟨D,E⟩,⟨G,I⟩,_⟩:=h
 obtain⟨g1,J⟩:=b
 obtain⟨O,U⟩:=e
 unfold cT cV kh
 constructor<;>split <;>omega
theorem om(a:wu)(s:aR):Spec Tryd.prog GC 17 [.ptr 0 0 0,nj s] [.cells 64 4 (fh a)] (fun r O=>r=SV.i (bC a s)/\O= [some (.cells 64 4 (fh a))]):=by
 refine start 40 1 Tryd.func17 rfl rfl rfl rfl ?_
 refine r1<|sT 3 1 1 rfl<|sT 4 9 2 rfl<|e1 17 rfl<|ab [0,3] rfl<|ai<|au<|r1<|sT 6 17 1 rfl<|sO 7 25 2 rfl<|sO 8 33 3 rfl<|sT 9 41 4 rfl ?_
 refine ask 9 rfl (fun B=>?_) (fun B=>?_)
 try simp only[cs,ne_eq]at B
 refine gF 3 false 9 10 5 rfl rfl<|gF 3 false 9 11 6 rfl rfl<|gF 3 false 9 12 7 rfl rfl<|sT 13 73 8 rfl<|sT 14 81 9 rfl<|gF 8 false 14 15 10 rfl rfl<|gF 8 false 14 16 11 rfl rfl<|gF 8 false 14 17 12 rfl rfl<|sT 18 113 13 rfl<|sT 19 121 14 rfl<|gF 13 false 19 20 15 rfl rfl<|gF 13 false 19 21 16 rfl rfl<|gF 13 false 19 22 17 rfl rfl<|sT 23 153 18 rfl<|sT 5 161 19 rfl<|e1 169 rfl ?_
 refine ab [0,3,5] rfl ?_
 refine q1 rfl (fun b=>?_) (fun b=>?_)
 try simp only[cs,ne_eq]at b
 refine r1<|sT 4 169 1 rfl<|e1 177 rfl<|ab [4] rfl<|ao<|br<|tr ?_
 exact bm 4 (SV.i (bC a s)) (π:= [0]) (ae:= [some (.cells 64 4 (fh a))]) Tryd.results17 rfl (by unfold bC cK;rw[if_neg (by rintro⟨⟨E,G⟩,I,J⟩;omega)];rfl) rfl rfl ⟨rfl,trivial⟩ ⟨rfl,rfl⟩
 exact absurd b (by decide)
 try simp only[cs,ne_eq]at B
 refine gT 3 false 9 5 rfl rfl<|sT 10 49 5 rfl<|gT 3 false 9 6 rfl rfl<|sO 11 57 6 rfl<|gT 3 false 9 7 rfl rfl<|sO 12 65 7 rfl<|sT 13 73 8 rfl<|sT 14 81 9 rfl ?_
 refine ask 14 rfl (fun e=>?_) (fun e=>?_)
 try simp only[cs,ne_eq]at e
 refine gF 8 false 14 15 10 rfl rfl<|gF 8 false 14 16 11 rfl rfl<|gF 8 false 14 17 12 rfl rfl<|sT 18 113 13 rfl<|sT 19 121 14 rfl<|gF 13 false 19 20 15 rfl rfl<|gF 13 false 19 21 16 rfl rfl<|gF 13 false 19 22 17 rfl rfl<|sT 23 153 18 rfl<|sT 5 161 19 rfl<|e1 169 rfl<|ab [0,3,5] rfl ?_
 refine q1 rfl (fun b=>?_) (fun b=>?_)
 try simp only[cs,ne_eq]at b
 refine r1<|sT 4 169 1 rfl<|e1 177 rfl<|ab [4] rfl<|ao<|br<|tr ?_
 exact bm 4 (SV.i (bC a s)) (π:= [0]) (ae:= [some (.cells 64 4 (fh a))]) Tryd.results17 rfl (by unfold bC cK;rw[if_neg (by rintro⟨⟨E,G⟩,I,J⟩;omega)];rfl) rfl rfl ⟨rfl,trivial⟩ ⟨rfl,rfl⟩
 exact absurd b (by decide)
 try simp only[cs,ne_eq]at e
 refine gT 8 false 14 10 rfl rfl<|sT 15 89 10 rfl<|gT 8 false 14 11 rfl rfl<|sO 16 97 11 rfl<|gT 8 false 14 12 rfl rfl<|sO 17 105 12 rfl<|sT 18 113 13 rfl<|sT 19 121 14 rfl ?_
 refine ask 19 rfl (fun k=>?_) (fun k=>?_)
 try simp only[cs,ne_eq]at k
 refine gF 13 false 19 20 15 rfl rfl<|gF 13 false 19 21 16 rfl rfl<|gF 13 false 19 22 17 rfl rfl<|sT 23 153 18 rfl<|sT 5 161 19 rfl<|e1 169 rfl<|ab [0,3,5] rfl ?_
 refine q1 rfl (fun b=>?_) (fun b=>?_)
 try simp only[cs,ne_eq]at b
 refine r1<|sT 4 169 1 rfl<|e1 177 rfl<|ab [4] rfl<|ao<|br<|tr ?_
 exact bm 4 (SV.i (bC a s)) (π:= [0]) (ae:= [some (.cells 64 4 (fh a))]) Tryd.results17 rfl (by unfold bC cK;rw[if_neg (by rintro⟨⟨E,G⟩,I,J⟩;omega)];rfl) rfl rfl ⟨rfl,trivial⟩ ⟨rfl,rfl⟩
 exact absurd b (by decide)
 try simp only[cs,ne_eq]at k
 refine gT 13 false 19 15 rfl rfl<|sT 20 129 15 rfl<|gT 13 false 19 16 rfl rfl<|sO 21 137 16 rfl<|gT 13 false 19 17 rfl rfl<|sO 22 145 17 rfl<|sT 23 153 18 rfl<|sT 5 161 19 rfl<|e1 169 rfl<|ab [0,3,5] rfl ?_
 refine q1 rfl (fun b=>?_) (fun b=>?_)
 try simp only[cs,ne_eq]at b
 refine r1<|sT 4 169 1 rfl<|e1 177 rfl<|ab [4] rfl<|ao<|br<|tr ?_
 exact bm 4 (SV.i (bC a s)) (π:= [0]) (ae:= [some (.cells 64 4 (fh a))]) Tryd.results17 rfl (by unfold bC cK;rw[if_neg (by rintro⟨⟨E,G⟩,I,J⟩;omega)];rfl) rfl rfl ⟨rfl,trivial⟩ ⟨rfl,rfl⟩
 try simp only[cs,ne_eq]at b
 refine kD rfl ?_
 refine dT 25 169 1 rfl<|dT 26 177 2 rfl<|dT 27 185 3 rfl<|dO 28 193 4 rfl<|dO 29 201 5 rfl<|dT 30 209 6 rfl ?_
 refine ask 30 rfl (fun v=>?_) (fun v=>?_)
 try simp only[cs,ne_eq]at v
 refine gT 5 true 30 7 rfl rfl<|dT 31 217 7 rfl<|gT 5 true 30 8 rfl rfl<|dO 32 225 8 rfl<|gT 5 true 30 9 rfl rfl<|dT 33 233 9 rfl<|gT 5 true 30 10 rfl rfl<|dT 34 241 10 rfl<|gT 5 true 30 11 rfl rfl<|dT 35 249 11 rfl<|gT 5 true 30 12 rfl rfl<|dT 36 257 12 rfl<|gT 5 true 30 13 rfl rfl<|dO 37 265 13 rfl<|gT 5 true 30 14 rfl rfl<|dO 38 273 14 rfl ?_
 refine dT 39 281 15 rfl<|dT 24 289 16 rfl<|iT 297 rfl (by kernel_rfl)<|ab [24] rfl ?_
 refine q1 rfl (fun D=>?_) (fun D=>?_)
 try simp only[cs,ne_eq]at D
 refine r1<|sT 4 297 1 rfl<|e1 305 rfl<|ab [4] rfl<|ao<|br<|tr ?_
 exact bm 4 (SV.i (bC a s)) (π:= [0]) (ae:= [some (.cells 64 4 (fh a))]) Tryd.results17 rfl (by unfold bC cK;rw[if_pos ⟨⟨by omega,by omega⟩,by omega,by omega⟩,if_pos ⟨by omega,by omega⟩];rfl) rfl rfl ⟨rfl,trivial⟩ ⟨rfl,rfl⟩
 try simp only[cs,ne_eq]at D
 refine ak<|bn<|tn<|r1<|sT 4 297 1 rfl<|e1 305 rfl<|ab [4] rfl<|ao ?_
 exact bm 4 (SV.i (bC a s)) (π:= [0]) (ae:= [some (.cells 64 4 (fh a))]) Tryd.results17 rfl (by unfold bC cK;rw[if_pos ⟨⟨by omega,by omega⟩,by omega,by omega⟩,if_neg (by rintro⟨E,G⟩;omega)];rfl) rfl rfl ⟨rfl,trivial⟩ ⟨rfl,rfl⟩
 try simp only[cs,ne_eq]at v
 refine gF 5 true 30 31 7 rfl rfl<|gF 5 true 30 32 8 rfl rfl<|gF 5 true 30 33 9 rfl rfl<|gF 5 true 30 34 10 rfl rfl<|gF 5 true 30 35 11 rfl rfl<|gF 5 true 30 36 12 rfl rfl<|gF 5 true 30 37 13 rfl rfl<|gF 5 true 30 38 14 rfl rfl<|dT 39 281 15 rfl<|dT 24 289 16 rfl<|iT 297 rfl (by kernel_rfl)<|ab [24] rfl ?_
 refine q1 rfl (fun D=>?_) (fun D=>?_)
 exact absurd D (by decide)
 try simp only[cs,ne_eq]at D
 refine ak<|bn<|tn<|r1<|sT 4 297 1 rfl<|e1 305 rfl<|ab [4] rfl<|ao ?_
 exact bm 4 (SV.i (bC a s)) (π:= [0]) (ae:= [some (.cells 64 4 (fh a))]) Tryd.results17 rfl (by unfold bC cK;rw[if_pos ⟨⟨by omega,by omega⟩,by omega,by omega⟩,if_neg (by rintro⟨E,G⟩;omega)];rfl) rfl rfl ⟨rfl,trivial⟩ ⟨rfl,rfl⟩
theorem sC(a:wu)(s:aR)(e:wv a)(k:cK s.t)(B:cK s.v):Spec Tryd.prog GC 82 [.ptr 0 0 0,nj s] [.cells 64 4 (fh a)] (fun r D=>r=SV.bA [SV.i (cT a s),SV.i (cV a s)]/\D= [some (.cells 64 4 (fh a))]):=by
 obtain⟨⟨E,G⟩,⟨I,J⟩,⟨O,U⟩,V,W⟩:=e
 obtain⟨g1,X⟩:=k
 obtain⟨Y,g4⟩:=B
 refine start 36 1 Tryd.func82 rfl rfl rfl rfl ?_
 refine r1<|sT 3 1 1 rfl<|sT 4 9 2 rfl<|sT 5 17 3 rfl<|e1 25 rfl<|ab [0,3] rfl<|ai<|r1<|sT 6 25 1 rfl<|sT 7 33 2 rfl<|sT 8 41 3 rfl<|sO 9 49 4 rfl<|sO 10 57 5 rfl<|e1 65 rfl<|ab [0,3,10] rfl ?_
 refine q1 rfl (fun b=>?_) (fun b=>?_)
 try simp only[cs,ne_eq]at b
 refine kD rfl ?_
 refine dT 11 65 1 rfl<|dO 12 73 2 rfl<|dT 13 81 3 rfl<|dO 14 89 4 rfl<|dT 4 97 5 rfl<|dT 5 105 6 rfl<|iT 113 rfl (by kernel_rfl)<|ab [4,5] rfl<|ao<|tr ?_
 exact eF 4 5 (SV.i (cT a s)) (SV.i (cV a s)) (π:= [0]) (ae:= [some (.cells 64 4 (fh a))]) Tryd.results82 rfl rfl (by unfold cT;rw[if_pos (by omega)];rfl) (by unfold cV;rw[if_pos (by omega)];rfl) rfl rfl ⟨rfl,trivial⟩ ⟨rfl,rfl⟩
 try simp only[cs,ne_eq]at b
 refine ak<|tn ?_
 refine kD rfl ?_
 refine dT 15 65 1 rfl<|dO 16 73 2 rfl<|dT 17 81 3 rfl<|dT 18 89 4 rfl<|dT 19 97 5 rfl<|dT 20 105 6 rfl<|dO 21 113 7 rfl<|xN 22 121 8 rfl<|dT 23 129 9 rfl<|dT 24 137 10 rfl<|dT 25 145 11 rfl<|dO 26 153 12 rfl<|xN 27 161 13 rfl<|dT 28 169 14 rfl<|dO 29 177 15 rfl<|dT 30 185 16 rfl ?_
 refine dT 31 193 17 rfl<|dT 32 201 18 rfl<|dT 33 209 19 rfl<|dO 34 217 20 rfl<|xN 35 225 21 rfl<|dT 4 233 22 rfl<|dT 5 241 23 rfl<|iT 249 rfl (by kernel_rfl)<|ab [4,5] rfl<|ao ?_
 exact eF 4 5 (SV.i (cT a s)) (SV.i (cV a s)) (π:= [0]) (ae:= [some (.cells 64 4 (fh a))]) Tryd.results82 rfl rfl (by unfold cT;rw[if_neg (by omega)];rfl) (by unfold cV;rw[if_neg (by omega)];rfl) rfl rfl ⟨rfl,trivial⟩ ⟨rfl,rfl⟩
theorem qI(a:wu)(s:aR)(e:wv a)(k:cK s.t)(B:cK s.v):Spec Tryd.prog GC 18 [.ptr 0 0 0,nj s] [.cells 64 4 (fh a)] (fun r D=>r=SV.bA []/\D= [some (.cells 64 4 (fh (Bg a s)))]):=by
 obtain⟨⟨E,G⟩,⟨I,J⟩,⟨O,U⟩,V,W⟩:=e
 obtain⟨g1,X⟩:=k
 obtain⟨Y,g4⟩:=B
 refine start 31 1 Tryd.func18 rfl rfl rfl rfl ?_
 refine r1<|sT 3 1 1 rfl<|e1 9 rfl<|ab [0,3] rfl<|ai<|r1<|sT 4 9 1 rfl<|sT 5 17 2 rfl<|sT 6 25 3 rfl<|sO 7 33 4 rfl<|sO 8 41 5 rfl<|e1 49 rfl<|ab [0,3,8] rfl ?_
 refine q1 rfl (fun b=>?_) (fun b=>?_)
 try simp only[cs,ne_eq]at b
 refine rd0 rfl ?_
 refine dT 9 49 1 rfl<|dT 10 57 2 rfl<|dO 11 65 3 rfl<|dT 12 73 4 rfl<|dT 13 81 5 rfl<|dT 14 89 6 rfl<|dT 15 97 7 rfl<|dO 16 105 8 rfl<|xN 17 113 9 rfl<|dT 18 121 10 rfl<|dT 19 129 11 rfl ?_
 refine d0 137 12 rfl rfl rfl rfl rfl (by first|trivial|omega) ?_
 refine iT 145 rfl (by kernel_rfl)<|tn<|r1<|sT 20 145 1 rfl<|sO 21 153 2 rfl<|sT 22 161 3 rfl<|sT 23 169 4 rfl<|cJ 177 5 rfl rfl rfl rfl rfl<|e1 185 rfl<|ab [0] rfl ?_
 refine r0 ?_
 refine sT 24 185 1 rfl<|sT 25 193 2 rfl<|sT 26 201 3 rfl<|sO 27 209 4 rfl<|de 28 217 5 rfl<|sT 29 225 6 rfl<|sT 30 233 7 rfl<|cJ 241 8 rfl rfl rfl rfl rfl<|e1 249 rfl ?_
 exact oa (π:= [0]) (ae:= [some (.cells 64 4 (fh (Bg a s)))]) Tryd.results18 rfl rfl ⟨(by show some (aB.cells _ _ _)=some (aB.cells _ _ _);unfold Bg fh;rw[if_pos (by omega)];rfl),trivial⟩ ⟨rfl,rfl⟩
 try simp only[cs,ne_eq]at b
 refine ak<|tn<|r1<|sT 20 49 1 rfl<|sO 21 57 2 rfl<|sT 22 65 3 rfl<|sT 23 73 4 rfl<|cJ 81 5 rfl rfl rfl rfl rfl<|e1 89 rfl<|ab [0] rfl ?_
 refine r0 ?_
 refine sT 24 89 1 rfl<|sT 25 97 2 rfl<|sT 26 105 3 rfl<|sO 27 113 4 rfl<|de 28 121 5 rfl<|sT 29 129 6 rfl<|sT 30 137 7 rfl<|cJ 145 8 rfl rfl rfl rfl rfl<|e1 153 rfl ?_
 exact oa (π:= [0]) (ae:= [some (.cells 64 4 (fh (Bg a s)))]) Tryd.results18 rfl rfl ⟨(by show some (aB.cells _ _ _)=some (aB.cells _ _ _);unfold Bg fh;rw[if_neg (by omega)];rfl),trivial⟩ ⟨rfl,rfl⟩
theorem ja(l:List aR)(G:jY l)(B:aE l=0):Spec Tryd.prog GC 53 [jD l] [] (fun r X=>r=SV.bA [.sl 0 0 (bf l).length,SV.i 0]/\X= [some (.rows 5 1 (bf l).length (dm (bf l)))]):=by
 refine start 41 0 Tryd.func53 rfl rfl rfl rfl ?_
 refine r1<|sT 2 0 1 rfl<|sT 3 8 2 rfl<|e1 16 rfl<|ab [0] rfl<|ai<|r1<|sT 11 16 1 rfl<|sO 12 24 2 rfl<|sO 13 32 3 rfl<|e1 40 rfl<|ab [0,13] rfl ?_
 refine q1 rfl (fun e=>?_) (fun e=>?_)
 exfalso;unfold aE at B;rw[if_pos (by simp at e;omega)]at B;cases B
 try simp only[cs,ne_eq]at e
 refine ak<|tn<|r1<|sT 4 40 1 rfl<|e1 48 rfl<|ab [0,4] rfl<|r1<|sT 5 48 1 rfl<|e1 56 rfl<|ab [0,4,5] rfl ?_
 refine fl 40 0 5 1 (dm (pack [])) rfl rfl rfl ?_
 refine r1<|sT 14 64 1 rfl<|sO 15 72 2 rfl ?_
 refine c1 (pT [] iv (by decide) 8 l.length (by decide) ⟨by omega,by omega⟩) [40,56] [40,56,80] 16 80 3 rfl rfl rfl rfl rfl rfl rfl rfl Tryd.func81 rfl rfl rfl rfl ⟨rfl,rfl,trivial⟩ rfl rfl ?_
 refine e1 88 rfl<|ab [0,4,5] rfl<|ai<|r1<|sT 17 88 1 rfl<|sO 18 96 2 rfl<|sT 19 104 3 rfl<|e1 112 rfl<|ab [4,5,17,18,19] rfl<|au ?_
 have hl:=G.n
 have hl2:l.length<=120:=(by omega)
 refine loop (α:=Nat) 3 (fun k=> [(4, .ptr 0 0 0),(5, .ptr 1 0 0),(17,jD l),(18,SV.i l.length),(19,SV.i (k))]) (fun k=> [some (.cells 151 2 [.sl 2 0 (pack (cv l (k))).length,SV.i (cv l (k)).length]),some (.cells 64 4 (fh (aT l (k)))),some (.rows 5 1 (pack (cv l (k))).length (dm (pack (cv l (k)))))]) (fun k=>(k)<=l.length/\aN l (k)=0) (fun k=>l.length-(k)) (((0):Nat)) [40,48,80] (fun _=>rfl) (show(0)<=l.length/\aN l (0)=0 from⟨Nat.zero_le _,rfl⟩) rfl ⟨rfl,rfl,rfl,rfl,rfl,trivial⟩ ⟨rfl,rfl,rfl,trivial⟩ (fun k I=>?_)
 show W _ _ _ ⟨dG [(4, .ptr 0 0 0),(5, .ptr 1 0 0),(17,jD l),(18,SV.i l.length),(19,SV.i k)],dC [some (.cells 151 2 [.sl 2 0 (pack (cv l k)).length,SV.i (cv l k).length]),some (.cells 64 4 (fh (aT l k))),some (.rows 5 1 (pack (cv l k)).length (dm (pack (cv l k))))],3⟩
 have I:k<=l.length/\aN l k=0:=I
 obtain⟨hk,O⟩:=I
 have J:=uu O (by omega)
 have U:=fL l k
 have Y:=kK l k
 refine r1<|sO 20 3 1 rfl<|e1 11 rfl<|ab [4,5,17,18,19,20] rfl<|ai ?_
 refine q1 rfl (fun v=>?_) (fun v=>?_)
 try simp only[cs,ne_eq]at v
 refine ak<|tn<|ai<|au<|r1<|sO 21 11 1 rfl<|sO 22 19 2 rfl ?_
 refine val 22 (nj (l.getD k default)) rfl (by first|rfl|(simp only[Nat.zero_add,Int.toNat_natCast];rfl)) ?_
 refine sT 7 27 3 rfl<|cJ 35 4 rfl rfl rfl rfl rfl<|e1 43 rfl<|ab [4,5,7,17,18,19] rfl<|ai<|r1<|sO 23 43 1 rfl ?_
 refine c1 (om (aT l k) (l.getD k default)) [1] [1] 24 51 2 rfl rfl rfl rfl rfl rfl rfl rfl Tryd.func17 rfl rfl rfl rfl ⟨rfl,trivial⟩ rfl rfl ?_
 refine sT 8 59 3 rfl<|e1 67 rfl<|ab [4,5,7,8,17,18,19] rfl<|r1<|sT 25 67 1 rfl<|sO 26 75 2 rfl<|e1 83 rfl<|ab [4,5,7,8,17,18,19,26] rfl ?_
 refine q1 rfl (fun b=>?_) (fun b=>?_)
 exfalso;unfold aE at B;rw[if_neg (by omega)]at B;have :=(gJ (jE (show k+1<=l.length by omega) B)).2;simp at b;exact b this
 try simp only[cs,ne_eq]at b
 have E:bC (aT l k) (l.getD k default)=0:=(by first|exact b|(simp at b;exact b))
 have D:=iw E
 have V:=uv J D.1 D.2.1
 refine ak<|tn<|r1<|sO 29 83 1 rfl ?_
 refine c1 (sC (aT l k) (l.getD k default) J D.1 D.2.1) [1] [1] 30 91 2 rfl rfl rfl rfl rfl rfl rfl rfl Tryd.func82 rfl rfl rfl rfl ⟨rfl,trivial⟩ rfl rfl ?_
 refine sT 28 99 3 rfl<|sT 31 107 4 rfl<|sT 32 115 5 rfl<|sT 9 123 6 rfl<|sT 10 131 7 rfl<|e1 139 rfl<|ab [4,5,7,9,10,17,18,19] rfl<|r1<|sT 33 139 1 rfl ?_
 refine c1 (ni (cv l k) U (by omega) (cT (aT l k) (l.getD k default)) V.1) [0,2] [0,2,147] 34 147 2 rfl rfl rfl rfl rfl rfl rfl rfl Tryd.func83 rfl rfl rfl rfl ⟨rfl,rfl,trivial⟩ rfl rfl ?_
 refine e1 155 rfl<|ab [4,5,7,10,17,18,19] rfl<|r1<|sT 35 155 1 rfl ?_
 refine c1 (ni (gI (cv l k) (cT (aT l k) (l.getD k default))) (lF U _) (by have :=nh (cv l k) (cT (aT l k) (l.getD k default));omega) (cV (aT l k) (l.getD k default)) V.2) [0,147] [0,147,163] 36 163 2 rfl rfl rfl rfl rfl rfl rfl rfl Tryd.func83 rfl rfl rfl rfl ⟨rfl,rfl,trivial⟩ rfl rfl ?_
 refine e1 171 rfl<|ab [4,5,7,17,18,19] rfl ?_
 refine r0 ?_
 refine sO 37 171 1 rfl ?_
 refine c1 (qI (aT l k) (l.getD k default) J D.1 D.2.1) [1] [1] 38 179 2 rfl rfl rfl rfl rfl rfl rfl rfl Tryd.func18 rfl rfl rfl rfl ⟨rfl,trivial⟩ rfl rfl ?_
 refine e1 187 rfl<|bn<|tn ?_
 refine r0 ?_
 refine de 39 187 1 rfl<|sT 19 195 2 rfl<|e1 203 rfl<|tn ?_
 exact again ((k+1:Nat)) [0,1,163] (show(k+1)<=l.length/\aN l (k+1)=0 from⟨by omega,nk O E⟩) (show l.length-(k+1)<l.length-k from(by omega)) rfl ⟨rfl,rfl,rfl,rfl,rfl,trivial⟩ ⟨rfl,rfl,rfl,trivial⟩
 try simp only[cs,ne_eq]at v
 refine bI<|tx<|tx<|bx<|tn<|r1 ?_
 refine c1 (sB (cv l k)) [0,2] [0,2] 40 11 1 rfl rfl rfl rfl rfl rfl rfl rfl Tryd.func84 rfl rfl rfl rfl ⟨rfl,rfl,trivial⟩ rfl rfl ?_
 refine sT 2 19 2 rfl<|sT 3 27 3 rfl<|e1 35 rfl<|ab [2,3] rfl<|ao ?_
 obtain rfl:k=l.length:=(by omega)
 exact eF 2 3 (.sl 0 0 (bf l).length) (SV.i 0) (π:= [2]) (ae:= [some (.rows 5 1 (bf l).length (dm (bf l)))]) Tryd.results53 rfl rfl rfl rfl rfl rfl ⟨rfl,trivial⟩ ⟨rfl,rfl⟩
theorem jF(l:List aR)(G:jY l)(V:aE l≠0):Spec Tryd.prog GC 53 [jD l] [] (fun r X=>r=SV.bA [.d .bz,SV.i (aE l)]/\X= []):=by
 refine start 41 0 Tryd.func53 rfl rfl rfl rfl ?_
 refine r1<|sT 2 0 1 rfl<|sT 3 8 2 rfl<|e1 16 rfl<|ab [0] rfl<|ai<|r1<|sT 11 16 1 rfl<|sO 12 24 2 rfl<|sO 13 32 3 rfl<|e1 40 rfl<|ab [0,13] rfl ?_
 refine q1 rfl (fun e=>?_) (fun e=>?_)
 try simp only[cs,ne_eq]at e
 refine r1<|sT 2 40 1 rfl<|sT 3 48 2 rfl<|e1 56 rfl<|ab [2,3] rfl<|ao<|tr ?_
 exact eF 2 3 (.d .bz) (SV.i (aE l)) (π:= []) (ae:= []) Tryd.results53 rfl rfl rfl (by unfold aE;rw[if_pos (by omega)];rfl) rfl rfl trivial ⟨rfl,rfl⟩
 try simp only[cs,ne_eq]at e
 refine ak<|tn<|r1<|sT 4 40 1 rfl<|e1 48 rfl<|ab [0,4] rfl<|r1<|sT 5 48 1 rfl<|e1 56 rfl<|ab [0,4,5] rfl ?_
 refine fl 40 0 5 1 (dm (pack [])) rfl rfl rfl ?_
 refine r1<|sT 14 64 1 rfl<|sO 15 72 2 rfl ?_
 refine c1 (pT [] iv (by decide) 8 l.length (by decide) ⟨by omega,by omega⟩) [40,56] [40,56,80] 16 80 3 rfl rfl rfl rfl rfl rfl rfl rfl Tryd.func81 rfl rfl rfl rfl ⟨rfl,rfl,trivial⟩ rfl rfl ?_
 refine e1 88 rfl<|ab [0,4,5] rfl<|ai<|r1<|sT 17 88 1 rfl<|sO 18 96 2 rfl<|sT 19 104 3 rfl<|e1 112 rfl<|ab [4,5,17,18,19] rfl<|au ?_
 have hl:=G.n
 have hl2:l.length<=120:=(by omega)
 refine loop (α:=Nat) 3 (fun k=> [(4, .ptr 0 0 0),(5, .ptr 1 0 0),(17,jD l),(18,SV.i l.length),(19,SV.i (k))]) (fun k=> [some (.cells 151 2 [.sl 2 0 (pack (cv l (k))).length,SV.i (cv l (k)).length]),some (.cells 64 4 (fh (aT l (k)))),some (.rows 5 1 (pack (cv l (k))).length (dm (pack (cv l (k)))))]) (fun k=>(k)<=l.length/\aN l (k)=0) (fun k=>l.length-(k)) (((0):Nat)) [40,48,80] (fun _=>rfl) (show(0)<=l.length/\aN l (0)=0 from⟨Nat.zero_le _,rfl⟩) rfl ⟨rfl,rfl,rfl,rfl,rfl,trivial⟩ ⟨rfl,rfl,rfl,trivial⟩ (fun k I=>?_)
 show W _ _ _ ⟨dG [(4, .ptr 0 0 0),(5, .ptr 1 0 0),(17,jD l),(18,SV.i l.length),(19,SV.i k)],dC [some (.cells 151 2 [.sl 2 0 (pack (cv l k)).length,SV.i (cv l k).length]),some (.cells 64 4 (fh (aT l k))),some (.rows 5 1 (pack (cv l k)).length (dm (pack (cv l k))))],3⟩
 have I:k<=l.length/\aN l k=0:=I
 obtain⟨hk,E⟩:=I
 have J:=uu E (by omega)
 have O:=fL l k
 have Y:=kK l k
 refine r1<|sO 20 3 1 rfl<|e1 11 rfl<|ab [4,5,17,18,19,20] rfl<|ai ?_
 refine q1 rfl (fun v=>?_) (fun v=>?_)
 try simp only[cs,ne_eq]at v
 refine ak<|tn<|ai<|au<|r1<|sO 21 11 1 rfl<|sO 22 19 2 rfl ?_
 refine val 22 (nj (l.getD k default)) rfl (by first|rfl|(simp only[Nat.zero_add,Int.toNat_natCast];rfl)) ?_
 refine sT 7 27 3 rfl<|cJ 35 4 rfl rfl rfl rfl rfl<|e1 43 rfl<|ab [4,5,7,17,18,19] rfl<|ai<|r1<|sO 23 43 1 rfl ?_
 refine c1 (om (aT l k) (l.getD k default)) [1] [1] 24 51 2 rfl rfl rfl rfl rfl rfl rfl rfl Tryd.func17 rfl rfl rfl rfl ⟨rfl,trivial⟩ rfl rfl ?_
 refine sT 8 59 3 rfl<|e1 67 rfl<|ab [4,5,7,8,17,18,19] rfl<|r1<|sT 25 67 1 rfl<|sO 26 75 2 rfl<|e1 83 rfl<|ab [4,5,7,8,17,18,19,26] rfl ?_
 refine q1 rfl (fun b=>?_) (fun b=>?_)
 try simp only[cs,ne_eq]at b
 refine r1<|sT 27 83 1 rfl<|sT 2 91 2 rfl<|sT 3 99 3 rfl<|e1 107 rfl<|ab [2,3] rfl<|ao<|tr<|br<|tr<|tr<|br<|tr ?_
 exact eF 2 3 (.d .bz) (SV.i (aE l)) (π:= []) (ae:= []) Tryd.results53 rfl rfl rfl (by unfold aE;rw[if_neg (by omega),yi (by omega) E b];rfl) rfl rfl trivial ⟨rfl,rfl⟩
 try simp only[cs,ne_eq]at b
 have D:bC (aT l k) (l.getD k default)=0:=(by first|exact b|(simp at b;exact b))
 have B:=iw D
 have U:=uv J B.1 B.2.1
 refine ak<|tn<|r1<|sO 29 83 1 rfl ?_
 refine c1 (sC (aT l k) (l.getD k default) J B.1 B.2.1) [1] [1] 30 91 2 rfl rfl rfl rfl rfl rfl rfl rfl Tryd.func82 rfl rfl rfl rfl ⟨rfl,trivial⟩ rfl rfl ?_
 refine sT 28 99 3 rfl<|sT 31 107 4 rfl<|sT 32 115 5 rfl<|sT 9 123 6 rfl<|sT 10 131 7 rfl<|e1 139 rfl<|ab [4,5,7,9,10,17,18,19] rfl<|r1<|sT 33 139 1 rfl ?_
 refine c1 (ni (cv l k) O (by omega) (cT (aT l k) (l.getD k default)) U.1) [0,2] [0,2,147] 34 147 2 rfl rfl rfl rfl rfl rfl rfl rfl Tryd.func83 rfl rfl rfl rfl ⟨rfl,rfl,trivial⟩ rfl rfl ?_
 refine e1 155 rfl<|ab [4,5,7,10,17,18,19] rfl<|r1<|sT 35 155 1 rfl ?_
 refine c1 (ni (gI (cv l k) (cT (aT l k) (l.getD k default))) (lF O _) (by have :=nh (cv l k) (cT (aT l k) (l.getD k default));omega) (cV (aT l k) (l.getD k default)) U.2) [0,147] [0,147,163] 36 163 2 rfl rfl rfl rfl rfl rfl rfl rfl Tryd.func83 rfl rfl rfl rfl ⟨rfl,rfl,trivial⟩ rfl rfl ?_
 refine e1 171 rfl<|ab [4,5,7,17,18,19] rfl ?_
 refine r0 ?_
 refine sO 37 171 1 rfl ?_
 refine c1 (qI (aT l k) (l.getD k default) J B.1 B.2.1) [1] [1] 38 179 2 rfl rfl rfl rfl rfl rfl rfl rfl Tryd.func18 rfl rfl rfl rfl ⟨rfl,trivial⟩ rfl rfl ?_
 refine e1 187 rfl<|bn<|tn ?_
 refine r0 ?_
 refine de 39 187 1 rfl<|sT 19 195 2 rfl<|e1 203 rfl<|tn ?_
 exact again ((k+1:Nat)) [0,1,163] (show(k+1)<=l.length/\aN l (k+1)=0 from⟨by omega,nk E D⟩) (show l.length-(k+1)<l.length-k from(by omega)) rfl ⟨rfl,rfl,rfl,rfl,rfl,trivial⟩ ⟨rfl,rfl,rfl,trivial⟩
 try simp only[cs,ne_eq]at v
 refine bI<|tx<|tx<|bx<|tn<|r1 ?_
 refine c1 (sB (cv l k)) [0,2] [0,2] 40 11 1 rfl rfl rfl rfl rfl rfl rfl rfl Tryd.func84 rfl rfl rfl rfl ⟨rfl,rfl,trivial⟩ rfl rfl ?_
 refine sT 2 19 2 rfl<|sT 3 27 3 rfl<|e1 35 rfl<|ab [2,3] rfl<|ao ?_
 exact absurd (show aE l=0 from(by unfold aE;rw[if_neg (by omega),show l.length=k by omega];exact E)) V
end Go.Proofs.YtifcaekngfgdmaaDoor.Nice.Co
