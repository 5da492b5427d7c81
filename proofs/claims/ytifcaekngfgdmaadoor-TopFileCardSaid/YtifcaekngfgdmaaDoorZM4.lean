/- Part 4 of the proof of TopFile. -/
import Derived.Test.YtifcaekngfgdmaaDoorZM3
import Derived.Conc.Own5
import Derived.Conc.Listed
import Derived.Conc.CompanyDraw
set_option linter.unusedVariables false
set_option linter.unusedSimpArgs false
set_option maxRecDepth 100000
set_option maxHeartbeats 4000000
namespace Go.Proofs.YtifcaekngfgdmaaDoor.Nice
open Go
def pA(P:Program)(t:Nat->SV)(h:ar):List ResultVar->Option (Prop×List SV)
 | []=>some (True,[])
 | .tmp s::r=>match pA P t h r with
  |some (vc,ys)=>some (vc,t s::ys)
  |none=>none
 | .cell a ty::r=>match si P ty (t a) h,pA P t h r with
  |some (vc,_,u),some (Ks,ys)=>some (vc/\Ks,u::ys)
  |_,_=>none
def oneOf:List SV->SV
 | [x]=>x
 |ys=> .bA ys
def lP(tmps:Array Value):ResultVar->Sem Value
 | .tmp t=>pure (tmps.getD t undef)
 | .cell a t=>do loadVar t (<-asAddr (tmps.getD a undef))
theorem jA(fn:Func)(tmps:Array Value):results fn tmps=(do let vs <-fn.results.mapM (lP tmps);pure (if h:vs.size=1 then vs[0]else .tuple vs)):=by
 unfold results
 refine congrArg (fun f:ResultVar->Sem Value=>(do let vs <-fn.results.mapM f;pure (if h:vs.size=1 then vs[0]else .tuple vs):Sem Value)) (funext fun x=>?_)
 cases x<;>rfl
theorem tY{C:Ctx}{t:Nat->SV}{h:ar}{nx:Nat}:∀ {l:List ResultVar} {vc:Prop} {E:List SV},pA C.P t h l=some (vc,E)->vc->∀ M F pin ρ a w,SR C M F pin ρ ⟨t,h,nx⟩ a w->
  ∃ vs:List Value,(l.mapM (lP a.tmps)).run C.P w=Result.ok vs w/\vs.length=E.length/\∀ (i:Nat) (x:SV),E[i]? =some x->∃ u,vs[i]? =some u/\VR M ρ x u
 | [],vc,E,e,b,M,F,pin,ρ,a,w,B=>by
  cases e
  exact⟨[],by simp,rfl,fun i x k=>by simp at k⟩
 | .tmp s::r,vc,E,e,b,M,F,pin,ρ,a,w,B=>by
  unfold pA at e
  split at e
  ·next G I J=>
   cases e
   obtain⟨vs,O,U,V⟩:=tY J b M F pin ρ a w B
   refine⟨a.tmps.getD s undef::vs,by simp[List.mapM_cons,lP,O],by simp[U],fun i x k=>?_⟩
   cases i with
   |zero=>simp at k;subst k;exact⟨_,rfl,B.tm s⟩
   |succ i=>exact V i x (by simpa using k)
  ·cases e
 | .cell s ty::r,vc,E,e,b,M,F,pin,ρ,a,w,B=>by
  unfold pA at e
  split at e
  ·next G bs u X I hl J=>
   cases e
   obtain⟨vs,O,U,V⟩:=tY J b.2 M F pin ρ a w B
   obtain⟨Y,k2⟩:=qf hl b.1
   obtain⟨v,_,⟨ad,W,D⟩,hv⟩:=k2 M F ρ h w (a.tmps.getD s undef) (B.tm s) B.hr Y
   refine⟨v::vs,by simp[List.mapM_cons,lP,O,W,asAddr,D],by simp[U],fun i x k=>?_⟩
   cases i with
   |zero=>simp at k;subst k;exact⟨_,rfl,hv⟩
   |succ i=>exact V i x (by simpa using k)
  ·cases e
theorem FC{C:Ctx}{fn:Func}{t:Nat->SV}{h:ar}{nx:Nat}{E:Array ResultVar}{vc:Prop}{G:List SV}(b:fn.results=E)(e:pA C.P t h E.toList=some (vc,G))(I:vc):dL C fn ⟨t,h,nx⟩ (oneOf G):=by
 intro M F pin ρ a w O
 obtain⟨vs,U,k,B⟩:=tY e I M F pin ρ a w O
 have hm:(E.mapM (lP a.tmps)).run C.P w=Result.ok vs.toArray w:=by
  rw[Array.mapM_eq_mapM_toList]
  simp[U]
 match G,k,B with
 | [x],k,B=>
  obtain⟨u,D,J⟩:=B 0 x rfl
  have :vs= [u]:=by
   match vs,k,D with
   | [v],_,D=>simp at D;subst D;rfl
  subst this
  refine⟨u,?_,J⟩
  rw[jA,b]
  simp[hm]
 | [],k,B=>
  have :vs= []:=by simpa using k
  subst this
  refine⟨.tuple #[],?_, .vA [] #[] rfl fun i x V=>by simp at V⟩
  rw[jA,b]
  simp[hm]
 |x::y::zs,k,B=>
  refine⟨.tuple vs.toArray,?_, .vA (x::y::zs) vs.toArray (by simpa using k) fun i z W=>?_⟩
  ·rw[jA,b]
   have : ¬ vs.length=1:=by rw[k];simp
   simp[hm,this]
  ·obtain⟨u,D,J⟩:=B i z W
   exact⟨u,by simpa using D,J⟩
section
variable {C:Ctx} {fn:Func} {post:SV->List (Option aB)->Prop} {t:Nat->SV} {h:ar} {nx:Nat}
theorem cG{D:Array ResultVar}{π:List Nat}(r:SV){ae:List (Option aB)}{vc:Prop}{k:List SV}(b:fn.results=D)(e:pA C.P t h D.toList=some (vc,k))(v:vc)(E:oneOf k=du π r)(B:dY C.m r ae=true)(hS:(Nat.beq π.length ae.length&&(bK π&&(gW C.m π&&(eE ae.length []&&aW ae.length ae))))=true)
  (G:hSub π π h ae) (I:post r ae):iP C fn post .ret ⟨t,h,nx⟩:=
 ⟨π,oneOf k,r,ae,FC b e v,E,B,⟨hS,trivial,G⟩,I⟩
end
theorem HR.swap{M F:aD}{ρ:Names}{h:ar}{w:World}(H:HR M F ρ h w)(n:Nat){b b':aB}(k:h n=some b)(I:∀ x obj,BR M ρ x b obj->BR M ρ x b' obj)(J:b.ghost=true->b'.ghost=true)(B:∀ S es,b'≠ .fam S es:=by intro S es h;cases h):HR M F ρ (upd h n (some b')) w:=by
 refine⟨H.fT,H.iL,H.j9,fun m blk hm=>?_,fun m O x y hm hm'=>?_,?_⟩
 rotate_right
 ·refine H.dh (fun m S es hm=>?_) (Names.le_refl _) (aD.le_refl _) (Nat.le_refl _) (fun _ _ _ _ _ _ a b=>⟨a,b⟩) (fun _ _ _ _ _ _ _ _ _ _=>rfl) (fun m S es p y hm D U v=> .inl ⟨fun e=>?_,U⟩)
  ·rw[az]at hm
   split at hm
   ·exact absurd (Option.some.inj hm) (B S es)
   ·exact hm
  ·rw[az]at D;split at D
   ·next V=>subst V;rw[k]at e;cases e
   ·exact D e
 ·rw[az]at hm
  split at hm
  ·next e=>
   subst e
   cases hm
   obtain⟨x,G,E⟩:=H.live m b k
   rcases E with⟨v,E⟩|⟨v,W,X,obj,Y,h4⟩
   ·exact⟨x,G, .inl ⟨v,J E⟩⟩
   ·exact⟨x,G, .inr ⟨v,W,X,obj,Y,I x obj h4⟩⟩
  ·exact H.live m blk hm
 ·refine H.sep m O x y ?_ ?_
  ·rw[az]at hm;split at hm
   ·next e=>subst e;rw[k];intro h;cases h
   ·exact hm
  ·rw[az]at hm';split at hm'
   ·next e=>subst e;rw[k];intro h;cases h
   ·exact hm'
theorem torows{C:Ctx}{c:Code}{Q:Exit->St->Prop}{t:Nat->SV}{h:ar}{nx:Nat}(n L:Nat)(f:Nat->Nat->D){ty k:Nat}{xs:List SV}(B:h n=some (.cells ty k xs))(E:0<k)(hl:L*k<=xs.length)(G:∀ i c,i<L->c<k->xs[i*k+c]? =some (.d (f i c)))
  (I:W C c Q ⟨t,upd h n (some (.rows ty k L f)),nx⟩):W C c Q ⟨t,h,nx⟩:=by
 intro M F pin ρ a w b
 refine I M F pin ρ a w ⟨⟨b.tm,b.sz,b.df,?_,b.pn,b.pm,b.gl⟩,b.fr⟩
 refine b.hr.swap n B (fun x obj e=>?_) (fun h=>by cases h)
 cases obj with
 |cells cur T fz=>
  obtain⟨J,O,U,V,h5,X⟩:=e
  refine⟨J,O,U,V,?_,fun i c Y hc=>?_⟩
  ·have :L*k<=x.R*k:=by omega
   exact Nat.le_of_mul_le_mul_right this E
  ·obtain⟨v,k1,k2⟩:=X _ _ (G i c Y hc)
   exact⟨v,k1,by cases k2 with |d _ _ h=>exact h⟩
 |_=>exact e.elim
theorem bP{C:Ctx}{c:Code}{Q:Exit->St->Prop}{t:Nat->SV}{h:ar}{nx:Nat}(n e:Nat)(g:Nat->Nat->D){ty k L:Nat}{f:Nat->Nat->D}(G:h n=some (.rows ty k L f))(hl:L=e)(I:∀ i c,i<L->c<k->f i c=g i c)
  (J:W C c Q ⟨t,upd h n (some (.rows ty k e g)),nx⟩):W C c Q ⟨t,h,nx⟩:=by
 subst hl
 intro M F pin ρ a w b
 refine J M F pin ρ a w ⟨⟨b.tm,b.sz,b.df,?_,b.pn,b.pm,b.gl⟩,b.fr⟩
 refine b.hr.swap n G (fun x obj v=>?_) (fun h=>by cases L with |zero=>rfl|succ L=>cases h)
 cases obj with
 |cells cur T fz=>
  obtain⟨O,U,V,X,Y,h6⟩:=v
  exact⟨O,U,V,X,Y,fun i c B E=>by rw[<-I i c B E];exact h6 i c B E⟩
 |_=>exact v.elim
theorem GX{C:Ctx}{c:Code}{Q:Exit->St->Prop}{t:Nat->SV}{h:ar}{nx:Nat}(s:Nat)(u':SV){u:SV}(k:(t s).hd=some u)(B:∀ M ρ v,VR M ρ u v->VR M ρ u' v)(D:W C c Q ⟨upd t s u',h,nx⟩):W C c Q ⟨t,h,nx⟩:=by
 intro M F pin ρ a w b
 refine D M F pin ρ a w ⟨⟨fun n=>?_,b.sz,b.df,b.hr,b.pn,b.pm,b.gl⟩,b.fr⟩
 show VR M ρ (upd t s u' n) _
 rw[az]
 split
 ·next e=>subst e;have :=b.tm n;rw[show(⟨t,h,nx⟩:St).t n=u from SV.bD k]at this;exact B M ρ _ this
 ·exact b.tm n
theorem FD{C:Ctx}{c:Code}{Q:Exit->St->Prop}{t:Nat->SV}{h:ar}{nx:Nat}(s k:Nat)(g:Nat->Nat->D)(b:(t s).hd=some (.d .bz))(e:W C c Q ⟨upd t s (.d (.vec k 0 g)),h,nx⟩):W C c Q ⟨t,h,nx⟩:=
 GX s _ b (fun M ρ v B=>by cases B with |d _ _ h=>cases h with |bz a=>exact .d _ _ (.ie _ _ _ _)) e
theorem HR.still{M F:aD}{ρ:Names}{h:ar}{w:World}(E:HR M F ρ h w){n ty k L len:Nat}{f:Nat->Nat->D}(W:h n=some (.rows ty k L f))(hl:len<=L){v:Value}(hv:VR M ρ (.sl n 0 len) v):
  ∃ M',M.le M'/\HR M' F ρ (upd h n none) w/\VR M' ρ (.d (.vec k len f)) v:=by
 cases hv with
 |jo _ _ x U hR aa=>exact⟨M,aD.le_refl _,E.drop n, .d _ _ (.ie _ _ _ _)⟩
 |sl _ _ _ x U IK hR h0=>
  obtain⟨x',I,X⟩:=E.live n _ W
  rw[U]at I;obtain rfl:=Option.some.inj I
  rcases X with⟨Y,_⟩|⟨_,hM,hF,o,h3,h4⟩
  ·omega
  cases o with
  |cells cur T fz=>
   obtain⟨rfl,rfl,g1,g2,g3,g4⟩:=h4
   let M':aD:=fun b=>if b=x.b then some (.cells cur T (0,0))else M b
   have hle:M.le M':=by
    intro b o B
    have :b≠x.b:=by rintro rfl;rw[hM]at B;cases B
    simp[M',this,B]
   refine⟨M',hle,E.tB hle (fun m b hm=>?_) ?_ ?_ (fun m b y hm hy q0=>?_) (fun m S es hm b B=>?_), .d _ _ ?_⟩
   ·rw[az]at hm;split at hm
    ·cases hm
    ·exact hm
   ·intro b o B
    by_cases e:b=x.b
    ·subst e;simp[M']at B;subst B;exact h3
    ·simp[M',e]at B;exact E.fT b o B
   ·intro b o B
    have :b≠x.b:=by rintro rfl;rw[hF]at B;cases B
    simp[M',this];exact E.j9 b o B
   ·rw[az]at hm;split at hm
    ·cases hm
    ·next e=>
     obtain⟨y',J,X⟩:=E.live m b hm
     rw[hy]at J;obtain rfl:=Option.some.inj J
     have :y.b≠x.b:=fun B=>e (E.sep m n y x (by rw[hm];simp) (by rw[W];simp) hy U q0 h0 B)
     rcases X with⟨Y,_⟩|⟨_,q1,_⟩
     ·omega
     ·simp[M',this,q1]
   ·rw[az]at hm;split at hm
    ·cases hm
    ·obtain⟨_,_,_,g1,g2,_⟩:=E.fam m S es hm
     have :b≠x.b:=fun e=>g2 n x (by rw[W];simp) U h0 (e▸B)
     simp[M',this,(g1 b B).1]
   ·subst g1
    have G:∀ i c,i<len->c<x.k->∃ v,cur[i*x.k+c]? =some v/\DR M (f i c) v:=fun i c V O=>g4 i c (by omega) O
    refine .vec x.k len f x.b (0*x.k) _ cur T (0,0) (fun i c=>(cur[i*x.k+c]?).getD undef) (by simp[M']) (by omega) (fun i c V O=>?_) (fun i c V O=>?_)
    ·obtain⟨v,v1,_⟩:=G i c V O
     rw[Nat.zero_mul,Nat.zero_add,v1];rfl
    ·obtain⟨v,v1,v2⟩:=G i c V O
     simp only[v1,Option.getD_some];exact v2.mono hle
  |_=>exact h4.elim
theorem HR.torows{M F:aD}{ρ:Names}{h:ar}{w:World}(e:HR M F ρ h w){n ty k:Nat}{xs:List SV}(B:h n=some (.cells ty k xs))(E:0<k)(L:Nat)(f:Nat->Nat->D)(hl:L*k<=xs.length)(G:∀ i c,i<L->c<k->xs[i*k+c]? =some (.d (f i c))):
  HR M F ρ (upd h n (some (.rows ty k L f))) w:=by
 refine e.swap n B (fun x obj b=>?_) (fun h=>by cases h)
 cases obj with
 |cells cur T fz=>
  obtain⟨I,J,O,U,h5,V⟩:=b
  refine⟨I,J,O,U,?_,fun i c W X=>?_⟩
  ·have :L*k<=x.R*k:=by omega
   exact Nat.le_of_mul_le_mul_right this E
  ·obtain⟨v,Y,k2⟩:=V _ _ (G i c W X)
   exact⟨v,Y,by cases k2 with |d _ _ h=>exact h⟩
 |_=>exact b.elim
theorem AY{C:Ctx}{o:Oper}{nm:Nat}{v:Operand->SV}{bs:List (Nat×aB)}{e k len:Nat}{xs:List SV}(G:bV C o nm v bs (fun x w=>x= .sl nm 0 len/\w= [(nm,some (.cells e k xs))]))(f:Nat->Nat->D)(X:0<k)(hl:len*k<=xs.length)
  (Y:∀ i c,i<len->c<k->xs[i*k+c]? =some (.d (f i c))):bV C o nm v bs (fun x w=>x= .d (.vec k len f)/\w= []):=by
 intro M F ρ a h w hv hG V I E K Q hK
 refine G M F ρ a h w hv hG V I E K Q ?_
 rintro M' aq u wr u' w' hM J hn ⟨rfl,rfl⟩ O U hS
 have B:h nm=none:=by
  cases e:h nm with
  |none=>rfl
  |some b=>
   obtain⟨x,W,_⟩:=V.live nm b e
   rw[E nm (Nat.le_refl _) (by omega)]at W;cases W
 have h1:=HR.torows U (n:=nm) (ty:=e) (k:=k) (xs:=xs) (by show upd h nm _ nm=_;exact upd_same _ _ _) X len f hl Y
 obtain⟨M2,g1,g2,g3⟩:=HR.still h1 (n:=nm) (len:=len) (upd_same _ _ _) (Nat.le_refl _) O
 refine hK M2 aq _ [] u' w' (aD.le_trans hM g1) J hn ⟨rfl,rfl⟩ g3 ?_ hS
 have :upd (upd (dB h [(nm,some (aB.cells e k xs))]) nm (some (aB.rows e k len f))) nm none=dB h []:=by
  funext m
  simp only[dB,az]
  split
  ·next e=>subst e;exact B.symm
  ·rfl
 rw[<-this];exact g2
section
variable {C:Ctx} {ops:List Oper} {i:Nat} {o:Oper} {l:List Oper} {t:Nat->SV} {h h':ar} {nx:Nat} {K:St->Prop} {acc:List FP}
theorem Hu{ty e len:Nat}{parts:Array (Nat×Operand)}{xs:List SV}(k:Nat)(f:Nat->Nat->D)(d nm E:Nat)(G:i+1=E)(B:nx+8*i=nm)(I:o.guard=none)(b:o.dst=some d)(hd:Nat.blt d C.sz=true)(J:o.op= .buildSlice ty len parts)
  (O:lz C.P nm ty len (b8 (bE C t) parts.toList)=some (True,[], .sl nm 0 len,[(nm,some (.cells e k xs))])) (U:Nat.blt 0 k=true) (hl:Nat.ble (len*k) xs.length=true) (V:∀ i c,i<len->c<k->xs[i*k+c]? =some (.d (f i c)))
  (W:an C ops E l ⟨upd t d (.d (.vec k len f)),h,nx⟩ none K):an C ops i (o::l) ⟨t,h,nx⟩ none K:=by
 subst G;subst B
 obtain⟨X,h2,h3⟩:=o8 (C:=C) (nm:=nx+8*i) (v:=bE C t) (h:=h) J O trivial
 refine cp (σ:=⟨t,h,nx⟩) (bs:= []) (wr:= []) I (by unfold aM;rw[b];exact hd) (AY X f (by simpa using U) (Nat.le_of_ble_eq_true hl) V) (fun p Y=>by cases Y) rfl ?_
 unfold St.app;rw[b];exact W
end
theorem fl{C:Ctx}{c:Code}{Q:Exit->St->Prop}{t:Nat->SV}{h:ar}{nx:Nat}(n j ty k:Nat)(f:Nat->Nat->D){B G:Nat}{xs:List SV}(hn:h n=some (.cells B G xs))(hj:xs[j]? =some (.d .bz))(I:Nat.beq n nx=false)
  (kk:W C c Q ⟨t,upd (upd h nx (some (.rows ty k 0 f))) n (some (.cells B G (xs.set j (.sl nx 0 0)))),nx+8⟩):W C c Q ⟨t,h,nx⟩:=by
 intro M F pin ρ a w b
 have J:∀ m,nx<=m->m<nx+8->ρ m=none:=fun m O _=>b.fr m O
 obtain⟨aq,X,k2,k3,k4⟩:=b.hr.ghost J ty k f
 have U:n≠nx:=fun e=>by subst e;simp at I
 have V:upd h nx (some (.rows ty k 0 f)) n=some (.cells B G xs):=by rw[bU _ _ _ _ U];exact hn
 have k5:=k4.swap n V (b':= .cells B G (xs.set j (.sl nx 0 0))) (fun x obj Y=>?_) (fun h=>by cases h)
 ·refine kk M F pin aq a w ⟨⟨fun m=>(b.tm m).mono (aD.le_refl _) X,b.sz,b.df,k5,Names.le_trans b.pn X,b.pm,b.gl⟩,fun m hm=>?_⟩
  have hm':nx+8<=m:=hm
  rw[k2 m (.inr hm')];exact b.fr m (by show nx<=m;omega)
 ·cases obj with
  |cells cur T fz=>
   obtain⟨O,h2,h3,h4,h5,h6⟩:=Y
   refine⟨O,h2,h3,h4,by rw[List.length_set];exact h5,fun q s E=>?_⟩
   rw[List.getElem?_set]at E
   split at E
   ·next e=>
    subst e
    split at E
    ·cases E
     obtain⟨v,v1,v2⟩:=h6 j _ hj
     refine⟨v,v1,?_⟩
     cases v2 with |d _ _ hd=>cases hd with |bz aa=>exact .jo nx 0 _ k3 rfl aa
    ·cases E
   ·exact h6 q s E
  |_=>exact Y.elim
def CL(n b m:Nat):Nat:=bif Nat.beq m n then b else m
mutual
def mv(n e:Nat):SV->SV
 | .ptr m i c=> .ptr (CL n e m) i c
 | .sl m o l=> .sl (CL n e m) o l
 | .cs m c l=> .cs (CL n e m) c l
 | .op m b=> .op (CL n e m) b
 | .map m=> .map (CL n e m)
 | .fn f cs=> .fn f (Cg n e cs)
 | .agg xs=> .agg (Cg n e xs)
 | .bA xs=> .bA (Cg n e xs)
 | .iface t x=> .iface t (mv n e x)
 | .any=> .any
 | .d x=> .d x
 | .vp k l f i c=> .vp k l f i c
def Cg(n b:Nat):List SV->List SV
 | []=> []
 |x::r=>mv n b x::Cg n b r
end
def IB(n b:Nat):List (Nat×SV)->List (Nat×SV)
 | []=> []
 |(j,x)::r=>(j,mv n b x)::IB n b r
theorem tZ{n b:Nat}:∀ {op:List (Nat×SV)} {p:Nat×SV},p∈IB n b op->∃ q,q∈op/\p=(q.1,mv n b q.2)
 | [],p,h=>by cases h
 |(j,x)::r,p,h=>by
  rcases List.mem_cons.1 h with rfl|h
  ·exact⟨_,List.mem_cons_self ..,rfl⟩
  ·obtain⟨q,k,e⟩:=tZ h;exact⟨q,List.mem_cons_of_mem _ k,e⟩
theorem CM{n b:Nat}:∀ {op:List (Nat×SV)} {q:Nat×SV},q∈op->(q.1,mv n b q.2)∈IB n b op
 | [],q,h=>by cases h
 |(j,x)::r,q,h=>by
  rcases List.mem_cons.1 h with rfl|h
  ·exact List.mem_cons_self ..
  ·exact List.mem_cons_of_mem _ (CM h)
def kE(n e:Nat):aB->aB
 | .cells ty k xs=> .cells ty k (Cg n e xs)
 | .fam S es=> .fam S ⟨es.es,IB n e es.op,es.ly⟩
 | .iter m since seen=> .iter (mv n e m) since seen
 |b=>b
theorem ec(n b:Nat):∀ xs,(Cg n b xs).length=xs.length
 | []=>rfl
 |x::r=>by simp[Cg,ec n b r]
theorem ua(n b:Nat):∀ (xs:List SV) (i:Nat),(Cg n b xs)[i]? =(xs[i]?).map (mv n b)
 | [],i=>by simp[Cg]
 |x::r,0=>by simp[Cg]
 |x::r,i+1=>by simp[Cg,ua n b r i]
theorem VR.mv{M:aD}{ρ aq:Names}{n O:Nat}(B:∀ m z,ρ m=some z->aq (CL n O m)=some z){x:SV}{v:Value}(h:VR M ρ x v):VR M aq (Nice.mv n O x) v:=by
 have D:∀ (xs:List SV) (P:Nat->SV->Prop),(∀ i x,xs[i]? =some x->P i (Nice.mv n O x))->∀ i y,(Cg n O xs)[i]? =some y->P i y:=by
  intro xs P V i y I
  rw[ua]at I
  cases e:xs[i]? with
  |none=>rw[e]at I;cases I
  |some z=>rw[e]at I;cases I;exact V i z e
 induction h with
 |any v=>exact .any v
 |d z v h=>exact .d z v h
 |vp k len f i c b o cur T fz g hb E U=>exact .vp k len f i c b o cur T fz g hb E U
 |ptr m i c z h=>exact .ptr _ i c z (B m z h)
 |sl m o len z h hl hR h0=>exact .sl _ o len z (B m z h) hl hR h0
 |jo m o z h hR a=>exact .jo _ _ z (B m z h) hR a
 |cs m c len z cap h hc=>exact .cs _ c len z cap (B m z h) hc
 |Fb m z h=>exact .Fb _ z (B m z h)
 |Ff m=>exact .Ff _
 |map m z h=>exact .map _ z (B m z h)
 |fn f aZ vs g J E U G=>exact .fn f _ vs g (by rw[ec];exact J) (by rw[ec];exact E) (D aZ (fun i y=>VR M aq y (g i)) G)
 |agg xs vs g J E U G=>exact .agg _ vs g (by rw[ec];exact J) (by rw[ec];exact E) (D xs (fun i y=>VR M aq y (g i)) G)
 |bA xs vs g J E U G=>exact .bA _ vs g (by rw[ec];exact J) (by rw[ec];exact E) (D xs (fun i y=>VR M aq y (g i)) G)
 |iface t z v h G=>exact .iface t _ v G
theorem BR.mv{M:aD}{ρ aq:Names}{n X:Nat}(B:∀ m z,ρ m=some z->aq (CL n X m)=some z){z:Own}{b:aB}{o:Obj}(h:BR M ρ z b o):BR M aq z (kE n X b) o:=by
 cases b with
 |cells ty k xs=>cases o with
  |cells cur T Y=>
   obtain⟨G,I,J,h4,h5,h6⟩:=h
   refine⟨G,I,J,h4,by rw[ec];exact h5,fun j s D=>?_⟩
   rw[ua]at D
   cases e:xs[j]? with
   |none=>rw[e]at D;cases D
   |some y=>
    rw[e]at D;cases D
    obtain⟨v,hv,E⟩:=h6 j y e
    exact⟨v,hv,E.mv B⟩
  |_=>exact h.elim
 |rows ty k len f=>cases o<;>exact h
 |map es=>cases o<;>exact h
 |fam S es=>cases o with
  |map iK cl=>
   obtain⟨h0,G,I,J⟩:=h
   refine⟨h0,G,I,fun p O=>?_⟩
   obtain⟨q,U,rfl⟩:=tZ O
   obtain⟨y,V,E⟩:=J q U
   exact⟨y,V,E.mv B⟩
  |cells cur T Y=>
   refine⟨h.1,fun p O=>?_⟩
   obtain⟨q,U,rfl⟩:=tZ O
   obtain⟨y,V,E⟩:=h.2 q U
   exact⟨y,V,E.mv B⟩
  |_=>exact h.elim
 |iter m since seen=>cases o with
  |mapIter mp s' W cl=>exact⟨h.1.mv B,h.2⟩
  |_=>exact h.elim
theorem FR.mv{M:aD}{w:World}{b:Nat}{S:List Nat}{es:ko}{n e:Nat}(h:FR M w b S es):FR M w b S ⟨es.es,IB n e es.op,es.ly⟩:=h.Cn rfl fun j k s bl v=>⟨k,v.1,fun p B=>v.2 (p.1,Nice.mv n e p.2) (CM B)⟩
theorem pO{n k:Nat}{b:aB}{S:List Nat}{es:ko}(h:kE n k b= .fam S es):∃ e,b= .fam S e/\es=⟨e.es,IB n k e.op,e.ly⟩:=by
 cases b with
 |fam S' e=>simp only[kE,aB.fam.injEq]at h;obtain⟨rfl,rfl⟩:=h;exact⟨e,rfl,rfl⟩
 |_=>simp[kE]at h
theorem lC(n e:Nat)(b:aB):(kE n e b).ghost=b.ghost:=by cases b<;>rfl
theorem rename{C:Ctx}{c:Code}{Q:Exit->St->Prop}{t:Nat->SV}{h:ar}{nx:Nat}(n:Nat){b:aB}(hn:h n=some b)(al:Nat.beq n nx=false)
  (kk:W C c Q ⟨fun k=>mv n nx (t k),upd (upd (fun m=>(h m).map (kE n nx)) n none) nx (some (kE n nx b)),nx+8⟩):W C c Q ⟨t,h,nx⟩:=by
 intro M F pin ρ a w B
 have a5:n≠nx:=fun e=>by subst e;simp at al
 have av:ρ nx=none:=B.fr nx (Nat.le_refl nx)
 let aq:Names:=fun m=>if m=nx then ρ n else ρ m
 have hle:ρ.le aq:=by
  intro m x D
  have :m≠nx:=by rintro rfl;rw[av]at D;cases D
  simp[aq,this,D]
 have O:∀ m z,ρ m=some z->aq (CL n nx m)=some z:=by
  intro m z hz
  unfold CL
  cases e:Nat.beq m n with
  |true=>have :=Nat.eq_of_beq_eq_true e;subst this;simp[aq,hz]
  |false=>exact hle m z hz
 have U:=B.hr
 refine kk M F pin aq a w ⟨⟨fun k=>(B.tm k).mv O,B.sz,B.df,⟨U.fT,U.iL,U.j9,?_,?_,?_⟩,Names.le_trans B.pn hle,B.pm,fun g ρ=>B.gl g ρ⟩,?_⟩
 rotate_left 2
 ·have key:∀ p,upd (upd (fun m=>(h m).map (kE n nx)) n none) nx (some (kE n nx b)) p≠none->h (if p=nx then n else p)≠none/\upd (upd (fun m=>(h m).map (kE n nx)) n none) nx (some (kE n nx b)) p=(h (if p=nx then n else p)).map (kE n nx)/\aq p=ρ (if p=nx then n else p)/\(p≠nx->p≠n):=by
   intro p v
   rw[az]at v ⊢
   by_cases e:p=nx
   ·subst e
    simp only[if_true]
    exact⟨by rw[hn];simp,by rw[hn];rfl,by simp[aq],fun h=>absurd rfl h⟩
   ·rw[if_neg e,az]at v
    rw[if_neg e,if_neg e,az]
    by_cases I:p=n
    ·rw[if_pos I]at v;exact absurd rfl v
    ·rw[if_neg I]at v ⊢
     exact⟨fun V=>by rw[V]at v;exact v rfl,rfl,by simp[aq,e],fun _=>I⟩
  intro p S es v
  have v:upd (upd (fun m=>(h m).map (kE n nx)) n none) nx (some (kE n nx b)) p=some (.fam S es):=v
  obtain⟨k1,k2,k3,k4⟩:=key p (by rw[v];simp)
  rw[v]at k2
  obtain⟨b0,aa⟩:=Option.ne_none_iff_exists'.1 k1
  rw[aa]at k2
  obtain⟨ax,rfl,rfl⟩:=pO (Option.some.inj k2).symm
  obtain⟨x,D,g0,g1,g2,g3,g4⟩:=U.fam _ S ax aa
  refine⟨x,by rw[k3];exact D,g0,g1,fun q y J hy X=>?_,fun q S2 a0 a1 J=>?_,g4.mv⟩
  ·obtain⟨j1,j2,j3,j4⟩:=key q J
   exact g2 _ y j1 (by rw[<-j3];exact hy) X
  ·have J:upd (upd (fun m=>(h m).map (kE n nx)) n none) nx (some (kE n nx b)) q=some (.fam S2 a0):=J
   obtain⟨j1,j2,j3,j4⟩:=key q (by rw[J];simp)
   rw[J]at j2
   obtain⟨b2,ah⟩:=Option.ne_none_iff_exists'.1 j1
   rw[ah]at j2
   obtain⟨a2,rfl,rfl⟩:=pO (Option.some.inj j2).symm
   refine g3 _ S2 a2 (fun e=>a1 ?_) ah
   by_cases E:p=nx<;>by_cases G:q=nx
   ·rw[E,G]
   ·rw[if_pos E,if_neg G]at e;exact absurd e (j4 G)
   ·rw[if_neg E,if_pos G]at e;exact absurd e.symm (k4 E)
   ·rw[if_neg E,if_neg G]at e;exact e
 rotate_right 2
 ·intro m blk hm
  have hm:upd (upd (fun m=>(h m).map (kE n nx)) n none) nx (some (kE n nx b)) m=some blk:=hm
  rw[az]at hm
  split at hm
  ·next e=>
   subst e;cases hm
   obtain⟨x,D,a3⟩:=U.live n b hn
   refine⟨x,by simp[aq,D],?_⟩
   rcases a3 with⟨Y,hg⟩|⟨Y,h1,h2,o,h3,h4⟩
   ·exact .inl ⟨Y,by rw[lC];exact hg⟩
   ·exact .inr ⟨Y,h1,h2,o,h3,h4.mv O⟩
  ·next e=>
   rw[az]at hm
   split at hm
   ·cases hm
   ·next I=>
    cases V:h m with
    |none=>simp[V]at hm
    |some b0=>
     simp only[V,Option.map_some,Option.some.injEq]at hm
     subst hm
     obtain⟨x,D,a3⟩:=U.live m b0 V
     refine⟨x,hle m x D,?_⟩
     rcases a3 with⟨Y,hg⟩|⟨Y,h1,h2,o,h3,h4⟩
     ·exact .inl ⟨Y,by rw[lC];exact hg⟩
     ·exact .inr ⟨Y,h1,h2,o,h3,h4.mv O⟩
 ·have key:∀ p x,upd (upd (fun m=>(h m).map (kE n nx)) n none) nx (some (kE n nx b)) p≠none->aq p=some x->h (if p=nx then n else p)≠none/\ρ (if p=nx then n else p)=some x/\(p≠nx->p≠n):=by
   intro p x v D
   rw[az]at v
   by_cases e:p=nx
   ·subst e
    simp only[if_true]
    exact⟨by rw[hn];simp,by simpa[aq]using D,fun h=>absurd rfl h⟩
   ·rw[if_neg e,az]at v
    rw[if_neg e]
    by_cases I:p=n
    ·rw[if_pos I]at v;exact absurd rfl v
    ·rw[if_neg I]at v
     refine⟨fun V=>by rw[V]at v;exact v rfl,by simpa[aq,e]using D,fun _=>I⟩
  intro p q x y v J D hy a4 X hb
  obtain⟨p1,p2,p3⟩:=key p x v D
  obtain⟨q1,q2,q3⟩:=key q y J hy
  have :=U.sep _ _ x y p1 q1 p2 q2 a4 X hb
  by_cases E:p=nx<;>by_cases G:q=nx
  ·rw[E,G]
  ·rw[if_pos E,if_neg G]at this;exact absurd this.symm (q3 G)
  ·rw[if_neg E,if_pos G]at this;exact absurd this (p3 E)
  ·rw[if_neg E,if_neg G]at this;exact this
 ·intro m hm
  have hm':nx+8<=m:=hm
  have :m≠nx:=by omega
  simp only[aq,if_neg this]
  exact B.fr m (by show nx<=m;omega)
def Wn(C:Ctx)(K:St->Prop)(σ:St):Prop:=∀ M F pin ρ a w,SR C M F pin ρ σ a w->∃ M' aq aF,M.le M'/\SR C M' F pin aq aF a w/\K aF
theorem wn{C:Ctx}{K:St->Prop}{σ:St}(k:K σ):Wn C K σ:=fun M F pin ρ a w b=>⟨M,ρ,σ,aD.le_refl _,b,k⟩
theorem IL{C:Ctx}{c:Code}{Q:Exit->St->Prop}{σ:St}(h:W C c (fun e aF=>match e with | .normal=>Wn C (Q .normal) aF|e=>Q e aF) σ):W C c Q σ:=by
 intro M F pin ρ a w G
 refine fj ?_ (h M F pin ρ a w G)
 rintro e I w' ⟨M',aq,aF,v,B,D,E⟩
 cases e with
 |normal=>
  obtain⟨J,b,k,g1,O,U⟩:=E M' F pin aq I w' B
  exact⟨J,b,k,aD.le_trans v g1,O,D,U⟩
 |_=>exact⟨M',aq,aF,v,B,D,E⟩
theorem Kt{C:Ctx}{Q:Exit->St->Prop}{σ:St}{id:Nat}{ops:Array Oper}(k:an C ops.toList 0 ops.toList σ none (fun aF=>Wn C (Q .normal) aF))(b:nU C.P [] ops=true:=by kernel_rfl):W C (.region id ops false) Q σ:=IL (fX b k)
theorem Hv{C:Ctx}{K:St->Prop}{t:Nat->SV}{h:ar}{nx:Nat}(n e:Nat)(g:Nat->Nat->D){ty k L:Nat}{f:Nat->Nat->D}(G:h n=some (.rows ty k L f))(hl:L=e)(I:∀ i c,i<L->c<k->f i c=g i c)
  (J:Wn C K ⟨t,upd h n (some (.rows ty k e g)),nx⟩):Wn C K ⟨t,h,nx⟩:=by
 subst hl
 intro M F pin ρ a w b
 refine J M F pin ρ a w ⟨⟨b.tm,b.sz,b.df,?_,b.pn,b.pm,b.gl⟩,b.fr⟩
 refine b.hr.swap n G (fun x obj v=>?_) (fun h=>by cases L with |zero=>rfl|succ L=>cases h)
 cases obj with
 |cells cur T fz=>
  obtain⟨O,U,V,W,X,Y⟩:=v
  exact⟨O,U,V,W,X,fun i c B E=>by rw[<-I i c B E];exact Y i c B E⟩
 |_=>exact v.elim
theorem CN{C:Ctx}{K:St->Prop}{t:Nat->SV}{h:ar}{nx:Nat}(n:Nat)(b':aB){b:aB}(v:h n=some b)(B:b=b')(k:Wn C K ⟨t,upd h n (some b'),nx⟩):Wn C K ⟨t,h,nx⟩:=by
 have same:upd h n (some b')=h:=by
  funext m;rw[az];split
  ·next e=>subst e;rw[v,B]
  ·rfl
 rw[<-same];exact k
def pP(P:Program)(t:TypeId)(x b:SV):Option Out:=
 match P.underlying t with
 |some (.array len e)=>
  match P.info? e,eV P e with
  |some i,some true=>
   match x,b with
   | .agg xs, .d (.val (.int _ n))=>if Nat.ble (n.toNat*i.size+i.size) xs.length then some (0<=n/\n<len,[], .agg ((xs.drop (n.toNat*i.size)).take i.size),[])else none
   |_,_=>none
  |_,_=>none
 |_=>none
theorem AZ{C:Ctx}{o:Oper}{nm:Nat}{v:Operand->SV}{h:ar}{x:Out}{t:TypeId}{y B:Operand}(D:o.op= .index t y B)(e:pP C.P t (v y) (v B)=some x):Sound C o nm v h x:=by
 unfold pP at e
 split at e
 ·next len el E=>
  split at e
  ·next i W G=>
   split at e
   ·next xs kk n X I=>
    split at e
    ·next O=>
     cases e
     rintro⟨Y,h1⟩
     have O:=Nat.le_of_ble_eq_true O
     refine⟨aJ fun M F ρ a h w U hH _=>?_,fun p hp=>by simp at hp,rfl⟩
     have e1:=U y (by rw[D];exact aP (.inl rfl));rw[X]at e1
     have V:=U B (by rw[D];exact aP (.inr rfl));rw[I]at V
     obtain⟨vs,hq,b⟩:=fY e1
     have J:0<=n/\n<(len:Int):=⟨Y,h1⟩
     refine⟨.agg (vs.extract (n.toNat*i.size) (n.toNat*i.size+i.size)),?_, .zm _ _ ?_ fun j s k=>?_⟩
     ·simp[execOp,D,hq,V.val,Instr.index,asIntOf,run_underlying E,J,part,ew G,sizeOf,typeInfo,W]
     ·simp[b.1];omega
     ·rw[List.getElem?_take]at k
      split at k
      ·next hj=>
       rw[List.getElem?_drop]at k
       obtain⟨u,u1,u2⟩:=b.2 _ _ k
       refine⟨u,?_,u2⟩
       rw[Array.getElem?_extract]
       rw[if_pos (by have :=b.1;omega)]
       exact u1
      ·cases k
    ·cases e
   ·cases e
  ·cases e
 ·cases e
end Go.Proofs.YtifcaekngfgdmaaDoor.Nice
namespace Go.Proofs.YtifcaekngfgdmaaDoor.Nice.Co
open Go Go.Conc
abbrev aI:=Nat->Prop
structure dd (A Rd:aI) (w af:World):Prop where
 same:bG w af
 ab:∀ b,A b\/Rd b->af.heap[b]? =w.heap[b]?
theorem dd.refl{A Rd:aI}(w:World):dd A Rd w w:=⟨.refl w,fun _ _=>rfl⟩
theorem dd.trans{A Rd:aI}{a b c:World}(h:dd A Rd a b)(k:dd A Rd b c):dd A Rd a c:=⟨h.same.trans k.same,fun x e=>(k.ab x e).trans (h.ab x e)⟩
def l9(A Rd:aI)(e:Event):Prop:=
 (∃ ad s,e=⟨.cell ad,false,s⟩/\(A ad.block\/Rd ad.block))\/(∃ ad s,e=⟨.cell ad,true,s⟩/\A ad.block)\/e=noRoomEvent\/(∃ r wr,e=⟨.obj r,wr,false⟩/\A r)
structure mc (A Rd:aI) (w w':World) (es:Array Event):Prop where
 same:bG w w'
 ab:∀ b,b<w.heap.size-> ¬ A b->w'.heap[b]? =w.heap[b]?
 evs:∀ e,e∈es->l9 A Rd e
theorem mc.idle{A Rd:aI}(w:World):mc A Rd w w #[]:=⟨.refl w,fun _ _ _=>rfl,fun e b=>by simp at b⟩
def more(A:aI)(w w':World):aI:=fun b=>A b\/(w.heap.size<=b/\b<w'.heap.size)
theorem dp(A:aI)(w:World):more A w w=A:=by
 funext b;apply propext;unfold more
 exact⟨fun h=>h.elim id fun h=>absurd h.2 (Nat.not_lt.2 h.1), .inl⟩
structure Tr (P:Program) where
 main:Bool
 Rd:aI
 T:aI->Goroutine->World->Prop
 step:∀ (A:aI) (g:Goroutine) (w:World),g.status= .running->
  (∀ af,dd A Rd w af->∃ g' w' es,stepG P main g af= .go g' w' es/\mc A Rd af w' es/\T (more A af w') g' w')->T A g w
 rely:∀ (A:aI) (g:Goroutine) (w af:World),T A g w->dd A Rd w af->T A g af
theorem Tr.idle{P:Program}(K:Tr P){A:aI}{g g':Goroutine}{w:World}(e:g.status= .running)(h:∀ af,stepG P K.main g af= .go g' af #[])(k:K.T A g' w):K.T A g w:=
 K.step A g w e fun af b=>⟨g',af,#[],h af,mc.idle af,by rw[dp];exact K.rely A g' w af k b⟩
noncomputable def ext(A Rd:aI)(F:aD)(w:World):aD:=fun b=>
 open Classical in if A b\/Rd b then F b else w.heap[b]?
structure Fit (A Rd:aI) (F M:aD) (w:World):Prop where
 fa:∀ b,F b≠none->A b
 rm:∀ b,Rd b->M b≠none
 lt:∀ b,A b->b<w.heap.size
theorem cm{A Rd:aI}{F:aD}{w:World}{b:Nat}(h:A b\/Rd b):ext A Rd F w b=F b:=by unfold ext;rw[if_pos h]
theorem c8{A Rd:aI}{F:aD}{w:World}{b:Nat}(h: ¬ (A b\/Rd b)):ext A Rd F w b=w.heap[b]? :=by unfold ext;rw[if_neg h]
theorem qu{A Rd:aI}{F:aD}{w:World}{b:Nat}{o:Obj}(h:ext A Rd F w b=none)(k:w.heap[b]? =some o):A b\/Rd b:=by
 by_cases e:A b\/Rd b
 ·exact e
 ·rw[c8 e,k]at h;cases h
section
variable {A Rd:aI} {M F:aD} {ρ:Names} {h:ar} {w af:World}
theorem vS(H:HR M (ext A Rd F w) ρ h w){b:Nat}(k:M b≠none):A b\/Rd b:=by
 obtain⟨o,v⟩:=Option.ne_none_iff_exists'.1 k
 refine Classical.byContradiction fun e=>k (H.j9 b o ?_)
 rw[c8 e];exact H.fT b o v
theorem m4(f:Fit A Rd F M w){b:Nat}{o:Obj}(e:M b=none)(k:ext A Rd F w b=none)(v:w.heap[b]? =some o):A b:=
 (qu k v).elim id fun B=>absurd e (f.rm b B)
theorem CO(H:HR M (ext A Rd F w) ρ h w)(f:Fit A Rd F M w){n:Nat}{blk:aB}{x:Own}(k:h n=some blk)(v:ρ n=some x)(J:0<x.R):A x.b:=by
 obtain⟨O,e,B⟩:=H.live n blk k
 rw[v]at e;obtain rfl:=Option.some.inj e
 rcases B with⟨D,_⟩|⟨_,E,G,o,I,_⟩
 ·omega
 ·exact m4 f E G I
theorem lD(H:HR M (ext A Rd F w) ρ h w)(f:Fit A Rd F M w)(r:dd A Rd w af):HR M (ext A Rd F af) ρ h af:=by
 have v:∀ b,A b\/Rd b->ext A Rd F af b=ext A Rd F w b:=fun b k=>by rw[cm k,cm k]
 refine⟨fun b o k=>?_,fun b o k=>?_,fun b o k=>?_,fun n blk B=>?_,H.sep,?_⟩
 ·rw[r.ab b (vS H (by rw[k];simp))];exact H.fT b o k
 ·by_cases e:A b\/Rd b
  ·rw[v b e]at k;rw[r.ab b e];exact H.iL b o k
  ·rw[c8 e]at k;exact k
 ·by_cases e:A b\/Rd b
  ·rw[v b e]at k;exact H.j9 b o k
  ·exact Classical.byContradiction fun hm=>e (vS H hm)
 ·obtain⟨x,J,D⟩:=H.live n blk B
  refine⟨x,J,?_⟩
  rcases D with D|⟨W,h1,G,o,I,h4⟩
  ·exact .inl D
  ·have X:=qu G I
   exact .inr ⟨W,h1,by rw[v _ X];exact G,o,by rw[r.ab _ X];exact I,h4⟩
 ·refine H.dh (fun _ _ _ h=>h) (Names.le_refl _) (aD.le_refl _) r.same.size (fun n S es B b k g1 Y=>⟨g1,?_⟩) (fun n S es x c _ B J W O=>?_) (fun _ _ _ m y _ a b _=> .inl ⟨a,b⟩)
  ·obtain⟨_,_,_,U,_⟩:=H.fam n S es B
   obtain⟨_,_,V⟩:=U b k
   rw[v b (qu Y (Array.getElem?_eq_getElem V))];exact Y
  ·rcases O with rfl|O
   ·obtain⟨x',E,D⟩:=H.live n _ B
    rw[J]at E;obtain rfl:=Option.some.inj E
    rcases D with⟨aa,_⟩|⟨_,_,G,o,I,_⟩
    ·omega
    ·exact r.ab _ (qu G I)
   ·obtain⟨_,_,_,U,_⟩:=H.fam n S es B
    obtain⟨_,k2,V⟩:=U c O
    exact r.ab _ (qu k2 (Array.getElem?_eq_getElem V))
theorem kF(f:Fit A Rd F M w)(r:dd A Rd w af):Fit A Rd F M af:=⟨f.fa,f.rm,fun b e=>Nat.lt_of_lt_of_le (f.lt b e) r.same.size⟩
variable {M':aD} {aq:Names} {h':ar} {w':World}
theorem zx(H:HR M (ext A Rd F w) ρ h w)(f:Fit A Rd F M w)(O:M.le M')(H':HR M' (ext A Rd F w) aq h' w')(s:bG w w'):HR M' (ext (more A w w') Rd F w') aq h' w'/\Fit (more A w w') Rd F M' w'/\(∀ b,b<w.heap.size-> ¬ A b->w'.heap[b]? =w.heap[b]?):=by
 have ab:∀ b,b<w.heap.size-> ¬ A b->w'.heap[b]? =w.heap[b]? :=by
  intro b k V
  have D:w.heap[b]? =some (w.heap[b]'k):=Array.getElem?_eq_getElem k
  rw[D]
  by_cases v:Rd b
  ·obtain⟨o,E⟩:=Option.ne_none_iff_exists'.1 (f.rm b v)
   have :=H.fT b o E
   rw[D]at this;obtain rfl:=Option.some.inj this
   exact H'.fT b _ (O b _ E)
  ·exact H'.iL b _ (by rw[c8 (fun e=>e.elim V v)];exact D)
 have W:Fit (more A w w') Rd F M' w':=⟨fun b k=> .inl (f.fa b k),fun b k=>by
   obtain⟨o,D⟩:=Option.ne_none_iff_exists'.1 (f.rm b k)
   rw[O b o D];simp,fun b k=>k.elim (fun k=>Nat.lt_of_lt_of_le (f.lt b k) s.size) (·.2)⟩
 have key:∀ b,ext (more A w w') Rd F w' b=ext A Rd F w b\/(w'.heap[b]? =none/\ext (more A w w') Rd F w' b=none):=by
  intro b
  by_cases e:A b\/Rd b
  ·left
   rw[cm e,cm]
   exact e.elim (fun h=> .inl (.inl h)) .inr
  ·rw[c8 e]
   by_cases k:b<w.heap.size
   ·left
    have : ¬ (more A w w' b\/Rd b):=by
     rintro((B|B)|B)
     ·exact e (.inl B)
     ·omega
     ·exact e (.inr B)
    rw[c8 this]
    exact ab b k fun h=>e (.inl h)
   ·by_cases I:b<w'.heap.size
    ·left
     rw[cm (.inl (.inr ⟨by omega,I⟩))]
     rw[Array.getElem?_eq_none (by omega)]
     cases J:F b with
     |none=>rfl
     |some o=>exact absurd (f.fa b (by rw[J];simp)) fun h=>e (.inl h)
    ·right
     have G:w'.heap[b]? =none:=Array.getElem?_eq_none (by omega)
     refine⟨G,?_⟩
     by_cases U:more A w w' b\/Rd b
     ·rw[cm U]
      cases J:F b with
      |none=>rfl
      |some o=>exact absurd (f.fa b (by rw[J];simp)) fun h=>e (.inl h)
     ·rw[c8 U];exact G
 refine⟨⟨H'.fT,fun b o k=>?_,fun b o k=>?_,fun n blk G=>?_,H'.sep,?_⟩,W,ab⟩
 ·rcases key b with e|⟨_,e⟩
  ·rw[e]at k;exact H'.iL b o k
  ·rw[e]at k;cases k
 ·rcases key b with e|⟨_,e⟩
  ·rw[e]at k;exact H'.j9 b o k
  ·rw[e]at k;cases k
 ·obtain⟨x,X,v⟩:=H'.live n blk G
  refine⟨x,X,?_⟩
  rcases v with v|⟨Y,B,h2,o,h3,h4⟩
  ·exact .inl v
  ·refine .inr ⟨Y,B,?_,o,h3,h4⟩
   rcases key x.b with e|⟨_,e⟩
   ·rw[e];exact h2
   ·exact e
 ·refine H'.dh (fun _ _ _ h=>h) (Names.le_refl _) (aD.le_refl _) (Nat.le_refl _) (fun n S es G b k g1 g2=>⟨g1,?_⟩) (fun _ _ _ _ _ _ _ _ _ _=>rfl) (fun _ _ _ m y _ a b _=> .inl ⟨a,b⟩)
  rcases key b with e|⟨_,e⟩
  ·rw[e];exact g2
  ·exact e
end
def Fh{P:Program}(K:Tr P)(A:aI)(b:Frame)(k:List Item)(cs:List Frame):Exit->Act->World->Prop
 | .normal,a,w=>K.T A (G (b.at a k) cs) w
 | .exit id,a,w=>∃ e,exitTo id k=some e/\K.T A (G (b.at a e) cs) w
 | .ret,a,w=>∀ todo,K.T A (G {b.at a todo with mode:= .returning} cs) w
 |_,_,_=>False
theorem Fh.push{P:Program}{K:Tr P}{A:aI}{b:Frame}{x:Item}{k:List Item}{cs:List Frame}{e:Exit}{a:Act}{w:World}(E:x.plain=true)(v:e≠ .normal)(h:Fh K A b k cs e a w):Fh K A b (x::k) cs e a w:=by
 cases e with
 |normal=>exact absurd rfl v
 |exit id=>obtain⟨B,G,D⟩:=h;exact⟨B,by cases x<;>simp_all[exitTo,Item.plain],D⟩
 |ret=>exact h
 |goto l=>exact h
 |panic ch=>exact h
 |outgrown=>exact h
structure SC (C:Ctx) (A Rd:aI) (F M:aD) (pin ρ:Names) (σ:St) (a:Act) (w:World):Prop where
 fit:Fit A Rd F M w
 sr:SR C M (ext A Rd F w) pin ρ σ a w
def yb{P:Program}(C:Ctx)(K:Tr P)(A0:aI)(M0 F:aD)(pin:Names)(w0:World)(Q:Exit->St->Prop)(b:Frame)(k:List Item)(cs:List Frame):Prop:=
 ∀ e A M ρ σ a w,(∀ x,A0 x->A x)->M0.le M->SC C A K.Rd F M pin ρ σ a w->bG w0 w->Q e σ->Fh K A b k cs e a w
def W(C:Ctx)(c:Code)(Q:Exit->St->Prop)(σ:St):Prop:=
 ∀ (K:Tr C.P) A F M pin ρ a w,SC C A K.Rd F M pin ρ σ a w->∀ b k cs,b.kind≠ .early->yb C K A M F pin w Q b k cs->K.T A (G (b.at a (.code c::k)) cs) w
section
variable {C:Ctx} {Q:Exit->St->Prop} {σ:St}
theorem tH{c:Code}{Q':Exit->St->Prop}(h:W C c Q σ)(v:∀ e aF,Q e aF->Q' e aF):W C c Q' σ:=
 fun K A F M pin ρ a w B b k cs D E=>h K A F M pin ρ a w B b k cs D fun e A' M' aq aF G w' I J O U V=>E e A' M' aq aF G w' I J O U (v _ _ V)
theorem yb.now{C:Ctx}{P:Program}{K:Tr P}{A:aI}{M F:aD}{pin ρ:Names}{w:World}{Q:Exit->St->Prop}{b:Frame}{k:List Item}{cs:List Frame}{σ:St}{a:Act}(v:yb C K A M F pin w Q b k cs)(B:SC C A K.Rd F M pin ρ σ a w){e:Exit}(h:Q e σ):Fh K A b k cs e a w:=
 v e A M ρ σ a w (fun _ h=>h) (aD.le_refl _) B (.refl _) h
theorem yb.on{C:Ctx}{P:Program}{K:Tr P}{A A':aI}{M M' F:aD}{pin:Names}{w w':World}{Q:Exit->St->Prop}{b:Frame}{k:List Item}{cs:List Frame}(D:yb C K A M F pin w Q b k cs)(E:∀ x,A x->A' x)(G:M.le M')(I:bG w w'):yb C K A' M' F pin w' Q b k cs:=
 fun e J O v B U V W X Y h4 h5=>D e J O v B U V (fun x hx=>W x (E x hx)) (aD.le_trans G X) Y (I.trans h4) h5
theorem ak(h:Q .normal σ):W C .skip Q σ:=fun K A F M pin ρ a w e b k cs B v=>K.idle rfl (fun _=>stepG_skip) (v.now e h)
theorem bI{id:Nat}(h:Q (.exit id) σ):W C (.exit id) Q σ:=fun K A F M pin ρ a w e b k cs E v=>by
 obtain⟨G,B,D⟩:=v.now e h
 exact K.idle rfl (fun _=>stepG_exit B) D
theorem ao(h:Q .ret σ):W C .ret Q σ:=fun K A F M pin ρ a w e b k cs B v=>K.idle rfl (fun _=>stepG_ret') (v.now e h _)
theorem ai{x y:Code}(h:W C x (il (W C y Q) Q) σ):W C (.seq x y) Q σ:=by
 intro K A F M pin ρ a w U b k cs O v
 refine K.idle rfl (fun _=>stepG_seq) (h K A F M pin ρ a w U b (.code y::k) cs O ?_)
 intro e A' M' aq aF B w' D E G I J
 cases e with
 |normal=>exact J K A' F M' pin aq B w' G b k cs O (v.on D E I)
 |exit id=>exact Fh.push (x:= .code y) rfl (by simp) (v (.exit id) A' M' aq aF B w' D E G I J)
 |goto l=>exact v (.goto l) A' M' aq aF B w' D E G I J
 |ret=>exact v .ret A' M' aq aF B w' D E G I J
 |panic ch=>exact v (.panic ch) A' M' aq aF B w' D E G I J
 |outgrown=>exact v .outgrown A' M' aq aF B w' D E G I J
theorem xS{c:Operand}{x y:Code}{t:Bool}(E:bE C σ.t c=SV.b t)(G:t=true->W C x Q σ)(I:t=false->W C y Q σ):W C (.cond c x y) Q σ:=by
 intro K A F M pin ρ a w e b k cs v B
 have D:=gD e.sr.toSR0 c
 rw[E]at D
 refine K.idle rfl (fun _=>stepG_cond D.bool) ?_
 cases t with
 |true=>exact G rfl K A F M pin ρ a w e b k cs v B
 |false=>exact I rfl K A F M pin ρ a w e b k cs v B
theorem au{id:Nat}{c:Code}(h:W C c (eJ id Q) σ):W C (.block id c) Q σ:=by
 intro K A F M pin ρ a w V b k cs X D
 refine K.idle rfl (fun _=>stepG_block) (h K A F M pin ρ a w V b (.inBlock id::k) cs X ?_)
 intro e A' M' aq aF E w' G I J O v
 cases e with
 |normal=>exact K.idle rfl (fun _=>stepG_inBlock) (D .normal A' M' aq aF E w' G I J O v)
 |exit U=>
  simp only[eJ]at v
  by_cases B:U=id
  ·rw[if_pos B]at v
   exact⟨k,by simp[exitTo,B],D .normal A' M' aq aF E w' G I J O v⟩
  ·rw[if_neg B]at v
   obtain⟨Y,hk,hg⟩:=D (.exit U) A' M' aq aF E w' G I J O v
   have :(id==U)=false:=by simp;exact fun h=>B h.symm
   exact⟨Y,by simp[exitTo,this,hk],hg⟩
 |goto l=>exact D (.goto l) A' M' aq aF E w' G I J O v
 |ret=>exact D .ret A' M' aq aF E w' G I J O v
 |panic ch=>exact D (.panic ch) A' M' aq aF E w' G I J O v
 |outgrown=>exact D .outgrown A' M' aq aF E w' G I J O v
theorem pI{c:Code}(I:Nat->St->Prop)(n:Nat)(Y:I n σ)
  (round:∀ n σ,I n σ->W C c (il (fun aF=>∃ k,k<n/\I k aF) Q) σ):W C (.loop c) Q σ:=by
 intro K A F M pin ρ a w V b k cs hb v
 have key:∀ n σ A M ρ a w,I n σ->SC C A K.Rd F M pin ρ σ a w->yb C K A M F pin w Q b k cs->K.T A (G (b.at a (.code c:: .inLoop c::k)) cs) w:=by
  intro n
  induction n using Nat.strongRecOn with
  |_ n ih=>
   intro σ A M ρ a w hI V v
   refine round n σ hI K A F M pin ρ a w V b (.inLoop c::k) cs hb ?_
   intro e A' M' aq aF B w' D E J O U
   cases e with
   |normal=>
    obtain⟨j,hj,X⟩:=U
    exact K.idle rfl (fun _=>stepG_inLoop) (ih j hj aF A' M' aq B w' X J (v.on D E O))
   |exit id=>exact Fh.push (x:= .inLoop c) rfl (by simp) (v (.exit id) A' M' aq aF B w' D E J O U)
   |goto l=>exact v (.goto l) A' M' aq aF B w' D E J O U
   |ret=>exact v .ret A' M' aq aF B w' D E J O U
   |panic ch=>exact v (.panic ch) A' M' aq aF B w' D E J O U
   |outgrown=>exact v .outgrown A' M' aq aF B w' D E J O U
 exact K.idle rfl (fun _=>stepG_loop) (key n σ A M ρ a w Y V v)
theorem SC.sub{A Rd:aI}{F M:aD}{pin ρ:Names}{a:Act}{w:World}{π:List Nat}{tl:List (Nat×SV)}{hl:List (Option aB)}(e:SC C A Rd F M pin ρ σ a w)(b:Sub C π σ tl hl):SC C A Rd F M pin (back π ρ) (fg tl hl) a w:=
 ⟨e.fit,b.rel e.sr.toSR0⟩
theorem Cv{c:Code}(π:List Nat)(tl:List (Nat×SV))(hl:List (Option aB))(e:Sub C π σ tl hl)(h:W C c Q (fg tl hl)):W C c Q σ:=
 fun K A F M pin ρ a w v b k cs B D=>h K A F M pin _ a w (v.sub e) b k cs B D
theorem me{c:Code}{aF:St}(D:∀ M F pin ρ a w,SR C M F pin ρ σ a w->∃ M' aq,M.le M'/\SR C M' F pin aq aF a w)(h:W C c Q aF):W C c Q σ:=by
 intro K A F M pin ρ a w e b k cs v E
 obtain⟨M',aq,B,G⟩:=D M _ pin ρ a w e.sr
 have I:Fit A K.Rd F M' w:=⟨e.fit.fa,fun b v=>by
  obtain⟨o,J⟩:=Option.ne_none_iff_exists'.1 (e.fit.rm b v)
  rw[B b o J];simp,e.fit.lt⟩
 exact h K A F M' pin aq a w ⟨I,G⟩ b k cs v (E.on (fun _ h=>h) B (.refl _))
theorem xT{c:Code}{α:Type}(tl:α->List (Nat×SV))(hl:α->List (Option aB))(I:α->Prop)(B:α->Nat)(x0:α)(π:List Nat)
  (J:I x0) (v:Sub C π σ (tl x0) (hl x0))
  (round:∀ x,I x->W C c (il (fun aF=>∃ k π,I k/\B k<B x/\Sub C π aF (tl k) (hl k)) Q) (fg (tl x) (hl x))):W C (.loop c) Q σ:=by
 refine pI (fun n aF=>∃ x π,I x/\B x=n/\Sub C π aF (tl x) (hl x)) (B x0) ⟨x0,π,J,rfl,v⟩ ?_
 rintro n aF ⟨x,D,O,rfl,b⟩
 refine Cv D _ _ b (tH (round x O) ?_)
 intro e E G
 cases e with
 |normal=>
  obtain⟨k,p,U,V,X⟩:=G
  exact⟨_,V,k,p,U,rfl,X⟩
 |_=>exact G
end
def bV(C:Ctx)(o:Oper)(nm:Nat)(v:Operand->SV)(bs:List (Nat×aB))(B:SV->List (Nat×Option aB)->Prop):Prop:=
 ∀ (K:Tr C.P) A F M ρ a h w,Fit A K.Rd F M w->(∀ x,x∈o.op.operands->VR M ρ (v x) (a.eval x))->(∀ g ρ,VR M ρ (C.G g) (.pointer (some ⟨g,0,none⟩)))->HR M (ext A K.Rd F w) ρ h w->(∀ p,p∈bs->h p.1=some p.2)->(∀ n,nm<=n->n<nm+8->ρ n=none)->
  ∀ (e:Option (Nat×Bool)) (b:Frame) (ops:Array Oper) (i:Nat) (rest:List Nat) (k:List Item) (cs:List Frame),ops[i]? =some {o with guard:=e}->Region.wanted {o with guard:=e} (yielded ops a.tmps)=true->b.kind≠ .early->
   (∀ A' M' aq u wr u' w',(∀ x,A x->A' x)->M.le M'->ρ.le aq->(∀ n,n<nm\/nm+8<=n->aq n=ρ n)->B u wr->VR M' aq u u'->Fit A' K.Rd F M' w'->HR M' (ext A' K.Rd F w') aq (dB h wr) w'->bG w w'->K.T A' (G (b.at (a.put o.dst u') (.inRegion ops rest::k)) cs) w')->
   K.T A (G (b.at a (.inRegion ops (i::rest)::k)) cs) w
def D1(C:Ctx)(ops:List Oper)(nm:Nat)(o:Oper)(σ:St)(b:FP)(aF:St):Prop:=
 aM C o=true/\
 (
  (mP ops σ.t o/\∃ bs u wr,bV C o nm (bE C σ.t) bs (fun x y=>x=u/\y=wr)/\(∀ p,p∈bs->σ.h p.1=some p.2)/\cC bs nm wr=true/\
   b=(bs.map (·.1),wr.map (·.1))/\aF=σ.app o.dst u wr)\/
  (iO ops σ.t o/\b=([],[])/\aF=σ.app o.dst (.bA []) []))
def an(C:Ctx)(b:List Oper):Nat->List Oper->St->Option (List FP)->(St->Prop)->Prop
 |_,[],σ,acc,K=>Iz b acc/\K ⟨σ.t,σ.h,σ.nx+8*b.length⟩
 |i,o::l,σ,acc,K=>
  (∃ e aF,D1 C b (σ.nx+8*i) o σ e aF/\an C b (i+1) l aF (acc.map (· ++ [e])) K)\/
  (acc=none/\aM C o=true/\mP b σ.t o/\∃ bs k,bV C o (σ.nx+8*i) (bE C σ.t) bs k/\(∀ p,p∈bs->σ.h p.1=some p.2)/\
   ∀ u wr,k u wr->an C b (i+1) l (σ.app o.dst u wr) none K)
theorem ju{C:Ctx}{ops:List Oper}{nm:Nat}{o:Oper}{σ τ:St}{k:FP}{aF:St}(h:D1 C ops nm o σ k aF)
  (O:∀ y,y∈o.op.operands->bE C τ.t y=bE C σ.t y) (v:∀ j want s,o.guard=some (j,want)->eD ops j=some s->τ.t s=σ.t s) (U:∀ n,n∈k.1->τ.h n=σ.h n):
  ∃ u wr,wr.map (·.1)=k.2/\aF=σ.app o.dst u wr/\D1 C ops nm o τ k (τ.app o.dst u wr):=by
 obtain⟨hd,h⟩:=h
 rcases h with⟨hgo,bs,u,wr,B,D,V,rfl,rfl⟩|⟨hgo,rfl,rfl⟩
 ·refine⟨u,wr,rfl,rfl,hd, .inl ⟨?_,bs,u,wr,?_,?_,V,rfl,rfl⟩⟩
  ·unfold mP at *
   cases e:o.guard with
   |none=>trivial
   |some p=>obtain⟨j,want⟩:=p;rw[e]at hgo;obtain⟨s,b,E⟩:=hgo;exact⟨s,b,(v j want s e b).trans E⟩
  ·intro K A F M ρ a h w W X
   exact B K A F M ρ a h w W fun y I=>by rw[<-O y I];exact X y I
  ·intro p J
   rw[U p.1 (List.mem_map.2 ⟨p,J,rfl⟩)];exact D p J
 ·refine⟨.bA [],[],rfl,rfl,hd, .inr ⟨?_,rfl,rfl⟩⟩
  unfold iO at *
  cases e:o.guard with
  |none=>rw[e]at hgo;exact hgo
  |some p=>obtain⟨j,want⟩:=p;rw[e]at hgo;obtain⟨s,b,E⟩:=hgo;exact⟨s,b,(match E with | .inl G=> .inl ((v j want s e b).trans G)| .inr G=> .inr ((v j want s e b).trans G))⟩
theorem tJ{C:Ctx}{ops:List Oper}{X Y:Nat}{x y:Oper}{σ k B:St}{f g:FP}(hi:kv ops x y f g=true)
  (h1:D1 C ops X x σ f k) (h2:D1 C ops Y y k g B):∃ τ,D1 C ops Y y σ g τ/\D1 C ops X x τ f B:=by
 obtain⟨i1,i2,i3,i4,i5⟩:=o6 hi
 obtain⟨u,wr,hw,rfl,_⟩:=ju (τ:=σ) h1 (fun _ _=>rfl) (fun _ _ _ _ _=>rfl) (fun _ _=>rfl)
 obtain⟨v,b,D,rfl,k2⟩:=ju (τ:=σ) h2 (fun z G=>(pK (t:=σ.t) i1 z G).symm) (fun j want s I J=>(lp (t:=σ.t) (u:=u) i1 j want s I J).symm)
  (fun n E=>(mR σ.h wr n fun p O e=>(i4 p.1 (hw▸List.mem_map.2 ⟨p,O,rfl⟩)).1 (e▸E)).symm)
 refine⟨_,k2,?_⟩
 obtain⟨u',U,V,W,k1⟩:=ju (τ:=σ.app y.dst v b) h1 (fun z G=>pK (t:=σ.t) i3 z G) (fun j want s I J=>lp (t:=σ.t) (u:=v) i3 j want s I J)
  (fun n E=>mR σ.h b n fun p O e=>i5 p.1 (D▸List.mem_map.2 ⟨p,O,rfl⟩) (e▸E))
 have e2:(σ.app x.dst u wr).app y.dst v b=(σ.app x.dst u' U).app y.dst v b:=by rw[W]
 rw[e2,vz σ (fun d hd W=>i2 d hd W) (by rw[V,D];exact fun n E=>(i4 n E).2)]
 exact k1
def py(C:Ctx)(ops:List Oper)(b:List FP)(nx:Nat):List Nat->St->St->Prop
 | [],σ,τ=>σ=τ
 |i::l,σ,τ=>∃ o f aF,ops[i]? =some o/\b[i]? =some f/\D1 C ops (nx+8*i) o σ f aF/\py C ops b nx l aF τ
theorem fH{C:Ctx}{ops:List Oper}{b:List FP}{nx i:Nat}{e:Oper}{fi:FP}(k:ops[i]? =some e)(v:b[i]? =some fi):
  ∀ (A B:List Nat) (σ τ:St),(∀ j,j∈A->∀ o f,ops[j]? =some o->b[j]? =some f->kv ops o e f fi=true)->py C ops b nx (A++i::B) σ τ->
   py C ops b nx (i::(A++B)) σ τ
 | [],B,σ,τ,_,h=>h
 |j::A,B,σ,τ,I,h=>by
  obtain⟨o,f,D,J,O,W,X⟩:=h
  obtain⟨o',f',E,U,V,Y,k4⟩:=fH k v A B D τ (fun j hj=>I j (List.mem_cons_of_mem _ hj)) X
  rw[k]at U;rw[v]at V
  obtain rfl:=Option.some.inj U
  obtain rfl:=Option.some.inj V
  obtain⟨G,t1,t2⟩:=tJ (I j (List.mem_cons_self ..) o f J O) W Y
  exact⟨e,fi,G,k,v,t1,o,f,E,J,O,t2,k4⟩
theorem lr{C:Ctx}{ops:List Oper}{K:St->Prop}:∀ (l:List Oper) (i:Nat) (σ:St) (acc:List FP),acc.length=i->(∀ j,l[j]? =ops[i+j]?)->
  an C ops i l σ (some acc) K->∃ b τ,b.take i=acc/\p8 ops b=true/\py C ops b σ.nx (List.range' i l.length) σ τ/\τ.nx=σ.nx/\K ⟨τ.t,τ.h,τ.nx+8*ops.length⟩:=by
 intro l
 induction l with
 |nil=>
  intro i σ acc v hl h
  obtain⟨O,U⟩:=h
  exact⟨acc,σ,by rw[<-v,List.take_length],O,rfl,rfl,U⟩
 |cons o l V=>
  intro i σ acc v hl h
  unfold an at h
  rcases h with⟨E,aF,I,e⟩|⟨W,_⟩
  ·have B:aF.nx=σ.nx:=by
    obtain⟨_,h⟩:=I
    rcases h with⟨_,_,_,_,_,_,_,_,rfl⟩|⟨_,_,rfl⟩<;>rfl
   obtain⟨b,τ,G,X,J,Y,h5⟩:=V (i+1) aF (acc++ [E]) (by simp[v]) (fun j=>by have :=hl (j+1);simp at this;rw[this];congr 1;omega) e
   have hlen:i<b.length:=by
    have :=congrArg List.length G
    simp at this;omega
   have k:b.take i=acc:=by
    have :=congrArg (List.take i) G
    rw[List.take_take,Nat.min_eq_left (by omega),<-v,List.take_left]at this
    rw[<-v];exact this
   have D:b[i]? =some E:=by
    have :=congrArg (fun l=>l[i]?) G
    simp only[List.getElem?_take]at this
    rw[if_pos (by omega),List.getElem?_append_right (by omega)]at this
    simpa[v]using this
   refine⟨b,τ,k,X,?_,Y.trans B,h5⟩
   rw[List.length_cons,List.range'_succ]
   refine⟨o,E,aF,?_,D,I,?_⟩
   ·have :=hl 0;simpa using this.symm
   ·rw[B]at J;exact J
  ·cases W
theorem SC.app{C:Ctx}{A A' Rd:aI}{M M' F:aD}{pin ρ aq:Names}{σ:St}{a:Act}{w w':World}(b:SR0 C M (ext A Rd F w) pin ρ σ a w){o:Oper}(hd:aM C o=true){u:SV}{wr:List (Nat×Option aB)}{u':Value}
  (B:M.le M') (v:ρ.le aq) (E:VR M' aq u u') (G:HR M' (ext A' Rd F w') aq (dB σ.h wr) w'):SR0 C M' (ext A' Rd F w') pin aq (σ.app o.dst u wr) (a.put o.dst u') w':=by
 refine⟨fun k=>?_,?_,?_,G,Names.le_trans b.pn v,b.pm,fun g ρ=>(b.gl g ρ).mono B (Names.le_refl _)⟩
 ·cases I:o.dst with
  |none=>exact(b.tm k).mono B v
  |some d=>
   have D:d<a.tmps.size:=by rw[b.sz];simpa[aM,I]using hd
   show VR M' aq (upd σ.t d u k) _
   rw[az]
   split
   ·next e=>subst e;rw[iD D];exact E
   ·next e=>rw[gX e];exact(b.tm k).mono B v
 ·cases o.dst<;>simp[Act.put,b.sz]
 ·cases o.dst<;>simp[Act.put,b.df]
theorem nW{C:Ctx}(K:Tr C.P){ops:Array Oper}{Kf:St->Prop}{M0 F:aD}{pin:Names}{A0:aI}{w0:World}{b:Frame}{k:List Item}{cs:List Frame}(hb:b.kind≠ .early)
  (U:∀ A' M' aq aF a' w',(∀ x,A0 x->A' x)->M0.le M'->SC C A' K.Rd F M' pin aq aF a' w'->bG w0 w'->Kf aF->K.T A' (G (b.at a' k) cs) w'):
  ∀ (l:List Oper) (i:Nat) (σ:St) (A:aI) (M:aD) (ρ:Names) (a:Act) (w:World),l=ops.toList.drop i->i<=ops.size->(∀ x,A0 x->A x)->M0.le M->bG w0 w->Fit A K.Rd F M w->SR0 C M (ext A K.Rd F w) pin ρ σ a w->(∀ n,σ.nx+8*i<=n->ρ n=none)->
   an C ops.toList i l σ none Kf->K.T A (G (b.at a (.inRegion ops (List.range' i l.length)::k)) cs) w:=by
 intro l
 induction l with
 |nil=>
  intro i σ A M ρ a w hl hi Y hM hw hf e B h
  obtain⟨_,hK⟩:=h
  have ah:i=ops.size:=by
   have :=congrArg List.length hl
   simp at this;omega
  refine K.idle rfl (fun _=>stepG_region_end) (U A M ρ ⟨σ.t,σ.h,σ.nx+8*ops.toList.length⟩ a w Y hM ⟨hf,⟨⟨e.tm,e.sz,e.df,e.hr,e.pn,e.pm,e.gl⟩,?_⟩⟩ hw hK)
  intro n V
  have O:σ.nx+8*ops.toList.length<=n:=V
  exact B n (by simp at O;omega)
 |cons o l ih=>
  intro i σ A M ρ a w hl hi Y hM hw hf e B h
  have ho:ops[i]? =some o:=by
   have :=congrArg (fun l=>l[0]?) hl
   simp[List.getElem?_drop]at this
   exact this.symm
  have W:i<ops.size:=(Array.getElem?_eq_some_iff.1 ho).1
  have hl':l=ops.toList.drop (i+1):=by
   have :=congrArg List.tail hl
   simpa using this
  rw[List.length_cons,List.range'_succ]
  have on:∀ (hd:aM C o=true) (J:mP ops.toList σ.t o) bs X,bV C o (σ.nx+8*i) (bE C σ.t) bs X->(∀ p,p∈bs->σ.h p.1=some p.2)->
    (∀ u wr,X u wr->an C ops.toList (i+1) l (σ.app o.dst u wr) none Kf)->K.T A (G (b.at a (.inRegion ops (i::List.range' (i+1) l.length)::k)) cs) w:=by
   intro hd J bs X D E v
   refine D K A F M ρ a σ.h w hf (fun x _=>gD e x) e.gl e.hr E (fun n h1 h2=>B n h1) o.guard b ops i _ k cs ho (fF e J) hb ?_
   intro A' M' aq u wr u' w' h0 h1 h2 h3 h4 h5 aa h6 h7
   refine ih (i+1) _ A' M' aq _ w' hl' W (fun x hx=>h0 x (Y x hx)) (aD.le_trans hM h1) (hw.trans h7) aa (SC.app e hd h1 h2 h5 h6) ?_ (v u wr h4)
   intro n V
   have O:σ.nx+8*(i+1)<=n:=V
   rw[h3 n (.inr (by omega))]
   exact B n (by omega)
  unfold an at h
  rcases h with⟨fp,aF,⟨hd,hD⟩,I⟩|⟨_,hd,J,bs,X,D,E,v⟩
  ·rcases hD with⟨J,bs,u,wr,D,E,_,_,rfl⟩|⟨J,_,rfl⟩
   ·exact on hd J bs _ D E (fun u' al ⟨e1,e2⟩=>by subst e1;subst e2;exact I)
   ·refine K.idle rfl (fun _=>stepG_unwanted ho (fG e J)) ?_
    refine ih (i+1) _ A M ρ _ w hl' W Y hM hw hf (SC.app e (wr:= []) hd (aD.le_refl _) (Names.le_refl _) VR.skip e.hr) ?_ I
    intro n V
    have O:σ.nx+8*(i+1)<=n:=V
    exact B n (by omega)
  ·exact on hd J bs X D E v
theorem fX{C:Ctx}{id:Nat}{ops:Array Oper}{Q:Exit->St->Prop}{σ:St}(h:an C ops.toList 0 ops.toList σ none (fun aF=>Q .normal aF)):W C (.region id ops false) Q σ:=by
 intro K A F M pin ρ a w e b k cs v B
 refine K.idle rfl (fun _=>stepG_region) ?_
 have :=nW K (Kf:=fun aF=>Q .normal aF) (M0:=M) (F:=F) (pin:=pin) (A0:=A) (w0:=w) v (fun A' M' aq aF D w' E G I J O=>B .normal A' M' aq aF D w' E G I J O) ops.toList 0 σ A M ρ a w rfl (Nat.zero_le _) (fun _ h=>h) (aD.le_refl _) (.refl _) e.fit e.sr.toSR0 (fun n U=>e.sr.fr n (by omega)) h
 rw[List.range_eq_range']
 simpa using this
theorem p9{C:Ctx}(K:Tr C.P){ops:Array Oper}{a4:List FP}{Kf:St->Prop}{M0 F:aD}{pin:Names}{A0:aI}{w0:World}{nx:Nat}{b:Frame}{kk:List Item}{cs:List Frame}(hb:b.kind≠ .early)
  (a5:p8 ops.toList a4=true)
  (a6:∀ A' M' aq aF a' w',(∀ x,A0 x->A' x)->M0.le M'->SC C A' K.Rd F M' pin aq aF a' w'->bG w0 w'->Kf aF->K.T A' (G (b.at a' kk) cs) w'):
  ∀ (fuel tt:Nat) (l:List Nat) (listed:Array Bool) (σ τ:St) (A:aI) (M:aD) (ρ:Names) (a:Act) (w:World),l.length=fuel->l.Pairwise (· < ·)->listed.size=ops.size->
   (∀ i,i∈l↔i<ops.size/\listed.getD i true=false)->
   (∀ (i:Nat) (o:Oper),ops[i]? =some o->listed.getD i false=true->∀ e,e∈b7 o->listed.getD e false=true)->
   (∀ x,A0 x->A x)->M0.le M->bG w0 w->Fit A K.Rd F M w->SR0 C M (ext A K.Rd F w) pin ρ σ a w->σ.nx=nx->(∀ i,i∈l->∀ n,nx+8*i<=n->n<nx+8*i+8->ρ n=none)->(∀ n,nx+8*ops.size<=n->ρ n=none)->
   py C ops.toList a4 nx l σ τ->Kf ⟨τ.t,τ.h,nx+8*ops.toList.length⟩->K.T A (G (b.at a (.inRegion ops (Region.linearise.go .any ops fuel tt listed [])::kk)) cs) w:=by
 simp only[p8,Bool.and_eq_true]at a5
 obtain⟨_,a7⟩:=a5
 have ax:=lq _ a7
 have U:∀ (i:Nat) (o:Oper),ops.toList[i]? =some o->∀ e,e∈b7 o->e<i:=by
  intro i o ho e he
  obtain⟨o',f,h1,_,h2,_⟩:=ax i (List.getElem?_eq_some_iff.1 ho).1
  rw[ho]at h1;obtain rfl:=Option.some.inj h1
  exact h2 e he
 have V:∀ (l:List Nat) (listed:Array Bool),l.Pairwise (· < ·)->listed.size=ops.size->(∀ i,i∈l↔i<ops.size/\listed.getD i true=false)->Region.ready .any ops listed= []->l= []:=by
  intro l listed Y B hl a2
  cases l with
  |nil=>rfl
  |cons i l=>
   exfalso
   obtain⟨hi,a3⟩:=(hl i).1 (List.mem_cons_self ..)
   have :i∈Region.ready .any ops listed:=by
    refine dH.2 ⟨hi,a3,ops[i],Array.getElem?_eq_getElem hi,?_⟩
    intro e he
    have D:=U i ops[i] (by simp[hi]) e he
    cases hb:listed.getD e true with
    |true=>
     have br:e<listed.size:=by omega
     simpa[Array.getD,br]using hb
    |false=>
     have hm:e∈i::l:=(hl e).2 ⟨by omega,hb⟩
     rcases List.mem_cons.1 hm with h|h
     ·omega
     ·have :=(List.pairwise_cons.1 Y).1 e h;omega
   rw[a2]at this;cases this
 have finish:∀ (σ τ:St) (A:aI) (M:aD) (ρ:Names) (a:Act) (w:World),(∀ x,A0 x->A x)->M0.le M->bG w0 w->Fit A K.Rd F M w->SR0 C M (ext A K.Rd F w) pin ρ σ a w->σ.nx=nx->
   (∀ n,nx+8*ops.size<=n->ρ n=none)->σ=τ->Kf ⟨τ.t,τ.h,nx+8*ops.toList.length⟩->K.T A (G (b.at a (.inRegion ops []::kk)) cs) w:=by
  intro σ τ A M ρ a w hA hM hw J v hn hf e hK
  subst e
  refine K.idle rfl (fun _=>stepG_region_end) (a6 A M ρ ⟨σ.t,σ.h,nx+8*ops.toList.length⟩ a w hA hM ⟨J,⟨⟨v.tm,v.sz,v.df,v.hr,v.pn,v.pm,v.gl⟩,?_⟩⟩ hw hK)
  intro n bu
  exact hf n (by simpa using bu)
 intro fuel
 induction fuel with
 |zero=>
  intro tt l listed σ τ A M ρ a w hlen Y B hl E hA hM hw J v hn aa ah a2 hK
  have W:l= []:=List.length_eq_zero_iff.1 hlen
  subst W
  simp only[Region.linearise.go,List.reverse_nil]
  exact finish σ τ A M ρ a w hA hM hw J v hn ah a2 hK
 |succ fuel ih=>
  intro tt l listed σ τ A M ρ a w hlen Y B hl E hA hM hw J v hn aa ah a2 hK
  simp only[Region.linearise.go]
  change K.T A (G (b.at a (.inRegion ops (match(Region.ready .any ops listed)[tt%(Region.ready .any ops listed).length]? with
   |some i=>Region.linearise.go .any ops fuel (tt/(Region.ready .any ops listed).length) (listed.setIfInBounds i true) [i]
   |none=> [].reverse)::kk)) cs) w
  cases hi:(Region.ready .any ops listed)[tt%(Region.ready .any ops listed).length]? with
  |none=>
   exfalso
   have W:Region.ready .any ops listed= []:=by
    cases a2:Region.ready .any ops listed with
    |nil=>rfl
    |cons x xs=>
     rw[a2]at hi
     have D:tt%(x::xs).length<(x::xs).length:=Nat.mod_lt _ (by simp)
     simp at hi
     simp at D
     omega
   have :=V l listed Y B hl W
   subst this
   simp at hlen
  |some i=>
   replace hi:=List.mem_of_getElem? hi
   simp only[]
   rw[linearise_go_acc,List.reverse_singleton,List.singleton_append]
   obtain⟨D,a3,o,ho,a0⟩:=dH.1 hi
   have a8:i∈l:=(hl i).2 ⟨D,a3⟩
   obtain⟨LA,LB,rfl,ba⟩:=jv a8
   have al:ops.toList[i]? =some o:=by simpa using ho
   obtain⟨o',f,h1,bc,h3,h4⟩:=ax i (by simpa using D)
   rw[al]at h1;obtain rfl:=Option.some.inj h1
   have bh:∀ j,j∈LA->j∉(reach ops.toList).getD i []:=by
    intro j O bx
    have hL:=gE (ops:=ops.toList) (L:=fun k=>listed.getD k false=true) U (fun k o hk=>E k o (by simpa using hk)) i o al a0 j bx
    have :=((hl j).1 (List.mem_append_left _ O)).2
    have b1:j<listed.size:=by rw[B];exact((hl j).1 (List.mem_append_left _ O)).1
    simp[Array.getD,b1]at this hL
    rw[this]at hL;cases hL
   have bl:∀ j,j∈LA->j<i:=by
    intro j O
    exact(List.pairwise_append.1 Y).2.2 j O i (List.mem_cons_self ..)
   have av:=fH (C:=C) (nx:=nx) al bc LA LB σ τ (fun j O p g b2 hg=>(im _ h4 j (bl j O)).resolve_left (bh j O) p g b2 hg) a2
   obtain⟨o2,f2,aF,k1,k2,hD,X⟩:=av
   rw[al]at k1;obtain rfl:=Option.some.inj k1
   rw[bc]at k2;obtain rfl:=Option.some.inj k2
   have hl':(LA++LB).length=fuel:=by simp at hlen ⊢;omega
   have bn:(LA++LB).Pairwise (· < ·):=by
    rw[List.pairwise_append]at Y ⊢
    refine⟨Y.1,(List.pairwise_cons.1 Y.2.1).2,fun x hx y hy=>Y.2.2 x hx y (List.mem_cons_of_mem _ hy)⟩
   have bo:i∉LB:=by
    intro hb
    have :=(List.pairwise_cons.1 (List.pairwise_append.1 Y).2.1).1 i hb
    omega
   have a1:∀ j,j∈LA++LB↔j<ops.size/\(listed.setIfInBounds i true).getD j true=false:=by
    intro j
    by_cases e:j=i
    ·subst e
     constructor
     ·intro h;rcases List.mem_append.1 h with h|h
      ·exact absurd h ba
      ·exact absurd h bo
     ·rintro⟨_,h⟩;simp[Array.getD,B,D]at h
    ·have :(listed.setIfInBounds i true).getD j true=listed.getD j true:=by
      rw[Array.getD_eq_getD_getElem?,Array.getD_eq_getD_getElem?,Array.getElem?_setIfInBounds_ne (Ne.symm e)]
     rw[this,<-hl j]
     simp[e]
   have I:∀ (k:Nat) (p:Oper),ops[k]? =some p->(listed.setIfInBounds i true).getD k false=true->∀ e,e∈b7 p->(listed.setIfInBounds i true).getD e false=true:=by
    have ab:∀ e,listed.getD e false=true->(listed.setIfInBounds i true).getD e false=true:=by
     intro e he
     by_cases h:e=i
     ·subst h;simp[Array.getD,B,D]
     ·rw[Array.getD_eq_getD_getElem?,Array.getElem?_setIfInBounds_ne (Ne.symm h),<-Array.getD_eq_getD_getElem?];exact he
    intro k p hk bp e he
    by_cases h:k=i
    ·subst h
     rw[ho]at hk;obtain rfl:=Option.some.inj hk
     exact ab e (a0 e he)
    ·refine ab e (E k p hk ?_ e he)
     rw[Array.getD_eq_getD_getElem?,Array.getElem?_setIfInBounds_ne (Ne.symm h),<-Array.getD_eq_getD_getElem?]at bp
     exact bp
   obtain⟨hd,hD⟩:=hD
   rcases hD with⟨hg,bs,u,wr,bq,b3,_,_,rfl⟩|⟨hg,_,rfl⟩
   ·refine bq K A F M ρ a σ.h w J (fun x _=>gD v x) v.gl v.hr b3 (fun n g1 g2=>aa i a8 n g1 g2) o.guard b ops i _ kk cs ho (fF v hg) hb ?_
    rintro A' M' aq u1 ca u' w' g0 g1 g2 g3 ⟨rfl,rfl⟩ g5 b4 g6 g7
    refine ih _ (LA++LB) _ _ τ A' M' aq _ w' hl' bn (by simp[B]) a1 I (fun x hx=>g0 x (hA x hx)) (aD.le_trans hM g1) (hw.trans g7) b4 (SC.app v hd g1 g2 g5 g6) hn ?_ ?_ X hK
    ·intro j O n m1 m2
     have cc:j≠i:=by rintro rfl;rcases List.mem_append.1 O with h|h;exact ba h;exact bo h
     rw[g3 n (by omega)]
     refine aa j ?_ n m1 m2
     rcases List.mem_append.1 O with h|h
     ·exact List.mem_append_left _ h
     ·exact List.mem_append_right _ (List.mem_cons_of_mem _ h)
    ·intro n m1
     rw[g3 n (by omega)];exact ah n m1
   ·refine K.idle rfl (fun _=>stepG_unwanted ho (fG v hg)) ?_
    refine ih _ (LA++LB) _ _ τ A M ρ _ w hl' bn (by simp[B]) a1 I hA hM hw J (SC.app v (wr:= []) hd (aD.le_refl _) (Names.le_refl _) VR.skip v.hr) hn ?_ ah X hK
    intro j O n m1 m2
    refine aa j ?_ n m1 m2
    rcases List.mem_append.1 O with h|h
    ·exact List.mem_append_left _ h
    ·exact List.mem_append_right _ (List.mem_cons_of_mem _ h)
theorem dI{C:Ctx}{id:Nat}{ops:Array Oper}{Q:Exit->St->Prop}{σ:St}(hm:C.P.follows .mixedOrders=true)
  (h:an C ops.toList 0 ops.toList σ (some []) (fun aF=>Q .normal aF)):W C (.region id ops true) Q σ:=by
 intro K A F M pin ρ a w v b k cs V X
 refine K.step A _ w rfl fun af B=>⟨_,_,#[],stepG_region_draw,⟨⟨rfl,rfl,rfl,Nat.le_refl _⟩,fun _ _ _=>rfl,fun e Y=>by simp at Y⟩,?_⟩
 have D:more A af {af with drawn:=af.drawn+1}=A:=dp A af
 rw[D]
 obtain⟨aa,τ,_,E,G,I,J⟩:=lr (K:=fun aF=>Q .normal aF) ops.toList 0 σ [] rfl (fun j=>by simp) h
 simp only[Region.schedule,hm,Bool.true_or,if_true]
 have ah:=lD v.sr.hr v.fit B
 have O:=kF v.fit B
 have ed:ext A K.Rd F {af with drawn:=af.drawn+1}=ext A K.Rd F af:=rfl
 refine p9 K (Kf:=fun aF=>Q .normal aF) (M0:=M) (F:=F) (pin:=pin) (A0:=A) (w0:=w) (nx:=σ.nx) V E (fun A' M' aq aF a' w' h1 E G I J=>X .normal A' M' aq aF a' w' h1 E G I J) ops.size _ (List.range' 0 ops.toList.length) (Array.replicate ops.size false) σ τ A M ρ a _ (by simp) ?_ (by simp) ?_ ?_ (fun _ h=>h) (aD.le_refl _) (B.same.trans ⟨rfl,rfl,rfl,Nat.le_refl _⟩) ⟨O.fa,O.rm,O.lt⟩
  ⟨v.sr.tm,v.sr.sz,v.sr.df,by rw[ed];exact ah.drawn _,v.sr.pn,v.sr.pm,v.sr.gl⟩ rfl (fun i _ n g1 _=>v.sr.fr n (by omega)) (fun n g1=>v.sr.fr n (by omega)) G (by rw[<-I];exact J)
 ·exact List.pairwise_lt_range'
 ·intro i
  rw[List.mem_range']
  simp only[Array.length_toList]
  constructor
  ·rintro⟨j,hj,rfl⟩
   simp[Array.getD,hj]
  ·rintro⟨U,_⟩
   exact⟨i,U,by omega⟩
 ·intro i o ho hl
  have U:i<ops.size:=(Array.getElem?_eq_some_iff.1 ho).1
  simp[Array.getD,U]at hl
theorem FE{M F:aD}{ρ:Names}{h:ar}{w:World}{π:List Nat}{B:List aB}(U:HR M F ρ h w)(V:π.length=B.length)(aa:bK π=true)(ax:∀ p,p∈gG π π B->h p.1=some p.2)(hu:aW B.length (B.map some)=true):
  HR M (bF M F ρ h π w) (back π ρ) (dC (B.map some)) w:=by
 have v:∀ (i:Nat) (b:aB),B[i]? =some b->∃ n,π[i]? =some n/\h n=some (dW π b):=by
  intro i b k
  obtain⟨n,E,hm⟩:=gY (π:=π) π B V i b k
  exact⟨n,E,ax _ hm⟩
 have a0:∀ (i n:Nat),π[i]? =some n->∃ b,B[i]? =some b/\h n=some (dW π b)/\∃ x,ρ n=some x:=by
  intro i n E
  have hi:i<B.length:=by rw[<-V];exact(List.getElem?_eq_some_iff.1 E).1
  obtain⟨n',ah,k⟩:=v i _ (List.getElem?_eq_getElem hi)
  rw[E]at ah;obtain rfl:=Option.some.inj ah
  obtain⟨x,I,_⟩:=U.live n _ k
  exact⟨_,List.getElem?_eq_getElem hi,k,x,I⟩
 have W:∀ (i:Nat) (b:aB),B[i]? =some b->b.under B.length=true:=by
  have :∀ (l:List aB) (n:Nat),aW n (l.map some)=true->∀ (i:Nat) (b:aB),l[i]? =some b->b.under n=true:=by
   intro l n
   induction l with
   |nil=>intro _ i b k;simp at k
   |cons c l ih=>
    intro hl i b k
    simp[aW]at hl
    cases i with
    |zero=>simp at k;subst k;exact hl.1
    |succ i=>exact ih hl.2 i b (by simpa using k)
  exact this B _ hu
 have al:∀ b,F b=none->tK ρ h π b->bF M F ρ h π w b=none:=by
  intro b k hex
  unfold bF
  rw[if_neg (by simp[k]),if_neg (fun h=>h.2 hex)]
 refine⟨U.fT,?_,?_,?_,?_,?_⟩
 rotate_right
 ·intro i S es hi
  have J:B[i]? =some (.fam S es):=by
   have :=cj hi
   simp at this;exact this
  obtain⟨n,E,k⟩:=v i _ J
  obtain⟨x,I,g0,g1,g2,g3,g4⟩:=U.fam n S _ k
  refine⟨x,by simp[back,E,I],g0,fun b O=>⟨(g1 b O).1,al b (g1 b O).2.1 (.inr ⟨i,n,S,_,E,k,O⟩),(g1 b O).2.2⟩,fun p y hp hy X=>?_,fun p S' a5 a1 hp=>?_,FR.du.1 g4⟩
  ·obtain⟨bp,Y⟩:=Option.ne_none_iff_exists'.1 hp
   obtain⟨np,D,G⟩:=v p bp (by have :=cj Y;simp at this;exact this)
   simp only[back,D,Option.bind_some]at hy
   exact g2 np y (by rw[G];simp) hy X
  ·obtain⟨np,D,G⟩:=v p _ (by have :=cj hp;simp at this;exact this)
   refine g3 np S' _ (fun e=>a1 ?_) G
   subst e
   exact ck aa p i np D E
 ·intro b o k
  unfold bF at k
  split at k
  ·exact U.iL b o k
  ·split at k
   ·exact k
   ·cases k
 ·intro b o k
  unfold bF at k
  split at k
  ·exact U.j9 b o k
  ·split at k
   ·next h1=>exact h1.1
   ·cases k
 ·intro i b hi
  have J:B[i]? =some b:=by
   have :=cj hi
   simp at this;exact this
  obtain⟨n,E,k⟩:=v i b J
  obtain⟨x,I,hr⟩:=U.live n _ k
  refine⟨x,by simp[back,E,I],?_⟩
  rcases hr with⟨h0,hg⟩|⟨h0,h1,h2,o,h3,h4⟩
  ·exact .inl ⟨h0,by rw[eU]at *;exact hg⟩
  ·exact .inr ⟨h0,h1,al _ h2 (.inl ⟨i,n,x,E,I,h0,rfl⟩),o,h3,h4.back (by rw[V];exact W i b J)⟩
 ·intro p q x y hp hq I hy a2 X k
  obtain⟨bp,Y⟩:=Option.ne_none_iff_exists'.1 hp
  obtain⟨bq,a3⟩:=Option.ne_none_iff_exists'.1 hq
  obtain⟨np,D,G⟩:=v p bp (by have :=cj Y;simp at this;exact this)
  obtain⟨nq,av,a4⟩:=v q bq (by have :=cj a3;simp at this;exact this)
  simp only[back,D,av,Option.bind_some]at I hy
  have :=U.sep np nq x y (by rw[G];simp) (by rw[a4];simp) I hy a2 X k
  subst this
  exact ck aa p q np D av
theorem CP{M M' Fs Fe Fc:aD}{ρ aq:Names}{h:ar}{w w':World}{π:List Nat}{nm:Nat}{D:List aB}{r:SV}{ae:List (Option aB)}{u:Value}(hH:HR M Fs ρ h w)(ba:π.length=D.length)(dN:bK π=true)(dO:∀ p,p∈gG π π D->h p.1=some p.2)
  (hu:aW D.length (D.map some)=true) (cQ:∀ n,nm<=n->n<nm+8->ρ n=none) (bu:∀ b o,Fe b=some o->Fc b=some o) (cT:∀ b,Fc b=none->Fe b=none) (cV:∀ b o,w.heap[b]? =some o->M b=none->Fs b=none->Fe b=none)
  (c0:∀ b o,w.heap[b]? =some o->M b=none->Fs b=none-> ¬ tK ρ h π b->Fc b=some o) (hM:M.le M') (dT:(back π ρ).le aq) (hv:VR M' aq r u) (U:HR M' Fc aq (dC ae) w') (c1:dY D.length r ae=true):
  ∃ Y v,v=π++ay nm (ae.length-D.length)/\ρ.le Y/\(∀ n,n<nm\/nm+8<=n->Y n=ρ n)/\VR M' Y (du v r) u/\HR M' Fe Y (dB h (c9 v v ae)) w':=by
 have b2:∀ (i:Nat) (b:aB),D[i]? =some b->∃ n,π[i]? =some n/\h n=some (dW π b):=by
  intro i b B
  obtain⟨n,E,hm⟩:=gY (π:=π) π D ba i b B
  exact⟨n,E,dO _ hm⟩
 have a2:∀ (i n:Nat),π[i]? =some n->∃ b,D[i]? =some b/\h n=some (dW π b)/\∃ x,ρ n=some x:=by
  intro i n E
  have G:i<D.length:=by rw[<-ba];exact(List.getElem?_eq_some_iff.1 E).1
  obtain⟨n',c5,B⟩:=b2 i _ (List.getElem?_eq_getElem G)
  rw[E]at c5;obtain rfl:=Option.some.inj c5
  obtain⟨x,I,_⟩:=hH.live n _ B
  exact⟨_,List.getElem?_eq_getElem G,B,x,I⟩
 have dV:∀ (i:Nat) (b:aB),D[i]? =some b->b.under D.length=true:=by
  have :∀ (l:List aB) (n:Nat),aW n (l.map some)=true->∀ (i:Nat) (b:aB),l[i]? =some b->b.under n=true:=by
   intro l n
   induction l with
   |nil=>intro _ i b B;simp at B
   |cons c l ih=>
    intro hl i b B
    simp[aW]at hl
    cases i with
    |zero=>simp at B;subst B;exact hl.1
    |succ i=>exact ih hl.2 i b (by simpa using B)
  exact this D _ hu
 simp only[dY,Bool.and_eq_true]at c1
 obtain⟨hle,bx,ea,ed⟩:=c1
 have hle:=Nat.le_of_ble_eq_true hle
 have bx:=Nat.le_of_ble_eq_true bx
 obtain⟨k,hk⟩:∃ k,ae.length=D.length+k:=⟨ae.length-D.length,by omega⟩
 have eo:k<=8:=by omega
 have ei:ae.length-D.length=k:=by omega
 generalize a6:π++ay nm (ae.length-D.length)=v
 rw[ei]at a6
 have W:v.length=ae.length:=by rw[<-a6,List.length_append,cD,ba,hk]
 have a0:∀ i,i<D.length->v[i]? =π[i]? :=fun i G=>by rw[<-a6,List.getElem?_append_left (by omega)]
 have b1:∀ j,j<k->v[D.length+j]? =some (nm+j):=fun j hj=>by
  rw[<-a6,List.getElem?_append_right (by omega),show D.length+j-π.length=j by omega,cu k nm j hj]
 let Y:Names:=fun n=>if nm<=n/\n<nm+k then aq (D.length+(n-nm))else ρ n
 have bc:∀ n,Y n=if nm<=n/\n<nm+k then aq (D.length+(n-nm))else ρ n:=fun n=>rfl
 have X:ρ.le Y:=by
  intro n x I
  rw[bc,if_neg]
  ·exact I
  ·rintro⟨h1,h2⟩;rw[cQ n h1 (by omega)]at I;cases I
 have a1:∀ (i n:Nat),v[i]? =some n->Y n=aq i:=by
  intro i n E
  rcases Nat.lt_or_ge i D.length with G|G
  ·rw[a0 i G]at E
   obtain⟨b,_,_,x,I⟩:=a2 i n E
   rw[X n x I,dT i x (by simp[back,E,I])]
  ·have av:i<ae.length:=by rw[<-W];exact(List.getElem?_eq_some_iff.1 E).1
   obtain⟨j,rfl⟩:∃ j,i=D.length+j:=⟨i-D.length,by omega⟩
   rw[b1 j (by omega)]at E
   obtain rfl:=Option.some.inj E
   rw[bc,if_pos ⟨by omega,by omega⟩]
   congr 1;omega
 have bh:∀ i,i<ae.length->Y (v.getD i 0)=aq i:=by
  intro i G
  refine a1 i _ ?_
  rw[List.getD_eq_getElem?_getD,List.getElem?_eq_getElem (by omega)];rfl
 have c6:∀ i j n:Nat,v[i]? =some n->v[j]? =some n->i=j:=by
  have old:∀ (i n:Nat),i<D.length->v[i]? =some n-> ¬ (nm<=n/\n<nm+k):=by
   intro i n G E ⟨h1,h2⟩
   rw[a0 i G]at E
   obtain⟨_,_,_,x,I⟩:=a2 i n E
   rw[cQ n h1 (by omega)]at I;cases I
  have new:∀ (i n:Nat),D.length<=i->v[i]? =some n->n=nm+(i-D.length)/\i-D.length<k:=by
   intro i n G E
   have av:i<ae.length:=by rw[<-W];exact(List.getElem?_eq_some_iff.1 E).1
   obtain⟨j,rfl⟩:∃ j,i=D.length+j:=⟨i-D.length,by omega⟩
   rw[b1 j (by omega)]at E
   obtain rfl:=Option.some.inj E
   exact⟨by omega,by omega⟩
  intro i j n G hj
  rcases Nat.lt_or_ge i D.length with h1|h1<;>rcases Nat.lt_or_ge j D.length with h2|h2
  ·rw[a0 i h1]at G;rw[a0 j h2]at hj;exact ck dN i j n G hj
  ·have :=new j n h2 hj;exact absurd ⟨by omega,by omega⟩ (old i n h1 G)
  ·have :=new i n h1 G;exact absurd ⟨by omega,by omega⟩ (old j n h2 hj)
  ·have a:=new i n h1 G;have b:=new j n h2 hj;omega
 obtain⟨bl,aa⟩:=mU (π:=v) v ae h W c6
 have b3:∀ (i:Nat) (b:aB),ae[i]? =some (some b)->b.under ae.length=true:=by
  have :∀ (l:List (Option aB)) (n:Nat),aW n l=true->∀ (i:Nat) (b:aB),l[i]? =some (some b)->b.under n=true:=by
   intro l n
   induction l with
   |nil=>intro _ i b B;simp at B
   |cons c l ih=>
    intro hl i b B
    cases c with
    |none=>cases i with
     |zero=>simp at B
     |succ i=>exact ih (by simpa[aW]using hl) i b (by simpa using B)
    |some c=>
     simp[aW]at hl
     cases i with
     |zero=>simp at B;subst B;exact hl.1
     |succ i=>exact ih hl.2 i b (by simpa using B)
  exact this ae _ ed
 have ah:∀ n blk x,n∉v->h n=some blk->ρ n=some x->0<x.R->∃ obj,w.heap[x.b]? =some obj/\Fc x.b=some obj/\BR M ρ x blk obj:=by
  intro n blk x E B I h0
  obtain⟨x',df,hr⟩:=hH.live n blk B
  rw[I]at df;obtain rfl:=Option.some.inj df
  rcases hr with⟨di,_⟩|⟨_,h1,h2,o,h3,h4⟩
  ·omega
  ·refine⟨o,h3,?_,h4⟩
   refine c0 _ _ h3 h1 h2 ?_
   ·rintro(⟨i,m,y,hm,hy,b4,ca⟩|⟨i,m,S,es,hm,cc,a3⟩)
    ·obtain⟨b,_,a4,_⟩:=a2 i m hm
     have :=hH.sep n m x y (by rw[B];simp) (by rw[a4];simp) I hy h0 b4 ca.symm
     subst this
     have G:i<D.length:=by rw[<-ba];exact(List.getElem?_eq_some_iff.1 hm).1
     exact E (List.mem_iff_getElem?.2 ⟨i,by rw[a0 i G];exact hm⟩)
    ·obtain⟨_,_,_,_,g2,_⟩:=hH.fam m S es cc
     exact g2 n x (by rw[B];simp) I h0 a3
 have V:∀ n S es,n∉v->h n=some (.fam S es)->∀ b,b∈S->∃ obj,w.heap[b]? =some obj/\Fc b=some obj:=by
  intro n S es E B b a3
  obtain⟨x,I,g0,g1,g2,g3,_⟩:=hH.fam n S es B
  obtain⟨k1,k2,k3⟩:=g1 b a3
  refine⟨_,Array.getElem?_eq_getElem k3,?_⟩
  refine c0 _ _ (Array.getElem?_eq_getElem k3) k1 k2 ?_
  ·rintro(⟨i,m,y,hm,hy,b4,ca⟩|⟨i,m,S',ax,hm,cc,dj⟩)
   ·obtain⟨b',_,a4,_⟩:=a2 i m hm
    refine g2 m y (by rw[a4];simp) hy b4 ?_
    rw[ca];exact a3
   ·by_cases e:m=n
    ·subst e
     have G:i<D.length:=by rw[<-ba];exact(List.getElem?_eq_some_iff.1 hm).1
     exact E (List.mem_iff_getElem?.2 ⟨i,by rw[a0 i G];exact hm⟩)
    ·exact g3 m S' ax e cc b a3 dj
 refine⟨Y,v,rfl,X,?_,hv.fwd bh ea,⟨U.fT,fun b o B=>U.iL b o (bu b o B),fun b o B=>U.j9 b o (bu b o B),?_,?_,?_⟩⟩
 ·intro n E
  rw[bc,if_neg (by omega)]
 rotate_right
 ·
  have inside:∀ (n i:Nat),v[i]? =some n->∀ blk,dB h (c9 v v ae) n=some blk->∃ b,dC ae i=some b/\blk=dW v b:=by
   intro n i G blk E
   have av:i<ae.length:=by rw[<-W];exact(List.getElem?_eq_some_iff.1 G).1
   have B:=bl i n _ G (List.getElem?_eq_getElem av)
   rw[E]at B
   cases e:ae[i]with
   |none=>rw[e]at B;cases B
   |some b=>
    rw[e]at B
    refine⟨b,?_,by simpa using B⟩
    unfold dC;rw[List.getD_eq_getElem?_getD,List.getElem?_eq_getElem av,e];rfl
  have cl:∀ (n i:Nat) S es,v[i]? =some n->dB h (c9 v v ae) n=some (.fam S es)->∃ ax,dC ae i=some (.fam S ax)/\es=⟨ax.es,tI v ax.op,ax.ly⟩:=by
   intro n i S es G E
   obtain⟨b,B,e⟩:=inside n i G _ E
   obtain⟨ax,rfl,he⟩:=vu e.symm
   exact⟨ax,B,he⟩
  have en:∀ (i:Nat) S es b,dC ae i=some (.fam S es)->b∈S->Fc b=none:=by
   intro i S es b G B
   obtain⟨_,_,_,g1,_⟩:=U.fam i S es G
   exact(g1 b B).2.1
  intro n S es E
  by_cases J:n∈v
  ·obtain⟨i,G⟩:=List.mem_iff_getElem?.1 J
   obtain⟨ax,a7,rfl⟩:=cl n i S es G E
   obtain⟨x,I,g0,g1,g2,g3,g4⟩:=U.fam i S ax a7
   refine⟨x,by rw[a1 i n G];exact I,g0,fun b B=>⟨(g1 b B).1,cT _ (g1 b B).2.1,(g1 b B).2.2⟩,fun m y hm hy al=>?_,fun m S2 bn cr hm b B=>?_,FR.du.2 g4⟩
   ·by_cases hm2:m∈v
    ·obtain⟨j,hj⟩:=List.mem_iff_getElem?.1 hm2
     obtain⟨blk,O⟩:=Option.ne_none_iff_exists'.1 hm
     obtain⟨b,B,_⟩:=inside m j hj _ O
     exact g2 j y (by rw[B];simp) (by rw[<-a1 j m hj];exact hy) al
    ·rw[aa m hm2]at hm
     obtain⟨blk,O⟩:=Option.ne_none_iff_exists'.1 hm
     obtain⟨y',a5,_⟩:=hH.live m blk O
     have :=X m y' a5
     rw[hy]at this;obtain rfl:=Option.some.inj this
     obtain⟨obj,_,k2,_⟩:=ah m blk y hm2 O a5 al
     intro B
     rw[(g1 _ B).2.1]at k2;cases k2
   ·by_cases hm2:m∈v
    ·obtain⟨j,hj⟩:=List.mem_iff_getElem?.1 hm2
     obtain⟨cw,bo,_⟩:=cl m j S2 bn hj hm
     exact g3 j S2 cw (fun e=>cr (by subst e;rw[G]at hj;exact(Option.some.inj hj).symm)) bo b B
    ·rw[aa m hm2]at hm
     intro a4
     obtain⟨obj,_,k2⟩:=V m S2 bn hm2 hm b a4
     rw[(g1 _ B).2.1]at k2;cases k2
  ·rw[aa n J]at E
   obtain⟨x,I,g0,g1,g2,g3,g4⟩:=hH.fam n S es E
   obtain⟨xo,_,dy,_⟩:=ah n _ x J E I g0
   refine⟨x,X n x I,g0,fun b B=>?_,fun m y hm hy al=>?_,fun m S2 bn cr hm b B=>?_,g4.last hM (fun c hc=>?_)⟩
   ·obtain⟨obj,k1,k2⟩:=V n S es J E b B
    exact⟨U.j9 _ _ k2,cV _ _ k1 (g1 b B).1 (g1 b B).2.1,(Array.getElem?_eq_some_iff.1 (U.iL _ _ k2)).1⟩
   ·by_cases hm2:m∈v
    ·obtain⟨j,hj⟩:=List.mem_iff_getElem?.1 hm2
     obtain⟨blk,O⟩:=Option.ne_none_iff_exists'.1 hm
     obtain⟨b,B,_⟩:=inside m j hj _ O
     obtain⟨y',a5,hr⟩:=U.live j b B
     have :=a1 j m hj
     rw[hy,a5]at this;obtain rfl:=Option.some.inj this
     intro a3
     obtain⟨obj,_,k2⟩:=V n S es J E _ a3
     rcases hr with⟨di,_⟩|⟨_,_,k3,_⟩
     ·omega
     ·rw[k3]at k2;cases k2
    ·rw[aa m hm2]at hm
     obtain⟨blk,O⟩:=Option.ne_none_iff_exists'.1 hm
     obtain⟨y',a5,_⟩:=hH.live m blk O
     have :=X m y' a5
     rw[hy]at this;obtain rfl:=Option.some.inj this
     exact g2 m y hm a5 al
   ·by_cases hm2:m∈v
    ·obtain⟨j,hj⟩:=List.mem_iff_getElem?.1 hm2
     obtain⟨cw,bo,_⟩:=cl m j S2 bn hj hm
     intro a4
     obtain⟨obj,_,k2⟩:=V n S es J E b B
     rw[en j S2 cw b bo a4]at k2;cases k2
    ·rw[aa m hm2]at hm
     exact g3 m S2 bn cr hm b B
   ·rcases hc with rfl|hc
    ·rw[U.iL _ _ dy]
     obtain⟨obj,k1,k2,_⟩:=ah n _ x J E I g0
     rw[dy]at k2;obtain rfl:=Option.some.inj k2
     exact k1.symm
    ·obtain⟨obj,k1,k2⟩:=V n S es J E c hc
     rw[U.iL _ _ k2,k1]
 ·intro n blk E
  by_cases J:n∈v
  ·obtain⟨i,G⟩:=List.mem_iff_getElem?.1 J
   have av:i<ae.length:=by rw[<-W];exact(List.getElem?_eq_some_iff.1 G).1
   have B:=bl i n _ G (List.getElem?_eq_getElem av)
   rw[E]at B
   cases e:ae[i]with
   |none=>rw[e]at B;cases B
   |some b=>
    rw[e]at B
    obtain rfl:blk=dW v b:=by simpa using B
    have dA:ae[i]? =some (some b):=by rw[List.getElem?_eq_getElem av,e]
    have a7:dC ae i=some b:=by unfold dC;rw[List.getD_eq_getElem?_getD,dA];rfl
    obtain⟨x,I,hr⟩:=U.live i b a7
    refine⟨x,by rw[a1 i n G];exact I,?_⟩
    rcases hr with⟨h0,hg⟩|⟨h0,h1,h2,o,h3,h4⟩
    ·exact .inl ⟨h0,by rw[eU]at *;exact hg⟩
    ·exact .inr ⟨h0,h1,cT _ h2,o,h3,h4.fwd bh (b3 i b dA)⟩
  ·rw[aa n J]at E
   obtain⟨x,I,hr⟩:=hH.live n blk E
   refine⟨x,X n x I,?_⟩
   rcases hr with hr|⟨h0,h1,h2,_,_,_⟩
   ·exact .inl hr
   ·obtain⟨obj,g1,g2,g3⟩:=ah n blk x J E I h0
    exact .inr ⟨h0,U.j9 _ _ g2,cV _ _ g1 h1 h2,obj,U.iL _ _ g2,g3.mono hM X⟩
 ·intro p q x y hp hq I hy a8 al B
  have inside:∀ (n i:Nat) (z:Own),v[i]? =some n->dB h (c9 v v ae) n≠none->Y n=some z->0<z.R->dC ae i≠none/\aq i=some z/\Fc z.b=none:=by
   intro n i z G bp hz h0
   have av:i<ae.length:=by rw[<-W];exact(List.getElem?_eq_some_iff.1 G).1
   have B:=bl i n _ G (List.getElem?_eq_getElem av)
   have dD:aq i=some z:=by rw[<-a1 i n G];exact hz
   cases e:ae[i]with
   |none=>rw[e]at B;exact absurd B bp
   |some b=>
    have a7:dC ae i=some b:=by unfold dC;rw[List.getD_eq_getElem?_getD,List.getElem?_eq_getElem av,e];rfl
    obtain⟨x,I,hr⟩:=U.live i b a7
    rw[dD]at I;obtain rfl:=Option.some.inj I
    rcases hr with⟨di,_⟩|⟨_,_,h2,_⟩
    ·omega
    ·exact⟨by rw[a7];simp,dD,h2⟩
  have outside:∀ (n:Nat) (z:Own),n∉v->dB h (c9 v v ae) n≠none->Y n=some z->0<z.R->h n≠none/\ρ n=some z/\Fc z.b≠none:=by
   intro n z E bp hz h0
   rw[aa n E]at bp
   obtain⟨blk,O⟩:=Option.ne_none_iff_exists'.1 bp
   obtain⟨x,I,_⟩:=hH.live n blk O
   have :=X n x I
   rw[hz]at this;obtain rfl:=Option.some.inj this
   obtain⟨obj,_,g2,_⟩:=ah n blk _ E O I h0
   exact⟨bp,I,by rw[g2];simp⟩
  by_cases bq:p∈v<;>by_cases br:q∈v
  ·obtain⟨i,G⟩:=List.mem_iff_getElem?.1 bq
   obtain⟨j,hj⟩:=List.mem_iff_getElem?.1 br
   obtain⟨et,eu,ev⟩:=inside p i x G hp I a8
   obtain⟨eL,eS,ep⟩:=inside q j y hj hq hy al
   have :=U.sep i j x y et eL eu eS a8 al B
   subst this
   rw[G]at hj;exact Option.some.inj hj
  ·obtain⟨i,G⟩:=List.mem_iff_getElem?.1 bq
   obtain⟨et,eu,ev⟩:=inside p i x G hp I a8
   obtain⟨eL,eS,ep⟩:=outside q y br hq hy al
   rw[<-B]at ep;exact absurd ev ep
  ·obtain⟨j,hj⟩:=List.mem_iff_getElem?.1 br
   obtain⟨et,eu,ev⟩:=inside q j y hj hq hy al
   obtain⟨eL,eS,ep⟩:=outside p x bq hp I a8
   rw[B]at ep;exact absurd ev ep
  ·obtain⟨et,eu,ev⟩:=outside p x bq hp I a8
   obtain⟨eL,eS,ep⟩:=outside q y br hq hy al
   exact hH.sep p q x y et eL eu eS a8 al B
def iX(ρ:Names)(h:ar)(b:Nat):Prop:=∃ n blk x,h n=some blk/\ρ n=some x/\0<x.R/\x.b=b
def EvB(M:aD)(ρ:Names)(h:ar)(e:Event):Prop:=
 (∃ ad s,e=⟨.cell ad,false,s⟩/\(M ad.block≠none\/iX ρ h ad.block))\/(∃ ad s,e=⟨.cell ad,true,s⟩/\iX ρ h ad.block)\/e=noRoomEvent\/(∃ r wr,e=⟨.obj r,wr,false⟩/\iX ρ h r)
theorem EvB.ok{A Rd:aI}{M F:aD}{ρ:Names}{h:ar}{w:World}{e:Event}(H:HR M (ext A Rd F w) ρ h w)(f:Fit A Rd F M w)(v:EvB M ρ h e):l9 A Rd e:=by
 have own:∀ b,iX ρ h b->A b:=fun b ⟨n,blk,x,k,B,D,E⟩=>E▸CO H f k B D
 rcases v with⟨ad,s,rfl,k|k⟩|⟨ad,s,rfl,k⟩|rfl|⟨r,wr,rfl,k⟩
 ·exact .inl ⟨ad,s,rfl,vS H k⟩
 ·exact .inl ⟨ad,s,rfl, .inl (own _ k)⟩
 ·exact .inr (.inl ⟨ad,s,rfl,own _ k⟩)
 ·exact .inr (.inr (.inl rfl))
 ·exact .inr (.inr (.inr ⟨r,wr,rfl,own _ k⟩))
def oc(C:Ctx)(o:Oper)(v:Operand->SV)(bs:List (Nat×aB)):Prop:=
 ∀ (M F:aD) (ρ:Names) (a:Act) (h:ar) (w:World),(∀ x,x∈o.op.operands->VR M ρ (v x) (a.eval x))->HR M F ρ h w->(∀ p,p∈bs->h p.1=some p.2)->∀ e,e∈(execOp a.eval o).events C.P w #[]->EvB M ρ h e
def ub:Op->Bool
 | .call ⟨.builtin .len,_,_⟩| .call ⟨.builtin .append,_,_⟩| .call ⟨.builtin .min,_,_⟩| .call ⟨.builtin .max,_,_⟩| .call ⟨.builtin .cap,_,_⟩=>true
 | .call _| .go _| .defer _| .send .. | .recv .. | .select .. =>false
 |_=>true
def vT:Next->Prop
 | .value _| .skip=>True
 |_=>False
theorem sq{P:Program}{s:Sem Value}{w w':World}{r:Next}(h:(do pure (Next.value (<-s)):Sem Next).run P w= .ok r w'):vT r:=by
 rw[Sem.run_bind]at h
 cases e:s.run P w with
 |ok x w1=>rw[e]at h;cases h;trivial
 |halt x w1=>rw[e]at h;cases h
theorem yc{P:Program}{s:Sem Unit}{w w':World}{r:Next}(h:(do s;pure Next.skip:Sem Next).run P w= .ok r w'):vT r:=by
 rw[Sem.run_bind]at h
 cases e:s.run P w with
 |ok x w1=>rw[e]at h;cases h;trivial
 |halt x w1=>rw[e]at h;cases h
theorem A1{P:Program}{o:Oper}(b:ub o.op=true){ρ:Operand->Value}{w w':World}{r:Next}(h:(execOp ρ o).run P w= .ok r w'):vT r:=by
 unfold execOp at h
 revert b h
 cases o.op<;>intro b h<;>first
  |(exact sq h)
  |(exact yc h)
  |(cases h;trivial)
  |(cases b)
  |skip
 case pick=>
  rw[Sem.run_bind]at h
  revert h
  cases(asBool _).run P w with
  |ok x w1=>intro h;cases h;trivial
  |halt x w1=>intro h;cases h
 case nilCheck x=>
  simp only at h
  have k:∀ {e:RuntimeError},(runtimePanic e:Sem Next).run P w= .ok r w'->vT r:=by
   intro e h
   unfold runtimePanic at h
   simp only[Sem.run_bind,run_program,Result.andThen_ok]at h
   cases e<;>simp only[goPanic,Sem.run,Sem.run_bind]at h<;>first|(cases h;done)|skip
   all_goals
    revert h
    generalize(elemOf _).run P w=q
    cases q with
    |halt _ _=>intro h;cases h
    |ok t w1=>
     intro h
     simp only[Result.andThen_ok,newVar,newRow,Sem.run_bind,newObj,Sem.run,Sem.run_pure]at h
     cases h
  split at h
  ·exact k h
  ·exact k h
  ·exact k h
  ·split at h
   ·exact k h
   ·rw[Sem.run_bind,run_program,Result.andThen_ok,Sem.run_bind]at h
    revert h
    generalize(nilAhead _ _ _ _).run P w=q
    cases q with
    |halt _ _=>intro h;cases h
    |ok t w1=>
     intro h
     simp only[Result.andThen_ok]at h
     split at h
     ·simp only[Sem.run_bind,unsupported,Sem.run,Result.andThen]at h;cases h
     ·simp only[Sem.run_bind,Sem.run_pure,Result.andThen_ok]at h;cases h;trivial
   ·cases h;trivial
  ·cases h;trivial
 case call c=>
  obtain⟨v,xs,B⟩:=c
  cases v with
  |builtin bi=>
   cases bi<;>first
    |(cases b;done)
    |(
     simp only[resolve,invoke,builtin,Sem.run_bind,Sem.run_pure,Result.andThen_ok]at h
     exact sq (by rw[Sem.run_bind];exact h))
  |value f=>cases b
  |invoke f n=>cases b
def kG(C:Ctx)(o:Oper)(v:Operand->SV)(bs:List (Nat×aB)):Prop:=
 ∀ (M F:aD) (ρ:Names) (a:Act) (h:ar) (w:World),(∀ x,x∈o.op.operands->VR M ρ (v x) (a.eval x))->HR M F ρ h w->(∀ p,p∈bs->h p.1=some p.2)->∀ r w',(execOp a.eval o).run C.P w= .ok r w'->vT r
theorem kG.plain{C:Ctx}{o:Oper}{v:Operand->SV}{bs:List (Nat×aB)}(b:ub o.op=true):kG C o v bs:=fun M F ρ a h w _ _ _ r w' e=>A1 b e
theorem bV.of{C:Ctx}{o:Oper}{nm:Nat}{v:Operand->SV}{bs:List (Nat×aB)}{U:SV->List (Nat×Option aB)->Prop}(hL:Nice.bV C o nm v bs U)(hp:kG C o v bs)(hE:oc C o v bs):bV C o nm v bs U:=by
 intro K A F M ρ a h w hf V hG hH D W gd b ops i rest k cs ho hw hb hk
 refine K.step A _ w rfl fun af B=>?_
 have E:=lD hH hf B
 have f1:=kF hf B
 have ev:∀ e,e∈listed C.P b.fn a o af->l9 A K.Rd e:=fun e he=>(hE M _ ρ a h af V E D e (mem_listed he)).ok E f1
 have key:=hL M _ ρ a h af V hG E D W
  (fun I w'=>∃ M' aq u wr u',M.le M'/\ρ.le aq/\(∀ n,n<nm\/nm+8<=n->aq n=ρ n)/\U u wr/\VR M' aq u u'/\HR M' (ext A K.Rd F af) aq (dB h wr) w'/\bG af w'/\I=a.put o.dst u') (fun _ _ _=>False)
  (fun M' aq u wr u' w' g1 X Y g4 g5 g6 J=>⟨M',aq,u,wr,u',g1,X,Y,g4,g5,g6,J,rfl⟩)
 unfold Cr at key
 have go:∀ I w',(∃ M' aq u wr u',M.le M'/\ρ.le aq/\(∀ n,n<nm\/nm+8<=n->aq n=ρ n)/\U u wr/\VR M' aq u u'/\HR M' (ext A K.Rd F af) aq (dB h wr) w'/\bG af w'/\I=a.put o.dst u')->
   mc A K.Rd af w' (listed C.P b.fn a o af)/\K.T (more A af w') (G (b.at I (.inRegion ops rest::k)) cs) w':=by
  rintro I w' ⟨M',aq,u,wr,u',g1,X,Y,g4,g5,g6,J,rfl⟩
  obtain⟨e1,e2,e3⟩:=zx E f1 g1 g6 J
  exact⟨⟨J,e3,ev⟩,hk (more A af w') M' aq u wr u' w' (fun x hx=> .inl hx) g1 X Y g4 g5 e2 e1 (B.same.trans J)⟩
 cases O:(execOp a.eval o).run C.P af with
 |ok r w'=>
  have aa:=hp M _ ρ a h af V E D r w' O
  rw[O]at key
  cases r with
  |value x=>
   obtain⟨q1,q2⟩:=go _ _ key
   exact⟨_,w',_,stepG_value (o:={o with guard:=gd}) ho hw hb O,q1,q2⟩
  |skip=>
   obtain⟨q1,q2⟩:=go _ _ key
   exact⟨_,w',_,stepG_none (o:={o with guard:=gd}) ho hw hb O,q1,q2⟩
  |_=>exact aa.elim
 |halt x w'=>
  rw[O]at key
  cases x<;>exact key.elim
def Spec(P:Program)(e:Nat->SV)(f:FuncId)(args:List SV)(b:List aB)(post:SV->List (Option aB)->Prop):Prop:=
 ∀ (K:Tr P) A F M ρ (vs:Array Value) w,Fit A K.Rd F M w->(∀ g ρ,VR M ρ (e g) (.pointer (some ⟨g,0,none⟩)))->HR M (ext A K.Rd F w) ρ (dC (b.map some)) w->vs.size=args.length->
  (∀ (i:Nat) (x:SV),args[i]? =some x->∃ u,vs[i]? =some u/\VR M ρ x u)->(∀ n,b.length<=n->ρ n=none)->
  ∀ c cs,(∀ A' M' aq r ae u w',(∀ x,A x->A' x)->M.le M'->ρ.le aq->VR M' aq r u->Fit A' K.Rd F M' w'->HR M' (ext A' K.Rd F w') aq (dC ae) w'->dY b.length r ae=true->bG w w'->post r ae->K.T A' (G (Frame.finish c u) cs) w')->
   K.T A (G (Frame.enter P f vs .normal) (c::cs)) w
theorem Spec.mono{P:Program}{k:Nat->SV}{f:FuncId}{args:List SV}{e:List aB}{post b:SV->List (Option aB)->Prop}(h:Spec P k f args e post)(B:∀ r v,post r v->b r v):Spec P k f args e b:=
 fun K A F M ρ vs w D E G I J O c cs U=>h K A F M ρ vs w D E G I J O c cs fun A' M' aq r ae u w' V W X Y k5 k6 k7 k8 k9=>U A' M' aq r ae u w' V W X Y k5 k6 k7 k8 (B _ _ k9)
def dL(C:Ctx)(fn:Func)(σ:St)(r:SV):Prop:=
 ∀ M F pin ρ a w,SR C M F pin ρ σ a w->(∃ u,(results fn a.tmps).run C.P w= .ok u w/\VR M ρ r u)/\∀ e,e∈(results fn a.tmps).events C.P w #[]->EvB M ρ σ.h e
theorem dL.of{C:Ctx}{fn:Func}{σ:St}{r:SV}(h:Nice.dL C fn σ r)(b:∀ tmps w,(results fn tmps).events C.P w #[]= #[]):dL C fn σ r:=
 fun M F pin ρ a w k=>⟨h M F pin ρ a w k,fun e hm=>by rw[b]at hm;simp at hm⟩
def iP(C:Ctx)(fn:Func)(post:SV->List (Option aB)->Prop):Exit->St->Prop
 | .ret,σ| .normal,σ=>∃ π b r ae,dL C fn σ b/\b=du π r/\dY C.m r ae=true/\Sub C π σ [] ae/\post r ae
 |_,_=>False
theorem m5{P:Program}{main:Bool}{b:Frame}{a:Act}{cs:List Frame}{w:World}{fn:Func}{todo:List Item}{c:Frame}{v:Value}(B:b.kind= .normal)(hd:a.defers= [])(D:P.funcs[b.fn]? =some fn)
  (E:(results fn a.tmps).run P w= .ok v w):∃ es,stepG P main (G {b.at a todo with mode:= .returning} (c::cs)) w= .go (G (c.finish v) cs) w es/\∀ e,e∈es->e∈(results fn a.tmps).events P w #[]:=by
 simp[G,stepG,unwind,doReturn,Frame.at,B,hd,D,E,GStep.after]
 first
  |exact fun e k=>mem_seen k
  |exact⟨_,rfl,fun e k=>mem_seen k⟩
theorem qa{P:Program}{O:Nat->SV}{f:FuncId}{fn:Func}{c:Code}{args:List SV}{v:List aB}{post:SV->List (Option aB)->Prop}(hf:P.funcs[f]? =some fn)(hb:fn.body=some c)
  (hn:Nat.ble args.length fn.ntmps=true)
  (h:W ⟨P,fn.ntmps,v.length,O⟩ c (iP ⟨P,fn.ntmps,v.length,O⟩ fn post) (fg (iE 0 args) (v.map some))):Spec P O f args v post:=by
 intro K A F M ρ vs w Y hG hH a0 U aa fc cs hk
 have a1:=Nat.le_of_ble_eq_true hn
 rw[enter_at vs hf hb]
 have fin:∀ aF A' M' aq E w',(∀ x,A x->A' x)->M.le M'->SC ⟨P,fn.ntmps,v.length,O⟩ A' K.Rd F M' ρ aq aF E w'->bG w w'->
   (∃ π r' r ae,dL ⟨P,fn.ntmps,v.length,O⟩ fn aF r'/\r'=du π r/\dY v.length r ae=true/\Sub ⟨P,fn.ntmps,v.length,O⟩ π aF [] ae/\post r ae)->
   ∀ todo,K.T A' (G {(base f).at E todo with mode:= .returning} (fc::cs)) w':=by
  rintro aF A' M' aq E w' h1 h2 B h4 ⟨π,r',r,ae,ah,rfl,X,I,hp⟩ todo
  refine K.step A' _ w' rfl fun af D=>?_
  have H1:=lD B.sr.hr B.fit D
  have f1:=kF B.fit D
  have V:SR ⟨P,fn.ntmps,v.length,O⟩ M' (ext A' K.Rd F af) ρ aq aF E af:=⟨⟨B.sr.tm,B.sr.sz,B.sr.df,H1,B.sr.pn,B.sr.pm,B.sr.gl⟩,B.sr.fr⟩
  obtain⟨⟨u,al,hv⟩,av⟩:=ah M' _ ρ aq E af V
  have J:=I.rel V.toSR0
  have hlen:π.length=ae.length:=by
   have :=I.ok
   simp only[Bool.and_eq_true]at this
   exact Nat.eq_of_beq_eq_true this.1
  have ax:r.under ae.length=true:=by
   simp only[dY,Bool.and_eq_true]at X
   exact X.2.2.1
  obtain⟨es,e1,e2⟩:=m5 (main:=K.main) (b:=base f) (todo:=todo) (c:=fc) (cs:=cs) rfl V.df hf al
  refine⟨_,af,es,e1,⟨.refl _,fun _ _ _=>rfl,fun e he=>(av e (e2 e he)).ok H1 f1⟩,?_⟩
  rw[dp]
  exact hk A' M' (back π aq) r ae u af h1 h2 J.pn (hv.back r rfl (by rw[hlen];exact ax)) f1 J.hr X (h4.trans D.same) hp
 refine h K A F M ρ ρ {tmps:=vs++Array.replicate (fn.ntmps-vs.size) undef,defers:= []} w ⟨Y,⟨⟨?_,?_,rfl,hH,Names.le_refl _,?_,hG⟩,?_⟩⟩ (base f) [] (fc::cs) (by intro h;cases h) ?_
 ·intro k
  show VR M ρ (dG (iE 0 args) k) _
  rw[mT]
  simp only[Nat.zero_le,if_true,Nat.sub_zero]
  rw[List.getD_eq_getElem?_getD]
  cases e:args[k]? with
  |none=>exact .any _
  |some x=>
   obtain⟨u,X,ah⟩:=U k x e
   have hk:=(Array.getElem?_eq_some_iff.1 X).1
   have :(vs++Array.replicate (fn.ntmps-vs.size) undef).getD k undef=u:=by
    rw[Array.getD_eq_getD_getElem?,Array.getElem?_append_left hk,X];rfl
   rw[this];exact ah
 ·simp;omega
 ·intro n x hx
  rcases Nat.lt_or_ge n v.length with h|h
  ·exact h
  ·rw[aa n h]at hx;cases hx
 ·intro n hn
  exact aa n (by simpa[fg]using hn)
 ·intro e A' M' aq aF E w' h1 h2 B h4 h5
  cases e with
  |normal=>exact K.idle rfl (fun _=>stepG_end) (fin aF A' M' aq E w' h1 h2 B h4 h5 [])
  |ret=>exact fin aF A' M' aq E w' h1 h2 B h4 h5
  |_=>exact h5.elim
structure Still (P:Program) {α:Type} (s:Sem α):Prop where
 out:∀ w es e,e∈s.events P w es->e∈es\/e=noRoomEvent
 ab:∀ w a w',s.run P w= .ok a w'->∀ (b:Nat) (o:Obj),w.heap[b]? =some o->w'.heap[b]? =some o
section
variable {P:Program} {α β:Type}
theorem Still.pure(a:α):Still P (Pure.pure a:Sem α):=⟨fun w es e h=> .inl h,fun w a w' h b o k=>by cases h;exact k⟩
theorem Still.halt(h:Halt):Still P (Sem.halt h:Sem α):=⟨fun w es e h=> .inl h,fun w a w' h=>by cases h⟩
theorem Still.bind{s:Sem α}{f:α->Sem β}(v:Still P s)(B:∀ a,Still P (f a)):Still P (s>>= f):=by
 constructor
 ·intro w es e h
  rw[Sem.events_bind]at h
  cases k:s.run P w with
  |halt x w'=>rw[k]at h;exact v.out w es e h
  |ok a w'=>
   rw[k]at h
   rcases(B a).out w' _ e h with h|h
   ·exact v.out w es e h
   ·exact .inr h
 ·intro w a w' h b o D
  rw[Sem.run_bind]at h
  cases k:s.run P w with
  |halt x w1=>rw[k]at h;cases h
  |ok x w1=>rw[k]at h;exact(B x).ab w1 a w' h b o (v.ab w x w1 k b o D)
theorem Still.map{s:Sem α}{f:α->β}(b:Still P s):Still P (Functor.map f s):=by
 show Still P (s.bind fun a=>Pure.pure (f a))
 exact b.bind fun a=> .pure _
theorem Still.program:Still P Go.program:=⟨fun w es e h=> .inl h,fun w a w' h b o k=>by cases h;exact k⟩
theorem Still.newObj(o:Obj):Still P (Go.newObj o):=⟨fun w es e h=> .inl h,fun w a w' h b v k=>by
 cases h
 show(w.heap.push o)[b]? =some v
 rw[Array.getElem?_push,if_neg]
 ·exact k
 ·have :=(Array.getElem?_eq_some_iff.1 k).1;omega⟩
theorem Still.shape(r:Nat):Still P (Go.shape r):=⟨fun w es e h=> .inl h,fun w a w' h b o k=>by cases h;exact k⟩
theorem Still.frozen(a:Addr):Still P (Go.frozen a):=⟨fun w es e h=> .inl h,fun w a w' h b o k=>by cases h;exact k⟩
theorem Still.choose(q:Question):Still P (Go.choose q):=⟨fun w es e h=>by rw[events_choose]at h;exact .inl h,fun w a w' h b o k=>by
 simp only[Go.choose,Sem.run]at h
 split at h<;>(cases h;exact k)⟩
theorem Still.typeInfo(t:TypeId):Still P (Go.typeInfo t):=by
 unfold Go.typeInfo
 refine .bind .program fun p=>?_
 split <;>first|exact .pure _|exact .halt _
theorem Still.underlying(t:TypeId):Still P (Go.underlying t):=by
 unfold Go.underlying
 refine .bind .program fun p=>?_
 split <;>first|exact .pure _|exact .halt _
theorem Still.sizeOf(t:TypeId):Still P (Go.sizeOf t):= .bind (.typeInfo t) fun _=> .pure _
theorem Still.isAgg(t:TypeId):Still P (Go.isAgg t):=by
 unfold Go.isAgg
 refine .bind (.underlying t) fun p=>?_
 split <;>exact .pure _
theorem Still.zeroValue(t:TypeId):Still P (Go.zeroValue t):=by
 unfold Go.zeroValue
 refine .bind (.typeInfo t) fun p=>?_
 split <;>first|exact .pure _|exact .halt _
theorem Still.noRoom:Still P (mark .noRoom):=⟨fun w es e h=>by
 rw[events_mark]at h
 exact(Array.mem_push.1 h).imp id id,fun w a w' h b o k=>by cases h;exact k⟩
theorem Still.askRoom(n:Nat):Still P (Go.askRoom n):=by
 unfold Go.askRoom
 split
 ·exact .noRoom
 ·exact .pure _
theorem Still.runtimePanic(x:RuntimeError):Still P (Go.runtimePanic x:Sem α):=by
 unfold Go.runtimePanic elemOf newVar newRow
 refine .bind .program fun p=>?_
 cases x<;>first|exact .halt _|skip
 all_goals
  refine .bind (.bind (.underlying _) fun t=>?_) fun t=> .bind (.bind (.newObj _) fun _=> .pure _) fun _=> .halt _
  split <;>first|exact .pure _|exact .halt _
theorem Still.boundsPanic(k:IntKind)(x y:Int)(c:BoundsCode):Still P (Go.boundsPanic k x y c:Sem α):=by
 unfold Go.boundsPanic
 dsimp only
 split
 ·exact .bind (.map (.choose _)) fun _=> .runtimePanic _
 ·exact .bind (.pure _) fun _=> .runtimePanic _
theorem Still.asIntOf(v:Value):Still P (Go.asIntOf v):=by
 unfold Go.asIntOf
 split <;>first|exact .pure _|exact .halt _
theorem Still.asInt(v:Value):Still P (Go.asInt v):= .bind (.asIntOf v) fun _=> .pure _
theorem Still.part(t:TypeId)(cs:Array Value)(o:Nat):Still P (Go.part t cs o):=by
 unfold Go.part
 refine .bind (.isAgg _) fun b=>?_
 split
 ·exact .bind (.sizeOf _) fun _=> .pure _
 ·split <;>first|exact .pure _|exact .halt _
theorem vU(t:TypeId):Still P (Instr.alloc t true (.tuple #[])):=by
 unfold Instr.alloc newVar newRow
 (repeat(first
  |exact Still.pure _
  |exact Still.halt _
  |exact Still.typeInfo _
  |exact Still.underlying _
  |exact Still.sizeOf _
  |exact Still.isAgg _
  |exact Still.zeroValue _
  |exact Still.choose _
  |exact Still.program
  |exact Still.newObj _
  |exact Still.shape _
  |exact Still.frozen _
  |exact Still.askRoom _
  |exact Still.runtimePanic _
  |exact Still.boundsPanic _ _ _ _
  |exact Still.asIntOf _
  |exact Still.asInt _
  |exact Still.part _ _ _
  |apply Still.map
  |apply Still.bind
  |intro _
  |split
  |(dsimp only)))
theorem A3(t:TypeId)(v:Value):Still P (Instr.box t v):=by
 unfold Instr.box newVar newRow
 (repeat(first
  |exact Still.pure _
  |exact Still.halt _
  |exact Still.typeInfo _
  |exact Still.underlying _
  |exact Still.sizeOf _
  |exact Still.isAgg _
  |exact Still.zeroValue _
  |exact Still.choose _
  |exact Still.program
  |exact Still.newObj _
  |exact Still.shape _
  |exact Still.frozen _
  |exact Still.askRoom _
  |exact Still.runtimePanic _
  |exact Still.boundsPanic _ _ _ _
  |exact Still.asIntOf _
  |exact Still.asInt _
  |exact Still.part _ _ _
  |apply Still.map
  |apply Still.bind
  |intro _
  |split
  |(dsimp only)))
theorem qv{f:α->Sem β}(b:∀ a,Still P (f a)):∀ (l:List α),Still P (l.mapM f)
 | []=>by rw[List.mapM_nil];exact .pure _
 |a::l=>by rw[List.mapM_cons];exact .bind (b a) fun _=> .bind (qv b l) fun _=> .pure _
theorem vV(t:TypeId)(ps:Array (Nat×Value)):Still P (Instr.build t ps):=by
 unfold Instr.build
 refine .bind (.zeroValue _) fun z=> .bind (.underlying _) fun d=>?_
 split
 ·refine .bind ?_ fun _=>?_
  ·rw[Array.mapM_eq_mapM_toList]
   exact .map (qv (fun f=> .bind (.sizeOf _) fun _=> .pure _) _)
  ·split <;>first|exact .pure _|exact .halt _
 ·refine .bind (.sizeOf _) fun _=>?_
  split <;>first|exact .pure _|exact .halt _
 ·exact .halt _
theorem iY(t:TypeId)(n:Nat)(ps:Array (Nat×Value)):Still P (Instr.buildSlice t n ps):=by
 unfold Instr.buildSlice newRow
 (repeat(first
  |exact Still.pure _
  |exact Still.halt _
  |exact Still.typeInfo _
  |exact Still.underlying _
  |exact Still.sizeOf _
  |exact Still.isAgg _
  |exact Still.zeroValue _
  |exact Still.choose _
  |exact Still.program
  |exact Still.newObj _
  |exact Still.shape _
  |exact Still.frozen _
  |exact Still.askRoom _
  |exact Still.runtimePanic _
  |exact Still.boundsPanic _ _ _ _
  |exact Still.asIntOf _
  |exact Still.asInt _
  |exact Still.part _ _ _
  |apply Still.map
  |apply Still.bind
  |intro _
  |split
  |(dsimp only)))
theorem rS(t:TypeId)(x i:Value):Still P (Instr.indexAt t x i):=by
 unfold Instr.indexAt Instr.sureAddr
 (repeat(first
  |exact Still.pure _
  |exact Still.halt _
  |exact Still.typeInfo _
  |exact Still.underlying _
  |exact Still.sizeOf _
  |exact Still.isAgg _
  |exact Still.zeroValue _
  |exact Still.choose _
  |exact Still.program
  |exact Still.newObj _
  |exact Still.shape _
  |exact Still.frozen _
  |exact Still.askRoom _
  |exact Still.runtimePanic _
  |exact Still.boundsPanic _ _ _ _
  |exact Still.asIntOf _
  |exact Still.asInt _
  |exact Still.part _ _ _
  |apply Still.map
  |apply Still.bind
  |intro _
  |split
  |(dsimp only)))
theorem pc(t:TypeId)(x i:Value):Still P (Instr.index t x i):=by
 unfold Instr.index
 (repeat(first
  |exact Still.pure _
  |exact Still.halt _
  |exact Still.typeInfo _
  |exact Still.underlying _
  |exact Still.sizeOf _
  |exact Still.isAgg _
  |exact Still.zeroValue _
  |exact Still.choose _
  |exact Still.program
  |exact Still.newObj _
  |exact Still.shape _
  |exact Still.frozen _
  |exact Still.askRoom _
  |exact Still.runtimePanic _
  |exact Still.boundsPanic _ _ _ _
  |exact Still.asIntOf _
  |exact Still.asInt _
  |exact Still.part _ _ _
  |apply Still.map
  |apply Still.bind
  |intro _
  |split
  |(dsimp only)))
theorem vW(t:TypeId)(x:Value)(f:Nat):Still P (Instr.field t x f):=by
 unfold Instr.field asAgg
 (repeat(first
  |exact Still.pure _
  |exact Still.halt _
  |exact Still.typeInfo _
  |exact Still.underlying _
  |exact Still.sizeOf _
  |exact Still.isAgg _
  |exact Still.zeroValue _
  |exact Still.choose _
  |exact Still.program
  |exact Still.newObj _
  |exact Still.shape _
  |exact Still.frozen _
  |exact Still.askRoom _
  |exact Still.runtimePanic _
  |exact Still.boundsPanic _ _ _ _
  |exact Still.asIntOf _
  |exact Still.asInt _
  |exact Still.part _ _ _
  |apply Still.map
  |apply Still.bind
  |intro _
  |split
  |(dsimp only)))
theorem pB(t:TypeId)(x c:Value):Still P (Instr.makeSlice t x c):=by
 unfold Instr.makeSlice newRow
 (repeat(first
  |exact Still.pure _
  |exact Still.halt _
  |exact Still.typeInfo _
  |exact Still.underlying _
  |exact Still.sizeOf _
  |exact Still.isAgg _
  |exact Still.zeroValue _
  |exact Still.choose _
  |exact Still.program
  |exact Still.newObj _
  |exact Still.shape _
  |exact Still.frozen _
  |exact Still.askRoom _
  |exact Still.runtimePanic _
  |exact Still.boundsPanic _ _ _ _
  |exact Still.asIntOf _
  |exact Still.asInt _
  |exact Still.part _ _ _
  |apply Still.map
  |apply Still.bind
  |intro _
  |split
  |(dsimp only)))
theorem rT(t:TypeId)(x:Value)(f:Nat)(h:∀ k (d:Field),P.underlying t=some (.struct k)->k[f]? =some d->∃ i,P.info? d.type=some i/\0<i.size):∀ w es e,e∈(Instr.fieldAt t x f).events P w es->e∈es:=by
 intro w es e b
 unfold Instr.fieldAt Instr.sureAddr at b
 rw[Sem.events_bind,events_underlying]at b
 cases v:P.underlying t with
 |none=>
  have :(Go.underlying t).run P w= .halt (.stuck "no such type") w:=by simp[Go.underlying,v,stuck,Sem.run]
  rw[this]at b;exact b
 |some d=>
  rw[run_underlying v,Result.evThen_ok]at b
  revert b
  cases d with
  |struct k=>
   simp only
   cases D:k[f]? with
   |none=>simp only;exact fun b=>b
   |some E=>
    simp only
    obtain⟨i,G,B⟩:=h k E v D
    intro b
    rw[Sem.events_bind]at b
    cases x with
    |pointer p=>
     cases p with
     |some a=>
      simp only[Sem.run_pure,Sem.events_pure,Result.evThen_ok]at b
      have I: ¬ i.size=0:=by omega
      unfold fieldPlace at b
      simp[Go.sizeOf,Go.typeInfo,G,I]at b
      exact b
     |none=>exact b
    |_=>exact b
  |_=>exact fun b=>b
end
def At(P:Program)(R Wr:Nat->Prop){α:Type}(s:Sem α)(w:World):Prop:=
 ∀ es e,e∈s.events P w es->e∈es\/(∃ ad y,e=⟨.cell ad,false,y⟩/\R ad.block)\/(∃ ad y,e=⟨.cell ad,true,y⟩/\Wr ad.block)\/e=noRoomEvent\/(∃ r wr,e=⟨.obj r,wr,false⟩/\Wr r)
section
variable {P:Program} {R Wr:Nat->Prop} {α β:Type} {w:World}
theorem Still.at{s:Sem α}(h:Still P s):At P R Wr s w:=fun es e b=>(h.out w es e b).imp id fun h=> .inr (.inr (.inl h))
theorem At.bind{s:Sem α}{f:α->Sem β}(k:At P R Wr s w)(v:∀ a w',s.run P w= .ok a w'->At P R Wr (f a) w'):At P R Wr (s>>= f) w:=by
 intro es e h
 rw[Sem.events_bind]at h
 cases b:s.run P w with
 |halt x w'=>rw[b]at h;exact k es e h
 |ok a w'=>
  rw[b]at h
  rcases v a w' b _ e h with h|h
  ·exact k es e h
  ·exact .inr h
def b9(w:World)(b:Nat):Prop:=∃ cs T e,w.heap[b]? =some (.cells cs T e)
theorem uc{a:Addr}(k:b9 w a.block)(v:R a.block):At P R Wr (load a) w:=by
 intro es e b
 rw[events_load]at b
 obtain⟨cs,T,D,B⟩:=k
 split at b
 ·rcases Array.mem_push.1 b with h|rfl
  ·exact .inl h
  ·exact .inr (.inl ⟨a,_,rfl,v⟩)
 ·simp only[World.farLoad,B]at b
  exact .inl b
theorem kH{a:Addr}{v:Value}{w':World}(h:(load a).run P w= .ok v w'):w'=w:=by
 simp only[load,Sem.run]at h
 split at h
 ·cases h;rfl
 ·split at h
  ·cases h;rfl
  ·cases h
theorem eQ(a:Addr)(n:Nat):(a.add n).block=a.block:=by unfold Addr.add;split <;>rfl
theorem iZ{a:Addr}(b:b9 w a.block)(e:R a.block):∀ (n i:Nat) (acc:Array Value),At P R Wr (loadCellsFrom a i n acc) w
 |0,i,acc=>(Still.pure _).at
 |n+1,i,acc=>by
  unfold loadCellsFrom
  refine .bind (uc (by rw[eQ];exact b) (by rw[eQ];exact e)) fun v w' k=>?_
  rw[kH k]
  exact iZ b e n (i+1) _
theorem vX{a:Addr}{v:Value}(B:b9 w a.block)(D:Wr a.block):At P R Wr (store a v) w:=by
 intro es e b
 obtain⟨cs,T,G,E⟩:=B
 by_cases k:v.oneCell'=true
 ·rw[events_store P w es a v _ k]at b
  split at b
  ·split at b
   ·exact .inl b
   ·rcases Array.mem_push.1 b with h|rfl
    ·exact .inl h
    ·exact .inr (.inr (.inl ⟨a,_,rfl,D⟩))
  ·simp only[World.farStore,E]at b
   exact .inl b
 ·cases v<;>first|(exact absurd rfl k)|(simp only[store,Sem.events,Sem.runT]at b;exact .inl b)
theorem jX{a:Addr}{v:Value}{w':World}(h:(store a v).run P w= .ok () w'){b:Nat}(E:b9 w b)(G:b9 w a.block):b9 w' b:=by
 obtain⟨cs,T,O,B⟩:=E
 obtain⟨I,T',J,k⟩:=G
 have key:w'=w.setCell a v->b9 w' b:=by
  rintro rfl
  unfold World.setCell b9
  simp only[Array.getElem?_modify]
  by_cases e:a.block=b
  ·subst e;rw[B];simp
  ·simp[e,B]
 by_cases D:v.oneCell'=true
 ·rw[run_store P w a v _ D]at h
  split at h
  ·split at h
   ·cases h
   ·cases h;exact key rfl
  ·simp only[World.farStore,k]at h;cases h
 ·cases v<;>first|(exact absurd rfl D)|(simp only[store,Sem.run]at h;cases h)
theorem lQ{a:Addr}(e:Wr a.block):∀ (vs:List Value) (i:Nat) (w:World),b9 w a.block->At P R Wr (storeCells a vs i) w
 | [],i,w,b=>(Still.pure _).at
 |v::vs,i,w,b=>by
  unfold storeCells
  refine .bind (vX (by rw[eQ];exact b) (by rw[eQ];exact e)) fun _ w' k=>?_
  exact lQ e vs (i+1) w' (jX k b (by rw[eQ];exact b))
theorem qw{t:TypeId}{a:Addr}(k:b9 w a.block)(v:R a.block):At P R Wr (loadVar t a) w:=by
 unfold loadVar loadCells
 have one:∀ {s:Sem Bool} {b:Bool} {w':World},s=isAgg t->s.run P w= .ok b w'->w'=w:=by
  rintro s b w' rfl h
  unfold isAgg Go.underlying at h
  simp only[Sem.run_bind,run_program,Result.andThen_ok]at h
  cases e:P.underlying t with
  |none=>rw[e]at h;simp only[stuck,Sem.run,Result.andThen]at h;cases h
  |some d=>rw[e]at h;simp only[Sem.run_pure,Result.andThen_ok]at h;cases d<;>(simp only[Sem.run_pure]at h;cases h;rfl)
 have two:∀ {n:Nat} {w':World},(Go.sizeOf t).run P w= .ok n w'->w'=w:=by
  intro n w' h
  unfold Go.sizeOf Go.typeInfo at h
  simp only[Sem.run_bind,run_program,Result.andThen_ok]at h
  cases e:P.info? t with
  |none=>rw[e]at h;simp only[stuck,Sem.run,Result.andThen]at h;cases h
  |some d=>rw[e]at h;simp only[Sem.run_pure,Result.andThen_ok]at h;cases h;rfl
 refine .bind (Still.at (.isAgg t)) fun b w' B=>?_
 rw[one rfl B]
 split
 ·refine .bind (Still.at (.sizeOf t)) fun n w' D=>?_
  rw[two D]
  exact .bind (iZ k v _ _ _) fun _ _ _=>(Still.pure _).at
 ·exact uc k v
theorem vY{t:TypeId}{a:Addr}{v:Value}(e:b9 w a.block)(k:Wr a.block):At P R Wr (storeVar t a v) w:=by
 unfold storeVar
 have two:∀ {n:Nat} {w':World},(Go.sizeOf t).run P w= .ok n w'->w'=w:=by
  intro n w' h
  unfold Go.sizeOf Go.typeInfo at h
  simp only[Sem.run_bind,run_program,Result.andThen_ok]at h
  cases b:P.info? t with
  |none=>rw[b]at h;simp only[stuck,Sem.run,Result.andThen]at h;cases h
  |some d=>rw[b]at h;simp only[Sem.run_pure,Result.andThen_ok]at h;cases h;rfl
 refine .bind (Still.at (.sizeOf t)) fun n w' B=>?_
 rw[two B]
 split
 ·exact .bind (Still.halt _).at fun _ w' h=>by simp only[stuck,Sem.run]at h;cases h
 ·exact lQ k _ _ _ e
structure Ax (P:Program) (S R Wr:Nat->Prop) {α:Type} (s:Sem α):Prop where
 at_:∀ w,(∀ b,S b->b9 w b)->At P R Wr s w
 ab:∀ w,(∀ b,S b->b9 w b)->∀ a w',s.run P w= .ok a w'->∀ b,S b->b9 w' b
theorem Still.ax{S:Nat->Prop}{s:Sem α}(h:Still P s):Ax P S R Wr s:=⟨fun w _=>h.at,fun w hS a w' e b k=>let⟨cs,T,v,B⟩:=hS b k;⟨cs,T,v,h.ab w a w' e b _ B⟩⟩
theorem Ax.bind{S:Nat->Prop}{s:Sem α}{f:α->Sem β}(e:Ax P S R Wr s)(k:∀ a,(∃ w w',s.run P w= .ok a w')->Ax P S R Wr (f a)):Ax P S R Wr (s>>= f):=by
 refine⟨fun w hS=> .bind (e.at_ w hS) fun a w' b=>(k a ⟨w,w',b⟩).at_ w' (e.ab w hS a w' b),fun w hS a w' h=>?_⟩
 rw[Sem.run_bind]at h
 cases b:s.run P w with
 |halt x w1=>rw[b]at h;cases h
 |ok x w1=>rw[b]at h;exact(k x ⟨w,w1,b⟩).ab w1 (e.ab w hS x w1 b) a w' h
theorem qx{S:Nat->Prop}{size n m c:Nat}{B:Option Addr}(h:n=0\/∃ ad,B=some ad/\S ad.block/\R ad.block):Ax P S R Wr (Builtin.firstCells size n (.slice B m c)):=by
 have one:∀ (a:Addr),S a.block->R a.block->∀ (k i:Nat) (acc:Array Value),Ax P S R Wr (loadCellsFrom a i k acc):=by
  intro a D E k
  induction k with
  |zero=>intro i acc;exact(Still.pure _).ax
  |succ k G=>
   intro i acc
   unfold loadCellsFrom
   refine .bind ⟨fun w hS=>uc (by rw[eQ];exact hS _ D) (by rw[eQ];exact E),fun w hS v w' I b J=>?_⟩ fun v _=>G _ _
   rw[kH I];exact hS b J
 unfold Builtin.firstCells loadCells
 cases B with
 |none=>exact(Still.pure _).ax
 |some a=>
  rcases h with rfl|⟨ad,e,D,E⟩
  ·rw[Nat.zero_mul];exact(Still.pure _).ax
  ·cases e;exact one _ D E _ _ _
theorem vZ{S:Nat->Prop}{a:Addr}(e:S a.block)(k:Wr a.block):∀ (vs:List Value) (i:Nat),Ax P S R Wr (storeCells a vs i)
 | [],i=>(Still.pure _).ax
 |v::vs,i=>by
  unfold storeCells
  refine .bind ⟨fun w hS=>vX (by rw[eQ];exact hS _ e) (by rw[eQ];exact k),fun w hS _ w' B b D=>jX B (hS b D) (by rw[eQ];exact hS _ e)⟩ fun _ _=>vZ e k vs _
theorem qz(size l n:Nat)(base:Option Addr)(x:Value):Still P (Builtin.mayShare size l n base x):=by
 unfold Builtin.mayShare Builtin.holdsCells
 (repeat(first
  |exact Still.pure _
  |exact Still.halt _
  |exact Still.typeInfo _
  |exact Still.underlying _
  |exact Still.sizeOf _
  |exact Still.isAgg _
  |exact Still.zeroValue _
  |exact Still.choose _
  |exact Still.program
  |exact Still.newObj _
  |exact Still.shape _
  |exact Still.frozen _
  |exact Still.askRoom _
  |exact Still.runtimePanic _
  |exact Still.boundsPanic _ _ _ _
  |exact Still.asIntOf _
  |exact Still.asInt _
  |exact Still.part _ _ _
  |apply Still.map
  |apply Still.bind
  |intro _
  |split
  |(dsimp only)))
end
end Go.Proofs.YtifcaekngfgdmaaDoor.Nice.Co
