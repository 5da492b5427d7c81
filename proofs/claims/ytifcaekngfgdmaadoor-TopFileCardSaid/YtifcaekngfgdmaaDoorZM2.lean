/- Part 2 of the proof of TopFile. -/
import Derived.Test.YtifcaekngfgdmaaDoorZM1
import Derived.Laws.Entries
import Derived.Laws.Slices
set_option linter.unusedVariables false
set_option linter.unusedSimpArgs false
set_option maxRecDepth 100000
set_option maxHeartbeats 4000000
namespace Go.Proofs.YtifcaekngfgdmaaDoor.Nice
open Go
def dY(m:Nat)(r:SV)(ae:List (Option aB)):Bool:=Nat.ble m ae.length&&(Nat.ble ae.length (m+8)&&(r.under ae.length&&aW ae.length ae))
def Spec(P:Program)(G:Nat->SV)(f:FuncId)(args:List SV)(b:List aB)(post:SV->List (Option aB)->Prop):Prop:=
 ∀ M F ρ (vs:Array Value) w,(∀ g ρ,VR M ρ (G g) (.pointer (some ⟨g,0,none⟩)))->HR M F ρ (dC (b.map some)) w->vs.size=args.length->
  (∀ (i:Nat) (x:SV),args[i]? =some x->∃ u,vs[i]? =some u/\VR M ρ x u)->(∀ n,b.length<=n->ρ n=none)->
  js P f vs w (fun e w'=>∃ M' aq r ae u,e= .returned u/\M.le M'/\ρ.le aq/\VR M' aq r u/\HR M' F aq (dC ae) w'/\dY b.length r ae=true/\bG w w'/\post r ae)
theorem Spec.mono{P:Program}{G:Nat->SV}{f:FuncId}{args:List SV}{k:List aB}{post b:SV->List (Option aB)->Prop}(h:Spec P G f args k post)(B:∀ r v,post r v->b r v):Spec P G f args k b:=
 fun M F ρ vs w D E I J O=>(h M F ρ vs w D E I J O).mono fun e w' ⟨M',aq,r,v,u,U,V,W,X,Y,k6,k7,k8⟩=>⟨M',aq,r,v,u,U,V,W,X,Y,k6,k7,B _ _ k8⟩
def iE:Nat->List SV->List (Nat×SV)
 |_,[]=> []
 |k,x::r=>(k,x)::iE (k+1) r
theorem mT:∀ (args:List SV) (k n:Nat),dG (iE k args) n=if k<=n then args.getD (n-k) .any else .any
 | [],k,n=>by simp[iE,dG]
 |x::r,k,n=>by
  simp only[iE,dG]
  cases e:Nat.beq n k with
  |true=>have :=Nat.eq_of_beq_eq_true e;subst this;simp
  |false=>
   have b:n≠k:=fun h=>by subst h;simp at e
   simp only[cond_false]
   rw[mT r (k+1) n]
   by_cases h:k+1<=n
   ·rw[if_pos h,if_pos (by omega),show n-k=(n-(k+1))+1 by omega];simp
   ·rw[if_neg h,if_neg (by omega)]
def dL(C:Ctx)(fn:Func)(σ:St)(r:SV):Prop:=
 ∀ M F pin ρ a w,SR C M F pin ρ σ a w->∃ u,(results fn a.tmps).run C.P w= .ok u w/\VR M ρ r u
theorem II{C:Ctx}{fn:Func}{σ:St}{s:Tmp}(h:fn.results= #[.tmp s]):dL C fn σ (σ.t s):=
 fun M F pin ρ a w b=>⟨_,results_tmp h _ _ _,b.tm s⟩
theorem IJ{C:Ctx}{fn:Func}{σ:St}(h:fn.results= #[]):dL C fn σ (.bA []):=
 fun M F pin ρ a w k=>⟨_,results_none h _ _ _, .bA [] #[] (fun _=>undef) rfl (fun i b=>by simp at b) (fun i x e=>by simp at e)⟩
theorem VR.vA{M:aD}{ρ:Names}(xs:List SV)(vs:Array Value)(e:vs.size=xs.length)(h:∀ (i:Nat) (x:SV),xs[i]? =some x->∃ u,vs[i]? =some u/\VR M ρ x u):VR M ρ (.bA xs) (.tuple vs):=by
 refine .bA xs vs (fun i=>vs.getD i undef) e (fun i k=>?_) fun i x v=>?_
 ·have :i<vs.size:=by omega
  simp[Array.getD,this]
 ·obtain⟨u,b,B⟩:=h i x v
  have k:=(Array.getElem?_eq_some_iff.1 b).1
  have :vs.getD i undef=u:=by
   rw[Array.getD_eq_getD_getElem?,b];rfl
  rw[this];exact B
theorem VR.zm{M:aD}{ρ:Names}(xs:List SV)(vs:Array Value)(b:vs.size=xs.length)(h:∀ (i:Nat) (x:SV),xs[i]? =some x->∃ u,vs[i]? =some u/\VR M ρ x u):VR M ρ (.agg xs) (.agg vs):=by
 refine .agg xs vs (fun i=>vs.getD i undef) b (fun i B=>?_) fun i x e=>?_
 ·have :i<vs.size:=by omega
  simp[Array.getD,this]
 ·obtain⟨u,k,v⟩:=h i x e
  have :vs.getD i undef=u:=by
   rw[Array.getD_eq_getD_getElem?,k];rfl
  rw[this];exact v
theorem Hm{C:Ctx}{fn:Func}{σ:St}{s t:Tmp}(h:fn.results= #[.tmp s, .tmp t]):dL C fn σ (.bA [σ.t s,σ.t t]):=
 fun M F pin ρ a w e=>⟨_,results_tmp2 h _ _ _, .vA _ _ rfl fun i x b=>by
  match i,b with
  |0,b=>simp at b;subst b;exact⟨_,rfl,e.tm s⟩
  |1,b=>simp at b;subst b;exact⟨_,rfl,e.tm t⟩⟩
theorem JE{C:Ctx}{fn:Func}{σ:St}{s t r:Tmp}(h:fn.results= #[.tmp s, .tmp t, .tmp r]):dL C fn σ (.bA [σ.t s,σ.t t,σ.t r]):=
 fun M F pin ρ a w e=>⟨.tuple #[a.tmps.getD s undef,a.tmps.getD t undef,a.tmps.getD r undef],by simp[results,h], .vA _ _ rfl fun i x b=>by
  match i,b with
  |0,b=>simp at b;subst b;exact⟨_,rfl,e.tm s⟩
  |1,b=>simp at b;subst b;exact⟨_,rfl,e.tm t⟩
  |2,b=>simp at b;subst b;exact⟨_,rfl,e.tm r⟩⟩
def iP(C:Ctx)(fn:Func)(post:SV->List (Option aB)->Prop):Exit->St->Prop
 | .ret,σ| .normal,σ=>∃ π b r ae,dL C fn σ b/\b=du π r/\dY C.m r ae=true/\Sub C π σ [] ae/\post r ae
 |_,_=>False
theorem qa{P:Program}{G:Nat->SV}{f:FuncId}{fn:Func}{c:Code}{args:List SV}{b:List aB}{post:SV->List (Option aB)->Prop}(hf:P.funcs[f]? =some fn)(hb:fn.body=some c)
  (O:Nat.ble args.length fn.ntmps=true)
  (h:W ⟨P,fn.ntmps,b.length,G⟩ c (iP ⟨P,fn.ntmps,b.length,G⟩ fn post) (fg (iE 0 args) (b.map some))):Spec P G f args b post:=by
 intro M F ρ vs w hG hH av E J
 have ax:=Nat.le_of_ble_eq_true O
 refine AM hf hb (fj ?_ (h M F ρ ρ {tmps:=vs++Array.replicate (fn.ntmps-vs.size) undef,defers:= []} w ⟨⟨?_,?_,rfl,hH,Names.le_refl _,?_,hG⟩,?_⟩))
 ·rintro e U w' ⟨M',aq,aF,h1,V,h3,X⟩
  have fin:(∃ π Y r ae,dL ⟨P,fn.ntmps,b.length,G⟩ fn aF Y/\Y=du π r/\dY b.length r ae=true/\Sub ⟨P,fn.ntmps,b.length,G⟩ π aF [] ae/\post r ae)->
    U.defers= []/\∃ v,(results fn U.tmps).run P w'= .ok v w'/\(∃ M' aq r ae u,Ending.returned v= .returned u/\M.le M'/\ρ.le aq/\VR M' aq r u/\HR M' F aq (dC ae) w'/\dY b.length r ae=true/\bG w w'/\post r ae):=by
   rintro⟨π,Y,r,ae,aa,rfl,I,B,hp⟩
   obtain⟨u,ah,hv⟩:=aa M' F ρ aq U w' V
   have D:=B.rel V.toSR0
   have hlen:π.length=ae.length:=by
    have :=B.ok
    simp only[Bool.and_eq_true]at this
    exact Nat.eq_of_beq_eq_true this.1
   have al:r.under ae.length=true:=by
    simp only[dY,Bool.and_eq_true]at I
    exact I.2.2.1
   exact⟨V.df,u,ah,M',back π aq,r,ae,u,rfl,h1,D.pn,hv.back r rfl (by rw[hlen];exact al),D.hr,I,h3,hp⟩
  cases e with
  |normal=>exact fin X
  |ret=>exact fin X
  |_=>exact X.elim
 ·intro k
  show VR M ρ (dG (iE 0 args) k) _
  rw[mT]
  simp only[Nat.zero_le,if_true,Nat.sub_zero]
  rw[List.getD_eq_getElem?_getD]
  cases e:args[k]? with
  |none=>exact .any _
  |some x=>
   obtain⟨u,I,aa⟩:=E k x e
   have hk:=(Array.getElem?_eq_some_iff.1 I).1
   have :(vs++Array.replicate (fn.ntmps-vs.size) undef).getD k undef=u:=by
    rw[Array.getD_eq_getD_getElem?,Array.getElem?_append_left hk,I];rfl
   rw[this];exact aa
 ·simp;omega
 ·intro n x hx
  rcases Nat.lt_or_ge n b.length with h|h
  ·exact h
  ·rw[J n h]at hx;cases hx
 ·intro n O
  exact J n (by simpa[fg]using O)
theorem VR.fwd{M:aD}{ρ aq:Names}{π:List Nat}{n:Nat}(E:∀ i,i<n->aq (π.getD i 0)=ρ i){x:SV}{v:Value}(h:VR M ρ x v):x.under n=true->VR M aq (du π x) v:=by
 have key:∀ (m:Nat) (z:Own),Nat.blt m n=true->ρ m=some z->aq (π.getD m 0)=some z:=by
  intro m z hm G
  rw[E m (by simpa using hm)];exact G
 induction h with
 |any v=>intro _;exact .any v
 |d z v h=>intro _;exact .d z v h
 |vp k len f i c b o cur T fz g hb hg hr=>intro _;exact .vp k len f i c b o cur T fz g hb hg hr
 |ptr m i c z h=>intro B;exact .ptr _ i c z (key m z (by simpa[SV.under]using B) h)
 |sl m o len z h hl hR h0=>intro B;exact .sl _ o len z (key m z (by simpa[SV.under]using B) h) hl hR h0
 |jo m o z h hR a=>intro B;exact .jo _ _ z (key m z (by simpa[SV.under]using B) h) hR a
 |cs m c len z cap h hc=>intro B;exact .cs _ c len z cap (key m z (by simpa[SV.under]using B) h) hc
 |Fb m z h=>intro B;exact .Fb _ z (key m z (by simpa[SV.under]using B) h)
 |Ff m=>intro B;exact .Ff _
 |map m z h=>intro B;exact .map _ z (key m z (by simpa[SV.under]using B) h)
 |fn f aZ vs g hs hg hr ih=>
  intro B
  have B:cS n aZ=true:=by simpa[SV.under]using B
  refine .fn f _ vs g (by rw[bM];exact hs) (by rw[bM];exact hg) fun i y D=>?_
  rw[dX]at D
  cases e:aZ[i]? with
  |none=>rw[e]at D;cases D
  |some z=>rw[e]at D;cases D;exact ih i z e (cU n aZ B i z e)
 |agg xs vs g hs hg hr ih=>
  intro B
  have B:cS n xs=true:=by simpa[SV.under]using B
  refine .agg _ vs g (by rw[bM];exact hs) (by rw[bM];exact hg) fun i y D=>?_
  rw[dX]at D
  cases e:xs[i]? with
  |none=>rw[e]at D;cases D
  |some z=>rw[e]at D;cases D;exact ih i z e (cU n xs B i z e)
 |bA xs vs g hs hg hr ih=>
  intro B
  have B:cS n xs=true:=by simpa[SV.under]using B
  refine .bA _ vs g (by rw[bM];exact hs) (by rw[bM];exact hg) fun i y D=>?_
  rw[dX]at D
  cases e:xs[i]? with
  |none=>rw[e]at D;cases D
  |some z=>rw[e]at D;cases D;exact ih i z e (cU n xs B i z e)
 |iface t z v h ih=>intro B;exact .iface t _ v (ih (by simpa[SV.under]using B))
theorem BR.fwd{M:aD}{ρ aq:Names}{π:List Nat}{n:Nat}(B:∀ i,i<n->aq (π.getD i 0)=ρ i){z:Own}{b:aB}{o:Obj}(h:BR M ρ z b o)(I:b.under n=true):BR M aq z (dW π b) o:=by
 cases b with
 |cells ty k xs=>cases o with
  |cells cur T Y=>
   obtain⟨J,O,U,h4,h5,h6⟩:=h
   refine⟨J,O,U,h4,by rw[bM];exact h5,fun j s D=>?_⟩
   rw[dX]at D
   cases e:xs[j]? with
   |none=>rw[e]at D;cases D
   |some y=>
    rw[e]at D;cases D
    obtain⟨v,hv,E⟩:=h6 j y e
    exact⟨v,hv,E.fwd B (cU n xs I j y e)⟩
  |_=>exact h.elim
 |rows ty k len f=>cases o<;>exact h
 |map es=>cases o<;>exact h
 |fam S es=>cases o with
  |map iK cl=>
   obtain⟨h0,J,O,U⟩:=h
   refine⟨h0,J,O,fun p V=>?_⟩
   obtain⟨q,G,rfl⟩:=mO V
   obtain⟨y,W,E⟩:=U q G
   exact⟨y,W,E.fwd B ((List.all_eq_true.1 I) q G)⟩
  |cells cur T Y=>
   refine⟨h.1,fun p V=>?_⟩
   obtain⟨q,G,rfl⟩:=mO V
   obtain⟨y,W,E⟩:=h.2 q G
   exact⟨y,W,E.fwd B ((List.all_eq_true.1 I) q G)⟩
  |_=>exact h.elim
 |iter m since seen=>cases o with
  |mapIter mp s' X cl=>exact⟨h.1.fwd B I,h.2⟩
  |_=>exact h.elim
def gG(π:List Nat):List Nat->List aB->List (Nat×aB)
 |i::r,b::l=>(i,dW π b)::gG π r l
 |_,_=> []
def c9(π:List Nat):List Nat->List (Option aB)->List (Nat×Option aB)
 |i::r,b::l=>(i,b.map (dW π))::c9 π r l
 |_,_=> []
def ay(nm:Nat):Nat->List Nat
 |0=> []
 |n+1=>nm::ay (nm+1) n
theorem cD(nm:Nat):∀ n,(ay nm n).length=n:=by
 intro n;induction n generalizing nm with
 |zero=>rfl
 |succ n ih=>simp[ay,ih]
theorem cu:∀ (n nm i:Nat),i<n->(ay nm n)[i]? =some (nm+i)
 |0,nm,i,h=>absurd h (Nat.not_lt_zero _)
 |n+1,nm,0,h=>by simp[ay]
 |n+1,nm,i+1,h=>by simp[ay];rw[cu n (nm+1) i (by omega)];congr 1;omega
theorem gY{π:List Nat}:∀ (l:List Nat) (bs:List aB),l.length=bs.length->∀ (i:Nat) (b:aB),bs[i]? =some b->∃ j,l[i]? =some j/\(j,dW π b)∈gG π l bs
 | [],[],_,i,b,h=>by simp at h
 | [],_::_,h,_,_,_=>by simp at h
 |_::_,[],h,_,_,_=>by simp at h
 |x::l,c::bs,hl,0,b,h=>by simp at h;subst h;exact⟨x,rfl,List.mem_cons_self ..⟩
 |x::l,c::bs,hl,i+1,b,h=>by
  obtain⟨j,e,k⟩:=gY l bs (by simpa using hl) i b (by simpa using h)
  exact⟨j,by simpa using e,List.mem_cons_of_mem _ k⟩
theorem sf{π:List Nat}:∀ (l:List Nat) (bs:List (Option aB)) (p:Nat×Option aB),p∈c9 π l bs->∃ (i:Nat) (b:Option aB),l[i]? =some p.1/\bs[i]? =some b/\p.2=b.map (dW π)
 | [],_,p,h=>by simp[c9]at h
 |_::_,[],p,h=>by simp[c9]at h
 |x::l,c::bs,p,h=>by
  simp only[c9]at h
  rcases List.mem_cons.1 h with rfl|h
  ·exact⟨0,c,rfl,rfl,rfl⟩
  ·obtain⟨i,b,e,k,v⟩:=sf l bs p h
   exact⟨i+1,b,by simpa using e,by simpa using k,v⟩
theorem mU{π:List Nat}:∀ (l:List Nat) (bs:List (Option aB)) (h:ar),l.length=bs.length->(∀ i j n:Nat,l[i]? =some n->l[j]? =some n->i=j)->
  (∀ (i n:Nat) (b:Option aB),l[i]? =some n->bs[i]? =some b->dB h (c9 π l bs) n=b.map (dW π))/\(∀ n,n∉l->dB h (c9 π l bs) n=h n)
 | [],[],h,_,_=>⟨fun i n b k=>by simp at k,fun n _=>rfl⟩
 | [],_::_,_,hl,_=>by simp at hl
 |_::_,[],_,hl,_=>by simp at hl
 |x::l,c::bs,h,hl,v=>by
  obtain⟨I,E⟩:=mU (π:=π) l bs (upd h x (c.map (dW π))) (by simpa using hl) (fun i j n k B=>by
   have :=v (i+1) (j+1) n (by simpa using k) (by simpa using B);omega)
  constructor
  ·intro i n b k D
   cases i with
   |zero=>
    simp at k D;subst k;subst D
    simp only[c9,dB]
    rw[E x,upd_same]
    intro hm
    obtain⟨j,B⟩:=List.mem_iff_getElem?.1 hm
    have :=v 0 (j+1) x rfl (by simpa using B)
    omega
   |succ i=>simp only[c9,dB];exact I i n b (by simpa using k) (by simpa using D)
  ·intro n G
   simp only[c9,dB]
   rw[E n (fun e=>G (List.mem_cons_of_mem _ e)),bU]
   rintro rfl;exact G (List.mem_cons_self ..)
theorem eU(π:List Nat)(b:aB):(dW π b).ghost=b.ghost:=by
 cases b<;>rfl
def tK(ρ:Names)(h:ar)(π:List Nat)(b:Nat):Prop:=(∃ (i n:Nat) (x:Own),π[i]? =some n/\ρ n=some x/\0<x.R/\x.b=b)\/∃ (i n:Nat) (S:List Nat) (es:ko),π[i]? =some n/\h n=some (.fam S es)/\b∈S
noncomputable def bF(M F:aD)(ρ:Names)(h:ar)(π:List Nat)(w:World):aD:=fun b=>
 open Classical in
 if F b≠none then F b else if M b=none/\ ¬ tK ρ h π b then w.heap[b]? else none
theorem xU{P:Program}{G:Nat->SV}{f:FuncId}{args:List SV}{D:List aB}{post:SV->List (Option aB)->Prop}(hF:Spec P G f args D post)
  {M F:aD} {ρ:Names} {h:ar} {w:World} {π:List Nat} {nm:Nat} {vs:Array Value} (hG:∀ g ρ,VR M ρ (G g) (.pointer (some ⟨g,0,none⟩)))
  (hH:HR M F ρ h w) (a5:π.length=D.length) (cl:bK π=true) (et:∀ p,p∈gG π π D->h p.1=some p.2) (hu:aW D.length (D.map some)=true)
  (eu:cS D.length args=true) (ev:vs.size=args.length) (cr:∀ (i:Nat) (x:SV),args[i]? =some x->∃ u,vs[i]? =some u/\VR M ρ (du π x) u) (dj:∀ n,nm<=n->n<nm+8->ρ n=none):
  js P f vs w (fun e w'=>∃ M' aq r ae u B,e= .returned u/\B=π++ay nm (ae.length-D.length)/\M.le M'/\ρ.le aq/\(∀ n,n<nm\/nm+8<=n->aq n=ρ n)/\VR M' aq (du B r) u/\
   HR M' F aq (dB h (c9 B B ae)) w'/\bG w w'/\post r ae):=by
 have V:∀ (i:Nat) (b:aB),D[i]? =some b->∃ n,π[i]? =some n/\h n=some (dW π b):=by
  intro i b v
  obtain⟨n,E,hm⟩:=gY (π:=π) π D a5 i b v
  exact⟨n,E,et _ hm⟩
 have a4:∀ (i n:Nat),π[i]? =some n->∃ b,D[i]? =some b/\h n=some (dW π b)/\∃ x,ρ n=some x:=by
  intro i n E
  have J:i<D.length:=by rw[<-a5];exact(List.getElem?_eq_some_iff.1 E).1
  obtain⟨n',dy,v⟩:=V i _ (List.getElem?_eq_getElem J)
  rw[E]at dy;obtain rfl:=Option.some.inj dy
  obtain⟨x,I,_⟩:=hH.live n _ v
  exact⟨_,List.getElem?_eq_getElem J,v,x,I⟩
 have cw:∀ (i:Nat) (b:aB),D[i]? =some b->b.under D.length=true:=by
  have :∀ (l:List aB) (n:Nat),aW n (l.map some)=true->∀ (i:Nat) (b:aB),l[i]? =some b->b.under n=true:=by
   intro l n
   induction l with
   |nil=>intro _ i b v;simp at v
   |cons c l ih=>
    intro hl i b v
    simp[aW]at hl
    cases i with
    |zero=>simp at v;subst v;exact hl.1
    |succ i=>exact ih hl.2 i b (by simpa using v)
  exact this D _ hu
 have eL:HR M (bF M F ρ h π w) (back π ρ) (dC (D.map some)) w:=by
  have dA:∀ b,F b=none->tK ρ h π b->bF M F ρ h π w b=none:=by
   intro b v hex
   unfold bF
   rw[if_neg (by simp[v]),if_neg (fun h=>h.2 hex)]
  refine⟨hH.fT,?_,?_,?_,?_,?_⟩
  rotate_right
  ·intro i S es J
   have b2:D[i]? =some (.fam S es):=by
    have :=cj J
    simp at this;exact this
   obtain⟨n,E,v⟩:=V i _ b2
   obtain⟨x,I,g0,g1,g2,g3,g4⟩:=hH.fam n S _ v
   refine⟨x,by simp[back,E,I],g0,fun b al=>⟨(g1 b al).1,dA b (g1 b al).2.1 (.inr ⟨i,n,S,_,E,v,al⟩),(g1 b al).2.2⟩,fun p y hp hy W=>?_,fun p S' av eS hp=>?_,FR.du.1 g4⟩
   ·obtain⟨ft,cQ⟩:=Option.ne_none_iff_exists'.1 hp
    obtain⟨np,bh,bn⟩:=V p ft (by have :=cj cQ;simp at this;exact this)
    simp only[back,bh,Option.bind_some]at hy
    exact g2 np y (by rw[bn];simp) hy W
   ·obtain⟨np,bh,bn⟩:=V p _ (by have :=cj hp;simp at this;exact this)
    refine g3 np S' _ (fun e=>eS ?_) bn
    subst e
    exact ck cl p i np bh E
  ·intro b o v
   unfold bF at v
   split at v
   ·exact hH.iL b o v
   ·split at v
    ·exact v
    ·cases v
  ·intro b o v
   unfold bF at v
   split at v
   ·exact hH.j9 b o v
   ·split at v
    ·next h1=>exact h1.1
    ·cases v
  ·intro i b J
   have b2:D[i]? =some b:=by
    have :=cj J
    simp at this;exact this
   obtain⟨n,E,v⟩:=V i b b2
   obtain⟨x,I,hr⟩:=hH.live n _ v
   refine⟨x,by simp[back,E,I],?_⟩
   rcases hr with⟨h0,hg⟩|⟨h0,h1,h2,o,h3,h4⟩
   ·exact .inl ⟨h0,by rw[eU]at *;exact hg⟩
   ·exact .inr ⟨h0,h1,dA _ h2 (.inl ⟨i,n,x,E,I,h0,rfl⟩),o,h3,h4.back (by rw[a5];exact cw i b b2)⟩
  ·intro p q x y hp hq I hy a6 W v
   obtain⟨ft,cQ⟩:=Option.ne_none_iff_exists'.1 hp
   obtain⟨fz,e0⟩:=Option.ne_none_iff_exists'.1 hq
   obtain⟨np,bh,bn⟩:=V p ft (by have :=cj cQ;simp at this;exact this)
   obtain⟨nq,dD,e1⟩:=V q fz (by have :=cj e0;simp at this;exact this)
   simp only[back,bh,dD,Option.bind_some]at I hy
   have :=hH.sep np nq x y (by rw[bn];simp) (by rw[e1];simp) I hy a6 W v
   subst this
   exact ck cl p q np bh dD
 refine(hF M _ (back π ρ) vs w hG eL ev ?_ ?_).mono ?_
 ·intro i x I
  obtain⟨u,e2,hr⟩:=cr i x I
  exact⟨u,e2,hr.back x rfl (by rw[a5];exact cU _ args eu i x I)⟩
 ·intro n E
  have :π[n]? =none:=by rw[List.getElem?_eq_none_iff,a5];exact E
  simp[back,this]
 rintro e w' ⟨M',aq,r,ae,u,rfl,hM,e3,hv,X,dN,cT,hp⟩
 simp only[dY,Bool.and_eq_true]at dN
 obtain⟨hle,ca,e4,e5⟩:=dN
 have hle:=Nat.le_of_ble_eq_true hle
 have ca:=Nat.le_of_ble_eq_true ca
 obtain⟨k,hk⟩:∃ k,ae.length=D.length+k:=⟨ae.length-D.length,by omega⟩
 have e7:k<=8:=by omega
 have dO:ae.length-D.length=k:=by omega
 generalize a7:π++ay nm (ae.length-D.length)=B
 rw[dO]at a7
 have aa:B.length=ae.length:=by rw[<-a7,List.length_append,cD,a5,hk]
 have a2:∀ i,i<D.length->B[i]? =π[i]? :=fun i J=>by rw[<-a7,List.getElem?_append_left (by omega)]
 have cc:∀ j,j<k->B[D.length+j]? =some (nm+j):=fun j hj=>by
  rw[<-a7,List.getElem?_append_right (by omega),show D.length+j-π.length=j by omega,cu k nm j hj]
 let a8:Names:=fun n=>if nm<=n/\n<nm+k then aq (D.length+(n-nm))else ρ n
 have bo:∀ n,a8 n=if nm<=n/\n<nm+k then aq (D.length+(n-nm))else ρ n:=fun n=>rfl
 have ah:ρ.le a8:=by
  intro n x I
  rw[bo,if_neg]
  ·exact I
  ·rintro⟨h1,h2⟩;rw[dj n h1 (by omega)]at I;cases I
 have a3:∀ (i n:Nat),B[i]? =some n->a8 n=aq i:=by
  intro i n E
  rcases Nat.lt_or_ge i D.length with J|J
  ·rw[a2 i J]at E
   obtain⟨b,_,_,x,I⟩:=a4 i n E
   rw[ah n x I,e3 i x (by simp[back,E,I])]
  ·have a1:i<ae.length:=by rw[<-aa];exact(List.getElem?_eq_some_iff.1 E).1
   obtain⟨j,rfl⟩:∃ j,i=D.length+j:=⟨i-D.length,by omega⟩
   rw[cc j (by omega)]at E
   obtain rfl:=Option.some.inj E
   rw[bo,if_pos ⟨by omega,by omega⟩]
   congr 1;omega
 have bp:∀ i,i<ae.length->a8 (B.getD i 0)=aq i:=by
  intro i J
  refine a3 i _ ?_
  rw[List.getD_eq_getElem?_getD,List.getElem?_eq_getElem (by omega)];rfl
 have dT:∀ i j n:Nat,B[i]? =some n->B[j]? =some n->i=j:=by
  have old:∀ (i n:Nat),i<D.length->B[i]? =some n-> ¬ (nm<=n/\n<nm+k):=by
   intro i n J E ⟨h1,h2⟩
   rw[a2 i J]at E
   obtain⟨_,_,_,x,I⟩:=a4 i n E
   rw[dj n h1 (by omega)]at I;cases I
  have new:∀ (i n:Nat),D.length<=i->B[i]? =some n->n=nm+(i-D.length)/\i-D.length<k:=by
   intro i n J E
   have a1:i<ae.length:=by rw[<-aa];exact(List.getElem?_eq_some_iff.1 E).1
   obtain⟨j,rfl⟩:∃ j,i=D.length+j:=⟨i-D.length,by omega⟩
   rw[cc j (by omega)]at E
   obtain rfl:=Option.some.inj E
   exact⟨by omega,by omega⟩
  intro i j n J hj
  rcases Nat.lt_or_ge i D.length with h1|h1<;>rcases Nat.lt_or_ge j D.length with h2|h2
  ·rw[a2 i h1]at J;rw[a2 j h2]at hj;exact ck cl i j n J hj
  ·have :=new j n h2 hj;exact absurd ⟨by omega,by omega⟩ (old i n h1 J)
  ·have :=new i n h1 J;exact absurd ⟨by omega,by omega⟩ (old j n h2 hj)
  ·have a:=new i n h1 J;have b:=new j n h2 hj;omega
 obtain⟨bq,ax⟩:=mU (π:=B) B ae h aa dT
 have cV:∀ (i:Nat) (b:aB),ae[i]? =some (some b)->b.under ae.length=true:=by
  have :∀ (l:List (Option aB)) (n:Nat),aW n l=true->∀ (i:Nat) (b:aB),l[i]? =some (some b)->b.under n=true:=by
   intro l n
   induction l with
   |nil=>intro _ i b v;simp at v
   |cons c l ih=>
    intro hl i b v
    cases c with
    |none=>cases i with
     |zero=>simp at v
     |succ i=>exact ih (by simpa[aW]using hl) i b (by simpa using v)
    |some c=>
     simp[aW]at hl
     cases i with
     |zero=>simp at v;subst v;exact hl.1
     |succ i=>exact ih hl.2 i b (by simpa using v)
  exact this ae _ e5
 have br:∀ b o,F b=some o->bF M F ρ h π w b=some o:=by
  intro b o v
  unfold bF
  rw[if_pos (by simp[v])];exact v
 have dV:∀ b,bF M F ρ h π w b=none->F b=none:=by
  intro b v
  cases e:F b with
  |none=>rfl
  |some o=>rw[br b o e]at v;cases v
 have a0:∀ n blk x,n∉B->h n=some blk->ρ n=some x->0<x.R->∃ obj,w.heap[x.b]? =some obj/\bF M F ρ h π w x.b=some obj/\BR M ρ x blk obj:=by
  intro n blk x E v I h0
  obtain⟨x',ea,hr⟩:=hH.live n blk v
  rw[I]at ea;obtain rfl:=Option.some.inj ea
  rcases hr with⟨ed,_⟩|⟨_,h1,h2,o,h3,h4⟩
  ·omega
  ·refine⟨o,h3,?_,h4⟩
   unfold bF
   rw[if_neg (by simp[h2]),if_pos ?_]
   ·exact h3
   ·refine⟨h1,?_⟩
    rintro(⟨i,m,y,hm,hy,c0,c1⟩|⟨i,m,S,es,hm,c5,al⟩)
    ·obtain⟨b,_,ba,_⟩:=a4 i m hm
     have :=hH.sep n m x y (by rw[v];simp) (by rw[ba];simp) I hy h0 c0 c1.symm
     subst this
     have J:i<D.length:=by rw[<-a5];exact(List.getElem?_eq_some_iff.1 hm).1
     exact E (List.mem_iff_getElem?.2 ⟨i,by rw[a2 i J];exact hm⟩)
    ·obtain⟨_,_,_,_,g2,_⟩:=hH.fam m S es c5
     exact g2 n x (by rw[v];simp) I h0 al
 have Y:∀ n S es,n∉B->h n=some (.fam S es)->∀ b,b∈S->∃ obj,w.heap[b]? =some obj/\bF M F ρ h π w b=some obj:=by
  intro n S es E v b al
  obtain⟨x,I,g0,g1,g2,g3,_⟩:=hH.fam n S es v
  obtain⟨k1,k2,k3⟩:=g1 b al
  refine⟨_,Array.getElem?_eq_getElem k3,?_⟩
  unfold bF
  rw[if_neg (by simp[k2]),if_pos ?_]
  ·exact Array.getElem?_eq_getElem k3
  ·refine⟨k1,?_⟩
   rintro(⟨i,m,y,hm,hy,c0,c1⟩|⟨i,m,S',av,hm,c5,ei⟩)
   ·obtain⟨b',_,ba,_⟩:=a4 i m hm
    refine g2 m y (by rw[ba];simp) hy c0 ?_
    rw[c1];exact al
   ·by_cases e:m=n
    ·subst e
     have J:i<D.length:=by rw[<-a5];exact(List.getElem?_eq_some_iff.1 hm).1
     exact E (List.mem_iff_getElem?.2 ⟨i,by rw[a2 i J];exact hm⟩)
    ·exact g3 m S' av e c5 b al ei
 refine⟨M',a8,r,ae,u,B,rfl,by rw[dO,a7],hM,ah,?_,hv.fwd bp e4,⟨X.fT,fun b o v=>X.iL b o (br b o v),fun b o v=>X.j9 b o (br b o v),?_,?_,?_⟩,cT,hp⟩
 ·intro n E
  rw[bo,if_neg (by omega)]
 rotate_right
 ·
  have inside:∀ (n i:Nat),B[i]? =some n->∀ blk,dB h (c9 B B ae) n=some blk->∃ b,dC ae i=some b/\blk=dW B b:=by
   intro n i J blk E
   have a1:i<ae.length:=by rw[<-aa];exact(List.getElem?_eq_some_iff.1 J).1
   have v:=bq i n _ J (List.getElem?_eq_getElem a1)
   rw[E]at v
   cases e:ae[i]with
   |none=>rw[e]at v;cases v
   |some b=>
    rw[e]at v
    refine⟨b,?_,by simpa using v⟩
    unfold dC;rw[List.getD_eq_getElem?_getD,List.getElem?_eq_getElem a1,e];rfl
  have c6:∀ (n i:Nat) S es,B[i]? =some n->dB h (c9 B B ae) n=some (.fam S es)->∃ av,dC ae i=some (.fam S av)/\es=⟨av.es,tI B av.op,av.ly⟩:=by
   intro n i S es J E
   obtain⟨b,v,e⟩:=inside n i J _ E
   obtain⟨av,rfl,he⟩:=vu e.symm
   exact⟨av,v,he⟩
  have e6:∀ (i:Nat) S es b,dC ae i=some (.fam S es)->b∈S->bF M F ρ h π w b=none:=by
   intro i S es b J v
   obtain⟨_,_,_,g1,_⟩:=X.fam i S es J
   exact(g1 b v).2.1
  intro n S es E
  by_cases O:n∈B
  ·obtain⟨i,J⟩:=List.mem_iff_getElem?.1 O
   obtain⟨av,bl,rfl⟩:=c6 n i S es J E
   obtain⟨x,I,g0,g1,g2,g3,g4⟩:=X.fam i S av bl
   refine⟨x,by rw[a3 i n J];exact I,g0,fun b v=>⟨(g1 b v).1,dV _ (g1 b v).2.1,(g1 b v).2.2⟩,fun m y hm hy W=>?_,fun m S2 bu df hm b v=>?_,FR.du.2 g4⟩
   ·by_cases hm2:m∈B
    ·obtain⟨j,hj⟩:=List.mem_iff_getElem?.1 hm2
     obtain⟨blk,U⟩:=Option.ne_none_iff_exists'.1 hm
     obtain⟨b,v,_⟩:=inside m j hj _ U
     exact g2 j y (by rw[v];simp) (by rw[<-a3 j m hj];exact hy) W
    ·rw[ax m hm2]at hm
     obtain⟨blk,U⟩:=Option.ne_none_iff_exists'.1 hm
     obtain⟨y',bc,_⟩:=hH.live m blk U
     have :=ah m y' bc
     rw[hy]at this;obtain rfl:=Option.some.inj this
     obtain⟨obj,_,k2,_⟩:=a0 m blk y hm2 U bc W
     intro v
     rw[(g1 _ v).2.1]at k2;cases k2
   ·by_cases hm2:m∈B
    ·obtain⟨j,hj⟩:=List.mem_iff_getElem?.1 hm2
     obtain⟨di,bx,_⟩:=c6 m j S2 bu hj hm
     exact g3 j S2 di (fun e=>df (by subst e;rw[J]at hj;exact(Option.some.inj hj).symm)) bx b v
    ·rw[ax m hm2]at hm
     intro ba
     obtain⟨obj,_,k2⟩:=Y m S2 bu hm2 hm b ba
     rw[(g1 _ v).2.1]at k2;cases k2
  ·rw[ax n O]at E
   obtain⟨x,I,g0,g1,g2,g3,g4⟩:=hH.fam n S es E
   obtain⟨xo,_,en,_⟩:=a0 n _ x O E I g0
   refine⟨x,ah n x I,g0,fun b v=>?_,fun m y hm hy W=>?_,fun m S2 bu df hm b v=>?_,g4.last hM (fun c hc=>?_)⟩
   ·obtain⟨obj,k1,k2⟩:=Y n S es O E b v
    exact⟨X.j9 _ _ k2,(g1 b v).2.1,(Array.getElem?_eq_some_iff.1 (X.iL _ _ k2)).1⟩
   ·by_cases hm2:m∈B
    ·obtain⟨j,hj⟩:=List.mem_iff_getElem?.1 hm2
     obtain⟨blk,U⟩:=Option.ne_none_iff_exists'.1 hm
     obtain⟨b,v,_⟩:=inside m j hj _ U
     obtain⟨y',bc,hr⟩:=X.live j b v
     have :=a3 j m hj
     rw[hy,bc]at this;obtain rfl:=Option.some.inj this
     intro al
     obtain⟨obj,_,k2⟩:=Y n S es O E _ al
     rcases hr with⟨ed,_⟩|⟨_,_,k3,_⟩
     ·omega
     ·rw[k3]at k2;cases k2
    ·rw[ax m hm2]at hm
     obtain⟨blk,U⟩:=Option.ne_none_iff_exists'.1 hm
     obtain⟨y',bc,_⟩:=hH.live m blk U
     have :=ah m y' bc
     rw[hy]at this;obtain rfl:=Option.some.inj this
     exact g2 m y hm bc W
   ·by_cases hm2:m∈B
    ·obtain⟨j,hj⟩:=List.mem_iff_getElem?.1 hm2
     obtain⟨di,bx,_⟩:=c6 m j S2 bu hj hm
     intro ba
     obtain⟨obj,_,k2⟩:=Y n S es O E b v
     rw[e6 j S2 di b bx ba]at k2;cases k2
    ·rw[ax m hm2]at hm
     exact g3 m S2 bu df hm b v
   ·rcases hc with rfl|hc
    ·rw[X.iL _ _ en]
     obtain⟨obj,k1,k2,_⟩:=a0 n _ x O E I g0
     rw[en]at k2;obtain rfl:=Option.some.inj k2
     exact k1.symm
    ·obtain⟨obj,k1,k2⟩:=Y n S es O E c hc
     rw[X.iL _ _ k2,k1]
 ·intro n blk E
  by_cases O:n∈B
  ·obtain⟨i,J⟩:=List.mem_iff_getElem?.1 O
   have a1:i<ae.length:=by rw[<-aa];exact(List.getElem?_eq_some_iff.1 J).1
   have v:=bq i n _ J (List.getElem?_eq_getElem a1)
   rw[E]at v
   cases e:ae[i]with
   |none=>rw[e]at v;cases v
   |some b=>
    rw[e]at v
    obtain rfl:blk=dW B b:=by simpa using v
    have eo:ae[i]? =some (some b):=by rw[List.getElem?_eq_getElem a1,e]
    have bl:dC ae i=some b:=by unfold dC;rw[List.getD_eq_getElem?_getD,eo];rfl
    obtain⟨x,I,hr⟩:=X.live i b bl
    refine⟨x,by rw[a3 i n J];exact I,?_⟩
    rcases hr with⟨h0,hg⟩|⟨h0,h1,h2,o,h3,h4⟩
    ·exact .inl ⟨h0,by rw[eU]at *;exact hg⟩
    ·exact .inr ⟨h0,h1,dV _ h2,o,h3,h4.fwd bp (cV i b eo)⟩
  ·rw[ax n O]at E
   obtain⟨x,I,hr⟩:=hH.live n blk E
   refine⟨x,ah n x I,?_⟩
   rcases hr with hr|⟨h0,h1,h2,_,_,_⟩
   ·exact .inl hr
   ·obtain⟨obj,_,g2,g3⟩:=a0 n blk x O E I h0
    exact .inr ⟨h0,X.j9 _ _ g2,h2,obj,X.iL _ _ g2,g3.mono hM ah⟩
 ·intro p q x y hp hq I hy a6 W v
  have inside:∀ (n i:Nat) (z:Own),B[i]? =some n->dB h (c9 B B ae) n≠none->a8 n=some z->0<z.R->dC ae i≠none/\aq i=some z/\bF M F ρ h π w z.b=none:=by
   intro n i z J b1 hz h0
   have a1:i<ae.length:=by rw[<-aa];exact(List.getElem?_eq_some_iff.1 J).1
   have v:=bq i n _ J (List.getElem?_eq_getElem a1)
   have ep:aq i=some z:=by rw[<-a3 i n J];exact hz
   cases e:ae[i]with
   |none=>rw[e]at v;exact absurd v b1
   |some b=>
    have bl:dC ae i=some b:=by unfold dC;rw[List.getD_eq_getElem?_getD,List.getElem?_eq_getElem a1,e];rfl
    obtain⟨x,I,hr⟩:=X.live i b bl
    rw[ep]at I;obtain rfl:=Option.some.inj I
    rcases hr with⟨ed,_⟩|⟨_,_,h2,_⟩
    ·omega
    ·exact⟨by rw[bl];simp,ep,h2⟩
  have outside:∀ (n:Nat) (z:Own),n∉B->dB h (c9 B B ae) n≠none->a8 n=some z->0<z.R->h n≠none/\ρ n=some z/\bF M F ρ h π w z.b≠none:=by
   intro n z E b1 hz h0
   rw[ax n E]at b1
   obtain⟨blk,U⟩:=Option.ne_none_iff_exists'.1 b1
   obtain⟨x,I,_⟩:=hH.live n blk U
   have :=ah n x I
   rw[hz]at this;obtain rfl:=Option.some.inj this
   obtain⟨obj,_,g2,_⟩:=a0 n blk _ E U I h0
   exact⟨b1,I,by rw[g2];simp⟩
  by_cases b3:p∈B<;>by_cases b4:q∈B
  ·obtain⟨i,J⟩:=List.mem_iff_getElem?.1 b3
   obtain⟨j,hj⟩:=List.mem_iff_getElem?.1 b4
   obtain⟨fc,fo,fp⟩:=inside p i x J hp I a6
   obtain⟨fr,fs,fa⟩:=inside q j y hj hq hy W
   have :=X.sep i j x y fc fr fo fs a6 W v
   subst this
   rw[J]at hj;exact Option.some.inj hj
  ·obtain⟨i,J⟩:=List.mem_iff_getElem?.1 b3
   obtain⟨fc,fo,fp⟩:=inside p i x J hp I a6
   obtain⟨fr,fs,fa⟩:=outside q y b4 hq hy W
   rw[<-v]at fa;exact absurd fp fa
  ·obtain⟨j,hj⟩:=List.mem_iff_getElem?.1 b4
   obtain⟨fc,fo,fp⟩:=inside q j y hj hq hy W
   obtain⟨fr,fs,fa⟩:=outside p x b3 hp I a6
   rw[v]at fa;exact absurd fp fa
  ·obtain⟨fc,fo,fp⟩:=outside p x b3 hp I a6
   obtain⟨fr,fs,fa⟩:=outside q y b4 hq hy W
   exact hH.sep p q x y fc fr fo fs a6 W v
abbrev Out:=Prop×List (Nat×aB)×SV×List (Nat×Option aB)
def Sound(C:Ctx)(o:Oper)(nm:Nat)(v:Operand->SV)(h:ar)(x:Out):Prop:=
 x.1->bV C o nm v x.2.1 (fun u wr=>u=x.2.2.1/\wr=x.2.2.2)/\(∀ p,p∈x.2.1->h p.1=some p.2)/\cC x.2.1 nm x.2.2.2=true
theorem dn{C:Ctx}{o:Oper}{nm:Nat}{v:Operand->SV}{bs:List (Nat×aB)}{u:SV}{wr:List (Nat×Option aB)}
  (H:∀ (M F:aD) (ρ:Names) (a:Act) (h:ar) (w:World),(∀ x,x∈o.op.operands->VR M ρ (v x) (a.eval x))->HR M F ρ h w->(∀ p,p∈bs->h p.1=some p.2)->(∀ n,nm<=n->n<nm+8->ρ n=none)->
   ∃ aq u' w',ρ.le aq/\(∀ n,n<nm\/nm+8<=n->aq n=ρ n)/\(execOp a.eval o).run C.P w= .ok (.value u') w'/\VR M aq u u'/\HR M F aq (dB h wr) w'/\bG w w'):
  bV C o nm v bs (fun x y=>x=u/\y=wr):=by
 intro M F ρ a h w k V B b e K Q D
 obtain⟨aq,u',w',E,G,I,J,O,U⟩:=H M F ρ a h w k B b e
 unfold Cr
 rw[I]
 exact D M aq u wr u' w' (aD.le_refl _) E G ⟨rfl,rfl⟩ J O U
theorem zn{C:Ctx}{o:Oper}{nm:Nat}{v:Operand->SV}{bs:List (Nat×aB)}{wr:List (Nat×Option aB)}
  (H:∀ (M F:aD) (ρ:Names) (a:Act) (h:ar) (w:World),(∀ x,x∈o.op.operands->VR M ρ (v x) (a.eval x))->HR M F ρ h w->(∀ p,p∈bs->h p.1=some p.2)->(∀ n,nm<=n->n<nm+8->ρ n=none)->
   ∃ aq w',ρ.le aq/\(∀ n,n<nm\/nm+8<=n->aq n=ρ n)/\(execOp a.eval o).run C.P w= .ok .skip w'/\HR M F aq (dB h wr) w'/\bG w w'):
  bV C o nm v bs (fun x y=>x= .any/\y=wr):=by
 intro M F ρ a h w k U B b e K Q D
 obtain⟨aq,w',E,G,I,J,O⟩:=H M F ρ a h w k B b e
 unfold Cr
 rw[I]
 exact D M aq .any wr undef w' (aD.le_refl _) E G ⟨rfl,rfl⟩ (.any _) J O
theorem aJ{C:Ctx}{o:Oper}{nm:Nat}{v:Operand->SV}{bs:List (Nat×aB)}{u:SV}
  (H:∀ (M F:aD) (ρ:Names) (a:Act) (h:ar) (w:World),(∀ x,x∈o.op.operands->VR M ρ (v x) (a.eval x))->HR M F ρ h w->(∀ p,p∈bs->h p.1=some p.2)->∃ u',(execOp a.eval o).run C.P w= .ok (.value u') w/\VR M ρ u u'):
  bV C o nm v bs (fun x y=>x=u/\y= []):=
 dn fun M F ρ a h w k e b _=>let⟨u',B,D⟩:=H M F ρ a h w k e b;⟨ρ,u',w,Names.le_refl _,fun _ _=>rfl,B,D,e, .refl _⟩
def Ft{α:Type}(P:Program):Sem α->Option α
 | .pure a=>some a
 | .program k=>Ft P (k P)
 |_=>none
theorem tL{α:Type}{P:Program}{s:Sem α}{a:α}(h:Ft P s=some a)(w:World):s.run P w= .ok a w:=by
 induction s with
 |pure b=>simp[Ft]at h;subst h;rfl
 |program k ih=>simp only[Ft]at h;simp only[Sem.run];exact ih P h
 |_=>simp[Ft]at h
def valOf:SV->Option Value
 | .d (.val u)=>some u
 |_=>none
def tM(v:Operand->SV):List Operand->Bool
 | []=>true
 |x::r=>(valOf (v x)).isSome&&tM v r
def vB(v:Operand->SV)(x:Operand):Value:=(valOf (v x)).getD undef
def qc:Op->Bool
 | .select .. =>true
 |_=>false
def sg(P:Program)(o:Oper)(v:Operand->SV):Option Out:=
 if qc o.op then none else
 if tM v o.op.operands.toList then
  match Ft P (execOp (vB v) o)with
  |some (.value r)=>if r.oneCell' then some (True,[], .d (.val r),[])else none
  |_=>none
 else none
theorem lZ{v:Operand->SV}:∀ {l:List Operand},tM v l=true->∀ x,x∈l->∃ u,v x= .d (.val u)
 | [],_,x,h=>by cases h
 |y::r,h,x,b=>by
  simp only[tM,Bool.and_eq_true]at h
  rcases List.mem_cons.1 b with rfl|b
  ·cases e:v x with
   |d z=>cases z<;>simp_all[valOf]
   |_=>simp[e,valOf]at h
  ·exact lZ h.2 x b
theorem vC{C:Ctx}{o:Oper}{nm:Nat}{v:Operand->SV}{h:ar}{x:Out}(e:sg C.P o v=some x):Sound C o nm v h x:=by
 unfold sg at e
 split at e
 ·cases e
 next k=>
 split at e
 next B=>
  split at e
  next r I=>
   split at e
   next J=>
    cases e
    intro _
    refine⟨aJ fun M F ρ a h w O W _=>⟨r,?_, .d _ _ (.val _ J)⟩,fun p U=>by simp at U,rfl⟩
    have V:execOp (vB v) o=execOp a.eval o:=by
     refine execOp_congr o (fun cs b D=>by simp[D,qc]at k) fun y E=>?_
     obtain⟨u,G⟩:=lZ B y (Array.mem_toList_iff.2 E)
     have :=O y E
     rw[G]at this
     rw[this.val]
     simp[vB,G,valOf]
    rw[<-V]
    exact tL I w
   ·cases e
  ·cases e
 ·cases e
def rowAt(f:Nat->Nat->D)(i:Nat):Nat->Nat->List SV
 |_,0=> []
 |c,n+1=> .d (f i c)::rowAt f i (c+1) n
theorem jw(f:Nat->Nat->D)(i:Nat):∀ n c,(rowAt f i c n).length=n
 |0,c=>rfl
 |n+1,c=>by simp[rowAt,jw f i n (c+1)]
theorem nX(f:Nat->Nat->D)(i:Nat):∀ n c j s,(rowAt f i c n)[j]? =some s->j<n/\s= .d (f i (c+j))
 |0,c,j,s,h=>by simp[rowAt]at h
 |n+1,c,0,s,h=>by simp[rowAt]at h;exact⟨by omega,h.symm⟩
 |n+1,c,j+1,s,h=>by
  simp[rowAt]at h
  obtain⟨e,b⟩:=nX f i n (c+1) j s h
  exact⟨by omega,by rw[b,show c+1+j=c+(j+1) by omega]⟩
def lu(a:SV)(h:ar)(n:Nat):Option (Prop×List (Nat×aB)×List SV):=
 match a with
 | .ptr m i c=>
  match h m with
  |some (.cells ty k xs)=>if Nat.beq ((xs.drop (i*k+c)).take n).length n then some (True,[(m, .cells ty k xs)],(xs.drop (i*k+c)).take n)else none
  |some (.rows ty k len f)=>if Nat.ble (c+n) k then some (i<len,[(m, .rows ty k len f)],rowAt f i c n)else none
  |_=>none
 | .vp k len f i c=>if Nat.ble (c+n) k then some (i<len,[],rowAt f i c n)else none
 |_=>none
theorem HR.cells{M F:aD}{ρ:Names}{h:ar}{w:World}(H:HR M F ρ h w){n:Nat}{ty k:Nat}{xs:List SV}(D:h n=some (.cells ty k xs)){x:Own}(E:ρ n=some x):
  ∃ cur,w.heap[x.b]? =some (.cells cur ty (0,0))/\0<x.R/\x.k=k/\cur.size=x.R*k/\xs.length<=cur.size/\∀ (j:Nat) (s:SV),xs[j]? =some s->∃ v,cur[j]? =some v/\VR M ρ s v:=by
 obtain⟨U,e,G⟩:=H.live n _ D
 rw[E]at e;obtain rfl:=Option.some.inj e
 rcases G with⟨_,I⟩|⟨J,_,_,o,O,B⟩
 ·simp[aB.ghost]at I
 ·cases o with
  |cells cur T fz=>obtain⟨rfl,rfl,rest⟩:=B;exact⟨cur,O,J,rest⟩
  |_=>exact B.elim
theorem HR.rows{M F:aD}{ρ:Names}{h:ar}{w:World}(H:HR M F ρ h w){n:Nat}{ty k len:Nat}{f:Nat->Nat->D}(E:h n=some (.rows ty k len f))(hl:0<len){x:Own}(G:ρ n=some x):
  ∃ cur,w.heap[x.b]? =some (.cells cur ty (0,0))/\0<x.R/\x.k=k/\cur.size=x.R*k/\len<=x.R/\∀ i c,i<len->c<k->∃ v,cur[i*k+c]? =some v/\DR M (f i c) v:=by
 obtain⟨U,e,I⟩:=H.live n _ E
 rw[G]at e;obtain rfl:=Option.some.inj e
 rcases I with⟨_,V⟩|⟨J,_,_,o,O,B⟩
 ·cases len<;>simp_all[aB.ghost]
 ·cases o with
  |cells cur T fz=>obtain⟨rfl,rfl,rest⟩:=B;exact⟨cur,O,J,rest⟩
  |_=>exact B.elim
theorem qd{a:SV}{h0:ar}{n:Nat}{vc:Prop}{bs:List (Nat×aB)}{V:List SV}(e:lu a h0 n=some (vc,bs,V))(E:vc):
  (∀ p,p∈bs->h0 p.1=some p.2)/\V.length=n/\∀ (M F:aD) (ρ:Names) (h:ar) (w:World) (I:Value),VR M ρ a I->HR M F ρ h w->(∀ p,p∈bs->h p.1=some p.2)->
   ∃ b off,I= .pointer (some ⟨b,off,none⟩)/\∀ (j:Nat) (s:SV),V[j]? =some s->∃ v,w.cell? ⟨b,off+j,none⟩=some v/\VR M ρ s v:=by
 unfold lu at e
 split at e
 ·next m i c=>
  split at e
  ·next ty k xs hm=>
   split at e
   ·next hl=>
    cases e
    have hl:=Nat.eq_of_beq_eq_true hl
    refine⟨fun p G=>by simp at G;subst G;exact hm,hl,fun M F ρ h w I J O B=>?_⟩
    cases J with
    |ptr _ _ _ x W=>
     obtain⟨cur,X,h2,Y,h4,h5,h6⟩:=O.cells (B _ (List.mem_singleton.2 rfl)) W
     refine⟨x.b,i*x.k+c,rfl,fun j s D=>?_⟩
     rw[cell_of_row w x.b _ cur ty (0,0) X,Y]
     rw[List.getElem?_take]at D
     split at D
     ·rw[List.getElem?_drop]at D
      exact h6 _ s D
     ·cases D
   ·cases e
  ·next ty k len f hm=>
   split at e
   ·next U=>
    cases e
    have U:=Nat.le_of_ble_eq_true U
    refine⟨fun p G=>by simp at G;subst G;exact hm,jw ..,fun M F ρ h w I J O B=>?_⟩
    cases J with
    |ptr _ _ _ x W=>
     obtain⟨cur,X,h2,Y,h4,h5,h6⟩:=O.rows (B _ (List.mem_singleton.2 rfl)) (by omega) W
     refine⟨x.b,i*x.k+c,rfl,fun j s D=>?_⟩
     obtain⟨aa,rfl⟩:=nX f i n c j s D
     rw[cell_of_row w x.b _ cur ty (0,0) X,Y]
     obtain⟨v,ah,al⟩:=h6 i (c+j) E (by omega)
     exact⟨v,by rw[<-ah];congr 1;omega, .d _ _ al⟩
   ·cases e
  ·cases e
 ·next k len f i c=>
  split at e
  ·next U=>
   cases e
   have U:=Nat.le_of_ble_eq_true U
   refine⟨fun p G=>by simp at G,jw ..,fun M F ρ h w I J O B=>?_⟩
   cases J with
   |vp _ _ _ _ _ b o cur T fz g hb hg hr=>
    refine⟨b,o+i*k+c,rfl,fun j s D=>?_⟩
    obtain⟨aa,rfl⟩:=nX f i n c j s D
    have :=O.fT b _ hb
    rw[cell_of_row w b _ cur T fz this]
    exact⟨g i (c+j),by rw[<-hg i (c+j) E (by omega)];congr 1;omega, .d _ _ (hr i (c+j) E (by omega))⟩
  ·cases e
 ·cases e
def eV(P:Program)(t:TypeId):Option Bool:=
 match P.underlying t with
 |some (.struct _)|some (.array _ _)=>some true
 |some _=>some false
 |none=>none
theorem ew{P:Program}{t:TypeId}{b:Bool}(h:eV P t=some b)(w:World):(isAgg t).run P w= .ok b w:=by
 unfold eV at h
 cases e:P.underlying t with
 |none=>rw[e]at h;cases h
 |some d=>cases d<;>rw[e]at h<;>cases h<;>simp[isAgg,run_underlying e]
def si(P:Program)(t:TypeId)(a:SV)(h:ar):Option (Prop×List (Nat×aB)×SV):=
 match eV P t with
 |some true=>
  match P.info? t with
  |some i=>match lu a h i.size with
   |some (vc,bs,ys)=>some (vc,bs, .agg ys)
   |none=>none
  |none=>none
 |some false=>match lu a h 1 with
  |some (vc,bs,[y])=>some (vc,bs,y)
  |_=>none
 |none=>none
theorem qf{P:Program}{t:TypeId}{a:SV}{h0:ar}{vc:Prop}{bs:List (Nat×aB)}{u:SV}(e:si P t a h0=some (vc,bs,u))(J:vc):
  (∀ p,p∈bs->h0 p.1=some p.2)/\∀ (M F:aD) (ρ:Names) (h:ar) (w:World) (G:Value),VR M ρ a G->HR M F ρ h w->(∀ p,p∈bs->h p.1=some p.2)->
   ∃ v,(Instr.loadAt t G).run P w= .ok v w/\(∃ ad,G= .pointer (some ad)/\(loadVar t ad).run P w= .ok v w)/\VR M ρ u v:=by
 unfold si at e
 split at e
 ·next D=>
  split at e
  ·next inf O=>
   split at e
   ·next W X Y hc=>
    cases e
    obtain⟨h1,h2,h3⟩:=qd hc J
    refine⟨h1,fun M F ρ h w G hv hH I=>?_⟩
    obtain⟨b,off,rfl,k⟩:=h3 M F ρ h w G hv hH I
    have hg:∀ j,j<inf.size->∃ v,w.cell? ⟨b,off+j,none⟩=some v/\∀ s,Y[j]? =some s->VR M ρ s v:=by
     intro j V
     have :Y[j]? =some (Y[j]'(by omega)):=List.getElem?_eq_getElem _
     obtain⟨v,E,U⟩:=k j _ this
     exact⟨v,E,fun s hs=>by rw[this]at hs;cases hs;exact U⟩
    let g:Nat->Value:=fun j=>(w.cell? ⟨b,off+j,none⟩).getD undef
    have aa:∀ j,j<inf.size->w.cell? ⟨b,off+j,none⟩=some (g j):=by
     intro j V
     obtain⟨v,E,_⟩:=hg j V
     simp[g,E]
    have hl:=run_loadCells (P:=P) w ⟨b,off,none⟩ inf.size g (fun j V=>by rw[Addr.add_lit];exact aa j V)
    have B:(loadVar t ⟨b,off,none⟩).run P w= .ok (.agg ((List.range inf.size).map g).toArray) w:=by
     simp[loadVar,ew D,sizeOf,typeInfo,O,hl]
    refine⟨_,by simp[Instr.loadAt,Instr.sureAddr,B],⟨_,rfl,B⟩, .zm _ _ (by simp[h2]) fun i x hx=>?_⟩
    have hi:i<inf.size:=by rw[<-h2];exact(List.getElem?_eq_some_iff.1 hx).1
    obtain⟨v,E,U⟩:=hg i hi
    refine⟨v,?_,U x hx⟩
    simp[hi,g,E]
   ·cases e
  ·cases e
 ·next D=>
  split at e
  ·next W X y hc=>
   cases e
   obtain⟨h1,h2,h3⟩:=qd hc J
   refine⟨h1,fun M F ρ h w G hv hH I=>?_⟩
   obtain⟨b,off,rfl,k⟩:=h3 M F ρ h w G hv hH I
   obtain⟨v,E,U⟩:=k 0 u rfl
   rw[Nat.add_zero]at E
   have B:(loadVar t ⟨b,off,none⟩).run P w= .ok v w:=by
    simp[loadVar,ew D,E]
   exact⟨v,by simp[Instr.loadAt,Instr.sureAddr,B],⟨_,rfl,B⟩,U⟩
  ·cases e
 ·cases e
def flat:SV->Option (List SV)
 | .agg xs=>some xs
 | .any| .bA _=>none
 |x=>some [x]
def jx:List SV->Bool
 | []=>true
 |x::r=>x.one&&jx r
theorem l4:∀ {xs:List SV},jx xs=true->∀ (i:Nat) (x:SV),xs[i]? =some x->x.one=true
 | [],_,i,x,h=>by simp at h
 |y::r,h,0,x,hx=>by simp[jx]at h hx;subst hx;exact h.1
 |y::r,h,i+1,x,hx=>by simp[jx]at h hx;exact l4 h.2 i x hx
theorem tN{M:aD}{ρ:Names}{x:SV}{v:Value}{B:List SV}(h:VR M ρ x v)(e:flat x=some B)(X:jx B=true):
  v.cells.size=B.length/\(∀ (i:Nat) (y:SV),B[i]? =some y->∃ u,v.cells[i]? =some u/\VR M ρ y u)/\∀ u,u∈v.cells.toList->u.oneCell'=true:=by
 have key:∀ (vs:Array Value),vs.size=B.length->(∀ (i:Nat) (y:SV),B[i]? =some y->∃ u,vs[i]? =some u/\VR M ρ y u)->∀ u,u∈vs.toList->u.oneCell'=true:=by
  intro vs G D u Y
  obtain⟨i,V⟩:=List.mem_iff_getElem?.1 Y
  have I:i<B.length:=by rw[<-G,<-Array.length_toList];exact(List.getElem?_eq_some_iff.1 V).1
  obtain⟨u',W,k2⟩:=D i _ (List.getElem?_eq_getElem I)
  rw[Array.getElem?_toList]at V
  rw[V]at W;cases W
  exact k2.one (l4 X i _ (List.getElem?_eq_getElem I))
 have single:∀ (z:SV),B= [z]->v.cells= #[v]->VR M ρ z v->v.cells.size=B.length/\(∀ (i:Nat) (y:SV),B[i]? =some y->∃ u,v.cells[i]? =some u/\VR M ρ y u)/\∀ u,u∈v.cells.toList->u.oneCell'=true:=by
  intro z O U D
  have a:v.cells.size=B.length:=by rw[O,U];rfl
  have b:∀ (i:Nat) (y:SV),B[i]? =some y->∃ u,v.cells[i]? =some u/\VR M ρ y u:=by
   intro i y E
   rw[O]at E
   cases i with
   |zero=>simp at E;subst E;exact⟨v,by rw[U];rfl,D⟩
   |succ i=>simp at E
  exact⟨a,b,key _ a b⟩
 cases h with
 |any=>cases e
 |d z v hd=>cases e;exact single _ rfl (by have :=hd.one;cases v<;>first|rfl|(simp[Value.oneCell']at this)) (.d _ _ hd)
 |vp k len f i c b o cur T fz g hb J D=>cases e;exact single _ rfl rfl (.vp _ _ _ _ _ b o cur T fz g hb J D)
 |ptr n i c x h=>cases e;exact single _ rfl rfl (.ptr _ _ _ _ h)
 |sl n o len x h hl hR h0=>cases e;exact single _ rfl rfl (.sl _ _ _ _ h hl hR h0)
 |jo n o x h hR a=>cases e;exact single _ rfl rfl (.jo _ _ _ h hR _)
 |cs n c len x cap h U=>cases e;exact single _ rfl rfl (.cs _ _ _ _ _ h U)
 |Fb n x h=>cases e;exact single _ rfl rfl (.Fb _ _ h)
 |Ff n=>cases e;exact single _ rfl rfl (.Ff _)
 |map n x h=>cases e;exact single _ rfl rfl (.map _ _ h)
 |fn f aZ vs g G J D=>cases e;exact single _ rfl rfl (.fn _ _ _ g G J D)
 |agg xs vs g G J D=>
  cases e
  have b:∀ (i:Nat) (y:SV),B[i]? =some y->∃ u,vs[i]? =some u/\VR M ρ y u:=fun i y E=>⟨g i,J i (List.getElem?_eq_some_iff.1 E).1,D i y E⟩
  exact⟨G,b,key vs G b⟩
 |bA=>cases e
 |iface t z v O=>cases e;exact single _ rfl rfl (.iface _ _ _ O)
def tO:List SV->Option (List D)
 | []=>some []
 | .d x::r=>(tO r).map (x:: ·)
 |_=>none
def pz(f:Nat->Nat->D)(i c:Nat)(ds:List D):Nat->Nat->D:=fun e b=>
 if e=i/\c<=b/\b<c+ds.length then ds.getD (b-c) .any else f e b
theorem tP:∀ {e:List SV} {ds:List D},tO e=some ds->ds.length=e.length/\∀ (j:Nat) (x:D),ds[j]? =some x->e[j]? =some (.d x)
 | [],ds,h=>by simp[tO]at h;subst h;simp
 | .d x::r,ds,h=>by
  simp only[tO,Option.map_eq_some_iff]at h
  obtain⟨k,v,rfl⟩:=h
  obtain⟨B,E⟩:=tP v
  refine⟨by simp[B],fun j y b=>?_⟩
  cases j with
  |zero=>simp at b;subst b;rfl
  |succ j=>simp at b ⊢;exact E j y b
 | .any::r,ds,h=>by simp[tO]at h
 | .vp .. ::r,ds,h=>by simp[tO]at h
 | .ptr .. ::r,ds,h=>by simp[tO]at h
 | .sl .. ::r,ds,h=>by simp[tO]at h
 | .cs .. ::r,ds,h=>by simp[tO]at h
 | .op .. ::r,ds,h=>by simp[tO]at h
 | .map .. ::r,ds,h=>by simp[tO]at h
 | .fn .. ::r,ds,h=>by simp[tO]at h
 | .agg .. ::r,ds,h=>by simp[tO]at h
 | .bA .. ::r,ds,h=>by simp[tO]at h
 | .iface .. ::r,ds,h=>by simp[tO]at h
def kx(a:SV)(b:List SV)(h:ar):Option (Prop×List (Nat×aB)×List (Nat×Option aB)):=
 match a with
 | .ptr m i c=>
  match h m with
  |some (.cells ty k xs)=>
   if Nat.ble (i*k+c+b.length) xs.length then some (True,[(m, .cells ty k xs)],[(m,some (.cells ty k (xs.take (i*k+c)++b++xs.drop (i*k+c+b.length))))])else none
  |some (.rows ty k len f)=>
   if Nat.ble (c+b.length) k then
    match tO b with
    |some ds=>some (i<len,[(m, .rows ty k len f)],[(m,some (.rows ty k len (pz f i c ds)))])
    |none=>none
   else none
  |_=>none
 |_=>none
theorem lx{α:Type}(l vs:List α)(o j:Nat)(h:o+vs.length<=l.length):(l.take o++vs++l.drop (o+vs.length))[j]? =if j<o then l[j]? else if j<o+vs.length then vs[j-o]? else l[j]? :=by
 have b:(l.take o).length=o:=by rw[List.length_take];omega
 by_cases e:j<o
 ·rw[if_pos e,List.append_assoc,List.getElem?_append_left (by omega),List.getElem?_take,if_pos e]
 ·rw[if_neg e]
  by_cases k:j<o+vs.length
  ·rw[if_pos k,List.append_assoc,List.getElem?_append_right (by omega),b,List.getElem?_append_left (by omega)]
  ·rw[if_neg k,List.getElem?_append_right (by rw[List.length_append,b];omega),List.length_append,b,List.getElem?_drop]
   congr 1;omega
theorem vD{P:Program}{a:SV}{X:List SV}{h0:ar}{vc:Prop}{bs:List (Nat×aB)}{wr:List (Nat×Option aB)}(e:kx a X h0=some (vc,bs,wr))(a1:vc):
  (∀ p,p∈bs->h0 p.1=some p.2)/\(∀ nm,cC bs nm wr=true)/\∀ (M F:aD) (ρ:Names) (h:ar) (w:World) (a2:Value) (vs:Array Value),VR M ρ a a2->HR M F ρ h w->(∀ p,p∈bs->h p.1=some p.2)->
   vs.size=X.length->(∀ (i:Nat) (y:SV),X[i]? =some y->∃ u,vs[i]? =some u/\VR M ρ y u)->(∀ u,u∈vs.toList->u.oneCell'=true)->
   ∃ ad w',a2= .pointer (some ad)/\(storeCells ad vs.toList).run P w= .ok () w'/\HR M F ρ (dB h wr) w'/\bG w w':=by
 have same:∀ (w:World) (b:Nat) (cs:Array Value),bG w (w.setRow b cs):=fun w b cs=>⟨rfl,rfl,rfl,by simp⟩
 unfold kx at e
 split at e
 ·next m i c=>
  split at e
  ·next ty k xs hm=>
   split at e
   ·next hl=>
    cases e
    have hl:=Nat.le_of_ble_eq_true hl
    refine⟨fun p Y=>by simp at Y;subst Y;exact hm,fun nm=>by simp[cC],fun M F ρ h w a2 vs hv hH V B D h1=>?_⟩
    cases hv with
    |ptr _ _ _ x hx=>
     have hm':=V _ (List.mem_singleton.2 rfl)
     obtain⟨cur,k1,k2,k3,k4,k5,k6⟩:=hH.cells hm' hx
     subst k3
     have v:i*x.k+c+vs.toList.length<=cur.size:=by rw[Array.length_toList,B];omega
     have E:=run_storeCells_at P x.b (i*x.k+c) ty vs.toList 0 cur w k1 (by rw[Nat.add_zero];exact v) h1
     rw[Nat.add_zero]at E
     refine⟨_,_,rfl,E,?_,same _ _ _⟩
     refine hH.put m x (by rw[hm'];simp) hx k2 _ _ (setRow_heap w x.b cur _ ty (0,0) k1) (fun b hb=>setRow_other w x.b b _ hb) ?_
     have hlen:vs.toList.length=X.length:=by rw[Array.length_toList,B]
     refine⟨rfl,rfl,rfl,?_,?_,fun j s O=>?_⟩
     ·simp only[List.size_toArray,List.length_append,List.length_take,List.length_drop,Array.length_toList]
      rw[<-k4]
      simp only[Array.length_toList]at v;omega
     ·simp only[List.size_toArray,List.length_append,List.length_take,List.length_drop,Array.length_toList]
      rw[B];omega
     ·rw[lx _ _ _ _ hl]at O
      rw[List.getElem?_toArray,lx _ _ _ _ (by rw[Array.length_toList];exact v),hlen]
      split
      ·next hj=>rw[if_pos hj]at O;rw[Array.getElem?_toList];exact k6 j s O
      ·next hj=>
       rw[if_neg hj]at O
       split
       ·next W=>rw[if_pos W]at O;rw[Array.getElem?_toList];exact D _ s O
       ·next W=>rw[if_neg W]at O;rw[Array.getElem?_toList];exact k6 j s O
   ·cases e
  ·next ty k len f hm=>
   split at e
   ·next hc=>
    split at e
    ·next ds av=>
     cases e
     have hc:=Nat.le_of_ble_eq_true hc
     refine⟨fun p Y=>by simp at Y;subst Y;exact hm,fun nm=>by simp[cC],fun M F ρ h w a2 vs hv hH V B D h1=>?_⟩
     cases hv with
     |ptr _ _ _ x hx=>
      have hm':=V _ (List.mem_singleton.2 rfl)
      obtain⟨cur,k1,k2,k3,k4,k5,k6⟩:=hH.rows hm' (by omega) hx
      subst k3
      obtain⟨d1,d2⟩:=tP av
      have aa:(i+1)*x.k<=x.R*x.k:=Nat.mul_le_mul_right _ (by omega)
      have v:i*x.k+c+vs.toList.length<=cur.size:=by
       rw[Array.length_toList,B,k4]
       rw[Nat.succ_mul]at aa;omega
      have E:=run_storeCells_at P x.b (i*x.k+c) ty vs.toList 0 cur w k1 (by rw[Nat.add_zero];exact v) h1
      rw[Nat.add_zero]at E
      refine⟨_,_,rfl,E,?_,same _ _ _⟩
      refine hH.put m x (by rw[hm'];simp) hx k2 _ _ (setRow_heap w x.b cur _ ty (0,0) k1) (fun b hb=>setRow_other w x.b b _ hb) ?_
      have hlen:vs.toList.length=X.length:=by rw[Array.length_toList,B]
      refine⟨rfl,rfl,rfl,?_,k5,fun U G ah al=>?_⟩
      ·simp only[List.size_toArray,List.length_append,List.length_take,List.length_drop,Array.length_toList]
       rw[<-k4]
       simp only[Array.length_toList]at v;omega
      ·rw[List.getElem?_toArray,lx _ _ _ _ (by rw[Array.length_toList];exact v),hlen]
       unfold pz
       by_cases I:U=i/\c<=G/\G<c+ds.length
       ·rw[if_pos I]
        obtain⟨rfl,g1,g2⟩:=I
        rw[if_neg (by omega),if_pos (by omega),Array.getElem?_toList]
        have hd:ds[G-c]? =some (ds[G-c]'(by omega)):=List.getElem?_eq_getElem _
        obtain⟨u,u1,u2⟩:=D (G-c) _ (d2 _ _ hd)
        refine⟨u,by rw[<-u1];congr 1;omega,?_⟩
        rw[List.getD_eq_getElem?_getD,hd]
        cases u2 with |d _ _ h=>exact h
       ·rw[if_neg I]
        have J:U*x.k+G<i*x.k+c\/i*x.k+c+X.length<=U*x.k+G:=by
         rcases Nat.lt_trichotomy U i with ax|heq|a0
         ·left
          have :(U+1)*x.k<=i*x.k:=Nat.mul_le_mul_right _ ax
          rw[Nat.succ_mul]at this;omega
         ·subst heq
          rw[d1]at I
          omega
         ·right
          have :(i+1)*x.k<=U*x.k:=Nat.mul_le_mul_right _ a0
          rw[Nat.succ_mul]at this;omega
        rcases J with J|J
        ·rw[if_pos J,Array.getElem?_toList];exact k6 U G ah al
        ·rw[if_neg (by omega),if_neg (by omega),Array.getElem?_toList];exact k6 U G ah al
    ·cases e
   ·cases e
  ·cases e
 ·cases e
def qg(P:Program)(t:TypeId)(a x:SV)(h:ar):Option Out:=
 match P.info? t with
 |some i=>
  match flat x with
  |some ys=>if Nat.beq ys.length i.size&&jx ys then
    match kx a ys h with
    |some (vc,bs,wr)=>some (vc,bs, .any,wr)
    |none=>none
   else none
  |none=>none
 |none=>none
theorem aP{x y z:Operand}(h:z=x\/z=y):z∈(#[x,y]:Array Operand):=by
 rcases h with rfl|rfl<;>simp
theorem AQ{C:Ctx}{o:Oper}{nm:Nat}{v:Operand->SV}{h:ar}{x:Out}{t:TypeId}{a y:Operand}(b:o.op= .store t a y)(e:qg C.P t (v a) (v y) h=some x):Sound C o nm v h x:=by
 unfold qg at e
 split at e
 next i O=>
  split at e
  next ys k=>
   split at e
   next B=>
    split at e
    next vc bs wr D=>
     cases e
     intro E
     simp only[Bool.and_eq_true]at B
     have hlen:=Nat.eq_of_beq_eq_true B.1
     obtain⟨U,V,W⟩:=vD (P:=C.P) D E
     refine⟨zn fun M F ρ X h w I Y G aa=>?_,U,V nm⟩
     have va:=I a (by rw[b];exact aP (.inl rfl))
     have vy:=I y (by rw[b];exact aP (.inr rfl))
     obtain⟨J,f2,f3⟩:=tN vy k B.2
     obtain⟨ad,w',g1,g2,g3,g4⟩:=W M F ρ h w _ _ va Y G J f2 f3
     refine⟨ρ,w',Names.le_refl _,fun _ _=>rfl,?_,g3,g4⟩
     have hs:(X.eval y).cells.size=i.size:=by rw[J,hlen]
     simp[execOp,b,Instr.storeAt,g1,Instr.sureAddr,storeVar,sizeOf,typeInfo,O,hs,g2]
    ·cases e
   ·cases e
  ·cases e
 ·cases e
def qh(P:Program)(t:TypeId)(a:SV)(h:ar):Option Out:=
 match si P t a h with
 |some (vc,bs,u)=>some (vc,bs,u,[])
 |none=>none
theorem AR{C:Ctx}{o:Oper}{nm:Nat}{v:Operand->SV}{h:ar}{x:Out}{t:TypeId}{a:Operand}(B:o.op= .load t a)(e:qh C.P t (v a) h=some x):Sound C o nm v h x:=by
 unfold qh at e
 split at e
 next vc bs u hl=>
  cases e
  intro b
  obtain⟨D,E⟩:=qf hl b
  refine⟨aJ fun M F ρ U h w G I k=>?_,D,rfl⟩
  obtain⟨u',J,_,O⟩:=E M F ρ h w _ (G a (by rw[B];simp[Op.operands])) I k
  exact⟨u',by simp[execOp,B,J],O⟩
 ·cases e
theorem cF{x:Operand}:x∈(#[x]:Array Operand):=by simp
def zo(u:SV):Out:=(True,[],u,[])
theorem zp{C:Ctx}{o:Oper}{nm:Nat}{v:Operand->SV}{h:ar}{y:Operand}(b:o.op= .move y\/o.op= .assign y):Sound C o nm v h (zo (v y)):=by
 intro _
 refine⟨aJ fun M F ρ a h w e B _=>⟨a.eval y,?_,?_⟩,fun p k=>by simp[zo]at k,rfl⟩
 ·rcases b with b|b<;>simp[execOp,b]
 ·rcases b with b|b<;>exact e y (by rw[b];exact cF)
def Cx(c a b:SV):Option Out:=
 match c with
 | .d (.val (.bool true))=>some (True,[],a,[])
 | .d (.val (.bool false))=>some (True,[],b,[])
 |_=>none
theorem Fu{C:Ctx}{o:Oper}{nm:Nat}{v:Operand->SV}{h:ar}{x:Out}{c a b:Operand}(B:o.op= .pick c a b)(e:Cx (v c) (v a) (v b)=some x):Sound C o nm v h x:=by
 have m:∀ y,y=c\/y=a\/y=b->y∈o.op.operands:=by
  intro y I;rw[B];rcases I with rfl|rfl|rfl<;>simp[Op.operands]
 unfold Cx at e
 split at e
 ·next D=>
  cases e
  intro _
  refine⟨aJ fun M F ρ E h w k J _=>⟨E.eval a,?_,k a (m a (.inr (.inl rfl)))⟩,fun p G=>by simp at G,rfl⟩
  have :=k c (m c (.inl rfl));rw[D]at this
  simp[execOp,B,this.val,asBool]
 ·next D=>
  cases e
  intro _
  refine⟨aJ fun M F ρ E h w k J _=>⟨E.eval b,?_,k b (m b (.inr (.inr rfl)))⟩,fun p G=>by simp at G,rfl⟩
  have :=k c (m c (.inl rfl));rw[D]at this
  simp[execOp,B,this.val,asBool]
 ·cases e
def toSV:Value->SV
 | .slice none 0 0=> .d .bz
 |v=> .d (.val v)
theorem mV{M:aD}{ρ:Names}{v:Value}(h:v.oneCell'=true):VR M ρ (toSV v) v:=by
 cases v with
 |slice a l c=>
  cases a with
  |none=>cases l with
   |zero=>cases c with
    |zero=>exact .d _ _ (.bz _)
    |succ c=>exact .d _ _ (.val _ rfl)
   |succ l=>exact .d _ _ (.val _ rfl)
  |some a=>exact .d _ _ (.val _ rfl)
 |agg _=>simp[Value.oneCell']at h
 |tuple _=>simp[Value.oneCell']at h
 |_=>exact .d _ _ (.val _ rfl)
def eK:List Value->List SV
 | []=> []
 |v::r=>toSV v::eK r
theorem db:∀ l,(eK l).length=l.length
 | []=>rfl
 |v::r=>by simp[eK,db r]
theorem iQ:∀ (l:List Value) (i:Nat),(eK l)[i]? =(l[i]?).map toSV
 | [],i=>by simp[eK]
 |v::r,0=>by simp[eK]
 |v::r,i+1=>by simp[eK,iQ r i]
def eP(P:Program)(t:TypeId):Option (List Value):=
 match P.info? t with
 |some i=>match i.zero with
  |some z=>if Nat.beq z.cells.toList.length i.size&&z.cells.toList.all Value.oneCell' then some z.cells.toList else none
  |none=>none
 |none=>none
theorem dx{P:Program}{t:TypeId}{l:List Value}(h:eP P t=some l):∃ i z,P.info? t=some i/\i.zero=some z/\z.cells.toList=l/\l.length=i.size/\∀ u,u∈l->u.oneCell'=true:=by
 unfold eP at h
 split at h
 ·next i e=>
  split at h
  ·next z k=>
   split at h
   ·next b=>
    cases h
    simp only[Bool.and_eq_true,List.all_eq_true]at b
    exact⟨i,z,e,k,rfl,Nat.eq_of_beq_eq_true b.1,b.2⟩
   ·cases h
  ·cases h
 ·cases h
theorem gS{M F:aD}{ρ:Names}{h:ar}{w:World}(v:HR M F ρ h w){nm:Nat}(b:∀ n,nm<=n->n<nm+8->ρ n=none)(k R:Nat)(B:0<R)(blk:aB)(obj:Obj)
  (D:∀ aq:Names,ρ.le aq->BR M aq ⟨w.heap.size,k,R⟩ blk obj) (e:∀ S es,blk≠ .fam S es:=by intro S es h;cases h):
  ∃ aq:Names,ρ.le aq/\(∀ n,n<nm\/nm+8<=n->aq n=ρ n)/\aq nm=some ⟨w.heap.size,k,R⟩/\HR M F aq (upd h nm (some blk)) (w.alloc obj):=by
 obtain⟨aq,rfl,E,G⟩:=v.push nm (b nm (Nat.le_refl _) (by omega)) k R B blk obj v.beyond D e
 refine⟨_,E,fun n I=>?_,by simp,G⟩
 have :n≠nm:=by omega
 simp[this]
def xV(P:Program)(nm:Nat)(t:TypeId):Option Out:=
 match eP P t with
 |some l=>some (True,[], .ptr nm 0 0,[(nm,some (.cells t l.length (eK l)))])
 |none=>none
theorem Cy{C:Ctx}{o:Oper}{nm:Nat}{v:Operand->SV}{h:ar}{x:Out}{t:TypeId}(J:o.op= .alloc t)(e:xV C.P nm t=some x):Sound C o nm v h x:=by
 unfold xV at e
 split at e
 ·next l hl=>
  cases e
  intro _
  obtain⟨i,z,O,U,b,hlen,k⟩:=dx hl
  refine⟨dn fun M F ρ a h w hv V _ G=>?_,fun p W=>by simp at W,by simp[cC]⟩
  have B:z.cells.size=l.length:=by rw[<-b,Array.length_toList]
  obtain⟨aq,X,Y,k3,k4⟩:=gS V G l.length 1 (by omega) (.cells t l.length (eK l)) (.cells z.cells t) (by
   intro aq I
   refine⟨rfl,rfl,rfl,by simp[B],by rw[db,B];exact Nat.le_refl _,fun j s D=>?_⟩
   rw[iQ]at D
   cases E:l[j]? with
   |none=>rw[E]at D;cases D
   |some u=>
    rw[E]at D;cases D
    refine⟨u,by rw[<-E,<-b,Array.getElem?_toList],mV (k u (List.mem_of_getElem? E))⟩)
  refine⟨aq, .pointer (some ⟨w.heap.size,0,none⟩),_,X,Y,?_,?_,k4,bG.alloc _ _⟩
  ·simp[execOp,J,Instr.alloc,zeroValue,typeInfo,O,U,newVar,newRow]
  ·have :=VR.ptr (M:=M) nm 0 0 _ k3
   simpa using this
 ·cases e
def Hn(nm:Nat)(t:TypeId)(x:SV):Option Out:=
 match flat x with
 |some ys=>if jx ys then some (True,[], .ptr nm 0 0,[(nm,some (.cells t ys.length ys))])else none
 |none=>none
theorem Ho{C:Ctx}{o:Oper}{nm:Nat}{v:Operand->SV}{h:ar}{x:Out}{t:TypeId}{y:Operand}(E:o.op= .box t y)(e:Hn nm t (v y)=some x):Sound C o nm v h x:=by
 unfold Hn at e
 split at e
 ·next k B=>
  split at e
  ·next I=>
   cases e
   intro _
   refine⟨dn fun M F ρ a h w J O _ D=>?_,fun p U=>by simp at U,by simp[cC]⟩
   obtain⟨G,V,f3⟩:=tN (J y (by rw[E];exact cF)) B I
   obtain⟨aq,W,X,Y,k4⟩:=gS O D k.length 1 (by omega) (.cells t k.length k) (.cells (a.eval y).cells t) (by
    intro aq b
    exact⟨rfl,rfl,rfl,by simp[G],by rw[G];exact Nat.le_refl _,fun j s hs=>let⟨u,u1,u2⟩:=V j s hs;⟨u,u1,u2.mono (aD.le_refl _) b⟩⟩)
   refine⟨aq, .pointer (some ⟨w.heap.size,0,none⟩),_,W,X,?_,?_,k4,bG.alloc _ _⟩
   ·simp[execOp,E,Instr.box,newVar,newRow]
   ·have :=VR.ptr (M:=M) nm 0 0 _ Y
    simpa using this
  ·cases e
 ·cases e
def qi(places:List (Nat×Nat)):List SV->List (Nat×SV)->Option (List SV)
 |xs,[]=>some xs
 |xs,(i,x)::r=>
  match places[i]?,flat x with
  |some (off,size),some ys=>if Nat.beq ys.length size&&(Nat.ble (off+ys.length) xs.length&&jx ys)then qi places (xs.take off++ys++xs.drop (off+ys.length)) r else none
  |_,_=>none
def RL(M:aD)(ρ:Names)(xs:List SV)(vs:Array Value):Prop:=vs.size=xs.length/\∀ (i:Nat) (x:SV),xs[i]? =some x->∃ u,vs[i]? =some u/\VR M ρ x u
theorem sj(off:Nat):∀ (l:List Value) (b:Nat) (cs:Array Value),off+b+l.length<=cs.size->
  ((l.zipIdx b).foldl (fun cs (p:Value×Nat)=>cs.setIfInBounds (off+p.2) p.1) cs)=(cs.toList.take (off+b)++l++cs.toList.drop (off+b+l.length)).toArray
 | [],b,cs,_=>by simp
 |v::r,b,cs,h=>by
  simp only[List.zipIdx_cons,List.foldl_cons]
  rw[sj off r (b+1) _ (by simp at h ⊢;omega)]
  have e:=list_seg_step cs.toList (off+b) v r (by simp at h ⊢;omega)
  congr 1
  simpa[Array.toList_setIfInBounds,Nat.add_assoc]using e
theorem pL{M:aD}{ρ:Names}(places:List (Nat×Nat))(place:Nat->Option (Nat×Nat))(hp:∀ i,place i=places[i]?):∀ (parts:List (Nat×SV)) (b:List (Nat×Value)) (xs zs:List SV) (vs:Array Value),
  b.length=parts.length->(∀ (j i:Nat) (x:SV),parts[j]? =some (i,x)->∃ u,b[j]? =some (i,u)/\VR M ρ x u)->RL M ρ xs vs->qi places xs parts=some zs->
  ∃ O,Instr.fill place vs b=some O/\RL M ρ zs O
 | [],[],xs,zs,vs,_,_,E,e=>by simp[qi]at e;subst e;exact⟨vs,rfl,E⟩
 | [],_::_,_,_,_,hl,_,_,_=>by simp at hl
 |_::_,[],_,_,_,hl,_,_,_=>by simp at hl
 |(i,x)::parts,(i',u)::b,xs,zs,vs,hl,v,E,e=>by
  obtain⟨u',h1,h2⟩:=v 0 i x rfl
  simp at h1
  obtain⟨rfl,rfl⟩:=h1
  simp only[qi]at e
  split at e
  ·next off size W X Y=>
   split at e
   ·next U=>
    simp only[Bool.and_eq_true]at U
    have c1:=Nat.eq_of_beq_eq_true U.1
    have c2:=Nat.le_of_ble_eq_true U.2.1
    obtain⟨V,f2,f3⟩:=tN h2 Y U.2.2
    have B:off+0+u.cells.toList.length<=vs.size:=by rw[Array.length_toList,V,E.1];omega
    have J:RL M ρ (xs.take off++W++xs.drop (off+W.length)) (vs.toList.take off++u.cells.toList++vs.toList.drop (off+u.cells.toList.length)).toArray:=by
     have hlen:u.cells.toList.length=W.length:=by rw[Array.length_toList,V]
     refine⟨?_,fun j s D=>?_⟩
     ·simp only[List.size_toArray,List.length_append,List.length_take,List.length_drop,Array.length_toList,E.1]
      rw[V]
     ·rw[lx _ _ _ _ c2]at D
      rw[List.getElem?_toArray,lx _ _ _ _ (by rw[Array.length_toList];simpa using B),hlen]
      split
      ·next hj=>rw[if_pos hj]at D;rw[Array.getElem?_toList];exact E.2 j s D
      ·next hj=>
       rw[if_neg hj]at D
       split
       ·next G=>rw[if_pos G]at D;rw[Array.getElem?_toList];exact f2 _ s D
       ·next G=>rw[if_neg G]at D;rw[Array.getElem?_toList];exact E.2 j s D
    obtain⟨O,g1,g2⟩:=pL places place hp parts b _ zs _ (by simpa using hl) (fun j k y hy=>v (j+1) k y (by simpa using hy)) J e
    refine⟨O,?_,g2⟩
    have I: ¬ (u.cells.size≠size\/off+u.cells.size>vs.size):=by rw[V,c1,E.1];omega
    simp only[Instr.fill,hp,X]
    rw[if_neg (by simpa using I)]
    rw[<-g1]
    congr 1
    have :=sj off u.cells.toList 0 vs B
    simp only[Nat.add_zero]at this
    rw[<-this,<-Array.foldl_toList,Array.toList_zipIdx]
   ·cases e
  ·cases e
def placesOf(P:Program):List Field->Option (List (Nat×Nat))
 | []=>some []
 |f::r=>match P.info? f.type,placesOf P r with
  |some i,some l=>some ((f.offset,i.size)::l)
  |_,_=>none
def b8(v:Operand->SV):List (Nat×Operand)->List (Nat×SV)
 | []=> []
 |(i,x)::r=>(i,v x)::b8 v r
theorem o7{v:Operand->SV}:∀ (l:List (Nat×Operand)) (j i:Nat) (s:SV),(b8 v l)[j]? =some (i,s)->∃ x,l[j]? =some (i,x)/\s=v x
 | [],j,i,s,h=>by simp[b8]at h
 |(k,x)::r,0,i,s,h=>by simp[b8]at h;exact⟨x,by simp[h.1],h.2.symm⟩
 |(k,x)::r,j+1,i,s,h=>by simp[b8]at h;obtain⟨y,b,e⟩:=o7 r j i s h;exact⟨y,by simpa using b,e⟩
theorem ky{v:Operand->SV}:∀ (l:List (Nat×Operand)),(b8 v l).length=l.length
 | []=>rfl
 |(k,x)::r=>by simp[b8,ky r]
theorem run_places{P:Program}{w:World}:∀ (b:List Field) (l:List (Nat×Nat)),placesOf P b=some l->((b.mapM fun f=>do pure (f.offset,<-sizeOf f.type):Sem (List (Nat×Nat)))).run P w= .ok l w
 | [],l,h=>by simp[placesOf]at h;subst h;rfl
 |f::r,l,h=>by
  simp only[placesOf]at h
  split at h
  ·next i e k hl'=>
   cases h
   have v:=run_places (w:=w) r e hl'
   have B:(do pure (f.offset,<-sizeOf f.type):Sem (Nat×Nat)).run P w= .ok (f.offset,i.size) w:=by simp[sizeOf,typeInfo,k]
   simp only[List.mapM_cons,Sem.run_bind,B,v,Result.andThen_ok,Sem.run_pure]
  ·cases h
def xW(P:Program)(t:TypeId)(parts:List (Nat×SV)):Option Out:=
 match P.underlying t with
 |some (.struct fs)=>
  match eP P t,placesOf P fs.toList with
  |some z,some pl=>match qi pl (eK z) parts with
   |some xs=>some (True,[], .agg xs,[])
   |none=>none
  |_,_=>none
 |_=>none
theorem nY{parts:Array (Nat×Operand)}{i:Nat}{x:Operand}(h:(i,x)∈parts.toList)(t:TypeId):x∈(Op.build t parts).operands:=by
 simp only[Op.operands]
 rw[List.mem_toArray]
 exact List.mem_map.2 ⟨(i,x),h,rfl⟩
theorem nZ{M:aD}{ρ:Names}{a:Act}{v:Operand->SV}{parts:Array (Nat×Operand)}(e:∀ i x,(i,x)∈parts.toList->VR M ρ (v x) (a.eval x)):
  (parts.map fun(i,x)=>(i,a.eval x)).toList.length=(b8 v parts.toList).length/\
  ∀ (j i:Nat) (s:SV),(b8 v parts.toList)[j]? =some (i,s)->∃ u,(parts.map fun(i,x)=>(i,a.eval x)).toList[j]? =some (i,u)/\VR M ρ s u:=by
 refine⟨by simp[ky],fun j i s k=>?_⟩
 obtain⟨x,b,rfl⟩:=o7 _ j i s k
 refine⟨a.eval x,?_,e i x (List.mem_of_getElem? b)⟩
 rw[Array.getElem?_toList]at b
 simp[b]
theorem vE{M:aD}{ρ:Names}{l:List Value}{vs:Array Value}(hl:vs.toList=l)(k:∀ u,u∈l->u.oneCell'=true):RL M ρ (eK l) vs:=by
 refine⟨by rw[db,<-hl,Array.length_toList],fun i x b=>?_⟩
 rw[iQ]at b
 cases e:l[i]? with
 |none=>rw[e]at b;cases b
 |some u=>
  rw[e]at b;cases b
  exact⟨u,by rw[<-e,<-hl,Array.getElem?_toList],mV (k u (List.mem_of_getElem? e))⟩
theorem RL.agg{M:aD}{ρ:Names}{xs:List SV}{vs:Array Value}(h:RL M ρ xs vs):VR M ρ (.agg xs) (.agg vs):= .zm xs vs h.1 h.2
theorem Cz{C:Ctx}{o:Oper}{nm:Nat}{v:Operand->SV}{h:ar}{x:Out}{t:TypeId}{parts:Array (Nat×Operand)}(J:o.op= .build t parts)(e:xW C.P t (b8 v parts.toList)=some x):Sound C o nm v h x:=by
 unfold xW at e
 split at e
 ·next O B=>
  split at e
  ·next z k U D=>
   split at e
   ·next xs E=>
    cases e
    intro _
    refine⟨aJ fun M F ρ a h w V hH _=>?_,fun p W=>by simp at W,rfl⟩
    obtain⟨i,X,Y,G,I,hlen,b⟩:=dx U
    obtain⟨p1,p2⟩:=nZ (M:=M) (ρ:=ρ) (a:=a) (v:=v) (parts:=parts) (fun i x hx=>V x (by rw[J];exact nY hx t))
    obtain⟨us,g1,g2⟩:=pL (M:=M) (ρ:=ρ) k (k.toArray[·]?) (fun i=>by simp) (b8 v parts.toList) _ (eK z) xs X.cells p1 p2 (vE I b) E
    refine⟨.agg us,?_,g2.agg⟩
    have hm:(O.mapM fun f=>do pure (f.offset,<-sizeOf f.type):Sem (Array (Nat×Nat))).run C.P w= .ok k.toArray w:=by
     rw[Array.mapM_eq_mapM_toList]
     simp only[Sem.run_map,run_places O.toList k D,Result.andThen_ok]
    simp only[execOp,J,Instr.build,zeroValue,typeInfo,Sem.run_bind,run_program,Result.andThen_ok,Y,Sem.run_pure,G,run_underlying B,hm,g1]
   ·cases e
  ·cases e
 ·cases e
def tQ(z:List SV):Nat->List SV
 |0=> []
 |n+1=>z++tQ z n
def cW(k:Nat):Nat->Nat->List (Nat×Nat)
 |_,0=> []
 |i,n+1=>(i*k,k)::cW k (i+1) n
theorem gZ(k:Nat):∀ (n i j:Nat),(cW k i n)[j]? =if j<n then some ((i+j)*k,k)else none
 |0,i,j=>by simp[cW]
 |n+1,i,0=>by simp[cW]
 |n+1,i,j+1=>by
  simp only[cW,List.getElem?_cons_succ,gZ k n (i+1) j]
  by_cases h:j<n
  ·rw[if_pos h,if_pos (by omega),show i+1+j=i+(j+1) by omega]
  ·rw[if_neg h,if_neg (by omega)]
def lz(P:Program)(nm:Nat)(t:TypeId)(len:Nat)(parts:List (Nat×SV)):Option Out:=
 match P.underlying t with
 |some (.slice e)=>
  match eP P e with
  |some z=>
   if Nat.blt 0 z.length&&(Nat.blt 0 len&&(Nat.ble (len*z.length) 65536&&parts.all fun p=>Nat.blt p.1 len))then
    match qi (cW z.length 0 len) (tQ (eK z) len) parts with
    |some xs=>if Nat.beq xs.length (len*z.length)then some (True,[], .sl nm 0 len,[(nm,some (.cells e z.length xs))])else none
    |none=>none
   else none
  |none=>none
 |_=>none
theorem kz(z:List SV):∀ n,(tQ z n).length=n*z.length
 |0=>by simp[tQ]
 |n+1=>by simp[tQ,kz z n,Nat.succ_mul,Nat.add_comm]
theorem vF(z:List SV)(e:0<z.length):∀ (n i:Nat),i<n*z.length->(tQ z n)[i]? =z[i%z.length]?
 |0,i,h=>by simp at h
 |n+1,i,h=>by
  simp only[tQ]
  by_cases b:i<z.length
  ·rw[List.getElem?_append_left b,Nat.mod_eq_of_lt b]
  ·rw[List.getElem?_append_right (by omega),vF z e n (i-z.length) (by rw[Nat.succ_mul]at h;omega)]
   rw[Nat.mod_eq_sub_mod (a:=i) (by omega)]
theorem l5{places:List (Nat×Nat)}{place b:Nat->Option (Nat×Nat)}{n:Nat}(e:∀ i,i<n->place i=b i):∀ (parts:List (Nat×Value)) (vs:Array Value),(∀ p,p∈parts->p.1<n)->
  Instr.fill place vs parts=Instr.fill b vs parts
 | [],vs,_=>rfl
 |(i,u)::r,vs,h=>by
  simp only[Instr.fill,e i (h (i,u) (List.mem_cons_self ..))]
  split
  ·rfl
  ·split
   ·rfl
   ·exact l5 (places:=places) e r _ fun p e=>h p (List.mem_cons_of_mem _ e)
theorem o8{C:Ctx}{o:Oper}{nm:Nat}{v:Operand->SV}{h:ar}{x:Out}{t:TypeId}{len:Nat}{parts:Array (Nat×Operand)}(ho:o.op= .buildSlice t len parts)(e:lz C.P nm t len (b8 v parts.toList)=some x):Sound C o nm v h x:=by
 unfold lz at e
 split at e
 ·next el W=>
  split at e
  ·next z hz=>
   split at e
   ·next hc=>
    split at e
    ·next xs X=>
     split at e
     ·next D=>
      cases e
      intro _
      have D:=Nat.eq_of_beq_eq_true D
      simp only[Bool.and_eq_true,List.all_eq_true]at hc
      obtain⟨c1,I,c3,c4⟩:=hc
      have c1:0<z.length:=by simpa using c1
      have I:0<len:=by simpa using I
      have c3:=Nat.le_of_ble_eq_true c3
      refine⟨dn fun M F ρ a h w hv hH _ Y=>?_,fun p hp=>by simp at hp,by simp[cC]⟩
      obtain⟨i,b,hi,aa,J,hlen,O⟩:=dx hz
      have B:b.cells.size=z.length:=by rw[<-J,Array.length_toList]
      obtain⟨p1,p2⟩:=nZ (M:=M) (ρ:=ρ) (a:=a) (v:=v) (parts:=parts) (fun i x hx=>hv x (by rw[ho];exact nY (t:=t) hx))
      have ah:RL M ρ (tQ (eK z) len) ((Array.range (len*z.length)).map (b.cells[· %b.cells.size]!)):=by
       refine⟨by simp[kz,db],fun j s E=>?_⟩
       have G:j<len*z.length:=by
        have :=(List.getElem?_eq_some_iff.1 E).1
        rw[kz,db]at this;exact this
       rw[vF _ (by rw[db];exact c1) len j (by rw[db];exact G),db,iQ]at E
       have hm:j%z.length<z.length:=Nat.mod_lt _ c1
       have al:z[j%z.length]? =some (z[j%z.length]'hm):=List.getElem?_eq_getElem hm
       rw[al]at E;cases E
       refine⟨z[j%z.length]'hm,?_,mV (O _ (List.getElem_mem hm))⟩
       have :b.cells[j%b.cells.size]! =z[j%z.length]'hm:=by
        rw[B]
        have hm':j%z.length<b.cells.size:=by rw[B];exact hm
        rw[getElem!_pos b.cells _ hm']
        have :b.cells.toList[j%z.length]'(by simpa using hm')=z[j%z.length]'hm:=by simp only[J]
        simpa using this
       simp[G,this]
      obtain⟨us,g1,g2⟩:=pL (M:=M) (ρ:=ρ) (cW z.length 0 len) (fun i=>(cW z.length 0 len)[i]?) (fun i=>rfl) (b8 v parts.toList) _ (tQ (eK z) len) xs _ p1 p2 ah X
      have k:Instr.fill (fun i=>some (i*z.length,z.length)) ((Array.range (len*z.length)).map (b.cells[· %b.cells.size]!)) (parts.map fun(i,x)=>(i,a.eval x)).toList=some us:=by
       rw[<-g1]
       refine l5 (places:= []) (n:=len) (fun i hi=>?_) _ _ ?_
       ·rw[gZ,if_pos hi,Nat.zero_add]
       ·intro p hp
        obtain⟨j,G⟩:=List.mem_iff_getElem?.1 hp
        rw[Array.getElem?_toList]at G
        simp only[Array.getElem?_map,Option.map_eq_some_iff]at G
        obtain⟨⟨i,y⟩,hy,rfl⟩:=G
        have U:(i,v y)∈b8 v parts.toList:=by
         have :∀ (l:List (Nat×Operand)),(i,y)∈l->(i,v y)∈b8 v l:=by
          intro l
          induction l with
          |nil=>intro h;cases h
          |cons q l ih=>
           intro h
           rcases List.mem_cons.1 h with rfl|h
           ·exact List.mem_cons_self ..
           ·exact List.mem_cons_of_mem _ (ih h)
         exact this _ (by rw[Array.mem_toList_iff];exact Array.mem_of_getElem? hy)
        simpa using c4 _ U
      obtain⟨aq,k1,k2,k3,k4⟩:=gS hH Y z.length len I (.cells el z.length xs) (.cells us el) (by
       intro aq V
       exact⟨rfl,rfl,rfl,by rw[g2.1,D],by rw[g2.1];exact Nat.le_refl _,fun j s E=>let⟨u,u1,u2⟩:=g2.2 j s E;⟨u,u1,u2.mono (aD.le_refl _) V⟩⟩)
      refine⟨aq, .slice (some ⟨w.heap.size,0,none⟩) len len,_,k1,k2,?_,?_,k4,bG.alloc _ _⟩
      ·have n1: ¬ (len*i.size>2^24):=by rw[<-hlen];omega
       have n2: ¬ (len*i.size=0):=by rw[<-hlen];exact Nat.ne_of_gt (Nat.mul_pos I c1)
       rw[<-hlen]at n1 n2
       simp only[execOp,ho,Instr.buildSlice,Sem.run_bind,run_underlying W,Result.andThen_ok,sizeOf,typeInfo,run_program,hi,Sem.run_pure,Sem.run_ite,<-hlen,if_neg n1,if_neg n2,zeroValue,aa,k]
       rfl
      ·have av:len<=maxLen:=by
        have :len*1<=len*z.length:=Nat.mul_le_mul_left _ c1
        simp only[maxLen];omega
       have :=VR.sl (M:=M) nm 0 len _ k3 (by simp) av I
       simpa using this
     ·cases e
    ·cases e
   ·cases e
  ·cases e
 ·cases e
theorem HR.ghost{M F:aD}{ρ:Names}{h:ar}{w:World}(H:HR M F ρ h w){nm:Nat}(J:∀ n,nm<=n->n<nm+8->ρ n=none)(ty k:Nat)(f:Nat->Nat->D):
  ∃ aq:Names,ρ.le aq/\(∀ n,n<nm\/nm+8<=n->aq n=ρ n)/\aq nm=some ⟨0,k,0⟩/\HR M F aq (upd h nm (some (.rows ty k 0 f))) w:=by
 have Y:=J nm (Nat.le_refl _) (by omega)
 have hle:ρ.le (fun m=>if m=nm then some ⟨0,k,0⟩else ρ m):=by
  intro m x v
  have :m≠nm:=by rintro rfl;rw[Y]at v;cases v
  simp[this,v]
 refine⟨_,hle,fun n h=>by
  have :n≠nm:=by omega
  simp[this],by simp,H.fT,H.iL,H.j9,?_,?_,?_⟩
 rotate_right
 ·refine H.dh (fun m S es hm=>?_) hle (aD.le_refl _) (Nat.le_refl _) (fun _ _ _ _ _ _ a b=>⟨a,b⟩) (fun _ _ _ _ _ _ _ _ _ _=>rfl) (fun m S es p y hm E B O=>?_)
  ·rw[az]at hm
   split at hm
   ·cases hm
   ·exact hm
  ·by_cases e:p=nm
   ·subst e;simp at B;subst B;exact absurd O (Nat.lt_irrefl _)
   ·simp only[e,if_false]at B
    rw[bU _ _ _ _ e]at E
    exact .inl ⟨E,B⟩
 ·intro m b hm
  rw[az]at hm
  split at hm
  ·next e=>subst e;cases hm;exact⟨⟨0,k,0⟩,by simp, .inl ⟨rfl,rfl⟩⟩
  ·next e=>
   obtain⟨x,v,U⟩:=H.live m b hm
   refine⟨x,by simp[e,v],?_⟩
   rcases U with U|⟨O,h1,h2,o,h3,h4⟩
   ·exact .inl U
   ·exact .inr ⟨O,h1,h2,o,h3,h4.mono (aD.le_refl _) hle⟩
 ·intro p q x y E V v B G I hb
  simp only[az]at E V
  by_cases W:p=nm
  ·simp only[W,if_true]at v;cases v;simp at G
  ·by_cases X:q=nm
   ·simp only[X,if_true]at B;cases B;simp at I
   ·simp only[W,X,if_false]at v B E V
    exact H.sep p q x y E V v B G I hb
theorem HR.move{M F:aD}{ρ:Names}{h:ar}{w w':World}(H:HR M F ρ h w){n nm:Nat}(Y:∀ m,nm<=m->m<nm+8->ρ m=none)(x:Own)(hn:h n≠none)(I:ρ n=some x)(U:0<x.R)(blk:aB)(obj:Obj)
  (hw:w'.heap[x.b]? =some obj) (ho:∀ b,b≠x.b->w'.heap[b]? =w.heap[b]?) (hB:BR M ρ x blk obj) (V:∀ S es,blk≠ .fam S es:=by intro S es h;cases h) (aa:w.heap.size<=w'.heap.size:=by simp):
  ∃ aq:Names,ρ.le aq/\(∀ m,m<nm\/nm+8<=m->aq m=ρ m)/\aq nm=some x/\HR M F aq (upd (upd h n none) nm (some blk)) w':=by
 have E:=Y nm (Nat.le_refl _) (by omega)
 have ah:n≠nm:=by rintro rfl;rw[I]at E;cases E
 have hle:ρ.le (fun m=>if m=nm then some x else ρ m):=by
  intro m y k
  have :m≠nm:=by rintro rfl;rw[E]at k;cases k
  simp[this,k]
 have H2:=H.put n x hn I U blk obj hw ho hB V aa
 obtain⟨y,k,B⟩:=H2.live n blk (by simp)
 rw[I]at k;obtain rfl:=Option.some.inj k
 have B:0<x.R/\M x.b=none/\F x.b=none:=by
  rcases B with⟨al,_⟩|⟨_,h1,h2,_⟩
  ·omega
  ·exact⟨U,h1,h2⟩
 refine⟨_,hle,fun m h=>by
  have :m≠nm:=by omega
  simp[this],by simp,H2.fT,H2.iL,H2.j9,?_,?_,?_⟩
 rotate_right
 ·refine H2.dh (fun m S es hm=>?_) hle (aD.le_refl _) (Nat.le_refl _) (fun _ _ _ _ _ _ a b=>⟨a,b⟩) (fun _ _ _ _ _ _ _ _ _ _=>rfl) (fun m S es p y hm v k G=>?_)
  ·rw[az]at hm
   split at hm
   ·exact absurd (Option.some.inj hm) (V S es)
   ·rw[az]at hm
    split at hm
    ·cases hm
    ·next e=>rw[bU _ _ _ _ e];exact hm
  ·by_cases e:p=nm
   ·subst e
    simp only[if_true]at k;cases k
    obtain⟨_,_,_,_,g2,_⟩:=H2.fam m S es hm
    exact .inr (g2 n x (by simp) I U)
   ·simp only[e,if_false]at k
    rw[bU _ _ _ _ e]at v
    refine .inl ⟨fun W=>v ?_,k⟩
    rw[az]at W ⊢
    split
    ·rfl
    ·next e3=>rw[if_neg e3]at W;exact W
 ·intro m b hm
  rw[az]at hm
  split at hm
  ·next e=>subst e;cases hm;exact⟨x,by simp, .inr ⟨B.1,B.2.1,B.2.2,obj,hw,hB.mono (aD.le_refl _) hle⟩⟩
  ·next e=>
   rw[az]at hm
   split at hm
   ·cases hm
   ·next W=>
    obtain⟨y,k,B⟩:=H2.live m b (by rw[bU _ _ _ _ W];exact hm)
    refine⟨y,by simp[e,k],?_⟩
    rcases B with B|⟨g0,h1,h2,o,h3,h4⟩
    ·exact .inl B
    ·exact .inr ⟨g0,h1,h2,o,h3,h4.mono (aD.le_refl _) hle⟩
 ·have old:∀ p,p≠nm->upd (upd h n none) nm (some blk) p≠none->p≠n/\upd h n (some blk) p≠none:=by
   intro p D v
   rw[bU _ _ _ _ D]at v
   have :p≠n:=by rintro rfl;simp at v
   refine⟨this,?_⟩
   rw[bU _ _ _ _ this]at v ⊢
   exact v
  intro p q y z v hq k J G X hb
  by_cases D:p=nm<;>by_cases O:q=nm
  ·rw[D,O]
  ·simp only[D,if_true]at k;simp only[O,if_false]at J
   obtain⟨a1,a2⟩:=old q O hq
   cases k
   exact absurd (H2.sep n q x z (by simp) a2 I J U X hb).symm a1
  ·simp only[O,if_true]at J;simp only[D,if_false]at k
   obtain⟨a1,a2⟩:=old p D v
   cases J
   exact absurd (H2.sep p n y x a2 (by simp) k I G U hb) a1
  ·simp only[D,O,if_false]at k J
   exact H2.sep p q y z (old p D v).2 (old q O hq).2 k J G X hb
def CR(M:aD)(ρ:Names)(k:Nat):aB->Nat->List Value->Prop
 | .cells _ k' xs,len,l=>k'=k/\xs.length=len*k/\l.length=len*k/\∀ (j:Nat) (s:SV),xs[j]? =some s->∃ v,l[j]? =some v/\VR M ρ s v
 | .rows _ k' JF f,len,l=>k'=k/\JF=len/\l.length=len*k/\∀ i c,i<len->c<k->∃ v,l[i*k+c]? =some v/\DR M (f i c) v
 |_,_,_=>False
theorem CR.length{M:aD}{ρ:Names}{k:Nat}{b:aB}{len:Nat}{l:List Value}(h:CR M ρ k b len l):l.length=len*k:=by
 cases b with
 |cells=>exact h.2.2.1
 |rows=>exact h.2.2.1
 |map=>exact h.elim
 |fam=>exact h.elim
 |iter=>exact h.elim
theorem CR.CB{M:aD}{ρ:Names}{k:Nat}{b:aB}{len:Nat}{l:List Value}(h:CR M ρ k b len l):∀ S es,b≠ .fam S es:=by
 rintro S es rfl;exact h
def aB.n0(e:TypeId):aB->aB
 | .cells _ k xs=> .cells e k xs
 | .rows _ k n f=> .rows e k n f
 |b=>b
theorem CR.BR{M:aD}{ρ:Names}{b:aB}{len:Nat}{l:List Value}{x:Own}{cur:Array Value}{e:TypeId}(h:CR M ρ x.k b len l)(hl:cur.toList.take (len*x.k)=l)(D:cur.size=x.R*x.k)(U:len<=x.R):
  BR M ρ x (b.n0 e) (.cells cur e):=by
 have get:∀ (j:Nat) (v:Value),l[j]? =some v->cur[j]? =some v:=by
  intro j v B
  rw[<-hl,List.getElem?_take]at B
  split at B
  ·rw[<-Array.getElem?_toList];exact B
  ·cases B
 cases b with
 |cells ty k xs=>
  obtain⟨E,G,V,I⟩:=h
  subst E
  refine⟨rfl,rfl,rfl,D,?_,fun j s W=>let⟨v,J,O⟩:=I j s W;⟨v,get j v J,O⟩⟩
  rw[G,D];exact Nat.mul_le_mul_right _ U
 |rows ty k n f=>
  obtain⟨E,G,V,I⟩:=h
  subst E;subst G
  exact⟨rfl,rfl,rfl,D,U,fun i c X Y=>let⟨v,J,O⟩:=I i c X Y;⟨v,get _ v J,O⟩⟩
 |map=>exact h.elim
 |fam=>exact h.elim
 |iter=>exact h.elim
def dZ(f:Nat->Nat->D)(n:Nat)(g:Nat->Nat->D):Nat->Nat->D:=fun i c=>if i<n then f i c else g (i-n) c
def iF(k:Nat)(ds:List D):Nat->Nat->D:=fun i c=>ds.getD (i*k+c) .any
def fI(e k:Nat):aB->Nat->aB->Nat->Option aB
 | .cells _ _ xs,n, .cells _ _ ys,m=>some (.cells e k (xs++ys))
 | .rows _ _ _ f,n, .rows _ _ _ g,m=>some (.rows e k (n+m) (dZ f n g))
 | .rows _ _ _ f,n, .cells _ _ ys,m=>match tO ys with |some ds=>some (.rows e k (n+m) (dZ f n (iF k ds)))|none=>none
 | .cells _ _ xs,n, .rows _ _ _ g,m=>match xs with
  | []=>some (.rows e k m g)
  |_=>match tO xs with |some ds=>some (.rows e k (n+m) (dZ (iF k ds) n g))|none=>none
 |_,_,_,_=>none
theorem zq{M:aD}{ρ:Names}{k n:Nat}{e:List SV}{ds:List D}{l:List Value}(hd:tO e=some ds)(E:e.length=n*k)(G:∀ (j:Nat) (s:SV),e[j]? =some s->∃ v,l[j]? =some v/\VR M ρ s v):
  ∀ i c,i<n->c<k->∃ v,l[i*k+c]? =some v/\DR M (iF k ds i c) v:=by
 intro i c I V
 obtain⟨d1,J⟩:=tP hd
 have b:i*k+c<ds.length:=by
  rw[d1,E]
  have :(i+1)*k<=n*k:=Nat.mul_le_mul_right _ I
  rw[Nat.succ_mul]at this;omega
 have B:ds[i*k+c]? =some (ds[i*k+c]'b):=List.getElem?_eq_getElem b
 obtain⟨v,O,U⟩:=G _ _ (J _ _ B)
 refine⟨v,O,?_⟩
 unfold iF
 rw[List.getD_eq_getElem?_getD,B]
 cases U with |d _ _ h=>exact h
theorem tR{M:aD}{k n m:Nat}{f g:Nat->Nat->D}{l1 l2:List Value}(e:l1.length=n*k)(B:∀ i c,i<n->c<k->∃ v,l1[i*k+c]? =some v/\DR M (f i c) v)
  (E:∀ i c,i<m->c<k->∃ v,l2[i*k+c]? =some v/\DR M (g i c) v):∀ i c,i<n+m->c<k->∃ v,(l1++l2)[i*k+c]? =some v/\DR M (dZ f n g i c) v:=by
 intro i c G b
 unfold dZ
 by_cases h:i<n
 ·rw[if_pos h]
  have :(i+1)*k<=n*k:=Nat.mul_le_mul_right _ h
  rw[Nat.succ_mul]at this
  rw[List.getElem?_append_left (by omega)]
  exact B i c h b
 ·rw[if_neg h]
  have :n*k<=i*k:=Nat.mul_le_mul_right _ (by omega)
  rw[List.getElem?_append_right (by omega),e,show i*k+c-n*k=(i-n)*k+c by rw[Nat.sub_mul];omega]
  exact E (i-n) c (by omega) b
theorem n4{M:aD}{ρ:Names}{e k:Nat}(hk:0<k){Y U b:aB}{n m:Nat}{l1 l2:List Value}(I:CR M ρ k Y n l1)(D:CR M ρ k U m l2)(B:fI e k Y n U m=some b):CR M ρ k b (n+m) (l1++l2)/\b.n0 e=b:=by
 have hlen:(l1++l2).length=(n+m)*k:=by rw[List.length_append,I.length,D.length,Nat.add_mul]
 cases Y with
 |map=>exact I.elim
 |fam=>exact I.elim
 |iter=>exact I.elim
 |cells t1 k1 xs=>
  obtain⟨rfl,V,J,O⟩:=I
  cases U with
  |map=>exact D.elim
  |fam=>exact D.elim
  |iter=>exact D.elim
  |cells t2 k2 ys=>
   obtain⟨rfl,y2,W,E⟩:=D
   cases B
   refine⟨⟨rfl,by rw[List.length_append,V,y2,Nat.add_mul],hlen,fun j s X=>?_⟩,rfl⟩
   by_cases aa:j<xs.length
   ·rw[List.getElem?_append_left aa]at X
    obtain⟨v,v1,v2⟩:=O j s X
    exact⟨v,by rw[List.getElem?_append_left (by omega)];exact v1,v2⟩
   ·rw[List.getElem?_append_right (by omega)]at X
    obtain⟨v,v1,v2⟩:=E _ s X
    exact⟨v,by rw[List.getElem?_append_right (by omega),J,<-V];exact v1,v2⟩
  |rows t2 k2 m' g=>
   obtain⟨rfl,rfl,W,E⟩:=D
   simp only[fI]at B
   split at B
   ·cases B
    have hn:n*k2=0:=by simpa using V.symm
    have hl1:l1= []:=List.eq_nil_of_length_eq_zero (by rw[J,hn])
    have :n=0:=by
     rcases Nat.mul_eq_zero.1 hn with h|h
     ·exact h
     ·omega
    subst this;subst hl1
    rw[Nat.zero_add,List.nil_append]
    exact⟨⟨rfl,rfl,W,E⟩,rfl⟩
   ·next ah=>
    split at B
    ·next ds G=>cases B;exact⟨⟨rfl,rfl,hlen,tR J (zq G V O) E⟩,rfl⟩
    ·cases B
 |rows t1 k1 n' f=>
  obtain⟨rfl,rfl,J,O⟩:=I
  cases U with
  |map=>exact D.elim
  |fam=>exact D.elim
  |iter=>exact D.elim
  |cells t2 k2 ys=>
   obtain⟨rfl,y2,W,E⟩:=D
   simp only[fI]at B
   split at B
   ·next ds G=>cases B;exact⟨⟨rfl,rfl,hlen,tR J O (zq G y2 E)⟩,rfl⟩
   ·cases B
  |rows t2 k2 m' g=>
   obtain⟨rfl,rfl,W,E⟩:=D
   cases B
   exact⟨⟨rfl,rfl,hlen,tR J O E⟩,rfl⟩
def xX(v:SV)(h:ar)(k:Nat):Option (Prop×List (Nat×aB)×aB×Nat):=
 match v with
 | .d .bz=>some (True,[], .cells 0 k [],0)
 | .d (.vec k' len f)=>if Nat.beq k' k then some (True,[], .rows 0 k len f,len)else none
 | .sl n o len=>
  match h n with
  |some (.cells ty k' xs)=>if Nat.beq k' k&&(Nat.beq ((xs.drop (o*k)).take (len*k)).length (len*k)&&jx ((xs.drop (o*k)).take (len*k)))then some (True,[(n, .cells ty k' xs)], .cells 0 k ((xs.drop (o*k)).take (len*k)),len)else none
  |some (.rows ty k' L f)=>if Nat.beq k' k then some (o+len<=L,[(n, .rows ty k' L f)], .rows 0 k len (if Nat.beq o 0 then f else fun i c=>f (o+i) c),len)else none
  |_=>none
 |_=>none
theorem pM{v:SV}{h0:ar}{k:Nat}{vc:Prop}{bs:List (Nat×aB)}{blk:aB}{m:Nat}(e:xX v h0 k=some (vc,bs,blk,m))(a6:vc):
  (∀ p,p∈bs->h0 p.1=some p.2)/\∀ (M F:aD) (ρ:Names) (h:ar) (w:World) (a7:Value),VR M ρ v a7->HR M F ρ h w->(∀ p,p∈bs->h p.1=some p.2)->
   ∃ xa xc l,a7= .slice xa m xc/\CR M ρ k blk m l/\(m=0\/k=0\/∃ ad,xa=some ad/\∀ (j:Nat) (u:Value),l[j]? =some u->w.cell? (ad.add j)=some u/\u.oneCell'=true):=by
 unfold xX at e
 split at e
 ·cases e
  refine⟨fun p hp=>by simp at hp,fun M F ρ h w a7 hv _ _=>?_⟩
  cases hv with |d _ _ hd=>cases hd with |bz a=>exact⟨a,0,[],rfl,⟨rfl,by simp,by simp,fun j s O=>by simp at O⟩, .inl rfl⟩
 ·next B len f=>
  split at e
  ·next G=>
   cases e
   have G:=Nat.eq_of_beq_eq_true G;subst G
   refine⟨fun p hp=>by simp at hp,fun M F ρ h w a7 hv hH _=>?_⟩
   cases hv with
   |d _ _ hd=>
    cases hd with
    |ie _ _ a cap=>exact⟨a,cap,[],rfl,⟨rfl,rfl,by simp,fun i c Y=>by omega⟩, .inl rfl⟩
    |vec _ _ _ b o cap cur T fz g hb U hg hr=>
     by_cases hz:m=0\/B=0
     ·refine⟨_,cap,[],rfl,⟨rfl,rfl,?_,fun i c Y U=>by omega⟩,by rcases hz with h|h;exact .inl h;exact .inr (.inl h)⟩
      rcases hz with h|h<;>simp[h]
     ·have hm:0<m:=by omega
      have G:0<B:=by omega
      have hw:=hH.fT b _ hb
      have D:∀ j,j<m*B->∃ u,cur[o+j]? =some u/\u.oneCell'=true:=by
       intro j E
       have aa:j/B<m:=Nat.div_lt_of_lt_mul (by rw[Nat.mul_comm];exact E)
       have av:j%B<B:=Nat.mod_lt _ G
       refine⟨g (j/B) (j%B),?_,(hr _ _ aa av).one⟩
       rw[<-hg _ _ aa av]
       congr 1
       have :=Nat.div_add_mod j B
       rw[Nat.mul_comm]at this;omega
      let l:List Value:=(List.range (m*B)).map fun j=>(cur[o+j]?).getD undef
      have hl:∀ j,j<m*B->l[j]? =cur[o+j]? :=by
       intro j E
       obtain⟨u,hu,_⟩:=D j E
       simp[l,E,hu]
      refine⟨_,cap,l,rfl,⟨rfl,rfl,by simp[l],fun i c Y ax=>?_⟩, .inr (.inr ⟨⟨b,o,none⟩,rfl,fun j u E=>?_⟩)⟩
      ·have I:i*B+c<m*B:=by
        have :(i+1)*B<=m*B:=Nat.mul_le_mul_right _ Y
        rw[Nat.succ_mul]at this;omega
       refine⟨g i c,?_,hr i c Y ax⟩
       rw[hl _ I,<-hg i c Y ax];congr 1;omega
      ·have I:j<m*B:=by
        have :=(List.getElem?_eq_some_iff.1 E).1
        simpa[l]using this
       rw[hl j I]at E
       obtain⟨u',h1,h2⟩:=D j I
       rw[E]at h1;cases h1
       rw[Addr.add_lit,cell_of_row w b _ cur T fz hw]
       exact⟨E,h2⟩
  ·cases e
 ·next n o len=>
  split at e
  ·next ty B xs hn=>
   split at e
   ·next U=>
    cases e
    simp only[Bool.and_eq_true]at U
    have G:=Nat.eq_of_beq_eq_true U.1;subst G
    have hlen:=Nat.eq_of_beq_eq_true U.2.1
    refine⟨fun p hp=>by simp at hp;subst hp;exact hn,fun M F ρ h w a7 hv hH ah=>?_⟩
    have al:=ah _ (List.mem_singleton.2 rfl)
    cases hv with
    |jo _ _ x hx hR a=>exact⟨a,0,[],rfl,⟨rfl,by simp,by simp,fun j s O=>by simp at O⟩, .inl rfl⟩
    |sl _ _ _ x hx hl hR h0=>
     obtain⟨cur,k1,k2,k3,k4,k5,k6⟩:=hH.cells al hx
     have D:∀ (j:Nat) (s:SV),((xs.drop (o*B)).take (m*B))[j]? =some s->∃ u,cur[o*B+j]? =some u/\VR M ρ s u:=by
      intro j s O
      rw[List.getElem?_take]at O
      split at O
      ·rw[List.getElem?_drop]at O
       obtain⟨u,J,V⟩:=k6 _ s O
       exact⟨u,J,V⟩
      ·cases O
     let l:List Value:=(cur.toList.drop (o*B)).take (m*B)
     have W:l.length=m*B:=by
      have :m*B<=xs.length-o*B:=by
       rw[List.length_take,List.length_drop]at hlen;omega
      simp only[l,List.length_take,List.length_drop,Array.length_toList];omega
     have hl2:∀ j,j<m*B->l[j]? =cur[o*B+j]? :=by
      intro j E
      simp only[l]
      rw[List.getElem?_take,if_pos E,List.getElem?_drop,Array.getElem?_toList]
     refine⟨_,_,l,rfl,⟨rfl,hlen,W,fun j s O=>?_⟩, .inr (.inr ⟨_,rfl,fun j u E=>?_⟩)⟩
     ·have E:j<m*B:=by rw[<-hlen];exact(List.getElem?_eq_some_iff.1 O).1
      obtain⟨u,J,V⟩:=D j s O
      exact⟨u,by rw[hl2 j E];exact J,V⟩
     ·have X:j<m*B:=by rw[<-W];exact(List.getElem?_eq_some_iff.1 E).1
      rw[hl2 j X]at E
      rw[Addr.add_lit,k3,cell_of_row w x.b _ cur ty (0,0) k1]
      have a0:j<((xs.drop (o*B)).take (m*B)).length:=by rw[hlen];exact X
      obtain⟨u',J,V⟩:=D j _ (List.getElem?_eq_getElem a0)
      rw[E]at J;cases J
      exact⟨E,V.one (l4 U.2.2 j _ (List.getElem?_eq_getElem a0))⟩
   ·cases e
  ·next ty B L f hn=>
   split at e
   ·next G=>
    cases e
    have G:=Nat.eq_of_beq_eq_true G;subst G
    refine⟨fun p hp=>by simp at hp;subst hp;exact hn,fun M F ρ h w a7 hv hH ah=>?_⟩
    have al:=ah _ (List.mem_singleton.2 rfl)
    have a3:∀ i c,(if Nat.beq o 0=true then f else fun i c=>f (o+i) c) i c=f (o+i) c:=by
     intro i c
     split
     ·next h=>have :=Nat.eq_of_beq_eq_true h;subst this;rw[Nat.zero_add]
     ·rfl
    by_cases hz:m=0\/B=0
    ·have a1:CR M ρ B (.rows 0 B m (if Nat.beq o 0=true then f else fun i c=>f (o+i) c)) m []:=
      ⟨rfl,rfl,by rcases hz with h|h<;>simp[h],fun i c Y U=>by omega⟩
     have a2:∀ xa:Option Addr,m=0\/B=0\/∃ ad,xa=some ad/\∀ (j:Nat) (u:Value),([]:List Value)[j]? =some u->w.cell? (ad.add j)=some u/\u.oneCell'=true:=by
      intro xa;rcases hz with h|h
      ·exact .inl h
      ·exact .inr (.inl h)
     cases hv with
     |jo _ _ x hx hR a=>exact⟨a,0,[],rfl,a1,a2 _⟩
     |sl _ _ _ x hx hl hR h0=>exact⟨_,_,[],rfl,a1,a2 _⟩
    ·cases hv with
     |jo _ _ x hx hR a=>omega
     |sl _ _ _ x hx hl hR h0=>
      obtain⟨cur,k1,k2,k3,k4,k5,k6⟩:=hH.rows al (by omega) hx
      have G:0<B:=by omega
      have D:∀ i c,i<m->c<B->∃ u,cur[o*B+(i*B+c)]? =some u/\DR M (f (o+i) c) u:=by
       intro i c Y U
       obtain⟨u,J,V⟩:=k6 (o+i) c (by omega) U
       exact⟨u,by rw[<-J,Nat.add_mul];congr 1;omega,V⟩
      let l:List Value:=(cur.toList.drop (o*B)).take (m*B)
      have a5:o*B+m*B<=cur.size:=by rw[<-Nat.add_mul,k4];exact Nat.mul_le_mul_right _ hl
      have W:l.length=m*B:=by
       simp only[l,List.length_take,List.length_drop,Array.length_toList];omega
      have hl2:∀ j,j<m*B->l[j]? =cur[o*B+j]? :=by
       intro j E
       simp only[l]
       rw[List.getElem?_take,if_pos E,List.getElem?_drop,Array.getElem?_toList]
      refine⟨_,_,l,rfl,⟨rfl,rfl,W,fun i c Y U=>?_⟩, .inr (.inr ⟨_,rfl,fun j u E=>?_⟩)⟩
      ·have I:i*B+c<m*B:=by
        have :(i+1)*B<=m*B:=Nat.mul_le_mul_right _ Y
        rw[Nat.succ_mul]at this;omega
       obtain⟨u,J,V⟩:=D i c Y U
       exact⟨u,by rw[hl2 _ I];exact J,by rw[a3];exact V⟩
      ·have X:j<m*B:=by rw[<-W];exact(List.getElem?_eq_some_iff.1 E).1
       rw[hl2 j X]at E
       rw[Addr.add_lit,k3,cell_of_row w x.b _ cur ty (0,0) k1]
       have aa:j/B<m:=Nat.div_lt_of_lt_mul (by rw[Nat.mul_comm];exact X)
       obtain⟨u',J,V⟩:=D (j/B) (j%B) aa (Nat.mod_lt _ G)
       have a4:j/B*B+j%B=j:=by rw[Nat.mul_comm];exact Nat.div_add_mod j B
       rw[a4,E]at J;cases J
       exact⟨E,V.one⟩
   ·cases e
  ·cases e
 ·cases e
theorem HR.drew{M F:aD}{ρ:Names}{h:ar}{w:World}(H:HR M F ρ h w):HR M F ρ h w.drew:=H.drawn _
theorem iq{M F:aD}{ρ:Names}{h:ar}{w:World}(O:HR M F ρ h w){nm:Nat}(G:∀ n,nm<=n->n<nm+8->ρ n=none){e k N cap:Nat}{z:Array Value}(U:z.size=k)(hN:0<N)(v:N<=cap)(D:cap<=maxLen)
  {blk:aB} {l:List Value} (b:CR M ρ k blk N l) (I:blk.n0 e=blk) (arr:Array Value) (B:arr.toList=l):
  ∃ aq:Names,ρ.le aq/\(∀ n,n<nm\/nm+8<=n->aq n=ρ n)/\VR M aq (.sl nm 0 N) (.slice (some ⟨w.heap.size,0,none⟩) N cap)/\
   HR M F aq (upd h nm (some blk)) (w.drew.alloc (.cells (arr++Builtin.zeroCells z (cap-N)) e))/\bG w (w.drew.alloc (.cells (arr++Builtin.zeroCells z (cap-N)) e)):=by
 have J:(arr++Builtin.zeroCells z (cap-N)).size=cap*k:=by
  rw[Array.size_append,size_zeroCells,U,<-Array.length_toList,B,b.length,<-Nat.add_mul]
  congr 1;omega
 obtain⟨aq,V,W,X,Y⟩:=gS (O.drew) G k cap (by omega) blk (.cells (arr++Builtin.zeroCells z (cap-N)) e) (by
  intro aq E
  rw[<-I]
  have :BR M ρ ⟨w.heap.size,k,cap⟩ (blk.n0 e) (.cells (arr++Builtin.zeroCells z (cap-N)) e):=by
   refine CR.BR (x:=⟨w.heap.size,k,cap⟩) b ?_ J v
   rw[Array.toList_append,B,List.take_append_of_le_length (by rw[b.length];exact Nat.le_refl _)]
   rw[<-b.length,List.take_length]
  exact this.mono (aD.le_refl _) E) b.CB
 refine⟨aq,V,W,?_,Y,⟨rfl,rfl,rfl,by simp⟩⟩
 have :=VR.sl (M:=M) nm 0 N _ X (by simpa using v) D (by show 0<cap;omega)
 simpa using this
theorem gr{P:Program}{t ty e:TypeId}{i:TypeInfo}(k:P.underlying t=some (.slice e))(v:P.info? e=some i)(a b:Option Addr)(n c D:Nat)(B:n<=c)(w:World):
  (Builtin.append_ #[t,t] ty #[.slice a n c, .slice b 0 D]).run P w= .ok (.slice a n c) w:=by
 cases a with
 |none=>cases b<;>simp[Builtin.append_,run_underlying k,sizeOf,typeInfo,v,Builtin.lenOf,B,Builtin.firstCells,loadCells,loadCellsFrom]
 |some a=>cases b<;>simp[Builtin.append_,run_underlying k,sizeOf,typeInfo,v,Builtin.lenOf,B,Builtin.firstCells,loadCells,loadCellsFrom,storeCells]
def iR:Nat:=140737488355328
theorem o9{P:Program}{M F:aD}{ρ:Names}{h:ar}{w:World}(hH:HR M F ρ h w){nm:Nat}(J:∀ n,nm<=n->n<nm+8->ρ n=none){t ty e:TypeId}{i:TypeInfo}{I:Value}
  (Y:P.underlying t=some (.slice e)) (hi:P.info? e=some i) (D:i.zero=some I) (O:I.cells.size=i.size) (hk:0<i.size) (a xa:Option Addr) (m U:Nat) {blk:aB} {l:List Value} (hm:0<m)
  (B:CR M ρ i.size blk m l) (V:blk.n0 e=blk) (E:∃ ad,xa=some ad/\∀ (j:Nat) (u:Value),l[j]? =some u->w.cell? (ad.add j)=some u/\u.oneCell'=true) (hb:m*i.bytes<=iR) (G:m<=maxLen):
  ∃ aq v' w',ρ.le aq/\(∀ n,n<nm\/nm+8<=n->aq n=ρ n)/\(Builtin.append_ #[t,t] ty #[.slice a 0 0, .slice xa m U]).run P w= .ok v' w'/\VR M aq (.sl nm 0 m) v'/\HR M F aq (upd h nm (some blk)) w'/\bG w w':=by
 obtain⟨ad,rfl,b⟩:=E
 have k:(m:Int)<=9223372036854775807:=by simp only[maxLen]at G;omega
 have W:=grownCap_ge w m 0 e
 obtain⟨aq,k1,k2,k3,k4,k5⟩:=iq hH J (e:=e) O hm W (grownCap_le_maxLen w m 0 e G) B V l.toArray (by simp)
 refine⟨aq,_,_,k1,k2,?_,k3,k4,k5⟩
 cases a with
 |none=>exact run_append_nil w t ty e i I Y hi D ad m U l B.length (fun j u X=>(b j u X).1) hm k (by unfold iR at hb;omega)
 |some a=>
  have :=run_append_grow (P:=P) w t ty e i I Y hi D a 0 0 [] (by simp) (fun j v hv=>by simp at hv) ad m U l B.length (fun j u X=>(b j u X).1) (by omega) (by simpa using k)
   (by rw[Nat.zero_add,nextslicecap_zero hm];unfold iR at hb;omega)
  simp only[Nat.zero_add]at this
  rw[this]
  simp
theorem vG{P:Program}{M F:aD}{ρ:Names}{h:ar}{w:World}(hH:HR M F ρ h w){nm:Nat}(aa:∀ n,nm<=n->n<nm+8->ρ n=none){t ty e:TypeId}{i:TypeInfo}{zv:Value}
  (ht:P.underlying t=some (.slice e)) (hi:P.info? e=some i) (a3:i.zero=some zv) (a4:zv.cells.size=i.size) (hk:0<i.size) {n len m:Nat} {x:Own} (hn:h n≠none) (hx:ρ n=some x) (h0:0<x.R) (hR:x.R<=maxLen) (V:x.k=i.size)
  {cur:Array Value} (G:w.heap[x.b]? =some (.cells cur e (0,0))) (ah:cur.size=x.R*x.k) (hlen:len<=x.R) {O U blk:aB} {dl l:List Value} (W:cur.toList.take (len*i.size)=dl) (hd:CR M ρ i.size O len dl)
  (hs:CR M ρ i.size U m l) (al:fI e i.size O len U m=some blk) (xa:Option Addr) (xc:Nat) (av:m=0\/∃ ad,xa=some ad/\∀ (j:Nat) (u:Value),l[j]? =some u->w.cell? (ad.add j)=some u/\u.oneCell'=true)
  (hb:(len+m)*i.bytes<=iR) (ax:len+m<=maxLen):
  ∃ aq v' w',ρ.le aq/\(∀ n,n<nm\/nm+8<=n->aq n=ρ n)/\(Builtin.append_ #[t,t] ty #[.slice (some ⟨x.b,0,none⟩) len x.R, .slice xa m xc]).run P w= .ok v' w'/\VR M aq (.sl nm 0 (len+m)) v'/\
   HR M F aq (upd (upd h n none) nm (some blk)) w'/\bG w w':=by
 obtain⟨X,a0⟩:=n4 hk hd hs al
 have D:∀ (v:Array Value) (w':World),w'.heap[x.b]? =some (.cells v e (0,0))->(∀ b,b≠x.b->w'.heap[b]? =w.heap[b]?)->bG w w'->v.size=x.R*x.k->v.toList.take ((len+m)*i.size)=dl++l->len+m<=x.R->
   ∃ aq,ρ.le aq/\(∀ n,n<nm\/nm+8<=n->aq n=ρ n)/\VR M aq (.sl nm 0 (len+m)) (.slice (some ⟨x.b,0,none⟩) (len+m) x.R)/\HR M F aq (upd (upd h n none) nm (some blk)) w':=by
  intro v w' h1 h2 h3 h4 h5 h6
  have hB:BR M ρ x blk (.cells v e):=by
   rw[<-a0]
   exact CR.BR (x:=x) (by rw[V];exact X) (by rw[V];exact h5) h4 h6
  obtain⟨aq,Y,k2,k3,k4⟩:=hH.move aa x hn hx h0 blk (.cells v e) h1 h2 hB X.CB h3.size
  refine⟨aq,Y,k2,?_,k4⟩
  have :=VR.sl (M:=M) nm 0 (len+m) x k3 (by omega) hR h0
  simpa using this
 have I:=hd.length
 rcases av with rfl|⟨ad,rfl,B⟩
 ·have a5:l= []:=List.eq_nil_of_length_eq_zero (by rw[hs.length,Nat.zero_mul])
  subst a5
  obtain⟨aq,Y,k2,k3,k4⟩:=D cur w G (fun _ _=>rfl) (.refl _) ah (by rw[Nat.add_zero,List.append_nil];exact W) (by omega)
  exact⟨aq,_,w,Y,k2,gr ht hi _ _ _ _ _ hlen w,k3,k4, .refl _⟩
 ·by_cases E:len+m<=x.R
  ·have a1:len*i.size+l.length<=cur.size:=by rw[hs.length,ah,V,<-Nat.add_mul];exact Nat.mul_le_mul_right _ E
   have h1:∀ u,u∈l->u.oneCell'=true:=by
    intro u hu
    obtain⟨j,J⟩:=List.mem_iff_getElem?.1 hu
    exact(B j u J).2
   have hr:=run_append_room (P:=P) w t ty e i ht hi x.b len x.R cur G ad m xc l hs.length (fun j u J=>(B j u J).1) h1 E a1
   obtain⟨aq,Y,k2,k3,k4⟩:=D (cur.toList.take (len*i.size)++l++cur.toList.drop (len*i.size+l.length)).toArray _ (setRow_heap w x.b cur _ e _ G) (fun b hb=>setRow_other w x.b b _ hb) ⟨rfl,rfl,rfl,by simp⟩ (by
     simp only[List.size_toArray,List.length_append,List.length_take,List.length_drop,Array.length_toList];omega) (by
     rw[List.toList_toArray,W,List.append_assoc]
     rw[show(len+m)*i.size=(dl++l).length by rw[List.length_append,I,hs.length,Nat.add_mul]]
     rw[<-List.append_assoc]
     exact List.take_left) E
   exact⟨aq,_,_,Y,k2,hr,k3,k4,⟨rfl,rfl,rfl,by simp⟩⟩
  ·have hm:0<len+m:=by omega
   have a2:((len+m:Nat):Int)<=9223372036854775807:=by simp only[maxLen]at ax;omega
   have a6:=grownCap_ge w (len+m) x.R e
   have hr:=run_append_grow (P:=P) w t ty e i zv ht hi a3 ⟨x.b,0,none⟩ len x.R dl I (fun j u J=>by
     rw[Addr.add_lit,Nat.zero_add,cell_of_row w x.b _ cur e (0,0) G]
     rw[<-W,List.getElem?_take]at J
     split at J
     ·rw[<-Array.getElem?_toList];exact J
     ·cases J) ad m xc l hs.length (fun j u J=>(B j u J).1) (by omega) a2 (growslice_fits (by omega) (by unfold iR at hb;exact hb))
   obtain⟨aq,Y,k2,k3,k4,k5⟩:=iq (hH.drop n) aa (e:=e) a4 hm a6 (grownCap_le_maxLen w (len+m) x.R e ax) X a0 (dl.toArray++l.toArray) (by simp)
   exact⟨aq,_,_,Y,k2,hr,k3,k4,k5⟩
def mW(P:Program)(nm:Nat)(t:TypeId)(dst src:SV)(h:ar):Option Out:=
 match P.underlying t with
 |some (.slice e)=>
  match P.info? e,eP P e with
  |some inf,some z=>
   match xX src h inf.size with
   |some (vc,bs,sb,m)=>
    if Nat.blt 0 inf.size then
     match dst with
     | .d .bz=>
      match sb with
      | .rows _ k' _ g=>some (vc/\m*inf.bytes<=iR/\m<=maxLen,bs, .sl nm 0 m,[(nm,some (.rows e k' m g))])
      | .cells _ _ xs=>if Nat.blt 0 m then some (vc/\m*inf.bytes<=iR/\m<=maxLen,bs, .sl nm 0 m,[(nm,some (.cells e inf.size xs))])else none
      |_=>none
     | .sl n 0 len=>
      match h n with
      |some (.cells ty k' xs)=>
       if Nat.beq k' inf.size&&(Nat.beq ty e&&Nat.beq (xs.take (len*inf.size)).length (len*inf.size))then
        match fI e inf.size (.cells e inf.size (xs.take (len*inf.size))) len sb m with
        |some blk=>some (vc/\(len+m)*inf.bytes<=iR/\len+m<=maxLen,(n, .cells ty k' xs)::bs, .sl nm 0 (len+m),[(n,none),(nm,some blk)])
        |none=>none
       else none
      |some (.rows ty k' L f)=>
       if Nat.beq k' inf.size&&Nat.beq ty e then
        match fI e inf.size (.rows e inf.size len f) len sb m with
        |some blk=>some (len<=L/\vc/\(len+m)*inf.bytes<=iR/\len+m<=maxLen,(n, .rows ty k' L f)::bs, .sl nm 0 (len+m),[(n,none),(nm,some blk)])
        |none=>none
       else none
      |_=>none
     |_=>none
    else none
   |none=>none
  |_,_=>none
 |_=>none
theorem vH{e k:Nat}{f:Nat->Nat->D}{n m:Nat}{b blk:aB}(h:fI e k (.rows e k n f) n b m=some blk):∃ g,blk= .rows e k (n+m) g:=by
 cases b with
 |cells t k' ys=>simp only[fI]at h;split at h<;>cases h;exact⟨_,rfl⟩
 |rows t k' m' g=>simp only[fI]at h;cases h;exact⟨_,rfl⟩
 |map=>cases h
 |fam=>cases h
 |iter=>cases h
theorem AS{C:Ctx}{o:Oper}{nm:Nat}{v:Operand->SV}{h:ar}{x:Out}{t:TypeId}{a b:Operand}(ho:o.op= .call {callee:= .builtin .append,args:= #[a,b],argTypes:= #[t,t]})(e:mW C.P nm t (v a) (v b) h=some x):Sound C o nm v h x:=by
 have ma:a∈o.op.operands:=by rw[ho];simp[Op.operands,Call.operands]
 have mb:b∈o.op.operands:=by rw[ho];simp[Op.operands,Call.operands]
 have D:∀ (I:Act) (w w':World) (u:Value),(Builtin.append_ #[t,t] o.type #[I.eval a,I.eval b]).run C.P w= .ok u w'->(execOp I.eval o).run C.P w= .ok (.value u) w':=by
  intro I w w' u hr
  unfold execOp
  simp only[ho,resolve,invoke,builtin,Sem.run_bind,Sem.run_pure,Result.andThen_ok,List.map_toArray,List.map_cons,List.map_nil,hr]
 unfold mW at e
 split at e
 ·next el ax=>
  split at e
  ·next inf z O hz=>
   obtain⟨i,zv,hi,a6,bp,a7,_⟩:=dx hz
   rw[O]at hi;obtain rfl:=Option.some.inj hi
   have a8:zv.cells.size=inf.size:=by rw[<-a7,<-bp,Array.length_toList]
   split at e
   ·next vc bs sb m B=>
    split at e
    ·next hk=>
     have hk:0<inf.size:=by simpa using hk
     split at e
     ·next a0=>
      have core:∀ blk:aB,(∀ M ρ l,CR M ρ inf.size sb m l->CR M ρ inf.size blk m l/\blk.n0 el=blk)->(m=0->∃ f,blk= .rows el inf.size 0 f)->Sound C o nm v h (vc/\m*inf.bytes<=iR/\m<=maxLen,bs, .sl nm 0 m,[(nm,some blk)]):=by
       intro blk bh hg
       rintro⟨U,hb,V⟩
       obtain⟨s1,s2⟩:=pM B U
       refine⟨dn fun M F ρ I h w hv W E J=>?_,s1,by simp[cC]⟩
       obtain⟨xa,xc,l,al,a4,X⟩:=s2 M F ρ h w _ (hv b mb) W E
       have av:=hv a ma
       rw[a0]at av
       obtain⟨bx,bl⟩:∃ bx,I.eval a= .slice bx 0 0:=by
        cases av with |d _ _ hd=>generalize I.eval a=q at hd;cases hd with |bz bx=>exact⟨bx,rfl⟩
       obtain⟨c1,c2⟩:=bh M ρ l a4
       rcases Nat.eq_zero_or_pos m with hm|hm
       ·obtain⟨f,rfl⟩:=hg hm
        obtain⟨aq,k1,k2,k3,k4⟩:=W.ghost J el inf.size f
        refine⟨aq, .slice bx 0 0,w,k1,k2,D I w w _ ?_,?_,k4, .refl _⟩
        ·rw[bl,al,hm];exact gr ax O bx xa 0 0 xc (Nat.le_refl _) w
        ·rw[hm];exact .jo nm 0 _ k3 rfl bx
       ·have Y:∃ ad,xa=some ad/\∀ (j:Nat) (u:Value),l[j]? =some u->w.cell? (ad.add j)=some u/\u.oneCell'=true:=by
         rcases X with h|h|h
         ·omega
         ·omega
         ·exact h
        obtain⟨aq,v',w',k1,k2,k3,k4,k5,k6⟩:=o9 W J (ty:=o.type) ax O a6 a8 hk bx xa m xc hm c1 c2 Y hb V
        exact⟨aq,v',w',k1,k2,D I w w' _ (by rw[bl,al];exact k3),k4,k5,k6⟩
      split at e
      ·next t' k' m' g=>
       cases e
       refine core _ (fun M ρ l hc=>?_) (fun hm=>?_)
       ·obtain⟨rfl,rfl,c3,c4⟩:=hc;exact⟨⟨rfl,rfl,c3,c4⟩,rfl⟩
       ·subst hm
        have a1:k'=inf.size:=by
         unfold xX at B
         split at B
         ·cases B
         ·split at B<;>cases B;rfl
         ·split at B
          ·split at B<;>cases B
          ·split at B<;>cases B;rfl
          ·cases B
         ·cases B
        subst a1;exact⟨g,rfl⟩
      ·next t' k' xs=>
       split at e
       ·next hm=>
        cases e
        refine core _ (fun M ρ l hc=>?_) (fun h0=>?_)
        ·obtain⟨rfl,c2,c3,c4⟩:=hc;exact⟨⟨rfl,c2,c3,c4⟩,rfl⟩
        ·subst h0;simp at hm
       ·cases e
      ·cases e
     ·next n len a0=>
      have real:∀ (a2 aa blk:aB) (M F:aD) (ρ:Names) (I:Act) (h:ar) (w:World),vc->(len+m)*inf.bytes<=iR->len+m<=maxLen->(∀ x,x∈o.op.operands->VR M ρ (v x) (I.eval x))->HR M F ρ h w->(∀ p,p∈(n,a2)::bs->h p.1=some p.2)->
        (∀ n,nm<=n->n<nm+8->ρ n=none)->fI el inf.size aa len sb m=some blk->
        (∀ x:Own,ρ n=some x->0<x.R->len<=x.R->x.R<=maxLen->∃ cur,x.k=inf.size/\w.heap[x.b]? =some (.cells cur el (0,0))/\cur.size=x.R*x.k/\CR M ρ inf.size aa len (cur.toList.take (len*inf.size)))->
        (len=0->∀ x:Own,ρ n=some x->x.R=0->∃ f,aa= .rows el inf.size 0 f)->
        ∃ aq u' w',ρ.le aq/\(∀ n,n<nm\/nm+8<=n->aq n=ρ n)/\(execOp I.eval o).run C.P w= .ok (.value u') w'/\VR M aq (.sl nm 0 (len+m)) u'/\HR M F aq (dB h [(n,none),(nm,some blk)]) w'/\bG w w':=by
       intro a2 aa blk M F ρ I h w U hb V hv W E J G ba a5
       obtain⟨s1,s2⟩:=pM B U
       obtain⟨xa,xc,l,al,a4,X⟩:=s2 M F ρ h w _ (hv b mb) W (fun p hp=>E p (List.mem_cons_of_mem _ hp))
       have ah:m=0\/∃ ad,xa=some ad/\∀ (j:Nat) (u:Value),l[j]? =some u->w.cell? (ad.add j)=some u/\u.oneCell'=true:=by
        rcases X with h|h|h
        ·exact .inl h
        ·omega
        ·exact .inr h
       have hn:=E (n,a2) (List.mem_cons_self ..)
       have av:=hv a ma
       rw[a0]at av
       generalize hq:I.eval a=q at av
       cases av with
       |sl _ _ _ x hx hl hR h0=>
        obtain⟨cur,c1,c2,c3,c4⟩:=ba x hx h0 (by omega) hR
        obtain⟨aq,v',w',k1,k2,k3,k4,k5,k6⟩:=vG W J (ty:=o.type) ax O a6 a8 hk (by rw[hn];simp) hx h0 hR c1 c2 c3 (by omega) rfl c4 a4 G xa xc ah hb V
        refine⟨aq,v',w',k1,k2,D I w w' _ ?_,k4,k5,k6⟩
        rw[hq,al]
        simpa using k3
       |jo _ _ x hx hR bx=>
        obtain⟨f,rfl⟩:=a5 rfl x hx hR
        obtain⟨g,rfl⟩:=vH G
        have bn:CR M ρ inf.size (.rows el inf.size 0 f) 0 []:=⟨rfl,rfl,by simp,fun i c hi=>by omega⟩
        obtain⟨c1,c2⟩:=n4 hk bn a4 G
        rw[List.nil_append]at c1
        simp only[Nat.zero_add]at c1 hb V ⊢
        rcases Nat.eq_zero_or_pos m with hm|hm
        ·subst hm
         obtain⟨aq,k1,k2,k3,k4⟩:=(W.drop n).ghost J el inf.size g
         refine⟨aq, .slice bx 0 0,w,k1,k2,D I w w _ ?_, .jo nm 0 _ k3 rfl bx,k4, .refl _⟩
         rw[hq,al];exact gr ax O bx xa 0 0 xc (Nat.le_refl _) w
        ·have Y:=ah.resolve_left (by omega)
         obtain⟨aq,v',w',k1,k2,k3,k4,k5,k6⟩:=o9 (W.drop n) J (ty:=o.type) ax O a6 a8 hk bx xa m xc hm c1 rfl Y hb V
         exact⟨aq,v',w',k1,k2,D I w w' _ (by rw[hq,al];exact k3),k4,k5,k6⟩
      split at e
      ·next ty k' xs hn=>
       split at e
       ·next hc=>
        split at e
        ·next blk G=>
         cases e
         rintro⟨U,hb,V⟩
         simp only[Bool.and_eq_true]at hc
         have a1:=Nat.eq_of_beq_eq_true hc.1;subst a1
         have bc:=Nat.eq_of_beq_eq_true hc.2.1;subst bc
         have hlen:=Nat.eq_of_beq_eq_true hc.2.2
         obtain⟨s1,s2⟩:=pM B U
         refine⟨dn fun M F ρ I h w hv W E J=>?_,?_,by simp[cC]⟩
         ·refine real _ _ blk M F ρ I h w U hb V hv W E J G ?_ ?_
          ·intro x hx h0 hl hR
           have a3:=E _ (List.mem_cons_self ..)
           obtain⟨cur,k1,k2,k3,k4,k5,k6⟩:=W.cells a3 hx
           refine⟨cur,k3,k1,by rw[k4,k3],rfl,hlen,?_,fun j s hs=>?_⟩
           ·rw[List.length_take,Array.length_toList,k4]
            rw[List.length_take]at hlen;omega
           ·rw[List.getElem?_take]at hs ⊢
            split at hs
            ·next hj=>rw[if_pos hj,Array.getElem?_toList];exact k6 j s hs
            ·cases hs
          ·intro _ x hx bq
           have a3:=E _ (List.mem_cons_self ..)
           obtain⟨cur,k1,k2,_⟩:=W.cells a3 hx
           omega
         ·intro p hp
          rcases List.mem_cons.1 hp with rfl|hp
          ·exact hn
          ·exact s1 p hp
        ·cases e
       ·cases e
      ·next ty k' L f hn=>
       split at e
       ·next hc=>
        split at e
        ·next blk G=>
         cases e
         rintro⟨hL,U,hb,V⟩
         simp only[Bool.and_eq_true]at hc
         have a1:=Nat.eq_of_beq_eq_true hc.1;subst a1
         have bc:=Nat.eq_of_beq_eq_true hc.2;subst bc
         obtain⟨s1,s2⟩:=pM B U
         refine⟨dn fun M F ρ I h w hv W E J=>?_,?_,by simp[cC]⟩
         ·refine real _ _ blk M F ρ I h w U hb V hv W E J G ?_ ?_
          ·intro x hx h0 hl hR
           have a3:=E _ (List.mem_cons_self ..)
           obtain⟨x',bo,hr⟩:=W.live n _ a3
           rw[hx]at bo;obtain rfl:=Option.some.inj bo
           rcases hr with⟨bu,_⟩|⟨_,_,_,ob,h3,h4⟩
           ·omega
           ·cases ob with
            |cells cur T fz=>
             obtain⟨rfl,rfl,g1,g2,g3,g4⟩:=h4
             refine⟨cur,g1,h3,by rw[g2,g1],rfl,rfl,?_,fun i c hi br=>?_⟩
             ·rw[List.length_take,Array.length_toList,g2]
              have :len*inf.size<=x.R*inf.size:=Nat.mul_le_mul_right _ hl
              omega
             ·obtain⟨u,u1,u2⟩:=g4 i c (by omega) br
              have :(i+1)*inf.size<=len*inf.size:=Nat.mul_le_mul_right _ hi
              rw[Nat.succ_mul]at this
              exact⟨u,by rw[List.getElem?_take,if_pos (by omega),Array.getElem?_toList];exact u1,u2⟩
            |_=>exact h4.elim
          ·rintro rfl x hx bq;exact⟨f,rfl⟩
         ·intro p hp
          rcases List.mem_cons.1 hp with rfl|hp
          ·exact hn
          ·exact s1 p hp
        ·cases e
       ·cases e
      ·cases e
     ·cases e
    ·cases e
   ·cases e
  ·cases e
 ·cases e
end Go.Proofs.YtifcaekngfgdmaaDoor.Nice
