/- Part 10 of the proof of TopFile. -/
import Derived.Test.YtifcaekngfgdmaaDoorZM9
import Derived.Conc.WgWords
import Derived.Conc.SmallLaws
import Derived.Conc.WgGenWait
import Derived.Conc.LeavingOf
set_option linter.unusedVariables false
set_option linter.unusedSimpArgs false
set_option maxRecDepth 100000
set_option maxHeartbeats 4000000
namespace Go.Proofs.YtifcaekngfgdmaaDoor.Nice.Co
open Go Go.Conc
open Go.ConcR (KK WgAt stA smA mk DC0)
inductive Ps where
 |p0
 |p1 (Ch:Nat)
 |p2 (Wg Ch:Nat) (ty:TypeId)
def s6:Obj:= .chan 0 #[] false 0 0 false
def pk(ty:TypeId):Obj:=Go.ConcR.wgBlock ty 0 0
structure Made (w w':World) (o:Obj):Prop where
 same:bG w w'
 size:w'.heap.size=w.heap.size+1
 at_:w'.heap[w.heap.size]? =some o
 ab:∀ b,b<w.heap.size->w'.heap[b]? =w.heap[b]?
inductive gy (P:Program) (Q:Goroutine->World->Prop):Goroutine->World->Prop
 |done {g w} (h:Q g w):gy P Q g w
 |step {g w g' w' es} (hs:g.status= .running) (h:stepG P true g w= .go g' w' es) (hz:w.heap.size<=w'.heap.size) (hc:∀ e,e∈es->Calm w'.heap.size e) (k:gy P Q g' w'):gy P Q g w
theorem gy.mono{P:Program}{Q Q':Goroutine->World->Prop}(b:∀ g w,Q g w->Q' g w){g:Goroutine}{w:World}(h:gy P Q g w):gy P Q' g w:=by
 induction h with
 |done h=>exact .done (b _ _ h)
 |step hs h hz hc k ih=>exact .step hs h hz hc ih
abbrev wZ:=Ps->aI->Goroutine->World->Prop
inductive j7 (P:Program) (aK:Value->World->Prop) (Rd:aI) (K:wZ) (ps:Ps) (A:aI) (g:Goroutine) (w:World):Prop
 |own (hs:g.status= .running) (h:∀ af,dd A Rd w af->∃ g' w' es,stepG P true g af= .go g' w' es/\mc A Rd af w' es/\K ps (more A af w') g' w')
 |ret (hs:g.status= .running) (h:∀ af,dd A Rd w af->∃ v es,stepG P true g af= .ended (.done v) af es/\(∀ e,e∈es->l9 A Rd e)/\aK v af)
 |By (hs:g.status= .running) (hp:ps= .p0) (h:∀ af,dd A Rd w af->∃ g' w',stepG P true g af= .go g' w' #[]/\Made af w' s6/\K (.p1 af.heap.size) A g' w')
 |Bz (hs:g.status= .running) (Ch:Nat) (ty:TypeId) (hp:ps= .p1 Ch) (h:∀ af,dd A Rd w af->∃ g' w',stepG P true g af= .go g' w' #[]/\Made af w' (pk ty)/\K (.p2 af.heap.size Ch ty) A g' w')
 |lone (hp:ps= .p0) (h:∀ af,dd A Rd w af->gy P (fun g' w'=>bG af w'/\(∀ b,b<af.heap.size-> ¬ A b->w'.heap[b]? =af.heap[b]?)/\K .p0 (more A af w') g' w') g af)
 |start (p:Pr) (hp:ps= .p2 p.Wg p.Ch p.ty) (h:oF p A Rd->∀ af,dd A Rd w af->gm p af->cy P p aK true ⟨A,Rd,0, .spawn 0 false⟩ g af)
section
variable {P:Program} {aK:Value->World->Prop} {Rd:aI} {K K':wZ} {ps:Ps} {A:aI} {g:Goroutine} {w yw:World}
theorem j7.mono(h:∀ ps A g w,K ps A g w->K' ps A g w)(n:j7 P aK Rd K ps A g w):j7 P aK Rd K' ps A g w:=by
 cases n with
 |own v k=>exact .own v fun af e=>let⟨g',w',es,a,b,c⟩:=k af e;⟨g',w',es,a,b,h _ _ _ _ c⟩
 |ret v k=>exact .ret v k
 |By v B k=>exact .By v B fun af e=>let⟨g',w',a,b,c⟩:=k af e;⟨g',w',a,b,h _ _ _ _ c⟩
 |Bz v Ch ty B k=>exact .Bz v Ch ty B fun af e=>let⟨g',w',a,b,c⟩:=k af e;⟨g',w',a,b,h _ _ _ _ c⟩
 |lone B k=>exact .lone B fun af e=>(k af e).mono fun g w ⟨a,b,c⟩=>⟨a,b,h _ _ _ _ c⟩
 |start p B k=>exact .start p B k
theorem j7.rely(n:j7 P aK Rd K ps A g w)(r:dd A Rd w yw):j7 P aK Rd K ps A g yw:=by
 cases n with
 |own k e=>exact .own k fun af b=>e af (r.trans b)
 |ret k e=>exact .ret k fun af b=>e af (r.trans b)
 |By k v e=>exact .By k v fun af b=>e af (r.trans b)
 |Bz k Ch ty v e=>exact .Bz k Ch ty v fun af b=>e af (r.trans b)
 |lone v e=>exact .lone v fun af b=>e af (r.trans b)
 |start p v e=>exact .start p v fun B af b=>e B af (r.trans b)
end
section
variable (P:Program) (aK:Value->World->Prop) (Rd:aI)
def r5:cb->wZ
 | .node α f=>fun ps A g w=>j7 P aK Rd (fun ps A g w=>∃ a,r5 (f a) ps A g w) ps A g w
def oG:wZ:=fun ps A g w=>∃ r,r5 P aK Rd r ps A g w
end
section
variable {P:Program} {aK:Value->World->Prop} {Rd:aI} {ps:Ps} {A:aI} {g:Goroutine} {w af:World}
def yy(P:Program)(aK:Value->World->Prop)(Rd:aI)(r:cb):wZ:=fun ps A g w=>∃ b,b.Lt r/\r5 P aK Rd b ps A g w
theorem r5.node{r:cb}(h:r5 P aK Rd r ps A g w):j7 P aK Rd (yy P aK Rd r) ps A g w:=by
 cases r with
 |node α f=>exact j7.mono (fun ps A g w ⟨a,h⟩=>⟨f a, .mk α f a,h⟩) h
theorem r5.rely{r:cb}(h:r5 P aK Rd r ps A g w)(x:dd A Rd w af):r5 P aK Rd r ps A g af:=by
 cases r with
 |node α f=>exact j7.rely h x
theorem oG.intro(h:j7 P aK Rd (oG P aK Rd) ps A g w):oG P aK Rd ps A g w:=by
 let α:Type:={q:Ps×aI×Goroutine×World//oG P aK Rd q.1 q.2.1 q.2.2.1 q.2.2.2}
 refine⟨.node α fun a=>Classical.choose a.2,j7.mono (fun ps A g w h=>⟨⟨(ps,A,g,w),h⟩,Classical.choose_spec h⟩) h⟩
end
def fD(P:Program)(aK:Value->World->Prop)(Rd:aI)(ps:Ps):Tr P where
 main:=true
 Rd:=Rd
 T:=fun A g w=>oG P aK Rd ps A g w
 step:=fun A g w b h=>oG.intro (.own b h)
 rely:=fun A g w af ⟨r,h⟩ x=>⟨r,h.rely x⟩
def JV(A Rd:aI)(w:World):Ps->Prop
 | .p0=>True
 | .p1 Ch=>w.heap[Ch]? =some s6/\ ¬ A Ch/\ ¬ Rd Ch
 | .p2 Wg Ch ty=>w.heap[Ch]? =some s6/\ ¬ A Ch/\ ¬ Rd Ch/\w.heap[Wg]? =some (pk ty)/\ ¬ A Wg/\ ¬ Rd Wg
def w5:Ps->Nat->Prop
 | .p0,_=>True
 | .p1 Ch,b=>b≠Ch
 | .p2 Wg Ch _,b=>b≠Ch/\b≠Wg
structure PI (A Rd:aI) (ps:Ps) (w:World) (t:Trace):Prop where
 a:∀ b,A b->b<w.heap.size/\ ¬ Rd b
 r:∀ b,Rd b->b<w.heap.size
 s:JV A Rd w ps
 g:∀ op,op∈t->op.g=0
 tt:∀ q x,touchAt t q=some x->(∀ b,fC x.loc=some b->b<w.heap.size/\w5 ps b)/\x.kind≠ .said
 d:Deaf t 0=0
section
variable {P:Program} {aK:Value->World->Prop} {Rd:aI} {ps:Ps} {A:aI} {g g':Goroutine} {w w':World} {t:Trace} {sl:Option (Nat×Nat)}
theorem BA{A Rd:aI}{e:Event}(h:l9 A Rd e):∀ x,(MemAct.ofEvent e).touch?=some x->(∃ b,fC x.loc=some b/\(A b\/Rd b))/\x.kind≠ .said:=by
 intro x k
 rcases h with⟨ad,s,rfl,h⟩|⟨ad,s,rfl,h⟩|rfl|⟨r,wr,rfl,h⟩
 ·cases s<;>simp[MemAct.ofEvent,MemAct.touch?]at k<;>subst k<;>exact⟨⟨_,rfl,h⟩,by simp⟩
 ·cases s<;>simp[MemAct.ofEvent,MemAct.touch?]at k<;>subst k<;>exact⟨⟨_,rfl, .inl h⟩,by simp⟩
 ·simp[noRoomEvent,MemAct.ofEvent,MemAct.touch?]at k
 ·simp[MemAct.ofEvent,MemAct.touch?]at k;subst k;exact⟨⟨r,rfl, .inl h⟩,by simp⟩
theorem PI.spare(I:PI A Rd ps w t){b:Nat}(h:A b\/Rd b):b<w.heap.size/\w5 ps b:=by
 refine⟨h.elim (fun h=>(I.a b h).1) (I.r b),?_⟩
 have k:=I.s
 cases ps with
 |p0=>trivial
 |p1 Ch=>exact fun e=>by subst e;exact h.elim k.2.1 k.2.2
 |p2 Wg Ch ty=>
  obtain⟨_,c1,v,_,B,D⟩:=k
  exact⟨fun e=>by subst e;exact h.elim c1 v,fun e=>by subst e;exact h.elim B D⟩
theorem q9{n:Nat}{e:Event}(h:Calm n e):∀ x,(MemAct.ofEvent e).touch?=some x->(∀ b,fC x.loc=some b->b<n)/\x.kind≠ .said:=by
 intro x k
 obtain⟨l,wr,s⟩:=e
 cases l with
 |cell a=>cases s<;>simp[MemAct.ofEvent,MemAct.touch?]at k<;>subst k<;>exact⟨fun b v=>by cases v;exact h,by simp⟩
 |obj r=>cases s<;>cases wr<;>simp[MemAct.ofEvent,MemAct.touch?]at k<;>subst k<;>exact⟨fun b v=>by cases v;exact h,by simp⟩
 |mark m=>have h:m= .noRoom:=h;subst h;simp[MemAct.ofEvent,MemAct.touch?]at k
 |_=>exact h.elim
theorem BB{es:Array Event}{n:Nat}(h:∀ e,e∈es->Calm n e)(d:Nat):deafBehind d es=d:=by
 refine Go.ConcN.deafBehind_idle (fun e b=>?_) d
 have :=h e b
 obtain⟨l,wr,s⟩:=e
 cases l with
 |mark m=>have this:m= .noRoom:=this;subst this;simp
 |_=>simp
theorem PI.evs(I:PI A Rd ps w t){es:Array Event}{n:Nat}(G:w.heap.size<=n)(h:∀ e,e∈es->∀ x,(MemAct.ofEvent e).touch?=some x->(∀ b,fC x.loc=some b->b<n/\w5 ps b)/\x.kind≠ .said)(hd:∀ d,deafBehind d es=d)(fn:FuncId)(pos:String):
  (∀ op,op∈t++MemOp.ofEvents 0 fn pos es->op.g=0)/\(∀ q x,touchAt (t++MemOp.ofEvents 0 fn pos es) q=some x->(∀ b,fC x.loc=some b->b<n/\w5 ps b)/\x.kind≠ .said)/\Deaf (t++MemOp.ofEvents 0 fn pos es) 0=0:=by
 refine⟨fun op v=>?_,fun q x J=>?_,by rw[Deaf_own,hd,I.d]⟩
 ·rcases Array.mem_append.1 v with h'|h'
  ·exact I.g op h'
  ·exact Go.ConcR.g_of_ofEvents op h'
 ·rcases dr J with⟨_,k⟩|⟨_,op,_,B,k⟩
  ·obtain⟨D,O⟩:=I.tt q x k
   exact⟨fun b E=>⟨Nat.lt_of_lt_of_le (D b E).1 G,(D b E).2⟩,O⟩
  ·obtain⟨e,U,rfl⟩:=oD B
   exact h e U x k
theorem PI.ev(I:PI A Rd ps w t){es:Array Event}(h:∀ e,e∈es->l9 A Rd e){n:Nat}(v:w.heap.size<=n)(fn:FuncId)(pos:String):
  (∀ op,op∈t++MemOp.ofEvents 0 fn pos es->op.g=0)/\(∀ q x,touchAt (t++MemOp.ofEvents 0 fn pos es) q=some x->(∀ b,fC x.loc=some b->b<n/\w5 ps b)/\x.kind≠ .said)/\Deaf (t++MemOp.ofEvents 0 fn pos es) 0=0:=
 I.evs v (fun e D x E=>by
  obtain⟨⟨b,G,B⟩,J⟩:=BA (h e D) x E
  refine⟨fun b' k=>?_,J⟩
  rw[G]at k;obtain rfl:=Option.some.inj k
  exact⟨Nat.lt_of_lt_of_le (I.spare B).1 v,(I.spare B).2⟩) (fun d=>Aa h d) fn pos
theorem PI.nil(I:PI A Rd ps w t)(fn:FuncId)(pos:String):t++MemOp.ofEvents 0 fn pos #[]=t:=by simp[MemOp.ofEvents]
theorem nD:((#[g]:Array Goroutine).map (Go.Conc.woken P g g' w')).setIfInBounds 0 g'= #[g']:=by
 apply Array.ext_getElem?
 intro k
 cases k with
 |zero=>simp
 |succ k=>simp
theorem PI.begin(I:PI A Rd ps w t){p:Pr}(hp:ps= .p2 p.Wg p.Ch p.ty){r:cb}(hR:ig P p aK r true ⟨A,Rd,0, .spawn 0 false⟩ g w):Inv P p aK #[g] w (fun _=>⟨A,Rd,0, .spawn 0 false⟩) (fun _=>r) ⟨0,0,0,false⟩ t:=by
 subst hp
 obtain⟨E,c1,c2,D,w1,w2⟩:=I.s
 have W:p.Wg≠p.Ch:=by
  intro e
  rw[e,E]at D
  simp[s6,pk,Go.ConcR.wgBlock]at D
 have G:∀ i,i<(#[g]:Array Goroutine).size->i=0:=fun i v=>by simpa using v
 have kn:∀ q x,touchAt t q=some x->Knows t 0 q:=fun q x k=>by
  obtain⟨op,ho,_⟩:=touch_of k
  have :=knows_own ho
  rwa[I.g op (Array.mem_of_getElem? ho)]at this
 refine⟨.spawn 0 false rfl rfl (by simp) (fun i J U=>by omega) rfl,⟨by unfold WgAt;simpa[pk]using D,0,E⟩,?_,?_,fun i x k=>?_,fun a V B=>?_,fun i J _ U=>?_,fun h=>?_,fun h=>by cases h⟩
 ·refine⟨fun i j b v hj O=>by rw[G i v,G j hj]at O;exact absurd rfl O,fun i j b v hj J U=>(I.a b J).2 U,fun i b v h=>⟨(I.a b h).1,fun e=>w1 (e▸h),fun e=>c1 (e▸h)⟩,fun i b v h=>⟨I.r b h,fun e=>w2 (e▸h),fun e=>c2 (e▸h)⟩,(Array.getElem?_eq_some_iff.1 D).1,(Array.getElem?_eq_some_iff.1 E).1,W⟩
 ·refine⟨fun q op hq=>?_,fun i l b v hl B q x k X=>?_,fun i l b v hl B q x k X _=>?_,fun q x k B=>?_,fun q x b k B=>?_,fun q x k hk=>absurd hk (I.tt q x k).2,fun said=>?_,fun i v=>?_⟩
  ·rw[I.g op (Array.mem_of_getElem? hq)];simp
  ·rw[G i v];exact kn q x k
  ·rw[G i v];exact kn q x k
  ·have J:=(I.tt q x k).1
   rcases B with B|B
   ·exact((J _ B).2.2 rfl).elim
   ·exact((J _ B).2.1 rfl).elim
  ·exact((I.tt q x k).1 _ B).1
  ·have :=noRace_append (t:= #[]) (u:=t) (g:=0) (Go.ConcN.noRace_nil said) (fun op Y=>I.g op Y) (fun i a V=>by simp[touchAt,Trace.act?]at V)
   simpa using this
  ·rw[G i v];exact I.d
 ·have :i=0:=G i (Array.getElem?_eq_some_iff.1 k).1
  subst this
  simp at k;subst k
  exact oz.of_run hR (.inr (by simp))
 ·simp at V;subst V
  rcases hR.node.status with h|⟨_,h,_⟩
  ·rw[h]at B;cases B
  ·cases h
 ·simp at U;omega
 ·simp at h
theorem r5.JW:∀ {r:cb} {ps:Ps} {A:aI} {g:Goroutine} {w:World} {sl:Option (Nat×Nat)} {t:Trace},r5 P aK Rd r ps A g w->PI A Rd ps w t->(ps= .p0->sl=none)->
  ∃ N last o w' V,runNT P (N+1) (crowd #[g] w sl) t=(.ended o w',V)/\runN P N (crowd #[g] w sl)= .next last/\Go.step P last= .ended o w'/\Go.Conc.Good P aK last o w' V:=by
 intro r
 induction r using cb.wf.induction with
 |_ r ih=>
 intro ps A g w sl t h I a1
 have aa:∀ d,dd A Rd w (w.at d):=fun d=>⟨⟨rfl,rfl,rfl,Nat.le_refl _⟩,fun _ _=>rfl⟩
 have pick:g.status= .running->∃ (d:Nat) (sl':Option (Nat×Nat)),stepT P (crowd #[g] w sl)=runT P (crowd #[g] (w.at d) sl') 0/\(ps= .p0->sl'=none):=fun O=>by
  by_cases a2:ps= .p0
  ·have :=a1 a2
   subst this
   exact⟨w.drawn,none,stepT_solo O,fun _=>rfl⟩
  obtain⟨i,g',d,sl',hi,hr,U⟩:=crowd_pick (P:=P) (gs:= #[g]) (w:=w) (sl:=sl) (fun x B=>by simp at B;subst B;intro tm;rw[O];simp) ⟨0,g,by simp,O⟩
  have :i=0:=by have :=(Array.getElem?_eq_some_iff.1 hi).1;simpa using this
  subst this
  exact⟨d,sl',U,fun h=>absurd h a2⟩
 have on:∀ {ah:Ps} {A':aI} {g':Goroutine} {w':World} {sl':Option (Nat×Nat)} {ops:Trace},stepT P (crowd #[g] w sl)=(.next (crowd #[g'] w' sl'),ops)->yy P aK Rd r ah A' g' w'->PI A' Rd ah w' (t++ops)->(ah= .p0->sl'=none)->
   ∃ N last o w' V,runNT P (N+1) (crowd #[g] w sl) t=(.ended o w',V)/\runN P N (crowd #[g] w sl)= .next last/\Go.step P last= .ended o w'/\Go.Conc.Good P aK last o w' V:=by
  rintro ah A' g' w' sl' ops O ⟨r',E,hR⟩ hI G
  obtain⟨n,last,o,ax,V,h1,W,h3,h4⟩:=ih r' E (sl:=sl') hR hI G
  exact⟨n+1,last,o,ax,V,by rw[runNT_succ_next O];exact h1,by rw[runN_succ_next O];exact W,h3,h4⟩
 cases h.node with
 |own O X=>
  obtain⟨d,sl',U,G⟩:=pick O
  obtain⟨g',w',es,a,b,c⟩:=X _ (aa d)
  have D:=runT_crowd_go (P:=P) (gs:= #[g]) (w:=w.at d) (sl:=sl') (i:=0) (g:=g) (by simp) (by simpa using a)
  rw[nD]at D
  obtain⟨k1,k2,k3⟩:=I.ev b.evs (n:=w'.heap.size) b.same.size g.frame.fn g.frame.place
  refine on (U.trans D) c ?_ G
  refine⟨fun x B=>?_,fun x B=>Nat.lt_of_lt_of_le (I.r x B) b.same.size,?_,k1,k2,k3⟩
  ·rcases B with B|⟨h1,W⟩
   ·exact⟨Nat.lt_of_lt_of_le (I.a x B).1 b.same.size,(I.a x B).2⟩
   ·exact⟨W,fun hr=>by have :=I.r x hr;have a5:w.heap.size<=x:=h1;omega⟩
  ·have ab:∀ x,x<w.heap.size-> ¬ A x->w'.heap[x]? =w.heap[x]? :=fun x h1 W=>b.ab x h1 W
   have J:∀ x,x<w.heap.size-> ¬ A x-> ¬ more A (w.at d) w' x:=fun x h1 W h=>h.elim W fun h=>by have :=h.1;have a5:w.heap.size<=x:=this;omega
   cases ps with
   |p0=>trivial
   |p1 Ch=>
    obtain⟨e1,Y,e3⟩:=I.s
    have E:=(Array.getElem?_eq_some_iff.1 e1).1
    exact⟨by rw[ab _ E Y];exact e1,J _ E Y,e3⟩
   |p2 Wg Ch ty=>
    obtain⟨e1,Y,e3,f1,f2,f3⟩:=I.s
    have E:=(Array.getElem?_eq_some_iff.1 e1).1
    have av:=(Array.getElem?_eq_some_iff.1 f1).1
    exact⟨by rw[ab _ E Y];exact e1,J _ E Y,e3,by rw[ab _ av f2];exact f1,J _ av f2,f3⟩
 |ret O X=>
  obtain⟨d,sl',U,G⟩:=pick O
  obtain⟨v,es,a,b,c⟩:=X _ (aa d)
  have D:runT P (crowd #[g] (w.at d) sl') 0=(.ended (.done v) (w.at d),MemOp.ofEvents 0 g.frame.fn g.frame.place es):=by
   have a6:=swapAt_of_lt (gs:= #[g]) (i:=0) (by simp) {(default:Goroutine)with status:= .finished}
   show runT P {world:=w.at d,gs:= #[g],rest:={timers:= #[],alone:=none,slice:=sl'}} 0=_
   unfold runT
   simp only[a6,beq_self_eq_true,List.getElem_toArray,List.getElem_cons_zero,a,GStep.es]
  rw[D]at U
  obtain⟨k1,k2,k3⟩:=I.ev b (Nat.le_refl _) g.frame.fn g.frame.place
  refine⟨0,_, .done v,w.at d,t++MemOp.ofEvents 0 g.frame.fn g.frame.place es,by simp[runNT,U],rfl,by simp[Go.step,U],v,rfl,c,fun said=>?_,?_,⟨?_,rfl⟩,?_⟩
  ·have :=noRace_append (t:= #[]) (u:=t++MemOp.ofEvents 0 g.frame.fn g.frame.place es) (g:=0) (Go.ConcN.noRace_nil said) k1 (fun i a ha=>by simp[touchAt,Trace.act?]at ha)
   simpa using this
  ·intro i j hg a7
   obtain⟨op,ho,a3⟩:=Option.map_eq_some_iff.1 hg
   rw[k1 op (Array.mem_of_getElem? ho)]at a3
   exact absurd a3.symm a7
  ·intro x B
   have e:(crowd #[g] w sl).gs.toList.drop 1= []:=rfl
   rw[e]at B;cases B
  ·intro i x B hi
   exfalso
   have :=(Array.getElem?_eq_some_iff.1 B).1
   simp[crowd]at this
   exact hi this
 |By O hp X=>
  subst hp
  obtain⟨d,sl',U,G⟩:=pick O
  obtain⟨g',w',a,b,c⟩:=X _ (aa d)
  have D:=runT_crowd_go (P:=P) (gs:= #[g]) (w:=w.at d) (sl:=sl') (i:=0) (g:=g) (by simp) (by simpa using a)
  rw[nD]at D
  refine on (U.trans D) c ?_ (fun h=>by cases h)
  rw[I.nil]
  have al:w'.heap.size=w.heap.size+1:=b.size
  refine⟨fun x B=>⟨by have :=(I.a x B).1;omega,(I.a x B).2⟩,fun x B=>by have :=I.r x B;omega,⟨b.at_,fun h=>?_,fun h=>?_⟩,I.g,fun q x B=>⟨fun y hy=>⟨by have :=((I.tt q x B).1 y hy).1;omega,fun e=>by have :=((I.tt q x B).1 y hy).1;have e:y=w.heap.size:=e;omega⟩,(I.tt q x B).2⟩,I.d⟩
  ·have :=(I.a _ h).1;exact Nat.lt_irrefl _ this
  ·have :=I.r _ h;exact Nat.lt_irrefl _ this
 |Bz O Ch ty hp X=>
  subst hp
  obtain⟨d,sl',U,G⟩:=pick O
  obtain⟨g',w',a,b,c⟩:=X _ (aa d)
  have D:=runT_crowd_go (P:=P) (gs:= #[g]) (w:=w.at d) (sl:=sl') (i:=0) (g:=g) (by simp) (by simpa using a)
  rw[nD]at D
  refine on (U.trans D) c ?_ (fun h=>by cases h)
  rw[I.nil]
  obtain⟨e1,Y,e3⟩:=I.s
  have E:=(Array.getElem?_eq_some_iff.1 e1).1
  have al:w'.heap.size=w.heap.size+1:=b.size
  refine⟨fun x B=>⟨by have :=(I.a x B).1;omega,(I.a x B).2⟩,fun x B=>by have :=I.r x B;omega,⟨by rw[b.ab _ E];exact e1,Y,e3,b.at_,fun h=>?_,fun h=>?_⟩,I.g,fun q x B=>⟨fun y hy=>⟨by have :=((I.tt q x B).1 y hy).1;omega,((I.tt q x B).1 y hy).2,fun e=>by have :=((I.tt q x B).1 y hy).1;have e:y=w.heap.size:=e;omega⟩,(I.tt q x B).2⟩,I.d⟩
  ·have :=(I.a _ h).1;exact Nat.lt_irrefl _ this
  ·have :=I.r _ h;exact Nat.lt_irrefl _ this
 |lone hp X=>
  subst hp
  have a0:=a1 rfl
  subst a0
  have hN:=X w (.refl w)
  have key:∀ {g w1 t1},gy P (fun g' w'=>bG w w'/\(∀ b,b<w.heap.size-> ¬ A b->w'.heap[b]? =w.heap[b]?)/\yy P aK Rd r .p0 (more A w w') g' w') g w1->w.heap.size<=w1.heap.size->
    (∀ op,op∈t1->op.g=0)->(∀ q x,touchAt t1 q=some x->(∀ b,fC x.loc=some b->b<w1.heap.size/\True)/\x.kind≠ .said)->Deaf t1 0=0->
    ∃ N last o w' V,runNT P (N+1) (crowd #[g] w1 none) t1=(.ended o w',V)/\runN P N (crowd #[g] w1 none)= .next last/\Go.step P last= .ended o w'/\Go.Conc.Good P aK last o w' V:=by
   intro g w1 t1 hL
   induction hL generalizing t1 with
   |done hQ=>
    intro al h1 W h3
    obtain⟨q1,q2,r',E,hR⟩:=hQ
    refine ih r' E (sl:=none) hR ⟨fun x B=>?_,fun x B=>Nat.lt_of_lt_of_le (I.r x B) q1.size,trivial,h1,W,h3⟩ (fun _=>rfl)
    rcases B with B|⟨g1,g2⟩
    ·exact⟨Nat.lt_of_lt_of_le (I.a x B).1 q1.size,(I.a x B).2⟩
    ·exact⟨g2,fun hr=>by have :=I.r x hr;omega⟩
   | @step g w1 g' w' es O hg hz hc k a8=>
    intro al h1 W h3
    have D:=runT_crowd_go (P:=P) (gs:= #[g]) (w:=w1) (sl:=none) (i:=0) (g:=g) (by simp) (by simpa using hg)
    rw[nD]at D
    have a4:stepT P (crowd #[g] w1 none)=(.next (crowd #[g'] w' none),MemOp.ofEvents 0 g.frame.fn g.frame.place es):=(stepT_solo O).trans D
    have I1:PI (fun _=>False) (fun _=>False) .p0 w1 t1:=⟨fun b h=>h.elim,fun b h=>h.elim,trivial,h1,W,h3⟩
    obtain⟨k1,k2,k3⟩:=I1.evs hz (fun e U x B=>⟨fun b hb=>⟨(q9 (hc e U) x B).1 b hb,trivial⟩,(q9 (hc e U) x B).2⟩) (BB hc) g.frame.fn g.frame.place
    obtain⟨n,last,o,ax,V,e1,Y,e3,e4⟩:=a8 (Nat.le_trans al hz) k1 k2 k3
    exact⟨n+1,last,o,ax,V,by rw[runNT_succ_next a4];exact e1,by rw[runN_succ_next a4];exact Y,e3,e4⟩
  exact key hN (Nat.le_refl _) I.g I.tt I.d
 |start p hp X=>
  have hI:=I
  have O:=I.s
  subst hp
  obtain⟨e1,Y,e3,f1,f2,f3⟩:=O
  obtain⟨r',hR⟩:=X (fun b hb=>⟨fun e=>hb.elim (fun h=>f2 (e▸h)) fun h=>f3 (e▸h),fun e=>hb.elim (fun h=>Y (e▸h)) fun h=>e3 (e▸h)⟩) w (.refl w) ⟨⟨0,0,f1⟩,(Array.getElem?_eq_some_iff.1 e1).1⟩
  exact Inv.run _ _ _ _ _ _ _ _ rfl (hI.begin rfl hR)
end
end Go.Proofs.YtifcaekngfgdmaaDoor.Nice.Co
namespace Go.Proofs.YtifcaekngfgdmaaDoor.Nice.Co
open Go Go.Conc Go.RowKit Go.Conc.Lib Go.ConcR.Gen
open Go.ConcN (st_flag st_waiters)
open Go.ConcR (KK WgAt stA smA mk DC0)
abbrev WK(p:Pr)(A Rd:aI)(w0 w:World):Prop:=gm p w/\dd A Rd w0 w
theorem ag{p:Pr}{A Rd:aI}{d:Nat}{lo:Lo}{w0 w af:World}(h:WK p A Rd w0 w)(r:cM p ⟨A,Rd,d,lo⟩ w af):WK p A Rd w0 af:=⟨r.wg h.1,h.2.trans r.ry⟩
theorem WK.cell0{p:Pr}{A Rd:aI}{w0 w:World}(h:WK p A Rd w0 w):∃ v,w.cell? ⟨p.Wg,0,none⟩=some v:=Go.ConcN.Gen.WgLive.cell0 h.1.1
theorem WK.cell1{p:Pr}{A Rd:aI}{w0 w:World}(h:WK p A Rd w0 w):∃ v,w.cell? ⟨p.Wg,1,none⟩=some v:=Go.ConcN.Gen.WgLive.cell1 h.1.1
theorem WK.only{p:Pr}{A Rd:aI}{w0 w w':World}(h:WK p A Rd w0 w)(e:oF p A Rd)(O:nu p w w'){s:pg}(b:Sh p s w'):WK p A Rd w0 w':=⟨b.lv,h.2.trans (O.I3 (Γ:=⟨A,Rd,0, .fin⟩) e b.lv).ry⟩
section
variable {P:Program} {L:WgLink} {p:Pr} {aK:Value->World->Prop} {A Rd:aI} {w:World} {yz:Frame} {yA:Act} {iH:Array Oper} {yB:Nat} {jN:List Nat} {yC:List Item} {cs:List Frame}
set_option maxRecDepth 100000 in
set_option maxHeartbeats 8000000 in
theorem HS(H:WgLib P L)(hA:oF p A Rd){j:Nat}(hj:j<p.n)(hn:p.n<2147483647)(W:gm p w)
  (X:∀ w',dd A Rd w w'->gm p w'->cy P p aK true ⟨A,Rd,0, .spawn j true⟩ (G (yz.at (yA.put ((iH[yB]?).bind (·.dst)) (.tuple #[])) (.inRegion iH jN::yC)) cs) w'):
  cy P p aK true ⟨A,Rd,0, .spawn j false⟩ (G ((base L.add).at ⟨#[.pointer (some ⟨p.Wg,0,none⟩), .int .i64 1]++Array.replicate 115 undef,[]⟩ [.code (body_add L)]) (yz.at yA (.inRegion iH (yB::jN)::yC)::cs)) w:=by
 lib_facts
 have b:WK p A Rd w w:=⟨W, .refl w⟩
 refine cy.bH (n:=140) (by simp) ?_
 simp only[body_add,addFn,Option.getD_some]
 walk_nrm
 u_c stepG_seq ag b
 (u_in ag b;rw[stepG_cond (t:=true) (by first|rfl|(simp[Act.eval];omega))];simp only[goes_go,if_true,if_false,Bool.false_eq_true,↓reduceIte];refine⟨by u_nil,?_⟩)
 u_c stepG_seq ag b
 u_c stepG_seq ag b
 u_reg ag b
 u_op ag b
 u_op ag b
 u_c stepG_region_end ag b
 (u_in ag b;rw[stepG_cond (t:=false) (by first|rfl|(simp[Act.eval];omega))];simp only[goes_go,if_true,if_false,Bool.false_eq_true,↓reduceIte];refine⟨by u_nil,?_⟩)
 u_c stepG_skip ag b
 u_c stepG_seq ag b
 u_reg ag b
 (refine Goes.stop (fun I k=>?_);replace b:=ag b k;clear k)
 refine cy.mark rfl (by simp) .disable (by simp[fN]) (d':=1) rfl (fun af e=>stepG_mark0 .disable (by simp) rfl rfl (by k_ne) rfl H.f_disable (x_disable_n L) (x_disable_b L) (x_disable_x L) (x_disable_f L)) fun af e=>?_
 replace b:=ag b e
 clear e
 walk_nrm
 refine cy.bH (n:=140) (by simp) ?_
 u_c stepG_region_end ag b
 u_reg ag b
 u_defer ag b
 u_c stepG_region_end ag b
 u_c stepG_seq ag b
 u_reg ag b
 u_op ag b
 u_c stepG_region_end ag b
 u_c stepG_seq ag b
 u_c stepG_seq ag b
 u_reg ag b
 u_bub ag b
 u_c stepG_region_end ag b
 (u_in ag b;rw[stepG_cond (t:=false) (by first|rfl|(simp[Act.eval];omega))];simp only[goes_go,if_true,if_false,Bool.false_eq_true,↓reduceIte];refine⟨by u_nil,?_⟩)
 u_c stepG_skip ag b
 u_c stepG_seq ag b
 u_reg ag b
 u_op ag b
 u_op ag b
 u_op ag b
 u_op ag b
 u_op ag b
 u_op ag b
 u_call H.f_uAdd (nm_uAdd L) uAddFn ag b
 u_c stepG_seq ag b
 u_reg ag b
 u_op ag b
 u_c stepG_region_end ag b
 u_c stepG_seq ag b
 u_reg ag b
 u_op ag b
 u_op ag b
 u_op ag b
 u_op ag b
 (refine Goes.stop (fun I k=>?_);replace b:=ag b k;clear k)
 refine cy.intro (.sync rfl (by simp) fun af e s B J=>?_)
 replace b:=ag b e
 clear e
 have hs:s=⟨j,0,0,false⟩:=by simpa[uH]using J
 subst hs
 have E:=B.wg
 obtain⟨D,O⟩:=B.setSt (j+1) 0 (x:=((j+1:Nat):Int)*KK) (by simp)
 have Y:IntKind.u64.wrap ((j:Int)*KK+((0:Nat):Int)+4294967296)=((j+1:Nat):Int)*KK:=by rw[IntKind.wrap_u64];simp only[KK];omega
 refine⟨_,_,_, .spawn j true,⟨j+1,0,0,false⟩,(stepG_add_atomic rfl rfl (by k_ne) rfl H.f_addU64 (x_addU64_n L) (x_addU64_b L) (x_addU64_x L) .u64 (x_addU64_f L) rfl rfl E.cellSt (E.thaw 0)).trans (by rw[Y];rfl), .add hj,O,D, .inl ⟨rfl,rfl⟩,?_⟩
 replace b:=b.only hA O D
 generalize af.setCell (stA p.Wg) (.int .u64 (((j+1:Nat):Int)*KK))=aa at b ⊢
 clear B D O E J Y
 refine cy.bH (n:=140) (by simp) ?_
 rcases Nat.eq_zero_or_pos j with rfl|ah
 ·simp only[KK,Nat.zero_add,Int.ofNat_one,Int.one_mul,Int.cast_ofNat_Int]
  walk_nrm
  u_op ag b
  u_c stepG_region_end ag b
  u_c stepG_ret' ag b
  u_leave1 H.f_uAdd ag b
  u_op ag b
  u_c stepG_region_end ag b
  u_c stepG_seq ag b
  u_c stepG_seq ag b
  u_reg ag b
  u_op ag b
  u_op ag b
  u_op ag b
  u_op ag b
  u_skip ag b
  u_skip ag b
  u_op ag b
  u_c stepG_region_end ag b
  (u_in ag b;rw[stepG_cond (t:=false) (by first|rfl|(simp[Act.eval];omega))];simp only[goes_go,if_true,if_false,Bool.false_eq_true,↓reduceIte];refine⟨by u_nil,?_⟩)
  u_c stepG_skip ag b
  u_c stepG_seq ag b
  u_reg ag b
  u_op ag b
  u_op ag b
  u_op ag b
  u_op ag b
  u_c stepG_region_end ag b
  u_c stepG_seq ag b
  u_reg ag b
  u_op ag b
  u_op ag b
  u_op ag b
  u_op ag b
  u_c stepG_region_end ag b
  u_c stepG_seq ag b
  u_c stepG_seq ag b
  u_reg ag b
  u_op ag b
  u_op ag b
  u_op ag b
  u_op ag b
  u_op ag b
  u_op ag b
  u_op ag b
  u_op ag b
  u_op ag b
  u_op ag b
  u_c stepG_region_end ag b
  (u_in ag b;rw[stepG_cond (t:=true) (by first|rfl|(simp[Act.eval];omega))];simp only[goes_go,if_true,if_false,Bool.false_eq_true,↓reduceIte];refine⟨by u_nil,?_⟩)
  u_reg ag b
  u_op ag b
  u_op ag b
  u_op ag b
  u_conv H.underlying_tPU32 H.room_tU32 (WK.cell1 b).choose_spec ag b
  (refine Goes.stop (fun I k=>?_);replace b:=ag b k;clear k)
  refine cy.intro (.sync rfl (by simp) fun af e s B J=>⟨_,af,_, .spawn _ true,s,stepG_markAt .read (by simp) rfl rfl (by k_ne) rfl H.f_raceRead (x_raceRead_n L) (x_raceRead_b L) (x_raceRead_x L) (x_raceRead_f L) (ad:=smA p.Wg) (by simp[Act.eval,smA]), .zV, .refl _,B, .inl ⟨rfl,rfl⟩,?_⟩)
  replace b:=ag b e
  clear e B J
  walk_nrm
  refine cy.bH (n:=140) (by simp) ?_
  u_c stepG_region_end ag b
  u_c stepG_seq ag b
  u_c stepG_seq ag b
  u_reg ag b
  u_op ag b
  u_op ag b
  u_c stepG_region_end ag b
  (u_in ag b;rw[stepG_cond (t:=false) (by first|rfl|(simp[Act.eval];omega))];simp only[goes_go,if_true,if_false,Bool.false_eq_true,↓reduceIte];refine⟨by u_nil,?_⟩)
  u_c stepG_skip ag b
  u_c stepG_seq ag b
  u_c stepG_seq ag b
  u_reg ag b
  u_op ag b
  u_op ag b
  u_op ag b
  u_skip ag b
  u_skip ag b
  u_op ag b
  u_op ag b
  u_skip ag b
  u_skip ag b
  u_skip ag b
  u_skip ag b
  u_op ag b
  u_c stepG_region_end ag b
  (u_in ag b;rw[stepG_cond (t:=false) (by first|rfl|(simp[Act.eval];omega))];simp only[goes_go,if_true,if_false,Bool.false_eq_true,↓reduceIte];refine⟨by u_nil,?_⟩)
  u_c stepG_skip ag b
  u_c stepG_seq ag b
  u_c stepG_seq ag b
  u_reg ag b
  u_op ag b
  u_op ag b
  u_op ag b
  u_skip ag b
  u_skip ag b
  u_op ag b
  u_c stepG_region_end ag b
  (u_in ag b;rw[stepG_cond (t:=true) (by first|rfl|(simp[Act.eval];omega))];simp only[goes_go,if_true,if_false,Bool.false_eq_true,↓reduceIte];refine⟨by u_nil,?_⟩)
  u_c stepG_ret' ag b
  (refine Goes.stop (fun I k=>?_);replace b:=ag b k;clear k)
  refine cy.mark rfl (by simp) .enable (by simp[fN]) (d':=0) rfl (fun af e=>stepG_unwind_entry (v:= .tuple #[]) (evs:= #[mk .enable]) rfl H.f_enable (x_enable_n L) (x_enable_b L) (x_enable_x L) (x_enable_f L) (by simp[Extern.Race.none_]) (by simp[mk]) (by simp[mk])) fun af e=>?_
  replace b:=ag b e
  clear e
  refine cy.bH (n:=140) (by simp) ?_
  u_leave0 H.f_add ag b
  (refine Goes.stop (fun I k=>?_);replace b:=ag b k;clear k)
  exact X _ b.2 b.1
 ·obtain⟨V,U⟩:∃ V:Int,V=((j+1:Nat):Int):=⟨_,rfl⟩
  obtain⟨S,hS⟩:∃ S:Int,S=V*KK:=⟨_,rfl⟩
  rw[<-U,<-hS]
  have a1:S/4294967296=V:=by rw[hS];simp only[KK];omega
  have b1:bits .and .u64 S 2147483648=0:=by rw[hS,U];have :=st_flag (j+1) 0 (by omega) (by omega);simpa[KK]using this
  have b2:bits .and .u64 S 2147483647=0:=by rw[hS,U];have :=st_waiters (j+1) 0 (by omega) (by omega);simpa[KK]using this
  have c1:IntKind.i32.wrap V=V:=by rw[IntKind.wrap_i32];omega
  have al:1<V:=by omega
  have av:V<2147483648:=by omega
  have q1:(V==1)=false:=by simp;omega
  have q2:decide (V=1)=false:=decide_eq_false (by omega)
  have q3:decide (V<0)=false:=decide_eq_false (by omega)
  have q4:decide (0<V)=true:=decide_eq_true (by omega)
  have q5:(V==0)=false:=by simp;omega
  have q6:decide (V=0)=false:=decide_eq_false (by omega)
  clear hS U
  walk_nrm
  u_op ag b
  u_c stepG_region_end ag b
  u_c stepG_ret' ag b
  u_leave1 H.f_uAdd ag b
  u_op ag b
  u_c stepG_region_end ag b
  u_c stepG_seq ag b
  u_c stepG_seq ag b
  u_reg ag b
  u_op ag b
  u_op ag b
  u_op ag b
  u_op ag b
  u_skip ag b
  u_skip ag b
  u_op ag b
  u_c stepG_region_end ag b
  (u_in ag b;rw[stepG_cond (t:=false) (by first|rfl|(simp[Act.eval];omega))];simp only[goes_go,if_true,if_false,Bool.false_eq_true,↓reduceIte];refine⟨by u_nil,?_⟩)
  u_c stepG_skip ag b
  u_c stepG_seq ag b
  u_reg ag b
  u_op ag b
  u_op ag b
  u_op ag b
  u_op ag b
  u_c stepG_region_end ag b
  u_c stepG_seq ag b
  u_reg ag b
  u_op ag b
  u_op ag b
  u_op ag b
  u_op ag b
  u_c stepG_region_end ag b
  u_c stepG_seq ag b
  u_c stepG_seq ag b
  u_reg ag b
  u_op ag b
  u_op ag b
  u_op ag b
  u_op ag b
  u_op ag b
  u_op ag b
  u_op ag b
  u_op ag b
  u_op ag b
  u_op ag b
  u_c stepG_region_end ag b
  (u_in ag b;rw[stepG_cond (t:=false) (by first|rfl|(simp[Act.eval];omega))];simp only[goes_go,if_true,if_false,Bool.false_eq_true,↓reduceIte];refine⟨by u_nil,?_⟩)
  u_c stepG_skip ag b
  u_c stepG_seq ag b
  u_c stepG_seq ag b
  u_reg ag b
  u_op ag b
  u_op ag b
  u_c stepG_region_end ag b
  (u_in ag b;rw[stepG_cond (t:=false) (by first|rfl|(simp[Act.eval];omega))];simp only[goes_go,if_true,if_false,Bool.false_eq_true,↓reduceIte];refine⟨by u_nil,?_⟩)
  u_c stepG_skip ag b
  u_c stepG_seq ag b
  u_c stepG_seq ag b
  u_reg ag b
  u_op ag b
  u_op ag b
  u_op ag b
  u_skip ag b
  u_skip ag b
  u_op ag b
  u_op ag b
  u_skip ag b
  u_skip ag b
  u_skip ag b
  u_skip ag b
  u_op ag b
  u_c stepG_region_end ag b
  (u_in ag b;rw[stepG_cond (t:=false) (by first|rfl|(simp[Act.eval];omega))];simp only[goes_go,if_true,if_false,Bool.false_eq_true,↓reduceIte];refine⟨by u_nil,?_⟩)
  u_c stepG_skip ag b
  u_c stepG_seq ag b
  u_c stepG_seq ag b
  u_reg ag b
  u_op ag b
  u_op ag b
  u_op ag b
  u_skip ag b
  u_skip ag b
  u_op ag b
  u_c stepG_region_end ag b
  (u_in ag b;rw[stepG_cond (t:=true) (by first|rfl|(simp[Act.eval];omega))];simp only[goes_go,if_true,if_false,Bool.false_eq_true,↓reduceIte];refine⟨by u_nil,?_⟩)
  u_c stepG_ret' ag b
  (refine Goes.stop (fun I k=>?_);replace b:=ag b k;clear k)
  refine cy.mark rfl (by simp) .enable (by simp[fN]) (d':=0) rfl (fun af e=>stepG_unwind_entry (v:= .tuple #[]) (evs:= #[mk .enable]) rfl H.f_enable (x_enable_n L) (x_enable_b L) (x_enable_x L) (x_enable_f L) (by simp[Extern.Race.none_]) (by simp[mk]) (by simp[mk])) fun af e=>?_
  replace b:=ag b e
  clear e
  refine cy.bH (n:=140) (by simp) ?_
  u_leave0 H.f_add ag b
  (refine Goes.stop (fun I k=>?_);replace b:=ag b k;clear k)
  exact X _ b.2 b.1
end
end Go.Proofs.YtifcaekngfgdmaaDoor.Nice.Co
namespace Go.Proofs.YtifcaekngfgdmaaDoor.Nice.Co
open Go Go.Conc Go.Conc.Lib
open Go.ConcR (KK WgAt stA smA mk DC0)
open Go.ConcR.Gen (body_add)
theorem dc{o:Oper}{T:Nat->Option Bool}(b:o.guard=none):Region.wanted o T=true:=by simp[Region.wanted,b]
theorem Made.rely{A Rd:aI}{M:aD}{w w':World}{o:Obj}(m:Made w w' o)(e:∀ b,A b\/Rd b->b<w.heap.size):dd A Rd w w':=⟨m.same,fun b k=>m.ab b (e b k)⟩
theorem fP(w:World)(o:Obj):Made w (w.alloc o) o:=
 ⟨bG.alloc w o,by simp,by show(w.heap.push o)[w.heap.size]? =some o;rw[Array.getElem?_push,if_pos rfl],fun b e=>by show(w.heap.push o)[b]? =w.heap[b]?;rw[Array.getElem?_push,if_neg (Nat.ne_of_lt e)]⟩
section
variable {C:Ctx} {A Rd:aI} {M:aD} {ds:List Deferred} {ρ:Names} {nb:Nat} {σ:St} {a:Act} {w af:World}
theorem SX.Ha(h:SX C A Rd M ds ρ nb σ a w):∀ b,A b\/Rd b->b<w.heap.size:=fun b e=>e.elim (h.fit.lt b) fun k=>by
 obtain⟨o,v⟩:=Option.ne_none_iff_exists'.1 (h.fit.rm b k)
 exact(Array.getElem?_eq_some_iff.1 (h.sr.hr.fT b o v)).1
theorem SX.D2(h:SX C A Rd M ds ρ nb σ a w){b:Nat}(e:M b≠none):A b\/Rd b:=vS h.sr.hr e
theorem SX.put(h:SX C A Rd M ds ρ nb σ a w){dst:Option Nat}(hd:(match dst with |none=>true|some d=>Nat.blt d C.sz)=true){u:SV}{u':Value}(b:VR M ρ u u'){nb':Nat}(k:nb<=nb'):SX C A Rd M ds ρ nb' (σ.app dst u []) (a.put dst u') w:=
 h.app (wr:= []) hd h.fit (aD.le_refl _) (Names.le_refl _) b h.sr.hr (fun n e=>h.fr n (by omega))
theorem SX.val(h:SX C A Rd M ds ρ nb σ a w){x:Operand}{v:Value}(b:bE C σ.t x= .d (.val v)):a.eval x=v:=by
 have :=h.op x
 rw[b]at this
 cases this with
 |d _ _ h=>cases h with
  |val _ _=>rfl
end
section
variable {C:Ctx} {Z:ZX} {ds:List Deferred} {σ:St} {ops:Array Oper} {i:Nat} {o:Oper} {Rd:aI} {aK:Value->World->Prop}
theorem ra{P:Program}{main:Bool}{b:Frame}{a:Act}{k:List Item}{cs:List Frame}{rest:List Nat}{v:Value}{w w':World}(e:ops[i]? =some o)(B:o.guard=none)(D:b.kind≠ .early)(E:(execOp a.eval o).run P w= .ok (.value v) w')(I:(execOp a.eval o).events P w #[]= #[]):
  stepG P main (G (b.at a (.inRegion ops (i::rest)::k)) cs) w= .go (G (b.at (a.put o.dst v) (.inRegion ops rest::k)) cs) w' #[]:=by
 rw[stepG_value e (dc B) D E]
 unfold listed
 rw[I,seen_none]
structure yD (Rd:aI) (M:aD) (w:World):Prop where
 Jz:∀ b,Rd b↔M b≠none
 fT:Holds M w
def SV.kU:SV->Bool
 | .d _=>true
 | .vp .. =>true
 | .any=>true
 |_=>false
theorem VR.other{M:aD}{ρ aq:Names}{x:SV}{u:Value}(h:VR M ρ x u)(e:SV.kU x=true):VR M aq x u:=by
 cases h with
 |any=>exact .any _
 |d _ _ h=>exact .d _ _ h
 |vp k len f i c b o cur T fz g hb hg hr=>exact .vp k len f i c b o cur T fz g hb hg hr
 |_=>simp[SV.kU]at e
theorem VR.pair{M:aD}{ρ:Names}{x y:SV}{u v:Value}(h:VR M ρ x u)(k:VR M ρ y v):VR M ρ (.bA [x,y]) (.tuple #[u,v]):=by
 refine .bA [x,y] #[u,v] (fun i=>if i=0 then u else v) rfl (fun i e=>?_) fun i z b=>?_
 ·match i,e with
  |0,_=>rfl
  |1,_=>rfl
 ·match i,b with
  |0,b=>simp at b;subst b;exact h
  |1,b=>simp at b;subst b;exact k
  |i+2,b=>simp at b
section
variable {p:Pr} {hl:Lo.fin≠ .out} {hm:Lo.fin.mute=false}
theorem D3{A Rd A' Rd':aI}{w:World}(h:∀ b,(A' b\/Rd' b)↔(A b\/Rd b)):ext A' Rd' F0 w=ext A Rd F0 w:=by
 funext b
 by_cases e:A b\/Rd b
 ·rw[cm e,cm ((h b).2 e)]
 ·rw[c8 e,c8 (fun x=>e ((h b).1 x))]
theorem SX.w6{C:Ctx}{A Rd:aI}{M:aD}{ds:List Deferred}{ρ:Names}{nb:Nat}{σ:St}{a:Act}{w:World}(h:SX C A Rd M ds ρ nb σ a w):SX C (fun b=>A b/\ ¬ (A b/\M b≠none)) (fun b=>Rd b\/(A b/\M b≠none)) M ds ρ nb σ a w:=by
 have e:∀ b,((A b/\ ¬ (A b/\M b≠none))\/(Rd b\/(A b/\M b≠none)))↔(A b\/Rd b):=fun b=>by
  by_cases hm:M b≠none
  ·constructor
   ·rintro(⟨x,_⟩|x|⟨x,_⟩)
    ·exact .inl x
    ·exact .inr x
    ·exact .inl x
   ·rintro(x|x)
    ·exact .inr (.inr ⟨x,hm⟩)
    ·exact .inr (.inl x)
  ·constructor
   ·rintro(⟨x,_⟩|x|⟨x,_⟩)
    ·exact .inl x
    ·exact .inr x
    ·exact .inl x
   ·rintro(x|x)
    ·exact .inl ⟨x,fun y=>hm y.2⟩
    ·exact .inr (.inl x)
 refine⟨⟨fun b k=>absurd rfl k,fun b k=>k.elim (h.fit.rm b) (·.2),fun b k=>h.fit.lt b k.1⟩,⟨h.sr.tm,h.sr.sz,h.sr.df,?_,h.sr.pn,h.sr.pm,h.sr.gl⟩,h.df,h.fr⟩
 rw[D3 e]
 exact h.sr.hr
theorem SX.shared{C:Ctx}{A Rd:aI}{M:aD}{ds:List Deferred}{ρ:Names}{nb:Nat}{σ:St}{a:Act}{w:World}(h:SX C A Rd M ds ρ nb σ a w):yD (fun b=>Rd b\/(A b/\M b≠none)) M w:=
 ⟨fun b=>⟨fun e=>e.elim (h.fit.rm b) (·.2),fun e=>(h.D2 e).elim (fun x=> .inr ⟨x,e⟩) .inl⟩,h.sr.hr.fT⟩
end
def oH(f:FuncId)(vs:Array Value):Deferred:={target:= .fn (.func f) vs,args:= #[]}
theorem Ad{P:Program}{main:Bool}{b:Frame}{a:Act}{k:List Item}{cs:List Frame}{rest:List Nat}{w:World}{x:Operand}(B:ops[i]? =some o)(D:o.guard=none)(E:b.kind≠ .early)(e:o.op= .go {callee:= .value x,args:= #[],argTypes:= #[]}){f:FuncId}{vs:Array Value}(v:a.eval x= .func (.func f) #[] vs):
  stepG P main (G (b.at a (.inRegion ops (i::rest)::k)) cs) w= .spawn (G (b.at (a.put o.dst undef) (.inRegion ops rest::k)) cs) (born P (oH f vs)) w #[]:=by
 have I:(execOp a.eval o).run P w= .ok (.spawn (oH f vs)) w:=by simp[execOp,e,resolve,v,Deferred.ofValue,oH]
 have J:(execOp a.eval o).events P w #[]= #[]:=by simp[execOp,e,resolve,v,Deferred.ofValue]
 rw[stepG_spawn B (dc D) E I rfl]
 unfold listed
 rw[J,seen_none]
section
variable {p:Pr} {aZ:List SV} {f:FuncId} {x:Operand}
def Child(P:Program)(b:Nat->SV)(p:Pr)(aK:Value->World->Prop)(f:FuncId)(aZ:List SV)(lo:Lo):Prop:=
 ∀ Rd M w (vs:Array Value),(∀ g ρ,VR M ρ (b g) (.pointer (some ⟨g,0,none⟩)))->yD Rd M w->oF p no Rd->gm p w->vs.size=aZ.length->(∀ (j:Nat) (y:SV),aZ[j]? =some y->∃ u,vs[j]? =some u/\∀ ρ,VR M ρ y u)->cy P p aK false ⟨no,Rd,0,lo⟩ (born P (oH f vs)) w
theorem oF.w6{A Rd:aI}{M:aD}(h:oF p A Rd):oF p (fun b=>A b/\ ¬ (A b/\M b≠none)) (fun b=>Rd b\/(A b/\M b≠none))/\oF p no (fun b=>Rd b\/(A b/\M b≠none)):=by
 constructor
 ·intro b e
  rcases e with⟨x,_⟩|x|⟨x,_⟩
  ·exact h b (.inl x)
  ·exact h b (.inr x)
  ·exact h b (.inl x)
 ·intro b e
  rcases e with x|x|⟨x,_⟩
  ·exact x.elim
  ·exact h b (.inr x)
  ·exact h b (.inl x)
theorem D4{A Rd:aI}{M M':aD}{ρ:Names}{h:ar}{w:World}(H:HR M (ext A Rd F0 w) ρ h w)(f:Fit A Rd F0 M w)(hh:Holds M' w)(hd:∀ b,M' b≠none-> ¬ A b):
  ∃ v,M.le v/\M'.le v/\(∀ b,v b≠none->M b≠none\/M' b≠none)/\HR v (ext A (fun b=>Rd b\/M' b≠none) F0 w) ρ h w:=by
 let v:aD:=fun b=>(M b).or (M' b)
 have I:∀ b,v b=(M b).or (M' b):=fun b=>rfl
 have E:M.le v:=fun b o k=>by rw[I,k];rfl
 have J:∀ b,v b≠none->M b≠none\/M' b≠none:=fun b k=>by
  rw[I]at k
  cases e:M b with
  |some o=>exact .inl (by simp)
  |none=>rw[e]at k;exact .inr (by simpa using k)
 have V:M'.le v:=fun b o k=>by
  rw[I]
  cases e:M b with
  |none=>simpa using k
  |some o'=>
   have D:=H.fT b o' e
   have U:=hh b o k
   rw[D]at U
   simpa using U
 have B:∀ b,M b=none->A b->v b=none:=fun b k G=>by
  rw[I,k]
  cases e:M' b with
  |none=>rfl
  |some o=>exact absurd G (hd b (by rw[e];simp))
 have O:∀ b,A b->ext A (fun b=>Rd b\/M' b≠none) F0 w b=none:=fun b k=>by rw[cm (.inl k)]
 refine⟨v,E,V,J,⟨fun b o k=>?_,fun b o k=>?_,fun b o k=>?_,fun n blk W=>?_,H.sep,?_⟩⟩
 ·rw[I]at k
  cases e:M b with
  |some o'=>
   rw[e]at k;have X:o'=o:=by simpa using k
   subst X;exact H.fT b o' e
  |none=>rw[e]at k;exact hh b o (by simpa using k)
 ·by_cases e:A b\/(Rd b\/M' b≠none)
  ·rw[cm e]at k;cases k
  ·rw[c8 e]at k;exact k
 ·by_cases e:A b\/(Rd b\/M' b≠none)
  ·rw[cm e]at k;cases k
  ·refine Classical.byContradiction fun hc=>?_
   rcases J b hc with D|D
   ·exact e ((vS H D).imp id .inl)
   ·exact e (.inr (.inr D))
 ·obtain⟨x,hx,Y⟩:=H.live n blk W
  refine⟨x,hx,?_⟩
  rcases Y with Y|⟨h0,D,U,o,h3,h4⟩
  ·exact .inl Y
  ·have G:=m4 f D U h3
   exact .inr ⟨h0,B _ D G,O _ G,o,h3,h4.mono E (Names.le_refl _)⟩
 ·refine H.dh (fun _ _ _ h=>h) (Names.le_refl _) E (Nat.le_refl _) (fun n S es W b k g1 g2=>?_) (fun _ _ _ _ _ _ _ _ _ _=>rfl) (fun _ _ _ m y _ a b _=> .inl ⟨a,b⟩)
  obtain⟨_,_,_,k1,_⟩:=H.fam n S es W
  obtain⟨_,_,k3⟩:=k1 b k
  have G:=m4 f g1 g2 (Array.getElem?_eq_getElem k3)
  exact⟨B _ g1 G,O _ G⟩
theorem served_G{b:Frame}{a:Act}{k:List Item}{cs:List Frame}{rest:List Nat}{v:Value}(e:ops[i]? =some o):Go.Conc.served (G (b.at a (.inRegion ops (i::rest)::k)) cs) v=G (b.at (a.put o.dst v) (.inRegion ops rest::k)) cs:=by
 have :(b.at a (.inRegion ops (i::rest)::k)).finish v=b.at (a.put o.dst v) (.inRegion ops rest::k):=by rw[Frame.finish_at,e];rfl
 simp only[Go.Conc.served,G,this]
end
end
end Go.Proofs.YtifcaekngfgdmaaDoor.Nice.Co
namespace Go.Proofs.YtifcaekngfgdmaaDoor.Nice.Co
open Go Go.Conc Go.RowKit Go.Conc.Lib Go.ConcR.Gen
open Go.ConcN (st_flag st_waiters)
open Go.ConcR (KK WgAt stA smA mk DC0)
theorem QV{P:Program}{n d:Nat}{a:Act}{b:Frame}{k:List Item}{cs:List Frame}{ops:Array Oper}{i:Nat}{rest:List Nat}{o:Oper}(v:Value)(e:ops[i]? =some o)(B:Region.wanted o (yielded ops a.tmps)=true)
 (D:QuitsD P n d (G (b.at (a.put o.dst v) (.inRegion ops rest::k)) cs)) (E:b.kind≠ .early:=by k_ne) (I:∀ w,(execOp a.eval o).run P w= .ok (.value v) w:=by intro _;go_simp;try(first|omega|(w_num;omega)|w_num|decide)) (J:∀ w,(execOp a.eval o).events P w #[]= #[]:=by intro _;simp[go_sem, *]):
 QuitsD P (n+1) d (G (b.at a (.inRegion ops (i::rest)::k)) cs):=QuitsD.value v e B E I J D
noncomputable def body_done(L:WgLink):Code:=(doneFn L).body.getD .skip
section
variable {P:Program} {L:WgLink} {p:Pr} {aK:Value->World->Prop} {w:World} {c:Frame} {cs:List Frame} {qt:Nat}
set_option maxRecDepth 100000 in
set_option maxHeartbeats 8000000 in
theorem F7(H:WgLib P L)(hn:p.n<2147483647)(U:c.mode= .returning)(hT:QuitsD P qt 0 (G c cs))(ah:gm p w):
  cy P p aK false ⟨no,no,0, .told⟩ (G ((baseD L.done).at ⟨#[.pointer (some ⟨p.Wg,0,none⟩),undef,undef,undef],[]⟩ [.code (body_done L)]) (c::cs)) w:=by
 lib_facts
 have hA:oF p no no:=fun b h=>h.elim False.elim False.elim
 have e:WK p no no w w:=⟨ah, .refl w⟩
 refine cy.bH (n:=140) (by simp) ?_
 simp only[body_done,doneFn,Option.getD_some]
 u_reg ag e
 u_op ag e
 u_in ag e
 refine goes_call rfl rfl (by k_ne) rfl H.f_add (nm_add L) rfl ⟨by u_nil,?_⟩
 walk_nrmf addFn
 u_c stepG_seq ag e
 (u_in ag e;rw[stepG_cond (t:=true) (by first|rfl|(simp[Act.eval];omega))];simp only[goes_go,if_true,if_false,Bool.false_eq_true,↓reduceIte];refine⟨by u_nil,?_⟩)
 u_c stepG_seq ag e
 u_c stepG_seq ag e
 u_reg ag e
 u_op ag e
 u_op ag e
 u_c stepG_region_end ag e
 (u_in ag e;rw[stepG_cond (t:=true) (by first|rfl|(simp[Act.eval];omega))];simp only[goes_go,if_true,if_false,Bool.false_eq_true,↓reduceIte];refine⟨by u_nil,?_⟩)
 u_reg ag e
 u_op ag e
 u_conv H.underlying_tWgP H.room_tWg (WK.cell0 e).choose_spec ag e
 (refine Goes.stop (fun Y I=>?_);replace e:=ag e I;clear I)
 refine cy.mark rfl (by simp) (.releaseMerge _) (by simp[fN]) (d':=0) rfl (fun af k=>stepG_markAt .releaseMerge (by simp) rfl rfl (by k_ne) rfl H.f_relMerge (x_relMerge_n L) (x_relMerge_b L) (x_relMerge_x L) (x_relMerge_f L) (by simp[Act.eval]<;>rfl)) fun af k=>?_
 replace e:=ag e k
 clear k
 walk_nrm
 refine cy.bH (n:=140) (by simp) ?_
 u_c stepG_region_end ag e
 u_c stepG_seq ag e
 u_reg ag e
 (refine Goes.stop (fun Y I=>?_);replace e:=ag e I;clear I)
 refine cy.mark rfl (by simp) .disable (by simp[fN]) (d':=1) rfl (fun af k=>stepG_mark0 .disable (by simp) rfl rfl (by k_ne) rfl H.f_disable (x_disable_n L) (x_disable_b L) (x_disable_x L) (x_disable_f L)) fun af k=>?_
 replace e:=ag e k
 clear k
 walk_nrm
 refine cy.bH (n:=140) (by simp) ?_
 u_c stepG_region_end ag e
 u_reg ag e
 u_defer ag e
 u_c stepG_region_end ag e
 u_c stepG_seq ag e
 u_reg ag e
 u_op ag e
 u_c stepG_region_end ag e
 u_c stepG_seq ag e
 u_c stepG_seq ag e
 u_reg ag e
 u_bub ag e
 u_c stepG_region_end ag e
 (u_in ag e;rw[stepG_cond (t:=false) (by first|rfl|(simp[Act.eval];omega))];simp only[goes_go,if_true,if_false,Bool.false_eq_true,↓reduceIte];refine⟨by u_nil,?_⟩)
 u_c stepG_skip ag e
 u_c stepG_seq ag e
 u_reg ag e
 u_op ag e
 u_op ag e
 u_op ag e
 u_op ag e
 u_op ag e
 u_op ag e
 u_call H.f_uAdd (nm_uAdd L) uAddFn ag e
 u_c stepG_seq ag e
 u_reg ag e
 u_op ag e
 u_c stepG_region_end ag e
 u_c stepG_seq ag e
 u_reg ag e
 u_op ag e
 u_op ag e
 u_op ag e
 u_op ag e
 (refine Goes.stop (fun Y I=>?_);replace e:=ag e I;clear I)
 refine cy.intro (.sync rfl (by simp) fun af k s B W=>?_)
 replace e:=ag e k
 clear k
 obtain⟨u,J,sm,cl⟩:=s
 obtain⟨a2,a3,a4,al,av⟩:1<=u/\u<=p.n/\J<=1/\sm=0/\cl=false:=W
 subst al av
 obtain⟨v,rfl⟩:∃ v,u=v+1:=⟨u-1,by omega⟩
 have D:=B.wg
 obtain⟨E,O⟩:=B.setSt v J (x:=(v:Int)*KK+J) rfl
 have eS:IntKind.u64.wrap (((v+1:Nat):Int)*KK+(J:Int)+18446744069414584320)=(v:Int)*KK+J:=by rw[IntKind.wrap_u64];simp only[KK];omega
 refine⟨_,_,_,_,⟨v,J,0,false⟩,(stepG_add_atomic rfl rfl (by k_ne) rfl H.f_addU64 (x_addU64_n L) (x_addU64_b L) (x_addU64_x L) .u64 (x_addU64_f L) rfl rfl D.cellSt (D.thaw 0)).trans (by rw[eS];rfl), .done (by decide),O,E, .inl ⟨rfl,rfl⟩,?_⟩
 replace e:=e.only hA O E
 generalize af.setCell (stA p.Wg) (.int .u64 ((v:Int)*KK+J))=aa at e ⊢
 clear B E O D eS
 rcases Nat.eq_zero_or_pos v with rfl|a5
 ·rcases Nat.eq_zero_or_pos J with rfl|ax
  ·rw[if_neg (by simp)]
   simp only[KK,Int.ofNat_zero,Int.zero_mul,Int.zero_add,Int.cast_ofNat_Int,Int.natCast_zero]
   refine cy.jc (q:=qt+92) (d:=1) ?_
   walk_nrm
   (refine QV (.int .u64 0) rfl rfl ?_;walk_nrm)
   q_c stepG_region_end
   q_c stepG_ret'
   q_leave1 H.f_uAdd
   (refine QV (.int .u64 0) rfl rfl ?_;walk_nrm)
   q_c stepG_region_end
   q_c stepG_seq
   q_c stepG_seq
   q_reg
   (refine QV (.int .u64 0) rfl rfl ?_;walk_nrm)
   (refine QV (.int .u64 0) rfl rfl ?_;walk_nrm)
   (refine QV (.bool false) rfl rfl ?_;walk_nrm)
   (refine QV (.bool false) rfl rfl ?_;walk_nrm)
   q_skip
   q_skip
   (refine QV (.bool false) rfl rfl ?_;walk_nrm)
   q_c stepG_region_end
   q_cond false
   q_c stepG_skip
   q_c stepG_seq
   q_reg
   (refine QV (.int .u64 0) rfl rfl ?_;walk_nrm)
   (refine QV (.int .u64 0) rfl rfl ?_;walk_nrm)
   (refine QV (.int .i32 0) rfl rfl ?_;walk_nrm)
   (refine QV (.int .i32 0) rfl rfl ?_;walk_nrm)
   q_c stepG_region_end
   q_c stepG_seq
   q_reg
   (refine QV (.int .u64 0) rfl rfl ?_;walk_nrm)
   (refine QV (.int .u64 0) rfl rfl ?_;walk_nrm)
   (refine QV (.int .u32 0) rfl rfl ?_;walk_nrm)
   (refine QV (.int .u32 0) rfl rfl ?_;walk_nrm)
   q_c stepG_region_end
   q_c stepG_seq
   q_c stepG_seq
   q_reg
   (refine QV (.bool true) rfl rfl ?_;walk_nrm)
   (refine QV (.int .i64 (-1)) rfl rfl ?_;walk_nrm)
   (refine QV (.bool false) rfl rfl ?_;walk_nrm)
   (refine QV (.bool false) rfl rfl ?_;walk_nrm)
   (refine QV (.bool false) rfl rfl ?_;walk_nrm)
   q_skip
   q_skip
   q_skip
   q_skip
   (refine QV (.bool false) rfl rfl ?_;walk_nrm)
   q_c stepG_region_end
   q_cond false
   q_c stepG_skip
   q_c stepG_seq
   q_c stepG_seq
   q_reg
   (refine QV (.int .i32 0) rfl rfl ?_;walk_nrm)
   (refine QV (.bool false) rfl rfl ?_;walk_nrm)
   q_c stepG_region_end
   q_cond false
   q_c stepG_skip
   q_c stepG_seq
   q_c stepG_seq
   q_reg
   (refine QV (.int .u32 0) rfl rfl ?_;walk_nrm)
   (refine QV (.bool false) rfl rfl ?_;walk_nrm)
   (refine QV (.bool false) rfl rfl ?_;walk_nrm)
   q_skip
   q_skip
   (refine QV (.bool false) rfl rfl ?_;walk_nrm)
   (refine QV (.bool false) rfl rfl ?_;walk_nrm)
   q_skip
   q_skip
   q_skip
   q_skip
   (refine QV (.bool false) rfl rfl ?_;walk_nrm)
   q_c stepG_region_end
   q_cond false
   q_c stepG_skip
   q_c stepG_seq
   q_c stepG_seq
   q_reg
   (refine QV (.int .i32 0) rfl rfl ?_;walk_nrm)
   (refine QV (.bool false) rfl rfl ?_;walk_nrm)
   (refine QV (.bool false) rfl rfl ?_;walk_nrm)
   (refine QV (.int .u32 0) rfl rfl ?_;walk_nrm)
   (refine QV (.bool true) rfl rfl ?_;walk_nrm)
   (refine QV (.bool true) rfl rfl ?_;walk_nrm)
   q_c stepG_region_end
   q_cond true
   q_c stepG_ret'
   q_enable
   q_leave0 H.f_add
   q_c stepG_region_end
   q_c stepG_end
   exact QuitsD.leaveD rfl rfl H.f_done rfl U hT
  ·obtain rfl:J=1:=by omega
   rw[if_pos (by simp)]
   simp only[KK,Int.ofNat_zero,Int.zero_mul,Int.zero_add,Int.cast_ofNat_Int,Int.natCast_zero,Int.natCast_one]
   change cy P p aK false ⟨no,no,1, .l1⟩ _ _
   refine cy.bH (n:=140) (by simp) ?_
   walk_nrm
   u_op ag e
   u_c stepG_region_end ag e
   u_c stepG_ret' ag e
   u_leave1 H.f_uAdd ag e
   u_op ag e
   u_c stepG_region_end ag e
   u_c stepG_seq ag e
   u_c stepG_seq ag e
   u_reg ag e
   u_op ag e
   u_op ag e
   u_op ag e
   u_op ag e
   u_skip ag e
   u_skip ag e
   u_op ag e
   u_c stepG_region_end ag e
   (u_in ag e;rw[stepG_cond (t:=false) (by first|rfl|(simp[Act.eval];omega))];simp only[goes_go,if_true,if_false,Bool.false_eq_true,↓reduceIte];refine⟨by u_nil,?_⟩)
   u_c stepG_skip ag e
   u_c stepG_seq ag e
   u_reg ag e
   u_op ag e
   u_op ag e
   u_op ag e
   u_op ag e
   u_c stepG_region_end ag e
   u_c stepG_seq ag e
   u_reg ag e
   u_op ag e
   u_op ag e
   u_op ag e
   u_op ag e
   u_c stepG_region_end ag e
   u_c stepG_seq ag e
   u_c stepG_seq ag e
   u_reg ag e
   u_op ag e
   u_op ag e
   u_op ag e
   u_op ag e
   u_op ag e
   u_skip ag e
   u_skip ag e
   u_skip ag e
   u_skip ag e
   u_op ag e
   u_c stepG_region_end ag e
   (u_in ag e;rw[stepG_cond (t:=false) (by first|rfl|(simp[Act.eval];omega))];simp only[goes_go,if_true,if_false,Bool.false_eq_true,↓reduceIte];refine⟨by u_nil,?_⟩)
   u_c stepG_skip ag e
   u_c stepG_seq ag e
   u_c stepG_seq ag e
   u_reg ag e
   u_op ag e
   u_op ag e
   u_c stepG_region_end ag e
   (u_in ag e;rw[stepG_cond (t:=false) (by first|rfl|(simp[Act.eval];omega))];simp only[goes_go,if_true,if_false,Bool.false_eq_true,↓reduceIte];refine⟨by u_nil,?_⟩)
   u_c stepG_skip ag e
   u_c stepG_seq ag e
   u_c stepG_seq ag e
   u_reg ag e
   u_op ag e
   u_op ag e
   u_op ag e
   u_op ag e
   u_op ag e
   u_op ag e
   u_op ag e
   u_skip ag e
   u_skip ag e
   u_skip ag e
   u_skip ag e
   u_op ag e
   u_c stepG_region_end ag e
   (u_in ag e;rw[stepG_cond (t:=false) (by first|rfl|(simp[Act.eval];omega))];simp only[goes_go,if_true,if_false,Bool.false_eq_true,↓reduceIte];refine⟨by u_nil,?_⟩)
   u_c stepG_skip ag e
   u_c stepG_seq ag e
   u_c stepG_seq ag e
   u_reg ag e
   u_op ag e
   u_op ag e
   u_op ag e
   u_op ag e
   u_op ag e
   u_op ag e
   u_c stepG_region_end ag e
   (u_in ag e;rw[stepG_cond (t:=false) (by first|rfl|(simp[Act.eval];omega))];simp only[goes_go,if_true,if_false,Bool.false_eq_true,↓reduceIte];refine⟨by u_nil,?_⟩)
   u_c stepG_skip ag e
   u_c stepG_seq ag e
   u_c stepG_seq ag e
   u_reg ag e
   u_op ag e
   u_op ag e
   u_op ag e
   u_call H.f_uLoad (nm_uLoad L) uLoadFn ag e
   u_c stepG_seq ag e
   u_reg ag e
   u_op ag e
   u_c stepG_region_end ag e
   u_c stepG_seq ag e
   u_reg ag e
   u_op ag e
   u_op ag e
   u_op ag e
   (refine Goes.stop (fun Y I=>?_);replace e:=ag e I;clear I)
   refine cy.intro (.sync rfl (by simp) fun af k s B W=>?_)
   replace e:=ag e k
   clear k
   have hs:s=⟨0,1,0,false⟩:=by simpa[uH]using W
   subst hs
   have D:=B.wg
   simp only[KK,Int.ofNat_zero,Int.zero_mul,Int.zero_add,Int.ofNat_one,Int.cast_ofNat_Int,Int.natCast_zero,Int.natCast_one]at D
   refine⟨_,af,_, .l2,⟨0,1,0,false⟩,stepG_load_atomic (v:=1) rfl rfl (by k_ne) rfl H.f_loadU64 (x_loadU64_n L) (x_loadU64_b L) (x_loadU64_x L) .u64 (x_loadU64_f L) rfl D.cellSt, .Jv (by decide), .refl _,B, .inl ⟨rfl,rfl⟩,?_⟩
   clear B W D
   change cy P p aK false ⟨no,no,1, .l2⟩ _ _
   walk_nrm
   refine cy.bH (n:=140) (by simp) ?_
   u_op ag e
   u_c stepG_region_end ag e
   u_c stepG_ret' ag e
   u_leave1 H.f_uLoad ag e
   u_op ag e
   u_op ag e
   u_c stepG_region_end ag e
   (u_in ag e;rw[stepG_cond (t:=false) (by first|rfl|(simp[Act.eval];omega))];simp only[goes_go,if_true,if_false,Bool.false_eq_true,↓reduceIte];refine⟨by u_nil,?_⟩)
   u_c stepG_skip ag e
   u_c stepG_seq ag e
   u_reg ag e
   u_op ag e
   u_op ag e
   u_op ag e
   u_call H.f_uStore (nm_uStore L) uStoreFn ag e
   u_reg ag e
   u_op ag e
   u_op ag e
   u_op ag e
   u_op ag e
   (refine Goes.stop (fun Y I=>?_);replace e:=ag e I;clear I)
   refine cy.intro (.sync rfl (by simp) fun af k s B W=>?_)
   replace e:=ag e k
   clear k
   have hs:s=⟨0,1,0,false⟩:=by simpa[uH]using W
   subst hs
   have D:=B.wg
   obtain⟨E,O⟩:=B.setSt 0 0 (x:=0) (by simp)
   refine⟨_,_,_, .l3,⟨0,0,0,false⟩,stepG_store_atomic rfl rfl (by k_ne) rfl H.f_storeU64 (x_storeU64_n L) (x_storeU64_b L) (x_storeU64_x L) (x_storeU64_f L) rfl rfl D.cellSt (D.thaw 0), .Jw (by decide),O,E, .inl ⟨rfl,rfl⟩,?_⟩
   replace e:=e.only hA O E
   generalize af.setCell (stA p.Wg) (.int .u64 0)=aa at e ⊢
   clear B E O D W
   change cy P p aK false ⟨no,no,1, .l3⟩ _ _
   refine cy.bH (n:=140) (by simp) ?_
   walk_nrm
   u_c stepG_region_end ag e
   u_c stepG_end ag e
   u_leave0 H.f_uStore ag e
   u_c stepG_region_end ag e
   u_c stepG_seq ag e
   u_c stepG_seq ag e
   u_reg ag e
   u_op ag e
   u_c stepG_region_end ag e
   (u_in ag e;rw[stepG_cond (t:=false) (by first|rfl|(simp[Act.eval];omega))];simp only[goes_go,if_true,if_false,Bool.false_eq_true,↓reduceIte];refine⟨by u_nil,?_⟩)
   u_c stepG_skip ag e
   u_c stepG_block ag e
   u_c stepG_loop ag e
   u_c stepG_seq ag e
   u_c stepG_seq ag e
   u_reg ag e
   u_op ag e
   u_op ag e
   u_c stepG_region_end ag e
   (u_in ag e;rw[stepG_cond (t:=true) (by first|rfl|(simp[Act.eval];omega))];simp only[goes_go,if_true,if_false,Bool.false_eq_true,↓reduceIte];refine⟨by u_nil,?_⟩)
   u_c stepG_skip ag e
   u_c stepG_seq ag e
   u_c stepG_block ag e
   u_reg ag e
   u_op ag e
   u_op ag e
   u_op ag e
   (refine Goes.stop (fun Y I=>?_);replace e:=ag e I;clear I)
   refine cy.intro (.sync rfl (by simp) fun af k s B W=>?_)
   replace e:=ag e k
   clear k
   have hs:s=⟨0,0,0,false⟩:=by simpa[uH]using W
   subst hs
   have D:=B.wg
   obtain⟨E,O⟩:=B.setSm 1 (x:=IntKind.u32.wrap (((0:Nat):Int)+1)) (by decide)
   refine⟨_,_,_, .out,⟨0,0,1,false⟩,stepG_semrelease rfl rfl (by k_ne) rfl H.f_semrelease (x_semrelease_n L) (x_semrelease_b L) (x_semrelease_x L) (x_semrelease_f L) (by simp[Act.eval,smA]<;>rfl) D.cellSm (D.thaw 1), .rel (by decide),O,E, .inr ?_,?_⟩
   ·simp[mayWake,G,Frame.at,Frame.eval,Act.eval,H.f_semrelease,semreleaseFn];done
   refine cy.jc (q:=qt+22) (d:=1) ?_
   walk_nrm
   q_c stepG_region_end
   q_c stepG_inBlock
   q_reg
   (refine QV (.int .u32 1) rfl rfl ?_;walk_nrm)
   (refine QV (.int .u32 0) rfl rfl ?_;walk_nrm)
   (refine QV (.int .u32 0) rfl rfl ?_;walk_nrm)
   q_c stepG_region_end
   q_c stepG_inLoop
   q_c stepG_seq
   q_c stepG_seq
   q_reg
   (refine QV (.int .u32 0) rfl rfl ?_;walk_nrm)
   (refine QV (.bool false) rfl rfl ?_;walk_nrm)
   q_c stepG_region_end
   q_cond false
   q_exit
   q_c stepG_end
   q_enable
   q_leave0 H.f_add
   q_c stepG_region_end
   q_c stepG_end
   exact QuitsD.leaveD rfl rfl H.f_done rfl U hT
 ·rw[if_neg (by omega)]
  rcases Nat.eq_zero_or_pos J with rfl|ax
  ·refine cy.jc (q:=qt+92) (d:=1) ?_
   obtain⟨V,X⟩:∃ V:Int,V=((v:Nat):Int):=⟨_,rfl⟩
   obtain⟨S,hS⟩:∃ S:Int,S=V*KK+(0:Nat):=⟨_,rfl⟩
   rw[<-X,<-hS]
   have a6:S/4294967296=V:=by rw[hS];simp only[KK];omega
   have b1:bits .and .u64 S 2147483648=0:=by rw[hS,X];have :=st_flag v 0 (by omega) (by omega);simpa[KK]using this
   have b2:bits .and .u64 S 2147483647=0:=by rw[hS,X];have :=st_waiters v 0 (by omega) (by omega);simpa[KK]using this
   have c1:IntKind.i32.wrap V=V:=by rw[IntKind.wrap_i32];omega
   have a0:0<V:=by omega
   have a1:V<2147483648:=by omega
   have q3:decide (V<0)=false:=decide_eq_false (by omega)
   have q4:decide (0<V)=true:=decide_eq_true (by omega)
   have q5:(V==0)=false:=by simp;omega
   have q6:decide (V=0)=false:=decide_eq_false (by omega)
   clear hS X
   walk_nrm
   (refine QV (.int .u64 S) rfl rfl ?_;walk_nrm)
   q_c stepG_region_end
   q_c stepG_ret'
   q_leave1 H.f_uAdd
   (refine QV (.int .u64 S) rfl rfl ?_;walk_nrm)
   q_c stepG_region_end
   q_c stepG_seq
   q_c stepG_seq
   q_reg
   (refine QV (.int .u64 S) rfl rfl ?_;walk_nrm)
   (refine QV (.int .u64 0) rfl rfl ?_;walk_nrm)
   (refine QV (.bool false) rfl rfl ?_;walk_nrm)
   (refine QV (.bool false) rfl rfl ?_;walk_nrm)
   q_skip
   q_skip
   (refine QV (.bool false) rfl rfl ?_;walk_nrm)
   q_c stepG_region_end
   q_cond false
   q_c stepG_skip
   q_c stepG_seq
   q_reg
   (refine QV (.int .u64 S) rfl rfl ?_;walk_nrm)
   (refine QV (.int .u64 V) rfl rfl ?_;walk_nrm)
   (refine QV (.int .i32 V) rfl rfl ?_;walk_nrm)
   (refine QV (.int .i32 V) rfl rfl ?_;walk_nrm)
   q_c stepG_region_end
   q_c stepG_seq
   q_reg
   (refine QV (.int .u64 S) rfl rfl ?_;walk_nrm)
   (refine QV (.int .u64 0) rfl rfl ?_;walk_nrm)
   (refine QV (.int .u32 0) rfl rfl ?_;walk_nrm)
   (refine QV (.int .u32 0) rfl rfl ?_;walk_nrm)
   q_c stepG_region_end
   q_c stepG_seq
   q_c stepG_seq
   q_reg
   (refine QV (.bool true) rfl rfl ?_;walk_nrm)
   (refine QV (.int .i64 (-1)) rfl rfl ?_;walk_nrm)
   (refine QV (.bool false) rfl rfl ?_;walk_nrm)
   (refine QV (.bool false) rfl rfl ?_;walk_nrm)
   (refine QV (.bool false) rfl rfl ?_;walk_nrm)
   q_skip
   q_skip
   q_skip
   q_skip
   (refine QV (.bool false) rfl rfl ?_;walk_nrm)
   q_c stepG_region_end
   q_cond false
   q_c stepG_skip
   q_c stepG_seq
   q_c stepG_seq
   q_reg
   (refine QV (.int .i32 V) rfl rfl ?_;walk_nrm)
   (refine QV (.bool false) rfl rfl ?_;walk_nrm)
   q_c stepG_region_end
   q_cond false
   q_c stepG_skip
   q_c stepG_seq
   q_c stepG_seq
   q_reg
   (refine QV (.int .u32 0) rfl rfl ?_;walk_nrm)
   (refine QV (.bool false) rfl rfl ?_;walk_nrm)
   (refine QV (.bool false) rfl rfl ?_;walk_nrm)
   q_skip
   q_skip
   (refine QV (.bool false) rfl rfl ?_;walk_nrm)
   (refine QV (.bool false) rfl rfl ?_;walk_nrm)
   q_skip
   q_skip
   q_skip
   q_skip
   (refine QV (.bool false) rfl rfl ?_;walk_nrm)
   q_c stepG_region_end
   q_cond false
   q_c stepG_skip
   q_c stepG_seq
   q_c stepG_seq
   q_reg
   (refine QV (.int .i32 V) rfl rfl ?_;walk_nrm)
   (refine QV (.bool true) rfl rfl ?_;walk_nrm)
   (refine QV (.bool true) rfl rfl ?_;walk_nrm)
   q_skip
   q_skip
   (refine QV (.bool true) rfl rfl ?_;walk_nrm)
   q_c stepG_region_end
   q_cond true
   q_c stepG_ret'
   q_enable
   q_leave0 H.f_add
   q_c stepG_region_end
   q_c stepG_end
   exact QuitsD.leaveD rfl rfl H.f_done rfl U hT
  ·obtain rfl:J=1:=by omega
   refine cy.jc (q:=qt+92) (d:=1) ?_
   obtain⟨V,X⟩:∃ V:Int,V=((v:Nat):Int):=⟨_,rfl⟩
   obtain⟨S,hS⟩:∃ S:Int,S=V*KK+(1:Nat):=⟨_,rfl⟩
   rw[<-X,<-hS]
   have a6:S/4294967296=V:=by rw[hS];simp only[KK];omega
   have b1:bits .and .u64 S 2147483648=0:=by rw[hS,X];have :=st_flag v 1 (by omega) (by omega);simpa[KK]using this
   have b2:bits .and .u64 S 2147483647=1:=by rw[hS,X];have :=st_waiters v 1 (by omega) (by omega);simpa[KK]using this
   have c1:IntKind.i32.wrap V=V:=by rw[IntKind.wrap_i32];omega
   have a0:0<V:=by omega
   have a1:V<2147483648:=by omega
   have q3:decide (V<0)=false:=decide_eq_false (by omega)
   have q4:decide (0<V)=true:=decide_eq_true (by omega)
   have q5:(V==0)=false:=by simp;omega
   have q6:decide (V=0)=false:=decide_eq_false (by omega)
   clear hS X
   walk_nrm
   (refine QV (.int .u64 S) rfl rfl ?_;walk_nrm)
   q_c stepG_region_end
   q_c stepG_ret'
   q_leave1 H.f_uAdd
   (refine QV (.int .u64 S) rfl rfl ?_;walk_nrm)
   q_c stepG_region_end
   q_c stepG_seq
   q_c stepG_seq
   q_reg
   (refine QV (.int .u64 S) rfl rfl ?_;walk_nrm)
   (refine QV (.int .u64 0) rfl rfl ?_;walk_nrm)
   (refine QV (.bool false) rfl rfl ?_;walk_nrm)
   (refine QV (.bool false) rfl rfl ?_;walk_nrm)
   q_skip
   q_skip
   (refine QV (.bool false) rfl rfl ?_;walk_nrm)
   q_c stepG_region_end
   q_cond false
   q_c stepG_skip
   q_c stepG_seq
   q_reg
   (refine QV (.int .u64 S) rfl rfl ?_;walk_nrm)
   (refine QV (.int .u64 V) rfl rfl ?_;walk_nrm)
   (refine QV (.int .i32 V) rfl rfl ?_;walk_nrm)
   (refine QV (.int .i32 V) rfl rfl ?_;walk_nrm)
   q_c stepG_region_end
   q_c stepG_seq
   q_reg
   (refine QV (.int .u64 S) rfl rfl ?_;walk_nrm)
   (refine QV (.int .u64 1) rfl rfl ?_;walk_nrm)
   (refine QV (.int .u32 1) rfl rfl ?_;walk_nrm)
   (refine QV (.int .u32 1) rfl rfl ?_;walk_nrm)
   q_c stepG_region_end
   q_c stepG_seq
   q_c stepG_seq
   q_reg
   (refine QV (.bool true) rfl rfl ?_;walk_nrm)
   (refine QV (.int .i64 (-1)) rfl rfl ?_;walk_nrm)
   (refine QV (.bool false) rfl rfl ?_;walk_nrm)
   (refine QV (.bool false) rfl rfl ?_;walk_nrm)
   (refine QV (.bool false) rfl rfl ?_;walk_nrm)
   q_skip
   q_skip
   q_skip
   q_skip
   (refine QV (.bool false) rfl rfl ?_;walk_nrm)
   q_c stepG_region_end
   q_cond false
   q_c stepG_skip
   q_c stepG_seq
   q_c stepG_seq
   q_reg
   (refine QV (.int .i32 V) rfl rfl ?_;walk_nrm)
   (refine QV (.bool false) rfl rfl ?_;walk_nrm)
   q_c stepG_region_end
   q_cond false
   q_c stepG_skip
   q_c stepG_seq
   q_c stepG_seq
   q_reg
   (refine QV (.int .u32 1) rfl rfl ?_;walk_nrm)
   (refine QV (.bool true) rfl rfl ?_;walk_nrm)
   (refine QV (.bool true) rfl rfl ?_;walk_nrm)
   (refine QV (.int .i64 (-1)) rfl rfl ?_;walk_nrm)
   (refine QV (.bool false) rfl rfl ?_;walk_nrm)
   (refine QV (.bool false) rfl rfl ?_;walk_nrm)
   (refine QV (.bool false) rfl rfl ?_;walk_nrm)
   q_skip
   q_skip
   q_skip
   q_skip
   (refine QV (.bool false) rfl rfl ?_;walk_nrm)
   q_c stepG_region_end
   q_cond false
   q_c stepG_skip
   q_c stepG_seq
   q_c stepG_seq
   q_reg
   (refine QV (.int .i32 V) rfl rfl ?_;walk_nrm)
   (refine QV (.bool true) rfl rfl ?_;walk_nrm)
   (refine QV (.bool true) rfl rfl ?_;walk_nrm)
   q_skip
   q_skip
   (refine QV (.bool true) rfl rfl ?_;walk_nrm)
   q_c stepG_region_end
   q_cond true
   q_c stepG_ret'
   q_enable
   q_leave0 H.f_add
   q_c stepG_region_end
   q_c stepG_end
   exact QuitsD.leaveD rfl rfl H.f_done rfl U hT
end
section
variable {P:Program} {L:WgLink} {p:Pr} {aK:Value->World->Prop} {A Rd:aI} {w:World} {yz:Frame} {yA:Act} {iH:Array Oper} {yB:Nat} {jN:List Nat} {yC:List Item} {cs:List Frame}
set_option maxRecDepth 100000 in
set_option maxHeartbeats 8000000 in
theorem yE(H:WgLib P L)(hA:oF p A Rd)(hn:p.n<2147483647){w0:World}
  (hT:∀ w',dd A Rd w0 w'->gm p w'->cy P p aK false ⟨A,Rd,0, .cs⟩ (G (yz.at (yA.put ((iH[yB]?).bind (·.dst)) (.tuple #[])) (.inRegion iH jN::yC)) cs) w'):
  ∀ (B:Nat),B<=p.n->∀ (T:Array Value) (w:World),T.size=84->T[0]? =some (.pointer (some ⟨p.Wg,0,none⟩))->WK p A Rd w0 w->
   cy P p aK false ⟨A,Rd,1, .cw B⟩ (G ((base L.wait).at ⟨T,[]⟩ [.code (L7 L), .inLoop (L7 L), .inBlock 0]) (yz.at yA (.inRegion iH (yB::jN)::yC)::cs)) w:=by
 lib_facts
 intro B
 induction B using Nat.strongRecOn with
 |_ B ih=>
 intro a3 T w aa t0 b
 obtain⟨v0,v1,v2,v3,v4,v5,v6,v7,v8,v9,v10,v11,a4,a5,a6,a7,a8,ba,bc,bh,v20,bl,bn,bo,bp,bq,br,bu,bx,b1,v30,b2,b3,b4,ca,cl,cQ,cT,cV,c0,c5,c6,df,di,dj,dy,dA,dD,dN,dO,dT,dV,ea,ed,ei,en,eo,ep,et,eu,ev,eL,eS,e0,e1,e2,e3,e4,e5,e6,e7,fa,fc,fo,fp,fr,fs,ft,fz,fR,ga,gd,gh,gi,rfl⟩:=array84 T aa
 simp only[List.getElem?_toArray,List.getElem?_cons_zero,Option.some.injEq]at t0
 subst t0
 refine cy.bH (n:=140) (by simp) ?_
 simp only[L7,body_wait,waitFn,Option.getD_some]
 u_c stepG_block ag b
 u_c stepG_seq ag b
 u_reg ag b
 u_op ag b
 u_op ag b
 u_op ag b
 u_call H.f_uLoad (nm_uLoad L) uLoadFn ag b
 u_c stepG_seq ag b
 u_reg ag b
 u_op ag b
 u_c stepG_region_end ag b
 u_c stepG_seq ag b
 u_reg ag b
 u_op ag b
 u_op ag b
 u_op ag b
 (refine Goes.stop (fun U E=>?_);replace b:=ag b E;clear E)
 refine cy.intro (.sync rfl (by simp) fun af e s k V=>?_)
 replace b:=ag b e
 clear e
 have D:=k.wg
 obtain⟨u,wt,sm,gl⟩:=s
 obtain⟨a0,ah,X,Y⟩:u<=B/\wt=0/\sm=0/\gl=false:=V
 subst ah X Y
 rcases Nat.eq_zero_or_pos u with rfl|al
 ·simp only[KK,Int.ofNat_zero,Int.zero_mul,Int.zero_add,Int.cast_ofNat_Int,Int.natCast_zero]at D
  refine⟨_,af,_, .cs,⟨0,0,0,false⟩,stepG_load_atomic (v:=0) rfl rfl (by k_ne) rfl H.f_loadU64 (x_loadU64_n L) (x_loadU64_b L) (x_loadU64_x L) .u64 (x_loadU64_f L) rfl D.cellSt, .JQ, .refl _,k, .inl ⟨rfl,rfl⟩,?_⟩
  clear k D ih
  change cy P p aK false ⟨A,Rd,1, .cs⟩ _ _
  walk_nrm
  refine cy.bH (n:=140) (by simp) ?_
  u_op ag b
  u_c stepG_region_end ag b
  u_c stepG_ret' ag b
  u_leave1 H.f_uLoad ag b
  u_op ag b
  u_c stepG_region_end ag b
  u_c stepG_seq ag b
  u_reg ag b
  u_op ag b
  u_op ag b
  u_op ag b
  u_op ag b
  u_c stepG_region_end ag b
  u_c stepG_seq ag b
  u_reg ag b
  u_op ag b
  u_op ag b
  u_op ag b
  u_op ag b
  u_c stepG_region_end ag b
  u_c stepG_seq ag b
  u_c stepG_seq ag b
  u_reg ag b
  u_op ag b
  u_op ag b
  u_c stepG_region_end ag b
  (u_in ag b;rw[stepG_cond (t:=true) (by first|rfl|(simp[Act.eval];omega))];simp only[goes_go,if_true,if_false,Bool.false_eq_true,↓reduceIte];refine⟨by u_nil,?_⟩)
  u_c stepG_seq ag b
  (u_in ag b;rw[stepG_cond (t:=true) (by first|rfl|(simp[Act.eval];omega))];simp only[goes_go,if_true,if_false,Bool.false_eq_true,↓reduceIte];refine⟨by u_nil,?_⟩)
  u_c stepG_seq ag b
  u_reg ag b
  (refine Goes.stop (fun U E=>?_);replace b:=ag b E;clear E)
  refine cy.mark rfl (by simp) .enable (by simp[fN]) (d':=0) rfl (fun af e=>stepG_mark0 .enable (by simp) rfl rfl (by k_ne) rfl H.f_enable (x_enable_n L) (x_enable_b L) (x_enable_x L) (x_enable_f L)) fun af e=>?_
  replace b:=ag b e
  clear e
  walk_nrm
  refine cy.bH (n:=140) (by simp) ?_
  u_c stepG_region_end ag b
  u_reg ag b
  u_op ag b
  u_conv H.underlying_tWgP H.room_tWg (WK.cell0 b).choose_spec ag b
  (refine Goes.stop (fun U E=>?_);replace b:=ag b E;clear E)
  refine cy.mark rfl (by simp) (.acquire _) (by simp[fN]) (d':=0) rfl (fun af e=>stepG_markAt .acquire (by simp) rfl rfl (by k_ne) rfl H.f_acquire (x_acquire_n L) (x_acquire_b L) (x_acquire_x L) (x_acquire_f L) (by simp[Act.eval]<;>rfl)) fun af e=>?_
  replace b:=ag b e
  clear e
  walk_nrm
  refine cy.bH (n:=140) (by simp) ?_
  u_c stepG_region_end ag b
  u_c stepG_seq ag b
  u_c stepG_seq ag b
  u_reg ag b
  u_op ag b
  u_op ag b
  u_op ag b
  u_op ag b
  u_op ag b
  u_op ag b
  u_op ag b
  u_op ag b
  u_skip ag b
  u_skip ag b
  u_op ag b
  u_c stepG_region_end ag b
  (u_in ag b;rw[stepG_cond (t:=false) (by first|rfl|(simp[Act.eval];omega))];simp only[goes_go,if_true,if_false,Bool.false_eq_true,↓reduceIte];refine⟨by u_nil,?_⟩)
  u_c stepG_skip ag b
  u_c stepG_ret' ag b
  u_leave0 H.f_wait ag b
  (refine Goes.stop (fun U E=>?_);replace b:=ag b E;clear E)
  exact hT _ b.2 b.1
 ·obtain⟨S,hS⟩:∃ S:Int,(u:Int)*KK=S:=⟨_,rfl⟩
  have gq:S/4294967296=(u:Int):=by rw[<-hS];simp only[KK];omega
  have gz:bits .and .u64 S 2147483648=0:=by rw[<-hS];have :=st_flag u 0 (by omega) (by omega);simpa[KK]using this
  have gC:bits .and .u64 S 2147483647=0:=by rw[<-hS];have :=st_waiters u 0 (by omega) (by omega);simpa[KK]using this
  have c1:IntKind.i32.wrap (u:Int)=(u:Int):=by rw[IntKind.wrap_i32];omega
  have w1:IntKind.u64.wrap (S+1)=S+1:=by rw[IntKind.wrap_u64,<-hS];simp only[KK];omega
  have q3:decide ((u:Int)<0)=false:=decide_eq_false (by omega)
  have q4:decide (0<(u:Int))=true:=decide_eq_true (by omega)
  have q5:((u:Int)==0)=false:=by simp;omega
  have q6:decide ((u:Int)=0)=false:=decide_eq_false (by omega)
  have J:WgAt p.ty p.Wg af S 0:=by rw[<-hS];simpa using D
  refine⟨_,af,_, .cc u,⟨u,0,0,false⟩,stepG_load_atomic (v:=S) rfl rfl (by k_ne) rfl H.f_loadU64 (x_loadU64_n L) (x_loadU64_b L) (x_loadU64_x L) .u64 (x_loadU64_f L) rfl J.cellSt, .JR al a0, .refl _,k, .inl ⟨rfl,rfl⟩,?_⟩
  clear k D J
  change cy P p aK false ⟨A,Rd,1, .cc u⟩ _ _
  walk_nrm
  refine cy.bH (n:=140) (by simp) ?_
  u_op ag b
  u_c stepG_region_end ag b
  u_c stepG_ret' ag b
  u_leave1 H.f_uLoad ag b
  u_op ag b
  u_c stepG_region_end ag b
  u_c stepG_seq ag b
  u_reg ag b
  u_op ag b
  u_op ag b
  u_op ag b
  u_op ag b
  u_c stepG_region_end ag b
  u_c stepG_seq ag b
  u_reg ag b
  u_op ag b
  u_op ag b
  u_op ag b
  u_op ag b
  u_c stepG_region_end ag b
  u_c stepG_seq ag b
  u_c stepG_seq ag b
  u_reg ag b
  u_op ag b
  u_op ag b
  u_c stepG_region_end ag b
  (u_in ag b;rw[stepG_cond (t:=false) (by first|rfl|(simp[Act.eval];omega))];simp only[goes_go,if_true,if_false,Bool.false_eq_true,↓reduceIte];refine⟨by u_nil,?_⟩)
  u_c stepG_skip ag b
  u_c stepG_seq ag b
  u_reg ag b
  u_op ag b
  u_op ag b
  u_op ag b
  u_op ag b
  u_op ag b
  u_op ag b
  u_call H.f_uCas (nm_uCas L) uCasFn ag b
  u_c stepG_seq ag b
  u_reg ag b
  u_op ag b
  u_c stepG_region_end ag b
  u_c stepG_seq ag b
  u_reg ag b
  u_op ag b
  u_op ag b
  u_op ag b
  u_op ag b
  u_op ag b
  (refine Goes.stop (fun U E=>?_);replace b:=ag b E;clear E)
  refine cy.intro (.sync rfl (by simp) fun af e s k V=>?_)
  replace b:=ag b e
  clear e
  have D:=k.wg
  obtain⟨W,wt,sm,gl⟩:=s
  obtain⟨ah,X,Y,a1⟩:W<=u/\wt=0/\sm=0/\gl=false:=V
  subst X Y a1
  rcases Nat.lt_or_ge W u with a2|gj
  ·have av: ¬ ((W:Int)*KK+((0:Nat):Int))=S:=by rw[<-hS];simp only[KK];omega
   refine⟨_,af,_, .cw W,⟨W,0,0,false⟩,stepG_cas_miss (old:=S) (n:=S+1) rfl rfl (by k_ne) rfl H.f_casU64 (x_casU64_n L) (x_casU64_b L) (x_casU64_x L) .u64 (x_casU64_f L) rfl rfl rfl D.cellSt (D.thaw 0) av, .nv a2, .refl _,k, .inl ⟨rfl,rfl⟩,?_⟩
   clear k D av
   change cy P p aK false ⟨A,Rd,1, .cw W⟩ _ _
   walk_nrm
   refine cy.bH (n:=140) (by simp) ?_
   u_op ag b
   u_c stepG_region_end ag b
   u_c stepG_ret' ag b
   u_leave1 H.f_uCas ag b
   u_c stepG_region_end ag b
   (u_in ag b;rw[stepG_cond (t:=false) (by first|rfl|(simp[Act.eval];omega))];simp only[goes_go,if_true,if_false,Bool.false_eq_true,↓reduceIte];refine⟨by u_nil,?_⟩)
   u_c stepG_skip ag b
   u_c stepG_inBlock ag b
   u_c stepG_inLoop ag b
   (refine Goes.stop (fun U E=>?_);replace b:=ag b E;clear E)
   exact ih W (by omega) (by omega) _ _ rfl rfl b
  ·obtain rfl:W=u:=by omega
   have J:WgAt p.ty p.Wg af S 0:=by rw[<-hS];simpa using D
   obtain⟨I,O⟩:=k.setSt W 1 (x:=S+1) (by rw[<-hS];rfl)
   refine⟨_,_,_, .cr,⟨W,1,0,false⟩,stepG_cas_hit (v:=S) (n:=S+1) rfl rfl (by k_ne) rfl H.f_casU64 (x_casU64_n L) (x_casU64_b L) (x_casU64_x L) .u64 (x_casU64_f L) rfl rfl rfl J.cellSt (J.thaw 0), .JS al,O,I, .inl ⟨rfl,rfl⟩,?_⟩
   replace b:=b.only hA O I
   generalize af.setCell (stA p.Wg) (.int .u64 (S+1))=ax at b ⊢
   clear k I O D J ih
   change cy P p aK false ⟨A,Rd,1, .cr⟩ _ _
   walk_nrm
   refine cy.bH (n:=140) (by simp) ?_
   u_op ag b
   u_c stepG_region_end ag b
   u_c stepG_ret' ag b
   u_leave1 H.f_uCas ag b
   u_c stepG_region_end ag b
   (u_in ag b;rw[stepG_cond (t:=true) (by first|rfl|(simp[Act.eval];omega))];simp only[goes_go,if_true,if_false,Bool.false_eq_true,↓reduceIte];refine⟨by u_nil,?_⟩)
   u_c stepG_seq ag b
   u_c stepG_seq ag b
   u_reg ag b
   u_op ag b
   u_op ag b
   u_op ag b
   u_op ag b
   u_c stepG_region_end ag b
   (u_in ag b;rw[stepG_cond (t:=true) (by first|rfl|(simp[Act.eval];omega))];simp only[goes_go,if_true,if_false,Bool.false_eq_true,↓reduceIte];refine⟨by u_nil,?_⟩)
   u_reg ag b
   u_op ag b
   u_op ag b
   u_op ag b
   u_conv H.underlying_tPU32 H.room_tU32 (WK.cell1 b).choose_spec ag b
   (refine Goes.stop (fun U E=>?_);replace b:=ag b E;clear E)
   refine cy.intro (.sync rfl (by simp) fun af e s k V=>⟨_,af,_, .cr,s,stepG_markAt .write (by simp) rfl rfl (by k_ne) rfl H.f_raceWrite (x_raceWrite_n L) (x_raceWrite_b L) (x_raceWrite_x L) (x_raceWrite_f L) (ad:=smA p.Wg) (by simp[Act.eval,smA]), .zW, .refl _,k, .inl ⟨rfl,rfl⟩,?_⟩)
   replace b:=ag b e
   clear e k V
   change cy P p aK false ⟨A,Rd,1, .cr⟩ _ _
   walk_nrm
   refine cy.bH (n:=140) (by simp) ?_
   u_c stepG_region_end ag b
   u_c stepG_seq ag b
   u_reg ag b
   u_op ag b
   u_c stepG_region_end ag b
   u_c stepG_seq ag b
   u_c stepG_seq ag b
   u_reg ag b
   u_op ag b
   u_op ag b
   u_op ag b
   u_op ag b
   u_skip ag b
   u_op ag b
   u_c stepG_region_end ag b
   (u_in ag b;rw[stepG_cond (t:=false) (by first|rfl|(simp[Act.eval];omega))];simp only[goes_go,if_true,if_false,Bool.false_eq_true,↓reduceIte];refine⟨by u_nil,?_⟩)
   u_c stepG_skip ag b
   u_c stepG_seq ag b
   u_reg ag b
   u_op ag b
   u_op ag b
   u_op ag b
   u_op ag b
   (refine Goes.stop (fun U E=>?_);replace b:=ag b E;clear E)
   refine cy.intro (.wait rfl rfl rfl fun af e s k V=>⟨fun h0=>?_,fun h1=>?_⟩)
   ·have D:=k.wg
    rw[h0]at D
    exact stepG_semacquire_wait rfl rfl rfl H.f_semacquire (x_semacquire_n L) (x_semacquire_b L) (x_semacquire_x L) (x_semacquire_f L) (by simp[Act.eval,smA]) D.cellSm
   replace b:=ag b e
   clear e
   have hs:s=⟨0,0,1,false⟩:=by
    obtain⟨v1,v2,v3,v4⟩:=s
    obtain⟨x1,x2⟩:=V
    simp only at x1 x2 h1
    subst x1 h1
    rcases x2 with⟨_,x⟩|⟨x,y,_⟩
    ·cases x
    ·subst x y;rfl
   subst hs
   have D:=k.wg
   obtain⟨I,O⟩:=k.setSm 0 (x:=((1:Nat):Int)-1) (by decide)
   refine⟨_,_,stepG_semacquire rfl rfl (by k_ne) rfl H.f_semacquire (x_semacquire_n L) (x_semacquire_b L) (x_semacquire_x L) (x_semacquire_f L) (by simp[Act.eval,smA]<;>rfl) D.cellSm (by decide) (D.thaw 1),O,I,?_⟩
   replace b:=b.only hA O I
   generalize af.setCell (smA p.Wg) (.int .u32 (((1:Nat):Int)-1))=ax at b ⊢
   clear k I O D V h1
   change cy P p aK false ⟨A,Rd,1, .cs⟩ _ _
   walk_nrm
   refine cy.bH (n:=140) (by simp) ?_
   u_c stepG_region_end ag b
   u_c stepG_seq ag b
   u_reg ag b
   u_op ag b
   u_op ag b
   u_op ag b
   u_call H.f_uLoad (nm_uLoad L) uLoadFn ag b
   u_c stepG_seq ag b
   u_reg ag b
   u_op ag b
   u_c stepG_region_end ag b
   u_c stepG_seq ag b
   u_reg ag b
   u_op ag b
   u_op ag b
   u_op ag b
   (refine Goes.stop (fun U E=>?_);replace b:=ag b E;clear E)
   refine cy.intro (.sync rfl (by simp) fun af e s k V=>?_)
   replace b:=ag b e
   clear e
   have D:=k.wg
   have hs:s=⟨0,0,0,false⟩:=by simpa[uH]using V
   subst hs
   simp only[KK,Int.ofNat_zero,Int.zero_mul,Int.zero_add,Int.cast_ofNat_Int,Int.natCast_zero]at D
   refine⟨_,af,_, .cs,⟨0,0,0,false⟩,stepG_load_atomic (v:=0) rfl rfl (by k_ne) rfl H.f_loadU64 (x_loadU64_n L) (x_loadU64_b L) (x_loadU64_x L) .u64 (x_loadU64_f L) rfl D.cellSt, .Jx, .refl _,k, .inl ⟨rfl,rfl⟩,?_⟩
   clear k V D
   change cy P p aK false ⟨A,Rd,1, .cs⟩ _ _
   walk_nrm
   refine cy.bH (n:=140) (by simp) ?_
   u_op ag b
   u_c stepG_region_end ag b
   u_c stepG_ret' ag b
   u_leave1 H.f_uLoad ag b
   u_op ag b
   u_op ag b
   u_c stepG_region_end ag b
   u_c stepG_seq ag b
   (u_in ag b;rw[stepG_cond (t:=true) (by first|rfl|(simp[Act.eval];omega))];simp only[goes_go,if_true,if_false,Bool.false_eq_true,↓reduceIte];refine⟨by u_nil,?_⟩)
   u_c stepG_seq ag b
   u_reg ag b
   (refine Goes.stop (fun U E=>?_);replace b:=ag b E;clear E)
   refine cy.mark rfl (by simp) .enable (by simp[fN]) (d':=0) rfl (fun af e=>stepG_mark0 .enable (by simp) rfl rfl (by k_ne) rfl H.f_enable (x_enable_n L) (x_enable_b L) (x_enable_x L) (x_enable_f L)) fun af e=>?_
   replace b:=ag b e
   clear e
   walk_nrm
   refine cy.bH (n:=140) (by simp) ?_
   u_c stepG_region_end ag b
   u_reg ag b
   u_op ag b
   u_conv H.underlying_tWgP H.room_tWg (WK.cell0 b).choose_spec ag b
   (refine Goes.stop (fun U E=>?_);replace b:=ag b E;clear E)
   refine cy.mark rfl (by simp) (.acquire _) (by simp[fN]) (d':=0) rfl (fun af e=>stepG_markAt .acquire (by simp) rfl rfl (by k_ne) rfl H.f_acquire (x_acquire_n L) (x_acquire_b L) (x_acquire_x L) (x_acquire_f L) (by simp[Act.eval]<;>rfl)) fun af e=>?_
   replace b:=ag b e
   clear e
   walk_nrm
   refine cy.bH (n:=140) (by simp) ?_
   u_c stepG_region_end ag b
   u_c stepG_seq ag b
   u_c stepG_seq ag b
   u_reg ag b
   u_op ag b
   u_c stepG_region_end ag b
   (u_in ag b;rw[stepG_cond (t:=false) (by first|rfl|(simp[Act.eval];omega))];simp only[goes_go,if_true,if_false,Bool.false_eq_true,↓reduceIte];refine⟨by u_nil,?_⟩)
   u_c stepG_skip ag b
   u_c stepG_ret' ag b
   u_leave0 H.f_wait ag b
   (refine Goes.stop (fun U E=>?_);replace b:=ag b E;clear E)
   exact hT _ b.2 b.1
set_option maxRecDepth 100000 in
set_option maxHeartbeats 8000000 in
theorem F8(H:WgLib P L)(B:oF p A Rd)(D:p.n<2147483647)(v:gm p w)
  (E:∀ w',dd A Rd w w'->gm p w'->cy P p aK false ⟨A,Rd,0, .cs⟩ (G (yz.at (yA.put ((iH[yB]?).bind (·.dst)) (.tuple #[])) (.inRegion iH jN::yC)) cs) w'):
  cy P p aK false ⟨A,Rd,0, .cw p.n⟩ (G ((base L.wait).at ⟨#[.pointer (some ⟨p.Wg,0,none⟩)]++Array.replicate 83 undef,[]⟩ [.code (body_wait L)]) (yz.at yA (.inRegion iH (yB::jN)::yC)::cs)) w:=by
 lib_facts
 have b:WK p A Rd w w:=⟨v, .refl w⟩
 refine cy.bH (n:=140) (by simp) ?_
 simp only[body_wait,waitFn,Option.getD_some]
 walk_nrm
 u_c stepG_seq ag b
 (u_in ag b;rw[stepG_cond (t:=true) (by first|rfl|(simp[Act.eval];omega))];simp only[goes_go,if_true,if_false,Bool.false_eq_true,↓reduceIte];refine⟨by u_nil,?_⟩)
 u_reg ag b
 (refine Goes.stop (fun I k=>?_);replace b:=ag b k;clear k)
 refine cy.mark rfl (by simp) .disable (by simp[fN]) (d':=1) rfl (fun af e=>stepG_mark0 .disable (by simp) rfl rfl (by k_ne) rfl H.f_disable (x_disable_n L) (x_disable_b L) (x_disable_x L) (x_disable_f L)) fun af e=>?_
 replace b:=ag b e
 clear e
 walk_nrm
 refine cy.bH (n:=140) (by simp) ?_
 u_c stepG_region_end ag b
 u_c stepG_block ag b
 u_c stepG_loop ag b
 (refine Goes.stop (fun I k=>?_);replace b:=ag b k;clear k)
 exact yE H B D E p.n (Nat.le_refl _) _ _ rfl rfl b
end
end Go.Proofs.YtifcaekngfgdmaaDoor.Nice.Co
namespace Go.Proofs.YtifcaekngfgdmaaDoor.Nice.Co
open Go Go.Conc Go.Conc.Lib
open Go.ConcR (KK WgAt stA smA mk DC0)
noncomputable def r6(P:Program):Frame:={(default:Frame)with fn:=P.funcs.size,defers:= [],mode:= .panicking [goexitEntry]}
theorem yF{P:Program}{f:FuncId}{fn:Func}{c:Code}(vs:Array Value)(e:P.funcs[f]? =some fn)(b:(fn.name== "runtime.NumGoroutine")=false)(k:fn.body=some c)(w:World):
  stepG P false (born P (oH f vs)) w= .go (G ((baseD f).at ⟨vs++Array.replicate (fn.ntmps-vs.size) undef,[]⟩ [.code c]) [r6 P]) w #[]:=by
 have v: ¬ fn.name= "runtime.NumGoroutine" :=by simpa using b
 rw[<-enter_atD vs e k]
 simp[born,oH,stepG,unwind,callDeferred,invoke,callFunc,e,v,k,seen,GStep.after,G,r6]
theorem s7{P:Program}{f:FuncId}{fn:Func}{T:Array Value}{todo:List Item}(b:P.funcs[f]? =some fn)(e:fn.results= #[]):QuitsD P 2 0 (G {(baseD f).at ⟨T,[]⟩ todo with mode:= .returning} [r6 P]):=by
 refine QuitsD.ctl (g':=G (r6 P) []) rfl (fun w=>?_) ?_
 ·simp[G,stepG,unwind,doReturn,results,Frame.at,baseD,r6,b,e,seen,GStep.after,goexitEntry]
 refine QuitsD.ctl (g':={G (r6 P) []with status:= .finished}) rfl (fun w=>?_) ⟨rfl,rfl⟩
 simp[G,stepG,unwind,r6,goexitEntry,Frame.catches]
 rfl
theorem w7{A Rd:aI}{M:aD}{ρ:Names}{w:World}{h:ar}(B:∀ n,h n=none)(D:Holds M w)(hd:∀ b,M b≠none->A b\/Rd b):HR M (ext A Rd F0 w) ρ h w:=by
 refine⟨D,fun b o k=>?_,fun b o k=>?_,fun n blk v=>?_,fun n m x y v=>absurd (B n) v,fun n S es v=>?_⟩
 ·by_cases e:A b\/Rd b
  ·rw[cm e]at k;cases k
  ·rw[c8 e]at k;exact k
 ·refine Classical.byContradiction fun E=>?_
  rw[cm (hd b E)]at k;cases k
 ·rw[B n]at v;cases v
 ·rw[B n]at v;cases v
theorem rb{C:Ctx}{A Rd:aI}{M:aD}{w:World}(args:List SV){vs:Array Value}(D:vs.size=args.length)(V:args.length<=C.sz)(v:∀ (i:Nat) (x:SV),args[i]? =some x->∃ u,vs[i]? =some u/\VR M jM x u)
  (E:Fit A Rd F0 M w) (I:Holds M w) (hd:∀ b,M b≠none->A b\/Rd b) (J:∀ g ρ,VR M ρ (C.G g) (.pointer (some ⟨g,0,none⟩))):SX C A Rd M [] jM 0 (fg (iE 0 args) []) ⟨vs++Array.replicate (C.sz-vs.size) undef,[]⟩ w:=by
 refine⟨E,⟨fun k=>?_,by simp;omega,rfl,w7 (fun n=>by simp[fg,dC]) I hd,fun n x h=>h,(fun n x h=>by cases h),J⟩,rfl,fun _ _=>rfl⟩
 show VR M jM (dG (iE 0 args) k) _
 rw[mT]
 simp only[Nat.zero_le,if_true,Nat.sub_zero]
 rw[List.getD_eq_getElem?_getD]
 cases e:args[k]? with
 |none=>exact .any _
 |some x=>
  obtain⟨u,B,O⟩:=v k x e
  have U:=(Array.getElem?_eq_some_iff.1 B).1
  have :(vs++Array.replicate (C.sz-vs.size) undef).getD k undef=u:=by
   rw[Array.getD_eq_getD_getElem?,Array.getElem?_append_left U,B];rfl
  rw[this];exact O
theorem po{P:Program}{J:Nat->SV}{p:Pr}{aK:Value->World->Prop}{f:FuncId}{fn:Func}{c:Code}{aZ:List SV}{lo:Lo}{hl:lo≠ .out}{hm:lo.mute=false}(W:P.funcs[f]? =some fn)(D:(fn.name== "runtime.NumGoroutine")=false)(v:fn.body=some c)(O:aZ.length<=fn.ntmps)
  (h:∀ Rd M a w,SX ⟨P,fn.ntmps,0,J⟩ no Rd M [] jM 0 (fg (iE 0 aZ) []) a w->yD Rd M w->(cZ P p aK false Rd 0 lo hl hm).T no (G ((baseD f).at a [.code c]) [r6 P]) w):Child P J p aK f aZ lo:=by
 intro Rd M w vs X e Y U V E
 refine cy.intro (.own rfl hl fun af B=>⟨_,af,#[],yF vs W D v af,fun _=>rfl,mc.idle _,?_⟩)
 rw[dp]
 have k:Holds M af:=fun b o I=>by rw[B.ry.ab b (.inr ((e.Jz b).2 (by rw[I];simp)))];exact e.fT b o I
 have hs:=rb (C:=⟨P,fn.ntmps,0,J⟩) (A:=no) (Rd:=Rd) (M:=M) (w:=af) aZ V O (fun i x hx=>let⟨u,a,b⟩:=E i x hx;⟨u,a,b jM⟩)
  ⟨fun b v=>absurd rfl v,fun b v=>(e.Jz b).1 v,fun b v=>v.elim⟩ k (fun b v=> .inr ((e.Jz b).2 v)) X
 exact cZ.elim (h Rd M _ af hs ⟨e.Jz,k⟩) Y (B.wg U)
def yG:SV->SV
 | .d (.val (.func (.func f) first aZ))=>if first= #[]/\aZ= #[]then .fn f []else .d (.val (.func (.func f) first aZ))
 |x=>x
theorem D5{M:aD}{ρ:Names}{x:SV}{u:Value}(h:VR M ρ x u):VR M ρ (yG x) u:=by
 unfold yG
 split
 ·next f first aZ=>
  split
  ·next e=>
   obtain⟨rfl,rfl⟩:=e
   cases h with
   |d _ _ h=>cases h with
    |val _ _=>exact .fn f [] #[] (fun _=>undef) rfl (fun i b=>by simp at b) fun i x k=>by simp at k
  ·exact h
 ·exact h
theorem bV.JX{C:Ctx}{o:Oper}{nm:Nat}{v b:Operand->SV}{bs:List (Nat×aB)}{e:SV->List (Nat×Option aB)->Prop}(k:∀ y M ρ u,VR M ρ (v y) u->VR M ρ (b y) u)(h:bV C o nm b bs e):bV C o nm v bs e:=
 fun K A F M ρ a B w D E G I J O=>h K A F M ρ a B w D (fun x U=>k x _ _ _ (E x U)) G I J O
theorem KA{C:Ctx}{ops:List Oper}{i:Nat}{o:Oper}{l:List Oper}{σ:St}{K:St->Prop}{x:Operand}{b:Array Operand}{B:Array TypeId}{f:FuncId}{fn:Func}{args:List SV}{post:SV->List (Option aB)->Prop}
  (I:Spec C.P C.G f args [] post) (J:o.guard=none) (hd:aM C o=true) (O:o.op= .call {callee:= .value x,args:=b,argTypes:=B}) (U:yG (bE C σ.t x)= .fn f []) (V:C.P.funcs[f]? =some fn) (D:fE fn=true)
  (e:fZ (fun y=>yG (bE C σ.t y)) b.toList++ []=gV [] args) (side:cS 0 args=true)
  (k:∀ r ae,post r ae->an C ops (i+1) l (σ.app o.dst (du (ay (σ.nx+8*i) ae.length) r) (c9 (ay (σ.nx+8*i) ae.length) (ay (σ.nx+8*i) ae.length) ae)) none K):an C ops i (o::l) σ none K:=by
 have E:=(mX (nm:=σ.nx+8*i) (v:=fun y=>yG (bE C σ.t y)) O U V D I [] e (by simp[bK,aW,side])).JX (v:=bE C σ.t) (fun y M ρ u h=>D5 h)
 unfold an
 refine .inr ⟨rfl,hd,by simp[mP,J],_,_,E,(by intro p W;simp[gG]at W),?_⟩
 rintro u wr ⟨r,ae,X,Y,rfl,rfl,rfl⟩
 simpa using k r ae Y
section
variable {C:Ctx} {Z:ZX} {ds:List Deferred} {σ:St} {ops:Array Oper} {i:Nat} {o:Oper} {Rd:aI} {aK:Value->World->Prop} {p:Pr} {x:Operand}
theorem F9(hZ:Up Z){L:WgLink}(H:WgLib C.P L)(V:ops[i]? =some o)(hg:o.guard=none){W:Array TypeId}(I:o.op= .call {callee:= .value (.func L.wait),args:= #[x],argTypes:=W})(hx:bE C σ.t x= .d (.val (.pointer (some ⟨p.Wg,0,none⟩))))
  (hd:(match o.dst with |none=>true|some d=>Nat.blt d C.sz)=true) (hn:p.n<2147483647)
  {hl:Lo.cw p.n≠ .out} {hm:(Lo.cw p.n).mute=false} {hl':Lo.cs≠ .out} {hm':Lo.cs.mute=false}
  (h:RX C ops (i+1) Z (cZ C.P p aK false Rd 0 .cs hl' hm') ds (σ.app o.dst .any [])):RX C ops i Z (cZ C.P p aK false Rd 0 (.cw p.n) hl hm) ds σ:=by
 refine fx V fun A M ρ a w hs b k cs hb hz=>cZ.intro fun hA af G X=>?_
 refine cy.intro (.own rfl (by simp) fun v B=>?_)
 have D:=(hs.rely G).rely B.ry
 have E:=B.wg X
 have e1:=D.val hx
 have J:(waitFn L).body.isNone=false:=rfl
 have O:(execOp a.eval o).run C.P v= .ok (.enter L.wait #[.pointer (some ⟨p.Wg,0,none⟩)]) v:=by
  rw[run_call_body I H.f_wait (Go.ConcR.Gen.nm_wait L) J]
  simp[e1]
 have Y:(execOp a.eval o).events C.P v #[]= #[]:=events_call_body I H.f_wait (Go.ConcR.Gen.nm_wait L) J _
 refine⟨_,v,#[],(stepG_enter V (dc hg) hb O).trans (by unfold listed;rw[Y,seen_none]),fun _=>rfl,mc.idle _,?_⟩
 rw[dp,enter_at _ H.f_wait (c:=Go.ConcR.Gen.body_wait L) rfl]
 refine F8 H hA hn E fun w' r U=>?_
 have hT:=h A M ρ (a.put o.dst (.tuple #[])) w' ((D.rely r).put hd (.any _) (by show σ.nx+8*i<=σ.nx+8*(i+1);omega)) b k cs hb (hZ _ _ _ _ _ _ _ hz (aD.le_refl _) (G.same.trans (B.ry.same.trans r.same)))
 have e:(ops[i]?).bind (·.dst)=o.dst:=by rw[V];rfl
 rw[e]
 exact hT hA w' (.refl _) U
theorem D6(Y:ops[i]? =some o)(hg:o.guard=none){O:Array TypeId}(B:o.op= .call {callee:= .builtin .close,args:= #[x],argTypes:=O})(hx:bE C σ.t x= .d (.val (.chan (some p.Ch)))){hl:Lo.cs≠ .out}{hm:Lo.cs.mute=false}
  (hq:∀ M w b k cs (a:Act),Z M w b k cs->a.defers=ds->(C.P.funcs[b.fn]?).any (·.norace)=false/\∃ q,QuitsD C.P q 0 (G (b.at a (.inRegion ops (List.range' (i+1) (ops.size-(i+1)))::k)) cs)):RX C ops i Z (cZ C.P p aK false Rd 0 .cs hl hm) ds σ:=by
 refine fx Y fun A M ρ a w hs b k cs hb hz=>cZ.intro fun hA af U a1=>?_
 refine cy.intro (.sync rfl (by simp) fun v V s D hp=>?_)
 have E:=(hs.rely U).rely V.ry
 have e1:=E.val hx
 have aa:s=⟨0,0,0,false⟩:=by simpa[uH]using hp
 subst aa
 obtain⟨W,I⟩:=D.ch
 have ah:=DZ D
 have al:p.Ch<v.heap.size:=(Array.getElem?_eq_some_iff.1 I).1
 obtain⟨av,q,hQ⟩:=hq M w b k cs (a.put o.dst (.tuple #[])) hz (by cases o.dst<;>simp[Act.put,hs.df])
 have J:=e1
 simp only[Act.eval,Array.getD_eq_getD_getElem?]at J
 have X:(execOp a.eval o).run C.P v= .ok (.value (.tuple #[])) {v with heap:=v.heap.setIfInBounds p.Ch (.chan 0 #[] true W W false)}:=by
  unfold execOp
  simp only[B]
  simp[go_sem,J,run_close_open _ _ I]
 have ax:(execOp a.eval o).events C.P v #[]= #[⟨.obj p.Ch,false,true⟩,⟨.obj p.Ch,true,true⟩]:=by
  unfold execOp
  simp only[B]
  simp[go_sem,J,events_close_open _ _ I]
 have hl2:listed C.P b.fn a o v= #[⟨.obj p.Ch,false,true⟩,⟨.obj p.Ch,true,true⟩]:=by
  unfold listed
  rw[ax]
  exact seen_eq av (by intro e he f;simp at he;rcases he with rfl|rfl<;>simp)
 refine⟨G (b.at (a.put o.dst (.tuple #[])) (.inRegion ops (List.range' (i+1) (ops.size-(i+1)))::k)) cs,{v with heap:=v.heap.setIfInBounds p.Ch (.chan 0 #[] true W W false)},_, .out,⟨0,0,0,true⟩,(stepG_value Y (dc hg) hb X).trans (by rw[hl2]), .close rfl,⟨⟨rfl,rfl,rfl,by simp⟩,by simp,fun b _ hb=>by simp[Array.getElem?_setIfInBounds_ne (fun e=>hb e.symm)]⟩,⟨?_,W,by simp[al]⟩, .inr ?_,?_⟩
 ·have :=D.wg
  unfold WgAt at this ⊢
  simpa[Array.getElem?_setIfInBounds_ne (fun e=>ah e.symm)]using this
 ·have a0:(ops[i]?).map (·.op)=some (.call {callee:= .builtin .close,args:= #[x],argTypes:=O}):=by rw[Y];simp[B]
  simp[mayWake,G,Frame.at,a0]
 ·exact cy.jc hQ
end
end Go.Proofs.YtifcaekngfgdmaaDoor.Nice.Co
namespace Go.Proofs.YtifcaekngfgdmaaDoor.Nice.Co
open Go Go.Conc
def gP(r:SV):Prop:=∀ M ρ aq u,VR M ρ r u->VR M aq r u
theorem cn{r:SV}(h:SV.kU r=true):gP r:=fun M ρ aq u b=>VR.other b h
theorem D7{xs:List SV}(h:∀ x,x∈xs->gP x):gP (.agg xs):=fun M ρ aq u e=>by
 cases e with
 |agg _ vs g k v B=>exact .agg xs vs g k v fun i y b=>h y (List.mem_of_getElem? b) _ _ _ _ (B i y b)
theorem D8{xs:List SV}(h:∀ x,x∈xs->gP x):gP (.bA xs):=fun M ρ aq u e=>by
 cases e with
 |bA _ vs g k v B=>exact .bA xs vs g k v fun i y b=>h y (List.mem_of_getElem? b) _ _ _ _ (B i y b)
theorem kV{x y:SV}(h:gP x)(k:gP y):gP (.bA [x,y]):=D8 fun z b=>by
 simp at b
 rcases b with rfl|rfl
 ·exact h
 ·exact k
def lW(P:Program)(e:Nat->SV)(f:FuncId)(args:List SV)(K:Tr P)(post:Tr P->SV->Prop):Prop:=
 ∀ A M (vs:Array Value) w,Fit A K.Rd F0 M w->(∀ g ρ,VR M ρ (e g) (.pointer (some ⟨g,0,none⟩)))->Holds M w->(∀ b,M b≠none->A b\/K.Rd b)->vs.size=args.length->
  (∀ (i:Nat) (x:SV),args[i]? =some x->∃ u,vs[i]? =some u/\VR M jM x u)->
  ∀ c cs,(∀ (K':Tr P) A' M' r u w',M.le M'->bG w w'->Fit A' K'.Rd F0 M' w'->Holds M' w'->(∀ b,M' b≠none->A' b\/K'.Rd b)->VR M' jM r u->gP r->post K' r->K'.T A' (G (Frame.finish c u) cs) w')->
   K.T A (G (Frame.enter P f vs .normal) (c::cs)) w
def re(C:Ctx)(fn:Func)(post:Tr C.P->SV->Prop):QX C.P
 | .ret,K,ds,σ| .normal,K,ds,σ=>ds= []/\∃ r,dL C fn σ r/\gP r/\post K r
 |_,_,_,_=>False
theorem SX.holds{C:Ctx}{A Rd:aI}{M:aD}{ds:List Deferred}{ρ:Names}{nb:Nat}{σ:St}{a:Act}{w:World}(h:SX C A Rd M ds ρ nb σ a w):Holds M w:=h.sr.hr.fT
theorem w8{P:Program}{K:Tr P}{C:Ctx}(E:C.P=P){A:aI}{M:aD}{ρ:Names}{σ:St}{a:Act}{w af:World}{fn:Func}{r:SV}(G:SX C A K.Rd M [] ρ σ.nx σ a w)(I:dL C fn σ r)(v:gP r)(k:dd A K.Rd w af):
  ∃ u,(results fn a.tmps).run P af= .ok u af/\VR M jM r u/\∀ e,e∈(results fn a.tmps).events P af #[]->l9 A K.Rd e:=by
 subst E
 have b:=(G.rely k).toSC
 obtain⟨⟨u,B,J⟩,D⟩:=I M _ jM ρ a af b.sr
 exact⟨u,B,v _ _ _ _ J,fun e O=>(D e O).ok b.sr.hr b.fit⟩
theorem oI{P:Program}{E:Nat->SV}{f:FuncId}{fn:Func}{c:Code}{args:List SV}{K:Tr P}{post:Tr P->SV->Prop}(Y:P.funcs[f]? =some fn)(J:fn.body=some c)(hn:Nat.ble args.length fn.ntmps=true)
  (h:WX ⟨P,fn.ntmps,0,E⟩ c (re ⟨P,fn.ntmps,0,E⟩ fn post) K [] (fg (iE 0 args) [])):lW P E f args K post:=by
 intro A M vs w I hG hi hd O D U cs hk
 rw[enter_at vs Y J]
 have hs:=rb (C:=⟨P,fn.ntmps,0,E⟩) (A:=A) (Rd:=K.Rd) args O (Nat.le_of_ble_eq_true hn) D I hi hd hG
 refine h A M jM _ w hs (base f) [] (U::cs) (by intro h;cases h) ?_
 intro e K' ds A' M' aq aF a' w' h1 h2 h3 V
 have fin:ds= []/\(∃ r,dL ⟨P,fn.ntmps,0,E⟩ fn aF r/\gP r/\post K' r)->∀ todo,K'.T A' (G {(base f).at a' todo with mode:= .returning} (U::cs)) w':=by
  rintro⟨rfl,r,hr,k,hp⟩ todo
  refine K'.step A' _ w' rfl fun af v=>?_
  obtain⟨u,W,hv,X⟩:=w8 (C:=⟨P,fn.ntmps,0,E⟩) rfl h3 hr k v
  have B:=h3.rely v
  obtain⟨es,e1,e2⟩:=m5 (main:=K'.main) (b:=base f) (todo:=todo) (c:=U) (cs:=cs) rfl B.df Y W
  refine⟨_,af,es,e1,⟨.refl _,fun _ _ _=>rfl,fun e he=>X e (e2 e he)⟩,?_⟩
  rw[dp]
  exact hk K' A' M' r u af h1 (h2.trans v.same) B.fit B.holds (fun b J=>B.D2 J) hv k hp
 cases e with
 |normal=>exact K'.idle rfl (fun _=>stepG_end) (fin V [])
 |ret=>exact fin V
 |_=>exact V.elim
section
variable {C:Ctx} {Z:ZX} {ds:List Deferred} {σ:St} {ops:Array Oper} {i:Nat} {o:Oper} {K:Tr C.P} {x:Operand}
theorem Ga(hZ:Up Z)(X:ops[i]? =some o)(hg:o.guard=none){f:FuncId}{fn:Func}{B:Array Operand}{Y:Array TypeId}(aa:o.op= .call {callee:= .value x,args:=B,argTypes:=Y})(hx:bE C σ.t x= .fn f [])(hf:C.P.funcs[f]? =some fn)(ah:fE fn=true)
  {args:List SV} {post:Tr C.P->SV->Prop} (hF:lW C.P C.G f args K post) (E:fZ (bE C σ.t) B.toList=args) (I:∀ y,y∈args->gP y) (hh:∀ n,σ.h n=none) (hd:(match o.dst with |none=>true|some d=>Nat.blt d C.sz)=true)
  (h:∀ (K':Tr C.P) r,post K' r->RX C ops (i+1) Z K' ds (σ.app o.dst r [])):RX C ops i Z K ds σ:=by
 refine fx X fun A M ρ a w hs b k cs W hz=>?_
 refine K.step A _ w rfl fun af D=>?_
 have e:=hs.rely D
 have J:=e.op x
 rw[hx]at J
 obtain⟨vs,hq,al,a0⟩:=jy J
 have O:vs= #[]:=Array.eq_empty_of_size_eq_zero (by simpa using al)
 subst O
 have U:=kA (M:=M) (ρ:=ρ) (a:=a) (v:=bE C σ.t) (xs:=B) (fun y hy=>e.op y)
 obtain⟨V,av⟩:=iN (P:=C.P) (w:=af) (a:=a) aa hq hf ah
 have hl:listed C.P b.fn a o af= #[]:=by unfold listed;rw[av];exact seen_none _ _
 refine⟨_,af,#[],(stepG_enter X (dc hg) W V).trans (by rw[hl]),mc.idle af,?_⟩
 rw[dp]
 subst E
 refine hF A M (B.map a.eval++ #[]) af e.fit e.sr.gl e.holds (fun b W=>e.D2 W) (by simp[cd]) (fun j y hy=>?_) _ cs ?_
 ·obtain⟨u,u1,u2⟩:=U.2 j y hy
  exact⟨u,by simpa using u1,I y (List.mem_of_getElem? hy) _ _ _ _ u2⟩
 ·intro K' A' M' r u w' k1 k2 k3 k4 k5 k6 k7 k8
  rw[Frame.finish_at,X]
  refine h K' r k8 A' M' ρ (a.put o.dst u) w' ?_ b k cs W (hZ _ _ _ _ _ _ _ hz k1 (D.same.trans k2))
  have ax:(match o.dst with |none=>true|some d=>Nat.blt d C.sz)=true:=hd
  refine SX.app (wr:= []) (A':=A') (Rd':=K'.Rd) (nb':=σ.nx+8*(i+1)) e ax k3 k1 (Names.le_refl _) (k7 _ _ _ _ k6) (w7 hh k4 k5) (fun n hn=>e.fr n (by omega))
end
def Ends{P:Program}(aK:Value->World->Prop)(K:Tr P):Prop:=
 ∀ A g w,g.status= .running->(∀ af,dd A K.Rd w af->∃ v es,stepG P true g af= .ended (.done v) af es/\(∀ e,e∈es->l9 A K.Rd e)/\aK v af)->K.T A g w
theorem D9{P:Program}{aK:Value->World->Prop}{Rd:aI}{ps:Ps}:Ends aK (fD P aK Rd ps):=fun A g w b h=>oG.intro (.ret b h)
theorem Ea{P:Program}{p:Pr}{aK:Value->World->Prop}{Rd:aI}{hl:Lo.fin≠ .out}{hm:Lo.fin.mute=false}:Ends aK (cZ P p aK true Rd 0 .fin hl hm):=
 fun A g w v h=>cZ.intro fun D af b B=>cy.intro (.ret v rfl rfl fun e k=>h e (b.trans k.ry))
theorem w9{P:Program}{b:Frame}{a:Act}{w:World}{fn:Func}{todo:List Item}{v:Value}(D:b.kind= .normal)(hd:a.defers= [])(E:P.funcs[b.fn]? =some fn)(k:P.inits.idxOf? b.fn=none)
  (I:(results fn a.tmps).run P w= .ok v w):∃ es,stepG P true (G {b.at a todo with mode:= .returning} []) w= .ended (.done v) w es/\∀ e,e∈es->e∈(results fn a.tmps).events P w #[]:=by
 simp[G,stepG,unwind,doReturn,Frame.at,D,hd,E,I,GStep.after,k]
 first
  |exact fun e B=>mem_seen B
  |exact⟨_,rfl,fun e B=>mem_seen B⟩
theorem Eb{P:Program}{J:Nat->SV}{f:FuncId}{fn:Func}{c:Code}{args:List SV}{v:Value}(hf:P.funcs[f]? =some fn)(B:fn.body=some c)(hn:Nat.ble args.length fn.ntmps=true)(V:P.inits.idxOf? f=none){w:World}{vs:Array Value}(W:vs.size=args.length)
  (hG:∀ g ρ,VR (fun b=>w.heap[b]?) ρ (J g) (.pointer (some ⟨g,0,none⟩))) (E:∀ (i:Nat) (x:SV),args[i]? =some x->∃ u,vs[i]? =some u/\VR (fun b=>w.heap[b]?) (fun _=>none) x u)
  (h:∀ aK:Value->World->Prop,WX ⟨P,fn.ntmps,0,J⟩ c (re ⟨P,fn.ntmps,0,J⟩ fn (fun K r=>r= .d (.val v)/\Ends aK K)) (fD P aK (fun b=>b<w.heap.size) .p0) [] (fg (iE 0 args) [])):
  ∃ N last o w' t',runNT P (N+1) (solo (G (Frame.enter P f vs .normal) []) w) #[]=(.ended o w',t')/\runN P N (solo (G (Frame.enter P f vs .normal) []) w)= .next last/\Go.step P last= .ended o w'/\
   Go.Conc.Good P (fun u w'=>u=v/\RowKit.Below w.heap.size w w') last o w' t':=by
 let aK:Value->World->Prop:=fun u w'=>u=v/\RowKit.Below w.heap.size w w'
 have hT:(fD P aK (fun b=>b<w.heap.size) .p0).T no (G (Frame.enter P f vs .normal) []) w:=by
  rw[enter_at vs hf B]
  have X:∀ b,(fun b=>w.heap[b]?) b≠none->b<w.heap.size:=fun b B=>by
   obtain⟨o,ho⟩:=Option.ne_none_iff_exists'.1 B
   exact(Array.getElem?_eq_some_iff.1 ho).1
  have hs:=rb (C:=⟨P,fn.ntmps,0,J⟩) (A:=no) (Rd:=fun b=>b<w.heap.size) (M:=fun b=>w.heap[b]?) (w:=w) args W (Nat.le_of_ble_eq_true hn) E
   ⟨fun b B=>absurd rfl B,fun b B=>by simp only[ne_eq];rw[Array.getElem?_eq_getElem B];simp,fun b B=>B.elim⟩ (fun b o B=>B) (fun b B=> .inr (X b B)) hG
  refine h aK no _ jM _ w hs (base f) [] [] (by intro h;cases h) ?_
  intro e K' ds A' M' aq aF a' w' h1 h2 h3 Y
  have fin:ds= []/\(∃ r,dL ⟨P,fn.ntmps,0,J⟩ fn aF r/\gP r/\r= .d (.val v)/\Ends aK K')->∀ todo,K'.T A' (G {(base f).at a' todo with mode:= .returning} []) w':=by
   rintro⟨rfl,r,hr,I,rfl,hE⟩ todo
   refine hE A' _ w' rfl fun af D=>?_
   obtain⟨u,aa,hv,ah⟩:=w8 (C:=⟨P,fn.ntmps,0,J⟩) rfl h3 hr I D
   have O:=h3.rely D
   obtain⟨es,e1,e2⟩:=w9 (b:=base f) (todo:=todo) rfl O.df hf V aa
   refine⟨u,es,e1,fun e he=>ah e (e2 e he),?_,?_⟩
   ·cases hv with
    |d _ _ hd=>cases hd with
     |val _ _=>rfl
   ·have U:=h2.trans D.same
    refine⟨U.os,U.tape,U.output,U.size,fun k hk=>?_⟩
    have B:w.heap[k]? =some (w.heap[k]'hk):=Array.getElem?_eq_getElem hk
    rw[O.holds k _ (h1 k _ B),B]
  cases e with
  |normal=>exact K'.idle rfl (fun _=>stepG_end) (fin Y [])
  |ret=>exact fin Y
  |_=>exact Y.elim
 obtain⟨r,hR⟩:oG P aK (fun b=>b<w.heap.size) .p0 no (G (Frame.enter P f vs .normal) []) w:=hT
 exact hR.JW (sl:=none) ⟨fun b B=>B.elim,fun b B=>B,trivial,fun op al=>by simp at al,fun q x hx=>by simp[touchAt,Trace.act?]at hx,rfl⟩ (fun _=>rfl)
section
variable {C:Ctx} {Q:QX C.P} {K:Tr C.P} {ds:List Deferred} {σ:St}
theorem yH(h:Q .ret K ds σ):WX C .ret Q K ds σ:=fun A M ρ a w e b k cs B v=>K.idle rfl (fun _=>stepG_ret') (v .ret K ds A M ρ σ a w (aD.le_refl _) (.refl _) e h _)
theorem KB{P:Program}{R:Tr P->List Deferred->St->Prop}{Q:QX P}{K:Tr P}{ds:List Deferred}{σ:St}(k:Q .ret K ds σ):q8 R Q .ret K ds σ:=k
theorem lJ{c:Code}{fn:Func}{post:SV->List (Option aB)->Prop}{b:Tr C.P->SV->Prop}(h:W C c (iP C fn post) σ)(B:∀ π r E,post r E->gP (du π r)/\b K (du π r)):WX C c (re C fn b) K [] σ:=by
 refine Ab h fun e aF k=>?_
 have key:(∃ π v r ae,dL C fn aF v/\v=du π r/\dY C.m r ae=true/\Sub C π aF [] ae/\post r ae)->([]:List Deferred)= []/\∃ r,dL C fn aF r/\gP r/\b K r:=by
  rintro⟨π,v,r,ae,G,rfl,_,_,D⟩
  exact⟨rfl,_,G,(B π r ae D).1,(B π r ae D).2⟩
 cases e with
 |ret=>exact key k
 |normal=>exact key k
 |_=>exact k.elim
theorem Ec{fn:Func}{b:Tr C.P->SV->Prop}{t:Nat->SV}{h:ar}{nx:Nat}(s1 B:Nat){r1 D:SV}(e:fn.results= #[.tmp s1, .tmp B])(k:(t s1).hd=some r1)(v:(t B).hd=some D)(E:gP r1)(G:gP D)(I:b K (.bA [r1,D])):re C fn b .ret K [] ⟨t,h,nx⟩:=
 ⟨rfl, .bA [t s1,t B],dL.of (Hm e) (fun tmps w=>by simp[results,e]),by rw[SV.bD k,SV.bD v];exact kV E G,by rw[SV.bD k,SV.bD v];exact I⟩
end
theorem HR.I4{M F v:aD}{ρ:Names}{h:ar}{w:World}(H:HR M F ρ h w)(B:∀ b o,v b=some o->F b=some o):HR M v ρ h w:=by
 have D:∀ b,F b=none->v b=none:=fun b k=>by
  cases e:v b with
  |none=>rfl
  |some o=>rw[B b o e]at k;cases k
 refine⟨H.fT,fun b o k=>H.iL b o (B b o k),fun b o k=>H.j9 b o (B b o k),fun n blk k=>?_,H.sep,?_⟩
 ·obtain⟨x,E,G⟩:=H.live n blk k
  exact⟨x,E,G.imp id fun⟨I,J,O,U⟩=>⟨I,J,D _ O,U⟩⟩
 ·exact H.dh (fun _ _ _ h=>h) (Names.le_refl _) (aD.le_refl _) (Nat.le_refl _) (fun n S es V b k g1 W=>⟨g1,D b W⟩) (fun _ _ _ _ _ _ _ _ _ _=>rfl) (fun _ _ _ m y _ a b _=> .inl ⟨a,b⟩)
def JY{P:Program}(K:LT P)(F:aD)(Rd:aI):Tr P where
 main:=true
 Rd:=Rd
 T:=fun A g w=>∀ af,dd A Rd w af->(∀ b o,F b=some o->af.heap[b]? =some o)->(∀ b,A b\/Rd b->b<af.heap.size)->(∀ b,A b->F b=none)->K.T g af
 step:=fun A g w U h af D J v O=>by
  obtain⟨g',w',es,e1,B,V⟩:=h af D
  refine K.step U e1 B.same.size (fun e W=>?_) (V w' (.refl w') (fun b o k=>?_) (fun b k=>?_) (fun b k=>?_))
  ·rcases B.evs e W with⟨ad,s,rfl,h⟩|⟨ad,s,rfl,h⟩|rfl|⟨r,wr,rfl,h⟩
   ·exact Nat.lt_of_lt_of_le (v _ h) B.same.size
   ·exact Nat.lt_of_lt_of_le (v _ (.inl h)) B.same.size
   ·rfl
   ·exact Nat.lt_of_lt_of_le (v _ (.inl h)) B.same.size
  ·have E:=J b o k
   rw[B.ab b (Array.getElem?_eq_some_iff.1 E).1 (fun X=>by rw[O b X]at k;cases k)];exact E
  ·rcases k with(k|k)|k
   ·exact Nat.lt_of_lt_of_le (v b (.inl k)) B.same.size
   ·exact k.2
   ·exact Nat.lt_of_lt_of_le (v b (.inr k)) B.same.size
  ·rcases k with k|k
   ·exact O b k
   ·cases e:F b with
    |none=>rfl
    |some o=>have :=(Array.getElem?_eq_some_iff.1 (J b o e)).1;omega
 rely:=fun A g w af h r G I=>h G (r.trans I)
theorem Spec.lone{P:Program}{Y:Nat->SV}{f:FuncId}{args:List SV}{J:List aB}{post:SV->List (Option aB)->Prop}(h:Spec P Y f args J post):Nice.Spec P Y f args J post:=by
 intro M F ρ vs w hG G V B W K c cs hk
 let A:aI:=fun b=>b<w.heap.size/\F b=none/\M b=none
 let Rd:aI:=fun b=>M b≠none
 have X:∀ b,A b\/Rd b->b<w.heap.size:=fun b k=>k.elim (·.1) fun k=>by
  obtain⟨o,ho⟩:=Option.ne_none_iff_exists'.1 k
  exact(Array.getElem?_eq_some_iff.1 (G.fT b o ho)).1
 have O:ext A Rd (fun _=>none) w=F:=by
  funext b
  by_cases e:A b\/Rd b
  ·rw[cm e]
   cases I:F b with
   |none=>rfl
   |some o=>
    exfalso
    rcases e with e|e
    ·rw[e.2.1]at I;cases I
    ·exact e (G.j9 b o I)
  ·rw[c8 e]
   cases I:F b with
   |some o=>exact G.iL b o I
   |none=>
    refine Array.getElem?_eq_none (Nat.le_of_not_lt fun k=>e ?_)
    cases hM:M b with
    |none=>exact .inl ⟨k,I,hM⟩
    |some o=>exact .inr (by show M b≠none;rw[hM];simp)
 refine h (JY K F Rd) A (fun _=>none) M ρ vs w ⟨fun b k=>absurd rfl k,fun b k=>k,fun b k=>k.1⟩ hG (by show HR M (ext A Rd _ w) ρ _ w;rw[O];exact G) V B W c cs ?_ w (.refl w) G.iL X (fun b k=>k.2.1)
 intro A' M' aq r ae u w' h1 h2 h3 h4 h5 h6 h7 h8 h9 af v D U E
 refine hk u af ⟨M',aq,r,ae,u,rfl,h2,h3,h4,HR.I4 (lD h6 h5 v) (fun b o k=>?_),h7,h8.trans v.same,h9⟩
 rw[c8 (fun e=>e.elim (fun e=>by rw[E b e]at k;cases k) fun e=>e (G.j9 b o k))]
 exact D b o k
def I5{P:Program}(Q:Exit->St->Prop)(K:Tr P):QX P:=fun e K' ds σ=>K'=K/\ds= []/\Q e σ
theorem Gb{C:Ctx}{aK:Value->World->Prop}{Rd:aI}{c:Code}{Q:Exit->St->Prop}{σ:St}(h:Nice.W C c Q σ):WX C c (I5 Q (fD C.P aK Rd .p0)) (fD C.P aK Rd .p0) [] σ:=by
 intro A M ρ a w U b k cs V X
 refine oG.intro (.lone rfl fun af B=>?_)
 have E:=(U.rely B).toSC
 let Y:LT C.P:=⟨gy C.P (fun g' w'=>bG af w'/\(∀ b,b<af.heap.size-> ¬ A b->w'.heap[b]? =af.heap[b]?)/\oG C.P aK Rd .p0 (more A af w') g' w'),fun a b c d e=> .step a b c d e⟩
 refine h M _ jM ρ a af E.sr Y b k cs V ?_
 rintro e J w' ⟨M',aq,aF,O,D,G,k4⟩
 obtain⟨q1,q2,I⟩:=zx E.sr.hr E.fit O D.hr G
 have sc:SC C (more A af w') Rd F0 M' jM aq aF J w':=⟨q2,⟨⟨D.tm,D.sz,D.df,q1,D.pn,D.pm,D.gl⟩,D.fr⟩⟩
 have v:=X e (fD C.P aK Rd .p0) [] (more A af w') M' aq aF J w' O (B.same.trans G) sc.toSX ⟨rfl,rfl,k4⟩
 cases e with
 |normal=>exact gy.done ⟨G,I,v⟩
 |exit id=>obtain⟨k',hk,hg⟩:=v;exact⟨k',hk,gy.done ⟨G,I,hg⟩⟩
 |ret=>exact fun todo=>gy.done ⟨G,I,v todo⟩
 |goto l=>exact v.elim
 |panic ch=>exact v.elim
 |outgrown=>exact v.elim
end Go.Proofs.YtifcaekngfgdmaaDoor.Nice.Co
