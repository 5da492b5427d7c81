/- Part 12 of the proof of TopFile. -/
import Derived.Test.YtifcaekngfgdmaaDoorZM11
set_option linter.unusedVariables false
set_option linter.unusedSimpArgs false
set_option maxRecDepth 100000
set_option maxHeartbeats 4000000
namespace Go.Proofs.YtifcaekngfgdmaaDoor.Nice
open Go Go.Conc
def uQ(C:Ctx)(o:Oper)(nm:Nat)(σ:St)(K:St->Prop):Prop:=
 aM C o=true/\o.guard=none/\∃ bs b,bV C o nm (bE C σ.t) bs b/\(∀ p,p∈bs->σ.h p.1=some p.2)/\∀ u wr,b u wr->K (σ.app o.dst u wr)
theorem Gi{C:Ctx}{ops:List Oper}{o:Oper}{n:Nat}{σ:St}{K:St->Prop}(v:o.guard=none)(h:an C ops n [o] σ none K):uQ C o (σ.nx+8*n) σ (fun aF=>K ⟨aF.t,aF.h,aF.nx+8*ops.length⟩):=by
 unfold an at h
 rcases h with⟨J,aF,⟨hd,B⟩,D⟩|⟨_,hd,_,bs,E,e,k,G⟩
 ·rcases B with⟨_,bs,u,wr,e,k,_,_,rfl⟩|⟨b,_⟩
  ·exact⟨hd,v,bs,_,e,k,fun u' I h=>by obtain⟨rfl,rfl⟩:=h;exact D.2⟩
  ·unfold iO at b;rw[v]at b;exact b.elim
 ·exact⟨hd,v,bs,E,e,k,fun u wr h=>(G u wr h).2⟩
theorem tb{pre:List Oper}{b:Oper}{j s:Nat}(h:eD pre j=some s):eD (pre++ [b]) j=some s:=by
 unfold eD at *
 by_cases e:j<pre.length
 ·rw[List.getElem?_append_left e];exact h
 ·rw[List.getElem?_eq_none (by omega)]at h;cases h
theorem Gj{pre:List Oper}{b o:Oper}{t:Nat->SV}(h:mP pre t o):mP (pre++ [b]) t o:=by
 unfold mP at *
 cases e:o.guard with
 |none=>trivial
 |some p=>
  obtain⟨j,want⟩:=p
  rw[e]at h
  obtain⟨s,k,v⟩:=h
  exact⟨s,tb k,v⟩
theorem Ep{pre:List Oper}{b o:Oper}{t:Nat->SV}(h:iO pre t o):iO (pre++ [b]) t o:=by
 unfold iO at *
 cases e:o.guard with
 |none=>rw[e]at h;exact h
 |some p=>
  obtain⟨j,want⟩:=p
  rw[e]at h
  obtain⟨s,k,v⟩:=h
  exact⟨s,tb k,v⟩
def lastB(pre:List Oper)(o:Oper):Bool:=((b7 o).all fun e=>Nat.blt e pre.length)&&(List.range pre.length).all fun i=>((b7 o).flatMap fun e=>e::(reach pre).getD e []).any (Nat.beq i)
def I8{P:Program}(ops:Array Oper)(i:Nat)(b:Act->World->Prop)(a:Act)(w:World):Prop:=
 match ops[i]? with
 |none=>b a w
 |some o=>if Region.wanted o (yielded ops a.tmps)then p6 P o a w/\Cr P o a w b (fun _ _ _=>False)else b (a.put o.dst undef) w
def Gk{P:Program}(K:LT P)(ops:Array Oper)(b:Frame)(e:List Item)(cs:List Frame):Nat->Array Bool->Act->World->Prop
 |0,listed,a,w=>Region.ready .any ops listed= []/\K.T (G (b.at a e) cs) w
 |fuel+1,listed,a,w=>(Region.ready .any ops listed= []->K.T (G (b.at a e) cs) w)/\∀ i∈Region.ready .any ops listed,I8 (P:=P) ops i (Gk K ops b e cs fuel (listed.setIfInBounds i true)) a w
theorem yT{P:Program}(K:LT P){ops:Array Oper}{b:Frame}{U:List Item}{cs:List Frame}(X:b.kind≠ .early):∀ (fuel k:Nat) (listed:Array Bool) (a:Act) (w:World),Gk K ops b U cs fuel listed a w->
  K.T (G (b.at a (.inRegion ops (Region.linearise.go .any ops fuel k listed [])::U)) cs) w:=by
 intro fuel
 induction fuel with
 |zero=>intro k listed a w h;simp only[Region.linearise.go,List.reverse_nil];exact K.idle rfl stepG_region_end h.2
 |succ fuel W=>
  intro k listed a w h
  obtain⟨B,D⟩:=h
  simp only[Region.linearise.go]
  change K.T (G (b.at a (.inRegion ops (match(Region.ready .any ops listed)[k%(Region.ready .any ops listed).length]? with
   |some i=>Region.linearise.go .any ops fuel (k/(Region.ready .any ops listed).length) (listed.setIfInBounds i true) [i]
   |none=> [].reverse)::U)) cs) w
  cases J:(Region.ready .any ops listed)[k%(Region.ready .any ops listed).length]? with
  |none=>
   have E:Region.ready .any ops listed= []:=by
    cases Y:Region.ready .any ops listed with
    |nil=>rfl
    |cons x xs=>
     rw[Y]at J
     have I:k%(x::xs).length<(x::xs).length:=Nat.mod_lt _ (by simp)
     simp at J
     simp at I
     omega
   simp only[List.reverse_nil]
   exact K.idle rfl stepG_region_end (B E)
  |some i=>
   simp only[]
   rw[linearise_go_acc,List.reverse_singleton,List.singleton_append]
   have e:=D i (List.mem_of_getElem? J)
   unfold I8 at e
   obtain⟨I,_,o,V,_⟩:=dH.1 (List.mem_of_getElem? J)
   rw[V]at e
   dsimp only at e
   by_cases O:Region.wanted o (yielded ops a.tmps)=true
   ·rw[if_pos O]at e
    exact p7 K V O X e.1 e.2 fun v w' h _=>W _ _ _ _ h
   ·rw[if_neg O]at e
    exact K.idle rfl (stepG_unwanted V (by simpa using O)) (W _ _ _ _ e)
theorem BG{C:Ctx}(KK:LT C.P){b:Frame}{kk:List Item}{cs:List Frame}{ops:Array Oper}(hq:iC C.P ops=true){pre:List Oper}{ol:Oper}(U:ops.toList=pre++ [ol])(bx:lastB pre ol=true){b1:List FP}{K:St->Prop}{M0 F:aD}{pin:Names}{w0:World}{nx:Nat}
  (b2:p8 pre b1=true)
  (b3:∀ M' aq aF a' w',M0.le M'->SR C M' F pin aq aF a' w'->bG w0 w'->K aF->KK.T (G (b.at a' kk) cs) w'):
  ∀ (fuel:Nat) (l:List Nat) (listed:Array Bool) (σ τ:St) (M:aD) (ρ:Names) (a:Act) (w:World),l.length=fuel->l.Pairwise (· < ·)->listed.size=ops.size->
   (∀ i,i∈l↔i<pre.length/\listed.getD i true=false)->listed.getD pre.length true=false->
   (∀ (i:Nat) (o:Oper),pre[i]? =some o->listed.getD i false=true->∀ e,e∈b7 o->listed.getD e false=true)->
   M0.le M->bG w0 w->SR0 C M F pin ρ σ a w->σ.nx=nx->(∀ i,i∈l->∀ n,nx+8*i<=n->n<nx+8*i+8->ρ n=none)->(∀ n,nx+8*pre.length<=n->ρ n=none)->
   py C pre b1 nx l σ τ->uQ C ol (nx+8*pre.length) τ (fun aF=>K ⟨aF.t,aF.h,nx+8*ops.size⟩)->Gk KK ops b kk cs (fuel+1) listed a w:=by
 simp only[p8,Bool.and_eq_true]at b2
 obtain⟨_,al⟩:=b2
 have bc:=lq _ al
 have X:∀ (i:Nat) (o:Oper),pre[i]? =some o->∀ e,e∈b7 o->e<i:=by
  intro i o ho e he
  obtain⟨o',f,h1,_,h2,_⟩:=bc i (List.getElem?_eq_some_iff.1 ho).1
  rw[ho]at h1;obtain rfl:=Option.some.inj h1
  exact h2 e he
 have c6:ops.size=pre.length+1:=by
  have :=congrArg List.length U
  simpa using this
 have J:∀ i,i<pre.length->ops[i]? =pre[i]? :=by
  intro i E
  rw[<-Array.getElem?_toList,U,List.getElem?_append_left E]
 have D:ops[pre.length]? =some ol:=by
  rw[<-Array.getElem?_toList,U,List.getElem?_append_right (Nat.le_refl _),Nat.sub_self];rfl
 simp only[lastB,Bool.and_eq_true,List.all_eq_true]at bx
 obtain⟨bh,b4⟩:=bx
 have av:∀ (listed:Array Bool),(∀ (i:Nat) (o:Oper),pre[i]? =some o->listed.getD i false=true->∀ e,e∈b7 o->listed.getD e false=true)->(∀ e,e∈b7 ol->listed.getD e false=true)->∀ i,i<pre.length->listed.getD i false=true:=by
  intro listed v ca i E
  have :=b4 i (List.mem_range.2 E)
  rw[List.any_eq_true]at this
  obtain⟨x,hx,hb⟩:=this
  obtain rfl:=Nat.eq_of_beq_eq_true hb
  rw[List.mem_flatMap]at hx
  obtain⟨e,he,hx⟩:=hx
  rcases List.mem_cons.1 hx with rfl|hx
  ·exact ca _ he
  ·have bl:e<pre.length:=by simpa using bh e he
   exact gE (ops:=pre) (L:=fun k=>listed.getD k false=true) X (fun k o hk=>v k o hk) e pre[e] (List.getElem?_eq_getElem bl) (fun e' di=>v e pre[e] (List.getElem?_eq_getElem bl) (ca e he) e' di) i hx
 have flip:∀ (listed:Array Bool) (i:Nat),i<listed.size->listed.getD i true=listed.getD i false:=by
  intro listed i E;simp[Array.getD,E]
 have a3:∀ (fuel:Nat) (listed:Array Bool) (σ:St) (M:aD) (ρ:Names) (a:Act) (w:World),listed.size=ops.size->(∀ i,i<pre.length->listed.getD i false=true)->listed.getD pre.length true=false->M0.le M->bG w0 w->SR0 C M F pin ρ σ a w->σ.nx=nx->(∀ n,nx+8*pre.length<=n->ρ n=none)->
   uQ C ol (nx+8*pre.length) σ (fun aF=>K ⟨aF.t,aF.h,nx+8*ops.size⟩)->I8 (P:=C.P) ops pre.length (Gk KK ops b kk cs fuel (listed.setIfInBounds pre.length true)) a w:=by
  intro fuel listed σ M ρ a w V O dV hM hw I hn hf dj
  obtain⟨hd,hg,bs,RS,ax,br,hk⟩:=dj
  unfold I8
  rw[D]
  dsimp only
  rw[fF (σ:=σ) (ops:=ops) I (by unfold mP;rw[hg];trivial)]
  simp only[if_true]
  refine⟨pH (lY hq D) (fun s I=>by cases I),ax M F ρ a σ.h w (fun x _=>gD I x) I.gl I.hr br (fun n g1 g2=>hf n g1) _ _ ?_⟩
  intro M' aq u1 a4 u' w' g1 g2 g3 dy g5 g6 g7
  have Y:=I.app hd g1 g2 g5 g6
  have fin:KK.T (G (b.at (a.put ol.dst u') kk) cs) w':=by
   refine b3 M' aq ⟨(σ.app ol.dst u1 a4).t,(σ.app ol.dst u1 a4).h,nx+8*ops.size⟩ _ w' (aD.le_trans hM g1) ⟨⟨Y.tm,Y.sz,Y.df,Y.hr,Y.pn,Y.pm,Y.gl⟩,?_⟩ (hw.trans g7) (hk u1 a4 dy)
   intro n cc
   have cc:nx+8*ops.size<=n:=cc
   rw[g3 n (by omega)];exact hf n (by omega)
  have aa:Region.ready .any ops (listed.setIfInBounds pre.length true)= []:=by
   cases a0:Region.ready .any ops (listed.setIfInBounds pre.length true)with
   |nil=>rfl
   |cons i r=>
    exfalso
    have :i∈Region.ready .any ops (listed.setIfInBounds pre.length true):=by rw[a0];exact List.mem_cons_self ..
    obtain⟨E,hl2,_⟩:=dH.1 this
    by_cases e:i=pre.length
    ·subst e;simp[Array.getD,V,E]at hl2
    ·have :(listed.setIfInBounds pre.length true).getD i true=listed.getD i true:=by
      rw[Array.getD_eq_getD_getElem?,Array.getD_eq_getD_getElem?,Array.getElem?_setIfInBounds_ne (Ne.symm e)]
     rw[this,flip listed i (by omega),O i (by omega)]at hl2
     cases hl2
  cases fuel with
  |zero=>exact⟨aa,fin⟩
  |succ fuel=>exact⟨fun _=>fin,fun i E=>by rw[aa]at E;cases E⟩
 intro fuel
 induction fuel with
 |zero=>
  intro l listed σ τ M ρ a w hlen hp V hl a5 v hM hw I hn a6 a7 dA hK
  have cl:l= []:=List.length_eq_zero_iff.1 hlen
  subst cl
  have bu:σ=τ:=dA
  subst bu
  have O:∀ i,i<pre.length->listed.getD i false=true:=by
   intro i E
   cases hb:listed.getD i true with
   |true=>rw[<-flip listed i (by omega)];exact hb
   |false=>exact absurd ((hl i).2 ⟨E,hb⟩) (by simp)
  refine⟨fun a0=>?_,fun i E=>?_⟩
  ·exfalso
   have :pre.length∈Region.ready .any ops listed:=dH.2 ⟨by omega,a5,ol,D,fun e he=>O e (by simpa using bh e he)⟩
   rw[a0]at this;cases this
  ·obtain⟨W,hl2,_⟩:=dH.1 E
   by_cases e:i=pre.length
   ·subst e;exact a3 0 listed σ M ρ a w V O a5 hM hw I hn a7 hK
   ·rw[flip listed i (by omega),O i (by omega)]at hl2;cases hl2
 |succ fuel ih=>
  intro l listed σ τ M ρ a w hlen hp V hl a5 v hM hw I hn a6 a7 dA hK
  refine⟨fun a0=>?_,?_⟩
  ·exfalso
   cases l with
   |nil=>simp at hlen
   |cons i l=>
    obtain⟨E,O⟩:=(hl i).1 (List.mem_cons_self ..)
    have :i∈Region.ready .any ops listed:=by
     refine dH.2 ⟨by omega,O,pre[i],by rw[J i E];exact List.getElem?_eq_getElem E,?_⟩
     intro e he
     have W:=X i pre[i] (List.getElem?_eq_getElem E) e he
     cases hb:listed.getD e true with
     |true=>rw[<-flip listed e (by omega)];exact hb
     |false=>
      have hm:e∈i::l:=(hl e).2 ⟨by omega,hb⟩
      rcases List.mem_cons.1 hm with h|h
      ·omega
      ·have :=(List.pairwise_cons.1 hp).1 e h;omega
    rw[a0]at this;cases this
  ·intro i E
   obtain⟨W,O,o,ho,a1⟩:=dH.1 E
   by_cases cr:i=pre.length
   ·exfalso
    subst cr
    rw[D]at ho;obtain rfl:=Option.some.inj ho
    have al:=av listed v a1
    cases l with
    |nil=>simp at hlen
    |cons i l=>
     obtain⟨dD,bn⟩:=(hl i).1 (List.mem_cons_self ..)
     rw[flip listed i (by omega),al i dD]at bn;cases bn
   replace W:i<pre.length:=by omega
   have bo:i<ops.size:=by omega
   rw[J i W]at ho
   have cw:i∈l:=(hl i).2 ⟨W,O⟩
   obtain⟨A,B,rfl,hA⟩:=jv cw
   have a8:pre[i]? =some o:=ho
   obtain⟨o',f,h1,cQ,h3,h4⟩:=bc i W
   rw[a8]at h1;obtain rfl:=Option.some.inj h1
   have cT:∀ j,j∈A->j∉(reach pre).getD i []:=by
    intro j hj dN
    have hL:=gE (ops:=pre) (L:=fun k=>listed.getD k false=true) X (fun k o hk=>v k o hk) i o a8 a1 j dN
    have :=((hl j).1 (List.mem_append_left _ hj)).2
    have dO:j<listed.size:=by have :=((hl j).1 (List.mem_append_left _ hj)).1;omega
    simp[Array.getD,dO]at this hL
    rw[this]at hL;cases hL
   have cV:∀ j,j∈A->j<i:=by
    intro j hj
    exact(List.pairwise_append.1 hp).2.2 j hj i (List.mem_cons_self ..)
   have ba:=fH (C:=C) (nx:=nx) a8 cQ A B σ τ (fun j hj p g dT hg=>(im _ h4 j (cV j hj)).resolve_left (cT j hj) p g dT hg) dA
   obtain⟨o2,f2,aF,k1,k2,hD,a2⟩:=ba
   rw[a8]at k1;obtain rfl:=Option.some.inj k1
   rw[cQ]at k2;obtain rfl:=Option.some.inj k2
   have hl':(A++B).length=fuel:=by simp at hlen ⊢;omega
   have c0:(A++B).Pairwise (· < ·):=by
    rw[List.pairwise_append]at hp ⊢
    refine⟨hp.1,(List.pairwise_cons.1 hp.2.1).2,fun x hx y hy=>hp.2.2 x hx y (List.mem_cons_of_mem _ hy)⟩
   have c1:i∉B:=by
    intro hb
    have :=(List.pairwise_cons.1 (List.pairwise_append.1 hp).2.1).1 i hb
    omega
   have bp:∀ j,j∈A++B↔j<pre.length/\(listed.setIfInBounds i true).getD j true=false:=by
    intro j
    by_cases e:j=i
    ·subst e
     constructor
     ·intro h;rcases List.mem_append.1 h with h|h
      ·exact absurd h hA
      ·exact absurd h c1
     ·rintro⟨_,h⟩;simp[Array.getD,V,bo]at h
    ·have :(listed.setIfInBounds i true).getD j true=listed.getD j true:=by
      rw[Array.getD_eq_getD_getElem?,Array.getD_eq_getD_getElem?,Array.getElem?_setIfInBounds_ne (Ne.symm e)]
     rw[this,<-hl j]
     simp[e]
   have ah:∀ (k:Nat) (p:Oper),pre[k]? =some p->(listed.setIfInBounds i true).getD k false=true->∀ e,e∈b7 p->(listed.setIfInBounds i true).getD e false=true:=by
    have ab:∀ e,listed.getD e false=true->(listed.setIfInBounds i true).getD e false=true:=by
     intro e he
     by_cases h:e=i
     ·subst h;simp[Array.getD,V,bo]
     ·rw[Array.getD_eq_getD_getElem?,Array.getElem?_setIfInBounds_ne (Ne.symm h),<-Array.getD_eq_getD_getElem?];exact he
    intro k p hk c5 e he
    by_cases h:k=i
    ·subst h
     rw[ho]at hk;obtain rfl:=Option.some.inj hk
     exact ab e (a1 e he)
    ·refine ab e (v k p hk ?_ e he)
     rw[Array.getD_eq_getD_getElem?,Array.getElem?_setIfInBounds_ne (Ne.symm h),<-Array.getD_eq_getD_getElem?]at c5
     exact c5
   have bq:(listed.setIfInBounds i true).getD pre.length true=false:=by
    rw[Array.getD_eq_getD_getElem?,Array.getElem?_setIfInBounds_ne cr,<-Array.getD_eq_getD_getElem?];exact a5
   unfold I8
   rw[J i W,ho]
   dsimp only
   obtain⟨hd,hD⟩:=hD
   rcases hD with⟨hg,bs,u,wr,ax,br,_,_,rfl⟩|⟨hg,_,rfl⟩
   ·rw[fF (ops:=ops) I (by rw[U];exact Gj hg)]
    simp only[if_true]
    refine⟨pH (lY hq ((J i W).trans ho)) (fun s I=>by cases I),ax M F ρ a σ.h w (fun x _=>gD I x) I.gl I.hr br (fun n g1 g2=>a6 i cw n g1 g2) _ _ ?_⟩
    rintro M' aq u1 a4 u' w' g1 g2 g3 ⟨rfl,rfl⟩ g5 g6 g7
    refine ih (A++B) _ _ τ M' aq _ w' hl' c0 (by simp[V]) bp bq ah (aD.le_trans hM g1) (hw.trans g7) (I.app hd g1 g2 g5 g6) hn ?_ ?_ a2 hK
    ·intro j hj n m1 m2
     have ea:j≠i:=by rintro rfl;rcases List.mem_append.1 hj with h|h;exact hA h;exact c1 h
     rw[g3 n (by omega)]
     refine a6 j ?_ n m1 m2
     rcases List.mem_append.1 hj with h|h
     ·exact List.mem_append_left _ h
     ·exact List.mem_append_right _ (List.mem_cons_of_mem _ h)
    ·intro n m1
     rw[g3 n (by omega)];exact a7 n m1
   ·rw[fG (ops:=ops) I (by rw[U];exact Ep hg)]
    simp only[Bool.false_eq_true,if_false]
    refine ih (A++B) _ _ τ M ρ _ w hl' c0 (by simp[V]) bp bq ah hM hw (I.app (wr:= []) hd (aD.le_refl _) (Names.le_refl _) VR.skip I.hr) hn ?_ a7 a2 hK
    intro j hj n m1 m2
    refine a6 j ?_ n m1 m2
    rcases List.mem_append.1 hj with h|h
    ·exact List.mem_append_left _ h
    ·exact List.mem_append_right _ (List.mem_cons_of_mem _ h)
theorem r7{C:Ctx}{id:Nat}{ops:Array Oper}{pre:List Oper}{o:Oper}{Q:Exit->St->Prop}{σ:St}(hm:C.P.follows .mixedOrders=true)(X:iC C.P ops=true)(E:ops.toList=pre++ [o])(G:lastB pre o=true)(Y:o.guard=none)
  (h:an C pre 0 pre σ (some []) (fun v=>an C ops.toList pre.length [o] ⟨v.t,v.h,σ.nx⟩ none (fun aF=>Q .normal aF))):W C (.region id ops true) Q σ:=by
 intro M F pin ρ a w D KK b kk cs hb hp
 have B:ops.size=pre.length+1:=by
  have :=congrArg List.length E
  simpa using this
 obtain⟨aa,τ,_,h2,h3,h4,h5⟩:=lr (K:=fun v=>an C ops.toList pre.length [o] ⟨v.t,v.h,σ.nx⟩ none (fun aF=>Q .normal aF)) pre 0 σ [] rfl (fun j=>by simp) h
 have k:=Gi Y h5
 have k:uQ C o (σ.nx+8*pre.length) τ (fun aF=>Q .normal ⟨aF.t,aF.h,σ.nx+8*ops.size⟩):=by
  obtain⟨I,J,bs,RS,O,U,k5⟩:=k
  refine⟨I,J,bs,RS,O,U,fun u wr hR=>?_⟩
  have :=k5 u wr hR
  simpa[St.app]using this
 refine KK.step (w':={w with drawn:=w.drawn+1}) rfl stepG_region_draw (Nat.le_refl _) (fun e he=>by simp at he) ?_
 simp only[Region.schedule,hm,Bool.true_or,if_true]
 refine yT KK hb _ _ _ _ _ ?_
 rw[B]
 refine BG KK X E G (K:=fun aF=>Q .normal aF) (M0:=M) (F:=F) (pin:=pin) (w0:=w) (nx:=σ.nx) h2 ?_ pre.length (List.range' 0 pre.length) (Array.replicate (pre.length+1) false) σ τ M ρ a _ (by simp) ?_ (by simp[B]) ?_ (by simp[Array.getD]) ?_ (aD.le_refl _) ⟨rfl,rfl,rfl,Nat.le_refl _⟩
  ⟨D.tm,D.sz,D.df,D.hr.drawn _,D.pn,D.pm,D.gl⟩ rfl (fun i _ n g1 _=>D.fr n (by omega)) (fun n g1=>D.fr n (by omega)) h3 k
 ·intro M' aq aF a' w' I J O U
  exact hp .normal a' w' ⟨M',aq,aF,I,J,O,U⟩
 ·exact List.pairwise_lt_range'
 ·intro i
  rw[List.mem_range']
  constructor
  ·rintro⟨j,hj,rfl⟩
   simp[Array.getD,hj];omega
  ·rintro⟨V,_⟩
   exact⟨i,V,by omega⟩
 ·intro i o ho hl
  have V:i<pre.length:=(List.getElem?_eq_some_iff.1 ho).1
  simp[Array.getD,show i<pre.length+1 by omega]at hl
theorem JZ{C:Ctx}{Q:Exit->St->Prop}{σ:St}{id:Nat}{ops:Array Oper}{pre:List Oper}{o:Oper}(hm:C.P.follows .mixedOrders=true)(b:ops.toList=pre++ [o])(v:lastB pre o=true)(B:o.guard=none)
 (k:an C pre 0 pre σ (some []) (fun e=>an C ops.toList pre.length [o] ⟨e.t,e.h,σ.nx⟩ none (fun aF=>Q .normal aF))) (D:iC C.P ops=true:=by kernel_rfl):W C (.region id ops true) Q σ:=r7 hm D b v B k
theorem I9{C:Ctx}{Q:Exit->St->Prop}{σ:St}{id:Nat}{ops:Array Oper}{o:Oper}(n:Nat)(hm:C.P.follows .mixedOrders=true)(v:ops.toList.drop n= [o])(e:lastB (ops.toList.take n) o=true)(B:o.guard=none)
  (k:an C (ops.toList.take n) 0 (ops.toList.take n) σ (some []) (fun b=>an C ops.toList n [o] ⟨b.t,b.h,σ.nx⟩ none (fun aF=>Q .normal aF))) (D:iC C.P ops=true:=by kernel_rfl):W C (.region id ops true) Q σ:=by
 have hlen:(ops.toList.take n).length=n:=by
  have :=congrArg List.length v
  simp at this
  rw[List.length_take];simp;omega
 exact JZ hm (by rw[<-v,List.take_append_drop]) e B (by rw[hlen];exact k) D
theorem HW{C:Ctx}{ops:List Oper}{i:Nat}{o:Oper}{l:List Oper}{t:Nat->SV}{h:ar}{nx:Nat}{K:St->Prop}{acc:Option (List FP)}{src dst e:TypeId}{y:Operand}{len:Nat}{f:Nat->Nat->D}(L:List UInt8)(d nm Y:Nat)(hi:i+1=Y)(I:nx+8*i=nm)(hg:o.guard=none)(v:o.dst=some d)(hd:Nat.blt d C.sz=true)(ho:o.op= .convert src dst y)
  (J:C.P.underlying src=some (.slice e)) (O:C.P.underlying e=some (.int .u8)) (B:C.P.underlying dst=some .string)
  (hy:(bE C t y).hd=some (.d (.vec 1 len f))) (hlen:len=L.length) (hf:∀ (j:Nat) (E:j<L.length),f j 0= .val (.int .u8 (L[j].toNat:Int)))
  (k:an C ops Y l ⟨upd t d (.d (.val (.string ⟨L.toArray⟩))),h,nx⟩ (acc.map (· ++ [([],[])])) K):an C ops i (o::l) ⟨t,h,nx⟩ acc K:=by
 subst hi;subst I;subst hlen
 have U:bV C o (nx+8*i) (bE C t) [] (fun x z=>x= .d (.val (.string ⟨L.toArray⟩))/\z= []):=by
  refine aJ fun M F ρ a hh w hv hH _=>⟨.string ⟨L.toArray⟩,?_, .d _ _ (.val _ rfl)⟩
  have e1:=hv y (by rw[ho];simp[Op.operands]);rw[SV.bD hy]at e1
  have :(convert src dst (a.eval y)).run C.P w= .ok (.string ⟨L.toArray⟩) w:=by
   generalize a.eval y=q at e1
   cases e1 with
   |d _ _ hD=>
    generalize G:L.length=n at hD
    cases hD with
    |ie _ _ ad cap=>
     have :L= []:=List.length_eq_zero_iff.1 G
     subst this
     cases ad with
     |none=>exact Ba w src dst e _ _ J O B
     |some x=>exact run_convert_bytes_back w src dst e x cap [] J O B (fun j E=>by simp at E)
    |vec _ _ _ b V cap cur T fz g hb hc W hr=>
     subst G
     refine run_convert_bytes_back w src dst e ⟨b,V,none⟩ cap L J O B fun j E=>?_
     have h1:=W j 0 E (by omega)
     have X:=hr j 0 E (by omega)
     rw[hf j E]at X
     generalize aa:g j 0=gq at h1 X
     cases X
     have h3:=hH.fT b _ hb
     have ea:(⟨b,V,none⟩:Addr).add j=⟨b,V+j,none⟩:=by unfold Addr.add;split <;>simp_all
     rw[ea]
     unfold World.cell?
     simp only[h3]
     simpa using h1
  unfold execOp
  simp only[ho,Sem.run_bind,this,Result.andThen_ok,Sem.run_pure]
 refine cp (σ:=⟨t,h,nx⟩) hg (by unfold aM;rw[v];exact hd) U (fun p hp=>by simp at hp) rfl ?_
 unfold St.app;rw[v];exact k
theorem Er{C:Ctx}{K:St->Prop}{t:Nat->SV}{h:ar}{nx:Nat}(n j:Nat)(π:List Nat)(s:SV)(bl:List ff){S:List Nat}{es:List (Value×SV×List ff)}{ly:Option (TypeId×Nat)}{k:Value}{e0:SV×List ff}{u:SV}(hn:h n=some (.fam S ⟨es,[(j,u)],ly⟩))(hj:es[j]? =some (k,e0))(hu:u=du π s)
  (b1:fJ h (gG π π (bl.map ff.blk))) (side:(Nat.beq π.length bl.length&&(bK (n::π)&&(s.under bl.length&&uj bl.length bl)))=true)
  (kk:∀ S',Wn C K ⟨t,dB (upd h n (some (.fam S' ⟨es.set j (k,s,bl),[],ly⟩))) (π.map fun m=>(m,none)),nx⟩):Wn C K ⟨t,h,nx⟩:=by
 intro M F pin ρ a w W
 have hH:HR M F ρ h w:=W.hr
 simp only[Bool.and_eq_true]at side
 obtain⟨s1,s0,s2,s3⟩:=side
 have s1:=Nat.eq_of_beq_eq_true s1
 obtain⟨x,hx,g0,g1,g2,g3,bc,r1,r2⟩:=hH.fam n S _ hn
 obtain⟨b2,b3,ob,o1,oB⟩:=hH.CX hn hx
 have b4:j<es.length:=(List.getElem?_eq_some_iff.1 hj).1
 have cQ:n∉π:=by
  intro hm
  obtain⟨i,hi⟩:=List.mem_iff_getElem?.1 hm
  have :=ck s0 0 (i+1) n rfl (by simpa using hi)
  omega
 have bh:∀ i i' m:Nat,π[i]? =some m->π[i']? =some m->i=i':=by
  intro i i' m h1 h2
  have :=ck s0 (i+1) (i'+1) m (by simpa using h1) (by simpa using h2)
  omega
 have bp:∀ (i:Nat) (c:ff),bl[i]? =some c->∃ m,π[i]? =some m/\h m=some (dW π c.blk):=by
  intro i c hc
  obtain⟨m,hm,D⟩:=gY (π:=π) π (bl.map ff.blk) (by rw[s1,List.length_map]) i c.blk (by rw[List.getElem?_map,hc];rfl)
  exact⟨m,hm,eW b1 _ D⟩
 have B:∀ (i m:Nat),π[i]? =some m->∃ c,bl[i]? =some c/\h m=some (dW π c.blk)/\∃ z,ρ m=some z/\((z.R=0/\c.blk.ghost=true)\/(0<z.R/\M z.b=none/\F z.b=none/\∃ o,w.heap[z.b]? =some o/\BR M ρ z (dW π c.blk) o)):=by
  intro i m hm
  have hi:i<bl.length:=by rw[<-s1];exact(List.getElem?_eq_some_iff.1 hm).1
  obtain⟨m',hm',D⟩:=bp i _ (List.getElem?_eq_getElem hi)
  rw[hm]at hm';obtain rfl:=Option.some.inj hm'
  obtain⟨z,v,ba⟩:=hH.live m _ D
  refine⟨_,List.getElem?_eq_getElem hi,D,z,v,?_⟩
  rw[eU]at ba
  exact ba
 have bx:∀ (i m:Nat) S es,π[i]? =some m->h m≠some (.fam S es):=by
  intro i m S es hm he
  obtain⟨c,_,D,_⟩:=B i m hm
  rw[D]at he
  cases c<;>simp[ff.blk,dW]at he
 let S':=S++π.filterMap fun m=>(ρ m).bind fun z=>if 0<z.R then some z.b else none
 have av:∀ b,b∈S'↔b∈S\/∃ m z,m∈π/\ρ m=some z/\0<z.R/\z.b=b:=by
  intro b
  simp only[S',List.mem_append,List.mem_filterMap]
  constructor
  ·rintro(h1|⟨m,hm,h2⟩)
   ·exact .inl h1
   ·right
    cases v:ρ m with
    |none=>rw[v]at h2;cases h2
    |some z=>
     rw[v]at h2
     simp only[Option.bind_some]at h2
     split at h2
     ·next U=>exact⟨m,z,hm,v,U,Option.some.inj h2⟩
     ·cases h2
  ·rintro(h1|⟨m,z,hm,v,U,D⟩)
   ·exact .inl h1
   ·exact .inr ⟨m,hm,by rw[v];simp[U,D]⟩
 have ca:∀ (l:List Nat) (U:ar) (m:Nat),dB U (l.map fun m=>(m,none)) m=if m∈l then none else U m:=by
  intro l
  induction l with
  |nil=>intro U m;simp[dB]
  |cons q r ih=>
   intro U m
   simp only[List.map_cons,dB]
   rw[ih,az]
   by_cases e:m∈r
   ·simp[e]
   ·by_cases V:m=q
    ·simp[V]
    ·simp[e,V]
 let a4:ko:=⟨es.set j (k,s,bl),[],ly⟩
 have at':∀ m,dB (upd h n (some (.fam S' a4))) (π.map fun m=>(m,none)) m=if m∈π then none else if m=n then some (.fam S' a4)else h m:=by
  intro m;rw[ca,az]
 have ne:∀ m,dB (upd h n (some (.fam S' a4))) (π.map fun m=>(m,none)) m≠none->m∉π/\h m≠none:=by
  intro m hm
  rw[at']at hm
  by_cases e:m∈π
  ·rw[if_pos e]at hm;exact absurd rfl hm
  ·refine⟨e,fun V=>?_⟩
   rw[if_neg e]at hm
   split at hm
   ·next e3=>subst e3;rw[hn]at V;cases V
   ·exact hm V
 have bq:∀ b,b∈S'->M b=none/\F b=none/\b<w.heap.size:=by
  intro b D
  rcases(av b).1 D with D|⟨m,z,hm,v,U,rfl⟩
  ·exact g1 b D
  ·obtain⟨i,hi⟩:=List.mem_iff_getElem?.1 hm
   obtain⟨c,_,_,X,E,ba⟩:=B i m hi
   rw[v]at E;obtain rfl:=Option.some.inj E
   rcases ba with⟨cT,_⟩|⟨_,h1,h2,o,h3,_⟩
   ·omega
   ·exact⟨h1,h2,(Array.getElem?_eq_some_iff.1 h3).1⟩
 obtain⟨Y,I,ah⟩:∃ Y:Nat->Names,Y j=back π ρ/\∀ q,q≠j->Y q=bc q:=⟨fun q=>if q=j then back π ρ else bc q,if_pos rfl,fun q G=>if_neg G⟩
 refine kk S' M F pin ρ a w ⟨⟨W.tm,W.sz,W.df,⟨hH.fT,hH.iL,hH.j9,fun m b hm=>?_,fun q q' z X G cc=>hH.sep q q' z X (ne q G).2 (ne q' cc).2,fun m S2 br hm=>?_⟩,W.pn,W.pm,W.gl⟩,W.fr⟩
 ·replace hm:=(at' m).symm.trans hm
  by_cases e:m∈π
  ·rw[if_pos e]at hm;cases hm
  ·rw[if_neg e]at hm
   split at hm
   ·next V=>
    subst V;cases hm
    exact⟨x,hx, .inr ⟨g0,b2,b3,_,o1,oB.Cm hj⟩⟩
   ·exact hH.live m b hm
 ·replace hm:=(at' m).symm.trans hm
  by_cases e:m∈π
  ·rw[if_pos e]at hm;cases hm
  ·rw[if_neg e]at hm
   split at hm
   ·next V=>
    subst V;cases hm
    refine⟨x,hx,g0,bq,fun q z G v a5 D=>?_,fun q S3 a6 a7 G b D=>?_,Y,fun j2 k2 a2 a3 J=>?_,?_⟩
    ·obtain⟨q1,q2⟩:=ne q G
     rcases(av _).1 D with D|⟨m',X,hm',E,O,D⟩
     ·exact g2 q z q2 v a5 D
     ·obtain⟨i,hi⟩:=List.mem_iff_getElem?.1 hm'
      obtain⟨c,_,aa,_⟩:=B i m' hi
      have :=hH.sep q m' z X q2 (by rw[aa];simp) v E a5 O D.symm
      subst this;exact q1 hm'
    ·replace G:=(at' q).symm.trans G
     by_cases e3:q∈π
     ·rw[if_pos e3]at G;cases G
     rw[if_neg e3,if_neg a7]at G
     rcases(av _).1 D with D|⟨m',X,hm',E,O,rfl⟩
     ·exact g3 q S3 a6 a7 G b D
     ·obtain⟨i,hi⟩:=List.mem_iff_getElem?.1 hm'
      obtain⟨c,_,aa,_⟩:=B i m' hi
      obtain⟨_,_,_,_,t2,_⟩:=hH.fam q S3 a6 G
      exact t2 m' X (by rw[aa];simp) E O
    ·by_cases ax:j2=j
     ·subst ax
      replace J:=J.1
      rw[List.getElem?_set_self b4]at J
      cases J
      obtain⟨y',y1,y3⟩:=oB.open (p:=(j2,u)) (List.mem_singleton.2 rfl)
      refine⟨⟨_,y',o1,y1,?_⟩,fun i c hc=>?_⟩
      ·rw[I]
       exact y3.back s hu (by rw[s1];exact s2)
      ·obtain⟨m',hm',_⟩:=bp i c hc
       obtain⟨c',a0,cV,z,v,ba⟩:=B i m' hm'
       rw[hc]at a0;obtain rfl:=Option.some.inj a0
       refine⟨z,by rw[I];simp[back,hm',v],?_⟩
       rcases ba with ba|⟨U,h1,h2,o,h3,h4⟩
       ·exact .inl ba
       ·refine .inr ⟨U,(av _).2 (.inr ⟨m',z,List.mem_of_getElem? hm',v,U,rfl⟩),o,h3,?_⟩
        rw[I]
        exact h4.back (by rw[s1];exact(List.all_eq_true.1 s3) c (List.mem_of_getElem? hc))
     ·replace J:=J.1
      rw[List.getElem?_set_ne (Ne.symm ax)]at J
      obtain⟨q1,q2⟩:=r1 j2 k2 a2 a3 ⟨J,fun p hp=>by cases List.mem_singleton.1 hp;exact Ne.symm ax⟩
      refine⟨?_,fun i c hc=>?_⟩
      ·rw[ah j2 ax];exact q1
      ·obtain⟨z,z1,z2⟩:=q2 i c hc
       refine⟨z,by rw[ah j2 ax];exact z1,?_⟩
       rcases z2 with z2|⟨z2,z3,o,z4,z5⟩
       ·exact .inl z2
       ·exact .inr ⟨z2,(av _).2 (.inl z3),o,z4,by rw[ah j2 ax];exact z5⟩
    ·intro j2 j3 k2 k3 a2 bn a3 bo i i' c c' z X J bu hc a0 v E U O D
     have a8:∀ (q:Nat) (k':Value) (s':SV) (a1:List ff) (i:Nat) (c:ff) (z:Own),q≠j->a4.at q k' s' a1->a1[i]? =some c->Y q i=some z->0<z.R->z.b∈S/\(⟨es,[(j,u)],ly⟩:ko).at q k' s' a1/\bc q i=some z:=by
      intro q k' s' a1 i c z G he hc v U
      replace he:=he.1
      rw[List.getElem?_set_ne (Ne.symm G)]at he
      replace he:(⟨es,[(j,u)],ly⟩:ko).at q k' s' a1:=⟨he,fun p hp=>by cases List.mem_singleton.1 hp;exact Ne.symm G⟩
      rw[ah q G]at v
      obtain⟨_,q2⟩:=r1 q k' s' a1 he
      obtain⟨X,z1,z2⟩:=q2 i c hc
      rw[v]at z1;obtain rfl:=Option.some.inj z1
      rcases z2 with⟨z2,_⟩|⟨_,z3,_⟩
      ·omega
      ·exact⟨z3,he,v⟩
     have al:∀ (i:Nat) (z:Own),back π ρ i=some z->∃ m,π[i]? =some m/\ρ m=some z:=by
      intro i z v
      unfold back at v
      cases e:π[i]? with
      |none=>rw[e]at v;cases v
      |some m=>rw[e]at v;exact⟨m,rfl,v⟩
     by_cases V:j2=j<;>by_cases e3:j3=j
     ·rw[V,I]at v;rw[e3,I]at E
      obtain⟨m1,c0,c5⟩:=al i z v
      obtain⟨m2,c6,di⟩:=al i' X E
      obtain⟨_,_,c1,_⟩:=B i m1 c0
      obtain⟨_,_,c2,_⟩:=B i' m2 c6
      have :=hH.sep m1 m2 z X (by rw[c1];simp) (by rw[c2];simp) c5 di U O D
      subst this
      exact⟨V.trans e3.symm,bh i i' m1 c0 c6⟩
     ·rw[V,I]at v
      obtain⟨m1,c0,c5⟩:=al i z v
      obtain⟨_,_,c1,_⟩:=B i m1 c0
      obtain⟨k1,_,_⟩:=a8 j3 k3 bn bo i' c' X e3 bu a0 E O
      exact absurd (D▸k1) (g2 m1 z (by rw[c1];simp) c5 U)
     ·rw[e3,I]at E
      obtain⟨m1,c0,c5⟩:=al i' X E
      obtain⟨_,_,c1,_⟩:=B i' m1 c0
      obtain⟨k1,_,_⟩:=a8 j2 k2 a2 a3 i c z V J hc v U
      exact absurd (D.symm▸k1) (g2 m1 X (by rw[c1];simp) c5 O)
     ·obtain⟨_,k1,l1⟩:=a8 j2 k2 a2 a3 i c z V J hc v U
      obtain⟨_,cl,l2⟩:=a8 j3 k3 bn bo i' c' X e3 bu a0 E O
      exact r2 j2 j3 k2 k3 a2 bn a3 bo i i' c c' z X k1 cl hc a0 l1 l2 U O D
   ·next V=>
    obtain⟨x2,cr,q0,q1,q2,q3,q4⟩:=hH.fam m S2 br hm
    refine⟨x2,cr,q0,q1,fun q z G v a5=>q2 q z (ne q G).2 v a5,fun q S3 a6 a7 G b D=>?_,q4⟩
    replace G:=(at' q).symm.trans G
    by_cases e3:q∈π
    ·rw[if_pos e3]at G;cases G
    rw[if_neg e3]at G
    split at G
    ·next e4=>
     subst e4;cases G
     intro aa
     rcases(av _).1 aa with aa|⟨m',X,hm',E,O,rfl⟩
     ·exact g3 m S2 br V hm b aa D
     ·obtain⟨i,hi⟩:=List.mem_iff_getElem?.1 hm'
      obtain⟨c,_,cw,_⟩:=B i m' hi
      exact q2 m' X (by rw[cw];simp) E O D
    ·exact q3 q S3 a6 a7 G b D
section
variable {C:Ctx} {ops:List Oper} {i:Nat} {o:Oper} {l:List Oper} {t:Nat->SV} {h h':ar} {nx:Nat} {K:St->Prop} {acc:List FP}
end
end Go.Proofs.YtifcaekngfgdmaaDoor.Nice
namespace Go.Proofs.YtifcaekngfgdmaaDoor.Nice
open Go Go.Proofs Co
structure eG (x:Ln):Prop where
 nm:x.nm.size<=8
 c:x.ch.length<=30
 ne:∀ c,c∈x.ch->0<c.length/\c.length<=8/\aE c=0
 o:x.op.length<=8
 so:aE x.op=0
theorem eG.at{x:Ln}(h:eG x){i:Nat}(b:i<x.ch.length):0<(x.ch.getD i default).length/\(x.ch.getD i default).length<=8/\aE (x.ch.getD i default)=0:=by
 rw[getD_eq b];exact h.ne _ (List.getElem_mem b)
theorem eG.ok{x:Ln}(h:eG x):lL x.ch x.op:=
 ⟨Nat.le_trans h.c (by decide),fun i b=>⟨(h.at b).1,Nat.le_trans (h.at b).2.1 (by decide)⟩,Nat.le_trans h.o (by decide)⟩
theorem eG.len{x:Ln}(h:eG x):(bJ x.ch x.op).length<=248:=by
 have e:=pU (gs:=x.ch) (k:=8) fun i b=>(h.at b).2.1
 have v:=h.c
 have B:=h.o
 unfold bJ;rw[List.length_append];omega
theorem Ah{l:List aR}(h:aE l=0){s:aR}(k:s∈l):cK s.t/\cK s.v:=by
 obtain⟨i,e,rfl⟩:=List.mem_iff_getElem.1 k
 obtain⟨a,b,_⟩:=g8 (jg h).2 e
 rw[getD_eq e]at a b
 exact⟨a,b⟩
theorem eG.val{x:Ln}(h:eG x){s:aR}(b:s∈bJ x.ch x.op):cK s.t/\cK s.v:=by
 rcases List.mem_append.1 b with b|b
 ·obtain⟨c,e,b⟩:=List.mem_flatten.1 b
  exact Ah (h.ne c e).2.2 b
 ·exact Ah h.so b
theorem Es{l:List aR}(h:∀ s,s∈l->cK s.v):∀ i,i<(eh l).length->Hb ((eh l).getD i 0):=by
 intro i b
 rw[eM]at b
 rw[jf b,getD_eq b]
 exact h _ (List.getElem_mem b)
structure Dd where
 k:Int
 nm:ByteArray
 s:aR
 fr:Int
 to:Int
 kp:Int
 deriving Inhabited
def KC(d:Dd):List SV:= [SV.i d.k, .d (.val (.string d.nm)),SV.i d.s.t,SV.i d.s.v,SV.i d.fr,SV.i d.to,SV.i d.kp]
def Gl(d:Dd):SV:= .agg (KC d)
structure mF (d:Dd):Prop where
 k:aj d.k
 nm:d.nm.size<=9223372036854775807
 s:aj d.s.t/\aj d.s.v
 fr:aj d.fr
 to:aj d.to
 kp:aj d.kp
def xP(d:Dd)(x:Ln)(F:List Int)(cnt:Nat):bS×Fd:=
 if d.k=2 then(ia x.nm d.s x.ch x.op F cnt,codeF (ia x.nm d.s x.ch x.op F cnt).e (ia x.nm d.s x.ch x.op F cnt).ch.length)
 else if d.k=6 then(cH x.nm x.ch x.op F cnt,codeF (cH x.nm x.ch x.op F cnt).e (cH x.nm x.ch x.op F cnt).ch.length)
 else if d.k=5 then(gB x.nm d.kp x.ch x.op F cnt,codeF (gB x.nm d.kp x.ch x.op F cnt).e (gB x.nm d.kp x.ch x.op F cnt).ch.length)
 else if d.k=3 then(⟨0,x.ch,x.op,F,cnt⟩,⟨0,(bJ x.ch x.op).filter (dK d.fr d.to),rk,0⟩)
 else(⟨0,x.ch,x.op,F,cnt⟩,⟨0,[],nH ((bJ x.ch x.op).filter (dK d.fr d.to)),0⟩)
structure tc (s:eI):Prop where
 F:s.F.length<=900000
 cnt:s.cnt<=200
 L:s.L.length<=6
 ln:∀ x,x∈s.L->eG x
theorem mD{Z:List Nat}{es:List (Value×SV×List ff)}{j:Nat}(d:Dd)(hd:mF d)(X:2<=d.k/\d.k<=6)(x:Ln)(b:eG x)(W:x.nm=d.nm)(F:List Int)(J:F.length<=900000)(cnt:Nat)(O:cnt<=200)(q:bS)(f:Fd)(U:xP d x F cnt=(q,f)):
  Spec Tryd.prog GF 25 [.ptr 0 0 0, .ptr 3 0 0,Gl d] [.cells 55 3 [.map 1, .sl 2 0 F.length,SV.i cnt], .fam Z ⟨es,[(j, .ptr 3 0 0)],none⟩,bY F, .cells 100 2 [.sl 4 0 x.ch.length, .sl 5 0 x.op.length],bw x.ch,dw x.op] (fun r Y=>r=kj f/\Y= [some (.cells 55 3 [.map 1, .sl 6 0 q.F.length,SV.i q.cnt]),some (.fam Z ⟨es,[(j, .ptr 3 0 0)],none⟩),none,some (.cells 100 2 [.sl 7 0 q.ch.length, .sl 8 0 q.op.length]),none,none,some (bY q.F),some (bw q.ch),some (dw q.op)]):=by
 obtain⟨k,nm,s,G,I,E⟩:=d
 have B:=b.ok
 have V:=b.nm
 obtain⟨v,ch,op⟩:=x
 have W:v=nm:=W
 subst W
 have X:2<=k/\k<=6:=X
 have e:k=2\/k=3\/k=4\/k=5\/k=6:=by omega
 rcases e with rfl|rfl|rfl|rfl|rfl
 ·have D:(ia v s ch op F cnt,codeF (ia v s ch op F cnt).e (ia v s ch op F cnt).ch.length)=(q,f):=by rw[<-U];unfold xP;rw[if_pos rfl]
  obtain⟨rfl,rfl⟩:=Prod.mk.inj D
  exact HU v V s G I E hd.s hd.kp ch op B b.so b.c b.o F J cnt O _ rfl
 ·have D:((⟨0,ch,op,F,cnt⟩:bS),(⟨0,(bJ ch op).filter (dK G I),rk,0⟩:Fd))=(q,f):=by rw[<-U];unfold xP;rw[if_neg (fun h=>absurd (show(3:Int)=2 from h) (by decide)),if_neg (fun h=>absurd (show(3:Int)=6 from h) (by decide)),if_neg (fun h=>absurd (show(3:Int)=5 from h) (by decide)),if_pos rfl]
  obtain⟨rfl,rfl⟩:=Prod.mk.inj D
  exact El v V s G I E hd.s hd.kp ch op B b.so b.c b.o F J cnt O
 ·have D:((⟨0,ch,op,F,cnt⟩:bS),(⟨0,[],nH ((bJ ch op).filter (dK G I)),0⟩:Fd))=(q,f):=by rw[<-U];unfold xP;rw[if_neg (fun h=>absurd (show(4:Int)=2 from h) (by decide)),if_neg (fun h=>absurd (show(4:Int)=6 from h) (by decide)),if_neg (fun h=>absurd (show(4:Int)=5 from h) (by decide)),if_neg (fun h=>absurd (show(4:Int)=3 from h) (by decide))]
  obtain⟨rfl,rfl⟩:=Prod.mk.inj D
  refine Em v V s G I E hd.s hd.kp ch op B b.so b.c b.o F J cnt O _ rfl ?_ (Es fun y hy=>(b.val ((List.mem_filter.1 hy).1)).2)
  exact Nat.le_trans (List.length_filter_le _ _) (Nat.le_trans b.len (by decide))
 ·have D:(gB v E ch op F cnt,codeF (gB v E ch op F cnt).e (gB v E ch op F cnt).ch.length)=(q,f):=by rw[<-U];unfold xP;rw[if_neg (fun h=>absurd (show(5:Int)=2 from h) (by decide)),if_neg (fun h=>absurd (show(5:Int)=6 from h) (by decide)),if_pos rfl]
  obtain⟨rfl,rfl⟩:=Prod.mk.inj D
  exact Gg v V s G I E hd.s hd.kp ch op B b.so b.c b.o F J cnt O _ rfl
 ·have D:(cH v ch op F cnt,codeF (cH v ch op F cnt).e (cH v ch op F cnt).ch.length)=(q,f):=by rw[<-U];unfold xP;rw[if_neg (fun h=>absurd (show(6:Int)=2 from h) (by decide)),if_pos rfl]
  obtain⟨rfl,rfl⟩:=Prod.mk.inj D
  exact Gf v V s G I E hd.s hd.kp ch op B b.so b.c b.o F J cnt O _ rfl
theorem iz{Z:List Nat}(d:Dd)(hd:mF d)(s:eI)(v:tc s)(B:d.k=1)(q:I7)(E:eT d.nm s=q):Spec Tryd.prog GF 11 [.ptr 0 0 0,Gl d] [.cells 55 3 [.map 1, .sl 2 0 s.F.length,SV.i s.cnt], .fam Z ⟨a9 s.L,[],none⟩,bY s.F] (fun r G=>∃ I,r=kj (eC q.e)/\G= [some (.cells 55 3 [.map 3, .sl 4 0 q.s.F.length,SV.i q.s.cnt]),none,none,some (.fam I ⟨a9 q.s.L,[],none⟩),some (bY q.s.F)]):=by
 refine start 47 3 Tryd.func11 rfl rfl rfl rfl ?_
 refine r1<|sT 3 3 1 rfl<|sT 4 11 2 rfl<|e1 19 rfl<|ab [0,3,4] rfl<|ai<|r1<|sT 7 19 1 rfl<|sO 8 27 2 rfl<|e1 35 rfl<|ab [0,3,4,8] rfl<|au<|r1<|sO 10 35 1 rfl<|sT 9 43 2 rfl<|e1 51 rfl ?_
 refine ab [0,3,4,8,9] rfl ?_
 refine q1 rfl (fun b=>?_) (fun b=>?_)
 try simp only[cs,ne_eq]at b
 refine r1<|sT 11 51 1 rfl<|sT 12 59 2 rfl<|sO 13 67 3 rfl ?_
 refine cQ (yS d.nm hd.nm s v.F v.cnt v.L q E) [0,1,2] 14 75 4 rfl rfl rfl rfl rfl rfl rfl Tryd.func23 rfl rfl rfl ⟨rfl,rfl,rfl,trivial⟩ ?_
 rintro _ _ ⟨D,rfl,rfl⟩
 refine val 14 (SV.i q.e) rfl rfl ?_
 refine kg 75 _ rfl (.fam D ⟨a9 q.s.L,[],none⟩) rfl ?_
 refine c1 (iJ q.e) [] [] 15 83 5 rfl rfl rfl rfl rfl rfl rfl rfl Tryd.func22 rfl rfl rfl rfl trivial rfl rfl ?_
 refine cJ 91 6 rfl rfl rfl rfl rfl<|e1 99 rfl<|ab [4] rfl<|ao<|br<|tr ?_
 exact cG (kj (eC q.e)) (π:= [0,1,2,75,76]) (ae:= [some (.cells 55 3 [.map 3, .sl 4 0 q.s.F.length,SV.i q.s.cnt]),none,none,some (.fam D ⟨a9 q.s.L,[],none⟩),some (bY q.s.F)]) Tryd.results11 rfl (by trivial) rfl rfl rfl ⟨rfl,rfl,rfl,trivial⟩ ⟨D,rfl,rfl⟩
 exact absurd B (by simpa using b)
theorem BH{Z:List Nat}(d:Dd)(hd:mF d)(s:eI)(U:tc s)(I:d.k<1\/7<d.k):Spec Tryd.prog GF 11 [.ptr 0 0 0,Gl d] [.cells 55 3 [.map 1, .sl 2 0 s.F.length,SV.i s.cnt], .fam Z ⟨a9 s.L,[],none⟩,bY s.F] (fun r J=>∃ O,r=kj (eC 3)/\J= [some (.cells 55 3 [.map 3, .sl 4 0 s.F.length,SV.i s.cnt]),none,none,some (.fam O ⟨a9 s.L,[],none⟩),some (bY s.F)]):=by
 refine start 47 3 Tryd.func11 rfl rfl rfl rfl ?_
 refine r1<|sT 3 3 1 rfl<|sT 4 11 2 rfl<|e1 19 rfl<|ab [0,3,4] rfl<|ai<|r1<|sT 7 19 1 rfl<|sO 8 27 2 rfl<|e1 35 rfl<|ab [0,3,4,8] rfl<|au<|r1<|sO 10 35 1 rfl<|sT 9 43 2 rfl<|e1 51 rfl ?_
 refine ab [0,3,4,8,9] rfl ?_
 refine q1 rfl (fun v=>?_) (fun v=>?_)
 simp at v;omega
 try simp only[cs,ne_eq]at v
 refine r1<|sO 17 51 1 rfl<|sT 16 59 2 rfl<|e1 67 rfl<|ab [0,3,4,8,16] rfl ?_
 refine q1 rfl (fun B=>?_) (fun B=>?_)
 simp at B;omega
 try simp only[cs,ne_eq]at B
 refine ai<|r1<|sO 24 67 1 rfl<|sT 23 75 2 rfl<|e1 83 rfl<|ab [0,3,4,8,23] rfl ?_
 refine q1 rfl (fun D=>?_) (fun D=>?_)
 simp at D;omega
 try simp only[cs,ne_eq]at D
 refine r1<|sO 25 83 1 rfl<|sT 23 91 2 rfl<|e1 99 rfl<|ab [0,3,4,8,23] rfl ?_
 refine q1 rfl (fun E=>?_) (fun E=>?_)
 simp at E;omega
 try simp only[cs,ne_eq]at E
 refine r1<|sO 26 99 1 rfl<|sT 23 107 2 rfl<|e1 115 rfl<|ab [0,3,4,8,23] rfl ?_
 refine q1 rfl (fun G=>?_) (fun G=>?_)
 simp at G;omega
 try simp only[cs,ne_eq]at G
 refine r1<|sO 27 115 1 rfl<|sT 23 123 2 rfl<|e1 131 rfl<|ab [0,3,4,8,23] rfl ?_
 refine q1 rfl (fun b=>?_) (fun b=>?_)
 simp at b;omega
 try simp only[cs,ne_eq]at b
 refine r0 ?_
 refine sO 28 131 1 rfl<|sT 23 139 2 rfl<|e1 147 rfl<|tn ?_
 refine q1 rfl (fun e=>?_) (fun e=>?_)
 simp at e;omega
 try simp only[cs,ne_eq]at e
 refine ak<|bn<|tn<|r1 ?_
 refine c1 (iJ 3) [] [] 46 147 1 rfl rfl rfl rfl rfl rfl rfl rfl Tryd.func22 rfl rfl rfl rfl trivial rfl rfl ?_
 refine cJ 155 2 rfl rfl rfl rfl rfl<|e1 163 rfl<|ab [4] rfl<|rename 1 rfl rfl<|rename 2 rfl rfl<|ao ?_
 exact cG (kj (eC 3)) (π:= [0,1,2,163,171]) (ae:= [some (.cells 55 3 [.map 3, .sl 4 0 s.F.length,SV.i s.cnt]),none,none,some (.fam Z ⟨a9 s.L,[],none⟩),some (bY s.F)]) Tryd.results11 rfl (by trivial) rfl rfl rfl ⟨rfl,rfl,rfl,trivial⟩ ⟨Z,rfl,rfl⟩
theorem BI{Z:List Nat}(d:Dd)(hd:mF d)(s:eI)(W:tc s)(O:2<=d.k/\d.k<=6)(J:bj d.nm s.L=none):Spec Tryd.prog GF 11 [.ptr 0 0 0,Gl d] [.cells 55 3 [.map 1, .sl 2 0 s.F.length,SV.i s.cnt], .fam Z ⟨a9 s.L,[],none⟩,bY s.F] (fun r U=>∃ V,r=kj (eC 6)/\U= [some (.cells 55 3 [.map 3, .sl 4 0 s.F.length,SV.i s.cnt]),none,none,some (.fam V ⟨a9 s.L,[],none⟩),some (bY s.F)]):=by
 refine start 47 3 Tryd.func11 rfl rfl rfl rfl ?_
 refine r1<|sT 3 3 1 rfl<|sT 4 11 2 rfl<|e1 19 rfl<|ab [0,3,4] rfl<|ai<|r1<|sT 7 19 1 rfl<|sO 8 27 2 rfl<|e1 35 rfl<|ab [0,3,4,8] rfl<|au<|r1<|sO 10 35 1 rfl<|sT 9 43 2 rfl<|e1 51 rfl ?_
 refine ab [0,3,4,8,9] rfl ?_
 refine q1 rfl (fun G=>?_) (fun G=>?_)
 simp at G;omega
 try simp only[cs,ne_eq]at G
 refine r1<|sO 17 51 1 rfl<|sT 16 59 2 rfl<|e1 67 rfl<|ab [0,3,4,8,16] rfl ?_
 refine q1 rfl (fun I=>?_) (fun I=>?_)
 simp at I;omega
 try simp only[cs,ne_eq]at I
 refine ai<|r1<|sO 24 67 1 rfl<|sT 23 75 2 rfl<|e1 83 rfl<|ab [0,3,4,8,23] rfl ?_
 refine q1 rfl (fun v=>?_) (fun v=>?_)
 try simp only[cs,ne_eq]at v
 refine ak<|tn ?_
 refine q1 rfl (fun v=>?_) (fun v=>?_)
 try simp only[cs,ne_eq]at v
 refine kD rfl ?_
 refine dT 30 83 1 rfl<|dT 31 91 2 rfl<|dT 32 99 3 rfl<|dO 33 107 4 rfl<|dT 34 115 5 rfl<|dO 35 123 6 rfl ?_
 refine gu none (.d (.val (.pointer none))) (J▸KN d.nm s.L) (.inl ⟨rfl, .pointer none,(by kernel_rfl),rfl,rfl⟩) 36 131 7 rfl rfl rfl rfl rfl rfl Tryd.underlying53 rfl (fun M ρ u h=>h.val) rfl rfl ?_
 refine dT 29 139 8 rfl<|dT 37 147 9 rfl<|dT 38 155 10 rfl<|dT 5 163 11 rfl<|dT 6 171 12 rfl<|iT 179 rfl (by kernel_rfl)<|ab [0,3,4,5,6] rfl<|ai<|r1<|sT 39 179 1 rfl<|sT 40 187 2 rfl<|e1 195 rfl<|ab [0,3,4,5,40] rfl ?_
 refine q1 rfl (fun b=>?_) (fun b=>?_)
 try simp only[cs,ne_eq]at b
 refine r1 ?_
 refine c1 (iJ 6) [] [] 41 195 1 rfl rfl rfl rfl rfl rfl rfl rfl Tryd.func22 rfl rfl rfl rfl trivial rfl rfl ?_
 refine cJ 203 2 rfl rfl rfl rfl rfl<|e1 211 rfl<|ab [4] rfl<|rename 1 rfl rfl<|rename 2 rfl rfl<|ao<|tr<|br<|tr ?_
 exact cG (kj (eC 6)) (π:= [0,1,2,211,219]) (ae:= [some (.cells 55 3 [.map 3, .sl 4 0 s.F.length,SV.i s.cnt]),none,none,some (.fam Z ⟨a9 s.L,[],none⟩),some (bY s.F)]) Tryd.results11 rfl (by trivial) rfl rfl rfl ⟨rfl,rfl,rfl,trivial⟩ ⟨Z,rfl,rfl⟩
 exact absurd b (by decide)
 try simp only[cs,ne_eq]at v
 exfalso;first|omega|contradiction|(simp_all;done)
 try simp only[cs,ne_eq]at v
 refine r1<|sO 25 83 1 rfl<|sT 23 91 2 rfl<|e1 99 rfl<|ab [0,3,4,8,23] rfl ?_
 refine q1 rfl (fun B=>?_) (fun B=>?_)
 try simp only[cs,ne_eq]at B
 refine ak<|tn ?_
 refine q1 rfl (fun B=>?_) (fun B=>?_)
 try simp only[cs,ne_eq]at B
 refine kD rfl ?_
 refine dT 30 99 1 rfl<|dT 31 107 2 rfl<|dT 32 115 3 rfl<|dO 33 123 4 rfl<|dT 34 131 5 rfl<|dO 35 139 6 rfl ?_
 refine gu none (.d (.val (.pointer none))) (J▸KN d.nm s.L) (.inl ⟨rfl, .pointer none,(by kernel_rfl),rfl,rfl⟩) 36 147 7 rfl rfl rfl rfl rfl rfl Tryd.underlying53 rfl (fun M ρ u h=>h.val) rfl rfl ?_
 refine dT 29 155 8 rfl<|dT 37 163 9 rfl<|dT 38 171 10 rfl<|dT 5 179 11 rfl<|dT 6 187 12 rfl<|iT 195 rfl (by kernel_rfl)<|ab [0,3,4,5,6] rfl<|ai<|r1<|sT 39 195 1 rfl<|sT 40 203 2 rfl<|e1 211 rfl<|ab [0,3,4,5,40] rfl ?_
 refine q1 rfl (fun b=>?_) (fun b=>?_)
 try simp only[cs,ne_eq]at b
 refine r1 ?_
 refine c1 (iJ 6) [] [] 41 211 1 rfl rfl rfl rfl rfl rfl rfl rfl Tryd.func22 rfl rfl rfl rfl trivial rfl rfl ?_
 refine cJ 219 2 rfl rfl rfl rfl rfl<|e1 227 rfl<|ab [4] rfl<|rename 1 rfl rfl<|rename 2 rfl rfl<|ao<|tr<|br<|tr ?_
 exact cG (kj (eC 6)) (π:= [0,1,2,227,235]) (ae:= [some (.cells 55 3 [.map 3, .sl 4 0 s.F.length,SV.i s.cnt]),none,none,some (.fam Z ⟨a9 s.L,[],none⟩),some (bY s.F)]) Tryd.results11 rfl (by trivial) rfl rfl rfl ⟨rfl,rfl,rfl,trivial⟩ ⟨Z,rfl,rfl⟩
 exact absurd b (by decide)
 try simp only[cs,ne_eq]at B
 exfalso;first|omega|contradiction|(simp_all;done)
 try simp only[cs,ne_eq]at B
 refine r1<|sO 26 99 1 rfl<|sT 23 107 2 rfl<|e1 115 rfl<|ab [0,3,4,8,23] rfl ?_
 refine q1 rfl (fun D=>?_) (fun D=>?_)
 try simp only[cs,ne_eq]at D
 refine ak<|tn ?_
 refine q1 rfl (fun D=>?_) (fun D=>?_)
 try simp only[cs,ne_eq]at D
 refine kD rfl ?_
 refine dT 30 115 1 rfl<|dT 31 123 2 rfl<|dT 32 131 3 rfl<|dO 33 139 4 rfl<|dT 34 147 5 rfl<|dO 35 155 6 rfl ?_
 refine gu none (.d (.val (.pointer none))) (J▸KN d.nm s.L) (.inl ⟨rfl, .pointer none,(by kernel_rfl),rfl,rfl⟩) 36 163 7 rfl rfl rfl rfl rfl rfl Tryd.underlying53 rfl (fun M ρ u h=>h.val) rfl rfl ?_
 refine dT 29 171 8 rfl<|dT 37 179 9 rfl<|dT 38 187 10 rfl<|dT 5 195 11 rfl<|dT 6 203 12 rfl<|iT 211 rfl (by kernel_rfl)<|ab [0,3,4,5,6] rfl<|ai<|r1<|sT 39 211 1 rfl<|sT 40 219 2 rfl<|e1 227 rfl<|ab [0,3,4,5,40] rfl ?_
 refine q1 rfl (fun b=>?_) (fun b=>?_)
 try simp only[cs,ne_eq]at b
 refine r1 ?_
 refine c1 (iJ 6) [] [] 41 227 1 rfl rfl rfl rfl rfl rfl rfl rfl Tryd.func22 rfl rfl rfl rfl trivial rfl rfl ?_
 refine cJ 235 2 rfl rfl rfl rfl rfl<|e1 243 rfl<|ab [4] rfl<|rename 1 rfl rfl<|rename 2 rfl rfl<|ao<|tr<|br<|tr ?_
 exact cG (kj (eC 6)) (π:= [0,1,2,243,251]) (ae:= [some (.cells 55 3 [.map 3, .sl 4 0 s.F.length,SV.i s.cnt]),none,none,some (.fam Z ⟨a9 s.L,[],none⟩),some (bY s.F)]) Tryd.results11 rfl (by trivial) rfl rfl rfl ⟨rfl,rfl,rfl,trivial⟩ ⟨Z,rfl,rfl⟩
 exact absurd b (by decide)
 try simp only[cs,ne_eq]at D
 exfalso;first|omega|contradiction|(simp_all;done)
 try simp only[cs,ne_eq]at D
 refine r1<|sO 27 115 1 rfl<|sT 23 123 2 rfl<|e1 131 rfl<|ab [0,3,4,8,23] rfl ?_
 refine q1 rfl (fun e=>?_) (fun e=>?_)
 try simp only[cs,ne_eq]at e
 refine ak<|tn ?_
 refine q1 rfl (fun e=>?_) (fun e=>?_)
 try simp only[cs,ne_eq]at e
 refine kD rfl ?_
 refine dT 30 131 1 rfl<|dT 31 139 2 rfl<|dT 32 147 3 rfl<|dO 33 155 4 rfl<|dT 34 163 5 rfl<|dO 35 171 6 rfl ?_
 refine gu none (.d (.val (.pointer none))) (J▸KN d.nm s.L) (.inl ⟨rfl, .pointer none,(by kernel_rfl),rfl,rfl⟩) 36 179 7 rfl rfl rfl rfl rfl rfl Tryd.underlying53 rfl (fun M ρ u h=>h.val) rfl rfl ?_
 refine dT 29 187 8 rfl<|dT 37 195 9 rfl<|dT 38 203 10 rfl<|dT 5 211 11 rfl<|dT 6 219 12 rfl<|iT 227 rfl (by kernel_rfl)<|ab [0,3,4,5,6] rfl<|ai<|r1<|sT 39 227 1 rfl<|sT 40 235 2 rfl<|e1 243 rfl<|ab [0,3,4,5,40] rfl ?_
 refine q1 rfl (fun b=>?_) (fun b=>?_)
 try simp only[cs,ne_eq]at b
 refine r1 ?_
 refine c1 (iJ 6) [] [] 41 243 1 rfl rfl rfl rfl rfl rfl rfl rfl Tryd.func22 rfl rfl rfl rfl trivial rfl rfl ?_
 refine cJ 251 2 rfl rfl rfl rfl rfl<|e1 259 rfl<|ab [4] rfl<|rename 1 rfl rfl<|rename 2 rfl rfl<|ao<|tr<|br<|tr ?_
 exact cG (kj (eC 6)) (π:= [0,1,2,259,267]) (ae:= [some (.cells 55 3 [.map 3, .sl 4 0 s.F.length,SV.i s.cnt]),none,none,some (.fam Z ⟨a9 s.L,[],none⟩),some (bY s.F)]) Tryd.results11 rfl (by trivial) rfl rfl rfl ⟨rfl,rfl,rfl,trivial⟩ ⟨Z,rfl,rfl⟩
 exact absurd b (by decide)
 try simp only[cs,ne_eq]at e
 exfalso;first|omega|contradiction|(simp_all;done)
 try simp only[cs,ne_eq]at e
 refine r0 ?_
 refine sO 28 131 1 rfl<|sT 23 139 2 rfl<|e1 147 rfl<|tn ?_
 refine q1 rfl (fun E=>?_) (fun E=>?_)
 try simp only[cs,ne_eq]at E
 refine kD rfl ?_
 refine dT 30 147 1 rfl<|dT 31 155 2 rfl<|dT 32 163 3 rfl<|dO 33 171 4 rfl<|dT 34 179 5 rfl<|dO 35 187 6 rfl ?_
 refine gu none (.d (.val (.pointer none))) (J▸KN d.nm s.L) (.inl ⟨rfl, .pointer none,(by kernel_rfl),rfl,rfl⟩) 36 195 7 rfl rfl rfl rfl rfl rfl Tryd.underlying53 rfl (fun M ρ u h=>h.val) rfl rfl ?_
 refine dT 29 203 8 rfl<|dT 37 211 9 rfl<|dT 38 219 10 rfl<|dT 5 227 11 rfl<|dT 6 235 12 rfl<|iT 243 rfl (by kernel_rfl)<|ab [0,3,4,5,6] rfl<|ai<|r1<|sT 39 243 1 rfl<|sT 40 251 2 rfl<|e1 259 rfl<|ab [0,3,4,5,40] rfl ?_
 refine q1 rfl (fun b=>?_) (fun b=>?_)
 try simp only[cs,ne_eq]at b
 refine r1 ?_
 refine c1 (iJ 6) [] [] 41 259 1 rfl rfl rfl rfl rfl rfl rfl rfl Tryd.func22 rfl rfl rfl rfl trivial rfl rfl ?_
 refine cJ 267 2 rfl rfl rfl rfl rfl<|e1 275 rfl<|ab [4] rfl<|rename 1 rfl rfl<|rename 2 rfl rfl<|ao<|tr<|br<|tr ?_
 exact cG (kj (eC 6)) (π:= [0,1,2,275,283]) (ae:= [some (.cells 55 3 [.map 3, .sl 4 0 s.F.length,SV.i s.cnt]),none,none,some (.fam Z ⟨a9 s.L,[],none⟩),some (bY s.F)]) Tryd.results11 rfl (by trivial) rfl rfl rfl ⟨rfl,rfl,rfl,trivial⟩ ⟨Z,rfl,rfl⟩
 exact absurd b (by decide)
 simp at E;omega
theorem yU{Z:List Nat}(d:Dd)(hd:mF d)(s:eI)(G:tc s)(aa:2<=d.k/\d.k<=6)(j:Nat)(x:Ln)(W:bj d.nm s.L=some j)(I:s.L[j]? =some x)(J:x.nm=d.nm)(q:bS)(f:Fd)(X:xP d x s.F s.cnt=(q,f)):Spec Tryd.prog GF 11 [.ptr 0 0 0,Gl d] [.cells 55 3 [.map 1, .sl 2 0 s.F.length,SV.i s.cnt], .fam Z ⟨a9 s.L,[],none⟩,bY s.F] (fun r ho=>∃ Z2,r=kj f/\ho= [some (.cells 55 3 [.map 3, .sl 4 0 (eI.mk (s.L.set j (Ln.mk x.nm q.ch q.op)) q.F q.cnt).F.length,SV.i (eI.mk (s.L.set j (Ln.mk x.nm q.ch q.op)) q.F q.cnt).cnt]),none,none,some (.fam Z2 ⟨a9 (eI.mk (s.L.set j (Ln.mk x.nm q.ch q.op)) q.F q.cnt).L,[],none⟩),some (bY (eI.mk (s.L.set j (Ln.mk x.nm q.ch q.op)) q.F q.cnt).F)]):=by
 have Y:=G.ln x (List.mem_of_getElem? I)
 refine start 47 3 Tryd.func11 rfl rfl rfl rfl ?_
 refine r1<|sT 3 3 1 rfl<|sT 4 11 2 rfl<|e1 19 rfl<|ab [0,3,4] rfl<|ai<|r1<|sT 7 19 1 rfl<|sO 8 27 2 rfl<|e1 35 rfl<|ab [0,3,4,8] rfl<|au<|r1<|sO 10 35 1 rfl<|sT 9 43 2 rfl<|e1 51 rfl ?_
 refine ab [0,3,4,8,9] rfl ?_
 refine q1 rfl (fun U=>?_) (fun U=>?_)
 simp at U;omega
 try simp only[cs,ne_eq]at U
 refine r1<|sO 17 51 1 rfl<|sT 16 59 2 rfl<|e1 67 rfl<|ab [0,3,4,8,16] rfl ?_
 refine q1 rfl (fun V=>?_) (fun V=>?_)
 simp at V;omega
 try simp only[cs,ne_eq]at V
 refine ai<|r1<|sO 24 67 1 rfl<|sT 23 75 2 rfl<|e1 83 rfl<|ab [0,3,4,8,23] rfl ?_
 refine q1 rfl (fun B=>?_) (fun B=>?_)
 try simp only[cs,ne_eq]at B
 refine ak<|tn ?_
 refine q1 rfl (fun B=>?_) (fun B=>?_)
 try simp only[cs,ne_eq]at B
 refine jC 1 j rfl (dQ I) rfl rfl (fun Z1=>?_)
 refine kD rfl ?_
 refine dT 30 91 1 rfl<|dT 31 99 2 rfl<|dT 32 107 3 rfl<|dO 33 115 4 rfl<|dT 34 123 5 rfl<|dO 35 131 6 rfl ?_
 refine gu (some j) (.ptr 83 0 0) (W▸KN d.nm s.L) (.inr ⟨j,rfl,List.mem_singleton.2 rfl⟩) 36 139 7 rfl rfl rfl rfl rfl rfl Tryd.underlying53 rfl (fun M ρ u h=>h.val) rfl rfl ?_
 refine dT 29 147 8 rfl<|dT 37 155 9 rfl<|dT 38 163 10 rfl<|dT 5 171 11 rfl<|dT 6 179 12 rfl<|iT 187 rfl (by kernel_rfl)<|ab [0,3,4,5,6] rfl<|ai<|r1<|sT 39 187 1 rfl<|sT 40 195 2 rfl<|e1 203 rfl<|ab [0,3,4,5,40] rfl ?_
 refine q1 rfl (fun b=>?_) (fun b=>?_)
 exact absurd b (by simp)
 try simp only[cs,ne_eq]at b
 refine ak<|tn<|r1<|sT 42 203 1 rfl<|sT 43 211 2 rfl<|sO 44 219 3 rfl ?_
 refine c1 (mD d hd (by omega) x Y J s.F G.F s.cnt G.cnt q f X) [0,1,2,83,84,85] [0,1,2,83,84,85,227,228,229] 45 227 4 rfl rfl rfl rfl rfl rfl rfl rfl Tryd.func25 rfl rfl rfl rfl ⟨rfl,rfl,rfl,rfl,rfl,rfl,trivial⟩ rfl rfl ?_
 refine cJ 235 5 rfl rfl rfl rfl rfl<|e1 243 rfl<|ab [4] rfl ?_
 refine iu 1 j [83,228,229] (.ptr 0 0 0) (jh (Ln.mk x.nm q.ch q.op)) rfl (dQ I) rfl ⟨rfl,rfl,rfl,trivial⟩ rfl (fun e=>?_)
 refine bW 1 (.fam e ⟨a9 (s.L.set j (Ln.mk x.nm q.ch q.op)),[],none⟩) rfl (congrArg (fun l=>aB.fam e ⟨l,[],none⟩) (ib s.L j (Ln.mk x.nm q.ch q.op))) ?_
 refine rename 1 rfl rfl<|ao<|br<|tr ?_
 exact cG (kj f) (π:= [0,1,2,243,227]) (ae:= [some (.cells 55 3 [.map 3, .sl 4 0 (eI.mk (s.L.set j (Ln.mk x.nm q.ch q.op)) q.F q.cnt).F.length,SV.i (eI.mk (s.L.set j (Ln.mk x.nm q.ch q.op)) q.F q.cnt).cnt]),none,none,some (.fam e ⟨a9 (eI.mk (s.L.set j (Ln.mk x.nm q.ch q.op)) q.F q.cnt).L,[],none⟩),some (bY (eI.mk (s.L.set j (Ln.mk x.nm q.ch q.op)) q.F q.cnt).F)]) Tryd.results11 rfl (by trivial) rfl rfl rfl ⟨rfl,rfl,rfl,trivial⟩ ⟨e,rfl,rfl⟩
 try simp only[cs,ne_eq]at B
 exfalso;first|omega|contradiction|(simp_all;done)
 try simp only[cs,ne_eq]at B
 refine r1<|sO 25 83 1 rfl<|sT 23 91 2 rfl<|e1 99 rfl<|ab [0,3,4,8,23] rfl ?_
 refine q1 rfl (fun D=>?_) (fun D=>?_)
 try simp only[cs,ne_eq]at D
 refine ak<|tn ?_
 refine q1 rfl (fun D=>?_) (fun D=>?_)
 try simp only[cs,ne_eq]at D
 refine jC 1 j rfl (dQ I) rfl rfl (fun Z1=>?_)
 refine kD rfl ?_
 refine dT 30 107 1 rfl<|dT 31 115 2 rfl<|dT 32 123 3 rfl<|dO 33 131 4 rfl<|dT 34 139 5 rfl<|dO 35 147 6 rfl ?_
 refine gu (some j) (.ptr 99 0 0) (W▸KN d.nm s.L) (.inr ⟨j,rfl,List.mem_singleton.2 rfl⟩) 36 155 7 rfl rfl rfl rfl rfl rfl Tryd.underlying53 rfl (fun M ρ u h=>h.val) rfl rfl ?_
 refine dT 29 163 8 rfl<|dT 37 171 9 rfl<|dT 38 179 10 rfl<|dT 5 187 11 rfl<|dT 6 195 12 rfl<|iT 203 rfl (by kernel_rfl)<|ab [0,3,4,5,6] rfl<|ai<|r1<|sT 39 203 1 rfl<|sT 40 211 2 rfl<|e1 219 rfl<|ab [0,3,4,5,40] rfl ?_
 refine q1 rfl (fun b=>?_) (fun b=>?_)
 exact absurd b (by simp)
 try simp only[cs,ne_eq]at b
 refine ak<|tn<|r1<|sT 42 219 1 rfl<|sT 43 227 2 rfl<|sO 44 235 3 rfl ?_
 refine c1 (mD d hd (by omega) x Y J s.F G.F s.cnt G.cnt q f X) [0,1,2,99,100,101] [0,1,2,99,100,101,243,244,245] 45 243 4 rfl rfl rfl rfl rfl rfl rfl rfl Tryd.func25 rfl rfl rfl rfl ⟨rfl,rfl,rfl,rfl,rfl,rfl,trivial⟩ rfl rfl ?_
 refine cJ 251 5 rfl rfl rfl rfl rfl<|e1 259 rfl<|ab [4] rfl ?_
 refine iu 1 j [99,244,245] (.ptr 0 0 0) (jh (Ln.mk x.nm q.ch q.op)) rfl (dQ I) rfl ⟨rfl,rfl,rfl,trivial⟩ rfl (fun e=>?_)
 refine bW 1 (.fam e ⟨a9 (s.L.set j (Ln.mk x.nm q.ch q.op)),[],none⟩) rfl (congrArg (fun l=>aB.fam e ⟨l,[],none⟩) (ib s.L j (Ln.mk x.nm q.ch q.op))) ?_
 refine rename 1 rfl rfl<|ao<|br<|tr ?_
 exact cG (kj f) (π:= [0,1,2,259,243]) (ae:= [some (.cells 55 3 [.map 3, .sl 4 0 (eI.mk (s.L.set j (Ln.mk x.nm q.ch q.op)) q.F q.cnt).F.length,SV.i (eI.mk (s.L.set j (Ln.mk x.nm q.ch q.op)) q.F q.cnt).cnt]),none,none,some (.fam e ⟨a9 (eI.mk (s.L.set j (Ln.mk x.nm q.ch q.op)) q.F q.cnt).L,[],none⟩),some (bY (eI.mk (s.L.set j (Ln.mk x.nm q.ch q.op)) q.F q.cnt).F)]) Tryd.results11 rfl (by trivial) rfl rfl rfl ⟨rfl,rfl,rfl,trivial⟩ ⟨e,rfl,rfl⟩
 try simp only[cs,ne_eq]at D
 exfalso;first|omega|contradiction|(simp_all;done)
 try simp only[cs,ne_eq]at D
 refine r1<|sO 26 99 1 rfl<|sT 23 107 2 rfl<|e1 115 rfl<|ab [0,3,4,8,23] rfl ?_
 refine q1 rfl (fun E=>?_) (fun E=>?_)
 try simp only[cs,ne_eq]at E
 refine ak<|tn ?_
 refine q1 rfl (fun E=>?_) (fun E=>?_)
 try simp only[cs,ne_eq]at E
 refine jC 1 j rfl (dQ I) rfl rfl (fun Z1=>?_)
 refine kD rfl ?_
 refine dT 30 123 1 rfl<|dT 31 131 2 rfl<|dT 32 139 3 rfl<|dO 33 147 4 rfl<|dT 34 155 5 rfl<|dO 35 163 6 rfl ?_
 refine gu (some j) (.ptr 115 0 0) (W▸KN d.nm s.L) (.inr ⟨j,rfl,List.mem_singleton.2 rfl⟩) 36 171 7 rfl rfl rfl rfl rfl rfl Tryd.underlying53 rfl (fun M ρ u h=>h.val) rfl rfl ?_
 refine dT 29 179 8 rfl<|dT 37 187 9 rfl<|dT 38 195 10 rfl<|dT 5 203 11 rfl<|dT 6 211 12 rfl<|iT 219 rfl (by kernel_rfl)<|ab [0,3,4,5,6] rfl<|ai<|r1<|sT 39 219 1 rfl<|sT 40 227 2 rfl<|e1 235 rfl<|ab [0,3,4,5,40] rfl ?_
 refine q1 rfl (fun b=>?_) (fun b=>?_)
 exact absurd b (by simp)
 try simp only[cs,ne_eq]at b
 refine ak<|tn<|r1<|sT 42 235 1 rfl<|sT 43 243 2 rfl<|sO 44 251 3 rfl ?_
 refine c1 (mD d hd (by omega) x Y J s.F G.F s.cnt G.cnt q f X) [0,1,2,115,116,117] [0,1,2,115,116,117,259,260,261] 45 259 4 rfl rfl rfl rfl rfl rfl rfl rfl Tryd.func25 rfl rfl rfl rfl ⟨rfl,rfl,rfl,rfl,rfl,rfl,trivial⟩ rfl rfl ?_
 refine cJ 267 5 rfl rfl rfl rfl rfl<|e1 275 rfl<|ab [4] rfl ?_
 refine iu 1 j [115,260,261] (.ptr 0 0 0) (jh (Ln.mk x.nm q.ch q.op)) rfl (dQ I) rfl ⟨rfl,rfl,rfl,trivial⟩ rfl (fun e=>?_)
 refine bW 1 (.fam e ⟨a9 (s.L.set j (Ln.mk x.nm q.ch q.op)),[],none⟩) rfl (congrArg (fun l=>aB.fam e ⟨l,[],none⟩) (ib s.L j (Ln.mk x.nm q.ch q.op))) ?_
 refine rename 1 rfl rfl<|ao<|br<|tr ?_
 exact cG (kj f) (π:= [0,1,2,275,259]) (ae:= [some (.cells 55 3 [.map 3, .sl 4 0 (eI.mk (s.L.set j (Ln.mk x.nm q.ch q.op)) q.F q.cnt).F.length,SV.i (eI.mk (s.L.set j (Ln.mk x.nm q.ch q.op)) q.F q.cnt).cnt]),none,none,some (.fam e ⟨a9 (eI.mk (s.L.set j (Ln.mk x.nm q.ch q.op)) q.F q.cnt).L,[],none⟩),some (bY (eI.mk (s.L.set j (Ln.mk x.nm q.ch q.op)) q.F q.cnt).F)]) Tryd.results11 rfl (by trivial) rfl rfl rfl ⟨rfl,rfl,rfl,trivial⟩ ⟨e,rfl,rfl⟩
 try simp only[cs,ne_eq]at E
 exfalso;first|omega|contradiction|(simp_all;done)
 try simp only[cs,ne_eq]at E
 refine r1<|sO 27 115 1 rfl<|sT 23 123 2 rfl<|e1 131 rfl<|ab [0,3,4,8,23] rfl ?_
 refine q1 rfl (fun v=>?_) (fun v=>?_)
 try simp only[cs,ne_eq]at v
 refine ak<|tn ?_
 refine q1 rfl (fun v=>?_) (fun v=>?_)
 try simp only[cs,ne_eq]at v
 refine jC 1 j rfl (dQ I) rfl rfl (fun Z1=>?_)
 refine kD rfl ?_
 refine dT 30 139 1 rfl<|dT 31 147 2 rfl<|dT 32 155 3 rfl<|dO 33 163 4 rfl<|dT 34 171 5 rfl<|dO 35 179 6 rfl ?_
 refine gu (some j) (.ptr 131 0 0) (W▸KN d.nm s.L) (.inr ⟨j,rfl,List.mem_singleton.2 rfl⟩) 36 187 7 rfl rfl rfl rfl rfl rfl Tryd.underlying53 rfl (fun M ρ u h=>h.val) rfl rfl ?_
 refine dT 29 195 8 rfl<|dT 37 203 9 rfl<|dT 38 211 10 rfl<|dT 5 219 11 rfl<|dT 6 227 12 rfl<|iT 235 rfl (by kernel_rfl)<|ab [0,3,4,5,6] rfl<|ai<|r1<|sT 39 235 1 rfl<|sT 40 243 2 rfl<|e1 251 rfl<|ab [0,3,4,5,40] rfl ?_
 refine q1 rfl (fun b=>?_) (fun b=>?_)
 exact absurd b (by simp)
 try simp only[cs,ne_eq]at b
 refine ak<|tn<|r1<|sT 42 251 1 rfl<|sT 43 259 2 rfl<|sO 44 267 3 rfl ?_
 refine c1 (mD d hd (by omega) x Y J s.F G.F s.cnt G.cnt q f X) [0,1,2,131,132,133] [0,1,2,131,132,133,275,276,277] 45 275 4 rfl rfl rfl rfl rfl rfl rfl rfl Tryd.func25 rfl rfl rfl rfl ⟨rfl,rfl,rfl,rfl,rfl,rfl,trivial⟩ rfl rfl ?_
 refine cJ 283 5 rfl rfl rfl rfl rfl<|e1 291 rfl<|ab [4] rfl ?_
 refine iu 1 j [131,276,277] (.ptr 0 0 0) (jh (Ln.mk x.nm q.ch q.op)) rfl (dQ I) rfl ⟨rfl,rfl,rfl,trivial⟩ rfl (fun e=>?_)
 refine bW 1 (.fam e ⟨a9 (s.L.set j (Ln.mk x.nm q.ch q.op)),[],none⟩) rfl (congrArg (fun l=>aB.fam e ⟨l,[],none⟩) (ib s.L j (Ln.mk x.nm q.ch q.op))) ?_
 refine rename 1 rfl rfl<|ao<|br<|tr ?_
 exact cG (kj f) (π:= [0,1,2,291,275]) (ae:= [some (.cells 55 3 [.map 3, .sl 4 0 (eI.mk (s.L.set j (Ln.mk x.nm q.ch q.op)) q.F q.cnt).F.length,SV.i (eI.mk (s.L.set j (Ln.mk x.nm q.ch q.op)) q.F q.cnt).cnt]),none,none,some (.fam e ⟨a9 (eI.mk (s.L.set j (Ln.mk x.nm q.ch q.op)) q.F q.cnt).L,[],none⟩),some (bY (eI.mk (s.L.set j (Ln.mk x.nm q.ch q.op)) q.F q.cnt).F)]) Tryd.results11 rfl (by trivial) rfl rfl rfl ⟨rfl,rfl,rfl,trivial⟩ ⟨e,rfl,rfl⟩
 try simp only[cs,ne_eq]at v
 exfalso;first|omega|contradiction|(simp_all;done)
 try simp only[cs,ne_eq]at v
 refine r0 ?_
 refine sO 28 131 1 rfl<|sT 23 139 2 rfl<|e1 147 rfl<|tn ?_
 refine q1 rfl (fun O=>?_) (fun O=>?_)
 try simp only[cs,ne_eq]at O
 refine jC 1 j rfl (dQ I) rfl rfl (fun Z1=>?_)
 refine kD rfl ?_
 refine dT 30 155 1 rfl<|dT 31 163 2 rfl<|dT 32 171 3 rfl<|dO 33 179 4 rfl<|dT 34 187 5 rfl<|dO 35 195 6 rfl ?_
 refine gu (some j) (.ptr 147 0 0) (W▸KN d.nm s.L) (.inr ⟨j,rfl,List.mem_singleton.2 rfl⟩) 36 203 7 rfl rfl rfl rfl rfl rfl Tryd.underlying53 rfl (fun M ρ u h=>h.val) rfl rfl ?_
 refine dT 29 211 8 rfl<|dT 37 219 9 rfl<|dT 38 227 10 rfl<|dT 5 235 11 rfl<|dT 6 243 12 rfl<|iT 251 rfl (by kernel_rfl)<|ab [0,3,4,5,6] rfl<|ai<|r1<|sT 39 251 1 rfl<|sT 40 259 2 rfl<|e1 267 rfl<|ab [0,3,4,5,40] rfl ?_
 refine q1 rfl (fun b=>?_) (fun b=>?_)
 exact absurd b (by simp)
 try simp only[cs,ne_eq]at b
 refine ak<|tn<|r1<|sT 42 267 1 rfl<|sT 43 275 2 rfl<|sO 44 283 3 rfl ?_
 refine c1 (mD d hd (by omega) x Y J s.F G.F s.cnt G.cnt q f X) [0,1,2,147,148,149] [0,1,2,147,148,149,291,292,293] 45 291 4 rfl rfl rfl rfl rfl rfl rfl rfl Tryd.func25 rfl rfl rfl rfl ⟨rfl,rfl,rfl,rfl,rfl,rfl,trivial⟩ rfl rfl ?_
 refine cJ 299 5 rfl rfl rfl rfl rfl<|e1 307 rfl<|ab [4] rfl ?_
 refine iu 1 j [147,292,293] (.ptr 0 0 0) (jh (Ln.mk x.nm q.ch q.op)) rfl (dQ I) rfl ⟨rfl,rfl,rfl,trivial⟩ rfl (fun e=>?_)
 refine bW 1 (.fam e ⟨a9 (s.L.set j (Ln.mk x.nm q.ch q.op)),[],none⟩) rfl (congrArg (fun l=>aB.fam e ⟨l,[],none⟩) (ib s.L j (Ln.mk x.nm q.ch q.op))) ?_
 refine rename 1 rfl rfl<|ao<|br<|tr ?_
 exact cG (kj f) (π:= [0,1,2,307,291]) (ae:= [some (.cells 55 3 [.map 3, .sl 4 0 (eI.mk (s.L.set j (Ln.mk x.nm q.ch q.op)) q.F q.cnt).F.length,SV.i (eI.mk (s.L.set j (Ln.mk x.nm q.ch q.op)) q.F q.cnt).cnt]),none,none,some (.fam e ⟨a9 (eI.mk (s.L.set j (Ln.mk x.nm q.ch q.op)) q.F q.cnt).L,[],none⟩),some (bY (eI.mk (s.L.set j (Ln.mk x.nm q.ch q.op)) q.F q.cnt).F)]) Tryd.results11 rfl (by trivial) rfl rfl rfl ⟨rfl,rfl,rfl,trivial⟩ ⟨e,rfl,rfl⟩
 simp at O;omega
def BJ(l:List Int):List UInt8:=l.map fun v=>UInt8.ofNat v.toNat
theorem uR{l:List Int}(hl:Bytes l)(j:Nat)(v:j<(BJ l).length):dm l j 0= .val (.int .u8 ((BJ l)[j].toNat:Int)):=by
 have k:j<l.length:=by simpa[BJ]using v
 have e:(BJ l)[j]=UInt8.ofNat (l[j]'k).toNat:=by unfold BJ;exact List.getElem_map ..
 have :=hl.b j
 rw[show l.getD j 0=l[j]'k by simp[List.getD,k]]at this
 rw[e,UInt8.toNat_ofNat']
 unfold dm
 rw[show l.getD j 0=l[j]'k by simp[List.getD,k],show((l[j]'k).toNat%2^8:Nat)=(l[j]'k).toNat by omega,Int.toNat_of_nonneg this.1]
theorem uS(s:ByteArray):(⟨(BJ (fb s)).toArray⟩:ByteArray)=s:=by
 obtain⟨a⟩:=s
 congr 1
 apply Array.ext_getElem?
 intro i
 rw[List.getElem?_toArray]
 unfold BJ fb
 rw[List.map_map,List.getElem?_map]
 by_cases h:i<a.size
 ·have b:i<(⟨a⟩:ByteArray).size:=h
  rw[List.getElem?_range b,Array.getElem?_eq_getElem h]
  simp[cX,Array.getD,h]
 ·have b: ¬ i<(⟨a⟩:ByteArray).size:=h
  rw[List.getElem?_eq_none (by simp;exact Nat.le_of_not_lt b),Array.getElem?_eq_none (by omega)];rfl
structure Ev where
 k:Nat
 nm:ByteArray
 l:List aR
 kp:Int
 deriving Inhabited
def nJ(e:Ev):List Int:=if e.k=1 then fb e.nm else[(e.nm.size:Int)]++fb e.nm++(if e.k=2 then bf e.l else bR 8 (cY e.kp))
def aY(e:Ev):List Int:= [(e.k:Int)]++nJ e
def Ai(L:List Ln)(nm:ByteArray)(f:Ln->Ln):List Ln:=match bj nm L with
 |none=>L
 |some j=>L.set j (f (L.getD j default))
def xh(l:List aR)(x:Ln):Ln:=⟨x.nm,x.ch++ [l],[]⟩
def iA(b:Int)(x:Ln):Ln:=⟨x.nm,x.ch.filter (aO b),x.op⟩
def gA(l:List aR)(x:Ln):Ln:=⟨x.nm,x.ch++ [l],x.op⟩
def da(L:List Ln)(e:Ev):List Ln:=if e.k=1 then L++ [⟨e.nm,[],[]⟩]else if e.k=2 then Ai L e.nm (gA e.l)else Ai L e.nm (iA e.kp)
def Rt(l:List aR):Prop:=bT (bf l)=0/\cO (bf l)=l
theorem Aj(nm:ByteArray)(R:List Int){M:aD}{ρ:Names}{n:Nat}{z:Value}(h:VR M ρ (.d (.vec 1 n (fun r c=>dm ([(nm.size:Int)]++fb nm++R) (1+r) c))) z)(b:n=nm.size):VR M ρ (cI (fb nm)) z:=by
 subst b
 unfold cI
 rw[bN]
 refine h.fK fun i c e k=>?_
 unfold dm
 refine congrArg (fun x=>D.val (Value.int .u8 x)) ?_
 rw[List.getD_eq_getElem?_getD,List.getD_eq_getElem?_getD,List.append_assoc,List.singleton_append,Nat.add_comm,List.getElem?_cons_succ,List.getElem?_append_left (by rw[bN];exact e)]
theorem Ak(nm:ByteArray)(R:List Int){M:aD}{ρ:Names}{n a:Nat}{z:Value}(h:VR M ρ (.d (.vec 1 n (fun r c=>dm ([(nm.size:Int)]++fb nm++R) (a+r) c))) z)(b:n=R.length)(e:a=1+nm.size):VR M ρ (cI R) z:=by
 subst b;subst e
 refine h.fK fun i c k v=>?_
 unfold dm
 refine congrArg (fun x=>D.val (Value.int .u8 x)) ?_
 rw[List.getD_eq_getElem?_getD,List.getD_eq_getElem?_getD,List.getElem?_append_right (by simp[bN];omega)]
 congr 2
 simp[bN];omega
theorem HX{Z:List Nat}(s:eI)(nm:ByteArray)(v:nm.size<=8)(B:bj nm s.L=none):Spec Tryd.prog GF 38 [.ptr 0 0 0, .d (.val (.int .u8 1)),cI (fb nm)] [.cells 55 3 [.map 1, .sl 2 0 s.F.length,SV.i s.cnt], .fam Z ⟨a9 s.L,[],none⟩,bY s.F] (fun r D=>∃ E,r=SV.bA []/\D= [some (.cells 55 3 [.map 1, .sl 2 0 s.F.length,SV.i s.cnt]),some (.fam E ⟨a9 (s.L++ [(Ln.mk nm [] [])]),[],none⟩),some (bY s.F)]):=by
 have k:=gU nm (by omega)
 refine start 60 3 Tryd.func38 rfl rfl rfl rfl ?_
 refine ai<|r1<|sT 11 3 1 rfl<|sO 12 11 2 rfl<|e1 19 rfl<|ab [0,1,2,12] rfl ?_
 refine q1 rfl (fun b=>?_) (fun b=>?_)
 try simp only[cs,ne_eq]at b
 refine kD rfl ?_
 refine dT 13 19 1 rfl<|dT 14 27 2 rfl<|dT 15 35 3 rfl<|dO 16 43 4 rfl<|dT 17 51 5 rfl ?_
 refine HW (BJ (fb nm)) 18 59 6 rfl rfl rfl rfl rfl rfl Tryd.underlying26 rfl Tryd.underlying9 rfl (by simp[BJ,bN]) (uR k) ?_
 refine val 18 (.d (.val (.string nm))) rfl (by rw[uS]) ?_
 refine dT 19 67 7 rfl<|dT 20 75 8 rfl ?_
 refine IQ none (.ptr 75 0 0) (B▸KN nm s.L) (fun p G=>by cases G) 83 9 rfl rfl rfl rfl rfl Tryd.underlying53 rfl (fun M ρ u h=>h.val) rfl rfl ?_
 refine iT 91 rfl (by kernel_rfl)<|ab [] rfl ?_
 refine fl 75 0 37 1 (qR []) rfl rfl rfl ?_
 refine fl 75 1 31 2 (b6 []) rfl rfl rfl ?_
 refine iu 1 (a9 s.L).length [75,91,99] (.ptr 0 0 0) (jh (Ln.mk nm [] [])) rfl (xg s.L _) rfl ⟨rfl,rfl,rfl,trivial⟩ rfl (fun e=>?_)
 refine bW 1 (.fam e ⟨a9 (s.L++ [(Ln.mk nm [] [])]),[],none⟩) rfl (congrArg (fun l=>aB.fam e ⟨l,[],none⟩) (ta s.L (Ln.mk nm [] []))) ?_
 refine ao<|tr ?_
 exact oa (π:= [0,1,2]) (ae:= [some (.cells 55 3 [.map 1, .sl 2 0 s.F.length,SV.i s.cnt]),some (.fam e ⟨a9 (s.L++ [(Ln.mk nm [] [])]),[],none⟩),some (bY s.F)]) Tryd.results38 rfl rfl ⟨rfl,rfl,rfl,trivial⟩ ⟨e,rfl,rfl⟩
 exact absurd b (by decide)
theorem HY{Z:List Nat}(s:eI)(nm:ByteArray)(G:nm.size<=8)(l:List aR)(hl:l.length<=120)(k:Rt l){j:Nat}{x:Ln}(I:eG x)(J:bj nm s.L=some j)(E:s.L[j]? =some x):Spec Tryd.prog GF 38 [.ptr 0 0 0, .d (.val (.int .u8 2)),cI ([(nm.size:Int)]++fb nm++bf l)] [.cells 55 3 [.map 1, .sl 2 0 s.F.length,SV.i s.cnt], .fam Z ⟨a9 s.L,[],none⟩,bY s.F] (fun r O=>∃ U,r=SV.bA []/\O= [some (.cells 55 3 [.map 1, .sl 2 0 s.F.length,SV.i s.cnt]),some (.fam U ⟨a9 (s.L.set j (gA l x)),[],none⟩),some (bY s.F)]):=by
 have D:=gU nm (by omega)
 have V:([(nm.size:Int)]++fb nm++bf l).length=1+nm.size+(bf l).length:=(by simp[bN];omega)
 have W:=I.c
 have X:(bf l).length<=100000:=(by have :=kO l;omega)
 refine start 60 3 Tryd.func38 rfl rfl rfl rfl ?_
 refine ai<|r1<|sT 11 3 1 rfl<|sO 12 11 2 rfl<|e1 19 rfl<|ab [0,1,2,12] rfl ?_
 refine q1 rfl (fun b=>?_) (fun b=>?_)
 exact absurd b (by decide)
 try simp only[cs,ne_eq]at b
 refine ak<|tn<|r1<|sT 21 19 1 rfl ?_
 refine sV 22 27 2 rfl ⟨by omega,by omega⟩ ?_
 refine sO 23 35 3 rfl ?_
 refine val 23 (.d (.val (.int .u8 nm.size))) rfl rfl ?_
 refine sT 24 43 4 rfl ?_
 refine val 24 (SV.i nm.size) rfl (congrArg SV.i (dP ⟨by omega,by omega⟩)) ?_
 refine de 25 51 5 rfl ?_
 refine val 25 (SV.i (1+nm.size:Nat)) rfl (congrArg SV.i (by omega)) ?_
 refine sT 6 59 6 rfl<|e1 67 rfl<|ab [0,1,2,6] rfl ?_
 refine jC 1 j rfl (dQ E) rfl rfl (fun Z1=>?_)
 refine kD rfl ?_
 refine dT 26 75 1 rfl<|dT 27 83 2 rfl<|dT 28 91 3 rfl<|dO 29 99 4 rfl<|dT 30 107 5 rfl<|dT 31 115 6 rfl ?_
 refine Fi (cI (fb nm)) 32 123 7 rfl rfl rfl rfl rfl rfl ⟨by omega,by omega,by omega⟩ (fun M ρ z h=>Aj nm (bf l) h (by omega)) ?_
 refine HW (BJ (fb nm)) 33 131 8 rfl rfl rfl rfl rfl rfl Tryd.underlying26 rfl Tryd.underlying9 rfl (by simp[BJ,bN]) (uR D) ?_
 refine val 33 (.d (.val (.string nm))) rfl (by rw[uS]) ?_
 refine gu (some j) (.ptr 67 0 0) (J▸KN nm s.L) (.inr ⟨j,rfl,List.mem_singleton.2 rfl⟩) 34 139 9 rfl rfl rfl rfl rfl rfl Tryd.underlying53 rfl (fun M ρ u h=>h.val) rfl rfl ?_
 refine dT 35 147 10 rfl<|dT 36 155 11 rfl ?_
 refine Fi (cI (bf l)) 37 163 12 rfl rfl rfl rfl rfl rfl ⟨by omega,by omega,by omega⟩ (fun M ρ z h=>Ak nm (bf l) h (by omega) (by omega)) ?_
 refine dT 7 171 13 rfl<|dT 8 179 14 rfl<|iT 187 rfl (by kernel_rfl)<|ab [1,7,8] rfl<|ai<|r1<|sT 38 187 1 rfl<|sO 39 195 2 rfl<|e1 203 rfl<|ab [7,8,39] rfl ?_
 refine q1 rfl (fun e=>?_) (fun e=>?_)
 exact absurd e (by decide)
 try simp only[cs,ne_eq]at e
 refine ak<|tn<|r1<|sT 46 203 1 rfl ?_
 refine cQ (fQ (bf l) (jP l hl)) [] 47 211 2 rfl rfl rfl rfl rfl rfl rfl Tryd.func7 rfl rfl rfl trivial ?_
 rintro _ _ (⟨_,rfl,rfl⟩|⟨v,_,_⟩)
 rotate_left
 ·exact absurd k.1 v
 refine val 47 (.bA [.sl 211 0 (cO (bf l)).length,SV.i 0]) rfl rfl ?_
 refine kg 211 _ rfl (dw (cO (bf l))) rfl ?_
 refine sT 45 219 3 rfl<|sT 48 227 4 rfl<|sT 49 235 5 rfl<|sT 9 243 6 rfl<|sT 10 251 7 rfl<|e1 259 rfl<|ab [7,9] rfl ?_
 refine freeze 9 211 (cO (bf l)).length rfl rfl (Nat.le_refl _) ?_
 refine cB 9 (jD l) rfl (by rw[k.2];rfl) ?_
 refine Kt ?_
 refine sT 50 259 1 rfl<|sT 51 267 2 rfl<|sT 52 275 3 rfl<|sT 53 283 4 rfl<|sO 54 291 5 rfl<|sT 55 299 6 rfl<|sT 56 307 7 rfl ?_
 refine sV 57 315 8 rfl ⟨Nat.le_refl _,trivial,(by show(_+1)*24<=140737488355328;omega),(by simp only[maxLen];omega)⟩ ?_
 refine sT 58 323 9 rfl<|sT 59 331 10 rfl<|cJ 339 11 rfl rfl rfl rfl rfl<|e1 347 rfl ?_
 refine Hv 315 (x.ch++ [l]).length (qR (x.ch++ [l])) rfl (by simp) (fun i c Y hc=>yq rfl i c Y hc) ?_
 refine CN 67 (.cells 100 2 [.sl 315 0 (x.ch++ [l]).length, .sl 69 0 x.op.length]) rfl (congrArg (fun n=>aB.cells 100 2 [.sl 315 0 n, .sl 69 0 x.op.length]) (show x.ch.length+1=(x.ch++ [l]).length by simp)) ?_
 refine Er 1 j [67,315,69] (.ptr 0 0 0) (jh (gA l x)) rfl (dQ E) rfl ⟨rfl,rfl,rfl,trivial⟩ rfl (fun B=>?_)
 refine CN 1 (.fam B ⟨a9 (s.L.set j (gA l x)),[],none⟩) rfl (congrArg (fun l=>aB.fam B ⟨l,[],none⟩) (ib s.L j (gA l x))) ?_
 refine wn ?_
 exact oa (π:= [0,1,2]) (ae:= [some (.cells 55 3 [.map 1, .sl 2 0 s.F.length,SV.i s.cnt]),some (.fam B ⟨a9 (s.L.set j (gA l x)),[],none⟩),some (bY s.F)]) Tryd.results38 rfl rfl ⟨rfl,rfl,rfl,trivial⟩ ⟨B,rfl,rfl⟩
theorem HZ{Z:List Nat}(s:eI)(nm:ByteArray)(I:nm.size<=8)(b:Int)(e:aj b){j:Nat}{x:Ln}(E:eG x)(J:bj nm s.L=some j)(G:s.L[j]? =some x):Spec Tryd.prog GF 38 [.ptr 0 0 0, .d (.val (.int .u8 3)),cI ([(nm.size:Int)]++fb nm++bR 8 (cY b))] [.cells 55 3 [.map 1, .sl 2 0 s.F.length,SV.i s.cnt], .fam Z ⟨a9 s.L,[],none⟩,bY s.F] (fun r O=>∃ U,r=SV.bA []/\O= [some (.cells 55 3 [.map 1, .sl 2 0 s.F.length,SV.i s.cnt]),some (.fam U ⟨a9 (s.L.set j (iA b x)),[],none⟩),some (bY s.F)]):=by
 have D:=gU nm (by omega)
 have V:([(nm.size:Int)]++fb nm++bR 8 (cY b)).length=1+nm.size+(bR 8 (cY b)).length:=(by simp[bN];omega)
 have W:=E.c
 have X:(bR 8 (cY b)).length<=100000:=(by unfold bR;rw[dF];omega)
 refine start 60 3 Tryd.func38 rfl rfl rfl rfl ?_
 refine ai<|r1<|sT 11 3 1 rfl<|sO 12 11 2 rfl<|e1 19 rfl<|ab [0,1,2,12] rfl ?_
 refine q1 rfl (fun k=>?_) (fun k=>?_)
 exact absurd k (by decide)
 try simp only[cs,ne_eq]at k
 refine ak<|tn<|r1<|sT 21 19 1 rfl ?_
 refine sV 22 27 2 rfl ⟨by omega,by omega⟩ ?_
 refine sO 23 35 3 rfl ?_
 refine val 23 (.d (.val (.int .u8 nm.size))) rfl rfl ?_
 refine sT 24 43 4 rfl ?_
 refine val 24 (SV.i nm.size) rfl (congrArg SV.i (dP ⟨by omega,by omega⟩)) ?_
 refine de 25 51 5 rfl ?_
 refine val 25 (SV.i (1+nm.size:Nat)) rfl (congrArg SV.i (by omega)) ?_
 refine sT 6 59 6 rfl<|e1 67 rfl<|ab [0,1,2,6] rfl ?_
 refine jC 1 j rfl (dQ G) rfl rfl (fun Y=>?_)
 refine kD rfl ?_
 refine dT 26 75 1 rfl<|dT 27 83 2 rfl<|dT 28 91 3 rfl<|dO 29 99 4 rfl<|dT 30 107 5 rfl<|dT 31 115 6 rfl ?_
 refine Fi (cI (fb nm)) 32 123 7 rfl rfl rfl rfl rfl rfl ⟨by omega,by omega,by omega⟩ (fun M ρ z h=>Aj nm (bR 8 (cY b)) h (by omega)) ?_
 refine HW (BJ (fb nm)) 33 131 8 rfl rfl rfl rfl rfl rfl Tryd.underlying26 rfl Tryd.underlying9 rfl (by simp[BJ,bN]) (uR D) ?_
 refine val 33 (.d (.val (.string nm))) rfl (by rw[uS]) ?_
 refine gu (some j) (.ptr 67 0 0) (J▸KN nm s.L) (.inr ⟨j,rfl,List.mem_singleton.2 rfl⟩) 34 139 9 rfl rfl rfl rfl rfl rfl Tryd.underlying53 rfl (fun M ρ u h=>h.val) rfl rfl ?_
 refine dT 35 147 10 rfl<|dT 36 155 11 rfl ?_
 refine Fi (cI (bR 8 (cY b))) 37 163 12 rfl rfl rfl rfl rfl rfl ⟨by omega,by omega,by omega⟩ (fun M ρ z h=>Ak nm (bR 8 (cY b)) h (by omega) (by omega)) ?_
 refine dT 7 171 13 rfl<|dT 8 179 14 rfl<|iT 187 rfl (by kernel_rfl)<|ab [1,7,8] rfl<|ai<|r1<|sT 38 187 1 rfl<|sO 39 195 2 rfl<|e1 203 rfl<|ab [7,8,39] rfl ?_
 refine q1 rfl (fun v=>?_) (fun v=>?_)
 try simp only[cs,ne_eq]at v
 refine r1<|sT 40 203 1 rfl<|sT 41 211 2 rfl ?_
 refine c1 (IY (bR 8 (cY b)) (mr 8 _ (by omega)) (by unfold bR;rw[dF];omega)) [] [] 42 219 3 rfl rfl rfl rfl rfl rfl rfl rfl Tryd.func26 rfl rfl rfl rfl trivial rfl rfl ?_
 refine sO 43 227 4 rfl ?_
 refine val 43 (SV.i b) rfl (congrArg SV.i (by rw[zP b (by unfold aj at e;omega) (by unfold aj at e;omega)];exact zQ (by unfold aj at e;omega) (by unfold aj at e;omega))) ?_
 refine c1 (wR x.ch x.op E.ok b) [67,68,69] [67,68,69,235] 44 235 5 rfl rfl rfl rfl rfl rfl rfl rfl Tryd.func41 rfl rfl rfl rfl ⟨rfl,rfl,rfl,trivial⟩ rfl rfl ?_
 refine e1 243 rfl<|ab [] rfl ?_
 refine iu 1 j [67,235,69] (.ptr 0 0 0) (jh (iA b x)) rfl (dQ G) rfl ⟨rfl,rfl,rfl,trivial⟩ rfl (fun B=>?_)
 refine bW 1 (.fam B ⟨a9 (s.L.set j (iA b x)),[],none⟩) rfl (congrArg (fun l=>aB.fam B ⟨l,[],none⟩) (ib s.L j (iA b x))) ?_
 refine ao<|tr ?_
 exact oa (π:= [0,1,2]) (ae:= [some (.cells 55 3 [.map 1, .sl 2 0 s.F.length,SV.i s.cnt]),some (.fam B ⟨a9 (s.L.set j (iA b x)),[],none⟩),some (bY s.F)]) Tryd.results38 rfl rfl ⟨rfl,rfl,rfl,trivial⟩ ⟨B,rfl,rfl⟩
 exact absurd v (by decide)
def Gm(L:List Ln)(e:Ev):Prop:=e.nm.size<=8/\
 ((e.k=1/\bj e.nm L=none)\/(e.k=2/\e.l.length<=120/\Rt e.l/\∃ j x,bj e.nm L=some j/\L[j]? =some x/\eG x)\/(e.k=3/\aj e.kp/\∃ j x,bj e.nm L=some j/\L[j]? =some x/\eG x))
def aH(E:List Ev):List Ln:=E.foldl da []
theorem nK{E:List Ev}{i:Nat}(h:i<E.length):aH (E.take (i+1))=da (aH (E.take i)) (E.getD i default):=by
 unfold aH
 rw[eY h,List.foldl_append,getD_eq h];rfl
theorem uT{L:List Ln}{nm:ByteArray}{f:Ln->Ln}{j:Nat}{x:Ln}(h:bj nm L=some j)(b:L[j]? =some x):Ai L nm f=L.set j (f x):=by
 unfold Ai
 rw[h]
 show L.set j (f (L.getD j default))=_
 rw[List.getD_eq_getElem?_getD,b];rfl
theorem Gn{bs:List Ev}{i:Nat}(h:i<bs.length):(bs.map aY).getD i []=aY (bs.getD i default):=by
 simp[List.getD,h]
theorem kZ(e:Ev):(aY e).length=1+(nJ e).length:=by unfold aY;simp;omega
theorem yV(e:Ev):(aY e).drop 1=nJ e:=rfl
theorem BK{Z:List Nat}(s:eI)(e:Ev)(h:Gm s.L e):Spec Tryd.prog GF 38 [.ptr 0 0 0, .d (.val (.int .u8 (e.k:Nat))),cI (nJ e)] [.cells 55 3 [.map 1, .sl 2 0 s.F.length,SV.i s.cnt], .fam Z ⟨a9 s.L,[],none⟩,bY s.F] (fun r J=>∃ O,r=SV.bA []/\J= [some (.cells 55 3 [.map 1, .sl 2 0 s.F.length,SV.i s.cnt]),some (.fam O ⟨a9 (da s.L e),[],none⟩),some (bY s.F)]):=by
 obtain⟨k,nm,l,D⟩:=e
 obtain⟨b,h⟩:=h
 rcases h with⟨rfl,v⟩|⟨rfl,hl,E,j,x,v,B,G⟩|⟨rfl,I,j,x,v,B,G⟩
 ·exact HX s nm b v
 ·have e1:da s.L ⟨2,nm,l,D⟩=s.L.set j (gA l x):=uT v B
  rw[e1]
  exact HY s nm b l hl E G v B
 ·have e1:da s.L ⟨3,nm,l,D⟩=s.L.set j (iA D x):=uT v B
  rw[e1]
  exact HZ s nm b D I G v B
theorem Et{Z:List Nat}(X:Int)(s:eI)(hb:Bytes s.F)(hF:s.F.length<=900000)(u:Nat)(hu:(u:Int)=min (max 0 X) s.F.length)(q:wC)(hq:opened (s.F.take u)=q)(bs:List Ev)(e:q.L=bs.map aY)(aa:bs.length<=200)(F2:List Int)(hn:(F2.length:Int)=q.n)(E:F2.length<=u)(G:s.F.take F2.length=F2)(I:∀ i,i<bs.length->Gm (aH (bs.take i)) (bs.getD i default)):Spec Tryd.prog GF 24 [.ptr 0 0 0,SV.i X] [.cells 55 3 [.map 1, .sl 2 0 s.F.length,SV.i s.cnt], .fam Z ⟨a9 s.L,[],none⟩,bY s.F] (fun r ho=>∃ B,r=SV.bA []/\ho= [some (.cells 55 3 [.map 3, .sl 4 0 (eI.mk (aH bs) F2 bs.length).F.length,SV.i (eI.mk (aH bs) F2 bs.length).cnt]),none,none,some (.fam B ⟨a9 (eI.mk (aH bs) F2 bs.length).L,[],none⟩),some (bY (eI.mk (aH bs) F2 bs.length).F)]):=by
 have D:u<=s.F.length:=(by omega)
 have J:q.L.length=bs.length:=(by rw[e,List.length_map])
 have ah:(s.F.take u).length=u:=(by rw[List.length_take];omega)
 have O:(s.F.take u).take F2.length=F2:=(by rw[List.take_take,Nat.min_eq_left E];exact G)
 refine start 53 3 Tryd.func24 rfl rfl rfl rfl ?_
 refine kD rfl ?_
 refine dT 10 3 1 rfl<|dT 11 11 2 rfl<|dT 12 19 3 rfl<|dO 13 27 4 rfl<|dT 14 35 5 rfl<|dO 15 43 6 rfl<|dT 16 51 7 rfl<|dT 17 59 8 rfl<|dT 18 67 9 rfl<|dO 19 75 10 rfl<|dO 20 83 11 rfl<|dO 21 91 12 rfl ?_
 refine val 21 (SV.i (u:Nat)) rfl (congrArg SV.i (by omega)) ?_
 refine dV 22 99 13 rfl ⟨by omega,by omega,by omega,by omega⟩ ?_
 refine val 22 (.sl 2 0 u) rfl (by simp) ?_
 refine dT 4 107 14 rfl<|iT 115 rfl (by kernel_rfl)<|ab [0,4] rfl ?_
 refine freeze 4 2 u rfl rfl D ?_
 refine GX 4 (cI (s.F.take u)) rfl (fun M ρ v h=>qM rfl D h) ?_
 refine r1<|sT 24 115 1 rfl ?_
 refine c1 (sG (s.F.take u) (jI hb u) q hq) [] [] 25 123 2 rfl rfl rfl rfl rfl rfl rfl rfl Tryd.func6 rfl rfl rfl rfl trivial rfl rfl ?_
 refine sT 23 131 3 rfl<|sT 26 139 4 rfl<|sT 27 147 5 rfl<|sT 28 155 6 rfl<|sT 5 163 7 rfl<|sT 6 171 8 rfl<|sT 7 179 9 rfl<|e1 187 rfl<|ab [0,4,5,6] rfl<|r1<|sT 29 187 1 rfl<|sT 30 195 2 rfl<|sT 31 203 3 rfl<|sT 32 211 4 rfl ?_
 refine GY (cI F2) 33 219 5 rfl rfl rfl rfl rfl rfl ⟨by omega,by omega,by omega⟩ (fun M ρ z h=>by have :=qM (l:=s.F.take u) (n:=F2.length) (by omega) (by omega) h;rwa[O]at this) ?_
 refine c1 (qO F2 (by omega)) [] [227] 34 227 6 rfl rfl rfl rfl rfl rfl rfl rfl Tryd.func28 rfl rfl rfl rfl trivial rfl rfl ?_
 refine sT 35 235 7 rfl<|sO 36 243 8 rfl<|sT 37 251 9 rfl<|sT 38 259 10 rfl<|cJ 267 11 rfl rfl rfl rfl rfl<|e1 275 rfl<|ab [0,5] rfl ?_
 refine tofam 195 rfl ?_
 refine bW 0 (.cells 55 3 [.map 195, .sl 227 0 F2.length,SV.i bs.length]) rfl (by rw[J];rfl) ?_
 refine r1<|sT 39 275 1 rfl<|sO 40 283 2 rfl<|sT 41 291 3 rfl<|e1 299 rfl<|ab [0,39,40,41] rfl<|au ?_
 refine loop (α:=Nat×(List Nat)) 5 (fun z=> [(0, .ptr 0 0 0),(39,ou q.L),(40,SV.i q.L.length),(41,SV.i (z.1))]) (fun z=> [some (.cells 55 3 [.map 3, .sl 4 0 F2.length,SV.i bs.length]),none,none,some (.fam (z.2) ⟨a9 (aH (bs.take (z.1))),[],none⟩),some (bY F2)]) (fun z=>(z.1)<=bs.length) (fun z=>bs.length-(z.1)) (((0,[]):Nat×(List Nat))) [0,1,2,195,227] (fun _=>rfl) (show(0)<=bs.length from(Nat.zero_le _)) rfl ⟨rfl,rfl,rfl,rfl,trivial⟩ ⟨rfl,rfl,rfl,trivial⟩ (fun z Y=>?_)
 obtain⟨i,U⟩:=z
 show W _ _ _ ⟨dG [(0, .ptr 0 0 0),(39,ou q.L),(40,SV.i q.L.length),(41,SV.i i)],dC [some (.cells 55 3 [.map 3, .sl 4 0 F2.length,SV.i bs.length]),none,none,some (.fam U ⟨a9 (aH (bs.take i)),[],none⟩),some (bY F2)],5⟩
 have Y:i<=bs.length:=Y
 refine r1<|sO 42 5 1 rfl<|e1 13 rfl<|ab [0,39,40,41,42] rfl<|ai ?_
 refine q1 rfl (fun b=>?_) (fun b=>?_)
 try simp only[cs,ne_eq]at b
 refine ak<|tn<|ai<|au<|r1 ?_
 refine sV 43 13 1 rfl ⟨by omega,by omega⟩ ?_
 refine sV 44 21 2 rfl (by simp only[Int.toNat_natCast];omega) ?_
 refine val 44 (cI (aY (bs.getD i default))) rfl (by simp only[Int.toNat_natCast];rw[e,Gn (by omega)];rfl) ?_
 refine sT 9 29 3 rfl<|e1 37 rfl<|ab [0,9,39,40,41] rfl ?_
 refine I9 6 rfl rfl (by kernel_rfl) rfl ?_
 refine dT 45 37 1 rfl<|dT 46 45 2 rfl ?_
 refine dV 47 53 3 rfl ⟨by omega,by rw[kZ];omega⟩ ?_
 refine dV 48 61 4 rfl (by rw[kZ];simp;omega) ?_
 refine val 48 (.d (.val (.int .u8 ((bs.getD i default).k:Nat)))) rfl rfl ?_
 refine dT 49 69 5 rfl ?_
 refine Fi (cI (nJ (bs.getD i default))) 50 77 6 rfl rfl rfl rfl rfl rfl ⟨by omega,by rw[kZ];omega,by omega⟩ (fun M ρ z h=>by have :=yk (l:=aY (bs.getD i default)) (a:=1) (by omega) h;rwa[yV]at this) ?_
 refine iT 85 rfl (by kernel_rfl) ?_
 refine cQ (BK (eI.mk (aH (bs.take i)) F2 bs.length) (bs.getD i default) (I i (by omega))) [0,3,4] 51 85 7 rfl rfl rfl rfl rfl rfl rfl Tryd.func38 rfl rfl rfl ⟨rfl,rfl,rfl,trivial⟩ ?_
 rintro _ _ ⟨B,rfl,rfl⟩
 refine val 51 (.bA []) rfl rfl ?_
 refine kg 3 _ rfl (.fam B ⟨a9 (aH (bs.take (i+1))),[],none⟩) (congrArg (fun l=>aB.fam B ⟨a9 l,[],none⟩) (nK (by omega)).symm) ?_
 refine e1 93 rfl<|bn<|tn ?_
 refine r0 ?_
 refine de 52 93 1 rfl<|sT 41 101 2 rfl<|e1 109 rfl<|tn ?_
 exact again (((i+1,B):Nat×(List Nat))) [0,1,2,3,4] (show(i+1)<=bs.length from(by omega)) (show bs.length-(i+1)<bs.length-i from(by omega)) rfl ⟨rfl,rfl,rfl,rfl,trivial⟩ ⟨rfl,rfl,rfl,trivial⟩
 try simp only[cs,ne_eq]at b
 refine bI<|tx<|tx<|bx ?_
 have V:i=bs.length:=(by omega)
 subst V
 exact oa (π:= [0,1,2,3,4]) (ae:= [some (.cells 55 3 [.map 3, .sl 4 0 (eI.mk (aH bs) F2 bs.length).F.length,SV.i (eI.mk (aH bs) F2 bs.length).cnt]),none,none,some (.fam U ⟨a9 (eI.mk (aH bs) F2 bs.length).L,[],none⟩),some (bY (eI.mk (aH bs) F2 bs.length).F)]) Tryd.results24 rfl rfl ⟨rfl,(by rw[List.take_length];rfl),rfl,trivial⟩ ⟨U,rfl,rfl⟩
end Go.Proofs.YtifcaekngfgdmaaDoor.Nice
namespace Go.Proofs.YtifcaekngfgdmaaDoor.Nice
open Go Co
def aA(E:List Ev):List Int:=(E.map fun e=>bg (aY e)).flatten
theorem jQ(E:List Ev)(e:Ev):aA (E++ [e])=aA E++bg (aY e):=by simp[aA]
def r8(E:List Ev)(i:Nat):Int:=((aA (E.take (i+1))).length:Int)
structure H0 (e:Ev):Prop where
 nm:e.nm.size<=8
 l:e.l.length<=120
 k:e.k=1\/e.k=2\/e.k=3
theorem yW{e:Ev}(h:H0 e):Bytes (nJ e)/\(nJ e).length<=3990:=by
 have B:=gU e.nm (by have :=h.nm;omega)
 have G:=bN e.nm
 have J:=h.nm
 have O:=kO e.l
 have I:=h.l
 have U:(bR 8 (cY e.kp)).length=8:=by unfold bR;rw[dF]
 have b:Bytes [(e.nm.size:Int)]:=gg (by simp) fun x D=>by simp at D;subst D;omega
 have v:Bytes ([(e.nm.size:Int)]++fb e.nm):=dJ b B (by simp[bN];omega)
 unfold nJ
 by_cases e1:e.k=1
 ·rw[if_pos e1];exact⟨B,by omega⟩
 ·rw[if_neg e1]
  by_cases E:e.k=2
  ·rw[if_pos E];exact⟨dJ v (jP _ I) (by simp[bN];omega),by simp[bN];omega⟩
  ·rw[if_neg E];exact⟨dJ v (mr 8 _ (by omega)) (by simp[bN];omega),by simp[bN];omega⟩
theorem jR{e:Ev}(h:H0 e):Bytes (aY e)/\(aY e).length<=4000:=by
 obtain⟨v,B⟩:=yW h
 have D:=h.k
 refine⟨dJ (gg (by simp) fun x b=>?_) v (by simp;omega),by rw[kZ];omega⟩
 simp at b;subst b;omega
theorem Ja(nm:ByteArray):aY ⟨1,nm,[],0⟩= [1]++fb nm:=rfl
theorem Jb(nm:ByteArray)(l:List aR):aY ⟨2,nm,l,0⟩=aV 2 nm++bf l:=by
 show[(2:Int)]++([(nm.size:Int)]++fb nm++bf l)=_
 unfold aV;simp
theorem Jc(nm:ByteArray)(b:Int):aY ⟨3,nm,[],b⟩=aV 3 nm++bR 8 (cY b):=by
 show[(3:Int)]++([(nm.size:Int)]++fb nm++bR 8 (cY b))=_
 unfold aV;simp
def Gp(nm:ByteArray):Ln:=⟨nm,[],[]⟩
theorem Jd{a b:Int}{s:aR}(e:a<=s.t)(k:s.t<b):dK a b s=true:=by
 unfold dK;rw[decide_eq_false (by omega),decide_eq_false (by omega)];rfl
theorem oN(A B:List Ev):aA (A++B)=aA A++aA B:=by simp[aA]
theorem yX(E:List Ev)(m:Nat):(aA E).take (aA (E.take m)).length=aA (E.take m):=by
 have h:=oN (E.take m) (E.drop m)
 rw[List.take_append_drop]at h
 rw[h,List.take_left]
theorem rn(E:List Ev)(m:Nat):(aA (E.take m)).length<=(aA E).length:=by
 have h:=oN (E.take m) (E.drop m)
 rw[List.take_append_drop]at h
 rw[h,List.length_append];omega
def Je(L:List Ln)(e:Ev):Prop:=
 (∃ nm,e=⟨1,nm,[],0⟩/\nm.size<=8/\bj nm L=none)\/
 (∃ nm l j x,e=⟨2,nm,l,0⟩/\nm.size<=8/\l.length<=8/\aE l=0/\bj nm L=some j/\L[j]? =some x/\eG x/\x.op= [])\/
 (∃ nm b j x,e=⟨3,nm,[],b⟩/\nm.size<=8/\aj b/\bj nm L=some j/\L[j]? =some x/\eG x)
theorem Al{L:List Ln}{nm:ByteArray}:da L ⟨1,nm,[],0⟩=L++ [Gp nm]:=rfl
theorem Gq{L:List Ln}{nm:ByteArray}{l:List aR}{j:Nat}{x:Ln}(b:bj nm L=some j)(e:L[j]? =some x)(k:x.op= []):da L ⟨2,nm,l,0⟩=L.set j (xh l x):=by
 have h:da L ⟨2,nm,l,0⟩=L.set j (gA l x):=uT b e
 rw[h];unfold gA xh;rw[k]
theorem Gr{L:List Ln}{nm:ByteArray}{b:Int}{j:Nat}{x:Ln}(e:bj nm L=some j)(k:L[j]? =some x):da L ⟨3,nm,[],b⟩=L.set j (iA b x):=uT e k
theorem Eu{L:List Int}(b:bt L)(j r:Nat)(I:r<8):aX L j/2^(7-r)%2=L.getD (8*j+r) 0:=by
 have J:=b.getD (8*j);have O:=b.getD (8*j+1);have U:=b.getD (8*j+2);have V:=b.getD (8*j+3)
 have W:=b.getD (8*j+4);have X:=b.getD (8*j+5);have Y:=b.getD (8*j+6);have h7:=b.getD (8*j+7)
 have e:(2:Int)^7=128:=by decide
 have k:(2:Int)^6=64:=by decide
 have v:(2:Int)^5=32:=by decide
 have B:(2:Int)^4=16:=by decide
 have D:(2:Int)^3=8:=by decide
 have E:(2:Int)^2=4:=by decide
 have e1:(2:Int)^1=2:=by decide
 have G:(2:Int)^0=1:=by decide
 unfold aX
 rcases(show r=0\/r=1\/r=2\/r=3\/r=4\/r=5\/r=6\/r=7 by omega)with rfl|rfl|rfl|rfl|rfl|rfl|rfl|rfl
 ·show _/2^7%2=_;rw[e];show _=L.getD (8*j) 0;omega
 ·show _/2^6%2=_;rw[k];omega
 ·show _/2^5%2=_;rw[v];omega
 ·show _/2^4%2=_;rw[B];omega
 ·show _/2^3%2=_;rw[D];omega
 ·show _/2^2%2=_;rw[E];omega
 ·show _/2^1%2=_;rw[e1];omega
 ·show _/2^0%2=_;rw[G];omega
theorem xi{l:List Int}{n:Nat}:∀ w,bL l n w=0↔∀ i,i<w->b5 l (n+i)=0
 |0=>⟨fun _ i h=>by omega,fun _=>rfl⟩
 |w+1=>by
  have B:=(jG l n w).1
  have D:=iy l (n+w)
  have k:=xi (l:=l) (n:=n) w
  constructor
  ·intro h i v
   have h':2*bL l n w+b5 l (n+w)=0:=h
   by_cases e:i=w
   ·subst e;omega
   ·exact k.1 (by omega) i (by omega)
  ·intro h
   have a:=k.2 fun i v=>h i (by omega)
   have b:=h w (by omega)
   show 2*bL l n w+b5 l (n+w)=0
   omega
theorem BL(L:List Int)(j:Nat)(h:j<(pack L).length):(pack L).getD j 0=aX L j:=by
 rw[cf]at h
 have :=nd L j
 rw[if_pos (by omega)]at this
 simp[List.getD,this]
theorem rp{L:List Int}(b:bt L)(i:Nat)(h:i<8*(pack L).length):b5 (pack L) i=L.getD i 0:=by
 unfold b5
 rw[BL L _ (by omega),Eu b _ _ (by omega)]
 congr 1;omega
def At(L:List Int)(n:Nat)(B:List Int):Prop:=∃ A R,L=A++B++R/\A.length=n
theorem At.len{L B:List Int}{n:Nat}(h:At L n B):n+B.length<=L.length:=by
 obtain⟨A,R,rfl,rfl⟩:=h;simp
theorem At.get{L B:List Int}{n:Nat}(h:At L n B){i:Nat}(b:i<B.length):L.getD (n+i) 0=B.getD i 0:=by
 obtain⟨A,R,rfl,rfl⟩:=h
 simp only[List.getD]
 rw[List.append_assoc,List.getElem?_append_right (by omega),show A.length+i-A.length=i by omega,List.getElem?_append_left b]
theorem At.left{L B C:List Int}{n:Nat}(h:At L n (B++C)):At L n B:=by
 obtain⟨A,R,rfl,rfl⟩:=h
 exact⟨A,C++R,by simp,rfl⟩
theorem At.right{L B C:List Int}{n:Nat}(h:At L n (B++C)):At L (n+B.length) C:=by
 obtain⟨A,R,rfl,rfl⟩:=h
 exact⟨A++B,R,by simp,by simp⟩
theorem jj(L:List Int):L.length<=8*(pack L).length/\8*(pack L).length<L.length+8:=by rw[cf];omega
theorem Ew{L:List Int}(b:bt L){n w:Nat}{x:Int}(h:At L n (bitsOf w x))(e:0<=x)(v:x<2^w):bL (pack L) n w=x:=by
 have hl:=h.len
 rw[bd]at hl
 have D:=(jj L).1
 have key:∀ k,k<=w->bL (pack L) n k=x/2^(w-k):=by
  intro k
  induction k with
  |zero=>intro _;rw[Nat.sub_zero,Int.ediv_eq_zero_of_lt e v];rfl
  |succ k ih=>
   intro E
   have B:b5 (pack L) (n+k)=x/2^(w-1-k)%2:=by
    rw[rp b _ (by omega),h.get (by rw[bd];omega)]
    simp only[List.getD]
    rw[mg w k x (by omega)];rfl
   show 2*bL (pack L) n k+b5 (pack L) (n+k)=_
   rw[ih (by omega),B,show w-k=(w-1-k)+1 by omega,Int.pow_succ,<-Int.ediv_ediv_of_nonneg (Int.le_of_lt (Int.pow_pos (by decide))),show w-(k+1)=w-1-k by omega]
   generalize x/2^(w-1-k)=y
   omega
 have :=key w (Nat.le_refl _)
 rw[Nat.sub_self,Int.pow_zero,Int.ediv_one]at this
 exact this
theorem Ex(v:Int):lK (cq v)=v:=by
 unfold lK cq
 by_cases h:v<0
 ·rw[if_pos h,if_pos (by omega)];omega
 ·rw[if_neg h,if_neg (by omega)];omega
theorem H3(x:Int):cls x<=4:=by
 unfold cls
 repeat' split
 all_goals omega
theorem H4{x:Int}(k:0<=x)(e:x<576460752303423488):x<2^fB (cls x):=by
 unfold cls
 by_cases a:x=0
 ·rw[if_pos a];subst a;decide
 ·rw[if_neg a]
  by_cases b:x<64
  ·rw[if_pos b];exact b
  ·rw[if_neg b]
   by_cases c:x<4096
   ·rw[if_pos c];exact c
   ·rw[if_neg c]
    by_cases d:x<16777216
    ·rw[if_pos d];exact d
    ·rw[if_neg d];exact e
theorem Gs{v:Int}(h:kh v):0<=cq v/\cq v<576460752303423488:=by
 obtain⟨a,b⟩:=h
 unfold cq
 split <;>omega
theorem H5{L B:List Int}(b:bt L){n:Nat}(h:At L n B){i:Nat}(e:i<B.length):b5 (pack L) (n+i)=B.getD i 0:=by
 have :=h.len
 have k:=(jj L).1
 rw[rp b _ (by omega),h.get e]
theorem H6{L:List Int}(B:bt L){n q:Nat}(D:q<=4)(h:At L n (bitsOf (um q) (Ci q))):cL (pack L) 4 n 0=(true,q,n+um q):=by
 have hl:=h.len
 rw[bd]at hl
 have E:=(jj L).1
 have b:=fun i=>H5 B h (i:=i)
 match q,D with
 |0,_=>
  have b0:b5 (pack L) n=0:=b 0 (by decide)
  have hl':n+1<=L.length:=hl
  simp only[cL]
  rw[if_neg (by omega),if_pos b0];rfl
 |1,_=>
  have b0:b5 (pack L) n=1:=b 0 (by decide)
  have e:b5 (pack L) (n+1)=0:=b 1 (by decide)
  have hl':n+2<=L.length:=hl
  simp only[cL]
  rw[if_neg (by omega),if_neg (by omega),if_neg (by omega),if_pos e];rfl
 |2,_=>
  have b0:b5 (pack L) n=1:=b 0 (by decide)
  have e:b5 (pack L) (n+1)=1:=b 1 (by decide)
  have k:b5 (pack L) (n+1+1)=0:=b 2 (by decide)
  have hl':n+3<=L.length:=hl
  simp only[cL]
  rw[if_neg (by omega),if_neg (by omega),if_neg (by omega),if_neg (by omega),if_neg (by omega),if_pos k];rfl
 |3,_=>
  have b0:b5 (pack L) n=1:=b 0 (by decide)
  have e:b5 (pack L) (n+1)=1:=b 1 (by decide)
  have k:b5 (pack L) (n+1+1)=1:=b 2 (by decide)
  have v:b5 (pack L) (n+1+1+1)=0:=b 3 (by decide)
  have hl':n+4<=L.length:=hl
  simp only[cL]
  rw[if_neg (by omega),if_neg (by omega),if_neg (by omega),if_neg (by omega),if_neg (by omega),if_neg (by omega),if_neg (by omega),if_pos v];rfl
 |4,_=>
  have b0:b5 (pack L) n=1:=b 0 (by decide)
  have e:b5 (pack L) (n+1)=1:=b 1 (by decide)
  have k:b5 (pack L) (n+1+1)=1:=b 2 (by decide)
  have v:b5 (pack L) (n+1+1+1)=1:=b 3 (by decide)
  have hl':n+4<=L.length:=hl
  simp only[cL]
  rw[if_neg (by omega),if_neg (by omega),if_neg (by omega),if_neg (by omega),if_neg (by omega),if_neg (by omega),if_neg (by omega),if_neg (by omega)];rfl
theorem Ey{L:List Int}(k:bt L){n:Nat}{v:Int}(D:kh v)(h:At L n (e9 v)):bk (pack L) n=⟨v,n+(e9 v).length,0⟩:=by
 have b:=Gs D
 unfold e9 at h
 have E:=H6 k (H3 _) h.left
 have e:=h.right
 rw[bd]at e
 have B:=Ew k e b.1 (H4 b.1 b.2)
 have hl:=e.len
 rw[bd]at hl
 have G:=(jj L).1
 rw[ux E (by omega) (by rw[B]),B,Ex]
 have :(e9 v).length=um (cls (cq v))+fB (cls (cq v)):=by unfold e9;rw[List.length_append,bd,bd]
 rw[this,Nat.add_assoc]
theorem rq(l:List aR)(k:Nat):∀ n,k<=n->∃ R,cv l n=cv l k++R
 |0,h=>by
  obtain rfl:k=0:=by omega
  exact⟨[],by simp⟩
 |n+1,h=>by
  rcases Nat.lt_or_ge n k with b|b
  ·obtain rfl:k=n+1:=by omega
   exact⟨[],by simp⟩
  ·obtain⟨R,e⟩:=rq l k n b
   refine⟨R++e9 (cT (aT l n) (l.getD n default))++e9 (cV (aT l n) (l.getD n default)),?_⟩
   show gI (gI (cv l n) _) _=_
   rw[pS,pS,e];simp
theorem xk(a:wu)(s:aR):aS a (cT a s) (cV a s)=s:=by
 obtain⟨t,v⟩:=s
 unfold aS cT cV
 by_cases h:a.n=0
 ·rw[if_pos h,if_pos h,if_pos h]
 ·rw[if_neg h,if_neg h,if_neg h]
  simp only[aR.mk.injEq];constructor<;>omega
theorem te(l:List aR)(m:Nat):∀ k,k<=m->aT (l.take m) k=aT l k
 |0,_=>rfl
 |k+1,h=>by
  show Bg (aT (l.take m) k) ((l.take m).getD k default)=Bg (aT l k) (l.getD k default)
  rw[te l m k (by omega)]
  have :(l.take m).getD k default=l.getD k default:=by simp only[List.getD];rw[List.getElem?_take,if_pos (by omega)]
  rw[this]
theorem Ez{l:List aR}(G:aN l l.length=0)(hl:l.length<=120):∀ k,k<=l.length->dg (bf l) k=⟨l.take k,(cv l k).length,0⟩
 |0,_=>rfl
 |k+1,J=>by
  have U:=Ez G hl k (by omega)
  have Y:=g8 G (show k<l.length by omega)
  have B:kh (cT (aT l k) (l.getD k default))/\kh (cV (aT l k) (l.getD k default)):=by
   have hm:=Gc G hl
   refine⟨hm _ ?_,hm _ ?_⟩<;>
   ·unfold HT nE
    exact List.mem_flatMap.2 ⟨k,List.mem_range.2 (by omega),by simp⟩
  obtain⟨R,V⟩:=rq l (k+1) l.length J
  have O:cv l (k+1)=cv l k++e9 (cT (aT l k) (l.getD k default))++e9 (cV (aT l k) (l.getD k default)):=by
   show gI (gI (cv l k) _) _=_
   rw[pS,pS]
  have D:At (cv l l.length) (cv l k).length (e9 (cT (aT l k) (l.getD k default))++e9 (cV (aT l k) (l.getD k default))):=⟨cv l k,R,by rw[V,O];simp,rfl⟩
  have W:=Ey (fL l l.length) B.1 D.left
  have X:=Ey (fL l l.length) B.2 D.right
  have b:bk (bf l) (cv l k).length=_:=W
  have v:bk (bf l) ((cv l k).length+(e9 (cT (aT l k) (l.getD k default))).length)=_:=X
  have I:=(gJ (jE J G)).2
  have E:aT (l.take k) k=aT l k:=te l k k (Nat.le_refl _)
  have hd:=yI U (by rw[b]) (by rw[b];show(bk (bf l) ((cv l k).length+_)).e=0;rw[v]) (by
   rw[b];show bC _ (aS _ _ (bk (bf l) ((cv l k).length+_)).x)=0;rw[v,E];show bC _ (aS _ _ _)=0;rw[xk];exact I)
  rw[hd,b]
  show Ed.mk (_++ [aS _ _ (bk (bf l) ((cv l k).length+_)).x]) (bk (bf l) ((cv l k).length+_)).at' 0=_
  rw[v,E]
  show Ed.mk (_++ [aS _ (cT _ _) (cV _ _)]) _ 0=_
  rw[xk,O]
  congr 1
  ·rw[List.take_add_one];simp[List.getD,List.getElem?_eq_getElem (show k<l.length by omega)]
  ·simp;omega
theorem fS{l:List aR}(G:aE l=0):Rt l:=by
 obtain⟨hl,I⟩:=jg G
 have k:=fL l l.length
 have J:=jj (cv l l.length)
 obtain⟨R,v⟩:=rq l 0 l.length (Nat.zero_le _)
 have B:cv l 0=bitsOf 8 l.length:=rfl
 have hlen:8<=(cv l l.length).length:=by rw[v,B,List.length_append,bd];omega
 have D:bL (bf l) 0 8=l.length:=Ew k (x:=(l.length:Int)) ⟨[],R,by rw[v,B];rfl,rfl⟩ (by omega) (by show(l.length:Int)<256;omega)
 have b:iI (bf l)=l.length:=by unfold iI;rw[D];omega
 have hd:=Ez I hl l.length (Nat.le_refl _)
 rw[List.take_length]at hd
 have e:(bf l).length=(pack (cv l l.length)).length:=rfl
 refine⟨?_,by unfold cO;rw[b,hd]⟩
 unfold bT
 rw[if_neg (by omega),if_neg (by rw[D];omega),b,hd,if_neg (by simp),if_pos]
 refine⟨(xi _).2 fun i E=>?_,?_⟩
 ·show b5 (pack (cv l l.length)) _=0
  rw[rp k _ (by show(cv l l.length).length+i<_;rw[e]at E;simp only[]at E;omega)]
  simp only[List.getD]
  rw[List.getElem?_eq_none (by simp)];rfl
 ·show 8*(bf l).length-(cv l l.length).length<8
  omega
theorem mG{E:List Ev}{i:Nat}(h:i<E.length):aA (E.take (i+1))=aA (E.take i)++bg (aY (E.getD i default)):=by
 rw[eY h,jQ,getD_eq h]
theorem nL(E:List Ev)(i:Nat):r8 E i=((aA (E.take (i+1))).length:Int):=rfl
theorem nM{E:List Ev}{i:Nat}(h:i<E.length):(aA (E.take (i+1))).length=(aA (E.take i)).length+(6+(aY (E.getD i default)).length):=by
 rw[mG h,List.length_append,fv]
theorem ru(E:List Ev){i j:Nat}(h:i<=j):(aA (E.take i)).length<=(aA (E.take j)).length:=by
 have :=rn (E.take j) i
 rwa[List.take_take,Nat.min_eq_left h]at this
theorem H7(E:List Ev)(k:Int):∃ m,m<=E.length/\(∀ i,i<m->r8 E i<=k)/\(∀ i,m<=i->i<E.length->k<r8 E i):=by
 have key:∀ n,n<=E.length->∃ m,m<=n/\(∀ i,i<m->r8 E i<=k)/\(∀ i,m<=i->i<n->k<r8 E i):=by
  intro n
  induction n with
  |zero=>intro _;exact⟨0,Nat.le_refl _,fun i v=>by omega,fun i _ v=>by omega⟩
  |succ n D=>
   intro J
   by_cases h:r8 E n<=k
   ·refine⟨n+1,Nat.le_refl _,fun i v=>?_,fun i G B=>by omega⟩
    have :r8 E i<=r8 E n:=by
     have :=ru E (show i+1<=n+1 by omega)
     rw[nL,nL];omega
    omega
   ·obtain⟨m,G,B,I⟩:=D (by omega)
    refine⟨m,by omega,B,fun i a b=>?_⟩
    by_cases e:i=n
    ·subst e;omega
    ·exact I i a (by omega)
 exact key E.length (Nat.le_refl _)
theorem Gt{b:List Int}(v:b.length<=4000)(R:List Int):dU (bg b++R)=⟨0,b⟩:=by
 have B:=Dh b
 have k:gK (bg b++R)=b.length:=by
  show((0*256+(b.length:Int)/256%256)*256+(b.length:Int)%256).toNat=_
  omega
 have e:jJ (bg b++R)=b:=by
  unfold jJ;rw[k]
  show(b++R).take b.length=b
  exact List.take_left
 have hl:(bg b++R).length=6+b.length+R.length:=by rw[List.length_append,fv]
 rw[zK (by omega) (by omega) (by omega),e]
 rw[e]
 show rV b=(((0*256+rV b/16777216%256)*256+rV b/65536%256)*256+rV b/256%256)*256+rV b%256
 omega
theorem Gu{b:List Int}(k:b.length<=4000)(R:List Int){v:Nat}(B:v<6+b.length):(dU ((bg b++R).take v)).e≠0:=by
 have hl:(bg b++R).length=6+b.length+R.length:=by rw[List.length_append,fv]
 have hl2:((bg b++R).take v).length=v:=by rw[List.length_take];omega
 by_cases D:v<6
 ·rw[sF (by omega)];show ¬ (5:Int)=0;decide
 ·have E:gK ((bg b++R).take v)=b.length:=by
   unfold gK
   rw[List.take_take,Nat.min_eq_left (by omega)]
   show((0*256+(b.length:Int)/256%256)*256+(b.length:Int)%256).toNat=_
   omega
  rw[qN (by omega) (by omega) (by omega)];show ¬ (5:Int)=0;decide
theorem Am{E:List Ev}{i:Nat}(h:i<E.length):(aA E).drop (aA (E.take i)).length=bg (aY (E.getD i default))++aA (E.drop (i+1)):=by
 have b:aA E=aA (E.take i)++(bg (aY (E.getD i default))++aA (E.drop (i+1))):=by
  rw[<-List.append_assoc,<-mG h,<-oN,List.take_append_drop]
 have e:(aA E).drop (aA (E.take i)).length=(aA (E.take i)++(bg (aY (E.getD i default))++aA (E.drop (i+1)))).drop (aA (E.take i)).length:=by rw[<-b]
 rw[e,List.drop_left]
theorem rz{E:List Ev}(U:E.length<=200)(G:∀ i,i<E.length->(aY (E.getD i default)).length<=4000){u m:Nat}(hm:m<=E.length)(V:u<=(aA E).length)(I:(aA (E.take m)).length<=u)(J:m<E.length->u<(aA (E.take (m+1))).length):
  (opened ((aA E).take u)).L=(E.take m).map aY/\(opened ((aA E).take u)).n=(aA (E.take m)).length:=by
 have B:((aA E).take u).length=u:=by rw[List.length_take];omega
 have key:∀ i,i<=m->opened ((aA E).take u)=opn ((aA E).take u) (201-i) (aA (E.take i)).length ((E.take i).map aY):=by
  intro i
  induction i with
  |zero=>intro _;rfl
  |succ i ih=>
   intro W
   have k:=nM (E:=E) (i:=i) (by omega)
   have O:=ru E (show i+1<=m by omega)
   have hd:((aA E).take u).drop (aA (E.take i)).length=bg (aY (E.getD i default))++(aA (E.drop (i+1))).take (u-(aA (E.take i)).length-(bg (aY (E.getD i default))).length):=by
    rw[List.drop_take,Am (by omega),List.take_append]
    rw[List.take_of_length_le (by rw[fv];omega)]
   have e:=Gt (G i (by omega)) ((aA (E.drop (i+1))).take (u-(aA (E.take i)).length-(bg (aY (E.getD i default))).length))
   rw[<-hd]at e
   have hl:((E.take i).map aY).length=i:=by rw[List.length_map,List.length_take];omega
   rw[ih (by omega),Dn (by omega) (by rw[B];omega) (by omega) (by rw[e]),e]
   rw[show 201-i-1=201-(i+1) by omega,<-k]
   congr 1
   rw[eY (by omega),List.map_append,getD_eq (by omega)];rfl
 rw[key m (Nat.le_refl _)]
 by_cases D:u=(aA (E.take m)).length
 ·rw[zL (by rw[B];omega)];exact⟨rfl,rfl⟩
 ·have b:m<E.length:=by
   rcases Nat.lt_or_ge m E.length with h|h
   ·exact h
   ·rw[List.take_of_length_le h]at I D;omega
  have X:=J b
  have k:=nM b
  have hd:((aA E).take u).drop (aA (E.take m)).length=(bg (aY (E.getD m default))++aA (E.drop (m+1))).take (u-(aA (E.take m)).length):=by
   rw[List.drop_take,Am b]
  have e:=Gu (G m b) (aA (E.drop (m+1))) (v:=u-(aA (E.take m)).length) (by omega)
  rw[<-hd]at e
  have hl:((E.take m).map aY).length=m:=by rw[List.length_map,List.length_take];omega
  rw[zM (by omega) (by rw[B];omega) (by omega) rfl e];exact⟨rfl,rfl⟩
structure EA (L:List Ln):Prop where
 n:L.length<=6
 ln:∀ x,x∈L->eG x
structure Good (E:List Ev):Prop where
 n:E.length<=200
 l:∀ i,i<=E.length->EA (aH (E.take i))
 e:∀ i,i<E.length->Je (aH (E.take i)) (E.getD i default)
def strip(x:Ln):Ln:=⟨x.nm,x.ch,[]⟩
structure vi (L:List Ln) (E:List Ev):Prop where
 g:Good E
 s:L.map strip=aH E
 ln:∀ x,x∈L->eG x
theorem Good.take{E:List Ev}(h:Good E)(m:Nat):Good (E.take m):=by
 have hl:(E.take m).length=min m E.length:=List.length_take
 refine⟨by have :=h.n;omega,fun i b=>?_,fun i b=>?_⟩
 ·rw[List.take_take];exact h.l _ (by omega)
 ·rw[List.take_take,Nat.min_eq_left (by omega)]
  have :(E.take m).getD i default=E.getD i default:=by simp only[List.getD];rw[List.getElem?_take,if_pos (by omega)]
  rw[this];exact h.e i (by omega)
theorem gQ(E:List Ev)(e:Ev):aH (E++ [e])=da (aH E) e:=by unfold aH;rw[List.foldl_append];rfl
theorem Good.snoc{E:List Ev}(h:Good E)(B:E.length<200){e:Ev}(v:Je (aH E) e)(hl:EA (da (aH E) e)):Good (E++ [e]):=by
 refine⟨by rw[List.length_append];simp;omega,fun i k=>?_,fun i k=>?_⟩
 ·by_cases b:i<=E.length
  ·rw[List.take_append_of_le_length b];exact h.l i b
  ·rw[List.take_of_length_le (by rw[List.length_append]at *;simp at *;omega),gQ];exact hl
 ·rw[List.length_append]at k
  simp at k
  rw[List.take_append_of_le_length (by omega)]
  by_cases b:i<E.length
  ·have :(E++ [e]).getD i default=E.getD i default:=by simp only[List.getD];rw[List.getElem?_append_left b]
   rw[this];exact h.e i b
  ·obtain rfl:i=E.length:=by omega
   rw[show(E++ [e]).getD E.length default=e by simp[List.getD],List.take_length];exact v
theorem Good.nil:Good []:=⟨by simp,fun i b=>by simp[aH];exact⟨by simp,fun x e=>by simp at e⟩,fun i b=>by simp at b⟩
theorem vi.nil:vi [] []:=⟨Good.nil,rfl,fun x b=>by simp at b⟩
theorem EB{L:List Ln}{nm:ByteArray}{f:Ln->Ln}(e:∀ x,x∈L->x.op= [])(B:∀ x,(f x).op=x.op):∀ x,x∈Ai L nm f->x.op= []:=by
 intro x b
 unfold Ai at b
 cases k:bj nm L with
 |none=>rw[k]at b;exact e x b
 |some j=>
  rw[k]at b
  obtain⟨y,v,_⟩:=fe k
  rcases List.mem_or_eq_of_mem_set b with h|h
  ·exact e x h
  ·rw[h,B]
   have :L.getD j default=y:=by simp[List.getD,v]
   rw[this];exact e y (List.mem_of_getElem? v)
theorem oO(E:List Ev):∀ x,x∈aH E->x.op= []:=by
 have key:∀ (E:List Ev) (L:List Ln),(∀ x,x∈L->x.op= [])->∀ x,x∈E.foldl da L->x.op= []:=by
  intro E
  induction E with
  |nil=>intro L b;exact b
  |cons e E ih=>
   intro L b
   refine ih _ ?_
   unfold da
   split
   ·intro x k
    rcases List.mem_append.1 k with h|h
    ·exact b x h
    ·rw[List.mem_singleton.1 h]
   ·split
    ·exact EB b fun x=>rfl
    ·exact EB b fun x=>rfl
 exact key E [] (fun x k=>by simp at k)
theorem yY{L:List Ln}(h:∀ x,x∈L->x.op= []):L.map strip=L:=by
 have :∀ x,x∈L->strip x=x:=fun x e=>by
  have :=h x e
  obtain⟨a,b,c⟩:=x
  have :c= []:=this
  subst this;rfl
 calc L.map strip=L.map id:=List.map_congr_left this
  _=L:=List.map_id L
theorem rB(nm:ByteArray):∀ L:List Ln,bj nm (L.map strip)=bj nm L
 | []=>rfl
 |x::r=>by
  show(if nm=(strip x).nm then some 0 else(bj nm (r.map strip)).map (· +1))=_
  rw[rB nm r];rfl
theorem vi.len{L:List Ln}{E:List Ev}(h:vi L E):L.length<=6:=by
 have b:=(h.g.l E.length (Nat.le_refl _)).n
 rw[List.take_length,<-h.s,List.length_map]at b
 exact b
theorem vi.idx{L:List Ln}{E:List Ev}(h:vi L E)(nm:ByteArray):bj nm (aH E)=bj nm L:=by rw[<-h.s,rB]
theorem vi.at{L:List Ln}{E:List Ev}(h:vi L E){j:Nat}{x:Ln}(b:L[j]? =some x):(aH E)[j]? =some (strip x):=by rw[<-h.s,List.getElem?_map,b];rfl
theorem Good.ev{E:List Ev}(h:Good E){i:Nat}(v:i<E.length):(E.getD i default).nm.size<=8/\(E.getD i default).l.length<=8/\H0 (E.getD i default):=by
 rcases h.e i v with⟨nm,k,b,_⟩|⟨nm,l,j,x,k,b,hl,_⟩|⟨nm,B,j,x,k,b,_⟩
 ·rw[k];exact⟨b,by show(0:Nat)<=8;decide,b,by show(0:Nat)<=120;decide, .inl rfl⟩
 ·rw[k];exact⟨b,hl,b,by show l.length<=120;omega, .inr (.inl rfl)⟩
 ·rw[k];exact⟨b,by show(0:Nat)<=8;decide,b,by show(0:Nat)<=120;decide, .inr (.inr rfl)⟩
theorem EC{e:Ev}(k:e.nm.size<=8)(v:e.l.length<=8):(aY e).length<=300:=by
 have b:=bN e.nm
 have B:=kO e.l
 have D:(bR 8 (cY e.kp)).length=8:=by unfold bR;rw[dF]
 rw[kZ]
 unfold nJ
 split
 ·omega
 ·split
  ·simp[b];omega
  ·simp[b];omega
theorem Good.file{E:List Ev}(h:Good E):∀ i,i<=E.length->(aA (E.take i)).length<=306*i/\Bytes (aA (E.take i))
 |0,_=>⟨by simp[aA],by simp only[List.take_zero,aA];exact gg (by simp) (fun x b=>by simp at b)⟩
 |i+1,I=>by
  obtain⟨J,e⟩:=h.file i (by omega)
  obtain⟨e1,k,v⟩:=h.ev (i:=i) (by omega)
  have B:=jR v
  have O:=EC e1 k
  have U:=h.n
  have D:=nM (E:=E) (i:=i) (by omega)
  refine⟨by omega,?_⟩
  rw[mG (by omega)]
  have G:Bytes (bg (aY (E.getD i default))):=by
   unfold bg
   refine dJ (gg (by simp[Dq]) fun x b=>?_) B.1 (by show 6+_<=_;omega)
   simp only[Dq,List.mem_cons,List.mem_nil_iff,or_false]at b
   omega
  exact dJ e G (by rw[fv];omega)
theorem Good.An{E:List Ev}(h:Good E):(aA E).length<=62000/\Bytes (aA E):=by
 have :=h.file E.length (Nat.le_refl _)
 rw[List.take_length]at this
 have b:=h.n
 exact⟨by omega,this.2⟩
theorem Ao{l:List aR}{s:aR}(h:aE l=0)(G:l.length<120)(e:cK s.t/\cK s.v)(k:0<l.length->lastT l<s.t):aE (l++ [s])=0:=by
 have B:=(jg h).2
 unfold aE
 rw[if_neg (by simp;omega),List.length_append,List.length_singleton,jO l s B]
 unfold bC
 rw[if_pos e,if_neg]
 rintro⟨D,E⟩
 rw[qH]at D
 have b:0<l.length:=by omega
 have :=k b
 rw[(yj l b).1]at E
 unfold lastT at this
 omega
theorem ED{ch:List (List aR)}{op:List aR}(h:0<op.length):lastT (bJ ch op)=lastT op:=by
 unfold lastT bJ
 rw[List.length_append]
 simp only[List.getD]
 rw[List.getElem?_append_right (by omega),show ch.flatten.length+op.length-1-ch.flatten.length=op.length-1 by omega]
theorem fy{L:List Ln}{j:Nat}{x:Ln}(h:L[j]? =some x):L.set j x=L:=by
 obtain⟨b,e⟩:=List.getElem?_eq_some_iff.1 h
 rw[<-e,List.set_getElem_self]
theorem jS{L:List Ln}{j:Nat}{y:Ln}(b:∀ x,x∈L->eG x)(e:eG y):∀ x,x∈L.set j y->eG x:=by
 intro x k
 rcases List.mem_or_eq_of_mem_set k with h|h
 ·exact b x h
 ·rw[h];exact e
inductive dt (d:Dd) (L:List Ln) (E:List Ev):Fd->List Ln->List Ev->Prop
 |kind (h:d.k<1\/7<d.k):dt d L E (eC 3) L E
 |xm (hk:d.k=1) (h:dq d.nm=false):dt d L E (eC 4) L E
 |rC (hk:d.k=1) (h:dq d.nm=true) (j:Nat) (hi:bj d.nm L=some j):dt d L E (eC 7) L E
 |xp (hk:d.k=1) (h:dq d.nm=true) (hi:bj d.nm L=none) (hf:L.length=6\/E.length=200):dt d L E (eC 8) L E
 |BM (hk:d.k=1) (h:dq d.nm=true) (hi:bj d.nm L=none) (h6: ¬ L.length=6) (h2: ¬ E.length=200):dt d L E (eC 0) (L++ [Gp d.nm]) (E++ [⟨1,d.nm,[],0⟩])
 |BN (hk:d.k=7) (m:Nat) (h1:m<=E.length) (h2:∀ i,i<m->r8 E i<=d.kp) (h3:∀ i,m<=i->i<E.length->d.kp<r8 E i):dt d L E (eC 0) (aH (E.take m)) (E.take m)
 |gone (hk:2<=d.k/\d.k<=6) (hi:bj d.nm L=none):dt d L E (eC 6) L E
 |over (hk:d.k=2) (j:Nat) (x:Ln) (hi:bj d.nm L=some j) (hj:L[j]? =some x) (hx:x.nm=d.nm) (hb: ¬ (cK d.s.t/\cK d.s.v)):dt d L E (eC 11) L E
 |old (hk:d.k=2) (j:Nat) (x:Ln) (hi:bj d.nm L=some j) (hj:L[j]? =some x) (hx:x.nm=d.nm) (hb:cK d.s.t/\cK d.s.v) (h0:0<(bJ x.ch x.op).length) (ho:d.s.t<=lastT (bJ x.ch x.op)):dt d L E (eC 9) L E
 |plain (hk:d.k=2) (j:Nat) (x:Ln) (hi:bj d.nm L=some j) (hj:L[j]? =some x) (hx:x.nm=d.nm) (hb:cK d.s.t/\cK d.s.v) (hn: ¬ (0<(bJ x.ch x.op).length/\d.s.t<=lastT (bJ x.ch x.op))) (h8: ¬ 8<=x.op.length):dt d L E (pv x.ch.length) (L.set j ⟨x.nm,x.ch,x.op++ [d.s]⟩) E
 |xq (hk:d.k=2) (j:Nat) (x:Ln) (hi:bj d.nm L=some j) (hj:L[j]? =some x) (hx:x.nm=d.nm) (hb:cK d.s.t/\cK d.s.v) (hn: ¬ (0<(bJ x.ch x.op).length/\d.s.t<=lastT (bJ x.ch x.op))) (h8:8<=x.op.length) (hf:30<=x.ch.length\/200<=E.length):dt d L E (eC 8) L E
 |tf (hk:d.k=2) (j:Nat) (x:Ln) (hi:bj d.nm L=some j) (hj:L[j]? =some x) (hx:x.nm=d.nm) (hb:cK d.s.t/\cK d.s.v) (hn: ¬ (0<(bJ x.ch x.op).length/\d.s.t<=lastT (bJ x.ch x.op))) (h8:8<=x.op.length) (J0: ¬ 30<=x.ch.length) (h2: ¬ 200<=E.length):dt d L E (pv (x.ch++ [x.op]).length) (L.set j ⟨x.nm,x.ch++ [x.op],[d.s]⟩) (E++ [⟨2,x.nm,x.op,0⟩])
 |EE (hk:d.k=6) (j:Nat) (x:Ln) (hi:bj d.nm L=some j) (hj:L[j]? =some x) (hx:x.nm=d.nm) (h0:x.op.length=0):dt d L E (pv x.ch.length) L E
 |xr (hk:d.k=6) (j:Nat) (x:Ln) (hi:bj d.nm L=some j) (hj:L[j]? =some x) (hx:x.nm=d.nm) (h0: ¬ x.op.length=0) (hf:30<=x.ch.length\/200<=E.length):dt d L E (eC 8) L E
 |BO (hk:d.k=6) (j:Nat) (x:Ln) (hi:bj d.nm L=some j) (hj:L[j]? =some x) (hx:x.nm=d.nm) (h0: ¬ x.op.length=0) (J0: ¬ 30<=x.ch.length) (h2: ¬ 200<=E.length):dt d L E (pv (x.ch++ [x.op]).length) (L.set j (xh x.op x)) (E++ [⟨2,x.nm,x.op,0⟩])
 |xt (hk:d.k=5) (j:Nat) (x:Ln) (hi:bj d.nm L=some j) (hj:L[j]? =some x) (hx:x.nm=d.nm) (hf:200<=E.length):dt d L E (eC 8) L E
 |BP (hk:d.k=5) (j:Nat) (x:Ln) (hi:bj d.nm L=some j) (hj:L[j]? =some x) (hx:x.nm=d.nm) (hf: ¬ 200<=E.length):dt d L E (pv (x.ch.filter (aO d.kp)).length) (L.set j (iA d.kp x)) (E++ [⟨3,d.nm,[],d.kp⟩])
 |range (hk:d.k=3) (j:Nat) (x:Ln) (hi:bj d.nm L=some j) (hj:L[j]? =some x) (hx:x.nm=d.nm):dt d L E ⟨0,(bJ x.ch x.op).filter (dK d.fr d.to),rk,0⟩ L E
 |total (hk:d.k=4) (j:Nat) (x:Ln) (hi:bj d.nm L=some j) (hj:L[j]? =some x) (hx:x.nm=d.nm):dt d L E ⟨0,[],nH ((bJ x.ch x.op).filter (dK d.fr d.to)),0⟩ L E
theorem Ap(d:Dd)(L:List Ln)(E:List Ev):∃ q:Fd×List Ln×List Ev,dt d L E q.1 q.2.1 q.2.2:=by
 by_cases Y:d.k<1\/7<d.k
 ·exact⟨(_,_,_), .kind Y⟩
 by_cases U:d.k=1
 ·cases J:dq d.nm with
  |false=>exact⟨(_,_,_), .xm U J⟩
  |true=>
   cases B:bj d.nm L with
   |some j=>exact⟨(_,_,_), .rC U J j B⟩
   |none=>
    by_cases D:L.length=6\/E.length=200
    ·exact⟨(_,_,_), .xp U J B D⟩
    ·exact⟨(_,_,_), .BM U J B (fun e=>D (.inl e)) (fun e=>D (.inr e))⟩
 by_cases h7:d.k=7
 ·obtain⟨m,a,b,c⟩:=H7 E d.kp
  exact⟨(_,_,_), .BN h7 m a b c⟩
 cases B:bj d.nm L with
 |none=>exact⟨(_,_,_), .gone (by omega) B⟩
 |some j=>
  obtain⟨x,G,I⟩:=fe B
  have V:d.k=2\/d.k=3\/d.k=4\/d.k=5\/d.k=6:=by omega
  rcases V with h|h|h|h|h
  ·by_cases O:cK d.s.t/\cK d.s.v
   ·by_cases J:0<(bJ x.ch x.op).length/\d.s.t<=lastT (bJ x.ch x.op)
    ·exact⟨(_,_,_), .old h j x B G I O J.1 J.2⟩
    ·by_cases W:8<=x.op.length
     ·by_cases D:30<=x.ch.length\/200<=E.length
      ·exact⟨(_,_,_), .xq h j x B G I O J W D⟩
      ·exact⟨(_,_,_), .tf h j x B G I O J W (fun e=>D (.inl e)) (fun e=>D (.inr e))⟩
     ·exact⟨(_,_,_), .plain h j x B G I O J W⟩
   ·exact⟨(_,_,_), .over h j x B G I O⟩
  ·exact⟨(_,_,_), .range h j x B G I⟩
  ·exact⟨(_,_,_), .total h j x B G I⟩
  ·by_cases D:200<=E.length
   ·exact⟨(_,_,_), .xt h j x B G I D⟩
   ·exact⟨(_,_,_), .BP h j x B G I D⟩
  ·by_cases X:x.op.length=0
   ·exact⟨(_,_,_), .EE h j x B G I X⟩
   ·by_cases D:30<=x.ch.length\/200<=E.length
    ·exact⟨(_,_,_), .xr h j x B G I X D⟩
    ·exact⟨(_,_,_), .BO h j x B G I X (fun e=>D (.inl e)) (fun e=>D (.inr e))⟩
theorem oP{L:List Ln}{j:Nat}{y:Ln}:(L.set j y).map strip=(L.map strip).set j (strip y):=List.map_set ..
theorem EA.set{L:List Ln}{j:Nat}{y:Ln}(h:EA L)(b:eG y):EA (L.set j y):=⟨by rw[List.length_set];exact h.n,jS h.ln b⟩
theorem rD{x:Ln}(h:eG x):eG (strip x):=⟨h.nm,h.c,h.ne,by show(0:Nat)<=8;decide,rfl⟩
theorem Aq{x:Ln}(h:eG x)(B: ¬ x.op.length=0)(e: ¬ 30<=x.ch.length){op:List aR}(k:op.length<=8)(v:aE op=0):eG ⟨x.nm,x.ch++ [x.op],op⟩:=by
 have D:=h.o
 refine⟨h.nm,by show(x.ch++ [x.op]).length<=30;rw[List.length_append];simp;omega,fun c b=>?_,k,v⟩
 rcases List.mem_append.1 b with b|b
 ·exact h.ne c b
 ·rw[List.mem_singleton.1 b];exact⟨by omega,h.o,h.so⟩
theorem Ar{x:Ln}(h:eG x)(b:Int):eG (iA b x):=
 ⟨h.nm,Nat.le_trans (List.length_filter_le _ _) h.c,fun c e=>h.ne c (List.mem_filter.1 e).1,h.o,h.so⟩
theorem tg{L:List Ln}{E:List Ev}(h:vi L E){d:Dd}{j:Nat}{x:Ln}(J:bj d.nm L=some j)(D:L[j]? =some x)(O:x.nm=d.nm)(G: ¬ x.op.length=0)(e: ¬ 30<=x.ch.length)(X: ¬ 200<=E.length){op:List aR}(U:op.length<=8)(V:aE op=0):
  vi (L.set j ⟨x.nm,x.ch++ [x.op],op⟩) (E++ [⟨2,x.nm,x.op,0⟩]):=by
 have b:=h.ln x (List.mem_of_getElem? D)
 have k:bj x.nm (aH E)=some j:=by rw[h.idx,O];exact J
 have v:=h.at D
 have I:da (aH E) ⟨2,x.nm,x.op,0⟩=(aH E).set j (xh x.op (strip x)):=Gq k v rfl
 have W:EA (aH E):=by have :=h.g.l E.length (Nat.le_refl _);rwa[List.take_length]at this
 have B:eG (xh x.op (strip x)):=by
  have :=Aq b G e (op:= []) (by show(0:Nat)<=8;decide) rfl
  exact this
 refine⟨h.g.snoc (by omega) (.inr (.inl ⟨x.nm,x.op,j,strip x,rfl,b.nm,b.o,b.so,k,v,rD b,rfl⟩)) ?_,?_,jS h.ln (Aq b G e U V)⟩
 ·rw[I];exact W.set B
 ·rw[gQ,I,oP,h.s];rfl
theorem Gw{d:Dd}{L:List Ln}{E:List Ev}(h:vi L E)(hd:mF d){f:Fd}{L2:List Ln}{E2:List Ev}(hs:dt d L E f L2 E2):vi L2 E2:=by
 have hE:EA (aH E):=by have :=h.g.l E.length (Nat.le_refl _);rwa[List.take_length]at this
 have ah:=h.g.n
 have al:=h.len
 cases hs with
 |kind|xm|rC|xp|gone|over|old|xq|EE|xr|xt|range|total=>exact h
 |BM U X I h6 V=>
  have W:=ox X
  have D:bj d.nm (aH E)=none:=by rw[h.idx];exact I
  have J:eG (Gp d.nm):=⟨W.2,by show(0:Nat)<=30;decide,fun c hc=>by simp[Gp]at hc,by show(0:Nat)<=8;decide,rfl⟩
  refine⟨h.g.snoc (by omega) (.inl ⟨d.nm,rfl,W.2,D⟩) ?_,?_,fun x k=>?_⟩
  ·rw[Al,<-h.s]
   refine⟨by rw[List.length_append,List.length_map];simp;omega,fun x k=>?_⟩
   rcases List.mem_append.1 k with k|k
   ·rw[h.s]at k;exact hE.ln x k
   ·rw[List.mem_singleton.1 k];exact J
  ·rw[gQ,Al,List.map_append,h.s];rfl
  ·rcases List.mem_append.1 k with k|k
   ·exact h.ln x k
   ·rw[List.mem_singleton.1 k];exact J
 |BN U m h1 V h3=>
  have hg:=h.g.take m
  exact⟨hg,yY (oO _),(h.g.l m h1).ln⟩
 |plain U j x I G k Y X h8=>
  have v:=h.ln x (List.mem_of_getElem? G)
  have aa:aE (x.op++ [d.s])=0:=Ao v.so (by omega) Y fun h0=>by
   rw[<-ED (ch:=x.ch) h0]
   rcases Int.lt_or_le (lastT (bJ x.ch x.op)) d.s.t with h|h
   ·exact h
   ·exact absurd ⟨by unfold bJ;rw[List.length_append];omega,h⟩ X
  refine⟨h.g,?_,jS h.ln ⟨v.nm,v.c,v.ne,by show(x.op++ [d.s]).length<=8;rw[List.length_append];simp;omega,aa⟩⟩
  rw[oP,h.s]
  have B:=h.at G
  have e:=List.getElem?_eq_some_iff.1 B
  obtain⟨a,b⟩:=e
  show(aH E).set j (strip x)=_
  exact fy B
 |tf U j x I G k Y X h8 O V=>
  exact tg h I G k (by omega) O V (by show(1:Nat)<=8;decide) (by
   have :=Ao (l:= []) (s:=d.s) rfl (by decide) Y (fun h=>by simp at h)
   exact this)
 |BO U j x I G k h0 O V=>exact tg h I G k h0 O V (by show(0:Nat)<=8;decide) rfl
 |BP U j x I G k hf=>
  have v:=h.ln x (List.mem_of_getElem? G)
  have D:bj d.nm (aH E)=some j:=by rw[h.idx];exact I
  have B:=h.at G
  have hr:da (aH E) ⟨3,d.nm,[],d.kp⟩=(aH E).set j (iA d.kp (strip x)):=Gr D B
  refine⟨h.g.snoc (by omega) (.inr (.inr ⟨d.nm,d.kp,j,strip x,rfl,by rw[<-k];exact v.nm,hd.kp,D,B,rD v⟩)) ?_,?_,jS h.ln (Ar v _)⟩
  ·rw[hr];exact hE.set (Ar (rD v) _)
  ·rw[gQ,hr,oP,h.s];rfl
noncomputable def rE(d:Dd)(L:List Ln)(E:List Ev):Fd×List Ln×List Ev:=Classical.choose (Ap d L E)
theorem xu(d:Dd)(L:List Ln)(E:List Ev):dt d L E (rE d L E).1 (rE d L E).2.1 (rE d L E).2.2:=Classical.choose_spec (Ap d L E)
noncomputable def lM(ds:List Dd):Nat->List Fd×List Ln×List Ev
 |0=>([],[],[])
 |n+1=>((lM ds n).1++ [(rE (ds.getD n default) (lM ds n).2.1 (lM ds n).2.2).1],(rE (ds.getD n default) (lM ds n).2.1 (lM ds n).2.2).2.1,(rE (ds.getD n default) (lM ds n).2.1 (lM ds n).2.2).2.2)
theorem As{ds:List Dd}(hd:∀ i,i<ds.length->mF (ds.getD i default)):∀ n,n<=ds.length->vi (lM ds n).2.1 (lM ds n).2.2
 |0,_=>vi.nil
 |n+1,h=>Gw (As hd n (by omega)) (hd n (by omega)) (xu _ _ _)
theorem xv(ds:List Dd):∀ n,(lM ds n).1.length=n
 |0=>rfl
 |n+1=>by show((lM ds n).1++ [_]).length=_;rw[List.length_append,xv ds n];rfl
end Go.Proofs.YtifcaekngfgdmaaDoor.Nice
