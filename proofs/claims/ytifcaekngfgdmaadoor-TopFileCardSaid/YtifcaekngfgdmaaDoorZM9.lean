/- Part 9 of the proof of TopFile. -/
import Derived.Test.YtifcaekngfgdmaaDoorZM8
import Derived.Conc.LeavingOf
import Derived.Conc.WgGenN3
set_option linter.unusedVariables false
set_option linter.unusedSimpArgs false
set_option maxRecDepth 100000
set_option maxHeartbeats 4000000
namespace Go.Proofs.YtifcaekngfgdmaaDoor.Nice.Co
open Go Go.Conc
open Go.ConcR (KK WgAt stA smA mk)
section
variable {p:Pr} {N:Nat} {lo:Nat->Lo} {s s':pg} {i:Nat}
theorem kR.gn{n:Nat}(h:kR n lo s)(U:1<=i){x:Lo}(a:∀ k,lo i≠ .wk k)(b:∀ k,x≠ .wk k)(G:s.cl=true->s'.cl=true):kR n (up lo i x) s':=by
 have B:up lo i x 0=lo 0:=aU lo x (by omega)
 rcases h with⟨J,I,D⟩|⟨O,v⟩
 ·refine .inl ⟨J,by rw[B];exact I,fun k E=>?_⟩
  by_cases e:k+1=i
  ·subst e
   rw[aG,D k E]
   exact⟨fun _=>b k,fun _=>a k⟩
  ·rw[aU lo x e];exact D k E
 ·exact .inr ⟨by rw[B];exact O,G v⟩
theorem Op.gn{n:Nat}(h:Op n lo){x:Lo}(b:x= .wk (i-1)\/x= .told\/x= .out):Op n (up lo i x):=by
 intro j k v
 by_cases e:j=i
 ·subst e;rw[aG];exact b
 ·rw[aU lo x e];exact h j k v
theorem Op.zZ{n:Nat}(h:Op n lo){x:Lo}(k:i=0\/n<i):Op n (up lo i x):=by
 intro j b e
 rw[aU lo x (by omega)];exact h j b e
theorem gw.gn{n:Nat}(h:gw n lo){x:Lo}(k:i=0\/n<i):gw n (up lo i x):=by
 intro j b e
 rw[aU lo x (by omega)];exact h j b e
theorem cz.workers(h:cz p N lo s)(b:i<N)(hl:lo i= .told\/lo i= .l1\/lo i= .l2\/lo i= .l3):1<=i/\i<=p.n/\N=p.n+2/\kR p.n lo s/\Md p.n lo s:=by
 have k:i≠0:=by
  rintro rfl
  rcases h.main with⟨j,q,e⟩|⟨J,e⟩|e<;>rw[e]at hl<;>simp at hl
 cases h with
 |spawn j q FZ h0 hj hw=>rw[hw i (by omega) (by omega)]at hl;simp at hl
 |late FZ hm hw md=>
  refine⟨by omega,?_,FZ,hm,md⟩
  rcases Nat.lt_or_ge p.n i with h|h
  ·obtain rfl:i=p.n+1:=by omega
   rcases md.closer with⟨B,e⟩|⟨B,e⟩|e|e|e<;>rw[e]at hl<;>simp at hl
  ·exact h
theorem cz.closing(h:cz p N lo s)(b:i<N)(hl:(∃ B,lo i= .cw B)\/(∃ B,lo i= .cc B)\/lo i= .cr\/lo i= .cs):i=p.n+1/\N=p.n+2/\kR p.n lo s/\Md p.n lo s:=by
 have k:i≠0:=by
  rintro rfl
  rcases h.main with⟨j,q,e⟩|⟨J,e⟩|e<;>rw[e]at hl<;>simp at hl
 cases h with
 |spawn j q FZ h0 hj hw=>rw[hw i (by omega) (by omega)]at hl;simp at hl
 |late FZ hm hw md=>
  refine⟨?_,FZ,hm,md⟩
  rcases Nat.lt_or_ge p.n i with h|h
  ·omega
  ·rcases hw i (by omega) h with e|e|e|e|e|e<;>rw[e]at hl<;>simp at hl
theorem cz.eA(e:N=p.n+2)(hm:kR p.n lo s)(b:Md p.n lo s):cz p N lo s:= .late e hm b.Kx b
theorem cz.Ky{d:Nat}{es:Array Event}{l l':Lo}(h:cz p N lo s)(hi:i<N)(ht:qU p d l s es l' s')(hl:lo i=l):cz p N (up lo i l') s':=by
 cases ht with
 |mark m _=>rw[<-hl,eR];exact h
 | @add j hj=>
  cases h with
  |spawn j' q O h0 KJ hw V=>
   have e0:i=0:=by
    rcases Nat.eq_zero_or_pos i with e|e
    ·exact e
    ·rw[hw i e (by omega)]at hl;cases hl
   subst e0
   rw[h0]at hl;cases hl
   refine .spawn j true O (aG _ _ _) (by simp;omega) (fun a G I=>by rw[aU _ _ (by omega)];exact hw a G I) rfl
  |late O hm hw U=>
   exfalso
   rcases Nat.eq_zero_or_pos i with e|e
   ·subst e;rcases hm with⟨J,h,_⟩|⟨h,_⟩<;>rw[hl]at h<;>cases h
   ·rcases Nat.lt_or_ge p.n i with al|hle
    ·obtain rfl:i=p.n+1:=by omega
     rcases U.closer with⟨B,e⟩|⟨B,e⟩|e|e|e<;>rw[e]at hl<;>cases hl
    ·rcases hw i e hle with e|e|e|e|e|e<;>rw[e]at hl<;>cases hl
 |zV=>rw[<-hl,eR];exact h
 | @done v wt hd=>
  obtain⟨G,I,O,hm,U⟩:=h.workers hi (.inl hl)
  have X:=yx lo (if v=0/\wt=1 then Lo.l1 else .out) G I
  have ah:(lo i).live=1:=by rw[hl];rfl
  have av:(if v=0/\wt=1 then Lo.l1 else .out).live=0:=by split <;>rfl
  have hm':∀ s',(s'.cl=false)->kR p.n (up lo i (if v=0/\wt=1 then Lo.l1 else .out)) s':=fun s' ax=>hm.gn G (fun k=>by rw[hl];simp) (fun k=>by split <;>simp) (by
   intro h;simp at h)
  have Y:up lo i (if v=0/\wt=1 then Lo.l1 else .out) (p.n+1)=lo (p.n+1):=aU _ _ (by omega)
  refine .eA O (hm' _ rfl) ?_
  cases U with
  |opn B E D hB V=>
   have W:v+1=cnt lo p.n/\wt=0:=by simpa using V
   obtain⟨W,rfl⟩:=W
   simp only[Nat.zero_ne_one,and_false,if_false]at *
   exact .opn B (by rw[Y];exact E) (D.gn (.inr (.inr rfl))) (by omega) (by congr 1;omega)
  |pD B E D hB V=>
   have W:v+1=cnt lo p.n/\wt=0:=by simpa using V
   obtain⟨W,rfl⟩:=W
   simp only[Nat.zero_ne_one,and_false,if_false]at *
   exact .pD B (by rw[Y];exact E) (D.gn (.inr (.inr rfl))) (by omega) (by congr 1;omega)
  |reg E D hB V=>
   have W:v+1=cnt lo p.n/\wt=1:=by simpa using V
   obtain⟨W,rfl⟩:=W
   by_cases e0:v=0
   ·subst e0
    simp only[eq_self,and_self,if_true]at *
    refine .last (by rw[Y];exact E) i G I (.inl ⟨.inl (aG _ _ _),rfl⟩) fun j j1 jn je=>?_
    rw[aU _ _ je]
    have hz:=wV (lo:=up lo i .l1) (m:=p.n) (by have :Lo.l1.live=0:=rfl;omega) j1 jn
    rw[aU _ _ je]at hz
    rcases D j j1 jn with e|e|e
    ·rw[e]at hz;simp[Lo.live]at hz
    ·rw[e]at hz;simp[Lo.live]at hz
    ·exact e
   ·have e1:1<=v:=by omega
    simp only[e0,false_and,if_false]at *
    exact .reg (by rw[Y];exact E) (D.gn (.inr (.inr rfl))) (by omega) (by congr 1;omega)
  |last E L _ _ hL D=>
   by_cases e:i=L
   ·subst e;rw[hl]at hL;simp at hL
   ·have :=D i G I e;rw[hl]at this;cases this
  |sema E D=>have :=D i G I;rw[hl]at this;cases this
  |done E D=>have :=D i G I;rw[hl]at this;cases this
  |shut E D=>have :=D i G I;rw[hl]at this;cases this
 |Jv hd=>
  obtain⟨G,I,O,hm,U⟩:=h.workers hi (.inr (.inl hl))
  refine .eA O (hm.gn G (fun k=>by rw[hl];simp) (fun k=>by simp) (by intro h;simp at h)) ?_
  have Y:up lo i .l2 (p.n+1)=lo (p.n+1):=aU _ _ (by omega)
  cases U with
  |last E L _ _ hL D=>
   obtain rfl:i=L:=Classical.byContradiction fun e=>by have :=D i G I e;rw[hl]at this;cases this
   exact .last (by rw[Y];exact E) i G I (.inl ⟨.inr (aG _ _ _),rfl⟩) fun j a b c=>by rw[aU _ _ c];exact D j a b c
  |opn B E D=>rcases D i G I with e|e|e<;>rw[hl]at e<;>cases e
  |pD B E D=>rcases D i G I with e|e|e<;>rw[hl]at e<;>cases e
  |reg E D=>rcases D i G I with e|e|e<;>rw[hl]at e<;>cases e
  |sema E D=>have :=D i G I;rw[hl]at this;cases this
  |done E D=>have :=D i G I;rw[hl]at this;cases this
  |shut E D=>have :=D i G I;rw[hl]at this;cases this
 |Jw hd=>
  obtain⟨G,I,O,hm,U⟩:=h.workers hi (.inr (.inr (.inl hl)))
  refine .eA O (hm.gn G (fun k=>by rw[hl];simp) (fun k=>by simp) (by intro h;simp at h)) ?_
  have Y:up lo i .l3 (p.n+1)=lo (p.n+1):=aU _ _ (by omega)
  cases U with
  |last E L _ _ hL D=>
   obtain rfl:i=L:=Classical.byContradiction fun e=>by have :=D i G I e;rw[hl]at this;cases this
   exact .last (by rw[Y];exact E) i G I (.inr ⟨aG _ _ _,rfl⟩) fun j a b c=>by rw[aU _ _ c];exact D j a b c
  |opn B E D=>rcases D i G I with e|e|e<;>rw[hl]at e<;>cases e
  |pD B E D=>rcases D i G I with e|e|e<;>rw[hl]at e<;>cases e
  |reg E D=>rcases D i G I with e|e|e<;>rw[hl]at e<;>cases e
  |sema E D=>have :=D i G I;rw[hl]at this;cases this
  |done E D=>have :=D i G I;rw[hl]at this;cases this
  |shut E D=>have :=D i G I;rw[hl]at this;cases this
 |rel hd=>
  obtain⟨G,I,O,hm,U⟩:=h.workers hi (.inr (.inr (.inr hl)))
  refine .eA O (hm.gn G (fun k=>by rw[hl];simp) (fun k=>by simp) (by intro h;simp at h)) ?_
  have Y:up lo i .out (p.n+1)=lo (p.n+1):=aU _ _ (by omega)
  cases U with
  |last E L _ _ hL D=>
   obtain rfl:i=L:=Classical.byContradiction fun e=>by have :=D i G I e;rw[hl]at this;cases this
   refine .sema (by rw[Y];exact E) (fun j a b=>?_) rfl
   by_cases e:j=i
   ·subst e;exact aG _ _ _
   ·rw[aU _ _ e];exact D j a b e
  |opn B E D=>rcases D i G I with e|e|e<;>rw[hl]at e<;>cases e
  |pD B E D=>rcases D i G I with e|e|e<;>rw[hl]at e<;>cases e
  |reg E D=>rcases D i G I with e|e|e<;>rw[hl]at e<;>cases e
  |sema E D=>have :=D i G I;rw[hl]at this;cases this
  |done E D=>have :=D i G I;rw[hl]at this;cases this
  |shut E D=>have :=D i G I;rw[hl]at this;cases this
 | @JQ B=>
  obtain⟨rfl,O,hm,U⟩:=h.closing hi (.inl ⟨B,hl⟩)
  refine .eA O (hm.gn (by omega) (fun k=>by rw[hl];simp) (fun k=>by simp) (by intro h;simp at h)) ?_
  cases U with
  |opn B' E D hB V=>
   have X:cnt lo p.n=0:=by have :=V;simp at this;omega
   exact .done (aG _ _ _) ((D.HN X).gn (.inr (by omega))) rfl
  |_=>simp_all
 | @JR B v W hB=>
  obtain⟨rfl,O,hm,U⟩:=h.closing hi (.inl ⟨B,hl⟩)
  refine .eA O (hm.gn (by omega) (fun k=>by rw[hl];simp) (fun k=>by simp) id) ?_
  have X:=pW lo (.cc v) (i:=p.n+1) (m:=p.n) (.inl (by omega))
  cases U with
  |opn B' E D hB V=>
   have W:v=cnt lo p.n:=by simpa using V
   exact .pD v (aG _ _ _) (D.zZ (.inr (by omega))) (by rw[X];omega) (by rw[X,W])
  |_=>simp_all
 | @JS v W=>
  obtain⟨rfl,O,hm,U⟩:=h.closing hi (.inr (.inl ⟨v,hl⟩))
  refine .eA O (hm.gn (by omega) (fun k=>by rw[hl];simp) (fun k=>by simp) (by intro h;simp at h)) ?_
  have X:=pW lo .cr (i:=p.n+1) (m:=p.n) (.inl (by omega))
  cases U with
  |pD B' E D hB V=>
   have aa:v=cnt lo p.n:=by simpa using V
   exact .reg (aG _ _ _) (D.zZ (.inr (by omega))) (by rw[X];omega) (by rw[X,aa])
  |_=>simp_all
 | @nv v v' W=>
  obtain⟨rfl,O,hm,U⟩:=h.closing hi (.inr (.inl ⟨v,hl⟩))
  refine .eA O (hm.gn (by omega) (fun k=>by rw[hl];simp) (fun k=>by simp) id) ?_
  have X:=pW lo (.cw v') (i:=p.n+1) (m:=p.n) (.inl (by omega))
  cases U with
  |pD B' E D hB V=>
   have aa:v'=cnt lo p.n:=by simpa using V
   exact .opn v' (aG _ _ _) (D.zZ (.inr (by omega))) (by rw[X];omega) (by rw[X,aa])
  |_=>simp_all
 |zW=>rw[<-hl,eR];exact h
 |Jx=>rw[<-hl,eR];exact h
 |close hd=>
  obtain⟨rfl,O,hm,U⟩:=h.closing hi (.inr (.inr (.inr hl)))
  refine .eA O (hm.gn (by omega) (fun k=>by rw[hl];simp) (fun k=>by simp) (fun _=>rfl)) ?_
  cases U with
  |done E D V=>exact .shut (aG _ _ _) (D.gn (.inr (by omega))) rfl
  |_=>simp_all
theorem cz.acq(h:cz p N lo s)(D:i<N)(hl:lo i= .cr)(e:s.sm=1):cz p N (up lo i .cs) ⟨0,0,0,false⟩:=by
 obtain⟨rfl,I,hm,J⟩:=h.closing D (.inr (.inr (.inl hl)))
 have v:s.cl=false:=by
  have :=h.HO D
  rw[hl]at this
  exact this.1
 refine .eA I (hm.gn (by omega) (fun k=>by rw[hl];simp) (fun k=>by simp) (by rw[v];intro h;cases h)) ?_
 cases J with
 |sema E G b=>exact .done (aG _ _ _) (G.gn (.inr (by omega))) rfl
 |reg E G U b=>rw[b]at e;cases e
 |last E L _ _ O=>rcases O with⟨_,b⟩|⟨_,b⟩<;>rw[b]at e<;>cases e
 |opn B h=>rw[h]at hl;cases hl
 |pD B h=>rw[h]at hl;cases hl
 |done h=>rw[h]at hl;cases hl
 |shut h=>rw[h]at hl;cases hl
theorem cz.tell(h:cz p N lo s)(hi:i<N){k:Nat}(hl:lo i= .wk k){J:List Nat}(U:lo 0= .recv J):i=k+1/\k<p.n/\k∉J/\N=p.n+2/\s.cl=false/\cz p N (up (up lo i .told) 0 (.recv (k::J))) s:=by
 have aa:i≠0:=by rintro rfl;rw[U]at hl;cases hl
 cases h with
 |spawn j q hN HP=>rw[HP]at U;cases U
 |late hN hm hw md=>
  have hle:i<=p.n:=by
   rcases Nat.lt_or_ge p.n i with ah|hle
   ·obtain rfl:i=p.n+1:=by omega
    rcases md.closer with⟨B,e⟩|⟨B,e⟩|e|e|e<;>rw[e]at hl<;>cases hl
   ·exact hle
  have hk:k=i-1:=by
   rcases hw i (by omega) hle with e|e|e|e|e|e<;>rw[hl]at e<;>cases e
   rfl
  have E:i=k+1:=by omega
  rcases hm with⟨J',hJ,V⟩|⟨hf,_⟩
  ·rw[U]at hJ;cases hJ
   have W:k∉J:=fun hm=>(V k (by omega)).1 hm (by rw[<-E];exact hl)
   have key:∀ a,1<=a->up (up lo i .told) 0 (.recv (k::J)) a=up lo i .told a:=fun a ha=>aU _ _ (by omega)
   have G:(lo i).live=1:=by rw[hl];rfl
   have O:cnt (up (up lo i .told) 0 (.recv (k::J))) p.n=cnt lo p.n:=by
    rw[pW _ _ (.inr rfl)]
    have :=yx lo .told (i:=i) (by omega) hle
    simp only[Lo.live]at this G
    omega
   have I:Op p.n lo->Op p.n (up (up lo i .told) 0 (.recv (k::J))):=fun b=>(b.gn (.inr (.inl rfl))).zZ (.inl rfl)
   have X:up (up lo i .told) 0 (.recv (k::J)) (p.n+1)=lo (p.n+1):=by rw[key _ (by omega),aU _ _ (by omega)]
   have v: ¬ gw p.n lo:=fun b=>by have :=b i (by omega) hle;rw[hl]at this;cases this
   have Y:s.cl=false:=by
    cases md with
    |opn B hb b hB D=>rw[D]
    |pD B hb b hB D=>rw[D]
    |reg hb b hB D=>rw[D]
    |last hb L _ _ hL=>rcases hL with⟨_,D⟩|⟨_,D⟩<;>rw[D]
    |sema hb b D=>rw[D]
    |done hb b D=>rw[D]
    |shut hb b D=>exact absurd b v
   refine⟨E,by omega,W,hN,Y, .eA hN (.inl ⟨k::J,aG _ _ _,fun a ha=>?_⟩) ?_⟩
   ·rw[key _ (by omega)]
    by_cases e:a=k
    ·subst e;rw[<-E,aG];simp
    ·rw[aU _ _ (by omega),<-V a ha,List.mem_cons];simp[e]
   ·cases md with
    |opn B hb b hB D=>exact .opn B (by rw[X];exact hb) (I b) (by rw[O];exact hB) (by rw[O];exact D)
    |pD B hb b hB D=>exact .pD B (by rw[X];exact hb) (I b) (by rw[O];exact hB) (by rw[O];exact D)
    |reg hb b hB D=>exact .reg (by rw[X];exact hb) (I b) (by rw[O];exact hB) (by rw[O];exact D)
    |last hb L l1 l2 hL b=>
     by_cases e:i=L
     ·subst e;rw[hl]at hL;simp at hL
     ·have :=b i (by omega) hle e;rw[hl]at this;cases this
    |sema hb b=>exact absurd b v
    |done hb b=>exact absurd b v
    |shut hb b=>exact absurd b v
  ·rw[U]at hf;cases hf
theorem cz.ends(h:cz p N lo s){J:List Nat}(E:lo 0= .recv J)(b:s.cl=true):(∀ k,k<p.n->k∈J)/\N=p.n+2/\lo (p.n+1)= .out/\cz p N (up lo 0 .fin) s:=by
 cases h with
 |spawn j q G HP=>rw[HP]at E;cases E
 |late G hm hw md=>
  have I:lo (p.n+1)= .out/\gw p.n lo/\s=⟨0,0,0,true⟩:=by
   cases md with
   |opn B v D hB e=>rw[e]at b;cases b
   |pD B v D hB e=>rw[e]at b;cases b
   |reg v D hB e=>rw[e]at b;cases b
   |last v L _ _ hL=>rcases hL with⟨_,e⟩|⟨_,e⟩<;>rw[e]at b<;>cases b
   |sema v D e=>rw[e]at b;cases b
   |done v D e=>rw[e]at b;cases b
   |shut v D e=>exact⟨v,D,e⟩
  obtain⟨v,D,e⟩:=I
  rcases hm with⟨X,U,O⟩|⟨V,_⟩
  ·rw[E]at U;cases U
   refine⟨fun k W=>(O k W).2 (by rw[D (k+1) (by omega) (by omega)];simp),G,v, .eA G (.inr ⟨aG _ _ _,b⟩) (.shut (by rw[aU _ _ (by omega)];exact v) (D.gn (.inl rfl)) e)⟩
  ·rw[E]at V;cases V
theorem cz.HQ(h:cz p N lo s){j:Nat}(b:lo 0= .spawn j true):N=j+1/\j<p.n/\cz p (N+1) (up (up lo 0 (.spawn (j+1) false)) N (.wk j)) s:=by
 cases h with
 |spawn j' q hN HP hj hw k=>
  rw[HP]at b;cases b
  simp only[if_true]at hj k
  refine⟨hN,by omega, .spawn (j+1) false (by omega) ?_ (by simp;omega) (fun i v B=>?_) (by simpa using k)⟩
  ·rw[aU _ _ (by omega),aG]
  ·by_cases e:i=N
   ·subst e;rw[aG];congr 1;omega
   ·rw[aU _ _ e,aU _ _ (by omega)];exact hw i v (by omega)
 |late hN hm=>rcases hm with⟨J,h,_⟩|⟨h,_⟩<;>rw[b]at h<;>cases h
theorem cz.closes(h:cz p N lo s)(v:lo 0= .spawn p.n false):N=p.n+1/\cz p (N+1) (up (up lo 0 (.recv [])) N (.cw p.n)) s:=by
 cases h with
 |spawn j' q B HP hj G I=>
  rw[HP]at v;cases v
  have b:∀ i,1<=i->i<=p.n->up (up lo 0 (.recv [])) N (.cw p.n) i= .wk (i-1):=fun i D E=>by rw[aU _ _ (by omega),aU _ _ (by omega)];exact G i D E
  have e:∀ m,m<=p.n->cnt (up (up lo 0 (.recv [])) N (.cw p.n)) m=m:=by
   intro m
   induction m with
   |zero=>intro _;rfl
   |succ m ih=>intro hm;rw[cnt,ih (by omega),b (m+1) (by omega) hm];rfl
  have O:=e p.n (Nat.le_refl _)
  refine⟨B, .eA (by omega) (.inl ⟨[],?_,fun k U=>?_⟩) (.opn p.n ?_ (fun i D E=> .inl (b i D E)) (by omega) (by rw[O];simpa using I))⟩
  ·rw[aU _ _ (by omega),aG]
  ·rw[b (k+1) (by omega) (by omega)];simp
  ·subst B;exact aG _ _ _
 |late B hm=>rcases hm with⟨J,h,_⟩|⟨h,_⟩<;>rw[v]at h<;>cases h
end
inductive oz (P:Program) (p:Pr) (aK:Value->World->Prop) (r:cb) (Γ:kq) (s:pg) (main:Bool) (g:Goroutine) (w:World):Prop
 |on (bB:Goroutine) (hk:qV g bB) (hs:g.status= .running) (vh:bB.status= .running) (h:ig P p aK r main Γ bB w)
 |fin (hs:g.status= .finished) (hm:main=false) (hl:Γ.lo= .out) (hd:Γ.deaf=0)
 |bl (bB:Goroutine) (hg:g= {bB with status:= .blocked}) (ho:bB.offers=none) (vh:bB.status= .running) (hl:Γ.lo= .cr) (IE:s.sm=0) (h:ig P p aK r main Γ bB w)
 |ps (k:Nat) (hm:main=false) (hl:Γ.lo= .wk k) (hd:Γ.deaf=0) (ki:Goroutine) (v z:Value) (M:aD) (hg:g=parked ki #[scase p.Ch v z] .send) (hM:∀ b,M b≠none->Γ.own b\/Γ.rd b) (hh:Holds M w) (ht:p.rX k M v)
  (hk:∀ af,gm p af->Below P p aK r false ⟨no,no,0, .told⟩ (Go.Conc.served ki undef) af)
 |pr (J:List Nat) (ki:Goroutine) (z:Value) (bB:Goroutine) (hm:main=true) (hg:g=parked ki #[rcase p.Ch z] (.recv true)) (Kg:s.cl=false) (h:j5 P p (Below P p aK r) Γ bB w J ki z)
def gx(es:Array Event)(d:Nat):Prop:=∀ (j:Nat) (e:Event),es[j]? =some e->(MemAct.ofEvent e).touch?=none\/((∃ ad wr,e=⟨.cell ad,wr,true⟩)/\0<deafBehind d (es.extract 0 j))
theorem gx.nil(d:Nat):gx #[] d:=fun j e h=>by simp at h
def Left(t:Trace)(i:Nat):Prop:=∀ q,t.g? q=some i->t.counts q->Knows t 0 q
def rZ(p:Pr)(t:Trace):Prop:=∃ q,t.act? q=some (.close p.Ch)/\t.g? q=some (p.n+1)/\t.heard q/\∀ x,t.g? x=some (p.n+1)->t.counts x->Before t x q
section
variable {t u:Trace} {i j:Nat}
theorem lt_of_g?{t:Trace}{q i:Nat}(h:t.g? q=some i):q<t.size:=by
 unfold Trace.g? at h
 obtain⟨op,b,_⟩:=Option.map_eq_some_iff.1 h
 exact lt_size_of_getElem? b
theorem qX{t u:Trace}{q i:Nat}(h:(t++u).g? q=some i):(q<t.size/\t.g? q=some i)\/(t.size<=q/\∃ op,op∈u/\op.g=i):=by
 obtain⟨op,D,b⟩:=Option.map_eq_some_iff.1 h
 rcases getElem?_append_cases D with⟨e,k⟩|⟨v,B⟩
 ·exact .inl ⟨e,by unfold Trace.g?;rw[k];exact congrArg some b⟩
 ·exact .inr ⟨v,op,B,b⟩
theorem gL{t:Trace}{q:Nat}(h:t.counts q):∃ x,touchAt t q=some x:=let⟨x,b,_⟩:=h;⟨x,b⟩
theorem Left.other(h:Left t i)(I:∀ op,op∈u->op.g≠i\/op.act.touch?=none):Left (t++u) i:=by
 intro q E G
 rcases qX E with⟨b,v⟩|⟨J,_⟩
 ·exact(h q v ((counts_old b).1 G)).app u
 ·obtain⟨x,O⟩:=gL G
  rcases dr O with⟨b,_⟩|⟨_,op,B,D,k⟩
  ·omega
  ·have U:op.g=i:=by
    have :(t++u).g? q=some op.g:=by simp only[Trace.g?,B,Option.map_some]
    rw[E]at this
    exact(Option.some.inj this).symm
   rcases I op D with e|e
   ·exact absurd U e
   ·rw[e]at k;cases k
theorem sU(fn:FuncId)(pos:String){es:Array Event}(h:gx es (Deaf t i)){q:Nat}(V:t.size<=q): ¬ (t++MemOp.ofEvents i fn pos es).counts q:=by
 rintro⟨x,W,_,v⟩
 obtain⟨act,k,b⟩:=Option.bind_eq_some_iff.1 W
 obtain⟨op,B,rfl⟩:=Option.map_eq_some_iff.1 k
 have O:(MemOp.ofEvents i fn pos es)[q-t.size]? =some op:=by
  rw[Array.getElem?_append]at B
  simpa[Nat.not_lt.2 V]using B
 rw[ofEvents_eq,Array.getElem?_map]at O
 obtain⟨e,D,rfl⟩:=Option.map_eq_some_iff.1 O
 have E:q-t.size<=es.size:=by
  rcases Nat.lt_or_ge (q-t.size) es.size with h'|h'
  ·omega
  ·rw[Array.getElem?_eq_none h']at D;cases D
 rcases h _ e D with X|⟨⟨ad,wr,rfl⟩,hd⟩
 ·simp only at b;rw[X]at b;cases b
 ·have G:x.kind= .atomic:=by
   cases wr<;>simp[MemAct.ofEvent,MemAct.touch?]at b<;>subst b<;>rfl
  rcases v with v|⟨g,U,I⟩
  ·exact v G
  ·have J:g=i:=by simp[Trace.g?,B]at U;exact U.symm
   subst J
   have :=deaf_inside t g fn pos es (q-t.size) E
   rw[show t.size+(q-t.size)=q by omega,I]at this
   omega
theorem Left.own(h:Left t i)(fn:FuncId)(pos:String){es:Array Event}(B:gx es (Deaf t i)):Left (t++MemOp.ofEvents i fn pos es) i:=by
 intro q D v
 rcases qX D with⟨b,e⟩|⟨k,_⟩
 ·exact(h q e ((counts_old b).1 v)).app _
 ·exact absurd v (sU fn pos B k)
theorem rZ.app{p:Pr}(h:rZ p t)(D:∀ q,t.size<=q->(t++u).g? q=some (p.n+1)-> ¬ (t++u).counts q):rZ p (t++u):=by
 obtain⟨q,k,E,G,I⟩:=h
 have hl:=lt_of_act? k
 refine⟨q,by rw[act?_old hl];exact k,by rw[g?_old hl];exact E,(heard_old hl).2 G,fun x v B=>?_⟩
 rcases Nat.lt_or_ge x t.size with b|e
 ·exact(I x (by rw[<-g?_old (u:=u) b];exact v) ((counts_old b).1 B)).app u
 ·exact absurd B (D x e v)
theorem rZ.other{p:Pr}(h:rZ p t)(D:∀ op,op∈u->op.g≠p.n+1\/op.act.touch?=none):rZ p (t++u):=by
 refine h.app fun q O E G=>?_
 obtain⟨x,I⟩:=gL G
 rcases dr I with⟨J,_⟩|⟨_,op,k,v,b⟩
 ·omega
 ·have B:op.g=p.n+1:=by
   have :(t++u).g? q=some op.g:=by simp only[Trace.g?,k,Option.map_some]
   rw[E]at this
   exact(Option.some.inj this).symm
  rcases D op v with e|e
  ·exact absurd B e
  ·rw[e]at b;cases b
theorem rZ.new{p:Pr}(fn:FuncId)(pos:String)(hd:Deaf t (p.n+1)=0):rZ p (t++MemOp.ofEvents (p.n+1) fn pos #[⟨.obj p.Ch,false,true⟩,⟨.obj p.Ch,true,true⟩]):=by
 have e:MemOp.ofEvents (p.n+1) fn pos #[⟨.obj p.Ch,false,true⟩,⟨.obj p.Ch,true,true⟩]= #[{g:=p.n+1,fn,pos,act:= .access ⟨.obj p.Ch,false,true⟩},{g:=p.n+1,fn,pos,act:= .close p.Ch}]:=by rw[ofEvents_eq];simp[MemAct.ofEvent]
 rw[e]
 have hl:(t++ #[({g:=p.n+1,fn,pos,act:= .access ⟨.obj p.Ch,false,true⟩}:MemOp),{g:=p.n+1,fn,pos,act:= .close p.Ch}])[t.size+1]? =some {g:=p.n+1,fn,pos,act:= .close p.Ch}:=by
  rw[Array.getElem?_append_right (by omega)];simp
 have b:(t++ #[({g:=p.n+1,fn,pos,act:= .access ⟨.obj p.Ch,false,true⟩}:MemOp),{g:=p.n+1,fn,pos,act:= .close p.Ch}])[t.size]? =some {g:=p.n+1,fn,pos,act:= .access ⟨.obj p.Ch,false,true⟩}:=by
  rw[Array.getElem?_append_right (by omega)];simp
 refine⟨t.size+1,by rw[act?_of hl],by simp only[Trace.g?,hl,Option.map_some],⟨p.n+1,by simp only[Trace.g?,hl,Option.map_some],by rw[deaf_succ b,deaf_old (Nat.le_refl _)];exact hd⟩,fun x v D=>?_⟩
 rcases Nat.lt_or_ge x (t.size+1)with k|B
 ·exact .inr (.single (.inl ⟨k,p.n+1,v,by simp only[Trace.g?,hl,Option.map_some]⟩))
 ·left
  have :=lt_of_g? v
  simp at this
  omega
end
def jL(γ:Nat->kq):Nat->Lo:=fun i=>(γ i).lo
def gM(γ:Nat->kq):Nat->aI:=fun i=>(γ i).own
def j6(γ:Nat->kq):Nat->aI:=fun i=>(γ i).rd
def fw(γ:Nat->kq):Nat->Nat:=fun i=>(γ i).deaf
theorem oA(γ:Nat->kq)(i:Nat)(x:kq):jL (up γ i x)=up (jL γ) i x.lo:=by funext j;unfold jL up;split <;>rfl
theorem lI(γ:Nat->kq)(i:Nat)(x:kq):gM (up γ i x)=up (gM γ) i x.own:=by funext j;unfold gM up;split <;>rfl
theorem oC(γ:Nat->kq)(i:Nat)(x:kq):j6 (up γ i x)=up (j6 γ) i x.rd:=by funext j;unfold j6 up;split <;>rfl
theorem nw(γ:Nat->kq)(i:Nat)(x:kq):fw (up γ i x)=up (fw γ) i x.deaf:=by funext j;unfold fw up;split <;>rfl
def kS(p:Pr)(N:Nat):Nat:=if N=p.n+2 then p.n+1 else 0
structure Inv (P:Program) (p:Pr) (aK:Value->World->Prop) (gs:Array Goroutine) (w:World) (γ:Nat->kq) (ρ:Nat->cb) (s:pg) (t:Trace):Prop where
 pr:cz p gs.size (jL γ) s
 sh:Sh p s w
 dj:Dj gs.size (gM γ) (j6 γ) w.heap.size p.Wg p.Ch
 ti:TI gs.size (gM γ) (j6 γ) (fw γ) w.heap.size p.Wg p.Ch (kS p gs.size) t
 sW:∀ (i:Nat) (g:Goroutine),gs[i]? =some g->oz P p aK (ρ i) (γ i) s (i==0) g w
 rv:∀ g,gs[0]? =some g->g.status= .blocked->∀ (i k:Nat) (g':Goroutine),gs[i]? =some g'->(γ i).lo= .wk k->g'.status= .running
 lf:∀ i,1<=i->i<=p.n->i<gs.size->(∀ k,(γ i).lo≠ .wk k)->Left t i
 cl:gs.size=p.n+2->(γ (p.n+1)).lo= .out->rZ p t
 fi:(γ 0).lo= .fin->Left t (p.n+1)
abbrev Jy:=cb×List cb×Nat
def meas(gs:Array Goroutine)(ρ:Nat->cb):Jy:=(ρ 0,Fj ρ (gs.size-1),rY gs gs.size)
abbrev Lt3:Jy->Jy->Prop:=Prod.Lex cb.Lt (Prod.Lex Drop (· < ·))
theorem Lt3.wf:WellFounded Lt3:=(Prod.lex ⟨_,cb.wf⟩ (Prod.lex ⟨_,Drop.wf⟩ Nat.lt_wfRel)).wf
def Next(P:Program)(p:Pr)(aK:Value->World->Prop)(gs:Array Goroutine)(w:World)(sl:Option (Nat×Nat))(ρ:Nat->cb)(t:Trace)(i:Nat):Prop:=
 ∃ gs' w' sl' b aq s' ops,runT P (crowd gs w sl) i=(.next (crowd gs' w' sl'),ops)/\Lt3 (meas gs' aq) (meas gs ρ)/\Inv P p aK gs' w' b aq s' (t++ops)
section
variable {P:Program} {p:Pr} {aK:Value->World->Prop} {gs:Array Goroutine} {w w':World} {γ:Nat->kq} {ρ:Nat->cb} {s s':pg} {t:Trace} {r:cb} {Γ:kq} {main:Bool} {g g' o:Goroutine} {sl:Option (Nat×Nat)}
theorem oz.status(h:oz P p aK r Γ s main g w):g.status= .running\/g.status= .finished\/g.status= .blocked:=by
 cases h with
 |on _ _ hs=>exact .inl hs
 |fin hs=>exact .inr (.inl hs)
 |bl _ hg=>exact .inr (.inr (by rw[hg]))
 |ps _ _ _ _ _ _ _ _ hg=>exact .inr (.inr (by rw[hg];rfl))
 |pr _ _ _ _ _ hg=>exact .inr (.inr (by rw[hg];rfl))
theorem oz.running(h:oz P p aK r Γ s main g w)(b:g.status= .running):∃ bB,qV g bB/\bB.status= .running/\ig P p aK r main Γ bB w:=by
 cases h with
 |on bB hk _ vh h=>exact⟨bB,hk,vh,h⟩
 |fin hf=>rw[b]at hf;cases hf
 |bl _ hg=>rw[hg]at b;cases b
 |ps _ _ _ _ _ _ _ _ hg=>rw[hg]at b;cases b
 |pr _ _ _ _ _ hg=>rw[hg]at b;cases b
theorem oz.of_run(h:ig P p aK r main Γ g w)(hm:main=false\/Γ.lo≠ .out):oz P p aK r Γ s main g w:=by
 rcases h.node.status with b|⟨b,hl,hd⟩
 ·exact .on g (.refl _) b b h
 ·exact .fin b (hm.resolve_right (fun x=>x hl)) hl hd
theorem Inv.at(I:Inv P p aK gs w γ ρ s t)(d:Nat):Inv P p aK gs (w.at d) γ ρ s t:=by
 have D:∀ Γ,cM p Γ w (w.at d):=fun Γ=>⟨⟨⟨rfl,rfl,rfl,Nat.le_refl _⟩,fun _ _=>rfl⟩,id⟩
 refine⟨I.pr,⟨I.sh.wg,I.sh.ch⟩,I.dj,I.ti,fun i g e=>?_,I.rv,I.lf,I.cl,I.fi⟩
 cases I.sW i g e with
 |on bB E G B h=>exact .on bB E G B (h.rely (D _))
 |fin G hm hl hd=>exact .fin G hm hl hd
 |bl bB e V B hl O h=>exact .bl bB e V B hl O (h.rely (D _))
 |ps k hm hl hd b v z M e W X Y E=>exact .ps k hm hl hd b v z M e W X Y E
 |pr J b z bB hm e U h=>exact .pr J b z bB hm e U (h.rely (D _))
theorem Inv.awake(I:Inv P p aK gs w γ ρ s t):∀ g∈gs,awake g:=by
 intro g b tm
 obtain⟨i,e⟩:=Array.mem_iff_getElem?.1 b
 rcases(I.sW i g e).status with h|h|h<;>rw[h]<;>simp
theorem cz.pos{N:Nat}{lo:Nat->Lo}(h:cz p N lo s):0<N:=by
 cases h with
 |spawn j q hN=>omega
 |late hN=>omega
theorem Inv.F1(I:Inv P p aK gs w γ ρ s t):∃ (i:Nat) (g:Goroutine),gs[i]? =some g/\g.status= .running:=by
 have E:=I.pr.pos
 obtain⟨a,G⟩:∃ a,gs[0]? =some a:=⟨_,Array.getElem?_eq_getElem E⟩
 have O:=I.sW 0 a G
 have main:a.status= .running\/(a.status= .blocked/\s.cl=false/\∃ J,jL γ 0= .recv J):=by
  cases O with
  |on _ _ hs=>exact .inl hs
  |fin _ hm=>cases hm
  |bl _ _ _ _ hl=>
   rcases I.pr.main with⟨j,q,e⟩|⟨J,e⟩|e<;>simp only[jL]at e<;>rw[hl]at e<;>cases e
  |ps _ hm=>cases hm
  |pr J ki z bB hm hg v h=>exact .inr ⟨by rw[hg];rfl,v,J,h.hl⟩
 rcases main with h|⟨W,v,J,X⟩
 ·exact⟨0,a,G,h⟩
 cases Y:I.pr with
 |spawn j q hN h0=>rw[X]at h0;cases h0
 |late hN hm hw md=>
  by_cases b:gw p.n (jL γ)
  ·obtain⟨c,D⟩:∃ c,gs[p.n+1]? =some c:=⟨_,Array.getElem?_eq_getElem (by omega)⟩
   refine⟨p.n+1,c,D,?_⟩
   cases I.sW _ c D with
   |on _ _ hs=>exact hs
   |fin hs hm hl hd=>
    exfalso
    have hl:jL γ (p.n+1)= .out:=hl
    cases md with
    |opn B h=>rw[hl]at h;cases h
    |pD B h=>rw[hl]at h;cases h
    |reg h=>rw[hl]at h;cases h
    |last h=>rw[hl]at h;cases h
    |sema h=>rw[hl]at h;cases h
    |done h=>rw[hl]at h;cases h
    |shut h ho hs=>rw[hs]at v;cases v
   |bl bB hg ho vh hl IE=>
    exfalso
    have hl:jL γ (p.n+1)= .cr:=hl
    cases md with
    |opn B h=>rw[hl]at h;cases h
    |pD B h=>rw[hl]at h;cases h
    |reg h ho hB=>have :=b.cnt;omega
    |last h L U V hL=>rw[b L U V]at hL;simp at hL
    |sema h ho hs=>rw[hs]at IE;cases IE
    |done h=>rw[hl]at h;cases h
    |shut h=>rw[hl]at h;cases h
   |ps k hm hl=>
    exfalso
    rcases md.closer with⟨B,e⟩|⟨B,e⟩|e|e|e<;>simp only[jL]at e<;>rw[hl]at e<;>cases e
   |pr _ _ _ _ hm=>simp at hm
  ·obtain⟨i,h⟩:=Classical.not_forall.1 b
   obtain⟨U,h⟩:=Classical.not_imp.1 h
   obtain⟨V,h⟩:=Classical.not_imp.1 h
   obtain⟨c,D⟩:∃ c,gs[i]? =some c:=⟨_,Array.getElem?_eq_getElem (by omega)⟩
   refine⟨i,c,D,?_⟩
   cases I.sW _ c D with
   |on _ _ hs=>exact hs
   |fin hs hm hl hd=>exact absurd hl h
   |bl bB hg ho vh hl IE=>
    have hl:jL γ i= .cr:=hl
    rcases hw i U V with e|e|e|e|e|e<;>rw[hl]at e<;>cases e
   |ps k hm hl=>exact I.rv a G W i k c D hl
   |pr _ _ _ _ hm=>simp at hm;omega
theorem oz.woken(S:oz P p aK r Γ s main o w)(I:cM p Γ w w')(V:Sh p s' w')(O:((s'.sm=0\/s'.sm=s.sm)/\s'.cl=s.cl)\/(mayWake P g&&g'.status != .blocked&&g'.status != .waiting)=true)(W:∀ k,Γ.lo= .wk k->s'.cl=false):
  oz P p aK r Γ s' main (woken P g g' w' o) w':=by
 obtain⟨q,D⟩:=V.ch
 cases S with
 |on bB X hs vh h=>
  have e:Go.Conc.woken P g g' w' o=o:=by unfold Go.Conc.woken;split;exact again_running _ (.inl hs);rfl
  rw[e];exact .on bB X hs vh (h.rely I)
 |fin hs hm hl hd=>
  have e:Go.Conc.woken P g g' w' o=o:=by unfold Go.Conc.woken;split;exact again_running _ (.inr hs);rfl
  rw[e];exact .fin hs hm hl hd
 |bl bB E ho vh hl Y h=>
  by_cases G:(mayWake P g&&g'.status != .blocked&&g'.status != .waiting)=true
  ·have e:Go.Conc.woken P g g' w' o=bB:=by
    unfold Go.Conc.woken
    rw[if_pos G,E]
    exact Go.ConcR.again_blocked vh ho _
   rw[e];exact .on bB (.refl _) vh vh (h.rely I)
  ·have e:Go.Conc.woken P g g' w' o=o:=by unfold Go.Conc.woken;rw[if_neg G]
   rw[e]
   obtain⟨a,_⟩:=O.resolve_right G
   exact .bl bB E ho vh hl (a.elim id fun x=>x.trans Y) (h.rely I)
 |ps k hm hl hd B v z M E hM hh ht X=>
  rw[W k hl]at D
  have e:Go.Conc.woken P g g' w' o=o:=by rw[E];exact woken_send_open _ _ D
  rw[e]
  exact .ps k hm hl hd B v z M E hM (fun b x hb=>by rw[I.ry.ab b (hM b (by rw[hb];simp))];exact hh b x hb) ht X
 |pr J B z bB hm E aa h=>
  cases G:s'.cl with
  |false=>
   rw[G]at D
   have e:Go.Conc.woken P g g' w' o=o:=by rw[E];exact woken_recv_open _ _ D
   rw[e]
   exact .pr J B z bB hm E G (h.rely I)
  |true=>
   rw[G]at D
   have U:=O.resolve_left fun⟨_,x⟩=>by rw[G,aa]at x;cases x
   have e:Go.Conc.woken P g g' w' o= {parked B #[rcase p.Ch z] (.recv true)with status:= .running}:=by
    unfold Go.Conc.woken
    rw[if_pos U,E]
    exact again_recv_closed D
   rw[e]
   refine .on bB ⟨h.hg.frame.symm,h.hg.callers.symm,h.hg.dying.symm⟩ rfl h.hs (ig.FY (.recv hm J B z (h.rely I)))
theorem uJ{a b:Goroutine}{w':World}{o:Goroutine}:(Go.Conc.woken P a b w' o).status=o.status\/(Go.Conc.woken P a b w' o).status= .running:=by
 unfold Go.Conc.woken
 split
 ·unfold Goroutine.again
  split
  ·simp only[]
   split
   ·exact .inr rfl
   ·exact .inl rfl
  ·exact .inr rfl
  ·exact .inr rfl
  ·exact .inl rfl
 ·exact .inl rfl
theorem woken_running{a b:Goroutine}{w':World}{o:Goroutine}(h:o.status= .running):Go.Conc.woken P a b w' o=o:=by
 unfold Go.Conc.woken;split;exact again_running _ (.inl h);rfl
theorem DQ{i k:Nat}{x:Goroutine}{f:Goroutine->Goroutine}(b:i<gs.size):((gs.map f).setIfInBounds i x)[k]? =if k=i then some x else(gs[k]?).map f:=by
 by_cases e:k=i
 ·subst e;rw[if_pos rfl,Array.getElem?_setIfInBounds_self_of_lt (by simpa using b)]
 ·rw[if_neg e,Array.getElem?_setIfInBounds_ne (fun x=>e x.symm)];simp
theorem Inv.Kz{gs':Array Goroutine}{i:Nat}{k:cb}(b:gs'.size=gs.size)(B:i<gs.size)(v:k.Lt (ρ i)):Lt3 (meas gs' (up ρ i k)) (meas gs ρ):=by
 unfold meas
 rcases Nat.eq_zero_or_pos i with e|e
 ·subst e;rw[aG];exact Prod.Lex.left _ _ v
 ·rw[aU _ _ (by omega),b]
  exact Prod.Lex.right _ (Prod.Lex.left _ _ (wU e v (by omega)))
theorem Inv.go(I:Inv P p aK gs w γ ρ s t){i:Nat}(hi:gs[i]? =some g){es:Array Event}(a5:stepG P (i==0) g w= .go g' w' es){z9:kq}{r':cb}{s':pg}(a6:r'.Lt (ρ i))(hR:ig P p aK r' (i==0) z9 g' w')
  (a0:∀ j,j<gs.size->j≠i->cM p (γ j) w w') (a1:Sh p s' w') (av:cz p gs.size (up (jL γ) i z9.lo) s')
  (a7:Dj gs.size (up (gM γ) i z9.own) (up (j6 γ) i z9.rd) w'.heap.size p.Wg p.Ch)
  (a8:TI gs.size (up (gM γ) i z9.own) (up (j6 γ) i z9.rd) (up (fw γ) i z9.deaf) w'.heap.size p.Wg p.Ch (kS p gs.size) (t++MemOp.ofEvents i g.frame.fn g.frame.place es))
  (ba:((s'.sm=0\/s'.sm=s.sm)/\s'.cl=s.cl)\/mayWake P g=true)
  (bc:(∃ k,z9.lo= .wk k)↔∃ k,(γ i).lo= .wk k) (bh:z9.lo= .fin↔(γ i).lo= .fin) (bl:i=0->z9.lo≠ .out)
  (hq:1<=i->i<=p.n->(∀ k,(γ i).lo≠ .wk k)->gx es (γ i).deaf)
  (a2:i=p.n+1->z9.lo= .out->((γ i).lo= .out/\gx es (γ i).deaf)\/(es= #[⟨.obj p.Ch,false,true⟩,⟨.obj p.Ch,true,true⟩]/\(γ i).deaf=0/\(γ i).lo= .cs)):Next P p aK gs w sl ρ t i:=by
 have U:i<gs.size:=(Array.getElem?_eq_some_iff.1 hi).1
 have V:∀ op,op∈MemOp.ofEvents i g.frame.fn g.frame.place es->op.g=i:=fun op h=>Go.ConcR.g_of_ofEvents op h
 have al:g'.status= .running\/g'.status= .finished:=hR.node.status.imp id fun x=>x.1
 have O:Deaf t i=(γ i).deaf:=I.ti.df i U
 refine⟨_,w',sl,up γ i z9,up ρ i r',s',_,runT_crowd_go hi a5,Inv.Kz (by simp) U a6,?_⟩
 have W:((gs.map (Go.Conc.woken P g g' w')).setIfInBounds i g').size=gs.size:=by simp
 refine⟨?_,a1,?_,?_,fun j x X=>?_,fun a ha E j k x X hl=>?_,fun j j1 jn jl ah=>?_,fun hN hc=>?_,fun hf=>?_⟩
 ·rw[W,oA];exact av
 ·rw[W,lI,oC];exact a7
 ·rw[W,lI,oC,nw];exact a8
 ·rw[DQ U]at X
  by_cases e:j=i
  ·subst e
   rw[if_pos rfl]at X;cases X
   rw[aG,aG]
   exact oz.of_run hR (by
    rcases Nat.eq_zero_or_pos j with e|e
    ·exact .inr (bl e)
    ·left;simp;omega)
  ·rw[if_neg e]at X
   obtain⟨o,G,rfl⟩:=Option.map_eq_some_iff.1 X
   have a3:j<gs.size:=(Array.getElem?_eq_some_iff.1 G).1
   rw[aU _ _ e,aU _ _ e]
   refine(I.sW j o G).woken (a0 j a3 e) a1 (ba.imp id fun h=>?_) fun k hk=>?_
   ·rw[h];rcases al with h|h<;>rw[h]<;>rfl
   ·
    have ax:up (jL γ) i z9.lo j= .wk k:=by rw[aU _ _ e];exact hk
    cases av with
    |spawn _ _ _ _ _ _ D=>rw[D]
    |late hN hm hw md=>
     cases md with
     |opn B E G hB D=>rw[D]
     |pD B E G hB D=>rw[D]
     |reg E G hB D=>rw[D]
     |last E L _ _ hL=>rcases hL with⟨_,D⟩|⟨_,D⟩<;>rw[D]
     |sema E G D=>rw[D]
     |done E G D=>rw[D]
     |shut E G D=>
      exfalso
      rcases Nat.eq_zero_or_pos j with e0|e0
      ·subst e0
       rcases hm with⟨J,h,_⟩|⟨h,_⟩<;>rw[ax]at h<;>cases h
      ·rcases Nat.lt_or_ge p.n j with h|h
       ·have :j=p.n+1:=by omega
        subst this;rw[ax]at E;cases E
       ·have :=G j e0 h;rw[ax]at this;cases this
 ·rw[DQ U]at ha X
  have bn:g'.status≠ .blocked:=by rcases al with h|h<;>rw[h]<;>simp
  by_cases e0:(0:Nat)=i
  ·rw[if_pos e0]at ha;cases ha;exact absurd E bn
  ·rw[if_neg e0]at ha
   obtain⟨o,G,rfl⟩:=Option.map_eq_some_iff.1 ha
   have bo:o.status= .blocked:=by
    rcases uJ (P:=P) (a:=g) (b:=g') (w':=w') (o:=o)with h|h
    ·rw[<-h];exact E
    ·rw[h]at E;cases E
   by_cases e:j=i
   ·subst e
    rw[if_pos rfl]at X;cases X
    rw[aG]at hl
    rcases hR.node.status with h|⟨_,h,_⟩
    ·exact h
    ·rw[hl]at h;cases h
   ·rw[if_neg e]at X
    obtain⟨o',bp,rfl⟩:=Option.map_eq_some_iff.1 X
    rw[aU _ _ e]at hl
    have :=I.rv o G bo j k o' bp hl
    rw[woken_running this];exact this
 ·rw[W]at jl
  by_cases e:j=i
  ·subst e
   rw[aG]at ah
   have a4:∀ k,(γ j).lo≠ .wk k:=fun k hk=>by obtain⟨k',bq⟩:=bc.2 ⟨k,hk⟩;exact ah k' bq
   exact(I.lf j j1 jn jl a4).own _ _ (by rw[O];exact hq j1 jn a4)
  ·rw[aU _ _ e]at ah
   exact(I.lf j j1 jn jl ah).other fun op Y=> .inl (by rw[V op Y];exact fun x=>e x.symm)
 ·rw[W]at hN
  by_cases e:i=p.n+1
  ·subst e
   rw[aG]at hc
   rcases a2 rfl hc with⟨a,b⟩|⟨a,b,_⟩
   ·refine(I.cl hN a).app fun q hq _=>sU _ _ (by rw[O];exact b) hq
   ·subst a
    exact rZ.new _ _ (by rw[O];exact b)
  ·rw[aU _ _ (fun x=>e x.symm)]at hc
   exact(I.cl hN hc).other fun op Y=> .inl (by rw[V op Y];exact e)
 ·have aa:(γ 0).lo= .fin:=by
   by_cases e:(0:Nat)=i
   ·subst e;rw[aG]at hf;exact bh.1 hf
   ·rw[aU _ _ e]at hf;exact hf
  have h0:=I.fi aa
  by_cases e:i=p.n+1
  ·subst e
   have ae:(γ (p.n+1)).lo= .out:=by
    cases I.pr with
    |spawn j q hN h0=>simp only[jL]at h0;rw[aa]at h0;cases h0
    |late hN hm hw md=>
     rcases hm with⟨J,h,_⟩|⟨h,v⟩
     ·simp only[jL]at h;rw[aa]at h;cases h
     ·cases md with
      |opn B E G hB D=>rw[D]at v;cases v
      |pD B E G hB D=>rw[D]at v;cases v
      |reg E G hB D=>rw[D]at v;cases v
      |last E L _ _ hL=>rcases hL with⟨_,D⟩|⟨_,D⟩<;>rw[D]at v<;>cases v
      |sema E G D=>rw[D]at v;cases v
      |done E G D=>rw[D]at v;cases v
      |shut E G D=>exact E
   have br:z9.lo= .out:=by
    cases av with
    |spawn j q hN h0=>rw[aU _ _ (by omega)]at h0;simp only[jL]at h0;rw[aa]at h0;cases h0
    |late hN hm hw md=>
     rcases hm with⟨J,h,_⟩|⟨h,v⟩
     ·rw[aU _ _ (by omega)]at h;simp only[jL]at h;rw[aa]at h;cases h
     ·cases md with
      |opn B E G hB D=>rw[D]at v;cases v
      |pD B E G hB D=>rw[D]at v;cases v
      |reg E G hB D=>rw[D]at v;cases v
      |last E L _ _ hL=>rcases hL with⟨_,D⟩|⟨_,D⟩<;>rw[D]at v<;>cases v
      |sema E G D=>rw[D]at v;cases v
      |done E G D=>rw[D]at v;cases v
      |shut E G D=>rw[aG]at E;exact E
   rcases a2 rfl br with⟨_,b⟩|⟨_,_,a⟩
   ·exact h0.own _ _ (by rw[O];exact b)
   ·rw[ae]at a;cases a
  ·exact h0.other fun op Y=> .inl (by rw[V op Y];exact e)
end
theorem oD{i:Nat}{fn:FuncId}{pos:String}{es:Array Event}{op:MemOp}(h:op∈MemOp.ofEvents i fn pos es):∃ e,e∈es/\op= {g:=i,fn,pos,act:= .ofEvent e}:=by
 rw[ofEvents_eq]at h
 obtain⟨e,b,rfl⟩:=Array.mem_map.1 h
 exact⟨e,b,rfl⟩
theorem ny{own rd:aI}{Wg Ch:Nat}{e:Prop}{ad:Addr}{wr b:Bool}(h:own ad.block\/(rd ad.block/\wr=false)\/(ad.block=Wg/\b=true)):∀ x,(MemAct.ofEvent ⟨.cell ad,wr,b⟩).touch?=some x->ID own rd Wg Ch e x:=by
 intro x B
 have k:x=⟨.cell ad,wr,if b then .atomic else .plain⟩:=by
  cases wr<;>cases b<;>simp[MemAct.ofEvent,MemAct.touch?]at B<;>rw[<-B]<;>rfl
 subst k
 have D:(if b then Touch.Kind.atomic else .plain)≠ .said:=by cases b<;>simp
 rcases h with h|⟨h,v⟩|⟨h,v⟩
 ·exact .inl ⟨_,rfl,h,D⟩
 ·exact .inr (.inl ⟨_,rfl,h,v,D⟩)
 ·subst v;exact .inr (.inr (.inl ⟨.inl (by simp[fC,h]),rfl⟩))
theorem nz{m:Mark}(h:fN m):(MemAct.ofEvent (mk m)).touch?=none:=by
 rcases h with rfl|rfl|⟨a,rfl⟩|⟨a,rfl⟩<;>simp[mk,MemAct.ofEvent,MemAct.touch?]
theorem DS{own rd:aI}{Wg Ch:Nat}{k:Prop}{e:Event}(h:l9 own rd e):∀ x,(MemAct.ofEvent e).touch?=some x->ID own rd Wg Ch k x:=by
 rcases h with⟨ad,s,rfl,h⟩|⟨ad,s,rfl,h⟩|rfl|⟨r,wr,rfl,h⟩
 ·exact ny (h.imp id fun h=> .inl ⟨h,rfl⟩)
 ·exact ny (.inl h)
 ·intro x b;simp[noRoomEvent,MemAct.ofEvent,MemAct.touch?]at b
 ·intro x b;simp[MemAct.ofEvent,MemAct.touch?]at b;subst b;exact .inl ⟨r,rfl,h,by simp⟩
theorem Aa{own rd:aI}{es:Array Event}(h:∀ e,e∈es->l9 own rd e)(d:Nat):deafBehind d es=d:=by
 refine Go.ConcN.deafBehind_idle (fun e b=>?_) d
 rcases h e b with⟨ad,s,rfl,_⟩|⟨ad,s,rfl,_⟩|rfl|⟨r,wr,rfl,_⟩<;>simp[noRoomEvent]
theorem qY{e:Event}(h:Event.mute e=true):(MemAct.ofEvent e).touch?=none:=by
 obtain⟨loc,wr,b⟩:=e
 cases loc with
 |mark m=>cases m<;>simp[Event.mute]at h<;>simp[MemAct.ofEvent,MemAct.touch?]
 |_=>simp[Event.mute]at h
section
variable {N:Nat} {own rd:Nat->aI} {size Wg Ch:Nat}
theorem Dj.gn(D:Dj N own rd size Wg Ch){i:Nat}(W:i<N){own' rd':aI}{size':Nat}(J:∀ b,own' b->own i b\/(size<=b/\b<size'))(O:∀ b,rd' b->rd i b)(X:size<=size'):Dj N (up own i own') (up rd i rd') size' Wg Ch:=by
 have Y:=D.wg
 have hc:=D.ch
 have o:∀ j b,j<N->up own i own' j b->own j b\/(j=i/\size<=b/\b<size'):=fun j b hj h=>by
  by_cases e:j=i
  ·subst e;rw[aG]at h;exact(J b h).imp id fun x=>⟨rfl,x⟩
  ·rw[aU _ _ e]at h;exact .inl h
 have r:∀ j b,up rd i rd' j b->rd j b:=fun j b h=>by
  by_cases e:j=i
  ·subst e;rw[aG]at h;exact O b h
  ·rwa[aU _ _ e]at h
 refine⟨fun a b x k E G v B=>?_,fun a b x k E v B=>?_,fun a b k h=>?_,fun a b k h=>?_,by omega,by omega,D.ne⟩
 ·rcases o a x k v with v|⟨e1,v,I⟩<;>rcases o b x E B with B|⟨U,B,V⟩
  ·exact D.oo a b x k E G v B
  ·have :=(D.vg a x k v).1;omega
  ·have :=(D.vg b x E B).1;omega
  ·exact G (e1.trans U.symm)
 ·rcases o a x k v with v|⟨e1,v,I⟩
  ·exact D.ord a b x k E v (r b x B)
  ·have :=(D.yv b x E (r b x B)).1;omega
 ·rcases o a b k h with h|⟨e,h,h'⟩
  ·obtain⟨x,y,z⟩:=D.vg a b k h;exact⟨by omega,y,z⟩
  ·exact⟨h',by omega,by omega⟩
 ·obtain⟨x,y,z⟩:=D.yv a b k (r a b h);exact⟨by omega,y,z⟩
end
section
variable {P:Program} {p:Pr} {aK:Value->World->Prop} {gs:Array Goroutine} {w w':World} {γ:Nat->kq} {ρ:Nat->cb} {s s':pg} {t:Trace} {g bB g':Goroutine} {sl:Option (Nat×Nat)}
theorem nu.rely{Γ:kq}(O:nu p w w')(e:Sh p s' w')(k:∀ b,Γ.own b\/Γ.rd b->b≠p.Wg/\b≠p.Ch):cM p Γ w w':=⟨⟨O.same,fun b v=>O.ab b (k b v).1 (k b v).2⟩,fun _=>e.lv⟩
theorem Inv.apart(I:Inv P p aK gs w γ ρ s t){j:Nat}(e:j<gs.size):∀ b,(γ j).own b\/(γ j).rd b->b≠p.Wg/\b≠p.Ch:=fun b k=>k.elim (fun h=>(I.dj.vg j b e h).2) fun h=>(I.dj.yv j b e h).2
theorem uK(h:qV g bB):mayWake P g=mayWake P bB:=by unfold mayWake;rw[h.frame]
theorem Inv.F3(I:Inv P p aK gs w γ ρ s t){i:Nat}(X:gs[i]? =some g){es:Array Event}(E:stepG P (i==0) g w= .go g' w' es)(hl:(γ i).lo≠ .out)(J:(γ i).lo.mute=true->es= #[])(G:mc (γ i).own (γ i).rd w w' es)
  (hk:Below P p aK (ρ i) (i==0) ⟨more (γ i).own w w',(γ i).rd,(γ i).deaf,(γ i).lo⟩ g' w'):Next P p aK gs w sl ρ t i:=by
 obtain⟨r',O,hR⟩:=hk
 have k:i<gs.size:=(Array.getElem?_eq_some_iff.1 X).1
 have v:w'.heap[p.Wg]? =w.heap[p.Wg]? :=G.ab _ I.dj.wg fun h=>(I.dj.vg i _ k h).2.1 rfl
 have U:w'.heap[p.Ch]? =w.heap[p.Ch]? :=G.ab _ I.dj.ch fun h=>(I.dj.vg i _ k h).2.2 rfl
 have Y:∀ b,more (γ i).own w w' b->gM γ i b\/(w.heap.size<=b/\b<w'.heap.size):=fun b B=>B
 refine I.go X E O hR (fun j D V=>⟨⟨G.same,fun b B=>?_⟩,fun⟨⟨a,b,h⟩,hc⟩=>⟨⟨a,b,by unfold WgAt;rw[v];exact h⟩,Nat.lt_of_lt_of_le hc G.same.size⟩⟩) ⟨by unfold WgAt;rw[v];exact I.sh.wg,let⟨q,h⟩:=I.sh.ch;⟨q,by rw[U];exact h⟩⟩
  (by have :=eR (jL γ) i;simp only[jL]at this ⊢;rw[this];exact I.pr) (I.dj.gn k Y (fun _ h=>h) G.same.size) ?_ (.inl ⟨.inr rfl,rfl⟩) Iff.rfl Iff.rfl (fun _=>hl) (fun h1 hn hw=>?_) (fun _ h=>absurd h hl)
 ·refine G.ab b ?_ fun h=>?_
  ·exact B.elim (fun h=>(I.dj.vg j b D h).1) fun h=>(I.dj.yv j b D h).1
  ·exact B.elim (fun h'=>I.dj.oo i j b k D (fun e=>V e.symm) h h') fun h'=>I.dj.ord i j b k D h h'
 ·have :=I.ti.app I.dj k (u:=MemOp.ofEvents i g.frame.fn g.frame.place es) (fun op h=>Go.ConcR.g_of_ofEvents op h) (fun op W x hx=>by
   obtain⟨e,he,rfl⟩:=oD W
   exact DS (G.evs e he) x hx) Y G.same.size (d':=(γ i).deaf) (by rw[Deaf_own,Aa G.evs,I.ti.df i k];rfl)
  have e:up (j6 γ) i (γ i).rd=j6 γ:=eR (j6 γ) i
  simp only[e]
  exact this
 ·rw[J]
  ·exact gx.nil _
  ·rcases I.pr.Ke k with e|⟨_,_,e|⟨_,e⟩⟩|⟨e,_⟩
   ·omega
   ·exact absurd e (hw _)
   ·simp only[jL]at e
    rcases e with e|e|e|e|e
    ·rw[e];rfl
    ·rw[e];rfl
    ·rw[e];rfl
    ·rw[e];rfl
    ·exact absurd e hl
   ·omega
theorem qU.tok{d:Nat}{l G:Lo}{es:Array Event}(h:qU p d l s es G s'){own rd:aI}{B:Prop}(D:(∃ j,l= .spawn j true)->B)(E:l= .cr->B):∀ e,e∈es->∀ x,(MemAct.ofEvent e).touch?=some x->ID own rd p.Wg p.Ch B x:=by
 have k:∀ (a:Addr) (wr:Bool),a.block=p.Wg->∀ x,(MemAct.ofEvent ⟨.cell a,wr,true⟩).touch?=some x->ID own rd p.Wg p.Ch B x:=fun a wr I=>ny (.inr (.inr ⟨I,rfl⟩))
 intro e b x v
 cases h with
 |mark m hm=>simp at b;subst b;rw[nz hm]at v;cases v
 |add _=>simp[xO,G9]at b;rcases b with rfl|rfl<;>exact k _ _ rfl x v
 |zV=>
  simp[mk]at b;subst b
  simp[MemAct.ofEvent,MemAct.touch?]at v
  subst v
  exact .inr (.inr (.inr ⟨rfl,rfl,D ⟨_,rfl⟩⟩))
 |done _=>simp[xO,G9]at b;rcases b with rfl|rfl<;>exact k _ _ rfl x v
 |Jv _=>simp[xO]at b;subst b;exact k _ _ rfl x v
 |Jw _=>simp[G9]at b;subst b;exact k _ _ rfl x v
 |rel _=>
  simp[semEvents]at b
  rcases b with rfl|rfl|rfl|rfl
  ·simp[MemAct.ofEvent,MemAct.touch?]at v
  ·exact k _ _ rfl x v
  ·exact k _ _ rfl x v
  ·simp[MemAct.ofEvent,MemAct.touch?]at v
 |JQ=>simp[xO]at b;subst b;exact k _ _ rfl x v
 |JR _ _=>simp[xO]at b;subst b;exact k _ _ rfl x v
 |JS _=>simp[xO,G9]at b;rcases b with rfl|rfl<;>exact k _ _ rfl x v
 |nv _=>simp[xO]at b;subst b;exact k _ _ rfl x v
 |zW=>
  simp[mk]at b;subst b
  simp[MemAct.ofEvent,MemAct.touch?]at v
  subst v
  exact .inr (.inr (.inr ⟨rfl,rfl,E rfl⟩))
 |Jx=>simp[xO]at b;subst b;exact k _ _ rfl x v
 |close _=>
  simp at b
  rcases b with rfl|rfl
  ·simp[MemAct.ofEvent,MemAct.touch?]at v
   subst v
   exact .inr (.inr (.inl ⟨.inr rfl,rfl⟩))
  ·simp[MemAct.ofEvent,MemAct.touch?]at v
theorem oE{e:Event}{d:Nat}(h:(MemAct.ofEvent e).touch?=none\/((∃ ad wr,e=⟨.cell ad,wr,true⟩)/\0<d)):gx #[e] d:=by
 intro j x b
 cases j with
 |zero=>simp at b;subst b;simpa[deafBehind]using h
 |succ j=>simp at b
theorem qZ{es:Array Event}(h:∀ e,e∈es->Event.mute e=true)(d:Nat):gx es d:=fun j e b=> .inl (qY (h e (Array.mem_of_getElem? b)))
theorem Bw{a b:Addr}{x y:Bool}{d:Nat}(h:0<d):gx #[⟨.cell a,x,true⟩,⟨.cell b,y,true⟩] d:=by
 intro j e k
 match j,k with
 |0,k=>simp at k;subst k;exact .inr ⟨⟨_,_,rfl⟩,by simpa[deafBehind]using h⟩
 |1,k=>simp at k;subst k;exact .inr ⟨⟨_,_,rfl⟩,by simpa[deafBehind]using h⟩
 |j+2,k=>simp at k
theorem Bx{a:Addr}{d:Nat}:gx (semEvents a) d:=by
 intro j e b
 match j,b with
 |0,b=>simp[semEvents]at b;subst b;exact .inl (by simp[MemAct.ofEvent,MemAct.touch?])
 |1,b=>simp[semEvents]at b;subst b;exact .inr ⟨⟨_,_,rfl⟩,by simp[semEvents,deafBehind]⟩
 |2,b=>simp[semEvents]at b;subst b;exact .inr ⟨⟨_,_,rfl⟩,by simp[semEvents,deafBehind]⟩
 |3,b=>simp[semEvents]at b;subst b;exact .inl (by simp[MemAct.ofEvent,MemAct.touch?])
 |j+4,b=>simp[semEvents]at b
theorem qU.quiet{d:Nat}{l b:Lo}{es:Array Event}(h:qU p d l s es b s')(hl:l= .told\/l= .l1\/l= .l2\/l= .l3):gx es d:=by
 cases h with
 |mark m hm=>exact oE (.inl (nz hm))
 |done hd=>exact Bw hd
 |Jv hd=>exact oE (.inr ⟨⟨_,_,rfl⟩,hd⟩)
 |Jw hd=>exact oE (.inr ⟨⟨_,_,rfl⟩,hd⟩)
 |rel hd=>exact Bx
 |_=>simp at hl
theorem qU.same{d:Nat}{l b:Lo}{es:Array Event}(h:qU p d l s es b s'):b=l\/((∀ k,l≠ .wk k)/\(∀ k,b≠ .wk k)/\l≠ .fin/\b≠ .fin/\(b= .out->(l= .told\/l= .l3\/(l= .cs/\es= #[⟨.obj p.Ch,false,true⟩,⟨.obj p.Ch,true,true⟩]/\d=0)))):=by
 cases h with
 |mark m hm=>exact .inl rfl
 |zV=>exact .inl rfl
 |zW=>exact .inl rfl
 |Jx=>exact .inl rfl
 |done hd=>right;refine⟨by simp,by intro k;split <;>simp,by simp,by split <;>simp,fun _=> .inl rfl⟩
 |close e=>right;exact⟨by simp,by simp,by simp,by simp,fun _=> .inr (.inr ⟨rfl,rfl,e⟩)⟩
 |rel _=>right;exact⟨by simp,by simp,by simp,by simp,fun _=> .inr (.inl rfl)⟩
 |_=>right;exact⟨by simp,by simp,by simp,by simp,fun h=>by cases h⟩
theorem sY{N:Nat}(h:N=p.n+2):kS p N=p.n+1:=by unfold kS;rw[if_pos h]
theorem Inv.q7(I:Inv P p aK gs w γ ρ s t){i:Nat}(k:i<gs.size){j:Nat}{q:Bool}(hl:(γ i).lo= .spawn j q):i=0/\kS p gs.size=0:=by
 cases I.pr with
 |spawn j' q' hN h0 hj hw=>
  refine⟨?_,by unfold kS;rw[if_neg];have :j'<=p.n:=Nat.le_trans (Nat.le_add_right _ _) hj;omega⟩
  rcases Nat.eq_zero_or_pos i with e|e
  ·exact e
  ·have :=hw i e (by omega);simp only[jL]at this;rw[hl]at this;cases this
 |late hN hm hw md=>
  exfalso
  have hl:jL γ i= .spawn j q:=hl
  rcases Nat.eq_zero_or_pos i with e|e
  ·subst e;rcases hm with⟨J,h,_⟩|⟨h,_⟩<;>rw[hl]at h<;>cases h
  ·rcases Nat.lt_or_ge p.n i with b|hle
   ·obtain rfl:i=p.n+1:=by omega
    rcases md.closer with⟨B,e⟩|⟨B,e⟩|e|e|e<;>rw[hl]at e<;>cases e
   ·rcases hw i e hle with e|e|e|e|e|e<;>rw[hl]at e<;>cases e
theorem Inv.DT(I:Inv P p aK gs w γ ρ s t){i:Nat}(hi:gs[i]? =some g){es:Array Event}{E:Lo}(U:stepG P (i==0) g w= .go g' w' es)(hl:(γ i).lo≠ .out)(J:qU p (γ i).deaf (γ i).lo s es E s')(O:nu p w w')(G:Sh p s' w')
  (V:(s'.sm=s.sm/\s'.cl=s.cl)\/mayWake P g=true) (hk:Below P p aK (ρ i) (i==0) ⟨(γ i).own,(γ i).rd,deafBehind (γ i).deaf es,E⟩ g' w'):Next P p aK gs w sl ρ t i:=by
 obtain⟨r',W,hR⟩:=hk
 have v:i<gs.size:=(Array.getElem?_eq_some_iff.1 hi).1
 have B:=J.same
 refine I.go hi U W hR (fun j X ah=>O.rely G (I.apart X)) G (I.pr.Ky v J rfl) ?_ ?_ (V.imp (fun h=>⟨.inr h.1,h.2⟩) id) ?_ ?_ ?_ (fun h1 hn hw=>?_) (fun al D=>?_)
 ·have :=I.dj.gn v (own':=(γ i).own) (rd':=(γ i).rd) (size':=w.heap.size) (fun b h=> .inl h) (fun b h=>h) (Nat.le_refl _)
  rw[O.size];exact this
 ·have :=I.ti.app I.dj v (u:=MemOp.ofEvents i g.frame.fn g.frame.place es) (fun op h=>Go.ConcR.g_of_ofEvents op h) (fun op Y x hx=>by
   obtain⟨e,he,rfl⟩:=oD Y
   have k1:(∃ j,(γ i).lo= .spawn j true)->i=kS p gs.size:=by
    rintro⟨j,X⟩
    obtain⟨a,b⟩:=I.q7 v X
    rw[a,b]
   have k2:(γ i).lo= .cr->i=kS p gs.size:=by
    intro aa
    obtain⟨a,b,_⟩:=I.pr.closing v (.inr (.inr (.inl aa)))
    rw[sY b,a]
   exact J.tok k1 k2 e he x hx) (own':=(γ i).own) (fun b h=> .inl h) (Nat.le_refl _) (d':=deafBehind (γ i).deaf es) (by rw[Deaf_own,I.ti.df i v];rfl)
  have e:up (j6 γ) i (γ i).rd=j6 γ:=eR (j6 γ) i
  rw[O.size]
  simp only[e]
  exact this
 ·rcases B with e|⟨a,b,_⟩
  ·simp only[e]
  ·exact⟨fun⟨k,h⟩=>absurd h (b k),fun⟨k,h⟩=>absurd h (a k)⟩
 ·rcases B with e|⟨_,_,a,b,_⟩
  ·simp only[e]
  ·exact⟨fun h=>absurd h b,fun h=>absurd h a⟩
 ·intro e0 D
  rcases B with e|⟨_,_,_,_,c⟩
  ·rw[e]at D;exact hl D
  ·subst e0
   have hm:=I.pr.main
   simp only[jL]at hm
   rcases c D with h|h|⟨h,_⟩<;>rw[h]at hm<;>simp at hm
 ·refine J.quiet ?_
  rcases I.pr.Ke v with e|⟨_,_,e|⟨_,e⟩⟩|⟨e,_⟩
  ·omega
  ·exact absurd e (hw _)
  ·simp only[jL]at e
   rcases e with e|e|e|e|e
   ·exact .inl e
   ·exact .inr (.inl e)
   ·exact .inr (.inr (.inl e))
   ·exact .inr (.inr (.inr e))
   ·exact absurd e hl
  ·omega
 ·rcases B with e|⟨_,_,_,_,c⟩
  ·simp only[e]at D;exact absurd D hl
  ·rcases c D with h|h|⟨_,h⟩
   ·have :=(I.pr.workers v (.inl h)).2.1;omega
   ·have :=(I.pr.workers v (.inr (.inr (.inr h)))).2.1;omega
   ·exact .inr ⟨h.1,h.2,by assumption⟩
theorem Inv.DU(I:Inv P p aK gs w γ ρ s t){i:Nat}(E:gs[i]? =some g)(J:i≠0){es:Array Event}(hl:(γ i).lo= .out)(hm:∀ e,e∈es->Event.mute e=true)(v:stepG P (i==0) g w= .go g' w es)
  (O:Below P p aK (ρ i) (i==0) ⟨(γ i).own,(γ i).rd,deafBehind (γ i).deaf es, .out⟩ g' w):Next P p aK gs w sl ρ t i:=by
 obtain⟨X,B,U⟩:=O
 have k:i<gs.size:=(Array.getElem?_eq_some_iff.1 E).1
 refine I.go E v B U (fun j Y V=>cM.refl w) I.sh (by have :=eR (jL γ) i;simp only[jL,hl]at this ⊢;rw[this];exact I.pr)
  (I.dj.gn k (own':=(γ i).own) (rd':=(γ i).rd) (fun b h=> .inl h) (fun b h=>h) (Nat.le_refl _)) ?_ (.inl ⟨.inr rfl,rfl⟩) (by simp[hl]) (by simp[hl]) (fun e=>absurd e J) (fun _ _ _=>qZ hm _) (fun _ _=> .inl ⟨hl,qZ hm _⟩)
 have :=I.ti.app I.dj k (u:=MemOp.ofEvents i g.frame.fn g.frame.place es) (fun op h=>Go.ConcR.g_of_ofEvents op h) (fun op D x G=>by
   obtain⟨e,W,rfl⟩:=oD D
   rw[show({g:=i,fn:=g.frame.fn,pos:=g.frame.place,act:=MemAct.ofEvent e}:MemOp).act=MemAct.ofEvent e from rfl,qY (hm e W)]at G
   cases G) (own':=(γ i).own) (fun b h=> .inl h) (Nat.le_refl _) (d':=deafBehind (γ i).deaf es) (by rw[Deaf_own,I.ti.df i k];rfl)
 have e:up (j6 γ) i (γ i).rd=j6 γ:=eR (j6 γ) i
 simp only[e]
 exact this
theorem Inv.DV{gs':Array Goroutine}{i:Nat}(b:gs'.size=gs.size)(v:gs[i]? =some g)(B:g.status= .running)(e:gs'[i]? =some g')(k:g'.status≠ .running)(D:∀ j,j≠i->gs'[j]? =gs[j]?):Lt3 (meas gs' ρ) (meas gs ρ):=by
 unfold meas
 rw[b]
 refine Prod.Lex.right _ (Prod.Lex.right _ (zX v B e k (fun j _ h=>D j h) (Array.getElem?_eq_some_iff.1 v).1))
theorem Inv.DW(I:Inv P p aK gs w γ ρ s t){i:Nat}(hi:gs[i]? =some g)(D:qV g bB)(hs:g.status= .running)(aa:bB.status= .running)(ho:bB.offers=none)(hl:(γ i).lo= .cr)(hR:ig P p aK (ρ i) (i==0) (γ i) bB w)
  (h0:s.sm=0->stepG P (i==0) bB w= .go {bB with status:= .blocked} w #[])
  (h1:s.sm=1->∃ g' w',stepG P (i==0) bB w= .go g' w' (semEvents (smA p.Wg))/\nu p w w'/\Sh p ⟨0,0,0,false⟩ w'/\Below P p aK (ρ i) (i==0) ⟨(γ i).own,(γ i).rd,(γ i).deaf, .cs⟩ g' w'):Next P p aK gs w sl ρ t i:=by
 have v:i<gs.size:=(Array.getElem?_eq_some_iff.1 hi).1
 obtain⟨a2,hN,_,_⟩:=I.pr.closing v (.inr (.inr (.inl hl)))
 have B:=I.pr.HO v
 simp only[jL,hl]at B
 have ah:s.sm=0\/s.sm=1:=by rcases B.2 with⟨_,h⟩|⟨_,_,h⟩<;>omega
 rcases ah with h|h
 ·have U:stepG P (i==0) g w= .go {bB with status:= .blocked} w #[]:=by rw[D.step];exact h0 h
  have al:Go.Conc.woken P g {bB with status:= .blocked} w=id:=by funext o;simp[Go.Conc.woken]
  have J:=runT_crowd_go (sl:=sl) hi U
  rw[al,Array.map_id]at J
  have get:∀ j,(gs.setIfInBounds i {bB with status:= .blocked})[j]? =if j=i then some {bB with status:= .blocked}else gs[j]? :=fun j=>by
   by_cases e:j=i
   ·subst e;rw[if_pos rfl,Array.getElem?_setIfInBounds_self_of_lt v]
   ·rw[if_neg e,Array.getElem?_setIfInBounds_ne (fun x=>e x.symm)]
  have et:t++MemOp.ofEvents i g.frame.fn g.frame.place #[]=t:=by simp[MemOp.ofEvents]
  refine⟨_,w,sl,γ,ρ,s,_,J,Inv.DV (g':={bB with status:= .blocked}) (by simp) hi hs (by rw[get,if_pos rfl]) (by simp) (fun j e=>by rw[get,if_neg e]),?_⟩
  rw[et]
  have E:(gs.setIfInBounds i {bB with status:= .blocked}).size=gs.size:=by simp
  refine⟨by rw[E];exact I.pr,I.sh,by rw[E];exact I.dj,by rw[E];exact I.ti,fun j x G=>?_,fun a ha hb j k x G V=>?_,fun j a b c d=>I.lf j a b (by rwa[E]at c) d,fun a b=>I.cl (by rwa[E]at a) b,I.fi⟩
  ·rw[get]at G
   by_cases e:j=i
   ·subst e;rw[if_pos rfl]at G;cases G
    exact .bl bB rfl ho aa hl h hR
   ·rw[if_neg e]at G;exact I.sW j x G
  ·rw[get,if_neg (by omega)]at ha
   rw[get]at G
   by_cases e:j=i
   ·subst e;rw[hl]at V;cases V
   ·rw[if_neg e]at G;exact I.rv a ha hb j k x G V
 ·obtain⟨g',w',W,O,X,hk⟩:=h1 h
  obtain⟨r',av,ax⟩:=hk
  have U:stepG P (i==0) g w= .go g' w' (semEvents (smA p.Wg)):=by rw[D.step];exact W
  have a0:s.cl=false:=B.1
  refine I.go hi U av ax (fun j G a3=>O.rely X (I.apart G)) X (I.pr.acq v hl h) ?_ ?_ (.inl ⟨.inl rfl,a0.symm⟩) (by simp[hl]) (by simp[hl]) (fun e=>by omega) (fun a b=>by omega) (fun _ h=>by cases h)
  ·have :=I.dj.gn v (own':=(γ i).own) (rd':=(γ i).rd) (size':=w.heap.size) (fun b h=> .inl h) (fun b h=>h) (Nat.le_refl _)
   rw[O.size];exact this
  ·have Y:∀ (a:Addr) (wr:Bool),a.block=p.Wg->∀ x,(MemAct.ofEvent ⟨.cell a,wr,true⟩).touch?=some x->ID (gM γ i) (j6 γ i) p.Wg p.Ch (i=kS p gs.size) x:=fun a wr ha=>ny (.inr (.inr ⟨ha,rfl⟩))
   have :=I.ti.app I.dj v (u:=MemOp.ofEvents i g.frame.fn g.frame.place (semEvents (smA p.Wg))) (fun op h=>Go.ConcR.g_of_ofEvents op h) (fun op a1 x hx=>by
    obtain⟨e,he,rfl⟩:=oD a1
    simp[semEvents]at he
    rcases he with rfl|rfl|rfl|rfl
    ·simp[MemAct.ofEvent,MemAct.touch?]at hx
    ·exact Y _ _ rfl x hx
    ·exact Y _ _ rfl x hx
    ·simp[MemAct.ofEvent,MemAct.touch?]at hx) (own':=(γ i).own) (fun b h=> .inl h) (Nat.le_refl _) (d':=(γ i).deaf) (by rw[Deaf_own,I.ti.df i v];simp[fw,deafBehind,semEvents])
   have e:up (j6 γ) i (γ i).rd=j6 γ:=eR (j6 γ) i
   rw[O.size]
   simp only[e]
   exact this
end
section
variable {P:Program} {p:Pr} {aK:Value->World->Prop} {gs gs':Array Goroutine} {w w':World} {γ:Nat->kq} {ρ:Nat->cb} {s s':pg} {t:Trace} {g bB g' o:Goroutine} {sl:Option (Nat×Nat)} {r:cb} {Γ:kq} {main:Bool}
theorem oz.rely(S:oz P p aK r Γ s main o w)(D:cM p Γ w w'):oz P p aK r Γ s main o w':=by
 cases S with
 |on bB E hs vh h=>exact .on bB E hs vh (h.rely D)
 |fin hs hm hl hd=>exact .fin hs hm hl hd
 |bl bB B ho vh hl IE h=>exact .bl bB B ho vh hl IE (h.rely D)
 |ps k hm hl hd e v z M B I U V E=>exact .ps k hm hl hd e v z M B I (fun b x O=>by rw[D.ry.ab b (I b (by rw[O];simp))];exact U b x O) V E
 |pr J e z bB hm B G h=>exact .pr J e z bB hm B G (h.rely D)
theorem uL{q:Nat}{d q':Nat}(h:w.heap[p.Ch]? =some (.chan 0 #[] false q q false))(k:p.Wg≠p.Ch):nu p w ((w.at d).setChan p.Ch 0 #[] false q' q' false)/\((w.at d).setChan p.Ch 0 #[] false q' q' false).heap[p.Ch]? =some (.chan 0 #[] false q' q' false)/\((w.at d).setChan p.Ch 0 #[] false q' q' false).heap[p.Wg]? =w.heap[p.Wg]? :=by
 have v:p.Ch<w.heap.size:=(Array.getElem?_eq_some_iff.1 h).1
 refine⟨⟨⟨rfl,rfl,rfl,by simp[World.setChan,World.at]⟩,by simp[World.setChan,World.at],fun b _ B=>by simp[World.setChan,World.at,Array.getElem?_setIfInBounds_ne (fun e=>B e.symm)]⟩,by simp[World.setChan,World.at,v],by simp[World.setChan,World.at,Array.getElem?_setIfInBounds_ne (fun e=>k e.symm)]⟩
theorem Inv.meet(I:Inv P p aK gs w γ ρ s t){i:Nat}(B:i<gs.size)(h0:i≠0){a:Goroutine}{k:Nat}(hl:(γ i).lo= .wk k)(hd:(γ i).deaf=0){aa:Goroutine}{v:Value}{M:aD}(hM:∀ b,M b≠none->(γ i).own b\/(γ i).rd b)(hh:Holds M w)(ht:p.rX k M v)
  (b2:∀ af,gm p af->Below P p aK (ρ i) false ⟨no,no,0, .told⟩ (Go.Conc.served aa undef) af)
  {J:List Nat} {ga:Goroutine} {z:Value} (hR:j5 P p (Below P p aK (ρ 0)) (γ 0) bB w J ga z) {q d:Nat} (a5:w.heap[p.Ch]? =some (.chan 0 #[] false q q false))
  (X:gs'.size=gs.size) (e0:gs'[0]? =some (Go.Conc.served ga (recvd true v true))) (ei:gs'[i]? =some (Go.Conc.served aa undef)) (eo:∀ j,j≠0->j≠i->gs'[j]? =gs[j]?)
  {fi:FuncId} {pi:String} {fm:FuncId} {pm:String}:∃ G aq,Lt3 (meas gs' aq) (meas gs ρ)/\Inv P p aK gs' ((w.at d).setChan p.Ch 0 #[] false (q+1) (q+1) false) G aq s (t++bO i fi pi fm pm p.Ch q 0):=by
 have E:=I.pr.pos
 obtain⟨O,ah,al⟩:=uL (d:=d) (q':=q+1) a5 I.dj.ne
 generalize(w.at d).setChan p.Ch 0 #[] false (q+1) (q+1) false=w' at O ah al
 obtain⟨b3,av,a6,hN,a7,Y⟩:=I.pr.tell B hl hR.hl
 have ax:Sh p s w':=⟨by unfold WgAt;rw[al];exact I.sh.wg,q+1,by rw[a7];exact ah⟩
 have V:∀ j,j<gs.size->cM p (γ j) w w':=fun j W=>O.rely ax (I.apart W)
 have a1:∀ b,M b≠none-> ¬ (γ 0).own b/\b≠p.Wg/\b≠p.Ch:=fun b U=>by
  rcases hM b U with h'|h'
  ·exact⟨fun h=>I.dj.oo 0 i b E B (fun e=>h0 e.symm) h h',(I.dj.vg i b B h').2⟩
  ·exact⟨fun h=>I.dj.ord 0 i b E B h h',(I.dj.yv i b B h').2⟩
 have a8:Holds M w':=fun b x U=>by rw[(V i B).ry.ab b (hM b (by rw[U];simp))];exact hh b x U
 obtain⟨r0,ba,bc⟩:=hR.hk k M v w' (V 0 E) av a6 ht a8 a1
 obtain⟨ri,b4,bh⟩:=b2 w' ax.lv
 refine⟨up (up γ i ⟨no,no,0, .told⟩) 0 ⟨(γ 0).own,fun b=>(γ 0).rd b\/M b≠none,0, .recv (k::J)⟩,up (up ρ i ri) 0 r0,?_,?_⟩
 ·unfold meas
  rw[aG]
  exact Prod.Lex.left _ _ ba
 have g0:∀ j,j≠0->j≠i->up (up γ i ⟨no,no,0, .told⟩) 0 ⟨(γ 0).own,fun b=>(γ 0).rd b\/M b≠none,0, .recv (k::J)⟩ j=γ j:=fun j a b=>by rw[aU _ _ a,aU _ _ b]
 have gi:up (up γ i ⟨no,no,0, .told⟩) 0 ⟨(γ 0).own,fun b=>(γ 0).rd b\/M b≠none,0, .recv (k::J)⟩ i=⟨no,no,0, .told⟩:=by rw[aU _ _ h0,aG]
 have gz:up (up γ i ⟨no,no,0, .told⟩) 0 ⟨(γ 0).own,fun b=>(γ 0).rd b\/M b≠none,0, .recv (k::J)⟩ 0=⟨(γ 0).own,fun b=>(γ 0).rd b\/M b≠none,0, .recv (k::J)⟩:=aG _ _ _
 generalize a2:up (up γ i ⟨no,no,0, .told⟩) 0 ⟨(γ 0).own,fun b=>(γ 0).rd b\/M b≠none,0, .recv (k::J)⟩=G at g0 gi gz
 have a3:jL G=up (up (jL γ) i .told) 0 (.recv (k::J)):=by rw[<-a2,oA,oA]
 have a0:∀ op,op∈bO i fi pi fm pm p.Ch q 0->op.act.touch?=none:=fun op h=>(ef op h).1
 refine⟨by rw[X,a3];exact Y,ax,?_,?_,fun j x W=>?_,fun x hx U=>?_,fun j j1 jn jl hw=>?_,fun _ hc=>?_,fun hf=>?_⟩
 ·rw[X,O.size]
  have own:∀ j b,gM G j b->gM γ j b:=fun j b h=>by
   by_cases e:j=0
   ·subst e;simp only[gM,gz]at h;exact h
   ·by_cases D:j=i
    ·subst D;simp only[gM,gi]at h;exact h.elim
    ·simp only[gM,g0 j e D]at h;exact h
  have rd:∀ j b,j6 G j b->j6 γ j b\/(j=0/\M b≠none):=fun j b h=>by
   by_cases e:j=0
   ·subst e;simp only[j6,gz]at h;exact h.imp id fun h=>⟨rfl,h⟩
   ·by_cases D:j=i
    ·subst D;simp only[j6,gi]at h;exact h.elim
    ·simp only[j6,g0 j e D]at h;exact .inl h
  refine⟨fun a b x ha U bl h1 h2=>I.dj.oo a b x ha U bl (own _ _ h1) (own _ _ h2),fun a b x ha U h1 h2=>?_,fun a b ha h=>I.dj.vg a b ha (own _ _ h),fun a b ha h=>?_,I.dj.wg,I.dj.ch,I.dj.ne⟩
  ·rcases rd b x h2 with h2|⟨_,bn⟩
   ·exact I.dj.ord a b x ha U (own _ _ h1) h2
   ·by_cases e:a=i
    ·subst e;simp only[gM,gi]at h1;exact h1
    ·rcases hM x bn with h'|h'
     ·exact I.dj.oo a i x ha B e (own _ _ h1) h'
     ·exact I.dj.ord a i x ha B (own _ _ h1) h'
  ·rcases rd a b h with h|⟨_,bo⟩
   ·exact I.dj.yv a b ha h
   ·rcases hM b bo with h'|h'
    ·exact I.dj.vg i b B h'
    ·exact I.dj.yv i b B h'
 ·rw[X,O.size]
  have h1:=I.ti.meet B E (show fw γ 0=0 from hR.hd) (show fw γ i=0 from hd) (fi:=fi) (pi:=pi) (fm:=fm) (pm:=pm) (c:=p.Ch) (k:=q) (cap:=0) (rd0:=fun b=>(γ 0).rd b\/M b≠none) (fun b U=>by
   rcases U with h|h
   ·exact .inl h
   ·exact .inr (hM b h))
  have bp:fw G=fw γ:=by
   funext j
   by_cases e:j=0
   ·subst e;simp only[fw,gz];exact hR.hd.symm
   ·by_cases D:j=i
    ·subst D;simp only[fw,gi];exact hd.symm
    ·simp only[fw,g0 j e D]
  rw[bp]
  refine h1.less (fun j b W h=>?_) (fun j b W h=>?_)
  ·by_cases e:j=0
   ·subst e;simp only[gM,gz]at h;exact h
   ·by_cases D:j=i
    ·subst D;simp only[gM,gi]at h;exact h.elim
    ·simp only[gM,g0 j e D]at h;exact h
  ·left
   by_cases e:j=0
   ·subst e;simp only[j6,gz]at h;rw[aG];exact h
   ·rw[aU _ _ e]
    by_cases D:j=i
    ·subst D;simp only[j6,gi]at h;exact h.elim
    ·simp only[j6,g0 j e D]at h;exact h
 ·by_cases e:j=0
  ·subst e
   rw[e0]at W;cases W
   rw[gz,aG]
   exact oz.of_run bc (.inr (by simp))
  ·rw[aU _ _ e]
   by_cases D:j=i
   ·subst D
    rw[ei]at W;cases W
    rw[gi,aG,show(j==0)=false by simp[e]]
    exact oz.of_run bh (.inl rfl)
   ·rw[eo j e D]at W
    rw[g0 j e D,aU _ _ D]
    exact(I.sW j x W).rely (V j (Array.getElem?_eq_some_iff.1 W).1)
 ·rw[e0]at hx;cases hx;cases U
 ·rw[X]at jl
  by_cases D:j=i
  ·subst D
   intro x hx hc
   rcases qX hx with⟨bq,br⟩|⟨ca,_⟩
   ·obtain⟨op,ho,bu⟩:=Option.map_eq_some_iff.1 br
    have av:Knows t j x:=by have :=knows_own ho;rwa[bu]at this
    exact mA (by rw[I.ti.df j B];exact hd) (by rw[I.ti.df 0 E];exact hR.hd) av
   ·obtain⟨y,hy⟩:=gL hc
    rcases dr hy with⟨bq,_⟩|⟨_,op,_,bx,a4⟩
    ·omega
    ·rw[a0 op bx]at a4;cases a4
  ·rw[g0 j (by omega) D]at hw
   exact(I.lf j j1 jn jl hw).other fun op h=> .inr (a0 op h)
 ·have b1:p.n+1≠i:=by
   rintro rfl
   omega
  rw[g0 _ (by omega) b1]at hc
  exact(I.cl hN hc).other fun op h=> .inr (a0 op h)
 ·rw[gz]at hf;cases hf
theorem Inv.ends(I:Inv P p aK gs w γ ρ s t){a:Goroutine}(ha:gs[0]? =some a){J:List Nat}{U:Goroutine}{z:Value}(hR:j5 P p (Below P p aK (ρ 0)) (γ 0) bB w J U z)(al:s.cl=true){fm:FuncId}{pm:String}:
  ∃ av aq,Lt3 (meas (gs.setIfInBounds 0 (Go.Conc.served U (recvd true z false))) aq) (meas gs ρ)/\Inv P p aK (gs.setIfInBounds 0 (Go.Conc.served U (recvd true z false))) w av aq s (t++ #[{g:=0,fn:=fm,pos:=pm,act:= .recvClosed p.Ch}]):=by
 have k:=I.pr.pos
 obtain⟨hJ,hN,ae,D⟩:=I.pr.ends hR.hl al
 obtain⟨r0,ax,a0⟩:=hR.hc w (.refl w) hJ
 have v:(gs.setIfInBounds 0 (Go.Conc.served U (recvd true z false))).size=gs.size:=by simp
 have get:∀ j,(gs.setIfInBounds 0 (Go.Conc.served U (recvd true z false)))[j]? =if j=0 then some (Go.Conc.served U (recvd true z false))else gs[j]? :=fun j=>by
  by_cases e:j=0
  ·subst e;rw[if_pos rfl,Array.getElem?_setIfInBounds_self_of_lt k]
  ·rw[if_neg e,Array.getElem?_setIfInBounds_ne (fun x=>e x.symm)]
 have E:∀ op,op∈(#[{g:=0,fn:=fm,pos:=pm,act:= .recvClosed p.Ch}]:Trace)->op.act.touch?=none:=fun op h=>by simp at h;subst h;rfl
 have a1:∀ op,op∈(#[{g:=0,fn:=fm,pos:=pm,act:= .recvClosed p.Ch}]:Trace)->op.g=0:=fun op h=>by simp at h;subst h;rfl
 refine⟨up γ 0 ⟨(γ 0).own,(γ 0).rd,0, .fin⟩,up ρ 0 r0,by unfold meas;rw[aG];exact Prod.Lex.left _ _ ax,?_⟩
 refine⟨by rw[v,oA];exact D,I.sh,?_,?_,fun j x V=>?_,fun x O a2=>?_,fun j j1 jn jl hw=>?_,fun W X=>?_,fun hf=>?_⟩
 ·rw[v,lI,oC]
  exact I.dj.gn k (fun b h=> .inl h) (fun b h=>h) (Nat.le_refl _)
 ·rw[v,lI,oC,nw]
  have :=I.ti.app I.dj k (u:= #[{g:=0,fn:=fm,pos:=pm,act:= .recvClosed p.Ch}]) a1 (fun op h x O=>by rw[E op h]at O;cases O) (own':=(γ 0).own) (fun b h=> .inl h) (Nat.le_refl _) (d':=0) (by
   rw[Deaf_push];simp[deafStep];rw[I.ti.df 0 k];exact hR.hd)
  have e:up (j6 γ) 0 (γ 0).rd=j6 γ:=eR (j6 γ) 0
  simp only[e];exact this
 ·rw[get]at V
  by_cases e:j=0
  ·subst e
   rw[if_pos rfl]at V;cases V
   rw[aG,aG]
   exact oz.of_run a0 (.inr (by simp))
  ·rw[if_neg e]at V
   rw[aU _ _ e,aU _ _ e]
   exact I.sW j x V
 ·rw[get,if_pos rfl]at O;cases O;cases a2
 ·rw[v]at jl
  rw[aU _ _ (by omega)]at hw
  exact(I.lf j j1 jn jl hw).other fun op h=> .inr (E op h)
 ·rw[v]at W
  rw[aU _ _ (by omega)]at X
  exact(I.cl W X).other fun op h=> .inr (E op h)
 ·obtain⟨q,h1,h2,h3,h4⟩:=I.cl hN ae
  have hl:=lt_of_act? h1
  have B:(t++ #[({g:=0,fn:=fm,pos:=pm,act:= .recvClosed p.Ch}:MemOp)])[t.size]? =some {g:=0,fn:=fm,pos:=pm,act:= .recvClosed p.Ch}:=by simp
  have G:(t++ #[({g:=0,fn:=fm,pos:=pm,act:= .recvClosed p.Ch}:MemOp)]).heard t.size:=⟨0,by simp only[Trace.g?,B,Option.map_some],by rw[deaf_old (Nat.le_refl _)];exact(I.ti.df 0 k).trans hR.hd⟩
  have Y:HappensBefore (t++ #[({g:=0,fn:=fm,pos:=pm,act:= .recvClosed p.Ch}:MemOp)]) q t.size:= .single (.inr ⟨.closed (c:=p.Ch) (by rw[act?_old hl];exact h1) (by rw[act?_of B]),(heard_old hl).2 h3,G⟩)
  intro x O X
  rcases qX O with⟨aa,a3⟩|⟨a5,_⟩
  ·have a2:=(h4 x a3 ((counts_old aa).1 X)).app #[({g:=0,fn:=fm,pos:=pm,act:= .recvClosed p.Ch}:MemOp)]
   exact⟨t.size,_,B,rfl, .inr (a2.hb Y)⟩
  ·obtain⟨y,hy⟩:=gL X
   rcases dr hy with⟨aa,_⟩|⟨_,op,_,a4,ah⟩
   ·omega
   ·rw[E op a4]at ah;cases ah
theorem oz.wW(S:oz P p aK r Γ s main o w):offersAt o p.Ch true= []\/(offersAt o p.Ch true= [0]/\∃ k e v z M,Γ.lo= .wk k/\Γ.deaf=0/\o=parked e #[scase p.Ch v z] .send/\(∀ b,M b≠none->Γ.own b\/Γ.rd b)/\Holds M w/\p.rX k M v/\main=false/\∀ af,gm p af->Below P p aK r false ⟨no,no,0, .told⟩ (Go.Conc.served e undef) af):=by
 cases S with
 |on bB hk hs=>exact .inl (offersAt_of_not_blocked (by rw[hs];simp) _ _)
 |fin hs=>exact .inl (offersAt_of_not_blocked (by rw[hs];simp) _ _)
 |bl bB hg ho=>left;rw[hg];simp[offersAt,ho]
 |ps k hm hl hd e v z M hg hM hh ht hk=>
  right
  refine⟨by rw[hg,offersAt_parked_send,if_pos rfl],k,e,v,z,M,hl,hd,hg,hM,hh,ht,hm,hk⟩
 |pr J e z bB hm hg=>left;rw[hg,offersAt_parked_recv']
theorem oz.pj(S:oz P p aK r Γ s main o w):offersAt o p.Ch false= []\/(offersAt o p.Ch false= [0]/\main=true/\o.status= .blocked/\∃ J b z bB,o=parked b #[rcase p.Ch z] (.recv true)/\s.cl=false/\j5 P p (Below P p aK r) Γ bB w J b z):=by
 cases S with
 |on bB hk hs=>exact .inl (offersAt_of_not_blocked (by rw[hs];simp) _ _)
 |fin hs=>exact .inl (offersAt_of_not_blocked (by rw[hs];simp) _ _)
 |bl bB hg ho=>left;rw[hg];simp[offersAt,ho]
 |ps k hm hl hd b v z M hg=>left;rw[hg,offersAt_parked_send']
 |pr J b z bB hm hg Kg h=>exact .inr ⟨by rw[hg,offersAt_parked_recv,if_pos rfl],hm,by rw[hg];rfl,J,b,z,bB,hg,Kg,h⟩
theorem sZ{i j:Nat}{x:Goroutine}(h:(gs.setIfInBounds i ph)[j]? =some x):(j=i/\x=ph)\/(j≠i/\gs[j]? =some x):=getElem?_stand gs i j x h
theorem Inv.I2(I:Inv P p aK gs w γ ρ s t){i:Nat}(U:gs[i]? =some g)(V:g.status= .running)(W:g'.status= .blocked)(S:oz P p aK (ρ i) (γ i) s (i==0) g' w)
  (D:(i=0->∀ (j k:Nat) (x:Goroutine),gs[j]? =some x->(γ j).lo= .wk k->x.status= .running)/\(i≠0->∀ a,gs[0]? =some a->a.status= .blocked->False)):
  Lt3 (meas (gs.setIfInBounds i g') ρ) (meas gs ρ)/\Inv P p aK (gs.setIfInBounds i g') w γ ρ s t:=by
 have E:i<gs.size:=(Array.getElem?_eq_some_iff.1 U).1
 have v:(gs.setIfInBounds i g').size=gs.size:=by simp
 have get:∀ j,(gs.setIfInBounds i g')[j]? =if j=i then some g' else gs[j]? :=fun j=>by
  by_cases e:j=i
  ·subst e;rw[if_pos rfl,Array.getElem?_setIfInBounds_self_of_lt E]
  ·rw[if_neg e,Array.getElem?_setIfInBounds_ne (fun x=>e x.symm)]
 refine⟨Inv.DV (g':=g') v U V (by rw[get,if_pos rfl]) (by rw[W];simp) (fun j e=>by rw[get,if_neg e]),by rw[v];exact I.pr,I.sh,by rw[v];exact I.dj,by rw[v];exact I.ti,fun j x B=>?_,fun a G J j k x B hl=>?_,fun j a b c d=>I.lf j a b (by rwa[v]at c) d,fun a b=>I.cl (by rwa[v]at a) b,I.fi⟩
 ·rw[get]at B
  by_cases e:j=i
  ·subst e;rw[if_pos rfl]at B;cases B;exact S
  ·rw[if_neg e]at B;exact I.sW j x B
 ·rw[get]at G B
  by_cases O:(0:Nat)=i
  ·subst O
   by_cases e:j=0
   ·subst e
    have :=I.pr.main
    simp only[jL]at this
    rw[hl]at this
    simp at this
   ·rw[if_neg e]at B
    exact D.1 rfl j k x B hl
  ·rw[if_neg O]at G
   exact(D.2 (fun x=>O x.symm) a G J).elim
theorem Inv.DX(I:Inv P p aK gs w γ ρ s t){i:Nat}(hi:gs[i]? =some g)(E:g.status= .running)(h0:i≠0){k:Nat}(hl:(γ i).lo= .wk k)(hd:(γ i).deaf=0){D:Goroutine}{v z:Value}{M:aD}(hM:∀ b,M b≠none->(γ i).own b\/(γ i).rd b)(hh:Holds M w)(ht:p.rX k M v)
  (aa:stepG P (i==0) g w= .comm D #[scase p.Ch v z] true .send w #[]) (hk:∀ af,gm p af->Below P p aK (ρ i) false ⟨no,no,0, .told⟩ (Go.Conc.served D undef) af):Next P p aK gs w sl ρ t i:=by
 have W:i<gs.size:=(Array.getElem?_eq_some_iff.1 hi).1
 have X:=I.pr.pos
 obtain⟨a,ha⟩:∃ a,gs[0]? =some a:=⟨_,Array.getElem?_eq_getElem X⟩
 have av:s.cl=false:=by
  cases hP:I.pr with
  |spawn _ _ _ _ _ _ E=>rw[E]
  |late hN hm hw md=>
   cases md with
   |opn B U ho hB E=>rw[E]
   |pD B U ho hB E=>rw[E]
   |reg U ho hB E=>rw[E]
   |last U L _ _ hL=>rcases hL with⟨_,E⟩|⟨_,E⟩<;>rw[E]
   |sema U ho E=>rw[E]
   |done U ho E=>rw[E]
   |shut U ho E=>
    exfalso
    rcases Nat.lt_or_ge p.n i with h|h
    ·have :i=p.n+1:=by omega
     subst this;simp only[jL]at U;rw[hl]at U;cases U
    ·have :=ho i (by omega) h;simp only[jL]at this;rw[hl]at this;cases this
 obtain⟨q,V⟩:=I.sh.ch
 rw[av]at V
 have Y:∀ (j:Nat) (x:Goroutine),j≠0->(gs.setIfInBounds i ph)[j]? =some x->offersAt x p.Ch false= []:=by
  intro j x hj O
  rcases sZ O with⟨rfl,rfl⟩|⟨a5,O⟩
  ·rfl
  ·rcases(I.sW j x O).pj with h|⟨_,hm,_⟩
   ·exact h
   ·simp at hm;exact absurd hm hj
 have ah:(gs.setIfInBounds i ph)[0]? =some a:=by rw[Array.getElem?_setIfInBounds_ne h0];exact ha
 rcases(I.sW 0 a ha).pj with h|⟨ax,_,_,J,ga,za,bB,a0,_,hR⟩
 ·
  have a1:partners (gs.setIfInBounds i ph) p.Ch false= []:=partners_nil fun j x O=>by
   by_cases e:j=0
   ·subst e;rw[ah]at O;cases O;exact h
   ·exact Y j x e O
  have G:=crowd_waits (sl:=sl) hi aa (fun cc al=>by
   simp at al;subst al
   exact ways_send_none V (Nat.zero_le _) a1)
  have a2:a.status≠ .blocked:=by
   cases I.sW 0 a ha with
   |on _ _ E=>rw[E];simp
   |fin E=>rw[E];simp
   |bl _ _ _ _ hl=>
    have :=I.pr.main
    simp only[jL]at this;rw[hl]at this;simp at this
   |ps _ hm=>cases hm
   |pr J D z bB hm hg=>rw[hg,offersAt_parked_recv,if_pos rfl]at h;cases h
  obtain⟨h1,h2⟩:=I.I2 hi E (g':=parked D #[scase p.Ch v z] .send) rfl (.ps k (by simp[h0]) hl hd D v z M rfl hM hh ht hk) ⟨fun e=>absurd e h0,fun _ x O U=>by rw[ha]at O;cases O;exact a2 U⟩
  refine⟨_,_,sl,γ,ρ,s,_,G,h1,?_⟩
  have et:t++MemOp.ofEvents i g.frame.fn g.frame.place #[]=t:=by simp[MemOp.ofEvents]
  rw[et];exact h2
 ·
  have a3:partners (gs.setIfInBounds i ph) p.Ch false= [(0,0)]:=by
   rw[partners_one ah fun j x hj O=>Y j x hj O,ax];rfl
  have G:=crowd_send_meets (sl:=sl) hi aa V (fun e=>h0 e.symm) (by rw[ha,a0]) a3
  rw[finishComm_recv,finishComm_send]at G
  obtain⟨a4,aq,h1,h2⟩:=I.meet (gs':=(gs.setIfInBounds 0 (Go.Conc.served ga (recvd true v true))).setIfInBounds i (Go.Conc.served D undef)) (a:=a) W h0 hl hd hM hh ht hk hR (d:=w.drawn) V (by simp)
   (by rw[Array.getElem?_setIfInBounds_ne h0,Array.getElem?_setIfInBounds_self_of_lt X]) (by rw[Array.getElem?_setIfInBounds_self_of_lt (by simpa using W)])
   (fun j j0 ji=>by rw[Array.getElem?_setIfInBounds_ne (fun e=>ji e.symm),Array.getElem?_setIfInBounds_ne (fun e=>j0 e.symm)]) (fi:=D.frame.fn) (pi:=D.frame.place) (fm:=ga.frame.fn) (pm:=ga.frame.place)
  refine⟨_,_,sl,a4,aq,s,_,G,h1,?_⟩
  have et:t++(MemOp.ofEvents i g.frame.fn g.frame.place #[]++bO i D.frame.fn D.frame.place ga.frame.fn ga.frame.place p.Ch q 0)=t++bO i D.frame.fn D.frame.place ga.frame.fn ga.frame.place p.Ch q 0:=by simp[MemOp.ofEvents]
  have e2:(w.at w.drawn).setChan p.Ch 0 #[] false (q+1) (q+1) false=w.setChan p.Ch 0 #[] false (q+1) (q+1) false:=rfl
  rw[e2]at h2
  rw[<-et]at h2
  exact h2
theorem Inv.DY(I:Inv P p aK gs w γ ρ s t)(hi:gs[0]? =some g)(hs:g.status= .running)(ah:qV g bB){J:List Nat}{E:Goroutine}{z:Value}(hR:j5 P p (Below P p aK (ρ 0)) (γ 0) bB w J E z):Next P p aK gs w sl ρ t 0:=by
 have a0:=I.pr.pos
 have al:stepG P ((0:Nat)==0) g w= .comm E #[rcase p.Ch z] true (.recv true) w #[]:=by
  rw[show((0:Nat)==0)=true from rfl,ah.step];exact hR.h w (.refl w)
 obtain⟨q,V⟩:=I.sh.ch
 have aa:∀ (j x:Nat),(j,x)∈partners (gs.setIfInBounds 0 ph) p.Ch true->x=0/\j≠0/\∃ o,gs[j]? =some o/\∃ k B v zj M,(γ j).lo= .wk k/\(γ j).deaf=0/\o=parked B #[scase p.Ch v zj] .send/\(∀ b,M b≠none->(γ j).own b\/(γ j).rd b)/\Holds M w/\p.rX k M v/\∀ af,gm p af->Below P p aK (ρ j) false ⟨no,no,0, .told⟩ (Go.Conc.served B undef) af:=by
  intro j x hm
  obtain⟨o,W,X⟩:=mem_partners.1 hm
  rcases sZ W with⟨rfl,rfl⟩|⟨G,W⟩
  ·rw[offersAt_ph]at X;cases X
  ·rcases(I.sW j o W).wW with h|⟨h,k,B,v,zj,M,bn,bo,bp,bq,br,bu,b1,bx⟩
   ·rw[h]at X;cases X
   ·rw[h]at X;simp at X
    exact⟨X,G,o,W,k,B,v,zj,M,bn,bo,bp,bq,br,bu,bx⟩
 by_cases O:s.cl=true
 ·rw[O]at V
  obtain⟨hJ,hN,ae,_⟩:=I.pr.ends hR.hl O
  have a6:partners (gs.setIfInBounds 0 ph) p.Ch true= []:=by
   apply List.eq_nil_iff_forall_not_mem.2
   rintro⟨j,x⟩ hm
   obtain⟨_,G,o,W,k,_,_,_,_,U,_⟩:=aa j x hm
   obtain⟨_,_,_,_,hc,_⟩:=I.pr.tell (Array.getElem?_eq_some_iff.1 W).1 U hR.hl
   rw[O]at hc;cases hc
  have D:=crowd_recv_closed (sl:=sl) hi al V a6
  rw[finishComm_recv]at D
  obtain⟨av,aq,h1,h2⟩:=I.ends hi hR O (fm:=E.frame.fn) (pm:=E.frame.place)
  refine⟨_,_,sl,av,aq,s,_,D,h1,?_⟩
  have et:t++(MemOp.ofEvents 0 g.frame.fn g.frame.place #[]++ #[({g:=0,fn:=E.frame.fn,pos:=E.frame.place,act:= .recvClosed p.Ch}:MemOp)])=t++ #[({g:=0,fn:=E.frame.fn,pos:=E.frame.place,act:= .recvClosed p.Ch}:MemOp)]:=by simp[MemOp.ofEvents]
  rw[<-et]at h2
  exact h2
 ·have O:s.cl=false:=by simpa using O
  rw[O]at V
  by_cases ax:partners (gs.setIfInBounds 0 ph) p.Ch true= []
  ·have D:=crowd_waits (sl:=sl) hi al (fun cc a1=>by
    simp at a1;subst a1
    exact ways_recv_none V ax)
   have Y:∀ (j k:Nat) (x:Goroutine),gs[j]? =some x->(γ j).lo= .wk k->x.status= .running:=by
    intro j k x X U
    cases I.sW j x X with
    |on _ _ hs=>exact hs
    |fin _ _ hl=>rw[hl]at U;cases U
    |bl _ _ _ _ hl=>rw[hl]at U;cases U
    |ps k' hm hl hd B v zj M hg=>
     exfalso
     have G:j≠0:=by rintro rfl;simp at hm
     have :(j,0)∈partners (gs.setIfInBounds 0 ph) p.Ch true:=mem_partners.2 ⟨x,by rw[Array.getElem?_setIfInBounds_ne (fun e=>G e.symm)];exact X,by rw[hg,offersAt_parked_send,if_pos rfl];simp⟩
     rw[ax]at this;cases this
    |pr _ _ _ _ _ hg _ hr=>have :=hr.hl;rw[U]at this;cases this
   obtain⟨h1,h2⟩:=I.I2 hi hs (g':=parked E #[rcase p.Ch z] (.recv true)) rfl (.pr J E z bB rfl rfl O hR) ⟨fun _=>Y,fun e=>absurd rfl e⟩
   refine⟨_,_,sl,γ,ρ,s,_,D,h1,?_⟩
   have et:t++MemOp.ofEvents 0 g.frame.fn g.frame.place #[]=t:=by simp[MemOp.ofEvents]
   rw[et];exact h2
  ·obtain⟨j,gj,vj,zj,a8,d,G,hj,D⟩:=crowd_recv_meets_some (sl:=sl) hi al V ax fun j x hm=>by
    obtain⟨a,b,o,W,k,B,v,zj,M,_,_,a7,_⟩:=aa j x hm
    exact⟨a,b,B,v,zj, .send,by rw[W,a7]⟩
   have a2:j<gs.size:=(Array.getElem?_eq_some_iff.1 hj).1
   cases I.sW j _ hj with
   |on _ _ hs=>cases hs
   |fin hs=>cases hs
   |bl bB hg W=>have :=congrArg Goroutine.offers hg;simp[parked,W]at this
   |pr J' B z' Kh hm=>simp at hm;exact absurd hm G
   |ps k hm hl hd B v KM M hg hM hh ht hk=>
    have a3:=congrArg Goroutine.offers hg
    simp only[parked,Option.some.injEq,Prod.mk.injEq]at a3
    obtain⟨a4,rfl⟩:=a3
    simp[scase]at a4
    obtain⟨rfl,rfl⟩:=a4
    have a5:gj.finishComm P #[scase p.Ch vj zj] .send 0 undef false=Go.Conc.served B undef:=by
     obtain⟨f,c,s1,dy,o1⟩:=gj
     obtain⟨f',c',ba,bc,bh⟩:=B
     simp only[parked,Goroutine.mk.injEq]at hg
     obtain⟨rfl,rfl,_,rfl,_⟩:=hg
     rfl
    rw[a5,finishComm_recv]at D
    obtain⟨av,aq,h1,h2⟩:=I.meet (gs':=(gs.setIfInBounds j (Go.Conc.served B undef)).setIfInBounds 0 (Go.Conc.served E (recvd true vj true))) (a:=g) a2 G hl hd hM hh ht hk hR (d:=d) V (by simp)
     (by rw[Array.getElem?_setIfInBounds_self_of_lt (by simpa using a0)]) (by rw[Array.getElem?_setIfInBounds_ne (fun e=>G e.symm),Array.getElem?_setIfInBounds_self_of_lt a2])
     (fun x x0 xj=>by rw[Array.getElem?_setIfInBounds_ne (fun e=>x0 e.symm),Array.getElem?_setIfInBounds_ne (fun e=>xj e.symm)]) (fi:=gj.frame.fn) (pi:=gj.frame.place) (fm:=E.frame.fn) (pm:=E.frame.place)
    refine⟨_,_,sl,av,aq,s,_,D,h1,?_⟩
    have et:t++(MemOp.ofEvents 0 g.frame.fn g.frame.place #[]++bO j gj.frame.fn gj.frame.place E.frame.fn E.frame.place p.Ch q 0)=t++bO j gj.frame.fn gj.frame.place E.frame.fn E.frame.place p.Ch q 0:=by simp[MemOp.ofEvents]
    rw[<-et]at h2
    exact h2
theorem Inv.wX(I:Inv P p aK gs w γ ρ s t)(hi:gs[0]? =some g){ch:Goroutine}(ax:stepG P true g w= .spawn g' ch w #[]){X:aI}(hX:∀ b,X b->(γ 0).own b){l J:Lo}(hd:(γ 0).deaf=0)(bc:(γ 0).lo≠ .fin)
  (a0:cz p (gs.size+1) (up (up (jL γ) 0 l) gs.size J) s) (a1:kS p (gs.size+1)=kS p gs.size\/(kS p gs.size=0/\kS p (gs.size+1)=gs.size)) (hl1:l≠ .out/\l≠ .fin) (hl2:J≠ .out) (a2:gs.size<=p.n->∃ k,J= .wk k) (bh:gs.size<=p.n+1) (bl:∀ j,1<=j->j<gs.size->∃ k,(γ j).lo= .wk k)
  (a3:Below P p aK (ρ 0) true ⟨fun b=>(γ 0).own b/\ ¬ X b,fun b=>(γ 0).rd b\/X b,0,l⟩ g' w) (a4:Below P p aK (ρ 0) false ⟨no,fun b=>(γ 0).rd b\/X b,0,J⟩ ch w):Next P p aK gs w sl ρ t 0:=by
 have B:=I.pr.pos
 obtain⟨r0,a5,aa⟩:=a3
 obtain⟨rN,bn,a6⟩:=a4
 have ah:=runT_crowd_spawn (sl:=sl) (i:=0) hi ax
 have V:runT P (crowd gs w sl) 0=(.next (crowd ((gs.setIfInBounds 0 g').push ch) w sl),#[({g:=0,fn:=g.frame.fn,pos:=g.frame.place,act:= .go gs.size}:MemOp),{g:=gs.size,fn:=ch.frame.fn,pos:=g.frame.place,act:= .start}]):=by
  rw[ah];rfl
 have G:((gs.setIfInBounds 0 g').push ch).size=gs.size+1:=by simp
 have get:∀ j,((gs.setIfInBounds 0 g').push ch)[j]? =if j=gs.size then some ch else if j=0 then some g' else gs[j]? :=fun j=>by
  rw[Array.getElem?_push]
  by_cases e:j=gs.size
  ·subst e;simp
  ·rw[if_neg (by simpa using e),if_neg e]
   by_cases D:j=0
   ·subst D;rw[if_pos rfl,Array.getElem?_setIfInBounds_self_of_lt B]
   ·rw[if_neg D,Array.getElem?_setIfInBounds_ne (fun x=>D x.symm)]
 refine⟨_,w,sl,up (up γ 0 ⟨fun b=>(γ 0).own b/\ ¬ X b,fun b=>(γ 0).rd b\/X b,0,l⟩) gs.size ⟨no,fun b=>(γ 0).rd b\/X b,0,J⟩,up (up ρ 0 r0) gs.size rN,s,_,V,?_,?_⟩
 ·unfold meas
  rw[aU _ _ (by omega),aG]
  exact Prod.Lex.left _ _ a5
 have gz:up (up γ 0 ⟨fun b=>(γ 0).own b/\ ¬ X b,fun b=>(γ 0).rd b\/X b,0,l⟩) gs.size ⟨no,fun b=>(γ 0).rd b\/X b,0,J⟩ 0=⟨fun b=>(γ 0).own b/\ ¬ X b,fun b=>(γ 0).rd b\/X b,0,l⟩:=by rw[aU _ _ (by omega),aG]
 have W:up (up γ 0 ⟨fun b=>(γ 0).own b/\ ¬ X b,fun b=>(γ 0).rd b\/X b,0,l⟩) gs.size ⟨no,fun b=>(γ 0).rd b\/X b,0,J⟩ gs.size=⟨no,fun b=>(γ 0).rd b\/X b,0,J⟩:=aG _ _ _
 have go:∀ j,j≠0->j≠gs.size->up (up γ 0 ⟨fun b=>(γ 0).own b/\ ¬ X b,fun b=>(γ 0).rd b\/X b,0,l⟩) gs.size ⟨no,fun b=>(γ 0).rd b\/X b,0,J⟩ j=γ j:=fun j a b=>by rw[aU _ _ b,aU _ _ a]
 generalize U:up (up γ 0 ⟨fun b=>(γ 0).own b/\ ¬ X b,fun b=>(γ 0).rd b\/X b,0,l⟩) gs.size ⟨no,fun b=>(γ 0).rd b\/X b,0,J⟩=al at gz W go
 have own:∀ j b,gM al j b->gM γ j b/\j≠gs.size/\(j=0-> ¬ X b):=fun j b h=>by
  by_cases e:j=gs.size
  ·subst e;simp only[gM,W]at h;exact h.elim
  ·by_cases D:j=0
   ·subst D;simp only[gM,gz]at h;exact⟨h.1,e,fun _=>h.2⟩
   ·simp only[gM,go j D e]at h;exact⟨h,e,fun x=>absurd x D⟩
 have rd:∀ j b,j6 al j b->(j≠gs.size/\j6 γ j b)\/((j=0\/j=gs.size)/\(j6 γ 0 b\/X b)):=fun j b h=>by
  by_cases e:j=gs.size
  ·subst e;simp only[j6,W]at h;exact .inr ⟨.inr rfl,h⟩
  ·by_cases D:j=0
   ·subst D;simp only[j6,gz]at h;exact .inr ⟨.inl rfl,h⟩
   ·simp only[j6,go j D e]at h;exact .inl ⟨e,h⟩
 refine⟨by rw[G,<-U,oA,oA];exact a0,I.sh,?_,?_,fun j x O=>?_,fun a Y hb=>?_,fun j j1 jn jl hw=>?_,fun hN hc=>?_,fun hf=>?_⟩
 ·rw[G]
  refine⟨fun a b x Y hb a7 E v=>?_,fun a b x Y hb E v=>?_,fun a b Y h=>?_,fun a b Y h=>?_,I.dj.wg,I.dj.ch,I.dj.ne⟩
  ·obtain⟨E,n1,_⟩:=own _ _ E
   obtain⟨v,n2,_⟩:=own _ _ v
   exact I.dj.oo a b x (by omega) (by omega) a7 E v
  ·obtain⟨E,n1,a8⟩:=own _ _ E
   rcases rd b x v with⟨n2,v⟩|⟨bo,v⟩
   ·exact I.dj.ord a b x (by omega) (by omega) E v
   ·rcases v with v|v
    ·exact I.dj.ord a 0 x (by omega) B E v
    ·by_cases e:a=0
     ·exact a8 e v
     ·exact I.dj.oo a 0 x (by omega) B e E (hX x v)
  ·obtain⟨E,n1,_⟩:=own _ _ h
   exact I.dj.vg a b (by omega) E
  ·rcases rd a b h with⟨n2,v⟩|⟨_,v⟩
   ·exact I.dj.yv a b (by omega) v
   ·rcases v with v|v
    ·exact I.dj.yv 0 b B v
    ·exact I.dj.vg 0 b B (hX b v)
 ·rw[G]
  have E:TI gs.size (up (gM γ) 0 fun b=>(γ 0).own b/\ ¬ X b) (up (j6 γ) 0 fun b=>(γ 0).rd b\/X b) (fw γ) w.heap.size p.Wg p.Ch (kS p gs.size) t:=by
   refine I.ti.less (fun j b O h=>?_) fun j b O h=>?_
   ·by_cases e:j=0
    ·subst e;rw[aG]at h;exact h.1
    ·rw[aU _ _ e]at h;exact h
   ·by_cases e:j=0
    ·subst e;rw[aG]at h;exact h.imp id fun h=>hX b h
    ·rw[aU _ _ e]at h;exact .inl h
  have v:=E.fork B (show fw γ 0=0 from hd) (x:={g:=0,fn:=g.frame.fn,pos:=g.frame.place,act:= .go gs.size}) (y:={g:=gs.size,fn:=ch.frame.fn,pos:=g.frame.place,act:= .start}) ⟨rfl,rfl⟩ ⟨rfl,rfl⟩ (rdN:=fun b=>(γ 0).rd b\/X b) (fun b h=>by rw[aG];exact h) a1
  have ba:up (fw γ) 0 0=fw γ:=by have :=eR (fw γ) 0;simp only[fw,hd]at this ⊢;exact this
  rw[<-U,lI,lI,oC,oC,nw,nw]
  simp only[ba]
  exact v
 ·rw[get]at O
  by_cases e:j=gs.size
  ·subst e
   rw[if_pos rfl]at O;cases O
   rw[W,aG,show(gs.size==0)=false by rw[beq_eq_false_iff_ne];omega]
   exact oz.of_run a6 (.inl rfl)
  ·rw[if_neg e]at O
   rw[aU _ _ e]
   by_cases D:j=0
   ·subst D
    rw[if_pos rfl]at O;cases O
    rw[gz,aG]
    exact oz.of_run aa (.inr hl1.1)
   ·rw[if_neg D]at O
    rw[go j D e,aU _ _ D]
    exact I.sW j x O
 ·exfalso
  rw[get,if_neg (by omega),if_pos rfl]at Y;cases Y
  rcases aa.node.status with h|⟨h,_⟩<;>rw[h]at hb<;>cases hb
 ·rw[G]at jl
  have av:∀ op,op∈(#[({g:=0,fn:=g.frame.fn,pos:=g.frame.place,act:= .go gs.size}:MemOp),{g:=gs.size,fn:=ch.frame.fn,pos:=g.frame.place,act:= .start}]:Trace)->op.act.touch?=none:=fun op h=>by
   simp at h;rcases h with rfl|rfl<;>rfl
  by_cases e:j=gs.size
  ·subst e
   obtain⟨k,hk⟩:=a2 jn
   rw[W]at hw
   exact absurd hk (hw k)
  ·rw[go j (by omega) e]at hw
   exact(I.lf j j1 jn (by omega) hw).other fun op h=> .inr (av op h)
 ·exfalso
  rw[G]at hN
  have :p.n+1=gs.size:=by omega
  rw[this,W]at hc
  exact hl2 hc
 ·rw[gz]at hf;exact absurd hf hl1.2
end
theorem QuitsD.JU{P:Program}{q d:Nat}{g h:Goroutine}(l:qV g h)(e:g.status=h.status)(v:QuitsD P q d h):QuitsD P q d g:=by
 cases q with
 |zero=>exact⟨e.trans v.1,v.2⟩
 |succ q=>exact v.imp (fun x=>⟨e.trans x.1,x.2⟩) fun⟨a,g',es,b,c,k⟩=>⟨e.trans a,g',es,b,fun w=>by rw[l.step];exact c w,k⟩
section
variable {P:Program} {p:Pr} {aK:Value->World->Prop} {gs:Array Goroutine} {w w':World} {γ:Nat->kq} {ρ:Nat->cb} {s:pg} {t:Trace} {g bB g':Goroutine} {sl:Option (Nat×Nat)}
theorem oz.quits{r:cb}{Γ:kq}{main:Bool}(S:oz P p aK r Γ s main g w)(hl:Γ.lo= .out):∃ q,QuitsD P q Γ.deaf g:=by
 cases S with
 |on bB hk hs vh h=>obtain⟨q,b⟩:=h.quits hl;exact⟨q,QuitsD.JU hk (hs.trans vh.symm) b⟩
 |fin hs hm hl hd=>exact⟨0,hs,hd⟩
 |bl _ _ _ _ h=>rw[hl]at h;cases h
 |ps _ _ h=>rw[hl]at h;cases h
 |pr _ _ _ _ _ _ _ h=>have :=h.hl;rw[hl]at this;cases this
theorem Inv.atEnd(I:Inv P p aK gs w γ ρ s t)(k:(γ 0).lo= .fin):gs.size=p.n+2/\∀ j,1<=j->j<gs.size->(γ j).lo= .out:=by
 cases I.pr with
 |spawn j q hN h0=>simp only[jL]at h0;rw[k]at h0;cases h0
 |late hN hm hw md=>
  refine⟨hN,?_⟩
  rcases hm with⟨J,h,_⟩|⟨h,b⟩
  ·simp only[jL]at h;rw[k]at h;cases h
  ·cases md with
   |opn B hb ho hB e=>rw[e]at b;cases b
   |pD B hb ho hB e=>rw[e]at b;cases b
   |reg hb ho hB e=>rw[e]at b;cases b
   |last hb L _ _ hL=>rcases hL with⟨_,e⟩|⟨_,e⟩<;>rw[e]at b<;>cases b
   |sema hb ho e=>rw[e]at b;cases b
   |done hb ho e=>rw[e]at b;cases b
   |shut hb ho e=>
    intro j v D
    rcases Nat.lt_or_ge p.n j with h|h
    ·have :j=p.n+1:=by omega
     subst this;exact hb
    ·exact ho j v h
theorem Inv.F4(I:Inv P p aK gs w γ ρ s t)(hi:gs[0]? =some g){d:Nat}{sl':Option (Nat×Nat)}(hl:(γ 0).lo= .fin){v:Value}{es:Array Event}(X:stepG P true g (w.at d)= .ended (.done v) (w.at d) es)(Y:∀ e,e∈es->l9 (γ 0).own (γ 0).rd e)(hp:aK v (w.at d)):
  runT P (crowd gs (w.at d) sl') 0=(.ended (.done v) (w.at d),MemOp.ofEvents 0 g.frame.fn g.frame.place es)/\Go.Conc.Good P aK (crowd gs w sl) (.done v) (w.at d) (t++MemOp.ofEvents 0 g.frame.fn g.frame.place es):=by
 have U:=I.pr.pos
 obtain⟨hN,ae⟩:=I.atEnd hl
 refine⟨?_,v,rfl,hp,fun said=>?_,?_,⟨?_,rfl⟩,?_⟩
 ·obtain⟨B,rfl⟩:=Array.getElem?_eq_some_iff.1 hi
  have aa:=swapAt_of_lt B {(default:Goroutine)with status:= .finished}
  show runT P {world:=w.at d,gs:=gs,rest:={timers:= #[],alone:=none,slice:=sl'}} 0=_
  unfold runT
  simp only[aa,beq_self_eq_true,X,GStep.es]
 ·have :=I.ti.app I.dj U (u:=MemOp.ofEvents 0 g.frame.fn g.frame.place es) (fun op h=>Go.ConcR.g_of_ofEvents op h) (fun op G x hx=>by
   obtain⟨e,he,rfl⟩:=oD G
   exact DS (Y e he) x hx) (own':=(γ 0).own) (fun b h=> .inl h) (Nat.le_refl _) (d':=Deaf (t++MemOp.ofEvents 0 g.frame.fn g.frame.place es) 0) rfl
  exact this.nr said
 ·intro i j hg V hc
  rcases qX hg with⟨B,J⟩|⟨_,op,G,D⟩
  ·have W:=(counts_old B).1 hc
   have E:j<gs.size:=by
    obtain⟨op,ho,D⟩:=Option.map_eq_some_iff.1 J
    rw[<-D];exact I.ti.lt i op ho
   have hk:Knows t 0 i:=by
    rcases Nat.lt_or_ge p.n j with h|h
    ·have :j=p.n+1:=by omega
     subst this;exact I.fi hl i J W
    ·exact I.lf j (by omega) h E (fun k e=>by rw[ae j (by omega) E]at e;cases e) i J W
   obtain⟨q,z,O,hz,hb⟩:=hk.app (MemOp.ofEvents 0 g.frame.fn g.frame.place es)
   refine⟨q,by simp only[Trace.g?,O,Option.map_some,hz],?_⟩
   rcases hb with rfl|hb
   ·simp only[Trace.g?,O,Option.map_some,hz,Option.some.injEq]at hg;exact absurd hg.symm V
   ·exact hb
  ·rw[Go.ConcR.g_of_ofEvents op G]at D;exact absurd D.symm V
 ·intro x hx
  obtain⟨j,E⟩:=List.mem_iff_getElem?.1 hx
  rw[List.getElem?_drop,Array.getElem?_toList]at E
  have B:1+j<gs.size:=(Array.getElem?_eq_some_iff.1 E).1
  obtain⟨q,O⟩:=(I.sW (1+j) x E).quits (ae _ (by omega) B)
  exact⟨q,O.leaves⟩
 ·intro j x E ah
  have B:j<gs.size:=(Array.getElem?_eq_some_iff.1 E).1
  obtain⟨q,O⟩:=(I.sW j x E).quits (ae _ (by omega) B)
  refine⟨q,?_⟩
  have hd:(t++MemOp.ofEvents 0 g.frame.fn g.frame.place es).deaf j (t++MemOp.ofEvents 0 g.frame.fn g.frame.place es).size=(γ j).deaf:=by
   have :=Deaf_other t (g:=j) (fun x=>ah x.symm) (MemOp.ofEvents 0 g.frame.fn g.frame.place es) (fun op h=>Go.ConcR.g_of_ofEvents op h)
   exact this.trans (I.ti.df j B)
  rw[hd]
  exact O.hears _
theorem Inv.step(I:Inv P p aK gs w γ ρ s t):(∃ o af ops,stepT P (crowd gs w sl)=(.ended o af,ops)/\Go.Conc.Good P aK (crowd gs w sl) o af (t++ops))\/
  (∃ gs' w' sl' V aq s' ops,stepT P (crowd gs w sl)=(.next (crowd gs' w' sl'),ops)/\Lt3 (meas gs' aq) (meas gs ρ)/\Inv P p aK gs' w' V aq s' (t++ops)):=by
 obtain⟨i,g,d,sl',O,G,W⟩:=crowd_pick (P:=P) (w:=w) (sl:=sl) I.awake I.F1
 rw[W]
 have I':=I.at d
 have U:i<gs.size:=(Array.getElem?_eq_some_iff.1 O).1
 have E:=I'.pr.HO U
 obtain⟨bB,B,aa,hR⟩:=(I'.sW i g O).running G
 have nx:Next P p aK gs (w.at d) sl' ρ t i->(∃ o af ops,runT P (crowd gs (w.at d) sl') i=(.ended o af,ops)/\Go.Conc.Good P aK (crowd gs w sl) o af (t++ops))\/
   (∃ gs' w' ah V aq s' ops,runT P (crowd gs (w.at d) sl') i=(.next (crowd gs' w' ah),ops)/\Lt3 (meas gs' aq) (meas gs ρ)/\Inv P p aK gs' w' V aq s' (t++ops)):= .inr
 cases hR.node with
 |own hs hl h=>
  obtain⟨g',w',es,a,b,c,k⟩:=h _ (.refl _)
  exact nx (I'.F3 O (by rw[B.step];exact a) hl b c k)
 |sync hs hl h=>
  obtain⟨g',w',es,al,s',a,b,c,e,f,k⟩:=h _ (.refl _) s I'.sh E
  exact nx (I'.DT O (by rw[B.step];exact a) hl b c e (f.imp id fun f=>by rw[uK B];exact f) k)
 |wait hs ho hl h=>
  simp only[jL,hl]at E
  obtain⟨a,b⟩:=h _ (.refl _) s I'.sh E
  exact nx (I'.DW O B G aa ho hl hR a b)
 |kP hs hm j hl hd h=>
  have D:i=0:=by simpa using hm
  subst D
  obtain⟨X,g',ch,a,b,c,e⟩:=h _ (.refl _)
  obtain⟨hN,av,Y⟩:=I'.pr.HQ hl
  refine nx (I'.wX O (by rw[B.step];exact b) a hd (by rw[hl];simp) Y ?_ (by simp) (by simp) (fun _=>⟨_,rfl⟩) (by omega) (fun x h1 h2=>?_) c e)
  ·have h2:kS p gs.size=0:=(I'.q7 U hl).2
   by_cases e:gs.size+1=p.n+2
   ·omega
   ·left;rw[h2];unfold kS;rw[if_neg e]
  ·cases I'.pr with
   |spawn j' q FZ h0 hj hw=>exact⟨_,hw x h1 (by omega)⟩
   |late FZ hm'=>rcases hm' with⟨J,h,_⟩|⟨h,_⟩<;>simp only[jL]at h<;>rw[hl]at h<;>cases h
 |kQ hs hm hl hd h=>
  have D:i=0:=by simpa using hm
  subst D
  obtain⟨X,g',ch,a,b,c,e⟩:=h _ (.refl _)
  obtain⟨hN,Y⟩:=I'.pr.closes hl
  refine nx (I'.wX O (by rw[B.step];exact b) a hd (by rw[hl];simp) Y ?_ (by simp) (by simp) (fun h=>by omega) (by omega) (fun x h1 h2=>?_) c e)
  ·have h2:kS p gs.size=0:=(I'.q7 U hl).2
   right
   exact⟨h2,by rw[sY (by omega)];omega⟩
  ·cases I'.pr with
   |spawn j' q FZ h0 hj hw=>exact⟨_,hw x h1 (by omega)⟩
   |late FZ hm'=>rcases hm' with⟨J,h,_⟩|⟨h,_⟩<;>simp only[jL]at h<;>rw[hl]at h<;>cases h
 |send hs hm k hl hd ki v z M hM hh ht h hk=>
  have D:i≠0:=by simpa using hm
  exact nx (I'.DX O G D hl hd hM hh ht (by rw[hm,B.step];exact h _ (.refl _)) hk)
 |recv hm J ki z h=>
  have D:i=0:=by simpa using hm
  subst D
  exact nx (I'.DY O G B h)
 |ret hs hm hl h=>
  have D:i=0:=by simpa using hm
  subst D
  obtain⟨v,es,a,b,c⟩:=h _ (.refl _)
  obtain⟨h1,h2⟩:=I.F4 (sl:=sl) (sl':=sl') O hl (d:=d) (by rw[B.step];exact a) b c
  exact .inl ⟨_,_,_,h1,h2⟩
 |quit hm hl h=>
  have D:i≠0:=by simpa using hm
  rcases h with⟨h,_⟩|⟨_,g',es,a,b,k⟩
  ·rw[aa]at h;cases h
  ·exact nx (I'.DU O D hl a (by rw[hm,B.step];exact b _) (by rw[hm];exact k))
theorem Inv.run:∀ (e:Jy) (gs:Array Goroutine) (w:World) (sl:Option (Nat×Nat)) (γ:Nat->kq) (ρ:Nat->cb) (s:pg) (t:Trace),meas gs ρ=e->Inv P p aK gs w γ ρ s t->
  ∃ N last o w' k,runNT P (N+1) (crowd gs w sl) t=(.ended o w',k)/\runN P N (crowd gs w sl)= .next last/\Go.step P last= .ended o w'/\Go.Conc.Good P aK last o w' k:=by
 intro e
 induction e using Lt3.wf.induction with
 |_ e G=>
  intro gs w sl γ ρ s t v I
  rcases I.step (sl:=sl)with⟨o,af,ops,b,J⟩|⟨gs',w',sl',B,aq,s',ops,b,O,D⟩
  ·exact⟨0,_,o,af,t++ops,by simp[runNT,b],rfl,by simp[Go.step,b],J⟩
  ·obtain⟨n,last,o,E,k,U,V,W,X⟩:=G _ (v▸O) gs' w' sl' B aq s' (t++ops) rfl D
   exact⟨n+1,last,o,E,k,by rw[runNT_succ_next b];exact U,by rw[runN_succ_next b];exact V,W,X⟩
end
end Go.Proofs.YtifcaekngfgdmaaDoor.Nice.Co
namespace Go.Proofs.YtifcaekngfgdmaaDoor.Nice.Co
open Go Go.Conc
open Go.ConcR (KK WgAt stA smA mk DC0)
section
variable {P:Program} {p:Pr} {aK:Value->World->Prop} {main:Bool} {Γ:kq} {g g':Goroutine} {w w':World}
theorem cy.bH(hl:Γ.lo≠ .out):∀ {n:Nat} {g:Goroutine} {w:World},Goes P main (cM p Γ) DC0 (fun g w=>cy P p aK main Γ g w) n g w->cy P p aK main Γ g w
 |0,g,w,h=>h w (.refl w)
 |n+1,g,w,h=>by
  rcases h with h|⟨v,h⟩
  ·exact h w (.refl w)
  ·refine cy.intro (.own v hl fun af b=>?_)
   obtain⟨g',w',es,e,⟨rfl,rfl⟩,k⟩:=goes_elim (h af b)
   exact⟨g',w',#[],e,fun _=>rfl,mc.idle _,by rw[dp];exact cy.bH hl k⟩
def oF(p:Pr)(A Rd:aI):Prop:=∀ b,A b\/Rd b->b≠p.Wg/\b≠p.Ch
theorem nu.I3(O:nu p w w')(h:oF p Γ.own Γ.rd)(hl:gm p w'):cM p Γ w w':=⟨⟨O.same,fun b e=>O.ab b (h b e).1 (h b e).2⟩,fun _=>hl⟩
theorem DZ{s:pg}(h:Sh p s w):p.Wg≠p.Ch:=by
 intro e
 obtain⟨q,k⟩:=h.ch
 have b:=h.wg
 unfold WgAt at b
 rw[e,k]at b
 simp[Go.ConcR.wgBlock]at b
theorem Sh.setSt{s:pg}(h:Sh p s w)(v k:Nat){x:Int}(G:x=(v:Int)*KK+k):Sh p ⟨v,k,s.sm,s.cl⟩ (w.setCell (stA p.Wg) (.int .u64 x))/\nu p w (w.setCell (stA p.Wg) (.int .u64 x)):=by
 subst G
 have B:=DZ h
 have E:∀ b,b≠p.Wg->(w.setCell (stA p.Wg) (.int .u64 ((v:Int)*KK+k))).heap[b]? =w.heap[b]? :=fun b D=>by
  simp only[World.setCell,stA]
  rw[Array.getElem?_modify,if_neg (fun e=>D e.symm)]
 refine⟨⟨Go.ConcR.WgAt.setSt h.wg _,let⟨q,I⟩:=h.ch;⟨q,by rw[E _ (fun e=>B e.symm)];exact I⟩⟩,bG.setCell _ _ _,by simp,fun b D _=>E b D⟩
theorem Sh.setSm{s:pg}(h:Sh p s w)(m:Nat){x:Int}(E:x=(m:Int)):Sh p ⟨s.v,s.wt,m,s.cl⟩ (w.setCell (smA p.Wg) (.int .u32 x))/\nu p w (w.setCell (smA p.Wg) (.int .u32 x)):=by
 subst E
 have k:=DZ h
 have D:∀ b,b≠p.Wg->(w.setCell (smA p.Wg) (.int .u32 (m:Int))).heap[b]? =w.heap[b]? :=fun b B=>by
  simp only[World.setCell,smA]
  rw[Array.getElem?_modify,if_neg (fun e=>B e.symm)]
 refine⟨⟨Go.ConcR.WgAt.setSm h.wg _,let⟨q,G⟩:=h.ch;⟨q,by rw[D _ (fun e=>k e.symm)];exact G⟩⟩,bG.setCell _ _ _,by simp,fun b B _=>D b B⟩
theorem nu.refl(w:World):nu p w w:=⟨.refl w,rfl,fun _ _ _=>rfl⟩
theorem cy.mark(k:g.status= .running)(hl:Γ.lo≠ .out)(m:Mark)(hm:fN m){d':Nat}(hd:deafBehind Γ.deaf #[mk m]=d')(h:∀ af,cM p Γ w af->stepG P main g af= .go g' af #[mk m])
  (v:∀ af,cM p Γ w af->cy P p aK main ⟨Γ.own,Γ.rd,d',Γ.lo⟩ g' af):cy P p aK main Γ g w:=
 cy.intro (.sync k hl fun af b s e B=>⟨g',af,#[mk m],Γ.lo,s,h af b, .mark m hm, .refl af,e, .inl ⟨rfl,rfl⟩,by rw[hd];exact v af b⟩)
end
def cZ(P:Program)(p:Pr)(aK:Value->World->Prop)(main:Bool)(Rd:aI)(d:Nat)(lo:Lo)(hl:lo≠ .out)(hm:lo.mute=false):Tr P where
 main:=main
 Rd:=Rd
 T:=fun A g w=>oF p A Rd->∀ af,dd A Rd w af->gm p af->cy P p aK main ⟨A,Rd,d,lo⟩ g af
 step:=fun A g w V h E af G B=>by
  refine cy.intro (.own V hl fun e v=>?_)
  obtain⟨g',w',es,a,b,c⟩:=h e (G.trans v.ry)
  have k:=v.wg B
  obtain⟨⟨st,W,I⟩,O⟩:=k
  have J:p.Wg<e.heap.size:=(Array.getElem?_eq_some_iff.1 I).1
  have X:oF p (more A e w') Rd:=fun x D=>by
   rcases D with(D|⟨D,_⟩)|D
   ·exact E x (.inl D)
   ·exact⟨by omega,by omega⟩
   ·exact E x (.inr D)
  refine⟨g',w',es,a,fun U=>absurd (show lo.mute=true from U) (by rw[hm];simp),b,c X w' (.refl w') ⟨⟨st,W,?_⟩,Nat.lt_of_lt_of_le O b.same.size⟩⟩
  unfold WgAt
  rw[b.ab _ J fun h=>(E _ (.inl h)).1 rfl]
  exact I
 rely:=fun A g w af h r E e v k=>h E e (r.trans v) k
section
variable {P:Program} {p:Pr} {aK:Value->World->Prop} {main:Bool} {Rd A:aI} {d:Nat} {lo:Lo} {hl:lo≠ .out} {hm:lo.mute=false} {g:Goroutine} {w:World}
theorem cZ.elim(h:(cZ P p aK main Rd d lo hl hm).T A g w)(b:oF p A Rd)(e:gm p w):cy P p aK main ⟨A,Rd,d,lo⟩ g w:=h b w (.refl w) e
theorem cZ.intro(h:oF p A Rd->∀ af,dd A Rd w af->gm p af->cy P p aK main ⟨A,Rd,d,lo⟩ g af):(cZ P p aK main Rd d lo hl hm).T A g w:=h
end
end Go.Proofs.YtifcaekngfgdmaaDoor.Nice.Co
namespace Go.Proofs.YtifcaekngfgdmaaDoor.Nice.Co
open Go Go.Conc
abbrev F0:aD:=fun _=>none
abbrev jM:Names:=fun _=>none
structure SX (C:Ctx) (A Rd:aI) (M:aD) (ds:List Deferred) (ρ:Names) (nb:Nat) (σ:St) (a:Act) (w:World):Prop where
 fit:Fit A Rd F0 M w
 sr:SR0 C M (ext A Rd F0 w) jM ρ σ ⟨a.tmps,[]⟩ w
 df:a.defers=ds
 fr:∀ n,nb<=n->ρ n=none
theorem F5(a:Act)(x:Operand):Act.eval ⟨a.tmps,[]⟩ x=a.eval x:=by cases x<;>rfl
section
variable {C:Ctx} {A Rd:aI} {M:aD} {ds:List Deferred} {ρ:Names} {nb:Nat} {σ:St} {a:Act} {w af:World}
theorem SX.op(h:SX C A Rd M ds ρ nb σ a w)(x:Operand):VR M ρ (bE C σ.t x) (a.eval x):=by have :=gD h.sr x;rwa[F5]at this
theorem SX.toSC(h:SX C A Rd M [] ρ σ.nx σ a w):SC C A Rd F0 M jM ρ σ a w:=by
 have e:(⟨a.tmps,[]⟩:Act)=a:=by obtain⟨t,d⟩:=a;have :=h.df;simp only at this;subst this;rfl
 refine⟨h.fit,⟨?_,h.fr⟩⟩
 have :=h.sr;rw[e]at this;exact this
theorem SC.toSX(h:SC C A Rd F0 M jM ρ σ a w):SX C A Rd M [] ρ σ.nx σ a w:=by
 have e:(⟨a.tmps,[]⟩:Act)=a:=by obtain⟨t,d⟩:=a;have :=h.sr.df;simp only at this;subst this;rfl
 exact⟨h.fit,by rw[e];exact h.sr.toSR0,h.sr.df,h.sr.fr⟩
theorem SX.rely(h:SX C A Rd M ds ρ nb σ a w)(r:dd A Rd w af):SX C A Rd M ds ρ nb σ a af:=
 ⟨kF h.fit r,⟨h.sr.tm,h.sr.sz,h.sr.df,lD h.sr.hr h.fit r,h.sr.pn,h.sr.pm,h.sr.gl⟩,h.df,h.fr⟩
theorem SX.app{A' Rd':aI}{M':aD}{aq:Names}{nb':Nat}{w':World}(b:SX C A Rd M ds ρ nb σ a w){dst:Option Nat}(hd:(match dst with |none=>true|some d=>Nat.blt d C.sz)=true){u:SV}{wr:List (Nat×Option aB)}{u':Value}(E:Fit A' Rd' F0 M' w')
  (B:M.le M') (v:ρ.le aq) (G:VR M' aq u u') (I:HR M' (ext A' Rd' F0 w') aq (dB σ.h wr) w') (J:∀ n,nb'<=n->aq n=none):SX C A' Rd' M' ds aq nb' (σ.app dst u wr) (a.put dst u') w':=by
 refine⟨E,⟨fun k=>?_,?_,rfl,I,(fun n x h=>by cases h),(fun n x h=>by cases h),fun g ρ=>(b.sr.gl g ρ).mono B (Names.le_refl _)⟩,?_,J⟩
 ·cases dst with
  |none=>exact(b.sr.tm k).mono B v
  |some d=>
   have D:d<a.tmps.size:=by have :=b.sr.sz;simp only at this;rw[this];simpa using hd
   show VR M' aq (upd σ.t d u k) _
   rw[az]
   have O:=b.sr.tm k
   split
   ·next e=>subst e;rw[iD D];exact G
   ·next e=>rw[gX e];exact O.mono B v
 ·have :=b.sr.sz
  cases dst<;>simpa[Act.put]using this
 ·cases dst<;>simp[Act.put,b.df]
end
abbrev QX(P:Program):=Exit->Tr P->List Deferred->St->Prop
def PX(C:Ctx)(M0:aD)(w0:World)(Q:QX C.P)(b:Frame)(k:List Item)(cs:List Frame):Prop:=
 ∀ e (K:Tr C.P) ds A M ρ σ a w,M0.le M->bG w0 w->SX C A K.Rd M ds ρ σ.nx σ a w->Q e K ds σ->Fh K A b k cs e a w
def WX(C:Ctx)(c:Code)(Q:QX C.P)(K:Tr C.P)(ds:List Deferred)(σ:St):Prop:=
 ∀ A M ρ a w,SX C A K.Rd M ds ρ σ.nx σ a w->∀ b k cs,b.kind≠ .early->PX C M w Q b k cs->K.T A (G (b.at a (.code c::k)) cs) w
def q8{P:Program}(R:Tr P->List Deferred->St->Prop)(Q:QX P):QX P
 | .normal,K,ds,σ=>R K ds σ
 |e,K,ds,σ=>Q e K ds σ
def kT{P:Program}(id:Nat)(Q:QX P):QX P
 | .exit Iy,K,ds,σ=>if Iy=id then Q .normal K ds σ else Q (.exit Iy) K ds σ
 |e,K,ds,σ=>Q e K ds σ
section
variable {C:Ctx} {Q:QX C.P} {K:Tr C.P} {ds:List Deferred} {σ:St}
theorem PX.on{M0 M:aD}{w0 w:World}{b:Frame}{k:List Item}{cs:List Frame}(h:PX C M0 w0 Q b k cs)(v:M0.le M)(B:bG w0 w):PX C M w Q b k cs:=
 fun e K ds A M' ρ σ a w' D E G I=>h e K ds A M' ρ σ a w' (aD.le_trans v D) (B.trans E) G I
theorem F6{c:Code}{Q':QX C.P}(h:WX C c Q K ds σ)(B:∀ e K ds aF,Q e K ds aF->Q' e K ds aF):WX C c Q' K ds σ:=
 fun A M ρ a w D b k cs E G=>h A M ρ a w D b k cs E fun e K' v A' M' aq aF I w' J O U V=>G e K' v A' M' aq aF I w' J O U (B _ _ _ _ V)
theorem Ab{c:Code}{Q0:Exit->St->Prop}(h:W C c Q0 σ)(v:∀ e aF,Q0 e aF->Q e K [] aF):WX C c Q K [] σ:=by
 intro A M ρ a w B b k cs D E
 refine h K A F0 M jM ρ a w B.toSC b k cs D ?_
 intro e A' M' aq aF G w' V I J O U
 exact E e K [] A' M' aq aF G w' I O J.toSX (v _ _ U)
theorem uM(h:Q .normal K ds σ):WX C .skip Q K ds σ:=fun A M ρ a w e b k cs B v=>K.idle rfl (fun _=>stepG_skip) (v .normal K ds A M ρ σ a w (aD.le_refl _) (.refl _) e h)
theorem Ac{id:Nat}(h:Q (.exit id) K ds σ):WX C (.exit id) Q K ds σ:=fun A M ρ a w e b k cs E v=>by
 obtain⟨G,B,D⟩:=v (.exit id) K ds A M ρ σ a w (aD.le_refl _) (.refl _) e h
 exact K.idle rfl (fun _=>stepG_exit B) D
theorem hY{x y:Code}(h:WX C x (q8 (WX C y Q) Q) K ds σ):WX C (.seq x y) Q K ds σ:=by
 intro A M ρ a w U b k cs O B
 refine K.idle rfl (fun _=>stepG_seq) (h A M ρ a w U b (.code y::k) cs O ?_)
 intro e K' v A' M' aq aF D w' E G I J
 cases e with
 |normal=>exact J A' M' aq D w' I b k cs O (B.on E G)
 |exit id=>exact Fh.push (x:= .code y) rfl (by simp) (B (.exit id) K' v A' M' aq aF D w' E G I J)
 |goto l=>exact B (.goto l) K' v A' M' aq aF D w' E G I J
 |ret=>exact B .ret K' v A' M' aq aF D w' E G I J
 |panic ch=>exact B (.panic ch) K' v A' M' aq aF D w' E G I J
 |outgrown=>exact B .outgrown K' v A' M' aq aF D w' E G I J
theorem nB{c:Operand}{x y:Code}{t:Bool}(E:bE C σ.t c=SV.b t)(G:t=true->WX C x Q K ds σ)(I:t=false->WX C y Q K ds σ):WX C (.cond c x y) Q K ds σ:=by
 intro A M ρ a w e b k cs v B
 have D:=e.op c
 rw[E]at D
 refine K.idle rfl (fun _=>stepG_cond D.bool) ?_
 cases t with
 |true=>exact G rfl A M ρ a w e b k cs v B
 |false=>exact I rfl A M ρ a w e b k cs v B
theorem nC{id:Nat}{c:Code}(h:WX C c (kT id Q) K ds σ):WX C (.block id c) Q K ds σ:=by
 intro A M ρ a w V b k cs W E
 refine K.idle rfl (fun _=>stepG_block) (h A M ρ a w V b (.inBlock id::k) cs W ?_)
 intro e K' v A' M' aq aF G w' I J O B
 cases e with
 |normal=>exact K'.idle rfl (fun _=>stepG_inBlock) (E .normal K' v A' M' aq aF G w' I J O B)
 |exit U=>
  simp only[kT]at B
  by_cases D:U=id
  ·rw[if_pos D]at B
   exact⟨k,by simp[exitTo,D],E .normal K' v A' M' aq aF G w' I J O B⟩
  ·rw[if_neg D]at B
   obtain⟨X,Y,hg⟩:=E (.exit U) K' v A' M' aq aF G w' I J O B
   have :(id==U)=false:=by simp;exact fun h=>D h.symm
   exact⟨X,by simp[exitTo,this,Y],hg⟩
 |goto l=>exact E (.goto l) K' v A' M' aq aF G w' I J O B
 |ret=>exact E .ret K' v A' M' aq aF G w' I J O B
 |panic ch=>exact E (.panic ch) K' v A' M' aq aF G w' I J O B
 |outgrown=>exact E .outgrown K' v A' M' aq aF G w' I J O B
theorem wY{c:Code}(I:Nat->Tr C.P->List Deferred->St->Prop)(n:Nat)(X:I n K ds σ)
  (round:∀ n K ds σ,I n K ds σ->WX C c (q8 (fun K' v aF=>∃ k,k<n/\I k K' v aF) Q) K ds σ):WX C (.loop c) Q K ds σ:=by
 intro A M ρ a w V b k cs Y B
 have key:∀ n (K:Tr C.P) ds σ A M ρ a w,I n K ds σ->SX C A K.Rd M ds ρ σ.nx σ a w->PX C M w Q b k cs->K.T A (G (b.at a (.code c:: .inLoop c::k)) cs) w:=by
  intro n
  induction n using Nat.strongRecOn with
  |_ n ih=>
   intro K ds σ A M ρ a w hI V B
   refine round n K ds σ hI A M ρ a w V b (.inLoop c::k) cs Y ?_
   intro e K' v A' M' aq aF D w' E J O U
   cases e with
   |normal=>
    obtain⟨j,hj,W⟩:=U
    exact K'.idle rfl (fun _=>stepG_inLoop) (ih j hj K' v aF A' M' aq D w' W O (B.on E J))
   |exit id=>exact Fh.push (x:= .inLoop c) rfl (by simp) (B (.exit id) K' v A' M' aq aF D w' E J O U)
   |goto l=>exact B (.goto l) K' v A' M' aq aF D w' E J O U
   |ret=>exact B .ret K' v A' M' aq aF D w' E J O U
   |panic ch=>exact B (.panic ch) K' v A' M' aq aF D w' E J O U
   |outgrown=>exact B .outgrown K' v A' M' aq aF D w' E J O U
 exact K.idle rfl (fun _=>stepG_loop) (key n K ds σ A M ρ a w X V B)
theorem iG{c:Code}(π:List Nat)(tl:List (Nat×SV))(hl:List (Option aB))(v:Sub C π σ tl hl)(h:WX C c Q K ds (fg tl hl)):WX C c Q K ds σ:=by
 intro A M ρ a w B b k cs D E
 have e:=v.rel B.sr
 exact h A M _ a w ⟨B.fit,⟨e.tm,e.sz,e.df,e.hr,fun n x h=>(by cases h),e.pm,e.gl⟩,B.df,e.fr⟩ b k cs D E
theorem uN{c:Code}{aF:St}(E:∀ M F pin ρ a w,SR C M F pin ρ σ a w->∃ M' aq,M.le M'/\SR C M' F pin aq aF a w)(h:WX C c Q K ds aF):WX C c Q K ds σ:=by
 intro A M ρ a w e b k cs v G
 obtain⟨M',aq,B,D⟩:=E M _ jM ρ ⟨a.tmps,[]⟩ w ⟨e.sr,e.fr⟩
 have I:Fit A K.Rd F0 M' w:=⟨e.fit.fa,fun b v=>by
  obtain⟨o,J⟩:=Option.ne_none_iff_exists'.1 (e.fit.rm b v)
  rw[B b o J];simp,e.fit.lt⟩
 exact h A M' aq a w ⟨I,D.toSR0,e.df,D.fr⟩ b k cs v (G.on B (.refl _))
abbrev ZX:=aD->World->Frame->List Item->List Frame->Prop
def Up(Z:ZX):Prop:=∀ M M' w w' b k cs,Z M w b k cs->M.le M'->bG w w'->Z M' w' b k cs
def RX(C:Ctx)(ops:Array Oper)(i:Nat)(Z:ZX)(K:Tr C.P)(ds:List Deferred)(σ:St):Prop:=
 ∀ A M ρ a w,SX C A K.Rd M ds ρ (σ.nx+8*i) σ a w->∀ b k cs,b.kind≠ .early->Z M w b k cs->K.T A (G (b.at a (.inRegion ops (List.range' i (ops.size-i))::k)) cs) w
def PZ(C:Ctx)(Q:QX C.P):ZX:=fun M w b k cs=>PX C M w Q b k cs
theorem PZ.up:Up (PZ C Q):=fun M M' w w' b k cs h e v=>PX.on h e v
theorem s5{id:Nat}{ops:Array Oper}(h:RX C ops 0 (PZ C Q) K ds σ):WX C (.region id ops false) Q K ds σ:=by
 intro A M ρ a w e b k cs v B
 refine K.idle rfl (fun _=>stepG_region) ?_
 rw[List.range_eq_range']
 exact h A M ρ a w e b k cs v B
theorem fO{ops:Array Oper}{n:Nat}(v:ops.size=n){m:Nat}(hm:σ.nx+8*n=m)(h:Q .normal K ds ⟨σ.t,σ.h,m⟩):RX C ops n (PZ C Q) K ds σ:=by
 intro A M ρ a w e b k cs D B
 subst hm
 rw[v,Nat.sub_self]
 exact K.idle rfl (fun _=>stepG_region_end) (B .normal K ds A M ρ ⟨σ.t,σ.h,σ.nx+8*n⟩ a w (aD.le_refl _) (.refl _) ⟨e.fit,⟨e.sr.tm,e.sr.sz,e.sr.df,e.sr.hr,e.sr.pn,e.sr.pm,e.sr.gl⟩,e.df,e.fr⟩ h)
theorem eg{Z:ZX}(hZ:Up Z){ops:Array Oper}:∀ (l:List Oper) (i:Nat) (σ:St),(∀ j,j<l.length->ops[i+j]? =l[j]?)->
  an C ops.toList i l σ none (fun aF=>RX C ops (i+l.length) Z K ds ⟨aF.t,aF.h,σ.nx⟩)->RX C ops i Z K ds σ:=by
 intro l
 induction l with
 |nil=>intro i σ _ h;exact h.2
 |cons o l ih=>
  intro i σ hl h A M ρ a w B b k cs X hp
  have Y:ops[i]? =some o:=by have :=hl 0 (by simp);simpa using this
  have al:i<ops.size:=(Array.getElem?_eq_some_iff.1 Y).1
  have hl':∀ j,j<l.length->ops[(i+1)+j]? =l[j]? :=fun j hj=>by
   have :=hl (j+1) (by simp;omega)
   rw[show i+1+j=i+(j+1) by omega];simpa using this
  have J:List.range' i (ops.size-i)=i::List.range' (i+1) (ops.size-(i+1)):=by
   rw[show ops.size-i=(ops.size-(i+1))+1 by omega,List.range'_succ]
  rw[J]
  have next:∀ aF,aF.nx=σ.nx->an C ops.toList (i+1) l aF none (fun aF=>RX C ops (i+(o::l).length) Z K ds ⟨aF.t,aF.h,σ.nx⟩)->RX C ops (i+1) Z K ds aF:=fun aF U h=>by
   refine ih (i+1) aF hl' ?_
   rw[U]
   have e:i+(o::l).length=i+1+l.length:=by simp;omega
   rw[e]at h;exact h
  have on:∀ (hd:aM C o=true) (O:mP ops.toList σ.t o) bs V,bV C o (σ.nx+8*i) (bE C σ.t) bs V->(∀ p,p∈bs->σ.h p.1=some p.2)->
    (∀ u wr,V u wr->an C ops.toList (i+1) l (σ.app o.dst u wr) none (fun aF=>RX C ops (i+(o::l).length) Z K ds ⟨aF.t,aF.h,σ.nx⟩))->K.T A (G (b.at a (.inRegion ops (i::List.range' (i+1) (ops.size-(i+1)))::k)) cs) w:=by
   intro hd O bs V D E v
   refine D K A F0 M ρ a σ.h w B.fit (fun x _=>B.op x) B.sr.gl B.sr.hr E (fun n W h2=>B.fr n W) o.guard b ops i _ k cs Y (fF B.sr O) X ?_
   intro A' M' aq u wr u' w' h0 W h2 h3 h4 h5 aa h6 h7
   refine next (σ.app o.dst u wr) rfl (v u wr h4) A' M' aq _ w' (B.app (by unfold aM at hd;exact hd) aa W h2 h5 h6 ?_) b k cs X (hZ _ _ _ _ _ _ _ hp W h7)
   intro n U
   have ah:σ.nx+8*(i+1)<=n:=U
   rw[h3 n (.inr (by omega))]
   exact B.fr n (by omega)
  unfold an at h
  rcases h with⟨fp,aF,⟨hd,hD⟩,I⟩|⟨_,hd,O,bs,V,D,E,v⟩
  ·rcases hD with⟨O,bs,u,wr,D,E,_,_,rfl⟩|⟨O,_,rfl⟩
   ·exact on hd O bs _ D E (fun u' av ⟨e1,e2⟩=>by subst e1;subst e2;exact I)
   ·refine K.idle rfl (fun _=>stepG_unwanted Y (fG B.sr O)) ?_
    refine next (σ.app o.dst (.bA []) []) rfl I A M ρ _ w (B.app (wr:= []) (by unfold aM at hd;exact hd) B.fit (aD.le_refl _) (Names.le_refl _) VR.skip B.sr.hr ?_) b k cs X hp
    intro n U
    have ah:σ.nx+8*(i+1)<=n:=U
    exact B.fr n (by omega)
  ·exact on hd O bs V D E v
theorem fx{Z:ZX}{ops:Array Oper}{i:Nat}{o:Oper}(v:ops[i]? =some o)(h:∀ A M ρ a w,SX C A K.Rd M ds ρ (σ.nx+8*i) σ a w->∀ b k cs,b.kind≠ .early->Z M w b k cs->
   K.T A (G (b.at a (.inRegion ops (i::List.range' (i+1) (ops.size-(i+1)))::k)) cs) w):RX C ops i Z K ds σ:=by
 intro A M ρ a w B b k cs D E
 have I:i<ops.size:=(Array.getElem?_eq_some_iff.1 v).1
 have e:List.range' i (ops.size-i)=i::List.range' (i+1) (ops.size-(i+1)):=by
  rw[show ops.size-i=(ops.size-(i+1))+1 by omega,List.range'_succ]
 rw[e]
 exact h A M ρ a w B b k cs D E
end
end Go.Proofs.YtifcaekngfgdmaaDoor.Nice.Co
