/- Part 1 of the proof of TopFile. -/
import Derived.WalkKit
import Derived.Laws.AppendOwn
import Derived.Laws.MakeOwn
import Derived.Laws.CopyRow
import Derived.Below
import Derived.Conc.Own5
import Derived.Conc.Listed
import Derived.Conc.CompanyDraw
import Derived.Orders
set_option linter.unusedVariables false
set_option linter.unusedSimpArgs false
set_option maxRecDepth 100000
set_option maxHeartbeats 4000000
namespace Go.Proofs.YtifcaekngfgdmaaDoor.Nice
open Go
abbrev aD:=Nat->Option Obj
def aD.le(M M':aD):Prop:=∀ b o,M b=some o->M' b=some o
theorem aD.le_refl(M:aD):M.le M:=fun _ _ h=>h
theorem aD.le_trans{A B C:aD}(h:A.le B)(k:B.le C):A.le C:=fun b o x=>k b o (h b o x)
structure MP where
 p:aD->Value->Prop
 mono:∀ M M' v,M.le M'->p M v->p M' v
 one:∀ M v,p M v->v.oneCell'=true
inductive D where
 |any
 |val (v:Value)
 |bz
 |vec (k len:Nat) (f:Nat->Nat->D)
 |pr (p:MP)
inductive DR (M:aD):D->Value->Prop
 |any (v:Value) (h:v.oneCell'=true):DR M .any v
 |val (v:Value) (h:v.oneCell'=true):DR M (.val v) v
 |bz (a:Option Addr):DR M .bz (.slice a 0 0)
 |ie (k:Nat) (f:Nat->Nat->D) (a:Option Addr) (cap:Nat):DR M (.vec k 0 f) (.slice a 0 cap)
 |vec (k len:Nat) (f:Nat->Nat->D) (b o cap:Nat) (cur:Array Value) (T:TypeId) (fz:Nat×Nat) (g:Nat->Nat->Value)
  (hb:M b=some (.cells cur T fz)) (hc:len<=cap) (hg:∀ i c,i<len->c<k->cur[o+i*k+c]? =some (g i c))
  (hr:∀ i c,i<len->c<k->DR M (f i c) (g i c)):DR M (.vec k len f) (.slice (some ⟨b,o,none⟩) len cap)
 |pr (p:MP) (v:Value) (h:p.p M v):DR M (.pr p) v
theorem DR.mono{M M':aD}(e:M.le M'){x:D}{v:Value}(h:DR M x v):DR M' x v:=by
 induction h with
 |any v h=>exact .any v h
 |val v h=>exact .val v h
 |bz a=>exact .bz a
 |ie k f a cap=>exact .ie k f a cap
 |vec k len f b o cap cur T fz g hb hc hg hr ih=>exact .vec k len f b o cap cur T fz g (e _ _ hb) hc hg ih
 |pr p v h=>exact .pr p v (p.mono _ _ _ e h)
theorem DR.one{M:aD}{x:D}{v:Value}(h:DR M x v):v.oneCell'=true:=by
 cases h with
 |pr p _ h=>exact p.one _ _ h
 |any _ h=>exact h
 |val _ h=>exact h
 |_=>rfl
structure Own where
 b:Nat
 k:Nat
 R:Nat
abbrev Names:=Nat->Option Own
def Names.le(ρ aq:Names):Prop:=∀ n x,ρ n=some x->aq n=some x
theorem Names.le_refl(ρ:Names):ρ.le ρ:=fun _ _ h=>h
theorem Names.le_trans{A B C:Names}(h:A.le B)(k:B.le C):A.le C:=fun n x y=>k n x (h n x y)
inductive SV where
 |any
 |d (x:D)
 |vp (k len:Nat) (f:Nat->Nat->D) (i c:Nat)
 |ptr (n i c:Nat)
 |sl (n o len:Nat)
 |cs (n c len:Nat)
 |op (n:Nat) (b:Bool)
 |map (n:Nat)
 |fn (f:FuncId) (aZ:List SV)
 |agg (xs:List SV)
 |bA (xs:List SV)
 |iface (t:TypeId) (x:SV)
abbrev SV.i(n:Int):SV:= .d (.val (.int .i64 n))
abbrev SV.b(x:Bool):SV:= .d (.val (.bool x))
inductive VR (M:aD) (ρ:Names):SV->Value->Prop
 |any (v:Value):VR M ρ .any v
 |d (x:D) (v:Value) (h:DR M x v):VR M ρ (.d x) v
 |vp (k len:Nat) (f:Nat->Nat->D) (i c b o:Nat) (cur:Array Value) (T:TypeId) (fz:Nat×Nat) (g:Nat->Nat->Value)
  (hb:M b=some (.cells cur T fz)) (hg:∀ i c,i<len->c<k->cur[o+i*k+c]? =some (g i c))
  (hr:∀ i c,i<len->c<k->DR M (f i c) (g i c)):VR M ρ (.vp k len f i c) (.pointer (some ⟨b,o+i*k+c,none⟩))
 |ptr (n i c:Nat) (x:Own) (h:ρ n=some x):VR M ρ (.ptr n i c) (.pointer (some ⟨x.b,i*x.k+c,none⟩))
 |sl (n o len:Nat) (x:Own) (h:ρ n=some x) (hl:o+len<=x.R) (hR:x.R<=maxLen) (h0:0<x.R):VR M ρ (.sl n o len) (.slice (some ⟨x.b,o*x.k,none⟩) len (x.R-o))
 |jo (n o:Nat) (x:Own) (h:ρ n=some x) (hR:x.R=o) (a:Option Addr):VR M ρ (.sl n o 0) (.slice a 0 0)
 |cs (n c len:Nat) (x:Own) (cap:Nat) (h:ρ n=some x) (hc:len<=cap):VR M ρ (.cs n c len) (.slice (some ⟨x.b,c,none⟩) len cap)
 |Fb (n:Nat) (x:Own) (h:ρ n=some x):VR M ρ (.op n true) (.pointer (some ⟨x.b,0,none⟩))
 |Ff (n:Nat):VR M ρ (.op n false) (.pointer none)
 |map (n:Nat) (x:Own) (h:ρ n=some x):VR M ρ (.map n) (.map (some x.b))
 |fn (f:FuncId) (aZ:List SV) (vs:Array Value) (g:Nat->Value) (hs:vs.size=aZ.length) (hg:∀ i,i<aZ.length->vs[i]? =some (g i))
  (hr:∀ i x,aZ[i]? =some x->VR M ρ x (g i)):VR M ρ (.fn f aZ) (.func (.func f) #[] vs)
 |agg (xs:List SV) (vs:Array Value) (g:Nat->Value) (hs:vs.size=xs.length) (hg:∀ i,i<xs.length->vs[i]? =some (g i))
  (hr:∀ i x,xs[i]? =some x->VR M ρ x (g i)):VR M ρ (.agg xs) (.agg vs)
 |bA (xs:List SV) (vs:Array Value) (g:Nat->Value) (hs:vs.size=xs.length) (hg:∀ i,i<xs.length->vs[i]? =some (g i))
  (hr:∀ i x,xs[i]? =some x->VR M ρ x (g i)):VR M ρ (.bA xs) (.tuple vs)
 |iface (t:TypeId) (x:SV) (v:Value) (h:VR M ρ x v):VR M ρ (.iface t x) (.iface t v)
theorem VR.mono{M M':aD}{ρ aq:Names}(I:M.le M')(e:ρ.le aq){x:SV}{v:Value}(h:VR M ρ x v):VR M' aq x v:=by
 induction h with
 |any v=>exact .any v
 |d x v h=>exact .d x v (h.mono I)
 |vp k len f i c b o cur T fz g hb B G=>exact .vp k len f i c b o cur T fz g (I _ _ hb) B fun i c U J=>(G i c U J).mono I
 |ptr n i c x h=>exact .ptr n i c x (e _ _ h)
 |sl n o len x h hl O V=>exact .sl n o len x (e _ _ h) hl O V
 |jo n o x h O a=>exact .jo n o x (e _ _ h) O a
 |cs n c len x cap h J=>exact .cs n c len x cap (e _ _ h) J
 |Fb n x h=>exact .Fb n x (e _ _ h)
 |Ff n=>exact .Ff n
 |map n x h=>exact .map n x (e _ _ h)
 |fn f aZ vs g E B G D=>exact .fn f aZ vs g E B D
 |agg xs vs g E B G D=>exact .agg xs vs g E B D
 |bA xs vs g E B G D=>exact .bA xs vs g E B D
 |iface t x v h D=>exact .iface t x v D
def SV.one:SV->Bool
 | .any| .agg _| .bA _=>false
 |_=>true
theorem VR.one{M:aD}{ρ:Names}{x:SV}{v:Value}(h:VR M ρ x v)(b:x.one=true):v.oneCell'=true:=by
 cases h<;>first|(simp[SV.one]at b;done)|rfl|(exact DR.one ‹_›)
inductive ff where
 |cells (ty:TypeId) (k:Nat) (xs:List SV)
 |rows (ty:TypeId) (k len:Nat) (f:Nat->Nat->D)
structure ko where
 es:List (Value×SV×List ff)
 op:List (Nat×SV)
 ly:Option (TypeId×Nat)
def entry:Option (TypeId×Nat)->Obj->Nat->Option Value
 |none, .map iK _,j=>(iK[j]?).map (·.val)
 |some (_,k), .cells cur _ _,j=>if(j+1)*k<=cur.size then some (.agg (cur.extract (j*k) (j*k+k)))else none
 |_,_,_=>none
def ko.at(e:ko)(j:Nat)(k:Value)(s:SV)(bl:List ff):Prop:=e.es[j]? =some (k,s,bl)/\∀ p,p∈e.op->p.1≠j
inductive aB where
 |cells (ty:TypeId) (k:Nat) (xs:List SV)
 |rows (ty:TypeId) (k len:Nat) (f:Nat->Nat->D)
 |map (es:List (Value×D))
 |fam (S:List Nat) (es:ko)
 |iter (m:SV) (since:Nat) (seen:List Nat)
def ff.blk:ff->aB
 | .cells ty k xs=> .cells ty k xs
 | .rows ty k len f=> .rows ty k len f
def aB.ghost:aB->Bool
 | .rows _ _ 0 _=>true
 |_=>false
def BR(M:aD)(ρ:Names)(x:Own):aB->Obj->Prop
 | .cells ty k xs, .cells cur T fz=>T=ty/\fz=(0,0)/\x.k=k/\cur.size=x.R*k/\xs.length<=cur.size/\∀ (j:Nat) (s:SV),xs[j]? =some s->∃ v,cur[j]? =some v/\VR M ρ s v
 | .rows ty k len f, .cells cur T fz=>T=ty/\fz=(0,0)/\x.k=k/\cur.size=x.R*k/\len<=x.R/\∀ i c,i<len->c<k->∃ v,cur[i*k+c]? =some v/\DR M (f i c) v
 | .map es, .map iK cl=>(iK.size=es.length/\cl=iK.size)/\∀ (j:Nat) (e:Value×D),es[j]? =some e->∃ y:MapEntry,iK[j]? =some y/\y.key=e.1/\DR M e.2 y.val/\y.born=j
 | .fam _ es, .map iK cl=>es.ly=none/\(iK.size=es.es.length/\cl=iK.size)/\(∀ (j:Nat) (e:Value×SV×List ff),es.es[j]? =some e->∃ y:MapEntry,iK[j]? =some y/\y.key=e.1/\y.born=j)/\∀ p,p∈es.op->∃ y:MapEntry,iK[p.1]? =some y/\VR M ρ p.2 y.val
 | .fam _ es, .cells cur T fz=>(es.ly=some (T,x.k)/\fz=(0,0)/\cur.size=x.R*x.k/\es.es.length<=x.R)/\∀ p,p∈es.op->∃ v,entry es.ly (.cells cur T fz) p.1=some v/\VR M ρ p.2 v
 | .iter m since seen, .mapIter mp Hl IF cl=>VR M ρ m (.map mp)/\Hl=since/\IF.toList=seen/\cl=since
 |_,_=>False
theorem BR.mono{M M':aD}{ρ aq:Names}(J:M.le M')(B:ρ.le aq){x:Own}{b:aB}{o:Obj}(h:BR M ρ x b o):BR M' aq x b o:=by
 cases b with
 |cells ty k xs=>cases o with
  |cells cur T fz=>
   obtain⟨D,G,I,V,W,X⟩:=h
   exact⟨D,G,I,V,W,fun j s hs=>let⟨v,Y,E⟩:=X j s hs;⟨v,Y,E.mono J B⟩⟩
  |_=>exact h.elim
 |rows ty k len f=>cases o with
  |cells cur T fz=>
   obtain⟨D,G,I,V,W,X⟩:=h
   exact⟨D,G,I,V,W,fun i c hi hc=>let⟨v,Y,E⟩:=X i c hi hc;⟨v,Y,E.mono J⟩⟩
  |_=>exact h.elim
 |map es=>cases o with
  |map O cl=>
   obtain⟨D,G⟩:=h
   exact⟨D,fun j e he=>let⟨y,U,hk,E,hb⟩:=G j e he;⟨y,U,hk,E.mono J,hb⟩⟩
  |_=>exact h.elim
 |fam S es=>cases o with
  |map O cl=>
   obtain⟨h0,D,G,I⟩:=h
   exact⟨h0,D,G,fun p hp=>let⟨y,U,E⟩:=I p hp;⟨y,U,E.mono J B⟩⟩
  |cells cur T fz=>
   obtain⟨D,I⟩:=h
   exact⟨D,fun p hp=>let⟨y,U,E⟩:=I p hp;⟨y,U,E.mono J B⟩⟩
  |_=>exact h.elim
 |iter m since seen=>cases o with
  |mapIter mp s' aa cl=>exact⟨h.1.mono J B,h.2⟩
  |_=>exact h.elim
theorem lg{b:Array MapEntry}{e j:Nat}{v:Value}:entry none (.map b e) j=some v↔∃ y,b[j]? =some y/\y.val=v:=by
 simp[entry,Option.map_eq_some_iff]
theorem BR.open{M:aD}{ρ:Names}{x:Own}{S:List Nat}{es:ko}{o:Obj}(h:BR M ρ x (.fam S es) o){p:Nat×SV}(b:p∈es.op):∃ v,entry es.ly o p.1=some v/\VR M ρ p.2 v:=by
 cases o with
 |map iK cl=>
  obtain⟨e,_,_,k⟩:=h
  obtain⟨y,B,D⟩:=k p b
  exact⟨y.val,by rw[e];exact lg.2 ⟨y,B,rfl⟩,D⟩
 |cells cur T fz=>exact h.2 p b
 |_=>exact h.elim
theorem BR.IG{M M':aD}{ρ aq:Names}{x:Own}{S E:List Nat}{es:List (Value×SV×List ff)}{op b:List (Nat×SV)}{k:Option (TypeId×Nat)}{o:Obj}(h:BR M ρ x (.fam S ⟨es,op,k⟩) o)
  (e:∀ p,p∈b->∃ v,entry k o p.1=some v/\VR M' aq p.2 v):BR M' aq x (.fam E ⟨es,b,k⟩) o:=by
 cases o with
 |map iK cl=>
  obtain⟨B,G,I,_⟩:=h
  refine⟨B,G,I,fun p J=>?_⟩
  obtain⟨v,D,O⟩:=e p J
  have B:k=none:=B
  rw[B]at D
  obtain⟨y,U,rfl⟩:=lg.1 D
  exact⟨y,U,O⟩
 |cells cur T fz=>exact⟨h.1,e⟩
 |_=>exact h.elim
theorem BR.Cm{M:aD}{ρ:Names}{x:Own}{S I:List Nat}{es:List (Value×SV×List ff)}{op:List (Nat×SV)}{G:Option (TypeId×Nat)}{o:Obj}(h:BR M ρ x (.fam S ⟨es,op,G⟩) o){j:Nat}{k:Value}{J e1:SV×List ff}
  (O:es[j]? =some (k,J)):BR M ρ x (.fam I ⟨es.set j (k,e1),[],G⟩) o:=by
 cases o with
 |map iK cl=>
  obtain⟨U,⟨B,D⟩,v,_⟩:=h
  refine⟨U,⟨by rw[List.length_set];exact B,D⟩,fun q e b=>?_,fun p E=>by cases E⟩
  replace b:(es.set j (k,e1))[q]? =some e:=b
  rw[List.getElem?_set]at b
  split at b
  ·next V=>
   subst V
   split at b
   ·cases b
    obtain⟨W,X,Y⟩:=v j _ O
    exact⟨W,X,Y⟩
   ·cases b
  ·exact v q e b
 |cells cur T fz=>
  obtain⟨⟨B,v,h3,h4⟩,_⟩:=h
  exact⟨⟨B,v,h3,by rw[List.length_set];exact h4⟩,fun p E=>by cases E⟩
 |_=>exact h.elim
def FR(M:aD)(w:World)(b:Nat)(S:List Nat)(es:ko):Prop:=
 ∃ e:Nat->Names,
  (∀ (j:Nat) (k:Value) (s:SV) (bl:List ff),es.at j k s bl->
   (∃ o v,w.heap[b]? =some o/\entry es.ly o j=some v/\VR M (e j) s v)/\
   ∀ (i:Nat) (c:ff),bl[i]? =some c->∃ z,e j i=some z/\((z.R=0/\c.blk.ghost=true)\/(0<z.R/\z.b∈S/\∃ o,w.heap[z.b]? =some o/\BR M (e j) z c.blk o)))/\
  (∀ (j D:Nat) (k I:Value) (s s':SV) (bl B:List ff) (i E:Nat) (c J:ff) (z G:Own),es.at j k s bl->es.at D I s' B->bl[i]? =some c->B[E]? =some J->
   e j i=some z->e D E=some G->0<z.R->0<G.R->z.b=G.b->j=D/\i=E)
abbrev ar:=Nat->Option aB
structure HR (M F:aD) (ρ:Names) (h:ar) (w:World):Prop where
 fT:∀ b o,M b=some o->w.heap[b]? =some o
 iL:∀ b o,F b=some o->w.heap[b]? =some o
 j9:∀ b o,F b=some o->M b=none
 live:∀ n blk,h n=some blk->∃ x,ρ n=some x/\((x.R=0/\blk.ghost=true)\/
  (0<x.R/\M x.b=none/\F x.b=none/\∃ obj,w.heap[x.b]? =some obj/\BR M ρ x blk obj))
 sep:∀ n m x y,h n≠none->h m≠none->ρ n=some x->ρ m=some y->0<x.R->0<y.R->x.b=y.b->n=m
 fam:∀ n S es,h n=some (.fam S es)->∃ x,ρ n=some x/\0<x.R/\(∀ b,b∈S->M b=none/\F b=none/\b<w.heap.size)/\
  (∀ m y,h m≠none->ρ m=some y->0<y.R->y.b∉S)/\(∀ m S' Kr,m≠n->h m=some (.fam S' Kr)->∀ b,b∈S->b∉S')/\FR M w x.b S es
theorem FR.last{M M':aD}{w w':World}{b:Nat}{S:List Nat}{es:ko}(h:FR M w b S es)(B:M.le M')(D:∀ c,c=b\/c∈S->w'.heap[c]? =w.heap[c]?):FR M' w' b S es:=by
 obtain⟨e,E,G⟩:=h
 refine⟨e,fun j k s bl I=>?_,G⟩
 obtain⟨⟨J,y,e1,O,U⟩,V⟩:=E j k s bl I
 refine⟨⟨J,y,by rw[D b (.inl rfl)];exact e1,O,U.mono B (Names.le_refl _)⟩,fun i c W=>?_⟩
 obtain⟨z,X,v⟩:=V i c W
 refine⟨z,X,?_⟩
 rcases v with v|⟨g0,g1,o,Y,g3⟩
 ·exact .inl v
 ·exact .inr ⟨g0,g1,o,by rw[D _ (.inr g1)];exact Y,g3.mono B (Names.le_refl _)⟩
theorem FR.Cn{M:aD}{w:World}{b:Nat}{S:List Nat}{es e:ko}(h:FR M w b S es)(hl:e.ly=es.ly)(D:∀ (j:Nat) (k:Value) (s:SV) (bl:List ff),e.at j k s bl->∃ v,es.at j v s bl):FR M w b S e:=by
 obtain⟨E,O,U⟩:=h
 refine⟨E,fun j k s bl G=>?_,?_⟩
 ·obtain⟨v,V⟩:=D j k s bl G
  rw[hl]
  exact O j v s bl V
 ·intro j J k v s s' bl B i W c X z Y G I
  obtain⟨k1,e1⟩:=D j k s bl G
  obtain⟨k2,e2⟩:=D J v s' B I
  exact U j J k1 k2 s s' bl B i W c X z Y e1 e2
theorem HR.dh{M F:aD}{ρ:Names}{h:ar}{w:World}(H:HR M F ρ h w){M' J:aD}{aq:Names}{h':ar}{w':World}
  (O:∀ n S es,h' n=some (.fam S es)->h n=some (.fam S es)) (E:ρ.le aq) (Y:M.le M') (aa:w.heap.size<=w'.heap.size)
  (G:∀ n S es,h n=some (.fam S es)->∀ b,b∈S->M b=none->F b=none->M' b=none/\J b=none)
  (hw:∀ n S es x c,h' n=some (.fam S es)->h n=some (.fam S es)->ρ n=some x->0<x.R->(c=x.b\/c∈S)->w'.heap[c]? =w.heap[c]?)
  (hn:∀ n S es m y,h n=some (.fam S es)->h' m≠none->aq m=some y->0<y.R->(h m≠none/\ρ m=some y)\/y.b∉S):
  ∀ n S es,h' n=some (.fam S es)->∃ x,aq n=some x/\0<x.R/\(∀ b,b∈S->M' b=none/\J b=none/\b<w'.heap.size)/\
   (∀ m y,h' m≠none->aq m=some y->0<y.R->y.b∉S)/\(∀ m B e,m≠n->h' m=some (.fam B e)->∀ b,b∈S->b∉B)/\FR M' w' x.b S es:=by
 intro n S es U
 have v:=O n S es U
 obtain⟨x,V,W,h1,h2,h3,h4⟩:=H.fam n S es v
 refine⟨x,E n x V,W,fun b X=>?_,fun m y hm hy D=>?_,fun m B e I hm=>h3 m B e I (O m B e hm),h4.last Y (fun c hc=>hw n S es x c U v V W hc)⟩
 ·obtain⟨g1,g2,g3⟩:=h1 b X
  have :=G n S es v b X g1 g2
  exact⟨this.1,this.2,by omega⟩
 ·rcases hn n S es m y v hm hy D with⟨k1,k2⟩|k
  ·exact h2 m y k1 k2 D
  ·exact k
structure bG (w w':World):Prop where
 os:w'.os=w.os
 tape:w'.tape=w.tape
 output:w'.output=w.output
 size:w.heap.size<=w'.heap.size
theorem bG.refl(w:World):bG w w:=⟨rfl,rfl,rfl,Nat.le_refl _⟩
theorem bG.trans{a b c:World}(h:bG a b)(k:bG b c):bG a c:=⟨k.os.trans h.os,k.tape.trans h.tape,k.output.trans h.output,Nat.le_trans h.size k.size⟩
theorem bG.alloc(w:World)(o:Obj):bG w (w.alloc o):=⟨rfl,rfl,rfl,by simp⟩
theorem bG.setCell(w:World)(a:Addr)(v:Value):bG w (w.setCell a v):=⟨rfl,rfl,rfl,by simp⟩
def upd{α:Type}(h:Nat->α)(n:Nat)(b:α):Nat->α:=fun m=>bif Nat.beq m n then b else h m
@[simp] theorem upd_same{α:Type}(h:Nat->α)(n:Nat)(b:α):upd h n b n=b:=by simp[upd]
theorem bU{α:Type}(h:Nat->α)(n m:Nat)(b:α)(e:m≠n):upd h n b m=h m:=by
 unfold upd;cases k:Nat.beq m n
 ·rfl
 ·exact absurd (Nat.eq_of_beq_eq_true k) e
theorem az{α:Type}(h:Nat->α)(n m:Nat)(b:α):upd h n b m=if m=n then b else h m:=by
 by_cases e:m=n
 ·subst e;simp
 ·rw[bU _ _ _ _ e,if_neg e]
theorem vl{α:Type}(h:Nat->α)(n m:Nat)(b c:α)(e:n≠m):upd (upd h n b) m c=upd (upd h m c) n b:=by
 funext k;simp only[az];split <;>split <;>simp_all
def dB(h:ar):List (Nat×Option aB)->ar
 | []=>h
 |(n,b)::r=>dB (upd h n b) r
theorem HR.drawn{M F:aD}{ρ:Names}{h:ar}{w:World}(H:HR M F ρ h w)(n:Nat):HR M F ρ h {w with drawn:=n}:=
 ⟨H.fT,H.iL,H.j9,H.live,H.sep,H.dh (fun _ _ _ h=>h) (Names.le_refl _) (aD.le_refl _) (Nat.le_refl _) (fun _ _ _ _ _ _ a b=>⟨a,b⟩) (fun _ _ _ _ _ _ _ _ _ _=>rfl) (fun _ _ _ m y _ a b _=> .inl ⟨a,b⟩)⟩
theorem HR.push{M F:aD}{ρ:Names}{h:ar}{w:World}(H:HR M F ρ h w)(n:Nat)(hn:ρ n=none)(k R:Nat)(hR:0<R)(blk:aB)(obj:Obj)
  (hF:∀ b,w.heap.size<=b->M b=none/\F b=none)
  (hB:∀ aq:Names,ρ.le aq->BR M aq ⟨w.heap.size,k,R⟩ blk obj) (aa:∀ S es,blk≠ .fam S es:=by intro S es h;cases h):
  ∃ aq:Names,aq=(fun m=>if m=n then some ⟨w.heap.size,k,R⟩else ρ m)/\ρ.le aq/\HR M F aq (upd h n (some blk)) (w.alloc obj):=by
 refine⟨_,rfl,?_,?_⟩
 ·intro m x v
  have :m≠n:=by rintro rfl;rw[hn]at v;cases v
  simp[this,v]
 have hle:ρ.le (fun m=>if m=n then some ⟨w.heap.size,k,R⟩else ρ m):=by
  intro m x v
  have :m≠n:=by rintro rfl;rw[hn]at v;cases v
  simp[this,v]
 have old:∀ (b:Nat) (o:Obj),w.heap[b]? =some o->(w.alloc obj).heap[b]? =some o:=by
  intro b o D
  rw[heap_alloc_old w obj (h:=(Array.getElem?_eq_some_iff.1 D).1)];exact D
 have lt:∀ (b:Nat) (o:Obj),w.heap[b]? =some o->b<w.heap.size:=fun b o D=>(Array.getElem?_eq_some_iff.1 D).1
 refine⟨fun b o D=>old _ _ (H.fT _ _ D),fun b o D=>old _ _ (H.iL _ _ D),H.j9,?_,?_,?_⟩
 rotate_right
 ·refine H.dh (fun m S es hm=>?_) hle (aD.le_refl _) (by simp) (fun _ _ _ _ _ _ a b=>⟨a,b⟩) (fun m S es x c _ hm v U hc=>?_) (fun m S es p y hm I E U=>?_)
  ·rw[az]at hm
   split at hm
   ·exact absurd (Option.some.inj hm) (aa S es)
   ·exact hm
  ·have ah:c<w.heap.size:=by
    rcases hc with rfl|hc
    ·obtain⟨x',B,G⟩:=H.live m _ hm
     rw[v]at B;cases B
     rcases G with⟨ax,_⟩|⟨_,_,_,o,J,_⟩
     ·omega
     ·exact lt _ _ J
    ·obtain⟨_,_,_,V,_⟩:=H.fam m S es hm
     exact(V c hc).2.2
   rw[heap_alloc_old w obj (h:=ah)]
  ·by_cases e:p=n
   ·subst e
    simp at E;subst E
    refine .inr fun D=>?_
    obtain⟨_,_,_,V,_⟩:=H.fam m S es hm
    have :=(V _ D).2.2
    exact absurd this (Nat.lt_irrefl _)
   ·simp only[e,if_false]at E
    rw[bU _ _ _ _ e]at I
    exact .inl ⟨I,E⟩
 ·intro m b hm
  rw[az]at hm
  split at hm
  ·next e=>
   subst e;cases hm
   exact⟨_,by simp, .inr ⟨hR,(hF _ (Nat.le_refl _)).1,(hF _ (Nat.le_refl _)).2,obj,heap_alloc_new w obj,hB _ hle⟩⟩
  ·next e=>
   obtain⟨x,v,G⟩:=H.live m b hm
   refine⟨x,by simp[e,v],?_⟩
   rcases G with G|⟨U,V,h2,o,J,h4⟩
   ·exact .inl G
   ·exact .inr ⟨U,V,h2,o,old _ _ J,h4.mono (aD.le_refl _) hle⟩
 ·intro p q x y I W v E al av D
  simp only[az]at I W
  by_cases X:p=n<;>by_cases Y:q=n
  ·rw[X,Y]
  ·simp only[X,if_true]at v;simp only[Y,if_false]at E W
   cases v
   obtain⟨b2,O⟩:=Option.ne_none_iff_exists'.1 W
   obtain⟨x',B,G⟩:=H.live q b2 O
   rw[E]at B;cases B
   rcases G with⟨U,_⟩|⟨_,_,_,o,J,_⟩
   ·omega
   ·have :=lt _ _ J;simp at D;omega
  ·simp only[Y,if_true]at E;simp only[X,if_false]at v I
   cases E
   obtain⟨b2,O⟩:=Option.ne_none_iff_exists'.1 I
   obtain⟨x',B,G⟩:=H.live p b2 O
   rw[v]at B;cases B
   rcases G with⟨U,_⟩|⟨_,_,_,o,J,_⟩
   ·omega
   ·have :=lt _ _ J;simp at D;omega
  ·simp only[X,Y,if_false]at v E I W
   exact H.sep p q x y I W v E al av D
theorem HR.beyond{M F:aD}{ρ:Names}{h:ar}{w:World}(H:HR M F ρ h w):∀ b,w.heap.size<=b->M b=none/\F b=none:=by
 intro b k
 constructor
 ·cases e:M b with
  |none=>rfl
  |some o=>have :=(Array.getElem?_eq_some_iff.1 (H.fT b o e)).1;omega
 ·cases e:F b with
  |none=>rfl
  |some o=>have :=(Array.getElem?_eq_some_iff.1 (H.iL b o e)).1;omega
theorem HR.put{M F:aD}{ρ:Names}{h:ar}{w w':World}(H:HR M F ρ h w)(n:Nat)(x:Own)(W:h n≠none)(E:ρ n=some x)(X:0<x.R)(blk:aB)(obj:Obj)
  (hw:w'.heap[x.b]? =some obj) (Y:∀ b,b≠x.b->w'.heap[b]? =w.heap[b]?) (hB:BR M ρ x blk obj) (G:∀ S es,blk≠ .fam S es:=by intro S es h;cases h) (aa:w.heap.size<=w'.heap.size:=by simp):HR M F ρ (upd h n (some blk)) w':=by
 obtain⟨b0,k⟩:=Option.ne_none_iff_exists'.1 W
 obtain⟨x',I,J⟩:=H.live n b0 k
 rw[E]at I;cases I
 rcases J with⟨av,_⟩|⟨_,hM,hF,o0,ax,a0⟩
 ·omega
 have old:∀ (b:Nat) (o:Obj),(M b=some o\/F b=some o)->w.heap[b]? =some o->w'.heap[b]? =some o:=by
  intro b o ah v
  rw[Y b ?_];exact v
  rintro rfl
  rcases ah with e|e
  ·rw[hM]at e;cases e
  ·rw[hF]at e;cases e
 refine⟨fun b o v=>old _ _ (.inl v) (H.fT _ _ v),fun b o v=>old _ _ (.inr v) (H.iL _ _ v),H.j9,?_,?_,?_⟩
 rotate_right
 ·refine H.dh (fun m S es hm=>?_) (Names.le_refl _) (aD.le_refl _) aa (fun _ _ _ _ _ _ a b=>⟨a,b⟩) (fun m S es y c hm' hm D O U=>?_) (fun m S es p y hm B D O=>?_)
  ·rw[az]at hm
   split at hm
   ·exact absurd (Option.some.inj hm) (G S es)
   ·exact hm
  ·refine Y c ?_
   rintro rfl
   have al:m≠n:=by
    rintro rfl
    rw[upd_same]at hm'
    exact G S es (Option.some.inj hm')
   rcases U with U|U
   ·exact al (H.sep m n y x (by rw[hm];simp) (by rw[k];simp) D E O X U.symm)
   ·obtain⟨_,_,_,_,h2,_⟩:=H.fam m S es hm
    exact h2 n x (by rw[k];simp) E X U
  ·refine .inl ⟨?_,D⟩
   intro e;rw[az]at B;split at B
   ·next V=>subst V;rw[k]at e;cases e
   ·exact B e
 ·intro m b hm
  rw[az]at hm
  split at hm
  ·next e=>subst e;cases hm;exact⟨x,E, .inr ⟨X,hM,hF,obj,hw,hB⟩⟩
  ·next e=>
   obtain⟨y,D,J⟩:=H.live m b hm
   refine⟨y,D,?_⟩
   rcases J with J|⟨g0,h1,h2,o,h3,h4⟩
   ·exact .inl J
   ·refine .inr ⟨g0,h1,h2,o,?_,h4⟩
    rw[Y y.b ?_];exact h3
    intro v
    exact e (H.sep m n y x (by rw[hm];simp) W D E g0 X v)
 ·intro p q a b B hq
  have pp:h p≠none:=by
   intro e;rw[az]at B;split at B
   ·next V=>subst V;exact W e
   ·exact B e
  have qq:h q≠none:=by
   intro e;rw[az]at hq;split at hq
   ·next V=>subst V;exact W e
   ·exact hq e
  exact H.sep p q a b pp qq
theorem HR.beside{M F:aD}{ρ:Names}{h:ar}{w:World}(H:HR M F ρ h w)(obj:Obj):HR M F ρ h (w.alloc obj):=by
 have old:∀ (b:Nat) (o:Obj),w.heap[b]? =some o->(w.alloc obj).heap[b]? =some o:=by
  intro b o e
  rw[heap_alloc_old w obj (h:=(Array.getElem?_eq_some_iff.1 e).1)];exact e
 refine⟨fun b o e=>old _ _ (H.fT _ _ e),fun b o e=>old _ _ (H.iL _ _ e),H.j9,fun m b hm=>?_,H.sep,?_⟩
 ·obtain⟨x,B,k⟩:=H.live m b hm
  refine⟨x,B,?_⟩
  rcases k with k|⟨J,D,O,o,E,U⟩
  ·exact .inl k
  ·exact .inr ⟨J,D,O,o,old _ _ E,U⟩
 ·refine H.dh (fun _ _ _ h=>h) (Names.le_refl _) (aD.le_refl _) (by simp) (fun _ _ _ _ _ _ a b=>⟨a,b⟩) (fun m S es x c _ hm B J G=>?_) (fun _ _ _ m y _ a b _=> .inl ⟨a,b⟩)
  have I:c<w.heap.size:=by
   rcases G with rfl|G
   ·obtain⟨W,v,k⟩:=H.live m _ hm
    rw[B]at v;cases v
    rcases k with⟨V,_⟩|⟨_,_,_,o,E,_⟩
    ·omega
    ·exact(Array.getElem?_eq_some_iff.1 E).1
   ·obtain⟨_,_,_,D,_⟩:=H.fam m S es hm
    exact(D c G).2.2
  rw[heap_alloc_old w obj (h:=I)]
theorem HR.tB{M F:aD}{ρ:Names}{h:ar}{w:World}(H:HR M F ρ h w){M':aD}{h':ar}(O:M.le M')(v:∀ n b,h' n=some b->h n=some b)(V:∀ b o,M' b=some o->w.heap[b]? =some o)(hd:∀ b o,F b=some o->M' b=none)
  (hl:∀ n b x,h' n=some b->ρ n=some x->0<x.R->M' x.b=none) (hS:∀ n S es,h' n=some (.fam S es)->∀ b,b∈S->M' b=none):HR M' F ρ h' w:=by
 refine⟨V,H.iL,hd,fun n b k=>?_,fun n m x y k hm=>H.sep n m x y (fun e=>k ?_) (fun e=>hm ?_),?_⟩
 ·obtain⟨x,D,G⟩:=H.live n b (v n b k)
  refine⟨x,D,?_⟩
  rcases G with G|⟨E,h1,W,o,X,Y⟩
  ·exact .inl G
  ·exact .inr ⟨E,hl n b x k D E,W,o,X,Y.mono O (Names.le_refl _)⟩
 ·cases B:h' n with
  |none=>rfl
  |some b=>rw[v n b B]at e;cases e
 ·cases B:h' m with
  |none=>rfl
  |some b=>rw[v m b B]at e;cases e
 ·intro n S es k
  obtain⟨x,D,g0,g1,g2,g3,g4⟩:=H.fam n S es (v n _ k)
  refine⟨x,D,g0,fun b U=>⟨hS n S es k b U,(g1 b U).2⟩,fun m y hm hy E=>g2 m y (fun e=>hm ?_) hy E,fun m S' I J hm=>g3 m S' I J (v m _ hm),g4.last O (fun _ _=>rfl)⟩
  cases B:h' m with
  |none=>rfl
  |some b=>rw[v m b B]at e;cases e
theorem HR.drop{M F:aD}{ρ:Names}{h:ar}{w:World}(H:HR M F ρ h w)(n:Nat):HR M F ρ (upd h n none) w:=by
 refine⟨H.fT,H.iL,H.j9,?_,?_,?_⟩
 rotate_right
 ·refine H.dh (fun m S es hm=>?_) (Names.le_refl _) (aD.le_refl _) (Nat.le_refl _) (fun _ _ _ _ _ _ a b=>⟨a,b⟩) (fun _ _ _ _ _ _ _ _ _ _=>rfl) (fun m S es p y hm k B D=> .inl ⟨fun e=>?_,B⟩)
  ·rw[az]at hm
   split at hm
   ·cases hm
   ·exact hm
  ·rw[az]at k;split at k
   ·exact k rfl
   ·exact k e
 ·intro m b hm
  rw[az]at hm
  split at hm
  ·cases hm
  ·exact H.live m b hm
 ·intro p q a b k v
  refine H.sep p q a b (fun e=>?_) (fun e=>?_)
  ·rw[az]at k;split at k<;>simp_all
  ·rw[az]at v;split at v<;>simp_all
end Go.Proofs.YtifcaekngfgdmaaDoor.Nice
namespace Go.Proofs.YtifcaekngfgdmaaDoor.Nice
open Go Go.Conc
def QT{α:Type}:Sem α->Prop
 | .pure _=>True
 | .load _ _ k=>∀ v,QT (k v)
 | .store _ _ _ k=>QT k
 | .new _ k=>∀ r,QT (k r)
 | .shape _ k=>∀ s,QT (k s)
 | .freeze _ _ k=>QT k
 | .frozen _ k=>∀ b,QT (k b)
 | .getObj _ k=>∀ o,QT (k o)
 | .setObj _ _ k=>QT k
 | .choose _ k=>∀ n,QT (k n)
 | .sys _ _=>False
 | .program k=>∀ p,QT (k p)
 | .mark m k=>m= .noRoom/\QT k
 | .halt _=>True
def Calm(n:Nat)(e:Event):Prop:=
 match e.loc with
 | .cell a=>a.block<n
 | .obj r=>r<n
 | .mark m=>m= .noRoom
 |_=>False
theorem Calm.mono{n m:Nat}{e:Event}(h:Calm n e)(b:n<=m):Calm m e:=by
 unfold Calm at *
 split at h<;>first|omega|exact h
theorem pG{w:World}{b:Nat}{o:Obj}(h:w.heap[b]? =some o):b<w.heap.size:=(Array.getElem?_eq_some_iff.1 h).1
theorem zg{w:World}{a:Addr}{v:Value}(h:w.cell? a=some v):a.block<w.heap.size:=by
 unfold World.cell? at h
 split at h
 ·rename_i h';exact pG h'
 ·cases h
theorem oW(w:World)(a:Addr)(n:Nat):(w.freeze a n).heap.size=w.heap.size:=by
 unfold World.freeze;split <;>simp
theorem size_set(w:World)(a:Addr)(v:Value):(w.setCell a v).heap.size=w.heap.size:=by simp[World.setCell]
theorem zh{P:Program}{w:World}{at_:Addr}{u:TypeId}{k:Addr}{b:Bool}{r}(h:w.seen P at_ u k b= .ok r):at_.block<w.heap.size:=by
 cases e:w.heap[at_.block]? with
 |some o=>exact pG e
 |none=>
  exfalso
  unfold World.seen at h
  simp only[e]at h
  repeat' (first|(split at h)|(simp[bind,Except.bind,throw,throwThe,MonadExceptOf.throw,pure,Except.pure]at h;done)|(simp only[bind,Except.bind,throw,throwThe,MonadExceptOf.throw,pure,Except.pure]at h))
theorem vm{P:Program}{w:World}{at_:Addr}{u:TypeId}{k:Addr}{b:Bool}{r}(h:w.viewLoad P at_ u k b= .ok r):∀ a,a∈r.2->a.block<w.heap.size:=by
 unfold World.viewLoad at h
 cases v:w.seen P at_ u k b with
 |error e=>rw[v]at h;simp[bind,Except.bind]at h
 |ok x=>
  rw[v]at h
  have :=zh v
  simp only[bind,Except.bind]at h
  split at h
  ·simp only[pure,Except.pure,Except.ok.injEq]at h
   subst h
   intro a B
   simp only[List.mem_map]at B
   obtain⟨_,_,rfl⟩:=B
   exact this
  ·simp[throw,throwThe,MonadExceptOf.throw]at h
theorem tC{P:Program}{w:World}{at_:Addr}{u:TypeId}{k:Addr}{v:Value}{b:Bool}{r}(h:w.viewStore P at_ u k v b= .ok r):(∀ a,a∈r.2->a.block<w.heap.size)/\r.1.heap.size=w.heap.size:=by
 unfold World.viewStore at h
 cases B:w.seen P at_ u k b with
 |error e=>
  rw[B]at h
  exfalso
  simp only[bind,Except.bind,throw,throwThe,MonadExceptOf.throw,pure,Except.pure]at h
  repeat' (first|(split at h)|(cases h;done))
 |ok x=>
  rw[B]at h
  have :=zh B
  simp only[bind,Except.bind,throw,throwThe,MonadExceptOf.throw,pure,Except.pure]at h
  repeat' (first|(split at h)|(cases h;done))
  all_goals
   simp only[Except.ok.injEq]at h
   subst h
   refine⟨fun a D=>?_,by simp⟩
   simp only[List.mem_map]at D
   obtain⟨_,_,rfl⟩:=D
   exact this
theorem xQ{P:Program}{w:World}{a:Addr}{b:Bool}{r}(h:w.farLoad P a b= .ok r):∀ x,x∈r.2->x.block<w.heap.size:=by
 unfold World.farLoad at h
 split at h
 ·split at h
  ·rename_i h';simp only[Except.ok.injEq]at h;subst h;exact vm h'
  ·cases h
 ·cases h
theorem vn{P:Program}{w:World}{a:Addr}{v:Value}{b:Bool}{r}(h:w.farStore P a v b= .ok r):(∀ x,x∈r.2->x.block<w.heap.size)/\r.1.heap.size=w.heap.size:=by
 unfold World.farStore at h
 split at h
 ·split at h
  ·rename_i h';simp only[Except.ok.injEq]at h;subst h;exact tC h'
  ·cases h
 ·cases h
theorem iM{n:Nat}{es:Array Event}{e:Event}(h:∀ x,x∈es->Calm n x)(k:Calm n e):∀ x,x∈es.push e->Calm n x:=fun x b=>by
 rcases Array.mem_push.1 b with b|rfl
 ·exact h x b
 ·exact k
theorem vo{n:Nat}{es:Array Event}{l:List Addr}{wr s:Bool}(h:∀ x,x∈es->Calm n x)(hl:∀ a,a∈l->a.block<n):∀ x,x∈es++l.toArray.map (⟨.cell ·,wr,s⟩)->Calm n x:=fun x b=>by
 rcases Array.mem_append.1 b with b|b
 ·exact h x b
 ·simp at b
  obtain⟨a,e,rfl⟩:=b
  exact hl a e
theorem vq{α:Type}{P:Program}{s:Sem α}(D:QT s):∀ (w:World) (es:Array Event) (a:α) (w':World),(∀ e,e∈es->Calm w.heap.size e)->(s.runT P w es).1= .ok a w'->
  w.heap.size<=w'.heap.size/\∀ e,e∈(s.runT P w es).2->Calm w'.heap.size e:=by
 induction s with
 |pure x=>
  intro w es a w' h b
  simp[Sem.runT]at b ⊢
  obtain⟨_,rfl⟩:=b
  exact⟨Nat.le_refl _,h⟩
 |load m x k B=>
  intro w es a w' h b
  unfold Sem.runT at b ⊢
  split at b
  ·rename_i v G
   try simp only[G]
   exact B v (D v) w _ a w' (iM h (zg G)) b
  ·rename_i G
   try simp only[G]
   split at b
   ·rename_i v t E
    try simp only[E]
    exact B v (D v) w _ a w' (vo h (xQ E)) b
   ·cases b
 |store m x v k B=>
  intro w es a w' h b
  have key:∀ r:Result _×Array Event,r=(match w.cell? x with
    |some _=>if w.frozen? x then(.halt (.unsupported (.unsafePointer "a write to bytes that a string shares")) w,es)else k.runT P (w.setCell x v) (es.push ⟨.cell x,true,m== .atomic⟩)
    |none=>match w.farStore P x v (m== .atomic)with
     | .ok (w,Fo)=>k.runT P w (es++Fo.toArray.map (⟨.cell ·,true,m== .atomic⟩))
     | .error h=>(.halt h w,es))->r.1= .ok a w'->w.heap.size<=w'.heap.size/\∀ e,e∈r.2->Calm w'.heap.size e:=by
   rintro r rfl b
   split at b
   ·rename_i u U
    split at b
    ·cases b
    ·rename_i I
     have :=B D (w.setCell x v) (es.push ⟨.cell x,true,m== .atomic⟩) a w' (by rw[size_set];exact iM h (zg U)) b
     rw[size_set]at this
     simp only[I];exact this
   ·rename_i U
    split at b
    ·rename_i V t E
     have hl:=vn E
     have :=B D V _ a w' (by rw[hl.2];exact vo h hl.1) b
     rw[hl.2]at this
     exact this
    ·cases b
  cases v<;>first|(simp[Sem.runT]at b;done)|exact key _ (by first|rfl|(simp only[Sem.runT];rfl)|(simp only[Sem.runT];split <;>rfl)) b
 |new o k B=>
  intro w es a w' h b
  simp only[Sem.runT]at b ⊢
  have :=B w.heap.size (D _) {w with heap:=w.heap.push o} es a w' (fun e W=>(h e W).mono (by simp)) b
  simp at this
  exact⟨by omega,this.2⟩
 |shape r k B=>intro w es a w' h b;simp only[Sem.runT]at b ⊢;exact B _ (D _) w es a w' h b
 |freeze x n k B=>
  intro w es a w' h b
  simp only[Sem.runT]at b ⊢
  have :=B D (w.freeze x n) es a w' (by rw[oW];exact h) b
  rwa[oW]at this
 |frozen x k B=>intro w es a w' h b;simp only[Sem.runT]at b ⊢;exact B _ (D _) w es a w' h b
 |getObj r k B=>
  intro w es a w' h b
  unfold Sem.runT at b ⊢
  split at b
  ·cases b
  ·rename_i o J O
   exact B o (D o) w _ a w' (iM h (pG O)) b
  ·cases b
 |setObj r o k B=>
  intro w es a w' h b
  unfold Sem.runT at b ⊢
  split at b
  ·cases b
  ·rename_i X J O
   have :=B D {w with heap:=w.heap.setIfInBounds r o} _ a w' (by simp only[Array.size_setIfInBounds];exact iM h (pG O)) b
   simp only[Array.size_setIfInBounds]at this
   exact this
  ·cases b
 |choose q k B=>
  intro w es a w' h b
  unfold Sem.runT at b ⊢
  split at b
  ·rename_i E;simp only[E,if_true];exact B _ (D _) w es a w' h b
  ·rename_i E;simp only[E];exact B _ (D _) {w with drawn:=w.drawn+1} es a w' h b
 |sys c k B=>exact D.elim
 |program k B=>intro w es a w' h b;simp only[Sem.runT]at b ⊢;exact B _ (D _) w es a w' h b
 |mark m k B=>
  intro w es a w' h b
  simp only[Sem.runT]at b ⊢
  exact B D.2 w _ a w' (iM h D.1) b
 |halt Y=>intro w es a w' h b;simp[Sem.runT]at b
theorem c7{α β:Type}{s:Sem α}{f:α->Sem β}(h:QT s)(k:∀ a,QT (f a)):QT (s>>= f):=by
 show QT (Sem.bind s f)
 induction s with
 |pure a=>exact k a
 |load m x g b=>exact fun v=>b v (h v)
 |store m x v g b=>exact b h
 |new o g b=>exact fun v=>b v (h v)
 |shape r g b=>exact fun v=>b v (h v)
 |freeze x n g b=>exact b h
 |frozen x g b=>exact fun v=>b v (h v)
 |getObj r g b=>exact fun v=>b v (h v)
 |setObj r o g b=>exact b h
 |choose q g b=>exact fun v=>b v (h v)
 |sys c g b=>exact h.elim
 |program g b=>exact fun v=>b v (h v)
 |mark m g b=>exact⟨h.1,b h.2⟩
 |halt x=>exact True.intro
theorem jq{α:Type}{c:Prop}[Decidable c]{s t:Sem α}(h:QT s)(k:QT t):QT (if c then s else t):=by
 split
 ·exact h
 ·exact k
theorem jr{α β:Type}{s:Sem α}{f:α->β}(h:QT s):QT (Functor.map f s):=c7 h fun _=>True.intro
theorem cR{α β:Type}{f:α->β->Sem (ForInStep β)}(h:∀ a b,QT (f a b)):∀ (l:List α) (b:β),QT (forIn l b f)
 | [],b=>by simp only[List.forIn_nil];exact True.intro
 |a::l,b=>by
  simp only[List.forIn_cons]
  refine c7 (h a b) fun r=>?_
  cases r with
  |done b'=>exact True.intro
  |yield b'=>exact cR h l b'
theorem e8{α β:Type}{f:α->β->Sem (ForInStep β)}(h:∀ a b,QT (f a b))(l:Array α)(b:β):QT (forIn l b f):=by
 rw[<-Array.forIn_toList];exact cR h _ _
theorem dv{β:Type}{f:Nat->β->Sem (ForInStep β)}(h:∀ a b,QT (f a b))(r:Std.Legacy.Range)(b:β):QT (forIn r b f):=by
 rw[Std.Legacy.Range.forIn_eq_forIn_range'];exact cR h _ _
theorem fU{α β:Type}{f:α->Sem β}(h:∀ a,QT (f a)):∀ (l:List α),QT (l.mapM f)
 | []=>by simp only[List.mapM_nil];exact True.intro
 |a::l=>by simp only[List.mapM_cons];exact c7 (h a) fun _=>c7 (fU h l) fun _=>True.intro
theorem ik{α β:Type}{f:α->Sem β}(h:∀ a,QT (f a))(l:Array α):QT (l.mapM f):=by
 rw[Array.mapM_eq_mapM_toList];exact jr (fU h _)
theorem er{α β:Type}{f:β->α->Sem β}(h:∀ b a,QT (f b a)):∀ (l:List α) (b:β),QT (l.foldlM f b)
 | [],b=>by simp only[List.foldlM_nil];exact True.intro
 |a::l,b=>by simp only[List.foldlM_cons];exact c7 (h b a) fun _=>er h l _
class Quiet {α:Type} (s:Sem α):Prop where
 out:QT s
section
variable {α β:Type}
instance (a:α):Quiet (pure a:Sem α):=⟨True.intro⟩
instance (a:Addr) (m:Mode):Quiet (load a m):=⟨fun _=>True.intro⟩
instance (a:Addr) (v:Value) (m:Mode):Quiet (store a v m):=⟨True.intro⟩
instance (o:Obj):Quiet (newObj o):=⟨fun _=>True.intro⟩
instance (r:Nat):Quiet (shape r):=⟨fun _=>True.intro⟩
instance (a:Addr) (n:Nat):Quiet (freeze a n):=⟨True.intro⟩
instance (a:Addr):Quiet (frozen a):=⟨fun _=>True.intro⟩
instance (r:Nat):Quiet (getObj r):=⟨fun _=>True.intro⟩
instance (r:Nat) (o:Obj):Quiet (setObj r o):=⟨True.intro⟩
instance (q:Question):Quiet (choose q):=⟨fun _=>True.intro⟩
instance:Quiet program:=⟨fun _=>True.intro⟩
instance:Quiet (mark .noRoom):=⟨⟨rfl,True.intro⟩⟩
instance (w:String):Quiet (stuck w:Sem α):=⟨True.intro⟩
instance (u:Unsupported):Quiet (unsupported u:Sem α):=⟨True.intro⟩
instance (v:Value):Quiet (goPanic v:Sem α):=⟨True.intro⟩
end
theorem cg{α:Type}{s:Sem α}(h:QT s:=by repeat' (with_reducible (first|exact Quiet.out|(intro _)|apply c7|apply jq|split |apply jr|apply cR|apply e8|apply dv|apply fU|apply ik|apply er|(dsimp only)))):Quiet s:=⟨h⟩
instance (n:Nat):Quiet (askRoom n):=by unfold askRoom;exact cg
instance (r:Nat):Quiet (viewAt r):=by unfold viewAt;exact cg
instance (r:Nat):Quiet (numberAt r):=by unfold numberAt;exact cg
instance (r:Nat):Quiet (cellsIn r):=by unfold cellsIn;exact cg
instance (a:Addr) (b:Bool):Quiet (asNumber a b):=by unfold asNumber;exact cg
instance (a:Addr):Quiet (behindNumber a):=by unfold behindNumber;exact cg
instance (a:Addr):Quiet (noView a):=by unfold noView;exact cg
instance (a:Addr):Quiet (markStringish a):=by unfold markStringish;exact cg
instance (a:Addr):Quiet (stringish a):=by unfold stringish;exact cg
instance (a b:Addr):Quiet (mayBeOne a b):=by unfold mayBeOne;exact cg
instance (a b:Addr):Quiet (sameAddr a b):=by unfold sameAddr;exact cg
instance (a b:Option Addr):Quiet (samePointer a b):=by unfold samePointer;exact cg
instance (t:TypeId):Quiet (typeInfo t):=by unfold typeInfo;exact cg
instance (t:TypeId):Quiet (underlying t):=by unfold underlying;exact cg
instance (t:TypeId):Quiet (typeStr t):=by unfold typeStr;exact cg
instance (t:TypeId):Quiet (zeroValue t):=by unfold zeroValue;exact cg
instance (t:TypeId):Quiet (sizeOf t):=by unfold sizeOf;exact cg
instance (t:TypeId):Quiet (isAgg t):=by unfold isAgg;exact cg
theorem mM(a:Addr):∀ (n i:Nat) (acc:Array Value),QT (loadCellsFrom a i n acc)
 |0,i,acc=>True.intro
 |n+1,i,acc=>by unfold loadCellsFrom;exact c7 Quiet.out fun _=>mM a n _ _
instance (a:Addr) (n:Nat):Quiet (loadCells a n):=⟨mM a n 0 #[]⟩
theorem lN(a:Addr):∀ (vs:List Value) (i:Nat),QT (storeCells a vs i)
 | [],i=>True.intro
 |v::vs,i=>by unfold storeCells;exact c7 Quiet.out fun _=>lN a vs _
instance (a:Addr) (vs:List Value) (i:Nat):Quiet (storeCells a vs i):=⟨lN a vs i⟩
instance (t:TypeId) (a:Addr):Quiet (loadVar t a):=by unfold loadVar;exact cg
instance (t:TypeId) (a:Addr) (v:Value):Quiet (storeVar t a v):=by unfold storeVar;exact cg
instance (t:TypeId) (cs:Array Value):Quiet (newRow t cs):=by unfold newRow;exact cg
instance (t:TypeId) (v:Value):Quiet (newVar t v):=by unfold newVar;exact cg
instance (t:TypeId):Quiet (elemOf t):=by unfold elemOf;exact cg
instance (t:TypeId) (cs:Array Value) (o:Nat):Quiet (part t cs o):=by unfold part;exact cg
section
variable {α:Type}
instance (e:RuntimeError):Quiet (runtimePanic e:Sem α):=by unfold runtimePanic;exact cg
instance (k:IntKind) (x y:Int) (c:BoundsCode):Quiet (boundsPanic k x y c:Sem α):=by unfold boundsPanic;exact cg
end
instance (v:Value):Quiet (asIntOf v):=by unfold asIntOf;exact cg
instance (v:Value):Quiet (asInt v):=by unfold asInt;exact cg
instance (v:Value):Quiet (asBool v):=by unfold asBool;exact cg
instance (v:Value):Quiet (asAgg v):=by unfold asAgg;exact cg
instance (v:Value):Quiet (asAddr v):=by unfold asAddr;exact cg
instance (a:Addr):Quiet (byteOf a):=by unfold byteOf;exact cg
instance (a:Addr) (c b:Nat):Quiet (partAt a c b):=by unfold partAt;exact cg
instance (a:Addr) (f:Field):Quiet (fieldPlace a f):=by unfold fieldPlace;exact cg
instance (a:Addr) (u:TypeId) (n:Nat):Quiet (variablesAt a u n):=by unfold variablesAt;exact cg
instance (v:Value):Quiet (Instr.sureAddr v):=by unfold Instr.sureAddr;exact cg
instance (t:TypeId) (v:Value):Quiet (Instr.loadAt t v):=by unfold Instr.loadAt;exact cg
instance (t:TypeId) (a v:Value):Quiet (Instr.storeAt t a v):=by unfold Instr.storeAt;exact cg
instance (t:TypeId) (a:Value) (n:Nat):Quiet (Instr.fieldAt t a n):=by unfold Instr.fieldAt;exact cg
instance (t:TypeId) (a i:Value):Quiet (Instr.indexAt t a i):=by unfold Instr.indexAt;exact cg
instance (v:Value) (y:Nat) (c:BoundsCode):Quiet (Instr.sliceBound v y c):=by unfold Instr.sliceBound;exact cg
instance (b:Bool) (l c:Nat) (x y z:Option Value):Quiet (Instr.sliceBounds b l c x y z):=by unfold Instr.sliceBounds;exact cg
instance (t:TypeId) (v:Value) (x y z:Option Value):Quiet (Instr.slice t v x y z):=by unfold Instr.slice;exact cg
instance (t:TypeId) (v:Value) (x y z:Option Value):Quiet (Instr.sliceAt t v x y z):=by unfold Instr.sliceAt;exact cg
instance (t:TypeId) (b:Bool) (v:Value):Quiet (Instr.alloc t b v):=by unfold Instr.alloc;exact cg
instance (t:TypeId) (v:Value):Quiet (Instr.box t v):=by unfold Instr.box;exact cg
instance (t:TypeId) (ps:Array (Nat×Value)):Quiet (Instr.build t ps):=by unfold Instr.build;exact cg
instance (t:TypeId) (n:Nat) (ps:Array (Nat×Value)):Quiet (Instr.buildSlice t n ps):=by unfold Instr.buildSlice;exact cg
instance (t:TypeId) (v:Value) (n:Nat):Quiet (Instr.field t v n):=by unfold Instr.field;exact cg
instance (t:TypeId) (v i:Value):Quiet (Instr.index t v i):=by unfold Instr.index;exact cg
instance (op:BinOp) (k:IntKind) (x y:Int):Quiet (Op.intArith op k x y):=by unfold Op.intArith;exact cg
instance (op:BinOp) (k:IntKind) (x y:Int):Quiet (Op.intBits op k x y):=by unfold Op.intBits;exact cg
instance (op:BinOp) (x y:Int):Quiet (Op.intCmp op x y):=by unfold Op.intCmp;exact cg
instance (op:BinOp) (k:IntKind) (x y:Int):Quiet (Op.intDiv op k x y):=by unfold Op.intDiv;exact cg
instance (op:BinOp) (k:IntKind) (x:Int) (j:IntKind) (y:Int):Quiet (Op.shift op k x j y):=by unfold Op.shift;exact cg
instance (op:BinOp) (k:FloatKind) (x y:Nat):Quiet (Op.floatArith op k x y):=by unfold Op.floatArith;exact cg
instance (op:BinOp) (k:FloatKind) (x y:Nat):Quiet (Op.floatCmp op k x y):=by unfold Op.floatCmp;exact cg
instance (op:BinOp) (x y:ByteArray):Quiet (Op.stringOp op x y):=by unfold Op.stringOp;exact cg
instance (k:FloatKind) (x:Nat) (j:FloatKind):Quiet (Conv.floatToFloat k x j):=by unfold Conv.floatToFloat;exact cg
instance (op:BinOp) (k:FloatKind) (x y:Nat):Quiet (Op.Complex.arith op k x y):=by unfold Op.Complex.arith;exact cg
instance (op:BinOp) (k:FloatKind) (x y:Nat):Quiet (Op.Complex.cmp op k x y):=by unfold Op.Complex.cmp;exact cg
instance (k:FloatKind) (x:Nat) (j:FloatKind):Quiet (Op.Complex.conv k x j):=by unfold Op.Complex.conv;exact cg
instance (x y:Nat):Quiet (Op.Complex.add x y):=by unfold Op.Complex.add;exact cg
instance (x y:Nat):Quiet (Op.Complex.sub x y):=by unfold Op.Complex.sub;exact cg
instance (x y:Nat):Quiet (Op.Complex.mul x y):=by unfold Op.Complex.mul;exact cg
instance (x y:Nat):Quiet (Op.Complex.quo x y):=by unfold Op.Complex.quo;exact cg
instance (a b c d:Nat):Quiet (Op.Complex.product a b c d):=by unfold Op.Complex.product;exact cg
instance (s a b c d:Nat):Quiet (Op.Complex.corrected s a b c d):=by unfold Op.Complex.corrected;exact cg
instance (a b c d:Nat):Quiet (Op.Complex.quotient a b c d):=by unfold Op.Complex.quotient;exact cg
instance (op:BinOp) (k:FloatKind) (a b c d:Nat):Quiet (Op.complexOp op k a b c d):=by unfold Op.complexOp;exact cg
instance (a b:Addr):Quiet (Op.twoPlaces a b):=by unfold Op.twoPlaces;exact cg
instance (k:IntKind) (a b:Addr):Quiet (Op.addrSub k a b):=by unfold Op.addrSub;exact cg
instance (op:BinOp) (a b:Addr):Quiet (Op.addrCmp op a b):=by unfold Op.addrCmp;exact cg
instance (k:IntKind) (a:Addr) (n:Int):Quiet (Op.addrMod k a n):=by unfold Op.addrMod;exact cg
instance (op:UnOp) (v:Value):Quiet (Op.unary op v):=by unfold Op.unary;exact cg
theorem pZ:∀ (d:Nat) (t:TypeId) (x y:Value),QT (Op.equalIn d t x y)
 |0,t,x,y=>True.intro
 |d+1,t,x,y=>by
  have b:=pZ d
  unfold Op.equalIn
  repeat' (with_reducible (first|exact Quiet.out|exact b _ _ _|(intro _)|apply c7|apply jq|split |apply jr|apply cR|apply e8|apply dv|apply fU|apply ik|apply er|(dsimp only)))
instance (t:TypeId) (x y:Value):Quiet (Op.equal t x y):=⟨pZ _ t x y⟩
theorem mN:∀ (d:Nat) (t:TypeId) (x y:Value),QT (Op.eqGuardIn d t x y)
 |0,t,x,y=>True.intro
 |d+1,t,x,y=>by
  have b:=mN d
  unfold Op.eqGuardIn
  repeat' (with_reducible (first|exact Quiet.out|exact b _ _ _|(intro _)|apply c7|apply jq|split |apply jr|apply cR|apply e8|apply dv|apply fU|apply ik|apply er|(dsimp only)))
instance (d:Nat) (t:TypeId) (x y:Value):Quiet (Op.eqGuardIn d t x y):=⟨mN d t x y⟩
instance (ts:Array TypeId) (t:TypeId) (vs:Array Value):Quiet (Builtin.unsafeAdd_ ts t vs):=⟨by
 unfold Builtin.unsafeAdd_
 rcases vs with⟨_|⟨a,_|⟨b,_|⟨c,l⟩⟩⟩⟩<;>try cases a
 all_goals first|exact Quiet.out (s:=stuck _)|refine c7 (s:=asInt b) Quiet.out fun n=>?_
 repeat' (with_reducible (first|exact Quiet.out|(intro _)|apply c7|apply jq|split |apply jr|apply cR|apply e8|apply dv|apply fU|apply ik|apply er|(dsimp only)))⟩
instance (op:BinOp) (t:TypeId) (x y:Operand) (a b:Value):Quiet (eqGuard op t x y a b):=by unfold eqGuard;exact cg
instance (t:TypeId) (x y:Value):Quiet (movedNumber t x y):=by unfold movedNumber;exact cg
instance (t:TypeId) (x y:Value):Quiet (movedPointer t x y):=by unfold movedPointer;exact cg
instance (op:BinOp) (t:TypeId) (x y:Value):Quiet (binOp op t x y):=by unfold binOp;exact cg
theorem oX(b:Bool):∀ (d:Nat) (t:TypeId) (x:Value),QT (Instr.checkKey b d t x)
 |0,t,x=>True.intro
 |d+1,t,x=>by
  have e:=oX b d
  unfold Instr.checkKey
  repeat' (with_reducible (first|exact Quiet.out|exact e _ _|(intro _)|apply c7|apply jq|split |apply jr|apply cR|apply e8|apply dv|apply fU|apply ik|apply er|(dsimp only)))
instance (b:Bool) (d:Nat) (t:TypeId) (x:Value):Quiet (Instr.checkKey b d t x):=⟨oX b d t x⟩
theorem lO(t:TypeId)(k:Value):∀ (es:List MapEntry) (i:Nat),QT (Instr.findAsking t k es i)
 | [],i=>True.intro
 |e::es,i=>by
  have b:=lO t k es
  unfold Instr.findAsking
  repeat' (with_reducible (first|exact Quiet.out|exact b _|(intro _)|apply c7|apply jq|split |apply jr|apply cR|apply e8|apply dv|apply fU|apply ik|apply er|(dsimp only)))
instance (t:TypeId) (k:Value) (es:List MapEntry) (i:Nat):Quiet (Instr.findAsking t k es i):=⟨lO t k es i⟩
instance (t:TypeId) (k:Value) (es:List MapEntry):Quiet (Instr.findKey t k es):=by unfold Instr.findKey;exact cg
instance (t:TypeId) (x i:Value) (b:Bool):Quiet (Instr.lookup t x i b):=by unfold Instr.lookup;exact cg
instance (x y:Value):Quiet (Instr.keyThatStays x y):=by unfold Instr.keyThatStays;exact cg
instance (t:TypeId) (m k v:Value):Quiet (Instr.mapUpdate t m k v):=by unfold Instr.mapUpdate;exact cg
instance (t:TypeId) (r:Option Value):Quiet (Instr.makeMap t r):=by unfold Instr.makeMap;exact cg
instance (t:TypeId) (l c:Value):Quiet (Instr.makeSlice t l c):=by unfold Instr.makeSlice;exact cg
instance (v:Value) (n:Nat):Quiet (Instr.extract v n):=by unfold Instr.extract;exact cg
instance (f:Fn) (x y:Array Value):Quiet (Instr.makeFunc f x y):=by unfold Instr.makeFunc;exact cg
instance (t:TypeId) (v:Value):Quiet (Instr.makeInterface t v):=by unfold Instr.makeInterface;exact cg
instance (k:IntKind) (n:Int):Quiet (Conv.intToInt k n):=by unfold Conv.intToInt;exact cg
instance (k:FloatKind) (n:Int):Quiet (Conv.intToFloat k n):=by unfold Conv.intToFloat;exact cg
instance (k:FloatKind) (b:Nat) (j:IntKind):Quiet (Conv.floatToInt k b j):=by unfold Conv.floatToInt;exact cg
instance (k:FloatKind) (a b:Nat) (j:FloatKind):Quiet (Conv.complexToComplex k a b j):=by unfold Conv.complexToComplex;exact cg
instance (n:Int):Quiet (Conv.intToString n):=by unfold Conv.intToString;exact cg
instance (t:TypeId) (s:ByteArray):Quiet (Conv.stringToBytes t s):=by unfold Conv.stringToBytes;exact cg
instance (t:TypeId) (s:ByteArray):Quiet (Conv.stringToRunes t s):=by unfold Conv.stringToRunes;exact cg
instance (v:Value):Quiet (Conv.bytesToString v):=by unfold Conv.bytesToString;exact cg
instance (v:Value):Quiet (Conv.runesToString v):=by unfold Conv.runesToString;exact cg
instance (a:Addr):Quiet (Conv.seenAt a):=by unfold Conv.seenAt;exact cg
instance (s d:TypeId) (v:Value):Quiet (Conv.unsafePointer s d v):=by unfold Conv.unsafePointer;exact cg
instance (s d:TypeId) (v:Value):Quiet (convert s d v):=by unfold convert;exact cg
instance (a:Addr) (n:Nat):Quiet (Builtin.holdsCells a n):=by unfold Builtin.holdsCells;exact cg
instance (a b c:Nat) (x:Option Addr) (v:Value):Quiet (Builtin.mayShare a b c x v):=by unfold Builtin.mayShare;exact cg
instance (v:Value):Quiet (Builtin.lenOf v):=by unfold Builtin.lenOf;exact cg
instance (a b:Nat) (v:Value):Quiet (Builtin.firstCells a b v):=by unfold Builtin.firstCells;exact cg
instance (ts:Array TypeId) (t:TypeId) (vs:Array Value):Quiet (Builtin.append_ ts t vs):=by unfold Builtin.append_;exact cg
instance (ts:Array TypeId) (t:TypeId) (vs:Array Value):Quiet (Builtin.cap_ ts t vs):=by unfold Builtin.cap_;exact cg
instance (ts:Array TypeId) (t:TypeId) (vs:Array Value):Quiet (Builtin.clear_ ts t vs):=by unfold Builtin.clear_;exact cg
instance (ts:Array TypeId) (t:TypeId) (vs:Array Value):Quiet (Builtin.len_ ts t vs):=by unfold Builtin.len_;exact cg
instance (x y:Value):Quiet (Builtin.max2 x y):=by unfold Builtin.max2;exact cg
instance (x y:Value):Quiet (Builtin.min2 x y):=by unfold Builtin.min2;exact cg
instance (ts:Array TypeId) (t:TypeId) (vs:Array Value):Quiet (Builtin.max_ ts t vs):=by unfold Builtin.max_;exact cg
instance (ts:Array TypeId) (t:TypeId) (vs:Array Value):Quiet (Builtin.min_ ts t vs):=by unfold Builtin.min_;exact cg
theorem kr:∀ (l:List FieldStep) (t:TypeId) (x:Option Value),QT (followBlind l t x)
 | [],t,x=>True.intro
 |s::l,t,x=>by
  have b:=kr l
  unfold followBlind
  repeat' (with_reducible (first|exact Quiet.out|exact b _ _|(intro _)|apply c7|apply jq|split |apply jr|apply cR|apply e8|apply dv|apply fU|apply ik|apply er|(dsimp only)))
instance (l:List FieldStep) (t:TypeId) (x:Option Value):Quiet (followBlind l t x):=⟨kr l t x⟩
theorem oY:∀ (d:Nat) (t:TypeId) (v:Value) (n:String),QT (nilAhead d t v n)
 |0,t,v,n=>True.intro
 |d+1,t,v,n=>by
  have b:=oY d
  unfold nilAhead
  repeat' (with_reducible (first|exact Quiet.out|exact b _ _ _|(intro _)|apply c7|apply jq|split |apply jr|apply cR|apply e8|apply dv|apply fU|apply ik|apply er|(dsimp only)))
instance (d:Nat) (t:TypeId) (v:Value) (n:String):Quiet (nilAhead d t v n):=⟨oY d t v n⟩
instance (fn:Func) (ts:Array Value):Quiet (results fn ts):=by unfold results;exact cg
structure LT (P:Program) where
 T:Goroutine->World->Prop
 step:∀ {g w g' w' es},g.status= .running->stepG P true g w= .go g' w' es->w.heap.size<=w'.heap.size->(∀ e,e∈es->Calm w'.heap.size e)->T g' w'->T g w
theorem LT.idle{P:Program}(K:LT P){g g':Goroutine}{w:World}(b:g.status= .running)(h:stepG P true g w= .go g' w #[])(k:K.T g' w):K.T g w:=
 K.step b h (Nat.le_refl _) (fun e v=>by simp at v) k
def AK{P:Program}(K:LT P)(b:Frame)(k:List Item)(cs:List Frame):Go.Exit->Act->World->Prop
 | .normal,a,w=>K.T (G (b.at a k) cs) w
 | .exit id,a,w=>∃ e,exitTo id k=some e/\K.T (G (b.at a e) cs) w
 | .ret,a,w=>∀ todo,K.T (G {b.at a todo with mode:= .returning} cs) w
 |_,_,_=>False
theorem AK.push{P:Program}{K:LT P}{b:Frame}{x:Item}{k:List Item}{cs:List Frame}{e:Go.Exit}{a:Act}{w:World}(E:x.plain=true)(v:e≠ .normal)(h:AK K b k cs e a w):AK K b (x::k) cs e a w:=by
 cases e with
 |normal=>exact absurd rfl v
 |exit id=>obtain⟨B,G,D⟩:=h;exact⟨B,by cases x<;>simp_all[exitTo,Item.plain],D⟩
 |ret=>exact h
 |goto l=>exact h
 |panic ch=>exact h
 |outgrown=>exact h
def vr(P:Program)(c:Code)(Q:Go.Exit->Act->World->Prop)(a:Act)(w:World):Prop:=
 ∀ (K:LT P) b k cs,b.kind≠ .early->(∀ e v w',Q e v w'->AK K b k cs e v w')->K.T (G (b.at a (.code c::k)) cs) w
def js(P:Program)(f:FuncId)(args:Array Value)(w:World)(R:Ending->World->Prop):Prop:=
 ∀ (K:LT P) c cs,(∀ v w',R (.returned v) w'->K.T (G (c.finish v) cs) w')->K.T (G (Frame.enter P f args .normal) (c::cs)) w
theorem js.mono{P:Program}{f:FuncId}{args:Array Value}{w:World}{R b:Ending->World->Prop}(h:js P f args w R)(k:∀ e w',R e w'->b e w'):js P f args w b:=
 fun K c cs B=>h K c cs fun v w' D=>B v w' (k _ _ D)
section
variable {P:Program} {Q Q':Go.Exit->Act->World->Prop} {a:Act} {w:World}
theorem fj{c:Code}(v:∀ e a w,Q e a w->Q' e a w)(h:vr P c Q a w):vr P c Q' a w:=
 fun K b k cs B D=>h K b k cs B fun e E w' G=>D e E w' (v _ _ _ G)
theorem Cp(h:Q .normal a w):vr P .skip Q a w:=fun K b k cs v e=>K.idle rfl stepG_skip (e _ _ _ h)
theorem Cq{id:Nat}(h:Q (.exit id) a w):vr P (.exit id) Q a w:=fun K b k cs D e=>by
 obtain⟨E,v,B⟩:=e _ _ _ h
 exact K.idle rfl (stepG_exit v) B
theorem Fp(h:Q .ret a w):vr P .ret Q a w:=fun K b k cs v e=>K.idle rfl stepG_ret' (e _ _ _ h _)
theorem Fq{x y:Code}(h:vr P x (Go.Exit.then (vr P y Q) Q) a w):vr P (.seq x y) Q a w:=by
 intro K b k cs E v
 refine K.idle rfl stepG_seq (h K b (.code y::k) cs E ?_)
 intro e D w' B
 cases e with
 |normal=>exact B K b k cs E v
 |exit id=>exact AK.push (x:= .code y) rfl (by simp) (v (.exit id) D w' B)
 |goto l=>exact v (.goto l) D w' B
 |ret=>exact v .ret D w' B
 |panic ch=>exact v (.panic ch) D w' B
 |outgrown=>exact v .outgrown D w' B
theorem p5{c:Operand}{x y:Code}{t:Bool}(B:a.eval c= .bool t)(D:t=true->vr P x Q a w)(E:t=false->vr P y Q a w):vr P (.cond c x y) Q a w:=by
 intro K b k cs e v
 refine K.idle rfl (stepG_cond B) ?_
 cases t with
 |true=>exact D rfl K b k cs e v
 |false=>exact E rfl K b k cs e v
theorem AL{id:Nat}{c:Code}(h:vr P c (Go.Exit.inBlock id Q) a w):vr P (.block id c) Q a w:=by
 intro K b k cs I D
 refine K.idle rfl stepG_block (h K b (.inBlock id::k) cs I ?_)
 intro e E w' v
 cases e with
 |normal=>exact K.idle rfl stepG_inBlock (D .normal E w' v)
 |exit G=>
  simp only[Go.Exit.inBlock]at v
  by_cases B:G=id
  ·rw[if_pos B]at v
   exact⟨k,by simp[exitTo,B],D .normal E w' v⟩
  ·rw[if_neg B]at v
   obtain⟨J,O,U⟩:=D (.exit G) E w' v
   have :(id==G)=false:=by simp;exact fun h=>B h.symm
   exact⟨J,by simp[exitTo,this,O],U⟩
 |goto l=>exact D (.goto l) E w' v
 |ret=>exact D .ret E w' v
 |panic ch=>exact D (.panic ch) E w' v
 |outgrown=>exact D .outgrown E w' v
theorem tD{c:Code}(I:Nat->Act->World->Prop){n:Nat}(D:I n a w)
  (round:∀ n a w,I n a w->vr P c (Go.Exit.then (fun v w'=>∃ k,k<n/\I k v w') Q) a w):vr P (.loop c) Q a w:=by
 intro K b k cs O E
 have key:∀ n a w,I n a w->K.T (G (b.at a (.code c:: .inLoop c::k)) cs) w:=by
  intro n
  induction n using Nat.strongRecOn with
  |_ n ih=>
   intro a w U
   refine round n a w U K b (.inLoop c::k) cs O ?_
   intro e v w' B
   cases e with
   |normal=>
    obtain⟨j,V,J⟩:=B
    exact K.idle rfl stepG_inLoop (ih j V v w' J)
   |exit id=>exact AK.push (x:= .inLoop c) rfl (by simp) (E (.exit id) v w' B)
   |goto l=>exact E (.goto l) v w' B
   |ret=>exact E .ret v w' B
   |panic ch=>exact E (.panic ch) v w' B
   |outgrown=>exact E .outgrown v w' B
 exact K.idle rfl stepG_loop (key n a w D)
end
def Cr(P:Program)(o:Oper)(a:Act)(w:World)(K:Act->World->Prop)(Q:Go.Exit->Act->World->Prop):Prop:=
 match(execOp a.eval o).run P w with
 | .ok (.value v) w'=>K (a.put o.dst v) w'
 | .ok .skip w'=>K (a.put o.dst undef) w'
 | .ok (.enter f args) w'=>js P f args w' fun | .returned v,b=>K (a.put o.dst v) b|_,_=>False
 |_=>False
def lh:Op->Bool
 | .move _| .assign _| .pick .. | .alloc _| .box .. | .build .. | .buildSlice .. | .load .. | .store .. | .nilCheck _| .binOp .. | .unOp .. | .convert .. | .makeInterface .. | .makeFunc .. | .makeMap .. | .makeSlice .. | .slice .. | .fieldAddr .. | .field .. | .indexAddr .. | .index .. | .lookup .. | .mapUpdate .. | .extract .. =>true
 | .call c=>match c.callee with
  | .builtin .append| .builtin .cap| .builtin .clear| .builtin .len| .builtin .max| .builtin .min=>true
  |_=>false
 |_=>false
theorem xR{o:Oper}(h:lh o.op=true)(ρ:Operand->Value):QT (execOp ρ o):=by
 cases k:o.op<;>rw[k]at h<;>simp only[execOp,k]
 case call c=>
  have h:(match c.callee with
   | .builtin .append| .builtin .cap| .builtin .clear| .builtin .len| .builtin .max| .builtin .min=>true
   |_=>false)=true:=h
  cases e:c.callee with
  |builtin b=>
   rw[e]at h
   simp only[resolve,e]
   show QT (invoke (.builtin b c.argTypes o.type _) _)
   cases b<;>first|(cases h;done)|(simp only[invoke,builtin];exact c7 Quiet.out fun _=>Quiet.out)
  |value x=>rw[e]at h;cases h
  |invoke x n=>rw[e]at h;cases h
 all_goals (try cases h)
 all_goals (repeat' (with_reducible (first|exact Quiet.out|(intro _)|apply c7|apply jq|split)))
def p6(P:Program)(o:Oper)(a:Act)(w:World):Prop:=
 ∀ n w',(execOp a.eval o).run P w= .ok n w'->w.heap.size<=w'.heap.size/\∀ e,e∈(execOp a.eval o).events P w #[]->Calm w'.heap.size e
theorem tE{P:Program}{o:Oper}{a:Act}{w:World}(h:lh o.op=true):p6 P o a w:=fun n w' b=>by
 have :=vq (P:=P) (xR h a.eval) w #[] n w' (fun e k=>by simp at k) (by rw[Sem.runT_eq];exact b)
 rwa[Sem.runT_eq]at this
def fE(fn:Func):Bool:= !(fn.name== "runtime.NumGoroutine")&&fn.body.isSome
theorem iN{P:Program}{w:World}{a:Act}{o:Oper}{x:Operand}{b:Array Operand}{B:Array TypeId}(D:o.op= .call {callee:= .value x,args:=b,argTypes:=B}){f:FuncId}{vs:Array Value}(E:a.eval x= .func (.func f) #[] vs){fn:Func}(G:P.funcs[f]? =some fn)(k:fE fn=true):
  (execOp a.eval o).run P w= .ok (.enter f (b.map a.eval++vs)) w/\(execOp a.eval o).events P w #[]= #[]:=by
 simp only[fE,Bool.and_eq_true,Bool.not_eq_true']at k
 obtain⟨v,I⟩:=k
 have v:fn.name≠ "runtime.NumGoroutine" :=by simpa using v
 have J:fn.body≠none:=by intro e;rw[e]at I;cases I
 exact⟨by simp[execOp,D,resolve,E,Deferred.ofValue,invoke,callFunc,G,v,J],by simp[execOp,D,resolve,E,Deferred.ofValue,invoke,callFunc,G,v,J]⟩
theorem oZ{P:Program}{o:Oper}{a:Act}{w:World}{c:Call}{x:Operand}(D:o.op= .call c)(v:c.callee= .value x){f:FuncId}{vs:Array Value}(E:a.eval x= .func (.func f) #[] vs){fn:Func}(G:P.funcs[f]? =some fn)(b:fE fn=true):p6 P o a w:=fun n w' k=>by
 obtain⟨O,U,V⟩:=c
 simp only at v;subst v
 obtain⟨I,J⟩:=iN (P:=P) (w:=w) D E G b
 rw[I]at k
 simp only[Result.ok.injEq]at k
 obtain⟨_,rfl⟩:=k
 exact⟨Nat.le_refl _,fun e B=>by rw[J]at B;simp at B⟩
theorem p7{P:Program}(K:LT P){ops:Array Oper}{i:Nat}{rest:List Nat}{o:Oper}{a:Act}{w:World}{b:Frame}{k:List Item}{cs:List Frame}{W:Act->World->Prop}{Q:Go.Exit->Act->World->Prop}(I:ops[i]? =some o)(J:Region.wanted o (yielded ops a.tmps)=true)(O:b.kind≠ .early)
  (X:p6 P o a w) (h:Cr P o a w W Q) (U:∀ v w',W (a.put o.dst v) w'->(∀ x,o.op= .move x->v=a.eval x)->K.T (G (b.at (a.put o.dst v) (.inRegion ops rest::k)) cs) w'):K.T (G (b.at a (.inRegion ops (i::rest)::k)) cs) w:=by
 unfold Cr at h
 cases B:(execOp a.eval o).run P w with
 |ok n w'=>
  rw[B]at h
  obtain⟨c1,Y⟩:=X n w' B
  have mv:∀ x,o.op= .move x->n= .value (a.eval x):=fun x D=>by
   simp only[execOp,D]at B
   injection B with h1 _;exact h1.symm
  have V:∀ e,e∈listed P b.fn a o w->Calm w'.heap.size e:=fun e he=>Y e (mem_seen he)
  cases n with
  |value v=>exact K.step rfl (stepG_value I J O B) c1 V (U _ _ h fun x D=>by have :=mv x D;injection this)
  |skip=>exact K.step rfl (stepG_none I J O B) c1 V (U _ _ h fun x D=>by have :=mv x D;cases this)
  |enter f args=>
   have h:js P f args w' _:=h
   refine K.step rfl (stepG_enter I J O B) c1 V (h K _ cs fun v aa hv=>?_)
   have E:(b.at a (.inRegion ops (i::rest)::k)).finish v=b.at (a.put o.dst v) (.inRegion ops rest::k):=by rw[Frame.finish_at,I];rfl
   rw[E]
   exact U _ _ hv fun x D=>by have :=mv x D;cases this
  |_=>exact h.elim
 |halt x w'=>rw[B]at h;exact h.elim
def vt(P:Program)(T:List Tmp):Op->Bool
 | .call c=>match c.callee with
  | .value (.func f)=>(match P.funcs[f]? with |some fn=>fE fn|none=>false)
  | .value (.tmp t)=>T.any (Nat.beq t)
  |_=>false
 |_=>false
def less(d:Tmp)(T:List Tmp):List Tmp:=T.filter fun t=> !Nat.beq t d
def Cs(T:List Tmp)(o:Oper):List Tmp:=
 match o.dst with
 |none=>T
 |some d=>match o.guard,o.op with
  |none, .move (.tmp s)=>if T.any (Nat.beq s)then d::less d T else less d T
  |_,_=>less d T
def lj(P:Program):List Tmp->List Oper->Bool
 |_,[]=>true
 |T,o::l=>(lh o.op||vt P T o.op)&&lj P (Cs T o) l
def nU(P:Program)(T:List Tmp)(ops:Array Oper):Bool:=lj P T ops.toList
def iC(P:Program)(ops:Array Oper):Bool:=ops.toList.all fun o=>lh o.op||vt P [] o.op
theorem lY{P:Program}{ops:Array Oper}(h:iC P ops=true){i:Nat}{o:Oper}(b:ops[i]? =some o):(lh o.op||vt P [] o.op)=true:=by
 unfold iC at h
 rw[List.all_eq_true]at h
 exact h o (by rw[Array.mem_toList_iff];exact Array.mem_of_getElem? b)
def tF(P:Program)(T:List Tmp)(a:Act):Prop:=∀ s,s∈T->∃ f vs fn,a.tmps.getD s undef= .func (.func f) #[] vs/\P.funcs[f]? =some fn/\fE fn=true
theorem Ct{a:Act}{d k:Nat}{v:Value}(h:k≠d):(a.put (some d) v).tmps.getD k undef=a.tmps.getD k undef:=by
 show(a.tmps.setIfInBounds d v).getD k undef=_
 rw[Array.getD_eq_getD_getElem?,Array.getElem?_setIfInBounds_ne (Ne.symm h),<-Array.getD_eq_getD_getElem?]
theorem tF.less{P:Program}{T:List Tmp}{a:Act}{d:Tmp}{v:Value}(h:tF P T a):tF P (less d T) (a.put (some d) v):=fun s b=>by
 unfold Nice.less at b
 rw[List.mem_filter]at b
 obtain⟨f,vs,fn,B,D⟩:=h s b.1
 have k:s≠d:=fun e=>by subst e;simp at b
 exact⟨f,vs,fn,by rw[Ct k];exact B,D⟩
theorem tF.next{P:Program}{T:List Tmp}{a:Act}{o:Oper}{v:Value}(h:tF P T a)(hd:∀ d,o.dst=some d->d<a.tmps.size)(G:o.guard=none->∀ x,o.op= .move x->v=a.eval x):tF P (Cs T o) (a.put o.dst v):=by
 unfold Cs
 cases b:o.dst with
 |none=>exact h
 |some d=>
  dsimp only
  split
  ·rename_i s I e
   split
   ·rename_i E
    intro t k
    rcases List.mem_cons.1 k with rfl|k
    ·rw[List.any_eq_true]at E
     obtain⟨s',B,D⟩:=E
     obtain rfl:=Nat.eq_of_beq_eq_true D
     obtain⟨f,vs,fn,J,O⟩:=h _ B
     have :=G I _ e
     subst this
     refine⟨f,vs,fn,?_,O⟩
     show(a.tmps.setIfInBounds _ _).getD _ undef=_
     rw[Array.getD_eq_getD_getElem?,Array.getElem?_setIfInBounds_self_of_lt (hd _ b)]
     exact J
    ·exact h.less t k
   ·exact h.less
  ·exact h.less
theorem pH{P:Program}{T:List Tmp}{o:Oper}{a:Act}{w:World}(h:(lh o.op||vt P T o.op)=true)(hd:tF P T a):p6 P o a w:=by
 rw[Bool.or_eq_true]at h
 rcases h with h|h
 ·exact tE h
 ·unfold vt at h
  split at h
  ·rename_i c k
   split at h
   ·rename_i f v
    split at h
    ·rename_i fn b
     exact oZ k v (vs:= #[]) rfl b h
    ·cases h
   ·rename_i t B
    rw[List.any_eq_true]at h
    obtain⟨s,e,D⟩:=h
    obtain rfl:=Nat.eq_of_beq_eq_true D
    obtain⟨f,vs,fn,E,G,I⟩:=hd _ e
    exact oZ k B (vs:=vs) E G I
   ·cases h
  ·cases h
theorem tG{P:Program}{main:Bool}{b:Frame}{a:Act}{cs:List Frame}{w:World}{fn:Func}{todo:List Item}{c:Frame}{v:Value}(B:b.kind= .normal)(hd:a.defers= [])(D:P.funcs[b.fn]? =some fn)
  (E:(results fn a.tmps).run P w= .ok v w):∃ es,stepG P main (G {b.at a todo with mode:= .returning} (c::cs)) w= .go (G (c.finish v) cs) w es/\∀ e,e∈es->e∈(results fn a.tmps).events P w #[]:=by
 simp[G,stepG,unwind,doReturn,Frame.at,B,hd,D,E,GStep.after]
 first
  |exact fun e k=>mem_seen k
  |exact⟨_,rfl,fun e k=>mem_seen k⟩
def IH(P:Program)(fn:Func)(R:Ending->World->Prop):Go.Exit->Act->World->Prop
 | .normal,a,w| .ret,a,w=>a.defers= []/\∃ v,(results fn a.tmps).run P w= .ok v w/\R (.returned v) w
 |_,_,_=>False
theorem AM{P:Program}{f:FuncId}{fn:Func}{c:Code}{args:Array Value}{w:World}{R:Ending->World->Prop}(I:P.funcs[f]? =some fn)(O:fn.body=some c)
  (h:vr P c (IH P fn R) {tmps:=args++Array.replicate (fn.ntmps-args.size) undef,defers:= []} w):js P f args w R:=by
 intro K B cs U
 rw[enter_at args I O]
 have fin:∀ k w',(k.defers= []/\∃ v,(results fn k.tmps).run P w'= .ok v w'/\R (.returned v) w')->∀ todo,K.T (G {(base f).at k todo with mode:= .returning} (B::cs)) w':=by
  rintro k w' ⟨hd,v,J,V⟩ todo
  obtain⟨es,e1,W⟩:=tG (main:=true) (b:=base f) (todo:=todo) (c:=B) (cs:=cs) rfl hd I J
  have :=vq (P:=P) (s:=results fn k.tmps) Quiet.out w' #[] v w' (fun e D=>by simp at D) (by rw[Sem.runT_eq];exact J)
  rw[Sem.runT_eq]at this
  exact K.step rfl e1 (Nat.le_refl _) (fun e D=>this.2 e (W e D)) (U v w' V)
 refine h K (base f) [] (B::cs) (by intro h;cases h) ?_
 intro e k w' E
 cases e with
 |normal=>exact K.idle rfl stepG_end (fin k w' E [])
 |ret=>exact fin k w' E
 |_=>exact E.elim
end Go.Proofs.YtifcaekngfgdmaaDoor.Nice
namespace Go.Proofs.YtifcaekngfgdmaaDoor.Nice
open Go
structure Ctx where
 P:Program
 sz:Nat
 m:Nat
 G:Nat->SV
structure St where
 t:Nat->SV
 h:ar
 nx:Nat
structure SR0 (C:Ctx) (M F:aD) (pin ρ:Names) (σ:St) (a:Act) (w:World):Prop where
 tm:∀ k,VR M ρ (σ.t k) (a.tmps.getD k undef)
 sz:a.tmps.size=C.sz
 df:a.defers= []
 hr:HR M F ρ σ.h w
 pn:pin.le ρ
 pm:∀ n x,pin n=some x->n<C.m
 gl:∀ g ρ,VR M ρ (C.G g) (.pointer (some ⟨g,0,none⟩))
structure SR (C:Ctx) (M F:aD) (pin ρ:Names) (σ:St) (a:Act) (w:World):Prop extends SR0 C M F pin ρ σ a w where
 fr:∀ n,σ.nx<=n->ρ n=none
def W(C:Ctx)(c:Code)(Q:Exit->St->Prop)(σ:St):Prop:=
 ∀ M F pin ρ a w,SR C M F pin ρ σ a w->vr C.P c (fun e b w'=>∃ M' aq aF,M.le M'/\SR C M' F pin aq aF b w'/\bG w w'/\Q e aF) a w
section
variable {C:Ctx} {Q:Exit->St->Prop} {σ:St}
theorem tH{c:Code}{Q':Exit->St->Prop}(h:W C c Q σ)(b:∀ e aF,Q e aF->Q' e aF):W C c Q' σ:=
 fun M F pin ρ a w k=>fj (fun e G w' ⟨M',aq,aF,v,B,D,E⟩=>⟨M',aq,aF,v,B,D,b _ _ E⟩) (h M F pin ρ a w k)
theorem ak(h:Q .normal σ):W C .skip Q σ:=fun M F pin ρ a w b=>Cp ⟨M,ρ,σ,aD.le_refl _,b, .refl _,h⟩
theorem bI{id:Nat}(h:Q (.exit id) σ):W C (.exit id) Q σ:=fun M F pin ρ a w b=>Cq ⟨M,ρ,σ,aD.le_refl _,b, .refl _,h⟩
theorem ao(h:Q .ret σ):W C .ret Q σ:=fun M F pin ρ a w b=>Fp ⟨M,ρ,σ,aD.le_refl _,b, .refl _,h⟩
def il(K:St->Prop)(Q:Exit->St->Prop):Exit->St->Prop
 | .normal,σ=>K σ
 |e,σ=>Q e σ
theorem ai{x y:Code}(h:W C x (il (W C y Q) Q) σ):W C (.seq x y) Q σ:=by
 intro M F pin ρ a w I
 refine Fq (fj ?_ (h M F pin ρ a w I))
 rintro e J w' ⟨M',aq,aF,B,D,E,G⟩
 cases e with
 |normal=>
  refine fj ?_ (G M' F pin aq J w' D)
  rintro e O U ⟨v,b,k,V,X,Y,k4⟩
  exact⟨v,b,k,aD.le_trans B V,X,E.trans Y,k4⟩
 |_=>exact⟨M',aq,aF,B,D,E,G⟩
def bE(C:Ctx)(t:Nat->SV):Operand->SV
 | .tmp k=>t k
 | .const (.slice none 0 0)=> .d .bz
 | .const (.agg _)=> .any
 | .const (.tuple _)=> .any
 | .const v=> .d (.val v)
 | .global g=>C.G g
 | .func f=> .fn f []
theorem gD{M F:aD}{pin ρ:Names}{a:Act}{w:World}(b:SR0 C M F pin ρ σ a w)(x:Operand):VR M ρ (bE C σ.t x) (a.eval x):=by
 cases x with
 |tmp k=>exact b.tm k
 |const v=>
  cases v with
  |slice ad l c=>
   cases ad with
   |none=>cases l with
    |zero=>cases c with
     |zero=>exact .d _ _ (.bz _)
     |succ c=>exact .d _ _ (.val _ rfl)
    |succ l=>exact .d _ _ (.val _ rfl)
   |some ad=>exact .d _ _ (.val _ rfl)
  |agg _=>exact .any _
  |tuple _=>exact .any _
  |_=>exact .d _ _ (.val _ rfl)
 |global g=>exact b.gl g ρ
 |func f=>exact .fn f [] #[] (fun _=>undef) rfl (fun i e=>by simp at e) (fun i x B=>by simp at B)
theorem VR.bool{M:aD}{ρ:Names}{t:Bool}{v:Value}(h:VR M ρ (SV.b t) v):v= .bool t:=by
 cases h with |d _ _ h=>cases h;rfl
theorem VR.val{M:aD}{ρ:Names}{u v:Value}(h:VR M ρ (.d (.val u)) v):v=u:=by
 cases h with |d _ _ h=>cases h;rfl
theorem xS{c:Operand}{x y:Code}{t:Bool}(B:bE C σ.t c=SV.b t)(D:t=true->W C x Q σ)(E:t=false->W C y Q σ):W C (.cond c x y) Q σ:=by
 intro M F pin ρ a w k
 have v:=gD k.toSR0 c
 rw[B]at v
 refine p5 v.bool (fun e=>D e M F pin ρ a w k) (fun e=>E e M F pin ρ a w k)
def eJ(id:Nat)(Q:Exit->St->Prop):Exit->St->Prop
 | .exit Iy,σ=>if Iy=id then Q .normal σ else Q (.exit Iy) σ
 |e,σ=>Q e σ
theorem au{id:Nat}{c:Code}(h:W C c (eJ id Q) σ):W C (.block id c) Q σ:=by
 intro M F pin ρ a w D
 refine AL (fj ?_ (h M F pin ρ a w D))
 rintro e E w' ⟨M',aq,aF,k,v,B,b⟩
 cases e with
 |exit Iy=>
  simp only[eJ,Go.Exit.inBlock]at b ⊢
  split
  ·next e=>rw[if_pos e]at b;exact⟨M',aq,aF,k,v,B,b⟩
  ·next e=>rw[if_neg e]at b;exact⟨M',aq,aF,k,v,B,b⟩
 |_=>exact⟨M',aq,aF,k,v,B,b⟩
theorem pI{c:Code}(I:Nat->St->Prop)(n:Nat)(V:I n σ)
  (round:∀ n σ,I n σ->W C c (il (fun aF=>∃ k,k<n/\I k aF) Q) σ):W C (.loop c) Q σ:=by
 intro M F pin ρ a w X
 refine tD (fun n B w'=>∃ M' aq aF,M.le M'/\SR C M' F pin aq aF B w'/\bG w w'/\I n aF) (n:=n) ⟨M,ρ,σ,aD.le_refl _,X, .refl _,V⟩ ?_
 rintro n Y w1 ⟨M1,b,v,D,h2,E,h4⟩
 refine fj ?_ (round n v h4 M1 F pin b Y w1 h2)
 rintro e B w' ⟨M',aq,aF,G,J,O,U⟩
 cases e with
 |normal=>
  obtain⟨j,hj,hI⟩:=U
  exact⟨j,hj,M',aq,aF,aD.le_trans D G,J,E.trans O,hI⟩
 |_=>exact⟨M',aq,aF,aD.le_trans D G,J,E.trans O,U⟩
end
mutual
def du(π:List Nat):SV->SV
 | .ptr n i c=> .ptr (π.getD n 0) i c
 | .sl n o l=> .sl (π.getD n 0) o l
 | .cs n c l=> .cs (π.getD n 0) c l
 | .op n b=> .op (π.getD n 0) b
 | .map n=> .map (π.getD n 0)
 | .fn f cs=> .fn f (gV π cs)
 | .agg xs=> .agg (gV π xs)
 | .bA xs=> .bA (gV π xs)
 | .iface t x=> .iface t (du π x)
 | .any=> .any
 | .d x=> .d x
 | .vp k l f i c=> .vp k l f i c
def gV(π:List Nat):List SV->List SV
 | []=> []
 |x::r=>du π x::gV π r
end
def tI(π:List Nat):List (Nat×SV)->List (Nat×SV)
 | []=> []
 |(j,x)::r=>(j,du π x)::tI π r
def dW(π:List Nat):aB->aB
 | .cells ty k xs=> .cells ty k (gV π xs)
 | .fam S es=> .fam S ⟨es.es,tI π es.op,es.ly⟩
 | .iter m since seen=> .iter (du π m) since seen
 |b=>b
theorem mO{π:List Nat}:∀ {op:List (Nat×SV)} {p:Nat×SV},p∈tI π op->∃ q,q∈op/\p=(q.1,du π q.2)
 | [],p,h=>by cases h
 |(j,x)::r,p,h=>by
  rcases List.mem_cons.1 h with rfl|h
  ·exact⟨_,List.mem_cons_self ..,rfl⟩
  ·obtain⟨q,b,e⟩:=mO h;exact⟨q,List.mem_cons_of_mem _ b,e⟩
theorem pJ{π:List Nat}:∀ {op:List (Nat×SV)} {q:Nat×SV},q∈op->(q.1,du π q.2)∈tI π op
 | [],q,h=>by cases h
 |(j,x)::r,q,h=>by
  rcases List.mem_cons.1 h with rfl|h
  ·exact List.mem_cons_self ..
  ·exact List.mem_cons_of_mem _ (pJ h)
theorem vu{π:List Nat}{b:aB}{S:List Nat}{es:ko}(h:dW π b= .fam S es):∃ e,b= .fam S e/\es=⟨e.es,tI π e.op,e.ly⟩:=by
 cases b with
 |fam S' e=>simp only[dW,aB.fam.injEq]at h;obtain⟨rfl,rfl⟩:=h;exact⟨e,rfl,rfl⟩
 |_=>simp[dW]at h
theorem Cu{π:List Nat}{es:ko}{j:Nat}{k:Value}{s:SV}{bl:List ff}:(⟨es.es,tI π es.op,es.ly⟩:ko).at j k s bl↔es.at j k s bl:=by
 constructor
 ·rintro⟨b,e⟩;exact⟨b,fun p v=>e (p.1,Nice.du π p.2) (pJ v)⟩
 ·rintro⟨b,e⟩
  refine⟨b,fun p v=>?_⟩
  obtain⟨q,B,rfl⟩:=mO v
  exact e q B
theorem FR.du{M:aD}{w:World}{b:Nat}{S:List Nat}{es:ko}{π:List Nat}:FR M w b S ⟨es.es,tI π es.op,es.ly⟩↔FR M w b S es:=
 ⟨fun h=>h.Cn rfl fun j k s bl e=>⟨k,Cu.2 e⟩,fun h=>h.Cn rfl fun j k s bl e=>⟨k,Cu.1 e⟩⟩
theorem bM(π:List Nat):∀ xs,(gV π xs).length=xs.length
 | []=>rfl
 |x::r=>by simp[gV,bM π r]
theorem dX(π:List Nat):∀ (xs:List SV) (i:Nat),(gV π xs)[i]? =(xs[i]?).map (du π)
 | [],i=>by simp[gV]
 |x::r,0=>by simp[gV]
 |x::r,i+1=>by simp[gV,dX π r i]
mutual
def SV.under(n:Nat):SV->Bool
 | .ptr m _ _| .sl m _ _| .cs m _ _| .op m _| .map m=>Nat.blt m n
 | .fn _ cs=>cS n cs
 | .agg xs| .bA xs=>cS n xs
 | .iface _ x=>x.under n
 |_=>true
def cS(n:Nat):List SV->Bool
 | []=>true
 |x::r=>x.under n&&cS n r
end
def aB.under(n:Nat):aB->Bool
 | .cells _ _ xs=>cS n xs
 | .fam _ es=>es.op.all fun e=>e.2.under n
 | .iter m _ _=>m.under n
 |_=>true
theorem cU(n:Nat):∀ (xs:List SV),cS n xs=true->∀ (i:Nat) (x:SV),xs[i]? =some x->x.under n=true
 | [],_,i,x,h=>by simp at h
 |y::r,hu,0,x,h=>by simp[cS]at hu h;subst h;exact hu.1
 |y::r,hu,i+1,x,h=>by simp[cS]at hu h;exact cU n r hu.2 i x h
def back(π:List Nat)(ρ:Names):Names:=fun i=>(π[i]?).bind ρ
theorem ll{π:List Nat}{ρ:Names}{n:Nat}{x:Own}(b:n<π.length)(h:ρ (π.getD n 0)=some x):back π ρ n=some x:=by
 simp only[back,List.getElem?_eq_getElem b,Option.bind_some]
 simpa[List.getD,List.getElem?_eq_getElem b]using h
theorem VR.back{M:aD}{ρ:Names}{π:List Nat}{y:SV}{v:Value}(h:VR M ρ y v):∀ x,y=du π x->x.under π.length=true->VR M (Nice.back π ρ) x v:=by
 induction h with
 |any v=>intro x e B;cases x<;>simp[du]at e;exact .any v
 |d z v h=>intro x e B;cases x<;>simp[du]at e;subst e;exact .d _ _ h
 |vp k len f i c b o cur T fz g hb D J=>
  intro x e B;cases x<;>simp[du]at e
  obtain⟨rfl,rfl,rfl,rfl,rfl⟩:=e
  exact .vp _ _ _ _ _ b o cur T fz g hb D J
 |ptr n i c z h=>
  intro x e B;cases x<;>simp[du]at e
  obtain⟨rfl,rfl,rfl⟩:=e
  exact .ptr _ _ _ z (ll (by simpa[SV.under]using B) h)
 |sl n o len z h hl hR h0=>
  intro x e B;cases x<;>simp[du]at e
  obtain⟨rfl,rfl,rfl⟩:=e
  exact .sl _ _ _ z (ll (by simpa[SV.under]using B) h) hl hR h0
 |jo n o z h hR a=>
  intro x e B;cases x<;>simp[du]at e
  obtain⟨rfl,rfl,rfl⟩:=e
  exact .jo _ _ z (ll (by simpa[SV.under]using B) h) hR a
 |cs n c len z cap h hc=>
  intro x e B;cases x<;>simp[du]at e
  obtain⟨rfl,rfl,rfl⟩:=e
  exact .cs _ _ _ z cap (ll (by simpa[SV.under]using B) h) hc
 |Fb n z h=>
  intro x e B;cases x<;>simp[du]at e
  obtain⟨rfl,rfl⟩:=e
  exact .Fb _ z (ll (by simpa[SV.under]using B) h)
 |Ff n=>
  intro x e B;cases x<;>simp[du]at e
  obtain⟨rfl,rfl⟩:=e
  exact .Ff _
 |map n z h=>
  intro x e B;cases x<;>simp[du]at e
  subst e
  exact .map _ z (ll (by simpa[SV.under]using B) h)
 |fn f aZ vs g E D J I=>
  intro x e B;cases x with
  |fn f' cs=>
   simp[du]at e;obtain⟨rfl,rfl⟩:=e
   rw[bM]at E D
   refine .fn _ cs vs g E D fun i y G=>I i (du π y) (by rw[dX,G];rfl) y rfl ?_
   exact cU _ cs (by simpa[SV.under]using B) i y G
  |_=>simp[du]at e
 |agg xs vs g E D J I=>
  intro x e B;cases x with
  |agg cs=>
   simp[du]at e;subst e
   rw[bM]at E D
   refine .agg cs vs g E D fun i y G=>I i (du π y) (by rw[dX,G];rfl) y rfl ?_
   exact cU _ cs (by simpa[SV.under]using B) i y G
  |_=>simp[du]at e
 |bA xs vs g E D J I=>
  intro x e B;cases x with
  |bA cs=>
   simp[du]at e;subst e
   rw[bM]at E D
   refine .bA cs vs g E D fun i y G=>I i (du π y) (by rw[dX,G];rfl) y rfl ?_
   exact cU _ cs (by simpa[SV.under]using B) i y G
  |_=>simp[du]at e
 |iface t z v h I=>
  intro x e B;cases x<;>simp[du]at e
  obtain⟨rfl,rfl⟩:=e
  exact .iface _ _ v (I _ rfl (by simpa[SV.under]using B))
theorem BR.back{M:aD}{ρ:Names}{π:List Nat}{z:Own}{b:aB}{o:Obj}(h:BR M ρ z (dW π b) o)(D:b.under π.length=true):BR M (Nice.back π ρ) z b o:=by
 cases b with
 |cells ty k xs=>cases o with
  |cells cur T X=>
   obtain⟨E,G,I,Y,U,h6⟩:=h
   rw[bM]at U
   refine⟨E,G,I,Y,U,fun j s V=>?_⟩
   obtain⟨v,hv,e⟩:=h6 j (du π s) (by rw[dX,V];rfl)
   exact⟨v,hv,e.back s rfl (cU _ xs D j s V)⟩
  |_=>exact h.elim
 |rows ty k len f=>cases o<;>exact h
 |map es=>cases o<;>exact h
 |fam S es=>cases o with
  |map W cl=>
   obtain⟨h0,E,G,I⟩:=h
   refine⟨h0,E,G,fun p B=>?_⟩
   obtain⟨y,J,e⟩:=I _ (pJ B)
   exact⟨y,J,e.back p.2 rfl ((List.all_eq_true.1 D) p B)⟩
  |cells cur T X=>
   refine⟨h.1,fun p B=>?_⟩
   obtain⟨y,J,e⟩:=h.2 _ (pJ B)
   exact⟨y,J,e.back p.2 rfl ((List.all_eq_true.1 D) p B)⟩
  |_=>exact h.elim
 |iter m since seen=>cases o with
  |mapIter mp s' O cl=>exact⟨h.1.back m rfl D,h.2⟩
  |_=>exact h.elim
def dG:List (Nat×SV)->Nat->SV
 | [],_=> .any
 |(k,v)::r,n=>bif Nat.beq n k then v else dG r n
def dC(l:List (Option aB)):ar:=fun n=>(l.getD n none)
def fg(tl:List (Nat×SV))(hl:List (Option aB)):St:=⟨dG tl,dC hl,hl.length⟩
def AN(π:List Nat)(t:Nat->SV):List (Nat×SV)->Prop
 | []=>True
 |(k,v)::r=>t k=du π v/\AN π t r
def hSub(π all:List Nat)(h:ar):List (Option aB)->Prop
 | []=>True
 |none::r=>hSub π.tail all h r
 |some b::r=>h (π.headD 0)=some (dW all b)/\hSub π.tail all h r
def eE(n:Nat):List (Nat×SV)->Bool
 | []=>true
 |(_,v)::r=>v.under n&&eE n r
def aW(n:Nat):List (Option aB)->Bool
 | []=>true
 |none::r=>aW n r
 |some b::r=>b.under n&&aW n r
def gW(m:Nat)(π:List Nat):Bool:=(List.range m).all fun i=>π[i]? ==some i
def bK:List Nat->Bool
 | []=>true
 |x::r=> !(r.any (Nat.beq x))&&bK r
structure Sub (C:Ctx) (π:List Nat) (σ:St) (tl:List (Nat×SV)) (hl:List (Option aB)):Prop where
 ok:(Nat.beq π.length hl.length&&(bK π&&(gW C.m π&&(eE hl.length tl&&aW hl.length hl))))=true
 t:AN π σ.t tl
 h:hSub π π σ.h hl
theorem vv{π:List Nat}{t:Nat->SV}{n:Nat}:∀ {tl:List (Nat×SV)},AN π t tl->eE n tl=true->∀ k,dG tl k= .any\/(t k=du π (dG tl k)/\(dG tl k).under n=true)
 | [],_,_,k=> .inl rfl
 |(k',v)::r,h,hu,k=>by
  simp only[dG]
  simp[eE]at hu
  cases e:Nat.beq k k' with
  |true=>have :=Nat.eq_of_beq_eq_true e;subst this;exact .inr ⟨h.1,hu.1⟩
  |false=>exact vv h.2 hu.2 k
theorem fW{all:List Nat}{h:ar}{n:Nat}:∀ {hl:List (Option aB)} {π:List Nat},hSub π all h hl->π.length=hl.length->aW n hl=true->
  ∀ (i:Nat) (b:aB),hl[i]? =some (some b)->∃ j,π[i]? =some j/\h j=some (dW all b)/\b.under n=true
 | [],π,_,_,_,i,b,e=>by simp at e
 |none::r,[],_,hlen,_,i,b,e=>by simp at hlen
 |some c::r,[],_,hlen,_,i,b,e=>by simp at hlen
 |none::r,x::π,h,hlen,k,0,b,e=>by simp at e
 |none::r,x::π,h,hlen,k,i+1,b,e=>by
  obtain⟨j,v,B⟩:=fW (hl:=r) (π:=π) (by simpa[hSub]using h) (by simpa using hlen) (by simpa[aW]using k) i b (by simpa using e)
  exact⟨j,by simpa using v,B⟩
 |some c::r,x::π,h,hlen,k,0,b,e=>by
  simp at e;subst e
  simp[aW]at k
  simp only[hSub,List.headD_cons]at h
  exact⟨x,rfl,h.1,k.1⟩
 |some c::r,x::π,h,hlen,k,i+1,b,e=>by
  simp[aW]at k
  simp only[hSub,List.tail_cons]at h
  obtain⟨j,v,B⟩:=fW (hl:=r) (π:=π) h.2 (by simpa using hlen) k.2 i b (by simpa using e)
  exact⟨j,by simpa using v,B⟩
theorem ck:∀ {π:List Nat},bK π=true->∀ (i j n:Nat),π[i]? =some n->π[j]? =some n->i=j
 | [],_,i,j,n,hi,_=>by simp at hi
 |x::r,h,0,0,n,_,_=>rfl
 |x::r,h,0,j+1,n,hi,hj=>by
  simp[bK]at h hi hj
  subst hi
  have :=h.1 x (List.mem_of_getElem? hj)
  simp at this
 |x::r,h,i+1,0,n,hi,hj=>by
  simp[bK]at h hi hj
  subst hj
  have :=h.1 x (List.mem_of_getElem? hi)
  simp at this
 |x::r,h,i+1,j+1,n,hi,hj=>by
  simp[bK]at h hi hj
  have :=ck h.2 i j n hi hj
  omega
theorem cj{hl:List (Option aB)}{i:Nat}{b:aB}(h:dC hl i=some b):hl[i]? =some (some b):=by
 unfold dC at h
 rw[List.getD_eq_getElem?_getD]at h
 cases e:hl[i]? with
 |none=>rw[e]at h;simp at h
 |some x=>rw[e]at h;simp at h;rw[h]
theorem AO{m:Nat}{π:List Nat}(h:gW m π=true):∀ i,i<m->π[i]? =some i:=by
 intro i b
 simp only[gW,List.all_eq_true,List.mem_range]at h
 have :=h i b
 simpa using this
theorem Sub.rel{C:Ctx}{π:List Nat}{σ:St}{tl:List (Nat×SV)}{hl:List (Option aB)}(V:Sub C π σ tl hl){M F:aD}{pin ρ:Names}{a:Act}{w:World}
  (v:SR0 C M F pin ρ σ a w):SR C M F pin (back π ρ) (fg tl hl) a w:=by
 obtain⟨W,ht,J⟩:=V
 simp only[Bool.and_eq_true]at W
 obtain⟨hlen,X,Y,aa,B⟩:=W
 have hlen:=Nat.eq_of_beq_eq_true hlen
 refine⟨⟨fun k=>?_,v.sz,v.df,?_,?_,v.pm,v.gl⟩,?_⟩
 ·rcases vv ht aa k with e|⟨e,hu⟩
  ·show VR M _ (dG tl k) _;rw[e];exact .any _
  ·exact(v.tm k).back _ e (by rw[hlen];exact hu)
 ·refine⟨v.hr.fT,v.hr.iL,v.hr.j9,?_,?_,?_⟩
  rotate_right
  ·intro i S es O
   obtain⟨j,D,hb,_⟩:=fW J hlen B i _ (cj O)
   obtain⟨x,U,g0,g1,g2,g3,g4⟩:=v.hr.fam j S _ hb
   refine⟨x,by simp[back,D,U],g0,g1,fun p y hp hy E=>?_,fun p S' a2 ah hp=>?_,FR.du.1 g4⟩
   ·obtain⟨bp,G⟩:=Option.ne_none_iff_exists'.1 hp
    obtain⟨q,hq,I,_⟩:=fW J hlen B p bp (cj G)
    simp only[back,hq,Option.bind_some]at hy
    exact g2 q y (by rw[I];simp) hy E
   ·obtain⟨q,hq,I,_⟩:=fW J hlen B p _ (cj hp)
    refine g3 q S' _ (fun e=>ah ?_) I
    subst e
    exact ck X p i q hq D
  ·intro i b O
   obtain⟨j,D,hb,hu⟩:=fW J hlen B i b (cj O)
   obtain⟨x,U,a3⟩:=v.hr.live j _ hb
   refine⟨x,by simp[back,D,U],?_⟩
   rcases a3 with⟨h0,hg⟩|⟨h0,h1,h2,o,h3,h4⟩
   ·refine .inl ⟨h0,?_⟩
    cases b<;>simp_all[dW,aB.ghost]
   ·exact .inr ⟨h0,h1,h2,o,h3,h4.back (by rw[hlen];exact hu)⟩
  ·intro p q x y hp hq U hy al E hb
   obtain⟨bp,G⟩:=Option.ne_none_iff_exists'.1 hp
   obtain⟨bq,av⟩:=Option.ne_none_iff_exists'.1 hq
   obtain⟨i,O,ax,_⟩:=fW J hlen B p bp (cj G)
   obtain⟨j,D,a0,_⟩:=fW J hlen B q bq (cj av)
   simp only[back,O,D,Option.bind_some]at U hy
   have :=v.hr.sep i j x y (by rw[ax];simp) (by rw[a0];simp) U hy al E hb
   subst this
   exact ck X p q i O D
 ·intro n x hn
  have a1:=v.pm n x hn
  simp[back,AO Y n a1,v.pn n x hn]
 ·intro n hn
  have :π[n]? =none:=by rw[List.getElem?_eq_none_iff,hlen];exact hn
  simp[back,this]
theorem Cv{C:Ctx}{c:Code}{Q:Exit->St->Prop}{σ:St}(π:List Nat)(tl:List (Nat×SV))(hl:List (Option aB))(b:Sub C π σ tl hl)(h:W C c Q (fg tl hl)):W C c Q σ:=
 fun M F pin ρ a w e=>h M F pin _ a w (b.rel e.toSR0)
theorem xT{C:Ctx}{c:Code}{Q:Exit->St->Prop}{σ:St}{α:Type}(tl:α->List (Nat×SV))(hl:α->List (Option aB))(I:α->Prop)(B:α->Nat)(x0:α)(π:List Nat)
  (J:I x0) (v:Sub C π σ (tl x0) (hl x0))
  (round:∀ x,I x->W C c (il (fun aF=>∃ k π,I k/\B k<B x/\Sub C π aF (tl k) (hl k)) Q) (fg (tl x) (hl x))):W C (.loop c) Q σ:=by
 refine pI (fun n aF=>∃ x π,I x/\B x=n/\Sub C π aF (tl x) (hl x)) (B x0) ⟨x0,π,J,rfl,v⟩ ?_
 rintro n aF ⟨x,D,O,rfl,b⟩
 refine Cv D _ _ b (tH (round x O) ?_)
 intro e E G
 cases e with
 |normal=>
  obtain⟨k,p,U,V,X⟩:=G
  exact⟨_,V,k,p,U,rfl,X⟩
 |_=>exact G
end Go.Proofs.YtifcaekngfgdmaaDoor.Nice
namespace Go.Proofs.YtifcaekngfgdmaaDoor.Nice
open Go Go.Conc
def St.app(σ:St)(dst:Option Tmp)(u:SV)(wr:List (Nat×Option aB)):St:=
 ⟨match dst with |some d=>upd σ.t d u|none=>σ.t,dB σ.h wr,σ.nx⟩
def bV(C:Ctx)(o:Oper)(nm:Nat)(v:Operand->SV)(bs:List (Nat×aB))(b:SV->List (Nat×Option aB)->Prop):Prop:=
 ∀ M F ρ a h w,(∀ x,x∈o.op.operands->VR M ρ (v x) (a.eval x))->(∀ g ρ,VR M ρ (C.G g) (.pointer (some ⟨g,0,none⟩)))->HR M F ρ h w->(∀ p,p∈bs->h p.1=some p.2)->(∀ n,nm<=n->n<nm+8->ρ n=none)->
  ∀ (K:Act->World->Prop) (Q:Go.Exit->Act->World->Prop),
   (∀ M' aq u wr u' w',M.le M'->ρ.le aq->(∀ n,n<nm\/nm+8<=n->aq n=ρ n)->b u wr->VR M' aq u u'->HR M' F aq (dB h wr) w'->bG w w'->K (a.put o.dst u') w')->Cr C.P o a w K Q
abbrev FP:=List Nat×List Nat
def eD(ops:List Oper)(j:Nat):Option Tmp:=(ops[j]?).bind (·.dst)
def mP(ops:List Oper)(t:Nat->SV)(o:Oper):Prop:=
 match o.guard with
 |none=>True
 |some (j,want)=>∃ s,eD ops j=some s/\t s=SV.b want
def iO(ops:List Oper)(t:Nat->SV)(o:Oper):Prop:=
 match o.guard with
 |none=>False
 |some (j,want)=>∃ s,eD ops j=some s/\(t s=SV.b (!want)\/t s= .bA [])
def cC(bs:List (Nat×aB))(nm:Nat)(wr:List (Nat×Option aB)):Bool:=
 wr.all fun p=>(bs.any fun q=>Nat.beq q.1 p.1)||(Nat.ble nm p.1&&Nat.blt p.1 (nm+8))
def aM(C:Ctx)(o:Oper):Bool:=match o.dst with |none=>true|some d=>Nat.blt d C.sz
def D1(C:Ctx)(ops:List Oper)(nm:Nat)(o:Oper)(σ:St)(b:FP)(aF:St):Prop:=
 aM C o=true/\
 (
  (mP ops σ.t o/\∃ bs u wr,bV C o nm (bE C σ.t) bs (fun x y=>x=u/\y=wr)/\(∀ p,p∈bs->σ.h p.1=some p.2)/\cC bs nm wr=true/\
   b=(bs.map (·.1),wr.map (·.1))/\aF=σ.app o.dst u wr)\/
  (iO ops σ.t o/\b=([],[])/\aF=σ.app o.dst (.bA []) []))
def b7(o:Oper):List Nat:=(o.after.toList.filter (Region.binds .any)).map (·.on)
def cN:List Oper->List (List Nat)->List (List Nat)
 | [],acc=>acc
 |o::l,acc=>cN l (acc++ [(b7 o).flatMap fun e=>e::acc.getD e []])
def reach(ops:List Oper):List (List Nat):=cN ops []
def nV(ops:List Oper)(o:Oper):List Nat:=
 (o.op.operands.toList.filterMap fun | .tmp t=>some t|_=>none)++(match o.guard with |some (g,_)=>(eD ops g).toList|none=> [])
def meets(a b:List Nat):Bool:=a.any fun x=>b.any (Nat.beq x)
def kv(ops:List Oper)(x y:Oper)(f g:FP):Bool:=
 (match x.dst with |some d=> !(nV ops y).any (Nat.beq d)&&(match y.dst with |some e=> !Nat.beq d e|none=>true)|none=>true)&&
 (match y.dst with |some d=> !(nV ops x).any (Nat.beq d)|none=>true)&&
 !meets f.2 (g.1++g.2)&& !meets g.2 f.1
def mQ(ops:List Oper)(b:List FP)(e:List (List Nat))(o:Oper)(f:FP)(r:List Nat):Nat->Bool
 |0=>true
 |j+1=>(r.any (Nat.beq j)||(match ops[j]?,b[j]? with |some p,some g=>kv ops p o g f|_,_=>false))&&mQ ops b e o f r j
def zi(ops:List Oper)(b:List FP)(k:List (List Nat)):Nat->Bool
 |0=>true
 |i+1=>(match ops[i]?,b[i]? with |some o,some f=>(b7 o).all (fun e=>Nat.blt e i)&&mQ ops b k o f (k.getD i []) i|_,_=>false)&&zi ops b k i
def p8(ops:List Oper)(b:List FP):Bool:=Nat.beq b.length ops.length&&zi ops b (reach ops) ops.length
def Iz(ops:List Oper):Option (List FP)->Prop
 |none=>True
 |some l=>p8 ops l=true
def an(C:Ctx)(b:List Oper):Nat->List Oper->St->Option (List FP)->(St->Prop)->Prop
 |_,[],σ,acc,K=>Iz b acc/\K ⟨σ.t,σ.h,σ.nx+8*b.length⟩
 |i,o::l,σ,acc,K=>
  (∃ e aF,D1 C b (σ.nx+8*i) o σ e aF/\an C b (i+1) l aF (acc.map (· ++ [e])) K)\/
  (acc=none/\aM C o=true/\mP b σ.t o/\∃ bs k,bV C o (σ.nx+8*i) (bE C σ.t) bs k/\(∀ p,p∈bs->σ.h p.1=some p.2)/\
   ∀ u wr,k u wr->an C b (i+1) l (σ.app o.dst u wr) none K)
theorem iD{a:Act}{d:Nat}{v:Value}(h:d<a.tmps.size):(a.put (some d) v).tmps.getD d undef=v:=by
 simp[Act.put,Array.getD,h]
theorem gX{a:Act}{d k:Nat}{v:Value}(h:k≠d):(a.put (some d) v).tmps.getD k undef=a.tmps.getD k undef:=by
 simp only[Act.put]
 rw[Array.getD_eq_getD_getElem?,Array.getD_eq_getD_getElem?,Array.getElem?_setIfInBounds_ne (Ne.symm h)]
theorem SR0.app{C:Ctx}{M M' F:aD}{pin ρ aq:Names}{σ:St}{a:Act}{w w':World}(b:SR0 C M F pin ρ σ a w){o:Oper}(hd:aM C o=true){u:SV}{wr:List (Nat×Option aB)}{u':Value}
  (B:M.le M') (v:ρ.le aq) (E:VR M' aq u u') (G:HR M' F aq (dB σ.h wr) w'):SR0 C M' F pin aq (σ.app o.dst u wr) (a.put o.dst u') w':=by
 refine⟨fun k=>?_,?_,?_,G,Names.le_trans b.pn v,b.pm,fun g ρ=>(b.gl g ρ).mono B (Names.le_refl _)⟩
 ·cases I:o.dst with
  |none=>exact(b.tm k).mono B v
  |some d=>
   have D:d<a.tmps.size:=by rw[b.sz];simpa[aM,I]using hd
   show VR M' aq (upd σ.t d u k) _
   rw[az]
   split
   ·next e=>subst e;rw[iD D];exact E
   ·next e=>rw[gX e];exact(b.tm k).mono B v
 ·cases o.dst<;>simp[Act.put,b.sz]
 ·cases o.dst<;>simp[Act.put,b.df]
theorem fF{C:Ctx}{M F:aD}{pin ρ:Names}{σ:St}{a:Act}{w:World}(v:SR0 C M F pin ρ σ a w){ops:Array Oper}{o:Oper}(h:mP ops.toList σ.t o):Region.wanted o (yielded ops a.tmps)=true:=by
 unfold mP at h
 unfold Region.wanted
 cases B:o.guard with
 |none=>rfl
 |some p=>
  obtain⟨j,want⟩:=p
  simp only[B]at h ⊢
  obtain⟨s,D,E⟩:=h
  have b:=v.tm s
  rw[E]at b
  have b:=b.bool
  have e:s<a.tmps.size:=by
   rcases Nat.lt_or_ge s a.tmps.size with h|h
   ·exact h
   ·simp[Array.getD,Nat.not_lt.2 h,undef]at b
  have :a.tmps[s]? =some (.bool want):=by
   rw[Array.getD_eq_getD_getElem?,Array.getElem?_eq_getElem e]at b
   rw[Array.getElem?_eq_getElem e]
   simpa using b
  have k:(ops[j]?).bind (·.dst)=some s:=by simpa[eD]using D
  simp[yielded,k,this]
theorem fG{C:Ctx}{M F:aD}{pin ρ:Names}{σ:St}{a:Act}{w:World}(E:SR0 C M F pin ρ σ a w){ops:Array Oper}{o:Oper}(h:iO ops.toList σ.t o):Region.wanted o (yielded ops a.tmps)=false:=by
 unfold iO at h
 unfold Region.wanted
 cases D:o.guard with
 |none=>simp[D]at h
 |some p=>
  obtain⟨j,want⟩:=p
  simp only[D]at h ⊢
  obtain⟨s,G,v⟩:=h
  have b:=E.tm s
  have k:(ops[j]?).bind (·.dst)=some s:=by simpa[eD]using G
  rcases v with v|v
  ·rw[v]at b
   have b:=b.bool
   have B:s<a.tmps.size:=by
    rcases Nat.lt_or_ge s a.tmps.size with h|h
    ·exact h
    ·simp[Array.getD,Nat.not_lt.2 h,undef]at b
   have :a.tmps[s]? =some (.bool !want):=by
    rw[Array.getD_eq_getD_getElem?,Array.getElem?_eq_getElem B]at b
    rw[Array.getElem?_eq_getElem B]
    simpa using b
   simp[yielded,k,this]
  ·rw[v]at b
   cases e:a.tmps[s]? with
   |none=>simp[yielded,k,e]
   |some q=>
    have :a.tmps.getD s undef=q:=by rw[Array.getD_eq_getD_getElem?,e];rfl
    rw[this]at b
    cases b;simp[yielded,k,e]
theorem VR.skip{M:aD}{ρ:Names}:VR M ρ (.bA []) undef:= .bA [] #[] (fun _=>undef) rfl (fun i b=>by simp at b) (fun i x e=>by simp at e)
def vw(C:Ctx)(T:List Tmp)(t:Nat->SV):Prop:=∀ s,s∈T->∃ f aZ fn,t s= .fn f aZ/\C.P.funcs[f]? =some fn/\fE fn=true
theorem VR.JD{M:aD}{ρ:Names}{f:FuncId}{aZ:List SV}{v:Value}(h:VR M ρ (.fn f aZ) v):∃ vs:Array Value,v= .func (.func f) #[] vs:=by
 cases h with
 |fn _ _ vs g hs hg hr=>exact⟨vs,rfl⟩
theorem vw.val{C:Ctx}{T:List Tmp}{M F:aD}{pin ρ:Names}{σ:St}{a:Act}{w:World}(h:vw C T σ.t)(v:SR0 C M F pin ρ σ a w):tF C.P T a:=fun s b=>by
 obtain⟨f,aZ,fn,B,D⟩:=h s b
 have k:=v.tm s
 rw[B]at k
 obtain⟨vs,e⟩:=k.JD
 exact⟨f,vs,fn,e,D⟩
theorem Cw{C:Ctx}{M F:aD}{pin ρ:Names}{σ:St}{a:Act}{w:World}(e:SR0 C M F pin ρ σ a w){o:Oper}(hd:aM C o=true):∀ d,o.dst=some d->d<a.tmps.size:=fun d b=>by
 rw[e.sz];simpa[aM,b]using hd
theorem AP{ops:List Oper}{t:Nat->SV}{o:Oper}(h:iO ops t o):o.guard≠none:=fun e=>by unfold iO at h;rw[e]at h;exact h
theorem nW{C:Ctx}(K:LT C.P){ops:Array Oper}{Kf:St->Prop}{M0 F:aD}{pin:Names}{w0:World}{b:Frame}{k:List Item}{cs:List Frame}(hb:b.kind≠ .early)
  (X:∀ M' aq aF a' w',M0.le M'->SR C M' F pin aq aF a' w'->bG w0 w'->Kf aF->K.T (G (b.at a' k) cs) w'):
  ∀ (l:List Oper) (T:List Tmp) (i:Nat) (σ:St) (M:aD) (ρ:Names) (a:Act) (w:World),lj C.P T l=true->l=ops.toList.drop i->i<=ops.size->M0.le M->bG w0 w->SR0 C M F pin ρ σ a w->(∀ n,σ.nx+8*i<=n->ρ n=none)->tF C.P T a->
   an C ops.toList i l σ none Kf->K.T (G (b.at a (.inRegion ops (List.range' i l.length)::k)) cs) w:=by
 intro l
 induction l with
 |nil=>
  intro T i σ M ρ a w hq hl hi hM hw B E hT h
  obtain⟨_,hK⟩:=h
  have a0:i=ops.size:=by
   have :=congrArg List.length hl
   simp at this;omega
  refine K.idle rfl stepG_region_end (X M ρ ⟨σ.t,σ.h,σ.nx+8*ops.toList.length⟩ a w hM ⟨⟨B.tm,B.sz,B.df,B.hr,B.pn,B.pm,B.gl⟩,?_⟩ hw hK)
  intro n Y
  have V:σ.nx+8*ops.toList.length<=n:=Y
  exact E n (by simp at V;omega)
 |cons o l ih=>
  intro T i σ M ρ a w hq hl hi hM hw B E hT h
  have ho:ops[i]? =some o:=by
   have :=congrArg (fun l=>l[0]?) hl
   simp[List.getElem?_drop]at this
   exact this.symm
  have aa:i<ops.size:=(Array.getElem?_eq_some_iff.1 ho).1
  have hl':l=ops.toList.drop (i+1):=by
   have :=congrArg List.tail hl
   simpa using this
  rw[lj,Bool.and_eq_true]at hq
  obtain⟨av,ah⟩:=hq
  rw[List.length_cons,List.range'_succ]
  have on:∀ (hd:aM C o=true) (U:mP ops.toList σ.t o) bs W,bV C o (σ.nx+8*i) (bE C σ.t) bs W->(∀ p,p∈bs->σ.h p.1=some p.2)->
    (∀ u wr,W u wr->an C ops.toList (i+1) l (σ.app o.dst u wr) none Kf)->K.T (G (b.at a (.inRegion ops (i::List.range' (i+1) l.length)::k)) cs) w:=by
   intro hd U bs W I J D
   refine p7 K ho (fF B U) hb (pH av hT) (I M F ρ a σ.h w (fun x _=>gD B x) B.gl B.hr J (fun n h1 h2=>E n h1)
    (fun a' w'=>∃ M' aq u wr u',M.le M'/\ρ.le aq/\(∀ n,n<σ.nx+8*i\/σ.nx+8*i+8<=n->aq n=ρ n)/\W u wr/\VR M' aq u u'/\HR M' F aq (dB σ.h wr) w'/\bG w w'/\a'=a.put o.dst u') (fun _ _ _=>False)
    (fun M' aq u wr u' w' g1 g2 g3 g4 g5 g6 g7=>⟨M',aq,u,wr,u',g1,g2,g3,g4,g5,g6,g7,rfl⟩)) ?_
   rintro v w' ⟨M',aq,u,wr,u',h1,h2,h3,h4,h5,h6,h7,he⟩ ax
   have al:=hT.next (Cw B hd) (fun _=>ax)
   rw[he]at al ⊢
   refine ih _ (i+1) _ M' aq _ w' ah hl' aa (aD.le_trans hM h1) (hw.trans h7) (B.app hd h1 h2 h5 h6) ?_ al (D u wr h4)
   intro n Y
   have V:σ.nx+8*(i+1)<=n:=Y
   rw[h3 n (.inr (by omega))]
   exact E n (by omega)
  unfold an at h
  rcases h with⟨fp,aF,⟨hd,hD⟩,O⟩|⟨_,hd,U,bs,W,I,J,D⟩
  ·rcases hD with⟨U,bs,u,wr,I,J,_,_,rfl⟩|⟨U,_,rfl⟩
   ·exact on hd U bs _ I J (fun u' a1 ⟨e1,e2⟩=>by subst e1;subst e2;exact O)
   ·refine K.idle rfl (stepG_unwanted ho (fG B U)) ?_
    refine ih _ (i+1) _ M ρ _ w ah hl' aa hM hw (B.app (wr:= []) hd (aD.le_refl _) (Names.le_refl _) VR.skip B.hr) ?_ (hT.next (Cw B hd) (fun e=>absurd e (AP U))) O
    intro n Y
    have V:σ.nx+8*(i+1)<=n:=Y
    exact E n (by omega)
  ·exact on hd U bs W I J D
theorem se{C:Ctx}{id:Nat}{ops:Array Oper}{Q:Exit->St->Prop}{σ:St}(T:List Tmp)(v:vw C T σ.t)(B:nU C.P T ops=true)(h:an C ops.toList 0 ops.toList σ none (fun aF=>Q .normal aF)):W C (.region id ops false) Q σ:=by
 intro M F pin ρ a w e K b k cs D E
 refine K.idle rfl stepG_region ?_
 have :=nW K (Kf:=fun aF=>Q .normal aF) (M0:=M) (F:=F) (pin:=pin) (w0:=w) D (fun M' aq aF G w' I J O U=>E .normal G w' ⟨M',aq,aF,I,J,O,U⟩) ops.toList T 0 σ M ρ a w B rfl (Nat.zero_le _) (aD.le_refl _) (.refl _) e.toSR0 (fun n V=>e.fr n (by omega)) (v.val e.toSR0) h
 rw[List.range_eq_range']
 simpa using this
theorem fX{C:Ctx}{id:Nat}{ops:Array Oper}{Q:Exit->St->Prop}{σ:St}(b:nU C.P [] ops=true)(h:an C ops.toList 0 ops.toList σ none (fun aF=>Q .normal aF)):W C (.region id ops false) Q σ:=
 se [] (fun s e=>by cases e) b h
theorem mR(h:ar):∀ (wr:List (Nat×Option aB)) (n:Nat),(∀ p,p∈wr->p.1≠n)->dB h wr n=h n
 | [],n,_=>rfl
 |(m,b)::r,n,e=>by
  rw[dB,mR (upd h m b) r n fun p k=>e p (List.mem_cons_of_mem _ k),bU]
  exact(e (m,b) (List.mem_cons_self ..)).symm
theorem zk(h:ar):∀ (wr:List (Nat×Option aB)) (n:Nat) (b:Option aB),(∀ p,p∈wr->p.1≠n)->dB (upd h n b) wr=upd (dB h wr) n b
 | [],n,b,_=>rfl
 |(m,c)::r,n,b,e=>by
  rw[dB,dB,<-zk (upd h m c) r n b fun p k=>e p (List.mem_cons_of_mem _ k),vl _ _ _ _ _ (e (m,c) (List.mem_cons_self ..)).symm]
theorem vx(h:ar):∀ (k e:List (Nat×Option aB)),(∀ p,p∈k->∀ q,q∈e->q.1≠p.1)->dB (dB h k) e=dB (dB h e) k
 | [],e,_=>rfl
 |(m,b)::r,e,hd=>by
  rw[dB,dB,vx (upd h m b) r e fun p v=>hd p (List.mem_cons_of_mem _ v),zk h e m b (hd (m,b) (List.mem_cons_self ..))]
theorem o5{a b:List Nat}(h:(!meets a b)=true):∀ x,x∈a->x∉b:=by
 intro x e k
 simp only[meets,Bool.not_eq_true']at h
 have :(a.any fun x=>b.any (Nat.beq x))=true:=by
  rw[List.any_eq_true]
  exact⟨x,e,by rw[List.any_eq_true];exact⟨x,k,by simp⟩⟩
 rw[this]at h;cases h
theorem mS{l:List Nat}{d:Nat}(h:(!l.any (Nat.beq d))=true):d∉l:=by
 intro hm
 have :l.any (Nat.beq d)=true:=by rw[List.any_eq_true];exact⟨d,hm,by simp⟩
 rw[this]at h;cases h
theorem o6{ops:List Oper}{x y:Oper}{f g:FP}(h:kv ops x y f g=true):
  (∀ d,x.dst=some d->d∉nV ops y)/\(∀ d,x.dst=some d->y.dst≠some d)/\(∀ d,y.dst=some d->d∉nV ops x)/\
  (∀ n,n∈f.2->n∉g.1/\n∉g.2)/\(∀ n,n∈g.2->n∉f.1):=by
 simp only[kv,Bool.and_eq_true]at h
 obtain⟨⟨⟨b,v⟩,B⟩,D⟩:=h
 refine⟨?_,?_,?_,?_,?_⟩
 ·intro d hd;rw[hd]at b;simp only[Bool.and_eq_true]at b;exact mS b.1
 ·intro d hd E;rw[hd]at b;rw[E]at b;simp at b
 ·intro d hd;rw[hd]at v;exact mS v
 ·intro n k
  have :=o5 B n k
  exact⟨fun e=>this (List.mem_append_left _ e),fun e=>this (List.mem_append_right _ e)⟩
 ·intro n k;exact o5 D n k
theorem pK{C:Ctx}{ops:List Oper}{o x:Oper}{t:Nat->SV}{u:SV}(b:∀ d,x.dst=some d->d∉nV ops o):
  ∀ y,y∈o.op.operands->bE C (match x.dst with |some d=>upd t d u|none=>t) y=bE C t y:=by
 intro y e
 cases hd:x.dst with
 |none=>rfl
 |some d=>
  cases y with
  |tmp k=>
   show upd t d u k=t k
   refine bU _ _ _ _ ?_
   rintro rfl
   exact b _ hd (List.mem_append_left _ (List.mem_filterMap.2 ⟨.tmp k,Array.mem_toList_iff.2 e,rfl⟩))
  |const v=>cases v<;>first|rfl|(rename_i a l c;cases a<;>cases l<;>cases c<;>rfl)
  |global g=>rfl
  |func f=>rfl
theorem lp{ops:List Oper}{o x:Oper}{t:Nat->SV}{u:SV}(b:∀ d,x.dst=some d->d∉nV ops o):
  ∀ j want s,o.guard=some (j,want)->eD ops j=some s->(match x.dst with |some d=>upd t d u|none=>t) s=t s:=by
 intro j want s e k
 cases hd:x.dst with
 |none=>rfl
 |some d=>
  show upd t d u s=t s
  refine bU _ _ _ _ ?_
  rintro rfl
  exact b _ hd (List.mem_append_right _ (by rw[e];simp[k]))
theorem ju{C:Ctx}{ops:List Oper}{nm:Nat}{o:Oper}{σ τ:St}{k:FP}{aF:St}(h:D1 C ops nm o σ k aF)
  (O:∀ y,y∈o.op.operands->bE C τ.t y=bE C σ.t y) (v:∀ j want s,o.guard=some (j,want)->eD ops j=some s->τ.t s=σ.t s) (U:∀ n,n∈k.1->τ.h n=σ.h n):
  ∃ u wr,wr.map (·.1)=k.2/\aF=σ.app o.dst u wr/\D1 C ops nm o τ k (τ.app o.dst u wr):=by
 obtain⟨hd,h⟩:=h
 rcases h with⟨hgo,bs,u,wr,B,D,V,rfl,rfl⟩|⟨hgo,rfl,rfl⟩
 ·refine⟨u,wr,rfl,rfl,hd, .inl ⟨?_,bs,u,wr,?_,?_,V,rfl,rfl⟩⟩
  ·unfold mP at *
   cases e:o.guard with
   |none=>trivial
   |some p=>obtain⟨j,want⟩:=p;rw[e]at hgo;obtain⟨s,b,E⟩:=hgo;exact⟨s,b,(v j want s e b).trans E⟩
  ·intro M F ρ a h w W
   exact B M F ρ a h w fun y I=>by rw[<-O y I];exact W y I
  ·intro p J
   rw[U p.1 (List.mem_map.2 ⟨p,J,rfl⟩)];exact D p J
 ·refine⟨.bA [],[],rfl,rfl,hd, .inr ⟨?_,rfl,rfl⟩⟩
  unfold iO at *
  cases e:o.guard with
  |none=>rw[e]at hgo;exact hgo
  |some p=>obtain⟨j,want⟩:=p;rw[e]at hgo;obtain⟨s,b,E⟩:=hgo;exact⟨s,b,(match E with | .inl G=> .inl ((v j want s e b).trans G)| .inr G=> .inr ((v j want s e b).trans G))⟩
theorem vz(σ:St){x y:Option Tmp}{u v:SV}{b k:List (Nat×Option aB)}(hd:∀ d,x=some d->y≠some d)(D:∀ n,n∈b.map (·.1)->n∉k.map (·.1)):
  (σ.app x u b).app y v k=(σ.app y v k).app x u b:=by
 have e:dB (dB σ.h b) k=dB (dB σ.h k) b:=vx _ _ _ fun p E q G B=>D p.1 (List.mem_map.2 ⟨p,E,rfl⟩) (List.mem_map.2 ⟨q,G,B⟩)
 unfold St.app
 simp only[e]
 cases x with
 |none=>cases y<;>rfl
 |some d=>cases y with
  |none=>rfl
  |some e=>simp only[vl σ.t d e u v (fun h=>hd d rfl (h▸rfl))]
theorem tJ{C:Ctx}{ops:List Oper}{X Y:Nat}{x y:Oper}{σ k B:St}{f g:FP}(hi:kv ops x y f g=true)
  (h1:D1 C ops X x σ f k) (h2:D1 C ops Y y k g B):∃ τ,D1 C ops Y y σ g τ/\D1 C ops X x τ f B:=by
 obtain⟨i1,i2,i3,i4,i5⟩:=o6 hi
 obtain⟨u,wr,hw,rfl,_⟩:=ju (τ:=σ) h1 (fun _ _=>rfl) (fun _ _ _ _ _=>rfl) (fun _ _=>rfl)
 obtain⟨v,b,D,rfl,k2⟩:=ju (τ:=σ) h2 (fun z G=>(pK (t:=σ.t) i1 z G).symm) (fun j want s I J=>(lp (t:=σ.t) (u:=u) i1 j want s I J).symm)
  (fun n E=>(mR σ.h wr n fun p O e=>(i4 p.1 (hw▸List.mem_map.2 ⟨p,O,rfl⟩)).1 (e▸E)).symm)
 refine⟨_,k2,?_⟩
 obtain⟨u',U,V,W,k1⟩:=ju (τ:=σ.app y.dst v b) h1 (fun z G=>pK (t:=σ.t) i3 z G) (fun j want s I J=>lp (t:=σ.t) (u:=v) i3 j want s I J)
  (fun n E=>mR σ.h b n fun p O e=>i5 p.1 (D▸List.mem_map.2 ⟨p,O,rfl⟩) (e▸E))
 have e2:(σ.app x.dst u wr).app y.dst v b=(σ.app x.dst u' U).app y.dst v b:=by rw[W]
 rw[e2,vz σ (fun d hd W=>i2 d hd W) (by rw[V,D];exact fun n E=>(i4 n E).2)]
 exact k1
def py(C:Ctx)(ops:List Oper)(b:List FP)(nx:Nat):List Nat->St->St->Prop
 | [],σ,τ=>σ=τ
 |i::l,σ,τ=>∃ o f aF,ops[i]? =some o/\b[i]? =some f/\D1 C ops (nx+8*i) o σ f aF/\py C ops b nx l aF τ
theorem fH{C:Ctx}{ops:List Oper}{b:List FP}{nx i:Nat}{e:Oper}{fi:FP}(k:ops[i]? =some e)(v:b[i]? =some fi):
  ∀ (A B:List Nat) (σ τ:St),(∀ j,j∈A->∀ o f,ops[j]? =some o->b[j]? =some f->kv ops o e f fi=true)->py C ops b nx (A++i::B) σ τ->
   py C ops b nx (i::(A++B)) σ τ
 | [],B,σ,τ,_,h=>h
 |j::A,B,σ,τ,I,h=>by
  obtain⟨o,f,D,J,O,W,X⟩:=h
  obtain⟨o',f',E,U,V,Y,k4⟩:=fH k v A B D τ (fun j hj=>I j (List.mem_cons_of_mem _ hj)) X
  rw[k]at U;rw[v]at V
  obtain rfl:=Option.some.inj U
  obtain rfl:=Option.some.inj V
  obtain⟨G,t1,t2⟩:=tJ (I j (List.mem_cons_self ..) o f J O) W Y
  exact⟨e,fi,G,k,v,t1,o,f,E,J,O,t2,k4⟩
theorem rP:∀ (l:List Oper) (acc:List (List Nat)) (i:Nat),(∀ o,l[i]? =some o->(cN l acc).getD (acc.length+i) []=(b7 o).flatMap fun e=>e::(if e<acc.length+i then(cN l acc).getD e []else(cN (l.take i) acc).getD e [])):=by
 have ab:∀ (l:List Oper) (acc:List (List Nat)) (k:Nat),k<acc.length->(cN l acc).getD k []=acc.getD k []:=by
  intro l
  induction l with
  |nil=>intro acc k b;rfl
  |cons o l ih=>
   intro acc k b
   rw[cN,ih _ k (by simp;omega)]
   simp[List.getD_eq_getElem?_getD,List.getElem?_append_left b]
 have len:∀ (l:List Oper) (acc:List (List Nat)),(cN l acc).length=acc.length+l.length:=by
  intro l
  induction l with
  |nil=>intro acc;rfl
  |cons o l ih=>intro acc;rw[cN,ih];simp;omega
 intro l
 induction l with
 |nil=>intro acc i o h;simp at h
 |cons p l ih=>
  intro acc i o h
  cases i with
  |zero=>
   simp at h;subst h
   rw[cN,Nat.add_zero,ab _ _ _ (by simp)]
   simp only[List.getD_eq_getElem?_getD,List.getElem?_concat_length,Option.getD_some]
   congr 1
   funext e
   congr 1
   split
   ·next v=>
    have :=ab (p::l) acc e v
    rw[cN]at this
    simp only[List.getD_eq_getElem?_getD]at this
    rw[this]
   ·next v=>
    simp only[List.take_zero,cN]
  |succ i=>
   rw[cN]
   have :=ih (acc++ [(b7 p).flatMap fun e=>e::acc.getD e []]) i o (by simpa using h)
   simp only[List.length_append,List.length_singleton]at this
   rw[show acc.length+(i+1)=acc.length+1+i by omega,this]
   rfl
theorem lq{ops:List Oper}{b:List FP}{k:List (List Nat)}:∀ n,zi ops b k n=true->∀ i,i<n->∃ o f,ops[i]? =some o/\b[i]? =some f/\(∀ e,e∈b7 o->e<i)/\mQ ops b k o f (k.getD i []) i=true
 |0,_,i,hi=>absurd hi (Nat.not_lt_zero _)
 |n+1,h,i,hi=>by
  simp only[zi,Bool.and_eq_true]at h
  by_cases e:i=n
  ·subst e
   cases v:ops[i]? with
   |none=>simp[v]at h
   |some o=>cases B:b[i]? with
    |none=>simp[v,B]at h
    |some f=>
     simp only[v,B,Bool.and_eq_true,List.all_eq_true]at h
     exact⟨o,f,rfl,rfl,fun e D=>by simpa using h.1.1 e D,h.1.2⟩
  ·exact lq n h.2 i (by omega)
theorem im{ops:List Oper}{b:List FP}{v:List (List Nat)}{o:Oper}{f:FP}{r:List Nat}:∀ n,mQ ops b v o f r n=true->∀ j,j<n->j∈r\/∀ p g,ops[j]? =some p->b[j]? =some g->kv ops p o g f=true
 |0,_,j,hj=>absurd hj (Nat.not_lt_zero _)
 |n+1,h,j,hj=>by
  simp only[mQ,Bool.and_eq_true,Bool.or_eq_true]at h
  by_cases e:j=n
  ·subst e
   rcases h.1 with k|k
   ·rw[List.any_eq_true]at k
    obtain⟨x,B,D⟩:=k
    have :=Nat.eq_of_beq_eq_true D
    exact .inl (this▸B)
   ·refine .inr fun p g E G=>?_
    simpa[E,G]using k
  ·exact im n h.2 j (by omega)
theorem gE{ops:List Oper}{L:Nat->Prop}(k:∀ i o,ops[i]? =some o->∀ e,e∈b7 o->e<i)
  (v:∀ i o,ops[i]? =some o->L i->∀ e,e∈b7 o->L e):∀ i o,ops[i]? =some o->(∀ e,e∈b7 o->L e)->∀ j,j∈(reach ops).getD i []->L j:=by
 intro i
 induction i using Nat.strongRecOn with
 |_ i ih=>
  intro o E I j b
  have :=rP ops [] i o E
  simp only[List.length_nil,Nat.zero_add]at this
  rw[reach,this]at b
  rw[List.mem_flatMap]at b
  obtain⟨e,G,b⟩:=b
  have B:=k i o E e G
  rw[if_pos B]at b
  rcases List.mem_cons.1 b with rfl|b
  ·exact I _ G
  ·have J:i<ops.length:=(List.getElem?_eq_some_iff.1 E).1
   have D:ops[e]? =some (ops[e]'(by omega)):=List.getElem?_eq_getElem _
   exact ih e B _ D (v e _ D (I e G)) j b
theorem lr{C:Ctx}{ops:List Oper}{K:St->Prop}:∀ (l:List Oper) (i:Nat) (σ:St) (acc:List FP),acc.length=i->(∀ j,l[j]? =ops[i+j]?)->
  an C ops i l σ (some acc) K->∃ b τ,b.take i=acc/\p8 ops b=true/\py C ops b σ.nx (List.range' i l.length) σ τ/\τ.nx=σ.nx/\K ⟨τ.t,τ.h,τ.nx+8*ops.length⟩:=by
 intro l
 induction l with
 |nil=>
  intro i σ acc v hl h
  obtain⟨O,U⟩:=h
  exact⟨acc,σ,by rw[<-v,List.take_length],O,rfl,rfl,U⟩
 |cons o l V=>
  intro i σ acc v hl h
  unfold an at h
  rcases h with⟨E,aF,I,e⟩|⟨W,_⟩
  ·have B:aF.nx=σ.nx:=by
    obtain⟨_,h⟩:=I
    rcases h with⟨_,_,_,_,_,_,_,_,rfl⟩|⟨_,_,rfl⟩<;>rfl
   obtain⟨b,τ,G,X,J,Y,h5⟩:=V (i+1) aF (acc++ [E]) (by simp[v]) (fun j=>by have :=hl (j+1);simp at this;rw[this];congr 1;omega) e
   have hlen:i<b.length:=by
    have :=congrArg List.length G
    simp at this;omega
   have k:b.take i=acc:=by
    have :=congrArg (List.take i) G
    rw[List.take_take,Nat.min_eq_left (by omega),<-v,List.take_left]at this
    rw[<-v];exact this
   have D:b[i]? =some E:=by
    have :=congrArg (fun l=>l[i]?) G
    simp only[List.getElem?_take]at this
    rw[if_pos (by omega),List.getElem?_append_right (by omega)]at this
    simpa[v]using this
   refine⟨b,τ,k,X,?_,Y.trans B,h5⟩
   rw[List.length_cons,List.range'_succ]
   refine⟨o,E,aF,?_,D,I,?_⟩
   ·have :=hl 0;simpa using this.symm
   ·rw[B]at J;exact J
  ·cases W
theorem dH{ops:Array Oper}{listed:Array Bool}{i:Nat}:i∈Region.ready .any ops listed↔i<ops.size/\listed.getD i true=false/\∃ o,ops[i]? =some o/\∀ e,e∈b7 o->listed.getD e false=true:=by
 unfold Region.ready
 rw[List.mem_filter,List.mem_range]
 constructor
 ·rintro⟨k,h⟩
  simp only[Bool.and_eq_true,Bool.not_eq_true']at h
  obtain⟨B,b⟩:=h
  have v:ops[i]? =some ops[i]:=Array.getElem?_eq_getElem k
  refine⟨k,B,ops[i],v,?_⟩
  intro e G
  simp only[v,Option.map_some,Option.getD_some]at b
  rw[Array.all_eq_true']at b
  simp only[b7,List.mem_map,List.mem_filter,Array.mem_toList_iff]at G
  obtain⟨x,⟨D,E⟩,rfl⟩:=G
  have :=b x D
  simpa[E]using this
 ·rintro⟨k,B,o,v,b⟩
  refine⟨k,?_⟩
  simp only[B,Bool.not_false,Bool.true_and,v,Option.map_some,Option.getD_some]
  rw[Array.all_eq_true']
  intro x D
  cases E:Region.binds .any x with
  |false=>rfl
  |true=>
   have :=b x.on (List.mem_map.2 ⟨x,List.mem_filter.2 ⟨Array.mem_toList_iff.2 D,E⟩,rfl⟩)
   simp[this]
theorem jv{l:List Nat}{i:Nat}(h:i∈l):∃ A B,l=A++i::B/\i∉A:=by
 induction l with
 |nil=>cases h
 |cons x l b=>
  by_cases e:x=i
  ·exact⟨[],l,by simp[e],by simp⟩
  ·have :i∈l:=by rcases List.mem_cons.1 h with h|h;exact absurd h.symm e;exact h
   obtain⟨A,B,rfl,k⟩:=b this
   exact⟨x::A,B,rfl,by simp[k,Ne.symm e]⟩
theorem p9{C:Ctx}(K:LT C.P){ops:Array Oper}(hq:iC C.P ops=true){a4:List FP}{Kf:St->Prop}{M0 F:aD}{pin:Names}{w0:World}{nx:Nat}{b:Frame}{kk:List Item}{cs:List Frame}(hb:b.kind≠ .early)
  (a5:p8 ops.toList a4=true)
  (a6:∀ M' aq aF a' w',M0.le M'->SR C M' F pin aq aF a' w'->bG w0 w'->Kf aF->K.T (G (b.at a' kk) cs) w'):
  ∀ (fuel tt:Nat) (l:List Nat) (listed:Array Bool) (σ τ:St) (M:aD) (ρ:Names) (a:Act) (w:World),l.length=fuel->l.Pairwise (· < ·)->listed.size=ops.size->
   (∀ i,i∈l↔i<ops.size/\listed.getD i true=false)->
   (∀ (i:Nat) (o:Oper),ops[i]? =some o->listed.getD i false=true->∀ e,e∈b7 o->listed.getD e false=true)->
   M0.le M->bG w0 w->SR0 C M F pin ρ σ a w->σ.nx=nx->(∀ i,i∈l->∀ n,nx+8*i<=n->n<nx+8*i+8->ρ n=none)->(∀ n,nx+8*ops.size<=n->ρ n=none)->
   py C ops.toList a4 nx l σ τ->Kf ⟨τ.t,τ.h,nx+8*ops.toList.length⟩->K.T (G (b.at a (.inRegion ops (Region.linearise.go .any ops fuel tt listed [])::kk)) cs) w:=by
 simp only[p8,Bool.and_eq_true]at a5
 obtain⟨_,a7⟩:=a5
 have ax:=lq _ a7
 have O:∀ (i:Nat) (o:Oper),ops.toList[i]? =some o->∀ e,e∈b7 o->e<i:=by
  intro i o ho e he
  obtain⟨o',f,h1,_,h2,_⟩:=ax i (List.getElem?_eq_some_iff.1 ho).1
  rw[ho]at h1;obtain rfl:=Option.some.inj h1
  exact h2 e he
 have U:∀ (l:List Nat) (listed:Array Bool),l.Pairwise (· < ·)->listed.size=ops.size->(∀ i,i∈l↔i<ops.size/\listed.getD i true=false)->Region.ready .any ops listed= []->l= []:=by
  intro l listed X B hl a2
  cases l with
  |nil=>rfl
  |cons i l=>
   exfalso
   obtain⟨Y,a3⟩:=(hl i).1 (List.mem_cons_self ..)
   have :i∈Region.ready .any ops listed:=by
    refine dH.2 ⟨Y,a3,ops[i],Array.getElem?_eq_getElem Y,?_⟩
    intro e he
    have D:=O i ops[i] (by simp[Y]) e he
    cases hb:listed.getD e true with
    |true=>
     have br:e<listed.size:=by omega
     simpa[Array.getD,br]using hb
    |false=>
     have hm:e∈i::l:=(hl e).2 ⟨by omega,hb⟩
     rcases List.mem_cons.1 hm with h|h
     ·omega
     ·have :=(List.pairwise_cons.1 X).1 e h;omega
   rw[a2]at this;cases this
 have finish:∀ (σ τ:St) (M:aD) (ρ:Names) (a:Act) (w:World),M0.le M->bG w0 w->SR0 C M F pin ρ σ a w->σ.nx=nx->
   (∀ n,nx+8*ops.size<=n->ρ n=none)->σ=τ->Kf ⟨τ.t,τ.h,nx+8*ops.toList.length⟩->K.T (G (b.at a (.inRegion ops []::kk)) cs) w:=by
  intro σ τ M ρ a w hM hw v hn hf e hK
  subst e
  refine K.idle rfl stepG_region_end (a6 M ρ ⟨σ.t,σ.h,nx+8*ops.toList.length⟩ a w hM ⟨⟨v.tm,v.sz,v.df,v.hr,v.pn,v.pm,v.gl⟩,?_⟩ hw hK)
  intro n bu
  exact hf n (by simpa using bu)
 intro fuel
 induction fuel with
 |zero=>
  intro tt l listed σ τ M ρ a w hlen X B hl E hM hw v hn aa ah a2 hK
  have V:l= []:=List.length_eq_zero_iff.1 hlen
  subst V
  simp only[Region.linearise.go,List.reverse_nil]
  exact finish σ τ M ρ a w hM hw v hn ah a2 hK
 |succ fuel ih=>
  intro tt l listed σ τ M ρ a w hlen X B hl E hM hw v hn aa ah a2 hK
  simp only[Region.linearise.go]
  change K.T (G (b.at a (.inRegion ops (match(Region.ready .any ops listed)[tt%(Region.ready .any ops listed).length]? with
   |some i=>Region.linearise.go .any ops fuel (tt/(Region.ready .any ops listed).length) (listed.setIfInBounds i true) [i]
   |none=> [].reverse)::kk)) cs) w
  cases Y:(Region.ready .any ops listed)[tt%(Region.ready .any ops listed).length]? with
  |none=>
   exfalso
   have V:Region.ready .any ops listed= []:=by
    cases a2:Region.ready .any ops listed with
    |nil=>rfl
    |cons x xs=>
     rw[a2]at Y
     have D:tt%(x::xs).length<(x::xs).length:=Nat.mod_lt _ (by simp)
     simp at Y
     simp at D
     omega
   have :=U l listed X B hl V
   subst this
   simp at hlen
  |some i=>
   replace Y:=List.mem_of_getElem? Y
   simp only[]
   rw[linearise_go_acc,List.reverse_singleton,List.singleton_append]
   obtain⟨D,a3,o,ho,a0⟩:=dH.1 Y
   have a8:i∈l:=(hl i).2 ⟨D,a3⟩
   obtain⟨LA,LB,rfl,ba⟩:=jv a8
   have al:ops.toList[i]? =some o:=by simpa using ho
   obtain⟨o',f,h1,bc,h3,h4⟩:=ax i (by simpa using D)
   rw[al]at h1;obtain rfl:=Option.some.inj h1
   have bh:∀ j,j∈LA->j∉(reach ops.toList).getD i []:=by
    intro j J bx
    have hL:=gE (ops:=ops.toList) (L:=fun k=>listed.getD k false=true) O (fun k o hk=>E k o (by simpa using hk)) i o al a0 j bx
    have :=((hl j).1 (List.mem_append_left _ J)).2
    have b1:j<listed.size:=by rw[B];exact((hl j).1 (List.mem_append_left _ J)).1
    simp[Array.getD,b1]at this hL
    rw[this]at hL;cases hL
   have bl:∀ j,j∈LA->j<i:=by
    intro j J
    exact(List.pairwise_append.1 X).2.2 j J i (List.mem_cons_self ..)
   have av:=fH (C:=C) (nx:=nx) al bc LA LB σ τ (fun j J p g b2 hg=>(im _ h4 j (bl j J)).resolve_left (bh j J) p g b2 hg) a2
   obtain⟨o2,f2,aF,k1,k2,hD,W⟩:=av
   rw[al]at k1;obtain rfl:=Option.some.inj k1
   rw[bc]at k2;obtain rfl:=Option.some.inj k2
   have hl':(LA++LB).length=fuel:=by simp at hlen ⊢;omega
   have bn:(LA++LB).Pairwise (· < ·):=by
    rw[List.pairwise_append]at X ⊢
    refine⟨X.1,(List.pairwise_cons.1 X.2.1).2,fun x hx y hy=>X.2.2 x hx y (List.mem_cons_of_mem _ hy)⟩
   have bo:i∉LB:=by
    intro hb
    have :=(List.pairwise_cons.1 (List.pairwise_append.1 X).2.1).1 i hb
    omega
   have a1:∀ j,j∈LA++LB↔j<ops.size/\(listed.setIfInBounds i true).getD j true=false:=by
    intro j
    by_cases e:j=i
    ·subst e
     constructor
     ·intro h;rcases List.mem_append.1 h with h|h
      ·exact absurd h ba
      ·exact absurd h bo
     ·rintro⟨_,h⟩;simp[Array.getD,B,D]at h
    ·have :(listed.setIfInBounds i true).getD j true=listed.getD j true:=by
      rw[Array.getD_eq_getD_getElem?,Array.getD_eq_getD_getElem?,Array.getElem?_setIfInBounds_ne (Ne.symm e)]
     rw[this,<-hl j]
     simp[e]
   have I:∀ (k:Nat) (p:Oper),ops[k]? =some p->(listed.setIfInBounds i true).getD k false=true->∀ e,e∈b7 p->(listed.setIfInBounds i true).getD e false=true:=by
    have ab:∀ e,listed.getD e false=true->(listed.setIfInBounds i true).getD e false=true:=by
     intro e he
     by_cases h:e=i
     ·subst h;simp[Array.getD,B,D]
     ·rw[Array.getD_eq_getD_getElem?,Array.getElem?_setIfInBounds_ne (Ne.symm h),<-Array.getD_eq_getD_getElem?];exact he
    intro k p hk bp e he
    by_cases h:k=i
    ·subst h
     rw[ho]at hk;obtain rfl:=Option.some.inj hk
     exact ab e (a0 e he)
    ·refine ab e (E k p hk ?_ e he)
     rw[Array.getD_eq_getD_getElem?,Array.getElem?_setIfInBounds_ne (Ne.symm h),<-Array.getD_eq_getD_getElem?]at bp
     exact bp
   obtain⟨hd,hD⟩:=hD
   rcases hD with⟨hg,bs,u,wr,bq,b3,_,_,rfl⟩|⟨hg,_,rfl⟩
   ·refine p7 K ho (fF v hg) hb (pH (lY hq ho) (fun s v=>by cases v)) (bq M F ρ a σ.h w (fun x _=>gD v x) v.gl v.hr b3 (fun n g1 g2=>aa i a8 n g1 g2)
     (fun a' w'=>K.T (G (b.at a' (.inRegion ops (Region.linearise.go .any ops fuel (tt/(Region.ready .any ops listed).length) (listed.setIfInBounds i true) [])::kk)) cs) w') (fun _ _ _=>False) ?_) (fun _ _ h _=>h)
    rintro M' aq u1 b4 u' w' g1 g2 g3 ⟨rfl,rfl⟩ g5 g6 g7
    refine ih _ (LA++LB) _ _ τ M' aq _ w' hl' bn (by simp[B]) a1 I (aD.le_trans hM g1) (hw.trans g7) (v.app hd g1 g2 g5 g6) hn ?_ ?_ W hK
    ·intro j J n m1 m2
     have ca:j≠i:=by rintro rfl;rcases List.mem_append.1 J with h|h;exact ba h;exact bo h
     rw[g3 n (by omega)]
     refine aa j ?_ n m1 m2
     rcases List.mem_append.1 J with h|h
     ·exact List.mem_append_left _ h
     ·exact List.mem_append_right _ (List.mem_cons_of_mem _ h)
    ·intro n m1
     rw[g3 n (by omega)];exact ah n m1
   ·refine K.idle rfl (stepG_unwanted ho (fG v hg)) ?_
    refine ih _ (LA++LB) _ _ τ M ρ _ w hl' bn (by simp[B]) a1 I hM hw (v.app (wr:= []) hd (aD.le_refl _) (Names.le_refl _) VR.skip v.hr) hn ?_ ah W hK
    intro j J n m1 m2
    refine aa j ?_ n m1 m2
    rcases List.mem_append.1 J with h|h
    ·exact List.mem_append_left _ h
    ·exact List.mem_append_right _ (List.mem_cons_of_mem _ h)
theorem dI{C:Ctx}{id:Nat}{ops:Array Oper}{Q:Exit->St->Prop}{σ:St}(hm:C.P.follows .mixedOrders=true)(J:iC C.P ops=true)
  (h:an C ops.toList 0 ops.toList σ (some []) (fun aF=>Q .normal aF)):W C (.region id ops true) Q σ:=by
 intro M F pin ρ a w v K b k cs O U
 refine K.step (w':={w with drawn:=w.drawn+1}) rfl stepG_region_draw (Nat.le_refl _) (fun e V=>by simp at V) ?_
 obtain⟨X,τ,_,B,D,E,G⟩:=lr (K:=fun aF=>Q .normal aF) ops.toList 0 σ [] rfl (fun j=>by simp) h
 simp only[Region.schedule,hm,Bool.true_or,if_true]
 refine p9 K J (Kf:=fun aF=>Q .normal aF) (M0:=M) (F:=F) (pin:=pin) (w0:=w) (nx:=σ.nx) O B (fun M' aq aF Y w' B D E G=>U .normal Y w' ⟨M',aq,aF,B,D,E,G⟩) ops.size _ (List.range' 0 ops.toList.length) (Array.replicate ops.size false) σ τ M ρ a _ (by simp) ?_ (by simp) ?_ ?_ (aD.le_refl _) ⟨rfl,rfl,rfl,Nat.le_refl _⟩
  ⟨v.tm,v.sz,v.df,v.hr.drawn _,v.pn,v.pm,v.gl⟩ rfl (fun i _ n g1 _=>v.fr n (by omega)) (fun n g1=>v.fr n (by omega)) D (by rw[<-E];exact G)
 ·exact List.pairwise_lt_range'
 ·intro i
  rw[List.mem_range']
  simp only[Array.length_toList]
  constructor
  ·rintro⟨j,hj,rfl⟩
   simp[Array.getD,hj]
  ·rintro⟨I,_⟩
   exact⟨i,I,by omega⟩
 ·intro i o ho hl
  have I:i<ops.size:=(Array.getElem?_eq_some_iff.1 ho).1
  simp[Array.getD,I]at hl
end Go.Proofs.YtifcaekngfgdmaaDoor.Nice
