/- Part 3 of the proof of TopFile. -/
import Derived.Test.YtifcaekngfgdmaaDoorZM2
import Derived.Laws.StructEq
import Derived.Laws.Concat
import Derived.Laws.Cover3
import Derived.Laws.IdiomStrings
import Derived.IntWalk
import GoSem.ClaimChange
import Derived.Deep.Slices
import Derived.ChangeSame
set_option linter.unusedVariables false
set_option linter.unusedSimpArgs false
set_option maxRecDepth 100000
set_option maxHeartbeats 4000000
namespace Go.Proofs.YtifcaekngfgdmaaDoor.Nice
open Go
theorem jy{M:aD}{ρ:Names}{f:FuncId}{aZ:List SV}{v:Value}(h:VR M ρ (.fn f aZ) v):∃ vs:Array Value,v= .func (.func f) #[] vs/\vs.size=aZ.length/\∀ (i:Nat) (x:SV),aZ[i]? =some x->∃ u,vs[i]? =some u/\VR M ρ x u:=by
 cases h with
 |fn _ _ vs g hs e k=>exact⟨vs,rfl,hs,fun i x b=>⟨g i,e i (List.getElem?_eq_some_iff.1 b).1,k i x b⟩⟩
theorem fY{M:aD}{ρ:Names}{xs:List SV}{v:Value}(h:VR M ρ (.agg xs) v):∃ vs:Array Value,v= .agg vs/\RL M ρ xs vs:=by
 cases h with
 |agg _ vs g hs e k=>exact⟨vs,rfl,hs,fun i x b=>⟨g i,e i (List.getElem?_eq_some_iff.1 b).1,k i x b⟩⟩
theorem CC{M:aD}{ρ:Names}{xs:List SV}{v:Value}(h:VR M ρ (.bA xs) v):∃ vs:Array Value,v= .tuple vs/\RL M ρ xs vs:=by
 cases h with
 |bA _ vs g hs e k=>exact⟨vs,rfl,hs,fun i x b=>⟨g i,e i (List.getElem?_eq_some_iff.1 b).1,k i x b⟩⟩
def lA(x:SV):Option Out:=
 match x with
 | .ptr .. | .vp .. | .fn .. =>some (True,[],x,[])
 |_=>none
theorem vI{C:Ctx}{o:Oper}{nm:Nat}{v:Operand->SV}{h:ar}{x:Out}{y:Operand}(b:o.op= .nilCheck y)(e:lA (v y)=some x):Sound C o nm v h x:=by
 unfold lA at e
 split at e
 ·next B=>
  cases e
  intro _
  refine⟨aJ fun M F ρ a h w k G _=>⟨a.eval y,?_,k y (by rw[b];exact cF)⟩,fun p D=>by simp at D,rfl⟩
  have :=k y (by rw[b];exact cF);rw[B]at this
  generalize E:a.eval y=q at this
  cases this;simp[execOp,b,E]
 ·next B=>
  cases e
  intro _
  refine⟨aJ fun M F ρ a h w k G _=>⟨a.eval y,?_,k y (by rw[b];exact cF)⟩,fun p D=>by simp at D,rfl⟩
  have :=k y (by rw[b];exact cF);rw[B]at this
  generalize E:a.eval y=q at this
  cases this;simp[execOp,b,E]
 ·next B=>
  cases e
  intro _
  refine⟨aJ fun M F ρ a h w k G _=>⟨a.eval y,?_,k y (by rw[b];exact cF)⟩,fun p D=>by simp at D,rfl⟩
  have :=k y (by rw[b];exact cF);rw[B]at this
  generalize E:a.eval y=q at this
  cases this;simp[execOp,b,E]
 ·cases e
def jz(P:Program)(t:TypeId)(x:SV)(f:Nat):Option Out:=
 match P.underlying t with
 |some (.struct fs)=>
  match fs.toList[f]? with
  |some fd=>
   match P.info? fd.type with
   |some i=>if Nat.blt 0 i.size then
     match x with
     | .ptr n r c=>some (True,[], .ptr n r (c+fd.offset),[])
     | .vp k l g r c=>some (True,[], .vp k l g r (c+fd.offset),[])
     |_=>none
    else none
   |none=>none
  |none=>none
 |_=>none
theorem tS{C:Ctx}{o:Oper}{nm:Nat}{v:Operand->SV}{h:ar}{x:Out}{t:TypeId}{y:Operand}{f:Nat}(E:o.op= .fieldAddr t y f)(e:jz C.P t (v y) f=some x):Sound C o nm v h x:=by
 unfold jz at e
 split at e
 ·next X I=>
  split at e
  ·next G J=>
   split at e
   ·next i Y=>
    split at e
    ·next B=>
     have B:i.size≠0:=by
      have :0<i.size:=by simpa using B
      omega
     have D:X[f]? =some G:=by simpa using J
     have run:∀ (b off:Nat) (w:World),(Instr.fieldAt t (.pointer (some ⟨b,off,none⟩)) f).run C.P w= .ok (.pointer (some ⟨b,off+G.offset,none⟩)) w:=by
      intro b off w
      simp[Instr.fieldAt,run_underlying I,D,Instr.sureAddr,fieldPlace,sizeOf,typeInfo,Y,B,Addr.add_lit]
     split at e
     ·next n r c O=>
      cases e
      intro _
      refine⟨aJ fun M F ρ a h w U hH _=>?_,fun p V=>by simp at V,rfl⟩
      have :=U y (by rw[E];exact cF);rw[O]at this
      generalize W:a.eval y=q at this
      cases this with
      |ptr _ _ _ z hz=>
       refine⟨_,by simp[execOp,E,W,run];rfl,?_⟩
       have :=VR.ptr (M:=M) n r (c+G.offset) z hz
       rw[Nat.add_assoc];exact this
     ·next k l g r c O=>
      cases e
      intro _
      refine⟨aJ fun M F ρ a h w U hH _=>?_,fun p V=>by simp at V,rfl⟩
      have :=U y (by rw[E];exact cF);rw[O]at this
      generalize W:a.eval y=q at this
      cases this with
      |vp _ _ _ _ _ b off cur T fz g' hb hg hr=>
       refine⟨_,by simp[execOp,E,W,run];rfl,?_⟩
       have :=VR.vp (M:=M) (ρ:=ρ) k l g r (c+G.offset) b off cur T fz g' hb hg hr
       rw[Nat.add_assoc (off+r*k)];exact this
     ·cases e
    ·cases e
   ·cases e
  ·cases e
 ·cases e
def xY(P:Program)(t:TypeId)(x:SV)(f:Nat):Option Out:=
 match P.underlying t with
 |some (.struct fs)=>
  match fs.toList[f]? with
  |some fd=>
   match P.info? fd.type,eV P fd.type with
   |some i,some true=>match x with
    | .agg xs=>if Nat.ble (fd.offset+i.size) xs.length then some (True,[], .agg ((xs.drop fd.offset).take i.size),[])else none
    |_=>none
   |some i,some false=>match x with
    | .agg xs=>match xs[fd.offset]? with
     |some y=>some (True,[],y,[])
     |none=>none
    |_=>none
   |_,_=>none
  |none=>none
 |_=>none
theorem CE{C:Ctx}{o:Oper}{nm:Nat}{v:Operand->SV}{h:ar}{x:Out}{t:TypeId}{y:Operand}{f:Nat}(G:o.op= .field t y f)(e:xY C.P t (v y) f=some x):Sound C o nm v h x:=by
 unfold xY at e
 split at e
 ·next fs D=>
  split at e
  ·next I J=>
   have k:fs[f]? =some I:=by simpa using J
   split at e
   ·next i hi B=>
    split at e
    ·next xs O=>
     split at e
     ·next hle=>
      cases e
      intro _
      refine⟨aJ fun M F ρ a h w U hH _=>?_,fun p V=>by simp at V,rfl⟩
      have :=U y (by rw[G];exact cF);rw[O]at this
      obtain⟨vs,W,b⟩:=fY this
      have hle:=Nat.le_of_ble_eq_true hle
      refine⟨.agg (vs.extract I.offset (I.offset+i.size)),by simp[execOp,G,W,Instr.field,run_underlying D,k,asAgg,part,ew B,sizeOf,typeInfo,hi], .zm _ _ ?_ fun j s E=>?_⟩
      ·rw[Array.size_extract,List.length_take,List.length_drop,b.1];omega
      ·rw[List.getElem?_take]at E
       split at E
       ·next hj=>
        rw[List.getElem?_drop]at E
        obtain⟨u,X,Y⟩:=b.2 _ s E
        refine⟨u,?_,Y⟩
        rw[Array.getElem?_extract,if_pos (by have :=b.1;omega)];exact X
       ·cases E
     ·cases e
    ·cases e
   ·next i hi B=>
    split at e
    ·next xs O=>
     split at e
     ·next y' aa=>
      cases e
      intro _
      refine⟨aJ fun M F ρ a h w U hH _=>?_,fun p V=>by simp at V,rfl⟩
      have :=U y (by rw[G];exact cF);rw[O]at this
      obtain⟨vs,W,b⟩:=fY this
      obtain⟨u,X,Y⟩:=b.2 _ _ aa
      exact⟨u,by simp[execOp,G,W,Instr.field,run_underlying D,k,asAgg,part,ew B,X],Y⟩
     ·cases e
    ·cases e
   ·cases e
  ·cases e
 ·cases e
def l6(P:Program)(t:TypeId)(x b:SV)(h:ar):Option Out:=
 match b with
 | .d (.val (.int kk n))=>
  match P.underlying t with
  |some (.slice e)=>
   match P.info? e with
   |some i=>
    match x with
    | .d (.vec k len f)=>if Nat.beq k i.size then some (0<=n/\n<len,[], .vp k len f n.toNat 0,[])else none
    | .sl m o len=>
     match h m with
     |some (.cells ty k xs)=>if Nat.beq k i.size then some (0<=n/\n<len,[(m, .cells ty k xs)], .ptr m (o+n.toNat) 0,[])else none
     |some (.rows ty k L f)=>if Nat.beq k i.size then some ((0<=n/\n<len)/\0<L,[(m, .rows ty k L f)], .ptr m (o+n.toNat) 0,[])else none
     |_=>none
    |_=>none
   |none=>none
  |some (.array len e)=>
   match P.info? e with
   |some i=>
    match x with
    | .ptr m r c=>some (0<=n/\n<len,[], .ptr m r (c+n.toNat*i.size),[])
    | .vp k l f r c=>if Nat.beq k i.size&&Nat.beq c 0 then some (0<=n/\n<len,[], .vp k l f (r+n.toNat) 0,[])else some (0<=n/\n<len,[], .vp k l f r (c+n.toNat*i.size),[])
    |_=>none
   |none=>none
  |_=>none
 |_=>none
theorem tT{C:Ctx}{o:Oper}{nm:Nat}{v:Operand->SV}{h:ar}{x:Out}{t:TypeId}{y ix:Operand}(V:o.op= .indexAddr t y ix)(e:l6 C.P t (v y) (v ix) h=some x):Sound C o nm v h x:=by
 have my:y∈o.op.operands:=by rw[V];exact aP (.inl rfl)
 have mi:ix∈o.op.operands:=by rw[V];exact aP (.inr rfl)
 unfold l6 at e
 split at e
 ·next kk n ax=>
  have kg:∀ {M:aD} {ρ:Names} {a:Act},(∀ x,x∈o.op.operands->VR M ρ (v x) (a.eval x))->a.eval ix= .int kk n:=by
   intro M ρ a B
   have :=B ix mi;rw[ax]at this;exact this.val
  split at e
  ·next el W=>
   split at e
   ·next i hi=>
    have run:∀ (ad:Addr) (len cap:Nat) (w:World),0<=n->n<len->(Instr.indexAt t (.slice (some ad) len cap) (.int kk n)).run C.P w= .ok (.pointer (some (ad.add (n.toNat*i.size)))) w:=by
     intro ad len cap w E G
     simp[Instr.indexAt,asIntOf,run_underlying W,E,G,sizeOf,typeInfo,hi]
    split at e
    ·next k len f U=>
     split at e
     ·next D=>
      cases e
      rintro⟨E,G⟩
      have D:=Nat.eq_of_beq_eq_true D;subst D
      refine⟨aJ fun M F ρ a h w B J _=>?_,fun p I=>by simp at I,rfl⟩
      have :=B y my;rw[U]at this
      generalize O:a.eval y=q at this
      cases this with
      |d _ _ hd=>
       cases hd with
       |ie=>exfalso;omega
       |vec _ _ _ b off cap cur T fz g hb hc hg hr=>
        refine⟨_,by simp only[execOp,V,O,kg B,Sem.run_bind,run ⟨b,off,none⟩ len cap w E G,Result.andThen_ok,Sem.run_pure];rfl,?_⟩
        have :=VR.vp (M:=M) (ρ:=ρ) i.size len f n.toNat 0 b off cur T fz g hb hg hr
        rw[Addr.add_lit];simpa using this
     ·cases e
    ·next m off len U=>
     have core:∀ (blk:aB) (extra:Prop),h m=some blk->(∀ (M F:aD) (ρ:Names) (h':ar) (w:World) (x:Own),extra->HR M F ρ h' w->h' m=some blk->ρ m=some x->0<x.R->x.k=i.size)->
       (0<=n/\n<len)->extra->Sound C o nm v h (True,[(m,blk)], .ptr m (off+n.toNat) 0,[]):=by
      rintro blk extra hm al ⟨E,G⟩ hex _
      refine⟨aJ fun M F ρ a h' w B J a0=>?_,fun p I=>by simp at I;subst I;exact hm,rfl⟩
      have X:=B y my;rw[U]at X
      generalize O:a.eval y=q at X
      cases X with
      |sl _ _ _ x Y hl hR IA=>
       have a1:=al M F ρ h' w x hex J (a0 _ (List.mem_singleton.2 rfl)) Y IA
       refine⟨_,by simp only[execOp,V,O,kg B,Sem.run_bind,run ⟨x.b,off*x.k,none⟩ len (x.R-off) w E G,Result.andThen_ok,Sem.run_pure];rfl,?_⟩
       have :=VR.ptr (M:=M) m (off+n.toNat) 0 x Y
       rw[Addr.add_lit,<-a1,<-Nat.add_mul];simpa using this
      |jo _ _ x Y hR aa=>exfalso;omega
     split at e
     ·next ty k xs hm=>
      split at e
      ·next D=>
       cases e
       have D:=Nat.eq_of_beq_eq_true D
       intro ah
       exact core _ True hm (fun M F ρ h' w x _ J hm' Y _=>by obtain⟨cur,_,_,h3,_⟩:=J.cells hm' Y;rw[h3,D]) ah trivial trivial
      ·cases e
     ·next ty k L f hm=>
      split at e
      ·next D=>
       cases e
       have D:=Nat.eq_of_beq_eq_true D
       rintro⟨ah,hL⟩
       exact core _ (0<L) hm (fun M F ρ h' w x hL J hm' Y _=>by obtain⟨cur,_,_,h3,_⟩:=J.rows hm' hL Y;rw[h3,D]) ah hL trivial
      ·cases e
     ·cases e
    ·cases e
   ·cases e
  ·next av el W=>
   split at e
   ·next i hi=>
    have run:∀ (ad:Addr) (w:World),0<=n->n<av->(Instr.indexAt t (.pointer (some ad)) (.int kk n)).run C.P w= .ok (.pointer (some (ad.add (n.toNat*i.size)))) w:=by
     intro ad w E G
     simp[Instr.indexAt,asIntOf,run_underlying W,E,G,sizeOf,typeInfo,hi,Instr.sureAddr]
    split at e
    ·next m r c U=>
     cases e
     rintro⟨E,G⟩
     refine⟨aJ fun M F ρ a h w B J _=>?_,fun p I=>by simp at I,rfl⟩
     have :=B y my;rw[U]at this
     generalize O:a.eval y=q at this
     cases this with
     |ptr _ _ _ z hz=>
      refine⟨_,by simp only[execOp,V,O,kg B,Sem.run_bind,run _ w E G,Result.andThen_ok,Sem.run_pure];rfl,?_⟩
      have :=VR.ptr (M:=M) m r (c+n.toNat*i.size) z hz
      rw[Addr.add_lit,Nat.add_assoc];exact this
    ·next k l f r c U=>
     split at e
     ·next D=>
      cases e
      rintro⟨E,G⟩
      simp only[Bool.and_eq_true]at D
      have a2:=Nat.eq_of_beq_eq_true D.1;subst a2
      have a3:=Nat.eq_of_beq_eq_true D.2;subst a3
      refine⟨aJ fun M F ρ a h w B J _=>?_,fun p I=>by simp at I,rfl⟩
      have :=B y my;rw[U]at this
      generalize O:a.eval y=q at this
      cases this with
      |vp _ _ _ _ _ b off cur T fz g hb hg hr=>
       refine⟨_,by simp only[execOp,V,O,kg B,Sem.run_bind,run _ w E G,Result.andThen_ok,Sem.run_pure];rfl,?_⟩
       have :=VR.vp (M:=M) (ρ:=ρ) i.size l f (r+n.toNat) 0 b off cur T fz g hb hg hr
       rw[Addr.add_lit]
       rw[Nat.add_mul]at this
       simpa[Nat.add_assoc]using this
     ·cases e
      rintro⟨E,G⟩
      refine⟨aJ fun M F ρ a h w B J _=>?_,fun p I=>by simp at I,rfl⟩
      have :=B y my;rw[U]at this
      generalize O:a.eval y=q at this
      cases this with
      |vp _ _ _ _ _ b off cur T fz g hb hg hr=>
       refine⟨_,by simp only[execOp,V,O,kg B,Sem.run_bind,run _ w E G,Result.andThen_ok,Sem.run_pure];rfl,?_⟩
       have :=VR.vp (M:=M) (ρ:=ρ) k l f r (c+n.toNat*i.size) b off cur T fz g hb hg hr
       rw[Addr.add_lit,Nat.add_assoc (off+r*k)];exact this
    ·cases e
   ·cases e
  ·cases e
 ·cases e
def xZ(P:Program)(t:TypeId)(x b:SV):Option Out:=
 match x,b with
 | .d (.val (.string s)), .d (.val (.int kk n))=>
  match P.underlying t with
  |some .string=>some (0<=n/\n<s.size,[], .d (.val (.int .u8 ((s.data.getD n.toNat 0).toNat:Int))),[])
  |_=>none
 |_,_=>none
theorem CF{C:Ctx}{o:Oper}{nm:Nat}{v:Operand->SV}{h:ar}{x:Out}{t:TypeId}{y B:Operand}(D:o.op= .index t y B)(e:xZ C.P t (v y) (v B)=some x):Sound C o nm v h x:=by
 unfold xZ at e
 split at e
 ·next s X n O E=>
  split at e
  ·next G=>
   cases e
   rintro⟨U,Y⟩
   refine⟨aJ fun M F ρ a h w I hH _=>⟨_,?_, .d _ _ (.val _ rfl)⟩,fun p V=>by simp at V,rfl⟩
   have e1:=I y (by rw[D];exact aP (.inl rfl));rw[O]at e1
   have J:=I B (by rw[D];exact aP (.inr rfl));rw[E]at J
   have b:n.toNat<s.size:=by omega
   have k:s[n.toNat]? =some (s.data.getD n.toNat 0):=by
    have W:n.toNat<s.data.size:=b
    rw[getElem?_pos s n.toNat b]
    simp only[Array.getD]
    rw[dif_pos W];rfl
   simp[execOp,D,e1.val,J.val,Instr.index,asIntOf,run_underlying G,U,k]
  ·cases e
 ·cases e
def n5(fn:Go.Fn)(first:List Operand)(aZ:List SV):Option Out:=
 match fn,first with
 | .func f,[]=>some (True,[], .fn f aZ,[])
 |_,_=>none
def fZ(v:Operand->SV):List Operand->List SV
 | []=> []
 |x::r=>v x::fZ v r
theorem vJ{v:Operand->SV}:∀ (l:List Operand) (i:Nat),(fZ v l)[i]? =(l[i]?).map v
 | [],i=>by simp[fZ]
 |x::r,0=>by simp[fZ]
 |x::r,i+1=>by simp[fZ,vJ r i]
theorem cd{v:Operand->SV}:∀ (l:List Operand),(fZ v l).length=l.length
 | []=>rfl
 |x::r=>by simp[fZ,cd r]
theorem kA{M:aD}{ρ:Names}{a:Act}{v:Operand->SV}{xs:Array Operand}(k:∀ x,x∈xs->VR M ρ (v x) (a.eval x)):RL M ρ (fZ v xs.toList) (xs.map a.eval):=by
 refine⟨by simp[cd],fun i x b=>?_⟩
 rw[vJ,Array.getElem?_toList]at b
 cases e:xs[i]? with
 |none=>rw[e]at b;cases b
 |some y=>
  rw[e]at b;cases b
  exact⟨a.eval y,by simp[e],k y (Array.mem_of_getElem? e)⟩
theorem vK{C:Ctx}{o:Oper}{nm:Nat}{v:Operand->SV}{h:ar}{x:Out}{fn:Go.Fn}{first aZ:Array Operand}(E:o.op= .makeFunc fn first aZ)(e:n5 fn first.toList (fZ v aZ.toList)=some x):Sound C o nm v h x:=by
 unfold n5 at e
 split at e
 ·next f b=>
  cases e
  intro _
  have k:first= #[]:=by cases first;simp_all
  subst k
  refine⟨aJ fun M F ρ a h w G V _=>?_,fun p I=>by simp at I,rfl⟩
  have B:=kA (M:=M) (ρ:=ρ) (a:=a) (v:=v) (xs:=aZ) (fun x D=>G x (by rw[E];simp[Op.operands,D]))
  refine⟨.func (.func f) #[] (aZ.map a.eval),by simp[execOp,E,Instr.makeFunc],?_⟩
  refine .fn f _ _ (fun i=>(aZ.map a.eval).getD i undef) B.1 (fun i J=>?_) fun i x D=>?_
  ·have :i<(aZ.map a.eval).size:=by rw[B.1];exact J
   simp only[Array.getD,this,dite_true]
   exact Array.getElem?_eq_getElem this
  ·obtain⟨u,O,U⟩:=B.2 i x D
   rw[Array.getD_eq_getD_getElem?,O];exact U
 ·cases e
def qj(nm:Nat)(r:Option Operand):Option Out:=
 match r with
 |none=>some (True,[], .map nm,[(nm,some (.map []))])
 |some _=>none
theorem x5{C:Ctx}{o:Oper}{nm:Nat}{v:Operand->SV}{h:ar}{x:Out}{t:TypeId}{r:Option Operand}(k:o.op= .makeMap t r)(e:qj nm r=some x):Sound C o nm v h x:=by
 unfold qj at e
 split at e
 ·cases e
  intro _
  refine⟨dn fun M F ρ a h w U B _ b=>?_,fun p D=>by simp at D,by simp[cC]⟩
  obtain⟨aq,E,G,I,J⟩:=gS B b 1 1 (by omega) (.map []) (.map #[] 0) (by
   intro aq _
   exact⟨⟨rfl,rfl⟩,fun j e O=>by simp at O⟩)
  refine⟨aq, .map (some w.heap.size),_,E,G,?_, .map nm _ I,J,bG.alloc _ _⟩
  simp[execOp,k,Instr.makeMap]
 ·cases e
def pN(zs:List SV):Nat->Nat->D:=fun _ c=>match zs[c]? with |some (.d x)=>x|_=> .any
def l7(P:Program)(nm:Nat)(t:TypeId)(l c:SV):Option Out:=
 match l,c with
 | .d (.val (.int _ n)), .d (.val (.int _ m))=>
  match P.underlying t with
  |some (.slice e)=>
   match P.info? e,eP P e with
   |some i,some z=>if Nat.blt 0 z.length then some (0<=n/\m=n/\n*i.bytes<=iR/\n<=1000000000000,[], .sl nm 0 n.toNat,[(nm,some (.rows e z.length n.toNat (pN (eK z))))])else none
   |_,_=>none
  |_=>none
 |_,_=>none
theorem tU{C:Ctx}{o:Oper}{nm:Nat}{v:Operand->SV}{h:ar}{x:Out}{t:TypeId}{l c:Operand}(V:o.op= .makeSlice t l c)(e:l7 C.P nm t (v l) (v c)=some x):Sound C o nm v h x:=by
 unfold l7 at e
 split at e
 ·next k1 n k2 m hl hc=>
  split at e
  ·next el W=>
   split at e
   ·next i z hi hz=>
    split at e
    ·next B=>
     cases e
     rintro⟨h0,rfl,hb,av⟩
     have B:0<z.length:=by simpa using B
     obtain⟨i',D,I,X,J,hlen,O⟩:=dx hz
     rw[hi]at I;obtain rfl:=Option.some.inj I
     refine⟨dn fun M F ρ a h w hv hH _ U=>?_,fun p hp=>by simp at hp,by simp[cC]⟩
     have e1:=hv l (by rw[V];exact aP (.inl rfl));rw[hl]at e1
     have e2:=hv c (by rw[V];exact aP (.inr rfl));rw[hc]at e2
     have Y:=run_make (P:=C.P) w t el i D W hi X k1 k2 m m h0 (Int.le_refl _) (by unfold iR at hb;rw[Int.mul_comm];omega) (by omega)
     have hex:(execOp a.eval o).run C.P w= .ok (.value (.slice (some ⟨w.heap.size,0,none⟩) m.toNat m.toNat)) (w.alloc (.cells (madeCells D.cells (m.toNat*i.size)) el)):=by
      simp[execOp,V,e1.val,e2.val,Y]
     rcases Nat.eq_zero_or_pos m.toNat with b|b
     ·obtain⟨aq,g1,g2,g3,g4⟩:=hH.ghost U el z.length (pN (eK z))
      refine⟨aq,_,_,g1,g2,hex,?_,?_,bG.alloc _ _⟩
      ·rw[b];exact .jo nm 0 _ g3 rfl _
      ·rw[b]
       exact g4.beside _
     ·obtain⟨aq,g1,g2,g3,g4⟩:=gS hH U z.length m.toNat b (.rows el z.length m.toNat (pN (eK z))) (.cells (madeCells D.cells (m.toNat*i.size)) el) (by
       intro aq _
       refine⟨rfl,rfl,rfl,by rw[size_madeCells,hlen],Nat.le_refl _,fun r q Y k=>?_⟩
       have E:D.cells.size=z.length:=by rw[<-J,Array.length_toList]
       have aa:r*z.length+q<m.toNat*i.size:=by
        rw[<-hlen]
        have :(r+1)*z.length<=m.toNat*z.length:=Nat.mul_le_mul_right _ Y
        rw[Nat.succ_mul]at this;omega
       refine⟨z[q]'k,?_,?_⟩
       ·have :D.cells[(r*z.length+q)%D.cells.size]! =z[q]'k:=by
         rw[E,Nat.mul_add_mod_self_right,Nat.mod_eq_of_lt k]
         rw[getElem!_pos D.cells q (by rw[E];exact k)]
         have :D.cells.toList[q]'(by rw[Array.length_toList,E];exact k)=z[q]'k:=by simp only[J]
         simpa using this
        simp[madeCells,aa,this]
       ·have ah:z[q]? =some (z[q]'k):=List.getElem?_eq_getElem k
        have al:(eK z)[q]? =some (toSV (z[q]'k)):=by rw[iQ,ah];rfl
        have G:=mV (M:=M) (ρ:=ρ) (O _ (List.getElem_mem k))
        unfold pN
        rw[al]
        generalize z[q]'k=u at G ⊢
        have hd:∃ x,toSV u= .d x:=by
         unfold toSV;split
         ·exact⟨_,rfl⟩
         ·exact⟨_,rfl⟩
        obtain⟨x,hx⟩:=hd
        rw[hx]at G ⊢
        cases G with |d _ _ h=>exact h)
      refine⟨aq,_,_,g1,g2,hex,?_,g4,bG.alloc _ _⟩
      have :=VR.sl (M:=M) nm 0 m.toNat _ g3 (by simp) (by show m.toNat<=maxLen;simp only[maxLen];omega) b
      simpa using this
    ·cases e
   ·cases e
  ·cases e
 ·cases e
def qk(x:SV)(i:Nat):Option Out:=
 match x with
 | .bA xs=>match xs[i]? with
  |some y=>some (True,[],y,[])
  |none=>none
 |_=>none
theorem x6{C:Ctx}{o:Oper}{nm:Nat}{v:Operand->SV}{h:ar}{x:Out}{y:Operand}{i:Nat}(k:o.op= .extract y i)(e:qk (v y) i=some x):Sound C o nm v h x:=by
 unfold qk at e
 split at e
 ·next xs B=>
  split at e
  ·next z D=>
   cases e
   intro _
   refine⟨aJ fun M F ρ a h w E U _=>?_,fun p G=>by simp at G,rfl⟩
   have :=E y (by rw[k];exact cF);rw[B]at this
   obtain⟨vs,I,b⟩:=CC this
   obtain⟨u,J,O⟩:=b.2 _ _ D
   exact⟨u,by simp[execOp,k,I,Instr.extract,J],O⟩
  ·cases e
 ·cases e
def Fv(P:Program)(t:TypeId)(x:SV)(h:ar):Option Out:=
 match P.underlying t,x with
 |some (.slice _), .d .bz=>some (True,[],SV.i 0,[])
 |some (.slice _), .d (.vec _ len _)=>some (True,[],SV.i len,[])
 |some (.slice _), .sl _ _ len=>some (True,[],SV.i len,[])
 |some .string, .d (.val (.string s))=>some (True,[],SV.i s.size,[])
 |some (.map _ _), .map n=>match h n with
  |some (.map es)=>some (True,[(n, .map es)],SV.i es.length,[])
  |_=>none
 |_,_=>none
theorem HR.JG{M F:aD}{ρ:Names}{h:ar}{w:World}(H:HR M F ρ h w){n:Nat}{es:List (Value×D)}(E:h n=some (.map es)){x:Own}(G:ρ n=some x):
  0<x.R/\∃ k,w.heap[x.b]? =some (.map k k.size)/\k.size=es.length/\∀ (j:Nat) (e:Value×D),es[j]? =some e->∃ y:MapEntry,k[j]? =some y/\y.key=e.1/\DR M e.2 y.val/\y.born=j:=by
 obtain⟨X,v,I⟩:=H.live n _ E
 rw[G]at v;obtain rfl:=Option.some.inj v
 rcases I with⟨_,J⟩|⟨O,_,_,o,U,B⟩
 ·simp[aB.ghost]at J
 ·cases o with
  |map k cl=>
   obtain⟨⟨V,rfl⟩,W⟩:=B
   exact⟨O,k,U,V,W⟩
  |_=>exact B.elim
theorem HR.map{M F:aD}{ρ:Names}{h:ar}{w:World}(H:HR M F ρ h w){n:Nat}{es:List (Value×D)}(v:h n=some (.map es)){x:Own}(B:ρ n=some x):
  0<x.R/\∃ k,w.heap[x.b]? =some (.map k k.size)/\k.size=es.length/\∀ (j:Nat) (e:Value×D),es[j]? =some e->∃ y:MapEntry,k[j]? =some y/\y.key=e.1/\DR M e.2 y.val:=by
 obtain⟨E,k,G,I,J⟩:=H.JG v B
 exact⟨E,k,G,I,fun j e O=>let⟨y,a,b,c,_⟩:=J j e O;⟨y,a,b,c⟩⟩
theorem run_getObj_map{P:Program}{w:World}{b:Nat}{e:Array MapEntry}{k:Nat}(h:w.heap[b]? =some (.map e k)):(getObj b).run P w= .ok (.map e k) w:=by
 simp only[getObj,Sem.run,h]
theorem Hp{C:Ctx}{o:Oper}{nm:Nat}{v:Operand->SV}{h:ar}{x:Out}{t:TypeId}{y:Operand}(V:o.op= .call {callee:= .builtin .len,args:= #[y],argTypes:= #[t]})(e:Fv C.P t (v y) h=some x):Sound C o nm v h x:=by
 have I:y∈o.op.operands:=by rw[V];simp[Op.operands,Call.operands]
 have b:∀ (a:Act) (w w':World) (u:Value),(Builtin.len_ #[t] o.type #[a.eval y]).run C.P w= .ok u w'->(execOp a.eval o).run C.P w= .ok (.value u) w':=by
  intro a w w' u X
  unfold execOp
  simp only[V,resolve,invoke,builtin,Sem.run_bind,Sem.run_pure,Result.andThen_ok,List.map_toArray,List.map_cons,List.map_nil,X]
 unfold Fv at e
 split at e
 ·next el D E=>
  cases e
  intro _
  refine⟨aJ fun M F ρ a h w G J _=>⟨.int .i64 0,b a w w _ ?_, .d _ _ (.val _ rfl)⟩,fun p B=>by simp at B,rfl⟩
  have :=G y I;rw[E]at this
  generalize O:a.eval y=q at this
  cases this with |d _ _ hd=>cases hd;simp[Builtin.len_,run_underlying D,goInt]
 ·next el k len f D E=>
  cases e
  intro _
  refine⟨aJ fun M F ρ a h w G J _=>⟨.int .i64 len,b a w w _ ?_, .d _ _ (.val _ rfl)⟩,fun p B=>by simp at B,rfl⟩
  have :=G y I;rw[E]at this
  generalize O:a.eval y=q at this
  cases this with |d _ _ hd=>cases hd<;>simp[Builtin.len_,run_underlying D,goInt]
 ·next el n off len D E=>
  cases e
  intro _
  refine⟨aJ fun M F ρ a h w G J _=>⟨.int .i64 len,b a w w _ ?_, .d _ _ (.val _ rfl)⟩,fun p B=>by simp at B,rfl⟩
  have :=G y I;rw[E]at this
  generalize O:a.eval y=q at this
  cases this<;>simp[Builtin.len_,run_underlying D,goInt]
 ·next s D E=>
  cases e
  intro _
  refine⟨aJ fun M F ρ a h w G J _=>⟨.int .i64 s.size,b a w w _ ?_, .d _ _ (.val _ rfl)⟩,fun p B=>by simp at B,rfl⟩
  have :=G y I;rw[E]at this
  rw[this.val];simp[Builtin.len_,run_underlying D,goInt]
 ·next kt el n D E=>
  split at e
  ·next es Y=>
   cases e
   intro _
   refine⟨aJ fun M F ρ a h w G J U=>⟨.int .i64 es.length,b a w w _ ?_, .d _ _ (.val _ rfl)⟩,fun p B=>by simp at B;subst B;exact Y,rfl⟩
   have :=G y I;rw[E]at this
   generalize O:a.eval y=q at this
   cases this with
   |map _ z hz=>
    obtain⟨_,W,k1,k2,_⟩:=J.map (U _ (List.mem_singleton.2 rfl)) hz
    simp[Builtin.len_,run_underlying D,run_getObj_map k1,goInt,k2]
  ·cases e
 ·cases e
def AT(op:BinOp)(x y:SV):Option Out:=
 match x,y with
 | .d (.val (.int k a)), .d (.val (.int k' b))=>
  if k=k' then
   match op with
   | .quo=>some (b≠0,[], .d (.val (.int k (k.wrap (a.tdiv b)))),[])
   | .rem=>some (b≠0,[], .d (.val (.int k (a.tmod b))),[])
   |_=>none
  else none
 |_,_=>none
theorem CG{C:Ctx}{o:Oper}{nm:Nat}{v:Operand->SV}{h:ar}{x:Out}{op:BinOp}{t U:TypeId}{y z:Operand}(D:o.op= .binOp op t y z U)(e:AT op (v y) (v z)=some x):Sound C o nm v h x:=by
 unfold AT at e
 split at e
 ·next k a Y b J O=>
  split at e
  ·next V=>
   subst V
   split at e
   ·cases e
    intro B
    refine⟨aJ fun M F ρ W h w E X _=>⟨_,?_, .d _ _ (.val _ rfl)⟩,fun p I=>by simp at I,rfl⟩
    have e1:=E y (by rw[D];exact aP (.inl rfl));rw[J]at e1
    have G:=E z (by rw[D];exact aP (.inr rfl));rw[O]at G
    have B:b≠0:=B
    simp[execOp,D,e1.val,G.val,eqGuard,binOp,Op.intDiv,B]
   ·cases e
    intro B
    refine⟨aJ fun M F ρ W h w E X _=>⟨_,?_, .d _ _ (.val _ rfl)⟩,fun p I=>by simp at I,rfl⟩
    have e1:=E y (by rw[D];exact aP (.inl rfl));rw[J]at e1
    have G:=E z (by rw[D];exact aP (.inr rfl));rw[O]at G
    have B:b≠0:=B
    simp[execOp,D,e1.val,G.val,eqGuard,binOp,Op.intDiv,B]
   ·cases e
  ·cases e
 ·cases e
def n6(op:BinOp)(x y:SV):Option Out:=
 match x,y with
 | .d (.val (.int k a)), .d (.val (.int _ b))=>
  match op with
  | .shl=>some (0<=b,[], .d (.val (.int k (k.wrap (a*2^(min b.toNat k.bits))))),[])
  | .shr=>some (0<=b,[], .d (.val (.int k (a.fdiv (2^(min b.toNat k.bits))))),[])
  |_=>none
 |_,_=>none
theorem vL{C:Ctx}{o:Oper}{nm:Nat}{v:Operand->SV}{h:ar}{x:Out}{op:BinOp}{t U:TypeId}{y z:Operand}(D:o.op= .binOp op t y z U)(e:n6 op (v y) (v z)=some x):Sound C o nm v h x:=by
 unfold n6 at e
 split at e
 ·next k a X b J O=>
  split at e
  ·cases e
   intro B
   refine⟨aJ fun M F ρ V h w E W _=>⟨_,?_, .d _ _ (.val _ rfl)⟩,fun p I=>by simp at I,rfl⟩
   have e1:=E y (by rw[D];exact aP (.inl rfl));rw[J]at e1
   have G:=E z (by rw[D];exact aP (.inr rfl));rw[O]at G
   have B: ¬ b<0:=by
    have :0<=b:=B
    omega
   simp[execOp,D,e1.val,G.val,eqGuard,binOp,Op.shift,B]
  ·cases e
   intro B
   refine⟨aJ fun M F ρ V h w E W _=>⟨_,?_, .d _ _ (.val _ rfl)⟩,fun p I=>by simp at I,rfl⟩
   have e1:=E y (by rw[D];exact aP (.inl rfl));rw[J]at e1
   have G:=E z (by rw[D];exact aP (.inr rfl));rw[O]at G
   have B: ¬ b<0:=by
    have :0<=b:=B
    omega
   simp[execOp,D,e1.val,G.val,eqGuard,binOp,Op.shift,B]
  ·cases e
 ·cases e
def jV(b:Int):Option SV->Option Int
 |none=>some b
 |some (.d (.val (.int _ n)))=>some n
 |_=>none
def kB:Option SV->Bool
 |some (.d (.val (.int _ 0)))=>true
 |_=>false
def x7(P:Program)(t:TypeId)(x:SV)(lo b v:Option SV)(h:ar):Option Out:=
 match v with
 |some _=>
  if kB v&&(kB b&&lo.isNone)then
   match P.underlying t with
   |some (.slice e)=>
    if(P.info? e).isSome then
     match x with
     | .d (.vec _ _ _)=>some (True,[], .d .bz,[])
     | .sl _ _ _=>some (True,[], .d .bz,[])
     | .d .bz=>some (True,[], .d .bz,[])
     |_=>none
    else none
   |_=>none
  else none
 |none=>
  match P.underlying t with
  |some (.slice e)=>
   match P.info? e with
   |some i=>
    match x with
    | .d (.vec k len f)=>
     match jV 0 lo,jV len b with
     |some l,some u=>if Nat.beq k i.size then some (0<=l/\l<=u/\u<=len,[], .d (.vec k (u.toNat-l.toNat) (match lo with |none=>f|some _=>fun r c=>f (l.toNat+r) c)),[])else none
     |_,_=>none
    | .sl n o len=>
     match jV 0 lo,jV len b with
     |some l,some u=>
      match h n with
      |some (.cells ty k xs)=>if Nat.beq k i.size then some (0<=l/\l<=u/\u<=len,[(n, .cells ty k xs)], .sl n (o+l.toNat) (u.toNat-l.toNat),[])else none
      |some (.rows ty k L f)=>if Nat.beq k i.size then some (0<=l/\l<=u/\u<=len/\len<=L,[(n, .rows ty k L f)], .sl n (o+l.toNat) (u.toNat-l.toNat),[])else none
      |_=>none
     |_,_=>none
    |_=>none
   |none=>none
  |some .string=>
   match x with
   | .d (.val (.string s))=>
    match jV 0 lo,jV s.size b with
    |some l,some u=>some (0<=l/\l<=u/\u<=s.size,[], .d (.val (.string (s.extract l.toNat u.toNat))),[])
    |_,_=>none
   |_=>none
  |_=>none
theorem iS{M:aD}{ρ:Names}{v:Operand->SV}{a:Act}{d l:Int}{x:Option Operand}(b:∀ y,x=some y->VR M ρ (v y) (a.eval y))(h:jV d (x.map v)=some l):
  (x.map a.eval=none/\l=d/\x=none)\/∃ k,x.map a.eval=some (.int k l):=by
 cases x with
 |none=>left;simp[jV]at h;exact⟨rfl,h.symm,rfl⟩
 |some y=>
  right
  have :=b y rfl
  simp only[Option.map_some]at h ⊢
  generalize v y=s at h this
  cases s with
  |d z=>cases z with
   |val u=>cases u with
    |int k n=>simp[jV]at h;subst h;exact⟨k,by rw[this.val]⟩
    |_=>simp[jV]at h
   |_=>simp[jV]at h
  |_=>simp[jV]at h
theorem ql{P:Program}{w:World}(v:Bool)(len cap:Nat)(lo B:Option Value)(l u:Int)(hl:(lo=none/\l=0)\/∃ k,lo=some (.int k l))(G:(B=none/\u=len)\/∃ k,B=some (.int k u))
  (D:0<=l) (E:l<=u) (J:u<=len) (O:len<=cap):(Instr.sliceBounds v len cap lo B none).run P w= .ok (l.toNat,u.toNat,cap) w:=by
 have I:(u.toNat:Int)=u:=Int.toNat_of_nonneg (by omega)
 have b:0<=u:=by omega
 have e:u<=cap:=by omega
 rcases hl with⟨rfl,rfl⟩|⟨U,rfl⟩<;>rcases G with⟨rfl,rfl⟩|⟨V,rfl⟩
 ·simp[Instr.sliceBounds]
 ·simp[Instr.sliceBounds,run_sliceBound,b,e]
 ·simp[Instr.sliceBounds,run_sliceBound,D,E]
 ·simp[Instr.sliceBounds,run_sliceBound,D,b,e,I,E]
theorem eb{P:Program}{w:World}{t e:TypeId}{i:TypeInfo}(v:P.underlying t=some (.slice e))(B:P.info? e=some i)(a:Option Addr)(len cap:Nat)(lo b:Option Value)(l u:Int)
  (hl:(lo=none/\l=0)\/∃ k,lo=some (.int k l)) (D:(b=none/\u=len)\/∃ k,b=some (.int k u)) (E:0<=l) (G:l<=u) (I:u<=len) (J:len<=cap):
  (Instr.sliceAt t (.slice a len cap) lo b none).run P w= .ok (sliced a l.toNat u.toNat cap i.size) w:=by
 simp[Instr.sliceAt,Instr.slice,run_underlying v,ql true len cap lo b l u hl D E G I J,sizeOf,typeInfo,B,sliced]
theorem CH{C:Ctx}{o:Oper}{nm:Nat}{v:Operand->SV}{h:ar}{x:Out}{t:TypeId}{y:Operand}{lo I mx:Option Operand}(ho:o.op= .slice t y lo I mx)(e:x7 C.P t (v y) (lo.map v) (I.map v) (mx.map v) h=some x):Sound C o nm v h x:=by
 have my:y∈o.op.operands:=by rw[ho];simp[Op.operands]
 have ml:∀ z,lo=some z->z∈o.op.operands:=by intro z B;rw[ho,B];simp[Op.operands]
 have mh:∀ z,I=some z->z∈o.op.operands:=by intro z B;rw[ho,B];simp[Op.operands]
 have mm:∀ z,mx=some z->z∈o.op.operands:=by intro z B;rw[ho,B];simp[Op.operands]
 have D:∀ (a:Act) (w:World) (u:Value),(Instr.sliceAt t (a.eval y) (lo.map a.eval) (I.map a.eval) (mx.map a.eval)).run C.P w= .ok u w->(execOp a.eval o).run C.P w= .ok (.value u) w:=by
  intro a w u hr
  simp only[execOp,ho,Sem.run_bind,hr,Result.andThen_ok,Sem.run_pure]
 unfold x7 at e
 split at e
 ·next mv bp=>
  split at e
  ·next B=>
   simp only[Bool.and_eq_true]at B
   have zero:∀ {M:aD} {ρ:Names} {a:Act} {q:Option Operand},(∀ z,q=some z->VR M ρ (v z) (a.eval z))->kB (q.map v)=true->∃ k,q.map a.eval=some (.int k 0):=by
    intro M ρ a q J W
    cases q with
    |none=>simp[kB]at W
    |some z=>
     have :=J z rfl
     simp only[Option.map_some]at W ⊢
     generalize v z=s at W this
     unfold kB at W
     split at W
     ·next k he=>simp at he;subst he;exact⟨k,by rw[this.val]⟩
     ·cases W
   have core:∀ (el:TypeId),C.P.underlying t=some (.slice el)->(C.P.info? el).isSome=true->(∀ (M:aD) (ρ:Names) (u:Value),VR M ρ (v y) u->∃ a len cap,u= .slice a len cap)->Sound C o nm v h (True,[], .d .bz,[]):=by
    intro el G O a3 _
    obtain⟨i,ah⟩:=Option.isSome_iff_exists.1 O
    refine⟨aJ fun M F ρ a h w J hH _=>?_,fun p hp=>by simp at hp,rfl⟩
    obtain⟨bu,len,cap,W⟩:=a3 M ρ _ (J y my)
    obtain⟨k1,e1⟩:=zero (q:=mx) (fun z B=>J z (mm z B)) B.1
    obtain⟨k2,e2⟩:=zero (q:=I) (fun z B=>J z (mh z B)) B.2.1
    have e3:lo.map a.eval=none:=by
     cases lo with
     |none=>rfl
     |some z=>simp at B
    refine⟨.slice bu 0 0,D a w _ ?_, .d _ _ (.bz _)⟩
    rw[W,e1,e2,e3]
    simp[Instr.sliceAt,Instr.slice,run_underlying G,Instr.sliceBounds,run_sliceBound,sizeOf,typeInfo,ah]
   split at e
   ·next el G=>
    split at e
    ·next O=>
     split at e
     ·next k len f hy=>
      cases e
      refine core el G O fun M ρ u V=>?_
      rw[hy]at V
      cases V with |d _ _ hd=>cases hd<;>exact⟨_,_,_,rfl⟩
     ·next n off len hy=>
      cases e
      refine core el G O fun M ρ u V=>?_
      rw[hy]at V
      cases V<;>exact⟨_,_,_,rfl⟩
     ·next hy=>
      cases e
      refine core el G O fun M ρ u V=>?_
      rw[hy]at V
      cases V with |d _ _ hd=>cases hd;exact⟨_,_,_,rfl⟩
     ·cases e
    ·cases e
   ·cases e
  ·cases e
 ·next bq=>
  have ax:mx=none:=by cases mx<;>simp_all
  subst ax
  split at e
  ·next el G=>
   split at e
   ·next i ah=>
    split at e
    ·next k len f hy=>
     split at e
     ·next l u hl V=>
      split at e
      ·next hk=>
       cases e
       rintro⟨h0,h1,h2⟩
       have hk:=Nat.eq_of_beq_eq_true hk;subst hk
       refine⟨aJ fun M F ρ a h w J hH _=>?_,fun p hp=>by simp at hp,rfl⟩
       have E:=J y my;rw[hy]at E
       have bl:=iS (a:=a) (x:=lo) (fun z B=>J z (ml z B)) hl
       have bx:=iS (a:=a) (x:=I) (fun z B=>J z (mh z B)) V
       have X:(lo.map a.eval=none/\l=0)\/∃ k,lo.map a.eval=some (.int k l):=by rcases bl with⟨br,Y,_⟩|b;exact .inl ⟨br,Y⟩;exact .inr b
       have aa:(I.map a.eval=none/\u=len)\/∃ k,I.map a.eval=some (.int k u):=by rcases bx with⟨br,Y,_⟩|b;exact .inl ⟨br,Y⟩;exact .inr b
       have hf:∀ r c,(match lo.map v with |none=>f|some _=>fun r c=>f (l.toNat+r) c) r c=f (l.toNat+r) c:=by
        intro r c
        rcases bl with⟨_,Y,b1⟩|⟨k',hb⟩
        ·subst b1;subst Y;simp
        ·cases lo with
         |none=>simp at hb
         |some z=>rfl
       generalize W:a.eval y=q at E
       cases E with
       |d _ _ hd=>
        have hlen:∃ bu cap,q= .slice bu len cap/\len<=cap:=by
         cases hd with
         |ie _ _ bu cap=>exact⟨bu,cap,rfl,Nat.zero_le _⟩
         |vec _ _ _ b off cap cur T fz g hb hc hg hr=>exact⟨_,cap,rfl,hc⟩
        obtain⟨bu,cap,a0,a1⟩:=hlen
        have U:=eb (w:=w) G ah bu len cap (lo.map a.eval) (I.map a.eval) l u X aa h0 h1 h2 a1
        refine⟨_,D a w _ (by rw[W,a0];exact U), .d _ _ ?_⟩
        unfold sliced
        rcases Nat.eq_zero_or_pos (u.toNat-l.toNat)with B|B
        ·rw[B];exact .ie _ _ _ _
        ·have a4: ¬ cap=l.toNat:=by omega
         rw[if_neg a4]
         subst a0
         cases hd with
         |ie _ _=>omega
         |vec _ _ _ b off _ cur T fz g hb hc hg hr=>
          simp only[Option.map_some,Addr.add_lit]
          refine .vec i.size _ _ b _ _ cur T fz (fun r c=>g (l.toNat+r) c) hb (by omega) (fun r c a5 al=>?_) (fun r c a5 al=>?_)
          ·rw[<-hg (l.toNat+r) c (by omega) al,Nat.add_mul];congr 1;omega
          ·rw[hf];exact hr (l.toNat+r) c (by omega) al
      ·cases e
     ·cases e
    ·next n off len hy=>
     split at e
     ·next l u hl V=>
      have core:∀ (blk:aB) (extra:Prop),h n=some blk->(∀ (M F:aD) (ρ:Names) (h':ar) (w:World) (x:Own),extra->HR M F ρ h' w->h' n=some blk->ρ n=some x->0<x.R->0<len->x.k=i.size)->(0<=l/\l<=u/\u<=len)->extra->
        Sound C o nm v h (True,[(n,blk)], .sl n (off+l.toNat) (u.toNat-l.toNat),[]):=by
       rintro blk extra hm a2 ⟨h0,h1,h2⟩ hex _
       refine⟨aJ fun M F ρ a h' w J hH a6=>?_,fun p hp=>by simp at hp;subst hp;exact hm,rfl⟩
       have E:=J y my;rw[hy]at E
       have bl:=iS (a:=a) (x:=lo) (fun z B=>J z (ml z B)) hl
       have bx:=iS (a:=a) (x:=I) (fun z B=>J z (mh z B)) V
       have X:(lo.map a.eval=none/\l=0)\/∃ k,lo.map a.eval=some (.int k l):=by rcases bl with⟨br,Y,_⟩|b;exact .inl ⟨br,Y⟩;exact .inr b
       have aa:(I.map a.eval=none/\u=len)\/∃ k,I.map a.eval=some (.int k u):=by rcases bx with⟨br,Y,_⟩|b;exact .inl ⟨br,Y⟩;exact .inr b
       generalize W:a.eval y=q at E
       cases E with
       |sl _ _ _ x hx IK hR IA=>
        have U:=eb (w:=w) G ah (some ⟨x.b,off*x.k,none⟩) len (x.R-off) (lo.map a.eval) (I.map a.eval) l u X aa h0 h1 h2 (by omega)
        refine⟨_,D a w _ (by rw[W];exact U),?_⟩
        unfold sliced
        by_cases hc:x.R-off=l.toNat
        ·rw[if_pos hc,show u.toNat-l.toNat=0 by omega,show x.R-off-l.toNat=0 by omega]
         exact .jo n _ x hx (by omega) _
        ·rw[if_neg hc]
         simp only[Option.map_some,Addr.add_lit]
         have :=VR.sl (M:=M) n (off+l.toNat) (u.toNat-l.toNat) x hx (by omega) hR IA
         by_cases hlen:0<len
         ·have a7:=a2 M F ρ h' w x hex hH (a6 _ (List.mem_singleton.2 rfl)) hx IA hlen
          rw[<-a7,<-Nat.add_mul,Nat.sub_sub];exact this
         ·have av:l.toNat=0:=by omega
          rw[av]at this ⊢
          simpa using this
       |jo _ _ x hx hR bu=>
        have av:l=0:=by omega
        have a8:u=0:=by omega
        subst av;subst a8
        have U:=eb (w:=w) G ah bu 0 0 (lo.map a.eval) (I.map a.eval) 0 0 X aa h0 h1 h2 (Nat.le_refl _)
        refine⟨_,D a w _ (by rw[W];exact U),?_⟩
        simp only[sliced,Int.toNat_zero,Nat.sub_self,if_true,Nat.add_zero]
        exact .jo n off x hx hR bu
      split at e
      ·next ty k xs hm=>
       split at e
       ·next hk=>
        cases e
        have hk:=Nat.eq_of_beq_eq_true hk
        intro ba
        exact core _ True hm (fun M F ρ h' w x _ hH hm' hx _ _=>by obtain⟨cur,_,_,h3,_⟩:=hH.cells hm' hx;rw[h3,hk]) ba trivial trivial
       ·cases e
      ·next ty k L f hm=>
       split at e
       ·next hk=>
        cases e
        have hk:=Nat.eq_of_beq_eq_true hk
        rintro⟨bc,bh,bn,hL⟩
        exact core _ (len<=L) hm (fun M F ρ h' w x hL hH hm' hx _ hl=>by obtain⟨cur,_,_,h3,_⟩:=hH.rows hm' (by omega) hx;rw[h3,hk]) ⟨bc,bh,bn⟩ hL trivial
       ·cases e
      ·cases e
     ·cases e
    ·cases e
   ·cases e
  ·next bo=>
   split at e
   ·next s hy=>
    split at e
    ·next l u hl V=>
     cases e
     rintro⟨h0,h1,h2⟩
     refine⟨aJ fun M F ρ a h w J hH _=>?_,fun p hp=>by simp at hp,rfl⟩
     have E:=J y my;rw[hy]at E
     have bl:=iS (a:=a) (x:=lo) (fun z B=>J z (ml z B)) hl
     have bx:=iS (a:=a) (x:=I) (fun z B=>J z (mh z B)) V
     have X:(lo.map a.eval=none/\l=0)\/∃ k,lo.map a.eval=some (.int k l):=by rcases bl with⟨br,Y,_⟩|b;exact .inl ⟨br,Y⟩;exact .inr b
     have aa:(I.map a.eval=none/\u=s.size)\/∃ k,I.map a.eval=some (.int k u):=by rcases bx with⟨br,Y,_⟩|b;exact .inl ⟨br,Y⟩;exact .inr b
     refine⟨_,D a w (.string (s.extract l.toNat u.toNat)) ?_, .d _ _ (.val _ rfl)⟩
     rw[E.val]
     simp[Instr.sliceAt,Instr.slice,run_underlying bo,ql false s.size s.size (lo.map a.eval) (I.map a.eval) l u X aa h0 h1 h2 (Nat.le_refl _)]
    ·cases e
   ·cases e
  ·cases e
def l8(P:Program)(xs e:List SV):List Field->Option Bool
 | []=>some true
 |f::fs=>
  if f.name≠ "_" then
   match P.underlying f.type,xs[f.offset]?,e[f.offset]? with
   |some (.int _),some (.d (.val (.int k a))),some (.d (.val (.int k' b)))=>if k=k' then(l8 P xs e fs).map ((a==b)&& ·)else none
   |some .string,some (.d (.val (.string a))),some (.d (.val (.string b)))=>(l8 P xs e fs).map ((a.toList==b.toList)&& ·)
   |some .bool,some (.d (.val (.bool a))),some (.d (.val (.bool b)))=>(l8 P xs e fs).map ((a==b)&& ·)
   |_,_,_=>none
  else l8 P xs e fs
theorem Fw{P:Program}{M:aD}{ρ:Names}{xs G:List SV}{I vs:Array Value}(U:RL M ρ xs I)(V:RL M ρ G vs)(d:Nat)(w:World):∀ (D:List Field) (b:Bool),l8 P xs G D=some b->
  (Op.eqFields (d+1) I vs D).run P w= .ok b w:=by
 intro D
 induction D with
 |nil=>intro b h;simp[l8]at h;subst h;rfl
 |cons f D ih=>
  intro b h
  simp only[l8]at h
  simp only[Op.eqFields]
  split at h
  ·next W=>
   rw[if_pos W]
   have v:∀ (d:TypeDesc) (zs:List SV) (X:Array Value) (u:Value),RL M ρ zs X->P.underlying f.type=some d->(∀ D,d≠ .struct D)->(∀ n e,d≠ .array n e)->zs[f.offset]? =some (.d (.val u))->(part f.type X f.offset).run P w= .ok u w:=by
    intro d zs X u E hd Y aa hz
    have ah:eV P f.type=some false:=by
     unfold eV;rw[hd]
     cases d<;>first|rfl|(exact absurd rfl (Y _))|(exact absurd rfl (aa _ _))
    obtain⟨q,q1,q2⟩:=E.2 _ _ hz
    rw[q2.val]at q1
    simp[part,ew ah,q1]
   split at h
   ·next k0 k a k' b' B J O=>
    split at h
    ·next hk=>
     subst hk
     obtain⟨r,E,rfl⟩:=Option.map_eq_some_iff.1 h
     have e:=run_equalIn_int (P:=P) w d f.type k k0 a b' B
     simp only[Sem.run_bind,v _ xs I _ U B (by simp) (by simp) J,v _ G vs _ V B (by simp) (by simp) O,Result.andThen_ok,e,Sem.run_ite,ih r E,Sem.run_pure]
     cases(a==b')<;>simp
    ·cases h
   ·next a b' B J O=>
    obtain⟨r,E,rfl⟩:=Option.map_eq_some_iff.1 h
    have e:=run_equalIn_string (P:=P) w d f.type a b' B
    simp only[Sem.run_bind,v _ xs I _ U B (by simp) (by simp) J,v _ G vs _ V B (by simp) (by simp) O,Result.andThen_ok,e,Sem.run_ite,ih r E,Sem.run_pure]
    cases(a.toList==b'.toList)<;>simp
   ·next a b' B J O=>
    obtain⟨r,E,rfl⟩:=Option.map_eq_some_iff.1 h
    have e:=run_equalIn_bool' (P:=P) w d f.type a b' B
    simp only[Sem.run_bind,v _ xs I _ U B (by simp) (by simp) J,v _ G vs _ V B (by simp) (by simp) O,Result.andThen_ok,e,Sem.run_ite,ih r E,Sem.run_pure]
    cases(a==b')<;>simp
   ·cases h
  ·next W=>rw[if_neg W];exact ih b h
theorem vM{C:Ctx}{o:Oper}{nm:Nat}{v:Operand->SV}{op:BinOp}{t W:TypeId}{y z:Operand}(B:o.op= .binOp op t y z W){xs I:List SV}(X:v y= .agg xs)(Y:v z= .agg I){D:Array Field}
  (k:C.P.underlying t=some (.struct D)) (hp:C.P.stoodInHeld t=false) (hm:C.P.eqGuardType C.P.depth t=false) {b:Bool} (hb:l8 C.P xs I D.toList=some b) {r:Bool} (E:(op= .eql/\r=b)\/(op= .neq/\r= !b)):
  bV C o nm v [] (fun x w=>x=SV.b r/\w= []):=by
 refine aJ fun M F ρ a h w J hH _=>⟨.bool r,?_, .d _ _ (.val _ rfl)⟩
 have e1:=J y (by rw[B];exact aP (.inl rfl));rw[X]at e1
 have O:=J z (by rw[B];exact aP (.inr rfl));rw[Y]at O
 obtain⟨e,q1,r1⟩:=fY e1
 obtain⟨vs,U,r2⟩:=fY O
 have hf:C.P.underlying t=some (.struct (C.P.fieldsOf t)):=by simp[Program.fieldsOf,k]
 have G:C.P.fieldsOf t=D:=by simp[Program.fieldsOf,k]
 have V:(Op.equalIn 10000 t (.agg e) (.agg vs)).run C.P w= .ok b w:=by
  rw[run_equalIn_agg (P:=C.P) w 9999 t e vs hf hp,G]
  exact Fw r1 r2 9998 w D.toList b hb
 rcases E with⟨rfl,rfl⟩|⟨rfl,rfl⟩
 ·simp[execOp,B,q1,U,run_eqGuard_agg (P:=C.P) w .eql t y z e vs hm,run_eql_struct (P:=C.P) w t e vs,V]
 ·simp[execOp,B,q1,U,run_eqGuard_agg (P:=C.P) w .neq t y z e vs hm,run_neq_struct (P:=C.P) w t e vs,V]
def plainKey:TypeDesc->Bool
 | .int _| .string| .bool=>true
 |_=>false
theorem run_checkKey{P:Program}{w:World}{kt:TypeId}{kind:TypeDesc}(b:P.underlying kt=some kind)(k:plainKey kind=true)(e:Bool)(n:Nat)(v:Value):(Instr.checkKey e (n+1) kt v).run P w= .ok () w:=by
 simp only[Instr.checkKey,Sem.run_bind,run_underlying b,Result.andThen_ok]
 cases kind<;>simp[plainKey]at k<;>rfl
theorem VR.Hq{M:aD}{ρ:Names}{a b:SV}{x y:Value}(k:VR M ρ a x)(v:VR M ρ b y):VR M ρ (.bA [a,b]) (.tuple #[x,y]):=
 .vA _ _ rfl fun i s e=>by
  match i,e with
  |0,e=>simp at e;subst e;exact⟨_,rfl,k⟩
  |1,e=>simp at e;subst e;exact⟨_,rfl,v⟩
def x8(ok:Bool)(d:SV)(b:Bool):SV:=match ok with |true=> .bA [d,SV.b b]|false=>d
theorem vN{kind:TypeDesc}{a b:Value}(h:Instr.sameNow kind a b=some true):Instr.sameBits 10000 b a=true:=by
 unfold Instr.sameNow at h
 split at h
 ·next k x B y=>
  split at h
  ·next e=>subst e;simp at h;subst h;simp[Instr.sameBits]
  ·cases h
 ·next x y=>
  simp only[Option.some.injEq]at h
  rw[beq_toListBytes]at h
  have v:(y==x)=true:=by rw[beq_toListBytes];simp only[beq_iff_eq]at h ⊢;exact h.symm
  simpa[Instr.sameBits]using v
 ·next x y=>simp at h;subst h;simp[Instr.sameBits]
 ·cases h
theorem run_setObj_map{P:Program}{w:World}{b:Nat}{e:Array MapEntry}{k:Nat}(h:w.heap[b]? =some (.map e k))(o:Obj):(setObj b o).run P w= .ok () {w with heap:=w.heap.setIfInBounds b o}:=by
 simp only[setObj,Sem.run,h]
def Fx(y z:SV):Option Out:=
 match y,z with
 | .d (.val (.int k a)), .d (.val (.int _ b))=>some (True,[], .d (.val (.int k (if b<a then b else a))),[])
 |_,_=>none
def Fy(y z:SV):Option Out:=
 match y,z with
 | .d (.val (.int k a)), .d (.val (.int _ b))=>some (True,[], .d (.val (.int k (if a<b then b else a))),[])
 |_,_=>none
theorem Hr{C:Ctx}{o:Oper}{nm:Nat}{v:Operand->SV}{h:ar}{x:Out}{G:Array TypeId}{y z:Operand}(B:o.op= .call {callee:= .builtin .min,args:= #[y,z],argTypes:=G})(e:Fx (v y) (v z)=some x):Sound C o nm v h x:=by
 have I:y∈o.op.operands:=by rw[B];simp[Op.operands,Call.operands]
 have J:z∈o.op.operands:=by rw[B];simp[Op.operands,Call.operands]
 unfold Fx at e
 split at e
 ·next k a W b O U=>
  cases e
  intro _
  refine⟨aJ fun M F ρ X h w D Y _=>⟨_,?_, .d _ _ (.val _ rfl)⟩,fun p V=>by simp at V,rfl⟩
  have e1:=D y I;rw[O]at e1
  have E:=D z J;rw[U]at E
  unfold execOp
  simp only[B,resolve,invoke,builtin,Sem.run_bind,Sem.run_pure,Result.andThen_ok,List.map_toArray,List.map_cons,List.map_nil,e1.val,E.val,Builtin.min_,List.foldlM_cons,List.foldlM_nil,Builtin.min2]
 ·cases e
theorem Hs{C:Ctx}{o:Oper}{nm:Nat}{v:Operand->SV}{h:ar}{x:Out}{G:Array TypeId}{y z:Operand}(B:o.op= .call {callee:= .builtin .max,args:= #[y,z],argTypes:=G})(e:Fy (v y) (v z)=some x):Sound C o nm v h x:=by
 have I:y∈o.op.operands:=by rw[B];simp[Op.operands,Call.operands]
 have J:z∈o.op.operands:=by rw[B];simp[Op.operands,Call.operands]
 unfold Fy at e
 split at e
 ·next k a W b O U=>
  cases e
  intro _
  refine⟨aJ fun M F ρ X h w D Y _=>⟨_,?_, .d _ _ (.val _ rfl)⟩,fun p V=>by simp at V,rfl⟩
  have e1:=D y I;rw[O]at e1
  have E:=D z J;rw[U]at E
  unfold execOp
  simp only[B,resolve,invoke,builtin,Sem.run_bind,Sem.run_pure,Result.andThen_ok,List.map_toArray,List.map_cons,List.map_nil,e1.val,E.val,Builtin.max_,List.foldlM_cons,List.foldlM_nil,Builtin.max2]
 ·cases e
def tV(P:Program)(r:Bool)(t:TypeId)(x:SV):Option Out:=
 match P.underlying t with
 |some (.slice _)=>
  match x with
  | .d (.vec _ len _)=>some (0<len,[], .d (.val (.bool r)),[])
  | .sl _ _ len=>some (0<len,[], .d (.val (.bool r)),[])
  |_=>none
 |_=>none
theorem x9{M:aD}{ρ:Names}{x:SV}{u:Value}(h:VR M ρ x u){len:Nat}(e:0<len)(b:(∃ k f,x= .d (.vec k len f))\/∃ n o,x= .sl n o len):∃ a l c,u= .slice (some a) l c:=by
 rcases b with⟨k,f,rfl⟩|⟨n,o,rfl⟩
 ·cases h with
  |d _ _ h=>cases h with
   |ie=>omega
   |vec=>exact⟨_,_,_,rfl⟩
 ·cases h with
  |sl=>exact⟨_,_,_,rfl⟩
  |jo=>omega
theorem vO{C:Ctx}{o:Oper}{nm:Nat}{v:Operand->SV}{h:ar}{x:Out}{op:BinOp}{t I:TypeId}{y:Operand}{r:Bool}(E:o.op= .binOp op t y (.const (.slice none 0 0)) I)(b:op= .eql/\r=false\/op= .neq/\r=true)(e:tV C.P r t (v y)=some x):Sound C o nm v h x:=by
 have J:y∈o.op.operands:=by rw[E];exact aP (.inl rfl)
 have key:∀ (el:TypeId) (len:Nat),C.P.underlying t=some (.slice el)->((∃ k f,v y= .d (.vec k len f))\/∃ n o,v y= .sl n o len)->Sound C o nm v h (0<len,[], .d (.val (.bool r)),[]):=by
  intro el len B O U
  refine⟨aJ fun M F ρ V h w W hH _=>⟨_,?_, .d _ _ (.val _ rfl)⟩,fun p X=>by simp at X,rfl⟩
  obtain⟨a,l,cc,Y⟩:=x9 (W y J) U O
  have hc:V.eval (.const (.slice none 0 0))= .slice none 0 0:=rfl
  have hg:(eqGuard op t y (.const (.slice none 0 0)) (.slice (some a) l cc) (.slice none 0 0)).run C.P w= .ok () w:=by
   rcases b with⟨rfl,rfl⟩|⟨rfl,rfl⟩<;>rfl
  have G:=run_equal_slice_nil (P:=C.P) w t el (some a) l cc B
  have hb:(binOp op t (.slice (some a) l cc) (.slice none 0 0)).run C.P w= .ok (.bool r) w:=by
   rcases b with⟨rfl,rfl⟩|⟨rfl,rfl⟩
   ·simp only[binOp]
    simp[G]
   ·simp only[binOp]
    simp[G]
  unfold execOp
  simp only[E,Y,hc,Sem.run_bind,hg,hb,Result.andThen_ok,Sem.run_pure]
 unfold tV at e
 split at e
 ·next el B=>
  split at e
  ·next k len f D=>cases e;exact key el len B (.inl ⟨k,f,D⟩)
  ·next n o len D=>cases e;exact key el len B (.inr ⟨n,o,D⟩)
  ·cases e
 ·cases e
def n7(P:Program)(t:TypeId):Option Out:=
 match P.underlying t with
 |some (.slice e)=>match P.info? e with
  |some _=>some (True,[], .d .bz,[])
  |none=>none
 |_=>none
theorem vP{C:Ctx}{o:Oper}{nm:Nat}{v:Operand->SV}{h:ar}{x:Out}{t:TypeId}(B:o.op= .buildSlice t 0 #[])(e:n7 C.P t=some x):Sound C o nm v h x:=by
 unfold n7 at e
 split at e
 ·next el b=>
  split at e
  ·next i D=>
   cases e
   intro _
   refine⟨dn fun M F ρ a h w J E _ G=>?_,fun p k=>by simp at k,rfl⟩
   refine⟨ρ, .slice (some ⟨w.heap.size,0,none⟩) 0 0,w.alloc (.cells #[] el),Names.le_refl _,fun _ _=>rfl,?_, .d _ _ (.bz _),E.beside _,bG.alloc _ _⟩
   have k:(Array.map (fun x:Nat×Operand=>(x.fst,a.eval x.snd)) #[]).toList= []:=by simp
   have I:∀ f:Nat->Value,(Array.range 0).map f= #[]:=by intro f;simp
   simp only[execOp,B,Instr.buildSlice,Sem.run_bind,run_underlying b,Result.andThen_ok,sizeOf,typeInfo,run_program,D,Sem.run_pure,Nat.zero_mul,if_neg (show ¬ (0>2^24) by decide),if_true,k,I,Instr.fill]
   rfl
  ·cases e
 ·cases e
def tW:List SV->Option (List Int)
 | []=>some []
 | .d (.val (.int .i64 n))::r=>match tW r with
  |some l=>some (n::l)
  |none=>none
 |_=>none
theorem qm:∀ {xs:List SV} {l:List Int},tW xs=some l->xs.length=l.length/\∀ i,i<l.length->xs[i]? =some (.d (.val (.int .i64 (l.getD i 0))))
 | [],l,h=>by cases h;exact⟨rfl,fun i b=>by simp at b⟩
 | .d (.val (.int .i64 n))::r,l,h=>by
  simp only[tW]at h
  split at h
  ·next v hl=>
   cases h
   obtain⟨e,k⟩:=qm hl
   refine⟨by simp[e],fun i b=>?_⟩
   cases i with
   |zero=>rfl
   |succ i=>simpa using k i (by simpa using b)
  ·cases h
def tX(P:Program)(t:TypeId)(x b:SV):Option Out:=
 match P.underlying t with
 |some (.array len e)=>
  match P.info? e,eV P e with
  |some i,some false=>
   match x,b with
   | .agg xs, .d (.val (.int _ n))=>
    match tW xs with
    |some l=>if Nat.beq i.size 1&&Nat.beq len l.length then some (0<=n/\n<l.length,[], .d (.val (.int .i64 (l.getD n.toNat 0))),[])else none
    |none=>none
   |_,_=>none
  |_,_=>none
 |_=>none
theorem AU{C:Ctx}{o:Oper}{nm:Nat}{v:Operand->SV}{h:ar}{x:Out}{t:TypeId}{y b:Operand}(k:o.op= .index t y b)(e:tX C.P t (v y) (v b)=some x):Sound C o nm v h x:=by
 unfold tX at e
 split at e
 ·next len el B=>
  split at e
  ·next i W D=>
   split at e
   ·next xs kk n X E=>
    split at e
    ·next l hl=>
     split at e
     ·next G=>
      cases e
      rintro⟨Y,h1⟩
      simp only[Bool.and_eq_true]at G
      have c1:=Nat.eq_of_beq_eq_true G.1
      have c2:=Nat.eq_of_beq_eq_true G.2
      refine⟨aJ fun M F ρ a h w O hH _=>⟨_,?_, .d _ _ (.val _ rfl)⟩,fun p hp=>by simp at hp,rfl⟩
      have e1:=O y (by rw[k];exact aP (.inl rfl));rw[X]at e1
      have U:=O b (by rw[k];exact aP (.inr rfl));rw[E]at U
      obtain⟨vs,hq,I⟩:=fY e1
      obtain⟨g1,g2⟩:=qm hl
      obtain⟨u,V,u2⟩:=I.2 _ _ (g2 n.toNat (by omega))
      rw[u2.val]at V
      have J:0<=n/\n<(len:Int):=⟨Y,by rw[c2];exact h1⟩
      simp[execOp,k,hq,U.val,Instr.index,asIntOf,run_underlying B,J,part,ew D,sizeOf,typeInfo,W,c1,V]
     ·cases e
    ·cases e
   ·cases e
  ·cases e
 ·cases e
def n8(P:Program)(t:TypeId)(parts:List (Nat×SV)):Option Out:=
 match P.underlying t with
 |some (.array len e)=>
  match eP P t,P.info? e with
  |some z,some i=>
   if parts.all fun p=>Nat.blt p.1 len then
    match qi (cW i.size 0 len) (eK z) parts with
    |some xs=>some (True,[], .agg xs,[])
    |none=>none
   else none
  |_,_=>none
 |_=>none
theorem vQ{C:Ctx}{o:Oper}{nm:Nat}{v:Operand->SV}{h:ar}{x:Out}{t:TypeId}{parts:Array (Nat×Operand)}(X:o.op= .build t parts)(e:n8 C.P t (b8 v parts.toList)=some x):Sound C o nm v h x:=by
 unfold n8 at e
 split at e
 ·next len el E=>
  split at e
  ·next z D hz G=>
   split at e
   ·next c4=>
    split at e
    ·next xs I=>
     cases e
     intro _
     refine⟨aJ fun M F ρ a h w hv hH _=>?_,fun p J=>by simp at J,rfl⟩
     obtain⟨i,Y,O,U,V,hlen,k⟩:=dx hz
     obtain⟨p1,p2⟩:=nZ (M:=M) (ρ:=ρ) (a:=a) (v:=v) (parts:=parts) (fun i x hx=>hv x (by rw[X];exact nY hx t))
     obtain⟨us,g1,g2⟩:=pL (M:=M) (ρ:=ρ) (cW D.size 0 len) (fun i=>(cW D.size 0 len)[i]?) (fun i=>rfl) (b8 v parts.toList) _ (eK z) xs Y.cells p1 p2 (vE V k) I
     refine⟨.agg us,?_,g2.agg⟩
     have b:Instr.fill (fun i=>some (i*D.size,D.size)) Y.cells (parts.map fun(i,x)=>(i,a.eval x)).toList=some us:=by
      rw[<-g1]
      refine l5 (places:= []) (n:=len) (fun i O=>?_) _ _ ?_
      ·rw[gZ,if_pos O,Nat.zero_add]
      ·intro p J
       obtain⟨j,W⟩:=List.mem_iff_getElem?.1 J
       rw[Array.getElem?_toList]at W
       simp only[Array.getElem?_map,Option.map_eq_some_iff]at W
       obtain⟨⟨i,y⟩,hy,rfl⟩:=W
       have B:(i,v y)∈b8 v parts.toList:=by
        have :∀ (l:List (Nat×Operand)),(i,y)∈l->(i,v y)∈b8 v l:=by
         intro l
         induction l with
         |nil=>intro h;cases h
         |cons q l ih=>
          intro h
          rcases List.mem_cons.1 h with rfl|h
          ·exact List.mem_cons_self ..
          ·exact List.mem_cons_of_mem _ (ih h)
        exact this _ (by rw[Array.mem_toList_iff];exact Array.mem_of_getElem? hy)
       have :=(List.all_eq_true.1 c4) _ B
       simpa using this
     simp only[execOp,X,Instr.build,zeroValue,typeInfo,sizeOf,Sem.run_bind,run_program,Result.andThen_ok,O,G,Sem.run_pure,U,run_underlying E,b]
    ·cases e
   ·cases e
  ·cases e
 ·cases e
def ey(s:ByteArray):Nat->Nat->D:=fun i _=> .val (.int .u8 ((s.data.getD i 0).toNat:Int))
def lB(P:Program)(src dst:TypeId)(x:SV):Option Out:=
 match P.underlying src,P.underlying dst with
 |some .string,some (.slice e)=>
  match P.underlying e with
  |some (.int .u8)=>
   match x with
   | .d (.val (.string s))=>some (True,[], .d (.vec 1 s.size (ey s)),[])
   |_=>none
  |_=>none
 |_,_=>none
theorem vR{C:Ctx}{o:Oper}{nm:Nat}{v:Operand->SV}{h:ar}{x:Out}{src dst:TypeId}{y:Operand}(ho:o.op= .convert src dst y)(e:lB C.P src dst (v y)=some x):Sound C o nm v h x:=by
 unfold lB at e
 split at e
 ·next el hs hd=>
  split at e
  ·next he=>
   split at e
   ·next s hy=>
    cases e
    intro _
    refine⟨?_,fun p hp=>by simp at hp,rfl⟩
    intro M F ρ a h w hv hG U aa ah K Q hK
    have e1:=hv y (by rw[ho];simp[Op.operands]);rw[hy]at e1
    have E:=run_bytes_of_string (P:=C.P) w src dst el s hs hd he
    have hx:(execOp a.eval o).run C.P w= .ok (.value (.slice (some ⟨w.heap.size,0,none⟩) s.size (grownCap w s.size 0 el))) (w.drew.alloc (.cells (bytesRow s (grownCap w s.size 0 el)) el ((bytesRow s (grownCap w s.size 0 el)).size,(bytesRow s (grownCap w s.size 0 el)).size+1))):=by
     unfold execOp
     simp only[ho,e1.val,Sem.run_bind,E,Result.andThen_ok,Sem.run_pure]
    generalize G:Obj.cells (bytesRow s (grownCap w s.size 0 el)) el ((bytesRow s (grownCap w s.size 0 el)).size,(bytesRow s (grownCap w s.size 0 el)).size+1)=obj at hx
    let M':aD:=fun b=>if b=w.heap.size then some obj else M b
    have V:=U.beyond
    have hle:M.le M':=by
     intro b o k
     have :b≠w.heap.size:=by rintro rfl;rw[(V _ (Nat.le_refl _)).1]at k;cases k
     simp[M',this,k]
    have I:(w.drew.alloc obj).heap[w.heap.size]? =some obj:=heap_alloc_new w.drew obj
    have D:HR M F ρ h (w.drew.alloc obj):=(U.drawn (w.drawn+1)).beside obj
    have W:HR M' F ρ h (w.drew.alloc obj):=by
     refine⟨fun b o k=>?_,D.iL,fun b o k=>?_,fun m blk hm=>?_,D.sep,?_⟩
     rotate_right
     ·refine D.dh (fun _ _ _ h=>h) (Names.le_refl _) hle (Nat.le_refl _) (fun m S es hm b V a1 a2=>⟨?_,a2⟩) (fun _ _ _ _ _ _ _ _ _ _=>rfl) (fun _ _ _ m y _ a b _=> .inl ⟨a,b⟩)
      obtain⟨_,_,_,g1,_⟩:=U.fam m S es hm
      have X:=(g1 b V).2.2
      simp[M',show b≠w.heap.size by omega,a1]
     ·by_cases e:b=w.heap.size
      ·subst e;simp[M']at k;subst k;exact I
      ·simp[M',e]at k;exact D.fT b o k
     ·have :b≠w.heap.size:=by rintro rfl;rw[(V _ (Nat.le_refl _)).2]at k;cases k
      simp[M',this];exact D.j9 b o k
     ·obtain⟨z,hz,hr⟩:=U.live m blk hm
      obtain⟨z',J,B⟩:=D.live m blk hm
      rw[hz]at J;obtain rfl:=Option.some.inj J
      refine⟨z,hz,?_⟩
      rcases B with B|⟨q0,q1,q2,ob,q3,q4⟩
      ·exact .inl B
      ·rcases hr with⟨h0,_⟩|⟨_,_,_,al,q5,_⟩
       ·omega
       ·have X:=(Array.getElem?_eq_some_iff.1 q5).1
        exact .inr ⟨q0,by simp[M',show z.b≠w.heap.size by omega,q1],q2,ob,q3,q4.mono hle (Names.le_refl _)⟩
    unfold Cr
    rw[hx]
    refine hK M' ρ _ [] _ _ hle (Names.le_refl _) (fun _ _=>rfl) ⟨rfl,rfl⟩ (.d _ _ ?_) W ⟨rfl,rfl,rfl,by simp⟩
    subst G
    refine .vec 1 s.size _ w.heap.size 0 _ (bytesRow s (grownCap w s.size 0 el)) el ((bytesRow s (grownCap w s.size 0 el)).size,(bytesRow s (grownCap w s.size 0 el)).size+1) (fun i _=> .int .u8 ((s.data.getD i 0).toNat:Int)) (by simp[M']) ?_ (fun i c Y hc=>?_) (fun i c Y hc=> .val _ rfl)
    ·unfold grownCap;exact Nat.le_add_right _ _
    ·obtain rfl:c=0:=by omega
     have O:i<s.data.size:=Y
     show(bytesRow s _)[0+i*1+0]? =_
     rw[Nat.zero_add,Nat.mul_one,Nat.add_zero]
     unfold bytesRow
     rw[Array.getElem?_append_left (by simpa using O),Array.getElem?_map,Array.getElem?_eq_getElem O]
     simp[Array.getD]
     rw[dif_pos Y]
   ·cases e
  ·cases e
 ·cases e
def GV(C:Ctx)(nm:Nat)(o:Oper)(v:Operand->SV)(h:ar):Option Out:=
 match o.op with
 | .move y=>some (zo (v y))
 | .assign y=>some (zo (v y))
 | .pick c a b=>Cx (v c) (v a) (v b)
 | .alloc t=>xV C.P nm t
 | .box t y=>Hn nm t (v y)
 | .build t ps=>match xW C.P t (b8 v ps.toList)with
  |some x=>some x
  |none=>n8 C.P t (b8 v ps.toList)
 | .buildSlice t 0 ⟨[]⟩=>n7 C.P t
 | .buildSlice t len ps=>lz C.P nm t len (b8 v ps.toList)
 | .load t a=>qh C.P t (v a) h
 | .store t a y=>qg C.P t (v a) (v y) h
 | .nilCheck y=>lA (v y)
 | .fieldAddr t y f=>jz C.P t (v y) f
 | .field t y f=>xY C.P t (v y) f
 | .indexAddr t y ix=>l6 C.P t (v y) (v ix) h
 | .index t y ix=>match xZ C.P t (v y) (v ix)with
  |some x=>some x
  |none=>tX C.P t (v y) (v ix)
 | .slice t y lo hi mx=>x7 C.P t (v y) (lo.map v) (hi.map v) (mx.map v) h
 | .makeFunc fn first aZ=>n5 fn first.toList (fZ v aZ.toList)
 | .makeMap t r=>qj nm r
 | .makeSlice t l c=>l7 C.P nm t (v l) (v c)
 | .extract y i=>qk (v y) i
 | .call ⟨.builtin .len,⟨[y]⟩,⟨[t]⟩⟩=>Fv C.P t (v y) h
 | .call ⟨.builtin .append,⟨[a,b]⟩,⟨[t,t']⟩⟩=>if Nat.beq t t' then mW C.P nm t (v a) (v b) h else none
 | .call ⟨.builtin .min,⟨[y,z]⟩,ts⟩=>Fx (v y) (v z)
 | .call ⟨.builtin .max,⟨[y,z]⟩,ts⟩=>Fy (v y) (v z)
 | .binOp .eql t y (.const (.slice none 0 0)) t'=>tV C.P false t (v y)
 | .binOp .neq t y (.const (.slice none 0 0)) t'=>tV C.P true t (v y)
 | .convert src dst y=>match lB C.P src dst (v y)with
  |some x=>some x
  |none=>sg C.P o v
 | .binOp .quo t y z t'=>AT .quo (v y) (v z)
 | .binOp .rem t y z t'=>AT .rem (v y) (v z)
 | .binOp .shl t y z t'=>n6 .shl (v y) (v z)
 | .binOp .shr t y z t'=>n6 .shr (v y) (v z)
 |_=>sg C.P o v
theorem qn{C:Ctx}{nm:Nat}{o:Oper}{v:Operand->SV}{h:ar}{x:Out}(e:GV C nm o v h=some x):Sound C o nm v h x:=by
 unfold GV at e
 split at e
 ·next y b=>cases e;exact zp (.inl b)
 ·next y b=>cases e;exact zp (.inr b)
 ·next b=>exact Fu b e
 ·next b=>exact Cy b e
 ·next b=>exact Ho b e
 ·next b=>
  split at e
  ·next x k=>exact Cz b (by rw[k,e])
  ·exact vQ b e
 ·next b=>exact vP b e
 ·next b=>exact o8 b e
 ·next b=>exact AR b e
 ·next b=>exact AQ b e
 ·next b=>exact vI b e
 ·next b=>exact tS b e
 ·next b=>exact CE b e
 ·next b=>exact tT b e
 ·next b=>
  split at e
  ·next x k=>exact CF b (by rw[k,e])
  ·exact AU b e
 ·next b=>exact CH b e
 ·next b=>exact vK b e
 ·next b=>exact x5 b e
 ·next b=>exact tU b e
 ·next b=>exact x6 b e
 ·next b=>exact Hp b e
 ·next b=>
  split at e
  ·next B=>have B:=Nat.eq_of_beq_eq_true B;subst B;exact AS b e
  ·cases e
 ·next b=>exact Hr b e
 ·next b=>exact Hs b e
 ·next b=>exact vO b (.inl ⟨rfl,rfl⟩) e
 ·next b=>exact vO b (.inr ⟨rfl,rfl⟩) e
 ·next b=>
  split at e
  ·next x k=>exact vR b (by rw[k,e])
  ·exact vC e
 ·next b=>exact CG b e
 ·next b=>exact CG b e
 ·next b=>exact vL b e
 ·next b=>exact vL b e
 ·exact vC e
theorem st{C:Ctx}{ops:List Oper}{i:Nat}{o:Oper}{l:List Oper}{σ:St}{acc:Option (List FP)}{K:St->Prop}{vc:Prop}{bs:List (Nat×aB)}{u:SV}{wr:List (Nat×Option aB)}
  (v:o.guard=none) (hd:aM C o=true) (e:GV C (σ.nx+8*i) o (bE C σ.t) σ.h=some (vc,bs,u,wr)) (b:vc)
  (k:an C ops (i+1) l (σ.app o.dst u wr) (acc.map (· ++ [(bs.map (·.1),wr.map (·.1))])) K):an C ops i (o::l) σ acc K:=by
 obtain⟨B,D,E⟩:=qn e b
 unfold an
 exact .inl ⟨_,_,⟨hd, .inl ⟨by simp[mP,v],bs,u,wr,B,D,E,rfl,rfl⟩⟩,k⟩
theorem cp{C:Ctx}{ops:List Oper}{i:Nat}{o:Oper}{l:List Oper}{σ:St}{acc:Option (List FP)}{K:St->Prop}{bs:List (Nat×aB)}{u:SV}{wr:List (Nat×Option aB)}
  (v:o.guard=none) (hd:aM C o=true) (b:bV C o (σ.nx+8*i) (bE C σ.t) bs (fun x y=>x=u/\y=wr)) (e:∀ p,p∈bs->σ.h p.1=some p.2) (B:cC bs (σ.nx+8*i) wr=true)
  (k:an C ops (i+1) l (σ.app o.dst u wr) (acc.map (· ++ [(bs.map (·.1),wr.map (·.1))])) K):an C ops i (o::l) σ acc K:=by
 unfold an
 exact .inl ⟨_,_,⟨hd, .inl ⟨by simp[mP,v],bs,u,wr,b,e,B,rfl,rfl⟩⟩,k⟩
theorem kC{C:Ctx}{ops:List Oper}{i:Nat}{o:Oper}{l:List Oper}{σ:St}{acc:Option (List FP)}{K:St->Prop}{j:Nat}{want:Bool}{s:Tmp}{b:Bool}
  (I:o.guard=some (j,want)) (J:eD ops j=some s) (E:σ.t s=SV.b b)
  (on:b=want->an C ops i ({o with guard:=none}::l) ⟨upd σ.t s (SV.b want),σ.h,σ.nx⟩ acc K)
  (off:b= !want->an C ops (i+1) l (St.app ⟨upd σ.t s (SV.b !want),σ.h,σ.nx⟩ o.dst (.bA []) []) (acc.map (· ++ [([],[])])) K) (hd:aM C o=true):an C ops i (o::l) σ acc K:=by
 have same:upd σ.t s (SV.b b)=σ.t:=by
  funext k;rw[az];split
  ·next e=>subst e;exact E.symm
  ·rfl
 by_cases h:b=want
 ·have :=on h
  rw[<-h,same]at this
  unfold an at this ⊢
  have D:∀ {nm:Nat} {v:Operand->SV} {bs G},bV C {o with guard:=none} nm v bs G->bV C o nm v bs G:=fun B=>B
  rcases this with⟨W,aF,⟨O,X⟩,Y⟩|⟨h0,O,hgo,bs,G,B,U,hn⟩
  ·refine .inl ⟨W,aF,⟨hd,?_⟩,Y⟩
   rcases X with⟨_,bs,u,wr,B,rest⟩|⟨V,_⟩
   ·exact .inl ⟨by unfold mP;rw[I];exact⟨s,J,by rw[E,h]⟩,bs,u,wr,D B,rest⟩
   ·simp[iO]at V
  ·exact .inr ⟨h0,hd,by unfold mP;rw[I];exact⟨s,J,by rw[E,h]⟩,bs,G,D B,U,hn⟩
 ·have h':b= !want:=by cases b<;>cases want<;>simp_all
  have :=off h'
  rw[<-h',same]at this
  unfold an
  refine .inl ⟨([],[]),_,⟨hd, .inr ⟨?_,rfl,rfl⟩⟩,this⟩
  unfold iO;rw[I];exact⟨s,J, .inl (by rw[E,h'])⟩
theorem mX{C:Ctx}{o:Oper}{nm:Nat}{v:Operand->SV}{x:Operand}{b:Array Operand}{X:Array TypeId}(Y:o.op= .call {callee:= .value x,args:=b,argTypes:=X}){f:FuncId}{aZ:List SV}(hx:v x= .fn f aZ)
  {fn:Func} (hf:C.P.funcs[f]? =some fn) (J:fE fn=true) {args:List SV} {k:List aB} {post:SV->List (Option aB)->Prop} (hF:Spec C.P C.G f args k post) (π:List Nat) (E:fZ v b.toList++aZ=gV π args)
  (side:(Nat.beq π.length k.length&&(bK π&&(aW k.length (k.map some)&&cS k.length args)))=true):
  bV C o nm v (gG π π k) (fun u wr=>∃ r ae B,post r ae/\B=π++ay nm (ae.length-k.length)/\u=du B r/\wr=c9 B B ae):=by
 simp only[Bool.and_eq_true]at side
 obtain⟨s1,s2,s3,s4⟩:=side
 have s1:=Nat.eq_of_beq_eq_true s1
 intro M F ρ a h w hv hG hH aa ah K Q hK
 have O:=hv x (by rw[Y];simp[Op.operands,Call.operands])
 rw[hx]at O
 obtain⟨vs,hq,av,al⟩:=jy O
 have U:=kA (M:=M) (ρ:=ρ) (a:=a) (v:=v) (xs:=b) (fun y hy=>hv y (by rw[Y];simp[Op.operands,Call.operands,hy]))
 have V:(execOp a.eval o).run C.P w= .ok (.enter f (b.map a.eval++vs)) w:=by
  simp only[fE,Bool.and_eq_true,Bool.not_eq_true']at J
  obtain⟨n1,n2⟩:=J
  have n1:fn.name≠ "runtime.NumGoroutine" :=by simpa using n1
  have n3:fn.body≠none:=by intro e;rw[e]at n2;cases n2
  simp[execOp,Y,resolve,hq,Deferred.ofValue,invoke,callFunc,hf,n1,n3]
 unfold Cr
 rw[V]
 have D:args.length=b.size+vs.size:=by
  have :=congrArg List.length E
  rw[List.length_append,cd,bM,Array.length_toList]at this
  omega
 refine(xU hF hG hH s1 s2 aa s3 s4 (vs:=b.map a.eval++vs) (by simp[D]) ?_ ah).mono ?_
 ·intro i y hy
  have I:(fZ v b.toList++aZ)[i]? =some (du π y):=by rw[E,dX,hy];rfl
  by_cases hi:i<b.size
  ·rw[List.getElem?_append_left (by rw[cd,Array.length_toList];exact hi)]at I
   obtain⟨u,u1,u2⟩:=U.2 i _ I
   exact⟨u,by rw[Array.getElem?_append_left (by simpa using hi)];exact u1,u2⟩
  ·rw[List.getElem?_append_right (by rw[cd,Array.length_toList];omega),cd,Array.length_toList]at I
   obtain⟨u,u1,u2⟩:=al _ _ I
   exact⟨u,by rw[Array.getElem?_append_right (by simp;omega)];simpa using u1,u2⟩
 ·rintro e w' ⟨M',aq,r,ae,u,B,rfl,W,h1,h2,h3,h4,h5,h6,h7⟩
  exact hK M' aq _ _ u w' h1 h2 h3 ⟨r,ae,B,h7,W,rfl,rfl⟩ h4 h5 h6
def fJ(h:ar):List (Nat×aB)->Prop
 | []=>True
 |(n,b)::r=>h n=some b/\fJ h r
theorem eW{h:ar}:∀ {l:List (Nat×aB)},fJ h l->∀ p,p∈l->h p.1=some p.2
 | [],_,p,e=>by cases e
 |(n,b)::r,hh,p,e=>by
  rcases List.mem_cons.1 e with rfl|e
  ·exact hh.1
  ·exact eW hh.2 p e
theorem pa{π:List Nat}{e:List aB}{nm:Nat}(hlen:π.length=e.length):∀ (ae:List (Option aB)),ae.length<=e.length+8->e.length<=ae.length->
  cC (gG π π e) nm (c9 (π++ay nm (ae.length-e.length)) (π++ay nm (ae.length-e.length)) ae)=true:=by
 intro ae I hle
 unfold cC
 rw[List.all_eq_true]
 intro p D
 obtain⟨i,b,k,J,O⟩:=sf _ _ p D
 by_cases E:i<π.length
 ·rw[List.getElem?_append_left E]at k
  obtain⟨j,B,G⟩:=gY (π:=π) π e hlen i _ (List.getElem?_eq_getElem (by omega))
  rw[k]at B;obtain rfl:=Option.some.inj B
  have :((gG π π e).any fun q=>Nat.beq q.1 p.1)=true:=by rw[List.any_eq_true];exact⟨_,G,by simp⟩
  rw[this];rfl
 ·rw[List.getElem?_append_right (by omega)]at k
  have v:i-π.length<ae.length-e.length:=by
   have :=(List.getElem?_eq_some_iff.1 k).1
   rw[cD]at this;exact this
  rw[cu _ _ _ v]at k
  have :=Option.some.inj k
  rw[<-this]
  simp;omega
theorem mY{C:Ctx}{ops:List Oper}{i:Nat}{o:Oper}{l:List Oper}{σ:St}{acc:Option (List FP)}{K:St->Prop}{x:Operand}{v:Array Operand}{D:Array TypeId}{f:FuncId}{aZ:List SV}{fn:Func}{args:List SV}{b:List aB}{r:SV}{ae:List (Option aB)}
  (π:List Nat) (V:Spec C.P C.G f args b (fun U E=>U=r/\E=ae)) (W:o.guard=none) (hd:aM C o=true) (E:o.op= .call {callee:= .value x,args:=v,argTypes:=D}) (X:bE C σ.t x= .fn f aZ) (Y:C.P.funcs[f]? =some fn) (I:fE fn=true)
  (B:fZ (bE C σ.t) v.toList++aZ=gV π args)
  (side:(Nat.beq π.length b.length&&(bK π&&(aW b.length (b.map some)&&cS b.length args)))=true)
  (e:(Nat.ble b.length ae.length&&Nat.ble ae.length (b.length+8))=true)
  (J:fJ σ.h (gG π π b))
  (k:an C ops (i+1) l (σ.app o.dst (du (π++ay (σ.nx+8*i) (ae.length-b.length)) r) (c9 (π++ay (σ.nx+8*i) (ae.length-b.length)) (π++ay (σ.nx+8*i) (ae.length-b.length)) ae))
   (acc.map (· ++ [((gG π π b).map (·.1),(c9 (π++ay (σ.nx+8*i) (ae.length-b.length)) (π++ay (σ.nx+8*i) (ae.length-b.length)) ae).map (·.1))])) K):an C ops i (o::l) σ acc K:=by
 have O:=mX (nm:=σ.nx+8*i) E X Y I V π B side
 simp only[Bool.and_eq_true]at side e
 refine cp W hd (fun M F ρ a h w h1 h2 h3 h4 h5 K Q hK=>O M F ρ a h w h1 h2 h3 h4 h5 K Q fun M' aq u wr u' w' g1 g2 g3 g4=>hK M' aq u wr u' w' g1 g2 g3 ?_) (eW J) (pa (Nat.eq_of_beq_eq_true side.1) ae (Nat.le_of_ble_eq_true e.2) (Nat.le_of_ble_eq_true e.1)) k
 obtain⟨U,aa,ah,⟨rfl,rfl⟩,rfl,rfl,rfl⟩:=g4
 exact⟨rfl,rfl⟩
theorem CI{C:Ctx}{ops:List Oper}{i:Nat}{o:Oper}{l:List Oper}{σ:St}{K:St->Prop}{x:Operand}{e:Array Operand}{B:Array TypeId}{f:FuncId}{aZ:List SV}{fn:Func}{args:List SV}{b:List aB}{post:SV->List (Option aB)->Prop}
  (π:List Nat) (J:Spec C.P C.G f args b post) (O:o.guard=none) (hd:aM C o=true) (U:o.op= .call {callee:= .value x,args:=e,argTypes:=B}) (V:bE C σ.t x= .fn f aZ) (W:C.P.funcs[f]? =some fn) (D:fE fn=true)
  (v:fZ (bE C σ.t) e.toList++aZ=gV π args)
  (side:(Nat.beq π.length b.length&&(bK π&&(aW b.length (b.map some)&&cS b.length args)))=true)
  (E:fJ σ.h (gG π π b))
  (k:∀ r ae,post r ae->an C ops (i+1) l (σ.app o.dst (du (π++ay (σ.nx+8*i) (ae.length-b.length)) r) (c9 (π++ay (σ.nx+8*i) (ae.length-b.length)) (π++ay (σ.nx+8*i) (ae.length-b.length)) ae)) none K):an C ops i (o::l) σ none K:=by
 have I:=mX (nm:=σ.nx+8*i) U V W D J π v side
 unfold an
 refine .inr ⟨rfl,hd,by simp[mP,O],_,_,I,eW E,?_⟩
 rintro u wr ⟨r,ae,X,Y,rfl,rfl,rfl⟩
 exact k r ae Y
theorem qo{C:Ctx}{c:Code}{Q:Exit->St->Prop}{σ:St}(s n len:Nat){ty k L:Nat}{f:Nat->Nat->D}(hs:σ.t s= .sl n 0 len)(hn:σ.h n=some (.rows ty k L f))(hl:len<=L)
  (h:W C c Q ⟨upd σ.t s (.d (.vec k len f)),upd σ.h n none,σ.nx⟩):W C c Q σ:=by
 intro M F pin ρ a w B
 have hv:=B.tm s
 rw[hs]at hv
 have G:=B.hr
 have key:∃ M',M.le M'/\HR M' F ρ (upd σ.h n none) w/\VR M' ρ (.d (.vec k len f)) (a.tmps.getD s undef):=by
  generalize hq:a.tmps.getD s undef=q at hv
  cases hv with
  |jo _ _ x V hR aa=>exact⟨M,aD.le_refl _,G.drop n, .d _ _ (.ie _ _ _ _)⟩
  |sl _ _ _ x V IK hR h0=>
   obtain⟨x',J,ah⟩:=G.live n _ hn
   rw[V]at J;obtain rfl:=Option.some.inj J
   rcases ah with⟨al,_⟩|⟨_,hM,hF,o,h3,X⟩
   ·omega
   cases o with
   |cells cur T fz=>
    obtain⟨rfl,rfl,g1,g2,g3,g4⟩:=X
    let M':aD:=fun b=>if b=x.b then some (.cells cur T (0,0))else M b
    have hle:M.le M':=by
     intro b o E
     have :b≠x.b:=by rintro rfl;rw[hM]at E;cases E
     simp[M',this,E]
    refine⟨M',hle,G.tB hle (fun m b hm=>?_) ?_ ?_ (fun m b y hm hy q0=>?_) (fun m S es hm b E=>?_), .d _ _ ?_⟩
    ·rw[az]at hm;split at hm
     ·cases hm
     ·exact hm
    ·intro b o E
     by_cases e:b=x.b
     ·subst e;simp[M']at E;subst E;exact h3
     ·simp[M',e]at E;exact G.fT b o E
    ·intro b o E
     have :b≠x.b:=by rintro rfl;rw[hF]at E;cases E
     simp[M',this];exact G.j9 b o E
    ·rw[az]at hm;split at hm
     ·cases hm
     ·next e=>
      obtain⟨y',O,ah⟩:=G.live m b hm
      rw[hy]at O;obtain rfl:=Option.some.inj O
      have :y.b≠x.b:=fun E=>e (G.sep m n y x (by rw[hm];simp) (by rw[hn];simp) hy V q0 h0 E)
      rcases ah with⟨al,_⟩|⟨_,q1,_⟩
      ·omega
      ·simp[M',this,q1]
    ·rw[az]at hm;split at hm
     ·cases hm
     ·obtain⟨_,_,_,g1,g2,_⟩:=G.fam m S es hm
      have :b≠x.b:=fun e=>g2 n x (by rw[hn];simp) V h0 (e▸E)
      simp[M',this,(g1 b E).1]
    ·subst g1
     have I:∀ i c,i<len->c<x.k->∃ v,cur[i*x.k+c]? =some v/\DR M (f i c) v:=fun i c Y U=>g4 i c (by omega) U
     refine .vec x.k len f x.b (0*x.k) _ cur T (0,0) (fun i c=>(cur[i*x.k+c]?).getD undef) (by simp[M']) (by omega) (fun i c Y U=>?_) (fun i c Y U=>?_)
     ·obtain⟨v,v1,_⟩:=I i c Y U
      rw[Nat.zero_mul,Nat.zero_add,v1];rfl
     ·obtain⟨v,v1,v2⟩:=I i c Y U
      simp only[v1,Option.getD_some];exact v2.mono hle
   |_=>exact X.elim
 obtain⟨M',hle,av,ax⟩:=key
 refine fj ?_ (h M' F pin ρ a w ⟨⟨fun j=>?_,B.sz,B.df,av,B.pn,B.pm,fun g ρ=>(B.gl g ρ).mono hle (Names.le_refl _)⟩,B.fr⟩)
 ·rintro e a' w' ⟨M2,a0,a1,h1,h2,h3,X⟩
  exact⟨M2,a0,a1,aD.le_trans hle h1,h2,h3,X⟩
 ·show VR M' ρ (upd σ.t s _ j) _
  rw[az]
  split
  ·next e=>subst e;exact ax
  ·exact(B.tm j).mono hle (Names.le_refl _)
theorem cs:(∀ (p:Prop) [Decidable p],(decide p=true)=p)/\(∀ (p:Prop) [Decidable p],(decide p=false)= ¬p)/\(∀ b:Bool,((!b)=true)=(b=false))/\(∀ b:Bool,((!b)=false)=(b=true))/\
  (∀ (α:Type) [BEq α] [LawfulBEq α] (a b:α),((a==b)=true)=(a=b))/\(∀ (α:Type) [BEq α] [LawfulBEq α] (a b:α),((a !=b)=true)= ¬(a=b))/\(∀ (α:Type) [BEq α] [LawfulBEq α] (a b:α),((a==b)=false)= ¬(a=b))/\(∀ (α:Type) [BEq α] [LawfulBEq α] (a b:α),((a !=b)=false)=(a=b))/\
  (∀ a b:Bool,((a&&b)=true)=(a=true/\b=true))/\(∀ a b:Bool,((a||b)=true)=(a=true\/b=true))/\(∀ a b:Bool,((a&&b)=false)=(a=false\/b=false))/\(∀ a b:Bool,((a||b)=false)=(a=false/\b=false))/\
  (∀ a b:Int,(a>=b)=(b<=a))/\(∀ a b:Int,(a>b)=(b<a))/\(∀ a b:Nat,(a>=b)=(b<=a))/\(∀ a b:Nat,(a>b)=(b<a))/\(∀ a b:Int,(¬a<b)=(b<=a))/\(∀ a b:Int,(¬a<=b)=(b<a))/\(∀ (p:Prop) [Decidable p],(¬¬p)=p):=
 ⟨fun p _=>propext decide_eq_true_iff,fun p _=>propext decide_eq_false_iff_not,fun b=>by cases b<;>simp,fun b=>by cases b<;>simp,fun α _ _ a b=>propext beq_iff_eq,fun α _ _ a b=>propext bne_iff_ne,fun α _ _ a b=>propext beq_eq_false_iff_ne,fun α _ _ a b=>propext bne_eq_false_iff_eq,
  fun a b=>by cases a<;>cases b<;>simp,fun a b=>by cases a<;>cases b<;>simp,fun a b=>by cases a<;>cases b<;>simp,fun a b=>by cases a<;>cases b<;>simp,fun a b=>rfl,fun a b=>rfl,fun a b=>rfl,fun a b=>rfl,fun a b=>propext Int.not_lt,fun a b=>propext Int.not_le,fun p _=>propext Decidable.not_not⟩
def SV.hd:SV->Option SV
 | .d (.val (.int k n))=>some (.d (.val (.int k n)))
 | .d (.val (.bool b))=>some (.d (.val (.bool b)))
 | .d (.val (.string s))=>some (.d (.val (.string s)))
 | .d (.val v)=>some (.d (.val v))
 | .d .any=>some (.d .any)
 | .d .bz=>some (.d .bz)
 | .d (.vec k l f)=>some (.d (.vec k l f))
 | .d (.pr p)=>some (.d (.pr p))
 | .any=>some .any
 | .vp k l f i c=>some (.vp k l f i c)
 | .ptr n i c=>some (.ptr n i c)
 | .sl n o l=>some (.sl n o l)
 | .cs n c l=>some (.cs n c l)
 | .op n b=>some (.op n b)
 | .map n=>some (.map n)
 | .fn f qs=>some (.fn f qs)
 | .agg xs=>some (.agg xs)
 | .bA xs=>some (.bA xs)
 | .iface t x=>some (.iface t x)
theorem SV.bD{x y:SV}(h:x.hd=some y):x=y:=by
 unfold SV.hd at h
 split at h<;>cases h<;>rfl
def rQ(h:ar):List (Nat×Option aB)->Option ar
 | []=>some h
 |(n,b)::r=>rQ (upd h n b) r
theorem ir:∀ {wr:List (Nat×Option aB)} {h h':ar},rQ h wr=some h'->dB h wr=h'
 | [],h,h',e=>by simp only[rQ,Option.some.injEq]at e;exact e
 |(n,b)::r,h,h',e=>by rw[dB];exact ir e
def gH(C:Ctx)(nm:Nat)(o:Oper)(v:Operand->SV)(h:ar):Option (Prop×List (Nat×aB)×SV×List (Nat×Option aB)×ar):=
 match GV C nm o v h with
 |some (vc,bs,u,wr)=>match u.hd,rQ h wr with
  |some u',some h'=>some (vc,bs,u',wr,h')
  |_,_=>none
 |none=>none
theorem dM{C:Ctx}{nm:Nat}{o:Oper}{v:Operand->SV}{h h':ar}{vc:Prop}{bs:List (Nat×aB)}{u:SV}{wr:List (Nat×Option aB)}(e:gH C nm o v h=some (vc,bs,u,wr,h')):GV C nm o v h=some (vc,bs,u,wr)/\dB h wr=h':=by
 unfold gH at e
 split at e
 ·next k B u' D b=>
  split at e
  ·next I J E G=>
   cases e
   rw[SV.bD E]at b
   exact⟨b,ir G⟩
  ·cases e
 ·cases e
section
variable {C:Ctx} {ops:List Oper} {i:Nat} {o:Oper} {l:List Oper} {t:Nat->SV} {h h':ar} {nx:Nat} {K:St->Prop} {vc:Prop} {bs:List (Nat×aB)} {u:SV} {wr:List (Nat×Option aB)}
theorem s1(d nm D:Nat)(E:i+1=D)(v:nx+8*i=nm)(G:o.guard=none)(b:o.dst=some d)(hd:Nat.blt d C.sz=true)(e:gH C nm o (bE C t) h=some (vc,bs,u,wr,h'))(B:vc)
  (k:an C ops D l ⟨upd t d u,h',nx⟩ none K):an C ops i (o::l) ⟨t,h,nx⟩ none K:=by
 subst E;subst v
 obtain⟨e1,I⟩:=dM e
 refine st (σ:=⟨t,h,nx⟩) G (by unfold aM;rw[b];exact hd) e1 B ?_
 unfold St.app;rw[b,I];exact k
theorem s0(nm D:Nat)(E:i+1=D)(v:nx+8*i=nm)(G:o.guard=none)(b:o.dst=none)(e:gH C nm o (bE C t) h=some (vc,bs,u,wr,h'))(B:vc)
  (k:an C ops D l ⟨t,h',nx⟩ none K):an C ops i (o::l) ⟨t,h,nx⟩ none K:=by
 subst E;subst v
 obtain⟨e1,I⟩:=dM e
 refine st (σ:=⟨t,h,nx⟩) G (by unfold aM;rw[b]) e1 B ?_
 unfold St.app;rw[b,I];exact k
variable {acc:List FP}
theorem d1(d nm D:Nat)(E:i+1=D)(v:nx+8*i=nm)(G:o.guard=none)(b:o.dst=some d)(hd:Nat.blt d C.sz=true)(e:gH C nm o (bE C t) h=some (vc,bs,u,wr,h'))(B:vc)
  (k:an C ops D l ⟨upd t d u,h',nx⟩ (some (acc++ [(bs.map (·.1),wr.map (·.1))])) K):an C ops i (o::l) ⟨t,h,nx⟩ (some acc) K:=by
 subst E;subst v
 obtain⟨e1,I⟩:=dM e
 refine st (σ:=⟨t,h,nx⟩) G (by unfold aM;rw[b];exact hd) e1 B ?_
 unfold St.app;rw[b,I];exact k
theorem d0(nm D:Nat)(E:i+1=D)(v:nx+8*i=nm)(G:o.guard=none)(b:o.dst=none)(e:gH C nm o (bE C t) h=some (vc,bs,u,wr,h'))(B:vc)
  (k:an C ops D l ⟨t,h',nx⟩ (some (acc++ [(bs.map (·.1),wr.map (·.1))])) K):an C ops i (o::l) ⟨t,h,nx⟩ (some acc) K:=by
 subst E;subst v
 obtain⟨e1,I⟩:=dM e
 refine st (σ:=⟨t,h,nx⟩) G (by unfold aM;rw[b]) e1 B ?_
 unfold St.app;rw[b,I];exact k
theorem g1{A:Option (List FP)}(j:Nat)(want:Bool)(s d:Nat)(k:Nat)(E:i+1=k)(v:o.guard=some (j,want))(B:eD ops j=some s)(D:t s=SV.b want)(hd:aM C o=true)
  (on:an C ops i ({o with guard:=none}::l) ⟨upd t s (SV.b want),h,nx⟩ A K):an C ops i (o::l) ⟨t,h,nx⟩ A K:=by
 refine kC (σ:=⟨t,h,nx⟩) v B D (fun _=>on) (fun e=>?_) hd
 cases want<;>simp at e
theorem g0{A:Option (List FP)}(j:Nat)(want:Bool)(s d:Nat)(B:Nat)(E:i+1=B)(G:o.guard=some (j,want))(I:eD ops j=some s)(D:t s=SV.b (!want))(v:o.dst=some d)(hd:Nat.blt d C.sz=true)
  (off:an C ops B l ⟨upd t d (.bA []),h,nx⟩ (A.map (· ++ [([],[])])) K):an C ops i (o::l) ⟨t,h,nx⟩ A K:=by
 subst E
 have same:upd t s (SV.b (!want))=t:=by
  funext k;rw[az];split
  ·next e=>subst e;exact D.symm
  ·rfl
 refine kC (σ:=⟨t,h,nx⟩) G I D (fun e=>?_) (fun _=>?_) (by unfold aM;rw[v];exact hd)
 ·cases want<;>simp at e
 ·unfold St.app;rw[same,v];exact off
theorem gz{A:Option (List FP)}(j:Nat)(want:Bool)(s d:Nat)(e:Nat)(k:i+1=e)(v:o.guard=some (j,want))(B:eD ops j=some s)(D:t s= .bA [])(b:o.dst=some d)(hd:Nat.blt d C.sz=true)
  (off:an C ops e l ⟨upd t d (.bA []),h,nx⟩ (A.map (· ++ [([],[])])) K):an C ops i (o::l) ⟨t,h,nx⟩ A K:=by
 subst k
 unfold an
 refine .inl ⟨([],[]),_,⟨by unfold aM;rw[b];exact hd, .inr ⟨?_,rfl,rfl⟩⟩,?_⟩
 ·unfold iO;rw[v];exact⟨s,B, .inr D⟩
 ·unfold St.app;rw[b];exact off
theorem ask{A:Option (List FP)}(s:Nat){b:Bool}(v:(t s).hd=some (SV.b b))(on:b=true->an C ops i l ⟨upd t s (SV.b true),h,nx⟩ A K)(off:b=false->an C ops i l ⟨upd t s (SV.b false),h,nx⟩ A K):an C ops i l ⟨t,h,nx⟩ A K:=by
 have v:=SV.bD v
 have same:upd t s (SV.b b)=t:=by
  funext k;rw[az];split
  ·next e=>subst e;exact v.symm
  ·rfl
 cases b with
 |true=>rw[<-same];exact on rfl
 |false=>rw[<-same];exact off rfl
theorem c1{f:FuncId}{args:List SV}{b:List aB}{r:SV}{ae:List (Option aB)}(Y:Spec C.P C.G f args b (fun I J=>I=r/\J=ae)){x:Operand}{e:Array Operand}{O:Array TypeId}{aZ:List SV}{fn:Func}{I:SV}
  (π v:List Nat) (d nm X:Nat) (hi:i+1=X) (U:nx+8*i=nm) (hp:π++ay nm (ae.length-b.length)=v) (hg:o.guard=none) (B:o.dst=some d) (hd:Nat.blt d C.sz=true) (J:o.op= .call {callee:= .value x,args:=e,argTypes:=O}) (hx:bE C t x= .fn f aZ) (hf:C.P.funcs[f]? =some fn) (V:fE fn=true)
  (D:fZ (bE C t) e.toList++aZ=gV π args) (side:(Nat.beq π.length b.length&&(bK π&&(aW b.length (b.map some)&&cS b.length args)))=true)
  (E:(Nat.ble b.length ae.length&&Nat.ble ae.length (b.length+8))=true) (W:fJ h (gG π π b)) (hr:(du v r).hd=some I) (hw:rQ h (c9 v v ae)=some h')
  (k:an C ops X l ⟨upd t d I,h',nx⟩ none K):an C ops i (o::l) ⟨t,h,nx⟩ none K:=by
 subst hi;subst U;subst hp
 refine mY (σ:=⟨t,h,nx⟩) π Y hg (by unfold aM;rw[B];exact hd) J hx hf V D side E W ?_
 unfold St.app;rw[B,SV.bD hr,ir hw];exact k
theorem Fg{f:FuncId}{args:List SV}{b:List aB}{r:SV}{ae:List (Option aB)}(Y:Spec C.P C.G f args b (fun I J=>I=r/\J=ae)){x:Operand}{v:Array Operand}{O:Array TypeId}{aZ:List SV}{fn:Func}{I:SV}
  (π e:List Nat) (d nm X:Nat) (hi:i+1=X) (U:nx+8*i=nm) (hp:π++ay nm (ae.length-b.length)=e) (hg:o.guard=none) (B:o.dst=some d) (hd:Nat.blt d C.sz=true) (J:o.op= .call {callee:= .value x,args:=v,argTypes:=O}) (hx:bE C t x= .fn f aZ) (hf:C.P.funcs[f]? =some fn) (V:fE fn=true)
  (D:fZ (bE C t) v.toList++aZ=gV π args) (side:(Nat.beq π.length b.length&&(bK π&&(aW b.length (b.map some)&&cS b.length args)))=true)
  (E:(Nat.ble b.length ae.length&&Nat.ble ae.length (b.length+8))=true) (W:fJ h (gG π π b)) (hr:(du e r).hd=some I) (hw:rQ h (c9 e e ae)=some h')
  (k:an C ops X l ⟨upd t d I,h',nx⟩ (some (acc++ [((gG π π b).map (·.1),(c9 e e ae).map (·.1))])) K):an C ops i (o::l) ⟨t,h,nx⟩ (some acc) K:=by
 subst hi;subst U;subst hp
 refine mY (σ:=⟨t,h,nx⟩) π Y hg (by unfold aM;rw[B];exact hd) J hx hf V D side E W ?_
 unfold St.app;rw[B,SV.bD hr,ir hw];exact k
theorem e1(b:Nat)(e:nx+8*ops.length=b)(k:K ⟨t,h,b⟩):an C ops i [] ⟨t,h,nx⟩ none K:=by subst e;exact⟨trivial,k⟩
theorem iT(b:Nat)(e:nx+8*ops.length=b)(v:p8 ops acc=true)(k:K ⟨t,h,b⟩):an C ops i [] ⟨t,h,nx⟩ (some acc) K:=by subst e;exact⟨v,k⟩
end
section
variable {C:Ctx} {Q:Exit->St->Prop} {σ:St}
theorem r1{id:Nat}{ops:Array Oper}{y:Code}(k:an C ops.toList 0 ops.toList σ none (fun aF=>W C y Q aF))(b:nU C.P [] ops=true:=by kernel_rfl):W C (.seq (.region id ops false) y) Q σ:=ai (fX b k)
theorem r0{id:Nat}{ops:Array Oper}(k:an C ops.toList 0 ops.toList σ none (fun aF=>Q .normal aF))(b:nU C.P [] ops=true:=by kernel_rfl):W C (.region id ops false) Q σ:=fX b k
theorem kD{id:Nat}{ops:Array Oper}{y:Code}(hm:C.P.follows .mixedOrders=true)(k:an C ops.toList 0 ops.toList σ (some []) (fun aF=>W C y Q aF))(b:iC C.P ops=true:=by kernel_rfl):W C (.seq (.region id ops true) y) Q σ:=ai (dI hm b k)
theorem rd0{id:Nat}{ops:Array Oper}(hm:C.P.follows .mixedOrders=true)(k:an C ops.toList 0 ops.toList σ (some []) (fun aF=>Q .normal aF))(b:iC C.P ops=true:=by kernel_rfl):W C (.region id ops true) Q σ:=dI hm b k
theorem Fz{C:Ctx}{t:Nat->SV}{s:Tmp}{f:FuncId}{aZ:List SV}{fn:Func}(h:t s= .fn f aZ)(e:C.P.funcs[f]? =some fn)(b:fE fn=true):vw C [s] t:=fun x k=>by
 obtain rfl:x=s:=by simpa using k
 exact⟨f,aZ,fn,h,e,b⟩
theorem Js{id:Nat}{ops:Array Oper}{y:Code}(T:List Tmp)(b:vw C T σ.t)(e:nU C.P T ops=true)(k:an C ops.toList 0 ops.toList σ none (fun aF=>W C y Q aF)):W C (.seq (.region id ops false) y) Q σ:=ai (se T b e k)
theorem tn{K:St->Prop}(k:K σ):il K Q .normal σ:=k
theorem tx{K:St->Prop}{id:Nat}(k:Q (.exit id) σ):il K Q (.exit id) σ:=k
theorem tr{K:St->Prop}(k:Q .ret σ):il K Q .ret σ:=k
theorem bn{id:Nat}(k:Q .normal σ):eJ id Q .normal σ:=k
theorem bx{id:Nat}(k:Q .normal σ):eJ id Q (.exit id) σ:=by simp only[eJ,if_true];exact k
theorem bo{id b:Nat}(v:Nat.beq b id=false)(k:Q (.exit b) σ):eJ id Q (.exit b) σ:=by
 simp only[eJ];rw[if_neg (fun e=>by subst e;simp at v)];exact k
theorem br{id:Nat}(k:Q .ret σ):eJ id Q .ret σ:=k
theorem q1{t:Nat->SV}{h:ar}{nx:Nat}{c:Operand}{x y:Code}{b:Bool}(e:(bE C t c).hd=some (SV.b b))(k:b=true->W C x Q ⟨t,h,nx⟩)(v:b=false->W C y Q ⟨t,h,nx⟩):W C (.cond c x y) Q ⟨t,h,nx⟩:=
 xS (σ:=⟨t,h,nx⟩) (SV.bD e) k v
def mZ(t:Nat->SV):List Nat->Option (List (Nat×SV))
 | []=>some []
 |k::r=>match(t k).hd,mZ t r with
  |some u,some l=>some ((k,u)::l)
  |_,_=>none
theorem iU{t:Nat->SV}:∀ {b:List Nat} {l:List (Nat×SV)},mZ t b=some l->∀ n,dG l n= .any\/dG l n=t n
 | [],l,e,n=>by simp[mZ]at e;subst e;exact .inl rfl
 |k::r,l,e,n=>by
  simp only[mZ]at e
  split at e
  ·next u D v hl=>
   cases e
   simp only[dG]
   cases B:Nat.beq n k with
   |true=>have :=Nat.eq_of_beq_eq_true B;subst this;exact .inr (SV.bD v).symm
   |false=>exact iU hl n
  ·cases e
theorem ab{t:Nat->SV}{h:ar}{nx:Nat}{c:Code}(v:List Nat){l:List (Nat×SV)}(e:mZ t v=some l)(k:W C c Q ⟨dG l,h,nx⟩):W C c Q ⟨t,h,nx⟩:=by
 intro M F pin ρ a w b
 refine k M F pin ρ a w ⟨⟨fun n=>?_,b.sz,b.df,b.hr,b.pn,b.pm,b.gl⟩,b.fr⟩
 rcases iU e n with h|h
 ·show VR M ρ (dG l n) _;rw[h];exact .any _
 ·show VR M ρ (dG l n) _;rw[h];exact b.tm n
end
theorem start{P:Program}{G:Nat->SV}{f:FuncId}{fn:Func}{c:Code}{args:List SV}{b:List aB}{post:SV->List (Option aB)->Prop}(e m:Nat)(v:P.funcs[f]? =some fn)(B:fn.body=some c)(k:fn.ntmps=e)(hm:b.length=m)
  (D:Nat.ble args.length e=true) (h:W ⟨P,e,m,G⟩ c (iP ⟨P,e,m,G⟩ fn post) ⟨dG (iE 0 args),dC (b.map some),m⟩):Spec P G f args b post:=by
 subst k;subst hm
 refine qa v B D ?_
 unfold fg
 rw[List.length_map]
 exact h
def aj(n:Int):Prop:= -9223372036854775808<=n/\n<=9223372036854775807
theorem dP{n:Int}(h:aj n):IntKind.i64.wrap n=n:=by rw[IntKind.wrap_i64];unfold aj at h;omega
def arith:BinOp->Int->Int->Option Int
 | .add,a,b=>some (a+b)
 | .sub,a,b=>some (a-b)
 | .mul,a,b=>some (a*b)
 |_,_,_=>none
theorem qp{C:Ctx}{o:Oper}{nm:Nat}{v:Operand->SV}{op:BinOp}{ty e:TypeId}{y z:Operand}{a b r:Int}(k:o.op= .binOp op ty y z e)(B:(v y).hd=some (SV.i a))(D:(v z).hd=some (SV.i b))(E:arith op a b=some r)(G:aj r):
  bV C o nm v [] (fun x w=>x=SV.i r/\w= []):=by
 have B:=SV.bD B
 have D:=SV.bD D
 refine aJ fun M F ρ U h w I V _=>⟨.int .i64 r,?_, .d _ _ (.val _ rfl)⟩
 have e1:=I y (by rw[k];exact aP (.inl rfl));rw[B]at e1
 have J:=I z (by rw[k];exact aP (.inr rfl));rw[D]at J
 have O:=dP G
 cases op<;>simp only[arith,Option.some.injEq]at E<;>first|(cases E;done)|(subst E;simp[execOp,k,e1.val,J.val,eqGuard,binOp,Op.intArith,O])
def n9:BinOp->Int->Int->Option Int
 | .quo,a,b=>some (a/b)
 | .rem,a,b=>some (a%b)
 |_,_,_=>none
theorem sk{C:Ctx}{o:Oper}{nm:Nat}{v:Operand->SV}{op:BinOp}{ty k:TypeId}{y z:Operand}{a b r:Int}(B:o.op= .binOp op ty y z k)(D:(v y).hd=some (SV.i a))(E:(v z).hd=some (SV.i b))(G:n9 op a b=some r)(I:0<=a/\a<=9223372036854775807/\0<b):
  bV C o nm v [] (fun x w=>x=SV.i r/\w= []):=by
 have D:=SV.bD D
 have E:=SV.bD E
 obtain⟨e,Y,U⟩:=I
 refine aJ fun M F ρ a' h w J hH _=>⟨.int .i64 r,?_, .d _ _ (.val _ rfl)⟩
 have e1:=J y (by rw[B];exact aP (.inl rfl));rw[D]at e1
 have O:=J z (by rw[B];exact aP (.inr rfl));rw[E]at O
 have V:b≠0:=by omega
 have q1:a.tdiv b=a/b:=Int.tdiv_eq_ediv_of_nonneg e
 have W:a.tmod b=a%b:=Int.tmod_eq_emod_of_nonneg e
 have X:IntKind.i64.wrap (a/b)=a/b:=by
  refine dP ⟨?_,?_⟩
  ·have :=Int.ediv_nonneg e (Int.le_of_lt U);omega
  ·have :=Int.ediv_le_self b e;omega
 cases op<;>simp only[n9,Option.some.injEq]at G<;>first|(cases G;done)|(subst G;simp[execOp,B,e1.val,O.val,eqGuard,binOp,Op.intDiv,V,q1,W,X])
section
variable {C:Ctx} {ops:List Oper} {i:Nat} {o:Oper} {l:List Oper} {t:Nat->SV} {h h':ar} {nx:Nat} {K:St->Prop} {acc:List FP}
theorem sA{op:BinOp}{ty v:TypeId}{y z:Operand}{a b r:Int}(d nm E:Nat)(G:i+1=E)(B:nx+8*i=nm)(I:o.guard=none)(e:o.dst=some d)(hd:Nat.blt d C.sz=true)(J:o.op= .binOp op ty y z v)
  (O:(bE C t y).hd=some (SV.i a)) (U:(bE C t z).hd=some (SV.i b)) (V:arith op a b=some r) (D:aj r) (k:an C ops E l ⟨upd t d (SV.i r),h,nx⟩ none K):an C ops i (o::l) ⟨t,h,nx⟩ none K:=by
 subst G;subst B
 refine cp (σ:=⟨t,h,nx⟩) I (by unfold aM;rw[e];exact hd) (qp J O U V D) (fun p W=>by cases W) rfl ?_
 unfold St.app;rw[e];exact k
theorem dA{op:BinOp}{ty v:TypeId}{y z:Operand}{a b r:Int}(d nm E:Nat)(G:i+1=E)(B:nx+8*i=nm)(I:o.guard=none)(e:o.dst=some d)(hd:Nat.blt d C.sz=true)(J:o.op= .binOp op ty y z v)
  (O:(bE C t y).hd=some (SV.i a)) (U:(bE C t z).hd=some (SV.i b)) (V:arith op a b=some r) (D:aj r) (k:an C ops E l ⟨upd t d (SV.i r),h,nx⟩ (some (acc++ [([],[])])) K):an C ops i (o::l) ⟨t,h,nx⟩ (some acc) K:=by
 subst G;subst B
 refine cp (σ:=⟨t,h,nx⟩) I (by unfold aM;rw[e];exact hd) (qp J O U V D) (fun p W=>by cases W) rfl ?_
 unfold St.app;rw[e];exact k
theorem sD{op:BinOp}{ty v:TypeId}{y z:Operand}{a b r:Int}(d nm E:Nat)(G:i+1=E)(B:nx+8*i=nm)(I:o.guard=none)(e:o.dst=some d)(hd:Nat.blt d C.sz=true)(J:o.op= .binOp op ty y z v)
  (O:(bE C t y).hd=some (SV.i a)) (U:(bE C t z).hd=some (SV.i b)) (V:n9 op a b=some r) (D:0<=a/\a<=9223372036854775807/\0<b) (k:an C ops E l ⟨upd t d (SV.i r),h,nx⟩ none K):an C ops i (o::l) ⟨t,h,nx⟩ none K:=by
 subst G;subst B
 refine cp (σ:=⟨t,h,nx⟩) I (by unfold aM;rw[e];exact hd) (sk J O U V D) (fun p W=>by cases W) rfl ?_
 unfold St.app;rw[e];exact k
theorem val{A:Option (List FP)}(s:Nat)(u:SV){b:SV}(v:(t s).hd=some b)(B:b=u)(k:an C ops i l ⟨upd t s u,h,nx⟩ A K):an C ops i l ⟨t,h,nx⟩ A K:=by
 have same:upd t s u=t:=by
  funext n;rw[az];split
  ·next e=>subst e;rw[SV.bD v,B]
  ·rfl
 rw[<-same];exact k
theorem kg{A:Option (List FP)}(n:Nat)(b:aB)(v:h n=some b)(b':aB)(B:b=b')(k:an C ops i l ⟨t,upd h n (some b'),nx⟩ A K):an C ops i l ⟨t,h,nx⟩ A K:=by
 have same:upd h n (some b')=h:=by
  funext m;rw[az];split
  ·next e=>subst e;rw[v,B]
  ·rfl
 rw[<-same];exact k
end
section
variable {C:Ctx} {Q:Exit->St->Prop} {σ:St}
theorem loop{c:Code}{t:Nat->SV}{h:ar}{nx:Nat}{α:Type}(m:Nat)(tl:α->List (Nat×SV))(hl:α->List (Option aB))(I:α->Prop)(e:α->Nat)(x0:α)(π:List Nat)(hm:∀ x,(hl x).length=m)
  (v:I x0) (k:(Nat.beq π.length (hl x0).length&&(bK π&&(gW C.m π&&(eE (hl x0).length (tl x0)&&aW (hl x0).length (hl x0)))))=true) (B:AN π t (tl x0)) (D:hSub π π h (hl x0))
  (round:∀ x,I x->W C c (il (fun aF=>∃ b π,I b/\e b<e x/\Sub C π aF (tl b) (hl b)) Q) ⟨dG (tl x),dC (hl x),m⟩):W C (.loop c) Q ⟨t,h,nx⟩:=by
 refine xT tl hl I e x0 π v ⟨k,B,D⟩ fun x E=>?_
 have :=round x E
 rw[<-hm x]at this
 exact this
theorem again{t:Nat->SV}{h:ar}{nx:Nat}{α:Type}{tl:α->List (Nat×SV)}{hl:α->List (Option aB)}{I:α->Prop}{e:α->Nat}{x:α}(b:α)(π:List Nat)(B:I b)(k:e b<e x)
 (v:(Nat.beq π.length (hl b).length&&(bK π&&(gW C.m π&&(eE (hl b).length (tl b)&&aW (hl b).length (hl b)))))=true) (D:AN π t (tl b)) (E:hSub π π h (hl b)):
 ∃ b π,I b/\e b<e x/\Sub C π ⟨t,h,nx⟩ (tl b) (hl b):=⟨b,π,B,k,v,D,E⟩
theorem fV{c:Code}{t:Nat->SV}{h:ar}{nx:Nat}(s ty k:Nat)(f:Nat->Nat->D)(I:(t s).hd=some (.d .bz))(J:W C c Q ⟨upd t s (.sl nx 0 0),upd h nx (some (.rows ty k 0 f)),nx+8⟩):W C c Q ⟨t,h,nx⟩:=by
 intro M F pin ρ a w b
 have v:=b.tm s
 rw[show(⟨t,h,nx⟩:St).t s= .d .bz from SV.bD I]at v
 have B:∀ n,nx<=n->n<nx+8->ρ n=none:=fun n O _=>b.fr n O
 obtain⟨aq,G,U,V,X⟩:=b.hr.ghost B ty k f
 refine J M F pin aq a w ⟨⟨fun n=>?_,b.sz,b.df,X,Names.le_trans b.pn G,b.pm,b.gl⟩,fun n Y=>?_⟩
 ·show VR M aq (upd t s _ n) _
  rw[az]
  split
  ·next e=>
   subst e
   generalize hq:a.tmps.getD n undef=q at v
   cases v with |d _ _ hd=>cases hd with |bz aa=>exact .jo nx 0 _ V rfl aa
  ·exact(b.tm n).mono (aD.le_refl _) G
 ·have E:nx+8<=n:=Y
  rw[U n (.inr E)];exact b.fr n (by show nx<=n;omega)
theorem freeze{c:Code}{t:Nat->SV}{h:ar}{nx:Nat}(s n len:Nat){ty k L:Nat}{f:Nat->Nat->D}(b:(t s).hd=some (.sl n 0 len))(e:h n=some (.rows ty k L f))(hl:len<=L)
  (v:W C c Q ⟨upd t s (.d (.vec k len f)),upd h n none,nx⟩):W C c Q ⟨t,h,nx⟩:=
 qo (σ:=⟨t,h,nx⟩) s n len (SV.bD b) e hl v
theorem cB{c:Code}{t:Nat->SV}{h:ar}{nx:Nat}(s:Nat)(u:SV){b:SV}(v:(t s).hd=some b)(B:b=u)(k:W C c Q ⟨upd t s u,h,nx⟩):W C c Q ⟨t,h,nx⟩:=by
 have same:upd t s u=t:=by
  funext n;rw[az];split
  ·next e=>subst e;rw[SV.bD v,B]
  ·rfl
 rw[<-same];exact k
theorem bW{c:Code}{t:Nat->SV}{h:ar}{nx:Nat}(n:Nat)(b':aB){b:aB}(v:h n=some b)(B:b=b')(k:W C c Q ⟨t,upd h n (some b'),nx⟩):W C c Q ⟨t,h,nx⟩:=by
 have same:upd h n (some b')=h:=by
  funext m;rw[az];split
  ·next e=>subst e;rw[v,B]
  ·rfl
 rw[<-same];exact k
end
section
variable {C:Ctx} {fn:Func} {post:SV->List (Option aB)->Prop} {t:Nat->SV} {h:ar} {nx:Nat}
theorem oa{π:List Nat}{ae:List (Option aB)}(b:fn.results= #[])(e:dY C.m (.bA []) ae=true)(hS:(Nat.beq π.length ae.length&&(bK π&&(gW C.m π&&(eE ae.length []&&aW ae.length ae))))=true)
  (k:hSub π π h ae) (v:post (.bA []) ae):iP C fn post .ret ⟨t,h,nx⟩:=
 ⟨π,_, .bA [],ae,IJ b,rfl,e,⟨hS,trivial,k⟩,v⟩
theorem bm(s:Nat){π:List Nat}(r:SV){ae:List (Option aB)}{u:SV}(b:fn.results= #[.tmp s])(k:(t s).hd=some u)(v:u=du π r)(e:dY C.m r ae=true)(hS:(Nat.beq π.length ae.length&&(bK π&&(gW C.m π&&(eE ae.length []&&aW ae.length ae))))=true)
  (B:hSub π π h ae) (D:post r ae):iP C fn post .ret ⟨t,h,nx⟩:=
 ⟨π,t s,r,ae,II b,by rw[SV.bD k,v],e,⟨hS,trivial,B⟩,D⟩
theorem eF(s1 k:Nat){π:List Nat}(r1 e:SV){ae:List (Option aB)}{I J:SV}(b:fn.results= #[.tmp s1, .tmp k])(v:(t s1).hd=some I)(B:(t k).hd=some J)(D:I=du π r1)(E:J=du π e)(G:dY C.m (.bA [r1,e]) ae=true)
  (hS:(Nat.beq π.length ae.length&&(bK π&&(gW C.m π&&(eE ae.length []&&aW ae.length ae))))=true) (O:hSub π π h ae) (U:post (.bA [r1,e]) ae):iP C fn post .ret ⟨t,h,nx⟩:=
 ⟨π, .bA [t s1,t k], .bA [r1,e],ae,Hm b,by rw[SV.bD v,SV.bD B,D,E];rfl,G,⟨hS,trivial,O⟩,U⟩
theorem FA(s1 v B:Nat){π:List Nat}(r1 e k:SV){ae:List (Option aB)}{V W X:SV}(b:fn.results= #[.tmp s1, .tmp v, .tmp B])(D:(t s1).hd=some V)(E:(t v).hd=some W)(G:(t B).hd=some X)(I:V=du π r1)(J:W=du π e)(O:X=du π k)(U:dY C.m (.bA [r1,e,k]) ae=true)
  (hS:(Nat.beq π.length ae.length&&(bK π&&(gW C.m π&&(eE ae.length []&&aW ae.length ae))))=true) (Y:hSub π π h ae) (hp:post (.bA [r1,e,k]) ae):iP C fn post .ret ⟨t,h,nx⟩:=
 ⟨π, .bA [t s1,t v,t B], .bA [r1,e,k],ae,JE b,by rw[SV.bD D,SV.bD E,SV.bD G,I,J,O];rfl,U,⟨hS,trivial,Y⟩,hp⟩
end
theorem JH{C:Ctx}{c:Code}{Q:Exit->St->Prop}{t v:Nat->SV}{h:ar}{nx:Nat}(B:∀ k,t k= .any\/t k=v k)(D:W C c Q ⟨t,h,nx⟩):W C c Q ⟨v,h,nx⟩:=by
 intro M F pin ρ a w b
 refine D M F pin ρ a w ⟨⟨fun n=>?_,b.sz,b.df,b.hr,b.pn,b.pm,b.gl⟩,b.fr⟩
 rcases B n with e|e
 ·show VR M ρ (t n) _;rw[e];exact .any _
 ·show VR M ρ (t n) _;rw[e];exact b.tm n
theorem Ht{C:Ctx}{t b:Nat->SV}(e:∀ k,t k= .any\/t k=b k)(x:Operand):bE C t x= .any\/bE C t x=bE C b x:=by
 cases x with
 |tmp k=>exact e k
 |const v=>cases v<;>first|exact .inr rfl|(rename_i a l c;cases a<;>cases l<;>cases c<;>exact .inr rfl)
 |global g=>exact .inr rfl
 |func f=>exact .inr rfl
theorem zr{C:Ctx}{o:Oper}{nm:Nat}{t b:Nat->SV}{bs:List (Nat×aB)}{v:SV->List (Nat×Option aB)->Prop}(B:∀ k,t k= .any\/t k=b k)(h:bV C o nm (bE C t) bs v):bV C o nm (bE C b) bs v:=by
 intro M F ρ a D w E
 refine h M F ρ a D w fun x G=>?_
 rcases Ht (C:=C) B x with e|e
 ·rw[e];exact .any _
 ·rw[e];exact E x G
theorem zt{C:Ctx}{ops:List Oper}{y:Code}{Q:Exit->St->Prop}:∀ (l:List Oper) (i:Nat) (σ:St) (D:Nat->SV) (acc:Option (List FP)),(∀ k,σ.t k= .any\/σ.t k=D k)->
  an C ops i l σ acc (fun σ=>W C y Q σ)->an C ops i l ⟨D,σ.h,σ.nx⟩ acc (fun σ=>W C y Q σ):=by
 intro l
 induction l with
 |nil=>
  intro i σ D acc E h
  obtain⟨X,Y⟩:=h
  exact⟨X,JH E Y⟩
 |cons o l U=>
  intro i σ D acc E h
  have v:∀ (d:Option Tmp) (u:SV) (wr:List (Nat×Option aB)) (k:Nat),(σ.app d u wr).t k= .any\/(σ.app d u wr).t k=(St.app ⟨D,σ.h,σ.nx⟩ d u wr).t k:=by
   intro d u wr k
   cases d with
   |none=>exact E k
   |some d=>
    show upd σ.t d u k= .any\/upd σ.t d u k=upd D d u k
    rw[az,az]
    split
    ·exact .inr rfl
    ·exact E k
  have J:mP ops σ.t o->mP ops D o:=by
   intro b
   unfold mP at *
   cases e:o.guard with
   |none=>trivial
   |some p=>
    obtain⟨j,want⟩:=p
    rw[e]at b
    obtain⟨s,s1,B⟩:=b
    refine⟨s,s1,?_⟩
    rcases E s with h|h
    ·rw[h]at B;cases B
    ·rw[<-h];exact B
  have O:iO ops σ.t o->iO ops D o:=by
   intro b
   unfold iO at *
   cases e:o.guard with
   |none=>rw[e]at b;exact b
   |some p=>
    obtain⟨j,want⟩:=p
    rw[e]at b
    obtain⟨s,s1,B⟩:=b
    refine⟨s,s1,?_⟩
    rcases E s with h|h
    ·rw[h]at B;rcases B with B|B<;>cases B
    ·rw[<-h];exact B
  unfold an at h ⊢
  rcases h with⟨fp,aF,⟨hd,hD⟩,V⟩|⟨h0,hd,b,bs,RS,G,I,hn⟩
  ·refine .inl ⟨fp,?_⟩
   rcases hD with⟨b,bs,u,wr,G,I,hk,rfl,rfl⟩|⟨b,rfl,rfl⟩
   ·exact⟨_,⟨hd, .inl ⟨J b,bs,u,wr,zr E G,I,hk,rfl,rfl⟩⟩,U (i+1) (σ.app o.dst u wr) _ _ (v o.dst u wr) V⟩
   ·exact⟨_,⟨hd, .inr ⟨O b,rfl,rfl⟩⟩,U (i+1) (σ.app o.dst (.bA []) []) _ _ (v o.dst (.bA []) []) V⟩
  ·exact .inr ⟨h0,hd,J b,bs,RS,zr E G,I,fun u wr hR=>U (i+1) (σ.app o.dst u wr) _ _ (v o.dst u wr) (hn u wr hR)⟩
def JI(t:Nat->SV):List (Nat×SV)->Prop
 | []=>True
 |(k,v)::r=>(t k).hd=some v/\JI t r
theorem zu{t:Nat->SV}:∀ {l:List (Nat×SV)},JI t l->∀ k,dG l k= .any\/dG l k=t k
 | [],_,k=> .inl rfl
 |(k',v)::r,h,k=>by
  simp only[dG]
  cases e:Nat.beq k k' with
  |true=>have :=Nat.eq_of_beq_eq_true e;subst this;exact .inr (SV.bD h.1).symm
  |false=>exact zu h.2 k
theorem pb{C:Ctx}{ops l v:List Oper}{i:Nat}{t:Nat->SV}{h:ar}{nx:Nat}{y:Code}{Q:Exit->St->Prop}(n B d:Nat)(e:Bool)(G I:List Nat){D E:List (Nat×SV)}(O:mZ t G=some D)(U:mZ t I=some E)(V:i+n=B)(hl:l.drop n=v)
 (J:an C ops B v ⟨upd (dG E) d (SV.b e),h,nx⟩ none (fun σ=>W C y Q σ)) (k:an C ops B v ⟨upd (dG E) d (SV.b e),h,nx⟩ none (fun σ=>W C y Q σ)->an C ops i l ⟨dG D,h,nx⟩ none (fun σ=>W C y Q σ)):
 an C ops i l ⟨t,h,nx⟩ none (fun σ=>W C y Q σ):=zt _ _ ⟨dG D,h,nx⟩ t none (fun n=>iU O n) (k J)
theorem dk{C:Ctx}{ops D:List Oper}{E:Nat}{v:Nat->SV}{h:ar}{nx d:Nat}{e x:Bool}{B:List (Nat×SV)}{y:Code}{Q:Exit->St->Prop}(J:an C ops E D ⟨upd (dG B) d (SV.b e),h,nx⟩ none (fun σ=>W C y Q σ))
  (hd:(v d).hd=some (SV.b x)) (G:x=e) (I:JI v B):an C ops E D ⟨v,h,nx⟩ none (fun σ=>W C y Q σ):=by
 refine zt _ _ _ v none (fun k=>?_) J
 show upd (dG B) d (SV.b e) k= .any\/upd (dG B) d (SV.b e) k=v k
 rw[az]
 split
 ·next O=>subst O;rw[<-G];exact .inr (SV.bD hd).symm
 ·exact zu I k
inductive Sh where
 |int|u8|bool|str
 |slice (e:Sh)
 |unit
 |pair (a b:Sh)
abbrev Sh.T:Sh->Type
 | .int=>Int
 | .u8=>UInt8
 | .bool=>Bool
 | .str=>ByteArray
 | .slice e=>List e.T
 | .unit=>Unit
 | .pair a b=>a.T×b.T
def Sh.k:Sh->Nat
 | .unit=>0
 | .pair a b=>a.k+b.k
 |_=>1
def Sh.cell:(s:Sh)->s.T->Nat->D
 | .int,n,_=> .val (.int .i64 n)
 | .u8,n,_=> .val (.int .u8 n.toNat)
 | .bool,b,_=> .val (.bool b)
 | .str,s,_=> .val (.string s)
 | .slice e,l,_=> .vec e.k l.length (fun i c=>match l[i]? with |some x=>e.cell x c|none=> .any)
 | .unit,_,_=> .any
 | .pair a b,x,c=>if c<a.k then a.cell x.1 c else b.cell x.2 (c-a.k)
def Sh.ok:(s:Sh)->s.T->Prop
 | .int,n=>aj n
 | .str,s=>s.size<=9223372036854775807
 | .slice e,l=>l.length<=9223372036854775807/\∀ x,x∈l->e.ok x
 | .pair a b,x=>a.ok x.1/\b.ok x.2
 |_,_=>True
mutual
def Sh.fits(P:Program):Sh->TypeId->Prop
 | .int,t=>P.underlying t=some (.int .i64)
 | .u8,t=>P.underlying t=some (.int .u8)
 | .bool,t=>P.underlying t=some .bool
 | .str,t=>P.underlying t=some .string
 | .slice e,t=>∃ el,P.underlying t=some (.slice el)/\P.cellsOf el=e.k/\0<e.k/\e.fits P el
 | .unit,t=>∃ v,P.underlying t=some (.struct v)/\v.toList= []/\P.cellsOf t=0
 | .pair a b,t=>∃ v,P.underlying t=some (.struct v)/\P.cellsOf t=a.k+b.k/\Sh.jW P (.pair a b) v.toList 0
def Sh.jW(P:Program):Sh->List Field->Nat->Prop
 | .unit,[],_=>True
 | .pair a b,f::fs,o=>f.offset=o/\P.cellsOf f.type=a.k/\a.fits P f.type/\b.jW P fs (o+a.k)
 |_,_,_=>False
end
theorem mapM_some{α β:Type}{f:α->Option β}:∀ {l:List α} {r:List β},l.mapM f=some r->r.length=l.length/\∀ (i:Nat) (x:α),l[i]? =some x->∃ y,r[i]? =some y/\f x=some y
 | [],r,h=>by simp at h;subst h;exact⟨rfl,fun i x b=>by simp at b⟩
 |a::l,r,h=>by
  simp only[List.mapM_cons,Option.pure_def,Option.bind_eq_bind,Option.bind_eq_some_iff]at h
  obtain⟨y,e,G,k,h⟩:=h
  simp at h;subst h
  obtain⟨v,B⟩:=mapM_some k
  refine⟨by simp[v],fun i x b=>?_⟩
  cases i with
  |zero=>simp at b;subst b;exact⟨y,rfl,e⟩
  |succ i=>simp at b;obtain⟨z,D,E⟩:=B i x b;exact⟨z,by simpa using D,E⟩
theorem ya{w:World}{base:Nat}{a:Addr}{n:Nat}{cs:List Value}(h:w.cells? base a n=some cs):cs.length=n/\∀ c,c<n->∃ v,cs[c]? =some v/\w.cell? (a.add c)=some v:=by
 unfold World.cells? at h
 split at h
 ·obtain⟨b,e⟩:=mapM_some h
  refine⟨by simpa using b,fun c k=>?_⟩
  exact e c c (by simp[k])
 ·cases h
def allM(w:World):aD:=fun b=>w.heap[b]?
theorem FB{w:World}{a:Addr}{v:Value}(h:w.cell? a=some v):a.spot=none/\∃ cur T b,w.heap[a.block]? =some (.cells cur T b)/\cur[a.off]? =some v:=by
 unfold World.cell? at h
 split at h
 ·next cur T b k=>
  split at h
  ·cases h
  ·next B=>exact⟨by cases e:a.spot<;>simp_all,cur,T,b,k,h⟩
 ·cases h
theorem CJ{n:Int}(h:(Lit.int .i64 n).wf=true):aj n:=by
 unfold aj
 simp[Lit.wf,IntKind.min,IntKind.max,IntKind.signed,IntKind.bits]at h
 omega
theorem iV{M:aD}{v:Value}{x:D}(b:DR M x v):∀ c,c<1->∃ u,([v]:List Value)[c]? =some u/\DR M x u:=by
 intro c e
 obtain rfl:c=0:=by omega
 exact⟨v,rfl,b⟩
theorem zw{α:Type}(p:Nat->α->Prop):∀ n,(∀ i,i<n->∃ x,p i x)->∃ l:List α,l.length=n/\∀ (i:Nat) (x:α),l[i]? =some x->p i x
 |0,_=>⟨[],rfl,fun i x b=>by simp at b⟩
 |n+1,h=>by
  obtain⟨l,l1,l2⟩:=zw p n (fun i b=>h i (by omega))
  obtain⟨x,k⟩:=h n (by omega)
  refine⟨l++ [x],by simp[l1],fun i y b=>?_⟩
  by_cases e:i<l.length
  ·rw[List.getElem?_append_left e]at b;exact l2 i y b
  ·rw[List.getElem?_append_right (by omega)]at b
   have :i=n:=by
    have :=(List.getElem?_eq_some_iff.1 b).1
    simp at this;omega
   subst this
   rw[l1]at b;simp at b;subst b;exact k
theorem sn{H:Type}{enc:TypeId×Value->H}{P:Program}{w:World}{base:Nat}{spare:Nat->Bool}{held:Bool}:∀ (fuel:Nat),
  (∀ (s:Sh) (t:TypeId) (cs:List Value) (d:DataW H) (ps:List MemPlace),s.fits P t->DataW.trod enc P w base spare held fuel t cs=some (d,ps)->
   ∃ a:s.T,s.ok a/\cs.length=s.k/\∀ c,c<s.k->∃ v,cs[c]? =some v/\DR (allM w) (s.cell a c) v)
 |0,s,t,cs,d,ps,_,h=>by simp[DataW.trod]at h
 |fuel+1,s,t,cs,d,ps,G,h=>by
  have ih:=sn (H:=H) (enc:=enc) (P:=P) (w:=w) (base:=base) (spare:=spare) (held:=held) fuel
  have fields:∀ (s:Sh) (I:List Field) (o:Nat) (xs:List (DataW H×List MemPlace)),s.jW P I o->o+s.k<=cs.length->(I.mapM fun f=>DataW.trod enc P w base spare held fuel f.type ((cs.drop f.offset).take (P.cellsOf f.type)))=some xs->
    ∃ a:s.T,s.ok a/\∀ c,c<s.k->∃ v,cs[o+c]? =some v/\DR (allM w) (s.cell a c) v:=by
   intro s
   induction s with
   |unit=>intro I o xs _ _ _;exact⟨(),trivial,fun c B=>by simp[Sh.k]at B⟩
   |pair a b _ a1=>
    intro I o xs D hle hm
    cases I with
    |nil=>simp[Sh.jW]at D
    |cons f I=>
     simp only[Sh.jW]at D
     obtain⟨h1,V,h3,h4⟩:=D
     simp only[List.mapM_cons,Option.pure_def,Option.bind_eq_bind,Option.bind_eq_some_iff]at hm
     obtain⟨y,hy,r',hr,_⟩:=hm
     obtain⟨x,x1,x2,x3⟩:=ih a f.type _ y.1 y.2 h3 hy
     simp only[Sh.k]at hle
     obtain⟨z,z1,z2⟩:=a1 I (o+a.k) r' h4 (by omega) hr
     refine⟨(x,z),⟨x1,z1⟩,fun c B=>?_⟩
     simp only[Sh.k]at B
     simp only[Sh.cell]
     by_cases X:c<a.k
     ·rw[if_pos X]
      obtain⟨v,O,Y⟩:=x3 c X
      rw[List.getElem?_take,if_pos (by omega),List.getElem?_drop,h1]at O
      exact⟨v,O,Y⟩
     ·rw[if_neg X]
      obtain⟨v,O,Y⟩:=z2 (c-a.k) (by omega)
      exact⟨v,by rw[<-O];congr 1;omega,Y⟩
   |_=>intro I o xs D;cases I<;>simp[Sh.jW]at D
  unfold DataW.trod at h
  cases s with
  |int=>
   simp only[Sh.fits]at G
   simp only[G]at h
   split at h<;>(try simp only[reduceCtorEq,Option.some.injEq,TypeDesc.int.injEq]at *)
   next k k' n U=>
    subst U
    split at h
    ·next B=>
     obtain⟨rfl,V⟩:=B
     exact⟨n,CJ V,rfl,iV (.val _ rfl)⟩
    ·cases h
  |u8=>
   simp only[Sh.fits]at G
   simp only[G]at h
   split at h<;>(try simp only[reduceCtorEq,Option.some.injEq,TypeDesc.int.injEq]at *)
   next k k' n U=>
    subst U
    split at h
    ·next B=>
     obtain⟨rfl,V⟩:=B
     have hb:0<=n/\n<=255:=by
      simp[Lit.wf,IntKind.min,IntKind.max,IntKind.signed,IntKind.bits]at V;omega
     have he:(((UInt8.ofNat n.toNat).toNat:Nat):Int)=n:=by
      rw[UInt8.toNat_ofNat'];omega
     refine⟨UInt8.ofNat n.toNat,trivial,rfl,iV (v:= .int .u8 n) ?_⟩
     rw[he];exact .val _ rfl
    ·cases h
  |bool=>
   simp only[Sh.fits]at G
   simp only[G]at h
   split at h<;>(try simp only[reduceCtorEq,Option.some.injEq]at *)
   next b _=>exact⟨b,trivial,rfl,iV (.val _ rfl)⟩
  |str=>
   simp only[Sh.fits]at G
   simp only[G]at h
   split at h<;>(try simp only[reduceCtorEq,Option.some.injEq]at *)
   next b _=>
    split at h
    ·next B=>exact⟨b,(by simp only[maxLen]at B;exact B),rfl,iV (.val _ rfl)⟩
    ·cases h
  |slice e=>
   simp only[Sh.fits]at G
   obtain⟨el,a2,a3,bc,a4⟩:=G
   simp only[a2]at h
   split at h<;>simp only[reduceCtorEq,Option.some.injEq,TypeDesc.slice.injEq]at *
   ·next U=>
    exact⟨[],⟨by simp,fun x hx=>by simp at hx⟩,rfl,iV (.ie _ _ _ _)⟩
   ·next e' a len cap U=>
    subst U
    split at h
    ·next E=>
     simp only[Option.bind_eq_some_iff,Option.map_eq_some_iff]at h
     obtain⟨elems,aa,rest,_,_⟩:=h
     obtain⟨m1,m2⟩:=mapM_some aa
     have m1:elems.length=len:=by simpa using m1
     have hx:∀ i,i<len->∃ x:e.T,e.ok x/\∀ c,c<e.k->∃ v,w.cell? (a.add (i*P.cellsOf el)|>.add c)=some v/\DR (allM w) (e.cell x c) v:=by
      intro i W
      obtain⟨y,_,hy⟩:=m2 i i (by simp[W])
      obtain⟨a5,ah,hy⟩:=Option.bind_eq_some_iff.1 hy
      obtain⟨c1,c2⟩:=ya ah
      obtain⟨x,x1,x2,x3⟩:=ih e el a5 y.1 y.2 a4 hy
      refine⟨x,x1,fun c B=>?_⟩
      obtain⟨v,O,Y⟩:=x3 c B
      obtain⟨v',al,a6⟩:=c2 c (by omega)
      rw[O]at al;cases al
      exact⟨v,a6,Y⟩
     obtain⟨l,l1,l2⟩:=zw (fun i (x:e.T)=>e.ok x/\∀ c,c<e.k->∃ v,w.cell? (a.add (i*P.cellsOf el)|>.add c)=some v/\DR (allM w) (e.cell x c) v) len hx
     refine⟨l,⟨by have :=E.2.1;have :=E.2.2;simp only[maxLen]at this;omega,fun x hx=>?_⟩,rfl,iV ?_⟩
     ·obtain⟨i,W⟩:=List.mem_iff_getElem?.1 hx
      exact(l2 i x W).1
     ·try simp only[Sh.cell]
      rcases Nat.eq_zero_or_pos len with h0|h0
      ·rw[l1,h0];exact .ie _ _ _ _
      ·by_cases bh:e.k=0
       ·omega
       ·have a7:l[0]? =some (l[0]'(by omega)):=List.getElem?_eq_getElem _
        obtain⟨v0,av,_⟩:=(l2 0 _ a7).2 0 (by omega)
        obtain⟨b,o,sp⟩:=a
        simp only[Nat.zero_mul,Addr.add,if_true]at av
        obtain⟨ax,cur,T,fz,hb,_⟩:=FB av
        simp only at ax hb
        subst ax
        rw[l1]
        have J:∀ i c,i<len->c<e.k->∃ x v,l[i]? =some x/\cur[o+i*e.k+c]? =some v/\DR (allM w) (e.cell x c) v:=by
         intro i c W B
         have a0:l[i]? =some (l[i]'(by omega)):=List.getElem?_eq_getElem _
         obtain⟨v,O,Y⟩:=(l2 i _ a0).2 c B
         rw[Addr.add_lit,Addr.add_lit,a3]at O
         have :w.cell? ⟨b,o+i*e.k+c,none⟩=cur[o+i*e.k+c]? :=cell_of_row w b _ cur T fz hb
         rw[this]at O
         exact⟨_,v,a0,O,Y⟩
        refine .vec e.k len _ b o cap cur T fz (fun i c=>(cur[o+i*e.k+c]?).getD undef) hb E.2.1 (fun i c W B=>?_) (fun i c W B=>?_)
        ·obtain⟨x,v,h1,V,h3⟩:=J i c W B
         rw[V];rfl
        ·obtain⟨x,v,h1,V,h3⟩:=J i c W B
         simp only[h1,V,Option.getD_some];exact h3
    ·cases h
  |unit=>
   simp only[Sh.fits]at G
   obtain⟨I,D,_,U⟩:=G
   simp only[D]at h
   split at h
   ·next hl=>exact⟨(),trivial,by rw[hl,U];rfl,fun c B=>by simp[Sh.k]at B⟩
   ·cases h
  |pair a b=>
   simp only[Sh.fits]at G
   obtain⟨I,D,U,a8⟩:=G
   simp only[D]at h
   split at h
   ·next hl=>
    obtain⟨xs,ba,_⟩:=Option.map_eq_some_iff.1 h
    obtain⟨x,x1,x2⟩:=fields (.pair a b) I.toList 0 xs a8 (by simp only[Sh.k];omega) ba
    exact⟨x,x1,by simp only[Sh.k];omega,fun c B=>by have :=x2 c B;rwa[Nat.zero_add]at this⟩
   ·cases h
theorem AV{H:Type}{enc:TypeId×Value->H}{P:Program}{w:World}{base b0:Nat}{r:Reach}{spare:Nat->Bool}{held:Bool}(e:Sh){t:TypeId}{v:Value}{d:DataW H}{ps:List MemPlace}(E:(Sh.slice e).fits P t)
  (I:Value.okWide P w r b0 t v) (h:DataW.Trod enc P w base spare held t v d ps):
  ∃ l:List e.T,(l.length<=9223372036854775807/\∀ x,x∈l->e.ok x)/\∀ ρ,VR (allM w) ρ (.d (.vec e.k l.length (fun i c=>match l[i]? with |some x=>e.cell x c|none=> .any))) v:=by
 obtain⟨fuel,h⟩:=h
 obtain⟨l,B,_,J⟩:=sn fuel (.slice e) t _ d ps E h
 have b:=E
 simp only[Sh.fits]at b
 obtain⟨el,D,_⟩:=b
 obtain⟨a,len,cap,rfl⟩:=WideShapes.okWide_slice D I
 obtain⟨u,G,O⟩:=J 0 (by simp[Sh.k])
 simp[Value.cells]at G
 subst G
 exact⟨l,B,fun ρ=> .d _ _ O⟩
theorem DR.fK{M:aD}{k len:Nat}{f g:Nat->Nat->D}{v:Value}(h:DR M (.vec k len f) v)(e:∀ i c,i<len->c<k->f i c=g i c):DR M (.vec k len g) v:=by
 cases h with
 |ie=>exact .ie _ _ _ _
 |vec _ _ _ b o cap cur T fz q hb hc hg G=>exact .vec _ _ _ b o cap cur T fz q hb hc hg fun i c E B=>by rw[<-e i c E B];exact G i c E B
theorem VR.fK{M:aD}{ρ:Names}{k len:Nat}{f g:Nat->Nat->D}{v:Value}(h:VR M ρ (.d (.vec k len f)) v)(e:∀ i c,i<len->c<k->f i c=g i c):VR M ρ (.d (.vec k len g)) v:=by
 cases h with |d _ _ h=>exact .d _ _ (h.fK e)
theorem m0{P:Program}{t:TypeId}(h:P.underlying t=some (.int .i64)):Sh.int.fits P t:=by simp only[Sh.fits];exact h
theorem AW{P:Program}{t el:TypeId}{e:Sh}(h:P.underlying t=some (.slice el))(b:P.cellsOf el=e.k)(v:0<e.k)(B:e.fits P el):(Sh.slice e).fits P t:=by
 simp only[Sh.fits];exact⟨el,h,b,v,B⟩
theorem CK{P:Program}{t:TypeId}{e:Array Field}{a b:Sh}(h:P.underlying t=some (.struct e))(v:P.cellsOf t=a.k+b.k)(B:Sh.jW P (.pair a b) e.toList 0):(Sh.pair a b).fits P t:=by
 simp only[Sh.fits];exact⟨e,h,v,B⟩
theorem iW{P:Program}{f:Field}{e:List Field}{a b:Sh}{o:Nat}(h:f.offset=o)(v:P.cellsOf f.type=a.k)(B:a.fits P f.type)(D:b.jW P e (o+a.k)):(Sh.pair a b).jW P (f::e) o:=by
 simp only[Sh.jW];exact⟨h,v,B,D⟩
theorem AX{P:Program}{o:Nat}:Sh.unit.jW P [] o:=by simp only[Sh.jW]
end Go.Proofs.YtifcaekngfgdmaaDoor.Nice
