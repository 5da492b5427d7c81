/- Part 5 of the proof of TopFile. -/
import Derived.Test.YtifcaekngfgdmaaDoorZM4
import Derived.Laws.IdiomStrings
import Derived.Laws.CopyRow
import Derived.Laws.Pointers
set_option linter.unusedVariables false
set_option linter.unusedSimpArgs false
set_option maxRecDepth 100000
set_option maxHeartbeats 4000000
namespace Go.Proofs.YtifcaekngfgdmaaDoor.Nice.Co
open Go Go.Conc
theorem cE{C:Ctx}{o:Oper}{v:Operand->SV}{bs:List (Nat×aB)}(H:∀ (M F:aD) (ρ:Names) (a:Act) (h:ar) (w:World),(∀ x,x∈o.op.operands->VR M ρ (v x) (a.eval x))->HR M F ρ h w->(∀ p,p∈bs->h p.1=some p.2)->Still C.P (execOp a.eval o)):oc C o v bs:=
 fun M F ρ a h w k B b e D=>by
  rcases(H M F ρ a h w k B b).out w #[] e D with h|h
  ·simp at h
  ·exact .inr (.inr (.inl h))
theorem pQ{C:Ctx}{o:Oper}{v:Operand->SV}{bs:List (Nat×aB)}(H:∀ (M F:aD) (ρ:Names) (a:Act) (h:ar) (w:World),(∀ x,x∈o.op.operands->VR M ρ (v x) (a.eval x))->HR M F ρ h w->(∀ p,p∈bs->h p.1=some p.2)->
  At C.P (fun b=>M b≠none\/iX ρ h b) (fun b=>iX ρ h b) (execOp a.eval o) w):oc C o v bs:=
 fun M F ρ a h w B D k e E=>by
  rcases H M F ρ a h w B D k #[] e E with h|h
  ·simp at h
  ·exact h
theorem A4{P:Program}{α:Type}{s:Sem α}{a:α}(h:Ft P s=some a):Still P s:=by
 constructor
 ·intro w es e v
  induction s with
  |pure b=>exact .inl v
  |program k ih=>simp only[Ft]at h;exact ih P h v
  |_=>simp[Ft]at h
 ·intro w E w' B b o D
  rw[tL h w]at B
  cases B;exact D
theorem wa{C:Ctx}{o:Oper}{v:Operand->SV}{x:Out}(e:sg C.P o v=some x):oc C o v x.2.1/\kG C o v x.2.1:=by
 unfold sg at e
 split at e
 ·cases e
 next k=>
 split at e
 next B=>
  split at e
  next r I=>
   split at e
   next V=>
    cases e
    have J:∀ (M:aD) (ρ:Names) (a:Act),(∀ x,x∈o.op.operands->VR M ρ (v x) (a.eval x))->execOp (vB v) o=execOp a.eval o:=by
     intro M ρ a D
     refine execOp_congr o (fun cs b G=>by simp[G,qc]at k) fun y O=>?_
     obtain⟨u,U⟩:=lZ B y (Array.mem_toList_iff.2 O)
     have :=D y O
     rw[U]at this
     rw[this.val]
     simp[vB,U,valOf]
    refine⟨cE fun M F ρ a h w D _ _=>by rw[<-J M ρ a D];exact A4 I,fun M F ρ a h w D _ _ W w' E=>?_⟩
    rw[<-J M ρ a D,tL I w]at E
    cases E;trivial
   ·cases e
  ·cases e
 ·cases e
theorem lE{M F:aD}{ρ:Names}{h:ar}{w:World}(H:HR M F ρ h w){n:Nat}{blk:aB}(v:h n=some blk)(B:(∃ ty k xs,blk= .cells ty k xs)\/∃ ty k len f,blk= .rows ty k len f/\0<len){x:Own}(D:ρ n=some x):
  0<x.R/\b9 w x.b/\iX ρ h x.b:=by
 obtain⟨U,e,I⟩:=H.live n blk v
 rw[D]at e;obtain rfl:=Option.some.inj e
 rcases I with⟨_,E⟩|⟨G,_,_,o,J,O⟩
 ·exfalso
  rcases B with⟨ty,k,xs,rfl⟩|⟨ty,k,len,f,rfl,hl⟩
  ·cases E
  ·cases len with
   |zero=>omega
   |succ l=>cases E
 ·refine⟨G,?_,n,blk,x,v,D,G,rfl⟩
  rcases B with⟨ty,k,xs,rfl⟩|⟨ty,k,len,f,rfl,hl⟩<;>cases o<;>first|exact O.elim|exact⟨_,_,_,J⟩
theorem ss{a:SV}{I:ar}{n:Nat}{vc:Prop}{bs:List (Nat×aB)}{J:List SV}(e:lu a I n=some (vc,bs,J))(O:vc){M F:aD}{ρ:Names}{h:ar}{w:World}{u:Value}(B:VR M ρ a u)(H:HR M F ρ h w)(v:∀ p,p∈bs->h p.1=some p.2):
  ∃ ad,u= .pointer (some ad)/\b9 w ad.block/\(M ad.block≠none\/iX ρ h ad.block):=by
 unfold lu at e
 split at e
 ·next m i c=>
  split at e
  ·next ty k xs hm=>
   split at e
   ·cases e
    cases B with
    |ptr _ _ _ x D=>
     obtain⟨_,E,G⟩:=lE H (v (m, .cells ty k xs) (by simp)) (.inl ⟨_,_,_,rfl⟩) D
     exact⟨_,rfl,E, .inr G⟩
   ·cases e
  ·next ty k len f hm=>
   split at e
   ·cases e
    cases B with
    |ptr _ _ _ x D=>
     obtain⟨_,E,G⟩:=lE H (v (m, .rows ty k len f) (by simp)) (.inr ⟨_,_,_,_,rfl,by omega⟩) D
     exact⟨_,rfl,E, .inr G⟩
   ·cases e
  ·cases e
 ·split at e
  ·cases e
   cases B with
   |vp _ _ _ _ _ b o cur T fz g hb hg hr=>exact⟨_,rfl,⟨_,_,_,H.fT _ _ hb⟩, .inl (by show M b≠none;rw[hb];simp)⟩
  ·cases e
 ·cases e
theorem qA{P:Program}{t:TypeId}{a:SV}{D:ar}{vc:Prop}{bs:List (Nat×aB)}{s:SV}(e:si P t a D=some (vc,bs,s))(b:vc){M F:aD}{ρ:Names}{h:ar}{w:World}{u:Value}(B:VR M ρ a u)(H:HR M F ρ h w)(k:∀ p,p∈bs->h p.1=some p.2):
  ∃ ad,u= .pointer (some ad)/\b9 w ad.block/\(M ad.block≠none\/iX ρ h ad.block):=by
 unfold si at e
 split at e
 ·split at e
  ·split at e
   ·next v=>cases e;exact ss v b B H k
   ·cases e
  ·cases e
 ·split at e
  ·next v=>cases e;exact ss v b B H k
  ·cases e
 ·cases e
theorem A5{C:Ctx}{o:Oper}{v:Operand->SV}{h:ar}{x:Out}{t:TypeId}{a:Operand}(B:o.op= .load t a)(e:qh C.P t (v a) h=some x)(b:x.1):oc C o v x.2.1:=by
 unfold qh at e
 split at e
 next vc bs u hl=>
  cases e
  refine pQ fun M F ρ V h w D E k=>?_
  obtain⟨ad,G,I,J⟩:=qA hl b (D a (by rw[B];simp[Op.operands])) E k
  unfold execOp
  rw[B]
  dsimp only
  unfold Instr.loadAt
  rw[G]
  refine .bind (.bind (Still.pure ad).at fun O w' U=>?_) fun _ _ _=>(Still.pure _).at
  cases U
  exact qw I J
 ·cases e
theorem yd{a:SV}{G:ar}{I:List SV}{vc:Prop}{bs:List (Nat×aB)}{wr:List (Nat×Option aB)}(e:kx a I G=some (vc,bs,wr))(J:vc){M F:aD}{ρ:Names}{h:ar}{w:World}{u:Value}(E:VR M ρ a u)(H:HR M F ρ h w)(b:∀ p,p∈bs->h p.1=some p.2):
  ∃ ad,u= .pointer (some ad)/\b9 w ad.block/\iX ρ h ad.block:=by
 unfold kx at e
 split at e
 ·next m i c=>
  split at e
  ·next ty k xs hm=>
   split at e
   ·cases e
    cases E with
    |ptr _ _ _ x v=>
     obtain⟨_,B,D⟩:=lE H (b (m, .cells ty k xs) (by simp)) (.inl ⟨_,_,_,rfl⟩) v
     exact⟨_,rfl,B,D⟩
   ·cases e
  ·next ty k len f hm=>
   split at e
   ·split at e
    ·cases e
     cases E with
     |ptr _ _ _ x v=>
      obtain⟨_,B,D⟩:=lE H (b (m, .rows ty k len f) (by simp)) (.inr ⟨_,_,_,_,rfl,by omega⟩) v
      exact⟨_,rfl,B,D⟩
    ·cases e
   ·cases e
  ·cases e
 ·cases e
theorem A6{C:Ctx}{o:Oper}{v:Operand->SV}{h:ar}{x:Out}{t:TypeId}{a y:Operand}(D:o.op= .store t a y)(e:qg C.P t (v a) (v y) h=some x)(b:x.1):oc C o v x.2.1:=by
 unfold qg at e
 split at e
 ·split at e
  ·split at e
   ·split at e
    ·next vc bs wr k=>
     cases e
     refine pQ fun M F ρ W h w E G B=>?_
     obtain⟨ad,I,J,O⟩:=yd k b (E a (by rw[D];exact aP (.inl rfl))) G B
     unfold execOp
     rw[D]
     dsimp only
     unfold Instr.storeAt
     rw[I]
     refine .bind (.bind (Still.pure ad).at fun U w' V=>?_) fun _ _ _=>(Still.pure _).at
     cases V
     exact vY J O
    ·cases e
   ·cases e
  ·cases e
 ·cases e
def IM(w:World)(B:Nat->Prop)(n:Nat):Value->Prop
 | .slice ba m _=>m=n/\(n=0\/∃ ad,ba=some ad/\b9 w ad.block/\B ad.block)
 |_=>False
theorem CQ{s:SV}{U:ar}{k:Nat}{vc:Prop}{bs:List (Nat×aB)}{blk:aB}{m:Nat}(e:xX s U k=some (vc,bs,blk,m))(V:vc){M F:aD}{ρ:Names}{h:ar}{w:World}{u:Value}(B:VR M ρ s u)(H:HR M F ρ h w)(v:∀ p,p∈bs->h p.1=some p.2):
  IM w (fun b=>M b≠none\/iX ρ h b) m u:=by
 unfold xX at e
 split at e
 ·cases e
  cases B with |d _ _ h=>cases h;exact⟨rfl, .inl rfl⟩
 ·split at e
  ·cases e
   cases B with
   |d _ _ h=>
    cases h with
    |ie=>exact⟨rfl, .inl rfl⟩
    |vec _ _ _ b o cap cur T Y g O hc hg hr=>exact⟨rfl, .inr ⟨_,rfl,⟨_,_,_,H.fT _ _ O⟩, .inl (by show M b≠none;rw[O];simp)⟩⟩
  ·cases e
 ·next n o len=>
  split at e
  ·next ty D xs W=>
   split at e
   ·cases e
    cases B with
    |jo=>exact⟨rfl, .inl rfl⟩
    |sl _ _ _ x E hl X G=>
     obtain⟨_,I,J⟩:=lE H (v (n, .cells ty D xs) (by simp)) (.inl ⟨_,_,_,rfl⟩) E
     exact⟨rfl, .inr ⟨_,rfl,I, .inr J⟩⟩
   ·cases e
  ·next ty D L f W=>
   split at e
   ·cases e
    cases B with
    |jo=>exact⟨rfl, .inl rfl⟩
    |sl _ _ _ x E hl X G=>
     refine⟨rfl,?_⟩
     rcases Nat.eq_zero_or_pos m with hm|hm
     ·exact .inl hm
     ·obtain⟨_,I,J⟩:=lE H (v (n, .rows ty D L f) (by simp)) (.inr ⟨_,_,_,_,rfl,by omega⟩) E
      exact .inr ⟨_,rfl,I, .inr J⟩
   ·cases e
  ·cases e
 ·cases e
theorem A7{P:Program}{S R Wr:Nat->Prop}{t ty e:TypeId}(Y:P.underlying t=some (.slice e)){E D:Option Addr}{l c k G:Nat}(hs:l=0\/∃ ad,E=some ad/\S ad.block/\R ad.block)(O:c=0\/∃ ad,E=some ad/\S ad.block/\Wr ad.block)
  (X:k=0\/∃ ad,D=some ad/\S ad.block/\R ad.block):Ax P S R Wr (Builtin.append_ #[t,t] ty #[.slice E l c, .slice D k G]):=by
 have un:∀ {d:TypeDesc},(∃ w w',(underlying t).run P w= .ok d w')->d= .slice e:=by
  rintro d ⟨w,w',h⟩;rw[run_underlying Y]at h;cases h;rfl
 unfold Builtin.append_
 refine .bind (Still.underlying t).ax fun d hd=>?_
 obtain rfl:=un hd
 refine .bind (Still.sizeOf e).ax fun size _=>?_
 refine .bind (Still.underlying t).ax fun d hd=>?_
 obtain rfl:=un hd
 refine .bind (Still.pure _).ax fun z U=>?_
 obtain⟨w0,aa,U⟩:=U
 obtain rfl:z=false:=by cases U;rfl
 simp only[Bool.false_eq_true,if_false,Bool.not_false,if_true,false_or]
 refine .bind (Still.pure _).ax fun n V=>?_
 obtain⟨w1,ah,V⟩:=V
 obtain rfl:n=k:=by cases V;rfl
 have rest:Ax P S R Wr (do
   let v <-choose (.appendCap (l+n) c e)
   let i <-typeInfo e
   askRoom (v*i.bytes)
   let old <-Builtin.firstCells size l (.slice E l c)
   let new <-Builtin.firstCells size n (.slice D n G)
   let z <-zeroValue e
   let q <-newRow e (old++new++Builtin.zeroCells z.cells (v-(l+n)))
   pure (.slice (some q) (l+n) v):Sem Value):=by
  refine .bind (Still.choose _).ax fun _ _=> .bind (Still.typeInfo _).ax fun _ _=> .bind (Still.askRoom _).ax fun _ _=> .bind (qx hs) fun _ _=> .bind (qx X) fun _ _=>?_
  unfold newRow
  exact Still.ax (.bind (.zeroValue _) fun _=> .bind (.bind (.newObj _) fun _=> .pure _) fun _=> .pure _)
 have W:Ax P S R Wr (do
   let b <-Builtin.mayShare size l n E (.slice D n G)
   if(!b)=true then do
     mark Mark.noRoom
     unsupported (Unsupported.resourceLimit "append: a slice or a string whose bytes no memory bears")
    else unsupported (Unsupported.resourceLimit "append: a slice or a string whose bytes no memory bears"):Sem Unit):=by
  refine .bind (qz _ _ _ _ _).ax fun _ _=>?_
  split
  ·exact Still.ax (.bind .noRoom fun _=> .halt _)
  ·exact Still.ax (.halt _)
 have B:Ax P S R Wr (do
   let i <-typeInfo e
   if Builtin.nextslicecap (l+n) c*i.bytes>2^48 then do
     (do
      let b <-Builtin.mayShare size l n E (.slice D n G)
      if(!b)=true then do
        mark Mark.noRoom
        unsupported (Unsupported.resourceLimit "append: a slice or a string whose bytes no memory bears")
       else unsupported (Unsupported.resourceLimit "append: a slice or a string whose bytes no memory bears"):Sem Unit)
     let v <-choose (.appendCap (l+n) c e)
     let i <-typeInfo e
     askRoom (v*i.bytes)
     let old <-Builtin.firstCells size l (.slice E l c)
     let new <-Builtin.firstCells size n (.slice D n G)
     let z <-zeroValue e
     let q <-newRow e (old++new++Builtin.zeroCells z.cells (v-(l+n)))
     pure (.slice (some q) (l+n) v)
    else do
     let v <-choose (.appendCap (l+n) c e)
     let i <-typeInfo e
     askRoom (v*i.bytes)
     let old <-Builtin.firstCells size l (.slice E l c)
     let new <-Builtin.firstCells size n (.slice D n G)
     let z <-zeroValue e
     let q <-newRow e (old++new++Builtin.zeroCells z.cells (v-(l+n)))
     pure (.slice (some q) (l+n) v):Sem Value):=by
  refine .bind (Still.typeInfo _).ax fun _ _=>?_
  split
  ·exact .bind W fun _ _=>rest
  ·exact rest
 split
 ·next hle=>
  refine .bind (qx X) fun new I=>?_
  cases E with
  |none=>exact(Still.pure _).ax
  |some a=>
   dsimp only
   refine .bind ?_ fun _ _=>(Still.pure _).ax
   rcases O with rfl|⟨ad,e',g1,g2⟩
   ·obtain rfl:n=0:=by omega
    obtain⟨w2,al,J⟩:=I
    have :new= #[]:=by
     change(Builtin.firstCells size 0 (.slice D 0 G)).run P w2=_ at J
     unfold Builtin.firstCells loadCells at J
     cases D with
     |none=>cases J;rfl
     |some D=>simp only[Nat.zero_mul]at J;cases J;rfl
    subst this
    exact(Still.pure _).ax
   ·cases e'
    exact vZ (by rw[eQ];exact g1) (by rw[eQ];exact g2) _ _
 ·refine .bind (Still.typeInfo _).ax fun _ _=>?_
  split
  ·exact .bind (Still.runtimePanic _).ax fun _ _=>B
  ·exact B
theorem FF{M F:aD}{ρ:Names}{h:ar}{w:World}(H:HR M F ρ h w){n:Nat}{blk:aB}(v:h n=some blk)(D:(∃ ty k xs,blk= .cells ty k xs)\/∃ ty k len f,blk= .rows ty k len f){x:Own}(B:ρ n=some x)(E:0<x.R):
  b9 w x.b/\iX ρ h x.b:=by
 obtain⟨U,e,G⟩:=H.live n blk v
 rw[B]at e;obtain rfl:=Option.some.inj e
 rcases G with⟨I,V⟩|⟨_,_,_,o,J,O⟩
 ·omega
 ·refine⟨?_,n,blk,x,v,B,E,rfl⟩
  rcases D with⟨ty,k,xs,rfl⟩|⟨ty,k,len,f,rfl⟩<;>cases o<;>first|exact O.elim|exact⟨_,_,_,J⟩
theorem CS{M F:aD}{ρ:Names}{h:ar}{w:World}{s:SV}{u:Value}(e:VR M ρ s u)(H:HR M F ρ h w)(D:s= .d .bz\/∃ n len blk,s= .sl n 0 len/\h n=some blk/\((∃ ty k xs,blk= .cells ty k xs)\/∃ ty k len f,blk= .rows ty k len f)):
  ∃ b l c,u= .slice b l c/\(l=0\/∃ ad,b=some ad/\b9 w ad.block/\iX ρ h ad.block)/\(c=0\/∃ ad,b=some ad/\b9 w ad.block/\iX ρ h ad.block):=by
 rcases D with rfl|⟨n,len,blk,rfl,E,G⟩
 ·cases e with |d _ _ h=>cases h;exact⟨_,_,_,rfl, .inl rfl, .inl rfl⟩
 ·cases e with
  |jo=>exact⟨_,_,_,rfl, .inl rfl, .inl rfl⟩
  |sl _ _ _ x I hl hR J=>
   obtain⟨v,B⟩:=FF H E G I J
   exact⟨_,_,_,rfl, .inr ⟨_,rfl,v,B⟩, .inr ⟨_,rfl,v,B⟩⟩
theorem A8{C:Ctx}{o:Oper}{nm:Nat}{v:Operand->SV}{h:ar}{x:Out}{t:TypeId}{a b:Operand}(W:o.op= .call {callee:= .builtin .append,args:= #[a,b],argTypes:= #[t,t]})(e:mW C.P nm t (v a) (v b) h=some x)(E:x.1):oc C o v x.2.1:=by
 have ma:a∈o.op.operands:=by rw[W];simp[Op.operands,Call.operands]
 have mb:b∈o.op.operands:=by rw[W];simp[Op.operands,Call.operands]
 have core:∀ (el:TypeId) (bs I:List (Nat×aB)) (vc:Prop) (k:Nat) (X:aB) (m:Nat),C.P.underlying t=some (.slice el)->xX (v b) h k=some (vc,bs,X,m)->vc->(∀ p,p∈bs->p∈I)->
   (v a= .d .bz\/∃ n len blk,v a= .sl n 0 len/\(n,blk)∈I/\((∃ ty k xs,blk= .cells ty k xs)\/∃ ty k len f,blk= .rows ty k len f))->oc C o v I:=by
  intro el bs I vc k X m G D E J B
  refine pQ fun M F ρ V h' w hv hH O=>?_
  have U:=CQ D E (hv b mb) hH (fun p hp=>O p (J p hp))
  obtain⟨ba,l,c,q1,q2,q3⟩:=CS (hv a ma) hH (B.imp id fun⟨n,len,blk,g1,Y,g3⟩=>⟨n,len,blk,g1,O _ Y,g3⟩)
  have ev:execOp V.eval o=(do let x <-Builtin.append_ #[t,t] o.type #[V.eval a,V.eval b];pure (Next.value x):Sem Next):=by
   unfold execOp
   rw[W]
   simp only[resolve,invoke,builtin,List.map_toArray,List.map_cons,List.map_nil]
   rfl
  rw[ev]
  generalize aa:V.eval b=qb at U
  cases qb with
  |slice xa xl xc=>
   obtain⟨rfl,U⟩:=U
   rw[q1]
   refine .bind ((A7 (S:=b9 w) G (q2.imp id fun⟨ad,g1,Y,g3⟩=>⟨ad,g1,Y, .inr g3⟩) q3 U).at_ w fun b hb=>hb) fun _ _ _=>(Still.pure _).at
  |_=>exact U.elim
 unfold mW at e
 split at e
 ·next el G=>
  split at e
  ·split at e
   ·next vc bs X m D=>
    split at e
    ·split at e
     ·next B=>
      split at e
      ·cases e;exact core el bs bs vc _ _ m G D E.1 (fun _ h=>h) (.inl B)
      ·split at e
       ·cases e;exact core el bs bs vc _ _ m G D E.1 (fun _ h=>h) (.inl B)
       ·cases e
      ·cases e
     ·next n len B=>
      split at e
      ·next ty k' xs hn=>
       split at e
       ·split at e
        ·cases e;exact core el bs _ vc _ _ m G D E.1 (fun _ h=>List.mem_cons_of_mem _ h) (.inr ⟨n,len,_,B,List.mem_cons_self .., .inl ⟨_,_,_,rfl⟩⟩)
        ·cases e
       ·cases e
      ·next ty k' L f hn=>
       split at e
       ·split at e
        ·cases e;exact core el bs _ vc _ _ m G D E.2.1 (fun _ h=>List.mem_cons_of_mem _ h) (.inr ⟨n,len,_,B,List.mem_cons_self .., .inr ⟨_,_,_,_,rfl⟩⟩)
        ·cases e
       ·cases e
      ·cases e
     ·cases e
    ·cases e
   ·cases e
  ·cases e
 ·cases e
theorem ud{P:Program}(op:BinOp)(t:TypeId)(x y:Operand)(k e:IntKind)(a b:Int):Still P (do eqGuard op t x y (.int k a) (.int e b);binOp op t (.int k a) (.int e b):Sem Value):=by
 refine .bind ?_ fun _=>?_
 ·unfold eqGuard
  cases op<;>exact .pure _
 ·unfold binOp
  cases op<;>simp only[]<;>(repeat(first|split |exact .halt _|exact .pure _|(unfold Op.shift)|(unfold Op.intArith)|(unfold Op.intDiv)|(unfold Op.intBits)|(unfold Op.intCmp)|exact .runtimePanic _))
theorem od{C:Ctx}{o:Oper}{v:Operand->SV}{bs:List (Nat×aB)}{op:BinOp}{ty e:TypeId}{y z:Operand}{k D:IntKind}{a b:Int}(B:o.op= .binOp op ty y z e)(I:v y= .d (.val (.int k a)))(J:v z= .d (.val (.int D b))):oc C o v bs:=by
 refine cE fun M F ρ O h w E _ _=>?_
 have e1:=E y (by rw[B];exact aP (.inl rfl));rw[I]at e1
 have G:=E z (by rw[B];exact aP (.inr rfl));rw[J]at G
 unfold execOp
 rw[B]
 dsimp only
 rw[e1.val,G.val]
 exact .bind (ud op ty y z k D a b) fun _=> .pure _
def ue(v:Operand->SV)(o:Oper):Bool:=
 match o.op with
 | .slice .. | .makeMap .. =>false
 | .call ⟨.builtin .len,⟨[y]⟩,⟨[_]⟩⟩=>match v y with | .map _=>false|_=>true
 | .convert _ _ y=>match v y with | .d (.val (.string _))=>false|_=>true
 | .binOp .eql _ _ (.const (.slice none 0 0)) _| .binOp .neq _ _ (.const (.slice none 0 0)) _=>false
 |_=>true
def CU(C:Ctx)(nm:Nat)(o:Oper)(v:Operand->SV)(h:ar):Option Out:=bif ue v o then GV C nm o v h else none
theorem Hw{C:Ctx}{nm:Nat}{o:Oper}{v:Operand->SV}{h:ar}{x:Out}(e:GV C nm o v h=some x)(J:ue v o=true)(W:x.1):oc C o v x.2.1/\kG C o v x.2.1:=by
 have G:ub o.op=true->oc C o v x.2.1->oc C o v x.2.1/\kG C o v x.2.1:=fun Y h2=>⟨h2,kG.plain Y⟩
 have sl:∀ {s:Sem Value},(∀ a:Act,∃ s:Sem Value,execOp a.eval o=(do let x <-s;pure (Next.value x):Sem Next)/\Still C.P s)->oc C o v x.2.1:=by
  intro _ hs
  refine cE fun M F ρ E h w O _ _=>?_
  obtain⟨s,Y,h2⟩:=hs E
  rw[Y];exact .bind h2 fun _=> .pure _
 unfold GV at e
 split at e
 ·next y B=>exact G (by rw[B];rfl) (cE fun M F ρ E h w O _ _=>by unfold execOp;rw[B];exact .pure _)
 ·next y B=>exact G (by rw[B];rfl) (cE fun M F ρ E h w O _ _=>by unfold execOp;rw[B];exact .pure _)
 ·next c a b B=>exact G (by rw[B];rfl) (cE fun M F ρ E h w O _ _=>by
   unfold execOp;rw[B]
   refine .bind ?_ fun _=>?_
   ·unfold asBool;split <;>first|exact .pure _|exact .halt _
   ·exact .pure _)
 ·next t B=>exact G (by rw[B];rfl) (sl (s:=pure undef) fun a=>⟨_,by unfold execOp;rw[B],vU t⟩)
 ·next t y B=>exact G (by rw[B];rfl) (sl (s:=pure undef) fun a=>⟨_,by unfold execOp;rw[B],A3 t _⟩)
 ·next t ps B=>exact G (by rw[B];rfl) (sl (s:=pure undef) fun a=>⟨_,by unfold execOp;rw[B],vV t _⟩)
 ·next t B=>exact G (by rw[B];rfl) (sl (s:=pure undef) fun a=>⟨_,by unfold execOp;rw[B],iY t _ _⟩)
 ·next t len ps _ B=>exact G (by rw[B];rfl) (sl (s:=pure undef) fun a=>⟨_,by unfold execOp;rw[B],iY t _ _⟩)
 ·next B=>exact G (by rw[B];rfl) (A5 B e W)
 ·next B=>exact G (by rw[B];rfl) (A6 B e W)
 ·next y B=>
  refine G (by rw[B];rfl) (cE fun M F ρ E h w O _ _=>?_)
  have D:=O y (by rw[B];exact cF)
  unfold lA at e
  split at e
  ·next I=>rw[I]at D;generalize X:E.eval y=q at D;cases D;unfold execOp;rw[B];simp only[X];exact .pure _
  ·next I=>rw[I]at D;generalize X:E.eval y=q at D;cases D;unfold execOp;rw[B];simp only[X];exact .pure _
  ·next I=>rw[I]at D;generalize X:E.eval y=q at D;cases D;unfold execOp;rw[B];simp only[X];exact .pure _
  ·cases e
 ·next t y f B=>
  refine G (by rw[B];rfl) fun M F ρ E h w O _ _ ev I=>?_
  exfalso
  have hh:∀ fs (d:Field),C.P.underlying t=some (.struct fs)->fs[f]? =some d->∃ i,C.P.info? d.type=some i/\0<i.size:=by
   unfold jz at e
   split at e
   ·next fs ah=>
    split at e
    ·next fd aa=>
     split at e
     ·next i hi=>
      split at e
      ·next hp=>
       intro av d Y h2
       rw[ah]at Y;cases Y
       rw[Array.getElem?_toList,h2]at aa;cases aa
       exact⟨i,hi,by simpa using hp⟩
      ·cases e
     ·cases e
    ·cases e
   ·cases e
  have J:execOp E.eval o=(do let x <-Instr.fieldAt t (E.eval y) f;pure (Next.value x):Sem Next):=by unfold execOp;rw[B]
  rw[J,Sem.events_bind]at I
  have hf:=rT t (E.eval y) f hh w #[] ev
  revert I
  cases(Instr.fieldAt t (E.eval y) f).run C.P w with
  |ok x w'=>intro I;exact absurd (hf I) (by simp)
  |halt x w'=>intro I;exact absurd (hf I) (by simp)
 ·next t y f B=>exact G (by rw[B];rfl) (sl (s:=pure undef) fun a=>⟨_,by unfold execOp;rw[B],vW t _ f⟩)
 ·next t y ix B=>exact G (by rw[B];rfl) (sl (s:=pure undef) fun a=>⟨_,by unfold execOp;rw[B],rS t _ _⟩)
 ·next t y ix B=>exact G (by rw[B];rfl) (sl (s:=pure undef) fun a=>⟨_,by unfold execOp;rw[B],pc t _ _⟩)
 ·next B=>simp[ue,B]at J
 ·next B=>exact G (by rw[B];rfl) (cE fun M F ρ E h w O _ _=>by unfold execOp;rw[B];exact .bind (.pure _) fun _=> .pure _)
 ·next B=>simp[ue,B]at J
 ·next t l c B=>exact G (by rw[B];rfl) (sl (s:=pure undef) fun a=>⟨_,by unfold execOp;rw[B],pB t _ _⟩)
 ·next y i B=>exact G (by rw[B];rfl) (sl (s:=pure undef) fun a=>⟨_,by unfold execOp;rw[B],by
   unfold Instr.extract
   repeat(first|exact .pure _|exact .halt _|split)⟩)
 ·next y t B=>
  refine G (by rw[B];rfl) (cE fun M F ρ E h w O _ _=>?_)
  have D:=O y (by rw[B];simp[Op.operands,Call.operands])
  have hm:∀ r,E.eval y≠ .map r/\E.eval y≠ .chan r:=by
   intro r
   unfold Fv at e
   split at e
   ·next I=>rw[I]at D;cases D with |d _ _ h=>generalize E.eval y=q at h;cases h;exact⟨by simp,by simp⟩
   ·next I=>rw[I]at D;cases D with |d _ _ h=>generalize E.eval y=q at h;cases h<;>exact⟨by simp,by simp⟩
   ·next I=>rw[I]at D;generalize E.eval y=q at D;cases D<;>exact⟨by simp,by simp⟩
   ·next I=>rw[I]at D;rw[D.val];exact⟨by simp,by simp⟩
   ·next n hu I=>simp[ue,B,I]at J
   ·cases e
  have ev:execOp E.eval o=(do let x <-Builtin.len_ #[t] o.type #[E.eval y];pure (Next.value x):Sem Next):=by unfold execOp;rw[B];simp only[resolve,invoke,builtin,List.map_toArray,List.map_cons,List.map_nil];rfl
  rw[ev]
  refine .bind ?_ fun _=> .pure _
  unfold Builtin.len_
  refine .bind (.underlying _) fun d=>?_
  generalize X:(#[E.eval y]:Array Value)[0]=q
  have al:E.eval y=q:=X
  rw[al]at hm
  cases q with
  |map r=>exact absurd rfl (hm r).1
  |chan r=>exact absurd rfl (hm r).2
  |_=>cases d<;>(repeat(first|exact .pure _|exact .halt _|exact .underlying _|(refine .bind (.underlying _) fun _=>?_)|split))
 ·next a b t t' B=>
  split at e
  ·next ht=>have ht:=Nat.eq_of_beq_eq_true ht;subst ht;exact G (by rw[B];rfl) (A8 B e W)
  ·cases e
 ·next y z ts B=>
  refine G (by rw[B];rfl) (cE fun M F ρ E h w O _ _=>?_)
  have e1:=O y (by rw[B];simp[Op.operands,Call.operands])
  have e2:=O z (by rw[B];simp[Op.operands,Call.operands])
  unfold Fx at e
  split at e
  ·next k a k' b D V=>
   rw[D]at e1;rw[V]at e2
   have ev:execOp E.eval o=(do let x <-Builtin.min_ ts o.type #[E.eval y,E.eval z];pure (Next.value x):Sem Next):=by unfold execOp;rw[B];simp only[resolve,invoke,builtin,List.map_toArray,List.map_cons,List.map_nil];rfl
   rw[ev,e1.val,e2.val]
   simp only[Builtin.min_,List.foldlM_cons,List.foldlM_nil,Builtin.min2]
   exact .bind (.bind (.pure _) fun _=> .pure _) fun _=> .pure _
  ·cases e
 ·next y z ts B=>
  refine G (by rw[B];rfl) (cE fun M F ρ E h w O _ _=>?_)
  have e1:=O y (by rw[B];simp[Op.operands,Call.operands])
  have e2:=O z (by rw[B];simp[Op.operands,Call.operands])
  unfold Fy at e
  split at e
  ·next k a k' b D V=>
   rw[D]at e1;rw[V]at e2
   have ev:execOp E.eval o=(do let x <-Builtin.max_ ts o.type #[E.eval y,E.eval z];pure (Next.value x):Sem Next):=by unfold execOp;rw[B];simp only[resolve,invoke,builtin,List.map_toArray,List.map_cons,List.map_nil];rfl
   rw[ev,e1.val,e2.val]
   simp only[Builtin.max_,List.foldlM_cons,List.foldlM_nil,Builtin.max2]
   exact .bind (.bind (.pure _) fun _=> .pure _) fun _=> .pure _
  ·cases e
 ·next B=>simp[ue,B]at J
 ·next B=>simp[ue,B]at J
 ·next src dst y B=>
  split at e
  ·next x' U=>
   exfalso
   unfold lB at U
   split at U
   ·split at U
    ·split at U
     ·next s D=>simp[ue,B,D]at J
     ·cases U
    ·cases U
   ·cases U
  ·exact wa e
 ·next t y z t' _ B=>
  refine G (by rw[B];rfl) ?_
  unfold AT at e
  split at e
  ·next D V=>exact od B D V
  ·cases e
 ·next t y z t' _ B=>
  refine G (by rw[B];rfl) ?_
  unfold AT at e
  split at e
  ·next D V=>exact od B D V
  ·cases e
 ·next t y z t' B=>
  refine G (by rw[B];rfl) ?_
  unfold n6 at e
  split at e
  ·next D V=>exact od B D V
  ·cases e
 ·next t y z t' B=>
  refine G (by rw[B];rfl) ?_
  unfold n6 at e
  split at e
  ·next D V=>exact od B D V
  ·cases e
 ·exact wa e
theorem uf{C:Ctx}{nm:Nat}{o:Oper}{v:Operand->SV}{h:ar}{x:Out}(e:CU C nm o v h=some x)(k:x.1):
  bV C o nm v x.2.1 (fun u wr=>u=x.2.2.1/\wr=x.2.2.2)/\(∀ p,p∈x.2.1->h p.1=some p.2)/\cC x.2.1 nm x.2.2.2=true:=by
 unfold CU at e
 cases b:ue v o with
 |false=>rw[b]at e;cases e
 |true=>
  rw[b]at e
  obtain⟨B,D,E⟩:=qn e k
  obtain⟨g1,G⟩:=Hw e b k
  exact⟨.of B G g1,D,E⟩
section
variable {P:Program} {R Wr:Nat->Prop}
theorem wb{α β:Type}{body:α->β->Sem (ForInStep β)}:∀ (l:List α),(∀ a,a∈l->∀ acc w,At P R Wr (body a acc) w)->∀ (acc:β) (w:World),At P R Wr (forIn l acc body) w
 | [],_,acc,w=>by rw[List.forIn_nil];exact(Still.pure _).at
 |a::l,h,acc,w=>by
  rw[List.forIn_cons]
  refine .bind (h a (List.mem_cons_self ..) acc w) fun s w' _=>?_
  cases s with
  |done b=>exact(Still.pure _).at
  |yield b=>exact wb l (fun x e=>h x (List.mem_cons_of_mem _ e)) b w'
def lR:Value->Bool
 | .int .. | .string _| .bool _=>true
 |_=>false
theorem rU(d:Nat)(t:TypeId){x y:Value}(b:lR x=true)(k:lR y=true):Still P (Op.equalIn (d+1) t x y):=by
 unfold Op.equalIn
 refine .bind (.underlying t) fun e=>?_
 cases x<;>first|(cases b;done)|skip
 all_goals
  cases y<;>first|(cases k;done)|skip
 all_goals
  cases e<;>(repeat(first|exact .pure _|exact .halt _|contradiction|(simp at *;done)|split))
theorem oe{M:aD}{ρ:Names}{xs O:List SV}{U vs:Array Value}(W:RL M ρ xs U)(X:RL M ρ O vs):∀ (B:List Field) (b:Bool),l8 P xs O B=some b->∀ f,f∈B->f.name≠ "_" ->
  ∃ u v,eV P f.type=some false/\U[f.offset]? =some u/\vs[f.offset]? =some v/\lR u=true/\lR v=true
 | [],b,h,f,V,_=>by cases V
 |g::B,b,h,f,V,Y=>by
  simp only[l8]at h
  by_cases hg:g.name≠ "_"
  ·rw[if_pos hg]at h
   have rest:∀ {b'},l8 P xs O B=some b'->f≠g->∃ u v,eV P f.type=some false/\U[f.offset]? =some u/\vs[f.offset]? =some v/\lR u=true/\lR v=true:=fun h' D=>
    oe W X B _ h' f ((List.mem_cons.1 V).resolve_left D) Y
   have one:∀ {u v:Value} (td:TypeDesc),P.underlying g.type=some td->(∀ B,td≠ .struct B)->(∀ n e,td≠ .array n e)->xs[g.offset]? =some (.d (.val u))->O[g.offset]? =some (.d (.val v))->lR u=true->lR v=true->f=g->
     ∃ u v,eV P f.type=some false/\U[f.offset]? =some u/\vs[f.offset]? =some v/\lR u=true/\lR v=true:=by
    rintro u v td hd aa ah E G f1 f2 rfl
    obtain⟨q1,a1,a2⟩:=W.2 _ _ E
    obtain⟨q2,b1,b2⟩:=X.2 _ _ G
    rw[a2.val]at a1;rw[b2.val]at b1
    refine⟨u,v,?_,a1,b1,f1,f2⟩
    unfold eV;rw[hd]
    cases td<;>first|rfl|(exact absurd rfl (aa _))|(exact absurd rfl (ah _ _))
   split at h
   ·next k0 k a k' b' I E G=>
    split at h
    ·obtain⟨r,J,_⟩:=Option.map_eq_some_iff.1 h
     by_cases e:f=g
     ·exact one _ I (by simp) (by simp) E G rfl rfl e
     ·exact rest J e
    ·cases h
   ·next a b' I E G=>
    obtain⟨r,J,_⟩:=Option.map_eq_some_iff.1 h
    by_cases e:f=g
    ·exact one _ I (by simp) (by simp) E G rfl rfl e
    ·exact rest J e
   ·next a b' I E G=>
    obtain⟨r,J,_⟩:=Option.map_eq_some_iff.1 h
    by_cases e:f=g
    ·exact one _ I (by simp) (by simp) E G rfl rfl e
    ·exact rest J e
   ·cases h
  ·rw[if_neg hg]at h
   have D:f≠g:=by rintro rfl;exact hg Y
   exact oe W X B b h f ((List.mem_cons.1 V).resolve_left D) Y
theorem wc{M:aD}{ρ:Names}{xs J:List SV}{B vs:Array Value}(U:RL M ρ xs B)(V:RL M ρ J vs){t:TypeId}{D:Array Field}(E:P.underlying t=some (.struct D)){b:Bool}(W:l8 P xs J D.toList=some b)(w:World):At P R Wr (Op.equal t (.agg B) (.agg vs)) w:=by
 unfold Op.equal Op.maxDepth
 rw[show(10000:Nat)=9998+1+1 from rfl]
 unfold Op.equalIn
 refine .bind (Still.underlying t).at fun d G e=>?_
 rw[run_underlying E]at e
 cases e
 dsimp only
 refine .bind Still.program.at fun p w2 I=>?_
 cases I
 have O:∀ (f:Field) (cs:Array Value) (z:Value),eV P f.type=some false->cs[f.offset]? =some z->∀ w,(part f.type cs f.offset).run P w= .ok z w:=by
  intro f cs z k X w
  simp[part,ew k,X]
 split
 ·exact .bind (Still.halt _).at fun _ w' h=>by simp only[unsupported,Sem.run]at h;cases h
 ·refine .bind ?_ fun s w' _=>?_
  ·rw[<-Array.forIn_toList]
   refine wb _ (fun f Y acc w=>?_) _ w
   split
   ·next hn=>
    obtain⟨u,v,k,e,I,h3,h4⟩:=oe U V D.toList b W f Y hn
    refine .bind (Still.part _ _ _).at fun x G e1=>?_
    rw[O f B u k e]at e1;cases e1
    refine .bind (Still.part _ _ _).at fun y G e1=>?_
    rw[O f vs v k I]at e1;cases e1
    refine .bind (rU 9998 f.type h3 h4).at fun r G _=>?_
    split <;>exact(Still.pure _).at
   ·exact(Still.pure _).at
  ·split <;>exact(Still.pure _).at
theorem m6{C:Ctx}{o:Oper}{nm:Nat}{v:Operand->SV}{op:BinOp}{t Y:TypeId}{y z:Operand}(B:o.op= .binOp op t y z Y){xs I:List SV}(J:v y= .agg xs)(O:v z= .agg I){U:Array Field}
  (e:C.P.underlying t=some (.struct U)) (hp:C.P.stoodInHeld t=false) (hm:C.P.eqGuardType C.P.depth t=false) {b:Bool} (E:l8 C.P xs I U.toList=some b) {r:Bool} (k:(op= .eql/\r=b)\/(op= .neq/\r= !b)):
  bV C o nm v [] (fun x w=>x=SV.b r/\w= []):=by
 refine .of (vM B J O e hp hm E k) (kG.plain (by rw[B];rfl)) (pQ fun M F ρ a h w V hH _=>?_)
 have e1:=V y (by rw[B];exact aP (.inl rfl));rw[J]at e1
 have W:=V z (by rw[B];exact aP (.inr rfl));rw[O]at W
 obtain⟨us,q1,r1⟩:=fY e1
 obtain⟨vs,q2,X⟩:=fY W
 unfold execOp
 rw[B]
 dsimp only
 rw[q1,q2]
 have hg:At C.P (fun b=>M b≠none\/iX ρ h b) (fun b=>iX ρ h b) (eqGuard op t y z (.agg us) (.agg vs)) w:=by
  rcases k with⟨rfl,_⟩|⟨rfl,_⟩<;>
  ·unfold eqGuard
   simp only[Bool.not_true,Bool.false_eq_true,if_false]
   refine .bind Still.program.at fun p D G=>?_
   cases G
   refine .bind Still.program.at fun p D G=>?_
   cases G
   rw[hm]
   exact(Still.pure _).at
 refine .bind (.bind hg fun _ D _=>?_) fun _ _ _=>(Still.pure _).at
 rcases k with⟨rfl,_⟩|⟨rfl,_⟩
 ·simp only[binOp]
  exact .bind (wc r1 X e E D) fun _ _ _=>(Still.pure _).at
 ·simp only[binOp]
  exact .bind (wc r1 X e E D) fun _ _ _=>(Still.pure _).at
end
section
variable {P:Program} {w:World}
theorem iN{a:Act}{o:Oper}{x:Operand}{b:Array Operand}{B:Array TypeId}(D:o.op= .call {callee:= .value x,args:=b,argTypes:=B}){f:FuncId}{vs:Array Value}(E:a.eval x= .func (.func f) #[] vs){fn:Func}(G:P.funcs[f]? =some fn)(k:fE fn=true):
  (execOp a.eval o).run P w= .ok (.enter f (b.map a.eval++vs)) w/\(execOp a.eval o).events P w #[]= #[]:=by
 simp only[fE,Bool.and_eq_true,Bool.not_eq_true']at k
 obtain⟨v,I⟩:=k
 have v:fn.name≠ "runtime.NumGoroutine" :=by simpa using v
 have J:fn.body≠none:=by intro e;rw[e]at I;cases I
 exact⟨by simp[execOp,D,resolve,E,Deferred.ofValue,invoke,callFunc,G,v,J],by simp[execOp,D,resolve,E,Deferred.ofValue,invoke,callFunc,G,v,J]⟩
end
open Classical in
noncomputable def jB(A:aI)(Fc:aD):aD:=fun b=>if A b then Fc b else none
theorem A9{A Rd:aI}{M F:aD}{ρ:Names}{h:ar}{π:List Nat}{w:World}(f:Fit A Rd F M w)(H:HR M (ext A Rd F w) ρ h w):
  bF M (ext A Rd F w) ρ h π w=ext A Rd (jB A (bF M (ext A Rd F w) ρ h π w)) w:=by
 funext b
 by_cases k:A b
 ·rw[cm (.inl k)];unfold jB;rw[if_pos k]
 ·have B:F b=none:=by
   cases e:F b with
   |none=>rfl
   |some o=>exact absurd (f.fa b (by rw[e];simp)) k
  by_cases v:Rd b
  ·rw[cm (.inr v)]
   unfold jB
   rw[if_neg k]
   unfold bF
   rw[cm (.inr v),B,if_neg (by simp),if_neg (fun h=>f.rm b v h.1)]
  ·have e: ¬ (A b\/Rd b):=fun h=>h.elim k v
   rw[c8 e]
   unfold bF
   rw[c8 e]
   cases D:w.heap[b]? with
   |none=>simp
   |some o=>simp
theorem mX{C:Ctx}{o:Oper}{nm:Nat}{v:Operand->SV}{x:Operand}{B:Array Operand}{a5:Array TypeId}(ho:o.op= .call {callee:= .value x,args:=B,argTypes:=a5}){f:FuncId}{aZ:List SV}(hx:v x= .fn f aZ)
  {fn:Func} (hf:C.P.funcs[f]? =some fn) (a6:fE fn=true) {args:List SV} {E:List aB} {post:SV->List (Option aB)->Prop} (hF:Spec C.P C.G f args E post) (π:List Nat) (W:fZ v B.toList++aZ=gV π args)
  (side:(Nat.beq π.length E.length&&(bK π&&(aW E.length (E.map some)&&cS E.length args)))=true):
  bV C o nm v (gG π π E) (fun u wr=>∃ r ae I,post r ae/\I=π++ay nm (ae.length-E.length)/\u=du I r/\wr=c9 I I ae):=by
 simp only[Bool.and_eq_true]at side
 obtain⟨s1,s2,s3,s4⟩:=side
 have s1:=Nat.eq_of_beq_eq_true s1
 intro K A F M ρ a h w J hv hG hH av a7 gd b ops i rest k cs ax hw D hk
 have a0:=hv x (by rw[ho];simp[Op.operands,Call.operands])
 rw[hx]at a0
 obtain⟨vs,hq,bl,a8⟩:=jy a0
 have a1:=kA (M:=M) (ρ:=ρ) (a:=a) (v:=v) (xs:=B) (fun y hy=>hv y (by rw[ho];simp[Op.operands,Call.operands,hy]))
 have U:args.length=B.size+vs.size:=by
  have :=congrArg List.length W
  rw[List.length_append,cd,bM,Array.length_toList]at this
  omega
 refine K.step A _ w rfl fun af X=>?_
 obtain⟨a2,ba⟩:=iN (P:=C.P) (w:=af) (a:=a) ho hq hf a6
 have hl:listed C.P b.fn a o af= #[]:=by unfold listed;rw[ba];exact seen_none _ _
 refine⟨_,af,#[],(stepG_enter (o:={o with guard:=gd}) ax hw D a2).trans (by rw[show listed C.P b.fn a {o with guard:=gd} af=listed C.P b.fn a o af from rfl,hl]),mc.idle af,?_⟩
 rw[dp]
 have H1:=lD hH J X
 have f1:=kF J X
 have E:=FE H1 s1 s2 av s3
 rw[A9 f1 H1]at E
 generalize al:jB A (bF M (ext A K.Rd F af) ρ h π af)=F2 at E
 have f2:Fit A K.Rd F2 M af:=⟨fun b D=>by
  subst al
  unfold jB at D
  by_cases O:A b
  ·exact O
  ·rw[if_neg O]at D;exact absurd rfl D,f1.rm,f1.lt⟩
 have Y:∀ b,A b->F2 b=bF M (ext A K.Rd F af) ρ h π af b:=fun b D=>by subst al;unfold jB;rw[if_pos D]
 have bh:∀ b,¬ A b->F2 b=none:=fun b D=>by subst al;unfold jB;rw[if_neg D]
 refine hF K A F2 M (back π ρ) (B.map a.eval++vs) af f2 hG E (by simp[U]) ?_ ?_ _ cs ?_
 ·intro i y hy
  have aa:(fZ v B.toList++aZ)[i]? =some (du π y):=by rw[W,dX,hy];rfl
  have a3:y.under π.length=true:=by rw[s1];exact cU _ args s4 i y hy
  by_cases hi:i<B.size
  ·rw[List.getElem?_append_left (by rw[cd,Array.length_toList];exact hi)]at aa
   obtain⟨u,u1,u2⟩:=a1.2 i _ aa
   exact⟨u,by rw[Array.getElem?_append_left (by simpa using hi)];exact u1,u2.back y rfl a3⟩
  ·rw[List.getElem?_append_right (by rw[cd,Array.length_toList];omega),cd,Array.length_toList]at aa
   obtain⟨u,u1,u2⟩:=a8 _ _ aa
   exact⟨u,by rw[Array.getElem?_append_right (by simp;omega)];simpa using u1,u2.back y rfl a3⟩
 ·intro n hn
  have :π[n]? =none:=by rw[List.getElem?_eq_none_iff,s1];exact hn
  simp[back,this]
 ·intro A' M' aq r ae u w' k1 k2 k3 k4 k5 k6 k7 k8 k9
  have ah:∀ b,F b≠none->A b:=J.fa
  obtain⟨bc,I,e1,e2,e3,e4,e5⟩:=CP (M':=M') (Fs:=ext A K.Rd F af) (Fe:=ext A' K.Rd F w') (Fc:=ext A' K.Rd F2 w') (nm:=nm) (r:=r) (ae:=ae) (u:=u) H1 s1 s2 av s3 a7
   (fun b o D=>by
    by_cases e:A' b\/K.Rd b
    ·rw[cm e]at D ⊢
     have O:=ah b (by rw[D];simp)
     rw[Y b O]
     unfold bF
     rw[cm (.inl O),D,if_pos (by simp)]
    ·rw[c8 e]at D ⊢;exact D)
   (fun b D=>by
    by_cases e:A' b\/K.Rd b
    ·rw[cm e]at D ⊢
     cases a4:F b with
     |none=>rfl
     |some o=>
      have O:=ah b (by rw[a4];simp)
      rw[Y b O]at D
      unfold bF at D
      rw[cm (.inl O),a4,if_pos (by simp)]at D
      cases D
    ·rw[c8 e]at D ⊢;exact D)
   (fun b o D hM V=>by
    have O:=m4 f1 hM V D
    rw[cm (.inl (k1 b O))]
    rw[cm (.inl O)]at V
    exact V)
   (fun b o D hM V hp=>by
    have O:=m4 f1 hM V D
    rw[cm (.inl (k1 b O)),Y b O]
    unfold bF
    rw[if_neg (by rw[V];simp),if_pos ⟨hM,hp⟩]
    exact D)
   k2 k3 k4 k6 k7
  have :=hk A' M' bc (du I r) (c9 I I ae) u w' k1 k2 e2 e3 ⟨r,ae,I,k9,e1,rfl,rfl⟩ e4 ⟨fun b D=>k1 b (J.fa b D),k5.rm,k5.lt⟩ e5 (X.same.trans k8)
  rw[Frame.finish_at,ax]
  exact this
theorem st{C:Ctx}{ops:List Oper}{i:Nat}{o:Oper}{l:List Oper}{σ:St}{acc:Option (List FP)}{K:St->Prop}{vc:Prop}{bs:List (Nat×aB)}{u:SV}{wr:List (Nat×Option aB)}
  (v:o.guard=none) (hd:aM C o=true) (e:CU C (σ.nx+8*i) o (bE C σ.t) σ.h=some (vc,bs,u,wr)) (b:vc)
  (k:an C ops (i+1) l (σ.app o.dst u wr) (acc.map (· ++ [(bs.map (·.1),wr.map (·.1))])) K):an C ops i (o::l) σ acc K:=by
 obtain⟨B,D,E⟩:=uf e b
 unfold an
 exact .inl ⟨_,_,⟨hd, .inl ⟨by simp[mP,v],bs,u,wr,B,D,E,rfl,rfl⟩⟩,k⟩
theorem cp{C:Ctx}{ops:List Oper}{i:Nat}{o:Oper}{l:List Oper}{σ:St}{acc:Option (List FP)}{K:St->Prop}{bs:List (Nat×aB)}{u:SV}{wr:List (Nat×Option aB)}
  (v:o.guard=none) (hd:aM C o=true) (b:bV C o (σ.nx+8*i) (bE C σ.t) bs (fun x y=>x=u/\y=wr)) (e:∀ p,p∈bs->σ.h p.1=some p.2) (B:cC bs (σ.nx+8*i) wr=true)
  (k:an C ops (i+1) l (σ.app o.dst u wr) (acc.map (· ++ [(bs.map (·.1),wr.map (·.1))])) K):an C ops i (o::l) σ acc K:=by
 unfold an
 exact .inl ⟨_,_,⟨hd, .inl ⟨by simp[mP,v],bs,u,wr,b,e,B,rfl,rfl⟩⟩,k⟩
theorem kC{C:Ctx}{ops:List Oper}{i:Nat}{o:Oper}{l:List Oper}{σ:St}{acc:Option (List FP)}{K:St->Prop}{j:Nat}{want:Bool}{s:Tmp}{b:Bool}
  (I:o.guard=some (j,want)) (J:eD ops j=some s) (E:σ.t s=SV.b b)
  (on:b=want->an C ops i ({o with guard:=none}::l) ⟨upd σ.t s (SV.b want),σ.h,σ.nx⟩ acc K)
  (off:b= !want->an C ops (i+1) l (St.app ⟨upd σ.t s (SV.b !want),σ.h,σ.nx⟩ o.dst (.bA []) []) (acc.map (· ++ [([],[])])) K) (hd:aM C o=true):an C ops i (o::l) σ acc K:=by
 have same:upd σ.t s (SV.b b)=σ.t:=by
  funext k;rw[az];split
  ·next e=>subst e;exact E.symm
  ·rfl
 by_cases h:b=want
 ·have :=on h
  rw[<-h,same]at this
  unfold an at this ⊢
  have D:∀ {nm:Nat} {v:Operand->SV} {bs G},bV C {o with guard:=none} nm v bs G->bV C o nm v bs G:=fun B=>B
  rcases this with⟨W,aF,⟨O,X⟩,Y⟩|⟨h0,O,hgo,bs,G,B,U,hn⟩
  ·refine .inl ⟨W,aF,⟨hd,?_⟩,Y⟩
   rcases X with⟨_,bs,u,wr,B,rest⟩|⟨V,_⟩
   ·exact .inl ⟨by unfold mP;rw[I];exact⟨s,J,by rw[E,h]⟩,bs,u,wr,D B,rest⟩
   ·simp[iO]at V
  ·exact .inr ⟨h0,hd,by unfold mP;rw[I];exact⟨s,J,by rw[E,h]⟩,bs,G,D B,U,hn⟩
 ·have h':b= !want:=by cases b<;>cases want<;>simp_all
  have :=off h'
  rw[<-h',same]at this
  unfold an
  refine .inl ⟨([],[]),_,⟨hd, .inr ⟨?_,rfl,rfl⟩⟩,this⟩
  unfold iO;rw[I];exact⟨s,J, .inl (by rw[E,h'])⟩
theorem mY{C:Ctx}{ops:List Oper}{i:Nat}{o:Oper}{l:List Oper}{σ:St}{acc:Option (List FP)}{K:St->Prop}{x:Operand}{B:Array Operand}{E:Array TypeId}{f:FuncId}{aZ:List SV}{fn:Func}{args:List SV}{e:List aB}{r:SV}{ae:List (Option aB)}
  (π:List Nat) (X:Spec C.P C.G f args e (fun W I=>W=r/\I=ae)) (Y:o.guard=none) (hd:aM C o=true) (I:o.op= .call {callee:= .value x,args:=B,argTypes:=E}) (hx:bE C σ.t x= .fn f aZ) (hf:C.P.funcs[f]? =some fn) (J:fE fn=true)
  (D:fZ (bE C σ.t) B.toList++aZ=gV π args)
  (side:(Nat.beq π.length e.length&&(bK π&&(aW e.length (e.map some)&&cS e.length args)))=true)
  (v:(Nat.ble e.length ae.length&&Nat.ble ae.length (e.length+8))=true)
  (O:fJ σ.h (gG π π e))
  (k:an C ops (i+1) l (σ.app o.dst (du (π++ay (σ.nx+8*i) (ae.length-e.length)) r) (c9 (π++ay (σ.nx+8*i) (ae.length-e.length)) (π++ay (σ.nx+8*i) (ae.length-e.length)) ae))
   (acc.map (· ++ [((gG π π e).map (·.1),(c9 (π++ay (σ.nx+8*i) (ae.length-e.length)) (π++ay (σ.nx+8*i) (ae.length-e.length)) ae).map (·.1))])) K):an C ops i (o::l) σ acc K:=by
 have U:=mX (nm:=σ.nx+8*i) I hx hf J X π D side
 simp only[Bool.and_eq_true]at side v
 refine cp Y hd (fun K A F M ρ a h w h0 h1 h2 h3 h4 h5 gd b ops i rest k cs V hw hb hK=>U K A F M ρ a h w h0 h1 h2 h3 h4 h5 gd b ops i rest k cs V hw hb fun A' M' aq u wr u' w' g0 g1 g2 g3 g4=>hK A' M' aq u wr u' w' g0 g1 g2 g3 ?_) (eW O) (pa (Nat.eq_of_beq_eq_true side.1) ae (Nat.le_of_ble_eq_true v.2) (Nat.le_of_ble_eq_true v.1)) k
 obtain⟨W,aa,ah,⟨rfl,rfl⟩,rfl,rfl,rfl⟩:=g4
 exact⟨rfl,rfl⟩
theorem qo{C:Ctx}{c:Code}{Q:Exit->St->Prop}{σ:St}(s n len:Nat){ty k L:Nat}{f:Nat->Nat->D}(B:σ.t s= .sl n 0 len)(E:σ.h n=some (.rows ty k L f))(hl:len<=L)
  (h:W C c Q ⟨upd σ.t s (.d (.vec k len f)),upd σ.h n none,σ.nx⟩):W C c Q σ:=by
 refine me (fun M F pin ρ a w b=>?_) h
 have v:=b.tm s
 rw[B]at v
 obtain⟨M',g1,G,I⟩:=HR.still b.hr E hl v
 refine⟨M',ρ,g1,⟨⟨fun j=>?_,b.sz,b.df,G,b.pn,b.pm,fun g ρ=>(b.gl g ρ).mono g1 (Names.le_refl _)⟩,b.fr⟩⟩
 show VR M' ρ (upd σ.t s _ j) _
 rw[az]
 split
 ·next e=>subst e;exact I
 ·exact(b.tm j).mono g1 (Names.le_refl _)
def gH(C:Ctx)(nm:Nat)(o:Oper)(v:Operand->SV)(h:ar):Option (Prop×List (Nat×aB)×SV×List (Nat×Option aB)×ar):=
 match CU C nm o v h with
 |some (vc,bs,u,wr)=>match u.hd,rQ h wr with
  |some u',some h'=>some (vc,bs,u',wr,h')
  |_,_=>none
 |none=>none
theorem dM{C:Ctx}{nm:Nat}{o:Oper}{v:Operand->SV}{h h':ar}{vc:Prop}{bs:List (Nat×aB)}{u:SV}{wr:List (Nat×Option aB)}(e:gH C nm o v h=some (vc,bs,u,wr,h')):CU C nm o v h=some (vc,bs,u,wr)/\dB h wr=h':=by
 unfold gH at e
 split at e
 ·next k B u' D b=>
  split at e
  ·next I J E G=>
   cases e
   rw[SV.bD E]at b
   exact⟨b,ir G⟩
  ·cases e
 ·cases e
section
variable {C:Ctx} {ops:List Oper} {i:Nat} {o:Oper} {l:List Oper} {t:Nat->SV} {h h':ar} {nx:Nat} {K:St->Prop} {vc:Prop} {bs:List (Nat×aB)} {u:SV} {wr:List (Nat×Option aB)} {acc:List FP}
theorem s1(d nm D:Nat)(E:i+1=D)(v:nx+8*i=nm)(G:o.guard=none)(b:o.dst=some d)(hd:Nat.blt d C.sz=true)(e:gH C nm o (bE C t) h=some (vc,bs,u,wr,h'))(B:vc)
  (k:an C ops D l ⟨upd t d u,h',nx⟩ none K):an C ops i (o::l) ⟨t,h,nx⟩ none K:=by
 subst E;subst v
 obtain⟨e1,I⟩:=dM e
 refine st (σ:=⟨t,h,nx⟩) G (by unfold aM;rw[b];exact hd) e1 B ?_
 unfold St.app;rw[b,I];exact k
theorem s0(nm D:Nat)(E:i+1=D)(v:nx+8*i=nm)(G:o.guard=none)(b:o.dst=none)(e:gH C nm o (bE C t) h=some (vc,bs,u,wr,h'))(B:vc)
  (k:an C ops D l ⟨t,h',nx⟩ none K):an C ops i (o::l) ⟨t,h,nx⟩ none K:=by
 subst E;subst v
 obtain⟨e1,I⟩:=dM e
 refine st (σ:=⟨t,h,nx⟩) G (by unfold aM;rw[b]) e1 B ?_
 unfold St.app;rw[b,I];exact k
theorem d1(d nm D:Nat)(E:i+1=D)(v:nx+8*i=nm)(G:o.guard=none)(b:o.dst=some d)(hd:Nat.blt d C.sz=true)(e:gH C nm o (bE C t) h=some (vc,bs,u,wr,h'))(B:vc)
  (k:an C ops D l ⟨upd t d u,h',nx⟩ (some (acc++ [(bs.map (·.1),wr.map (·.1))])) K):an C ops i (o::l) ⟨t,h,nx⟩ (some acc) K:=by
 subst E;subst v
 obtain⟨e1,I⟩:=dM e
 refine st (σ:=⟨t,h,nx⟩) G (by unfold aM;rw[b];exact hd) e1 B ?_
 unfold St.app;rw[b,I];exact k
theorem d0(nm D:Nat)(E:i+1=D)(v:nx+8*i=nm)(G:o.guard=none)(b:o.dst=none)(e:gH C nm o (bE C t) h=some (vc,bs,u,wr,h'))(B:vc)
  (k:an C ops D l ⟨t,h',nx⟩ (some (acc++ [(bs.map (·.1),wr.map (·.1))])) K):an C ops i (o::l) ⟨t,h,nx⟩ (some acc) K:=by
 subst E;subst v
 obtain⟨e1,I⟩:=dM e
 refine st (σ:=⟨t,h,nx⟩) G (by unfold aM;rw[b]) e1 B ?_
 unfold St.app;rw[b,I];exact k
theorem g1{A:Option (List FP)}(j:Nat)(want:Bool)(s d:Nat)(k:Nat)(E:i+1=k)(v:o.guard=some (j,want))(B:eD ops j=some s)(D:t s=SV.b want)(hd:aM C o=true)
  (on:an C ops i ({o with guard:=none}::l) ⟨upd t s (SV.b want),h,nx⟩ A K):an C ops i (o::l) ⟨t,h,nx⟩ A K:=by
 refine kC (σ:=⟨t,h,nx⟩) v B D (fun _=>on) (fun e=>?_) hd
 cases want<;>simp at e
theorem g0{A:Option (List FP)}(j:Nat)(want:Bool)(s d:Nat)(B:Nat)(E:i+1=B)(G:o.guard=some (j,want))(I:eD ops j=some s)(D:t s=SV.b (!want))(v:o.dst=some d)(hd:Nat.blt d C.sz=true)
  (off:an C ops B l ⟨upd t d (.bA []),h,nx⟩ (A.map (· ++ [([],[])])) K):an C ops i (o::l) ⟨t,h,nx⟩ A K:=by
 subst E
 have same:upd t s (SV.b (!want))=t:=by
  funext k;rw[az];split
  ·next e=>subst e;exact D.symm
  ·rfl
 refine kC (σ:=⟨t,h,nx⟩) G I D (fun e=>?_) (fun _=>?_) (by unfold aM;rw[v];exact hd)
 ·cases want<;>simp at e
 ·unfold St.app;rw[same,v];exact off
theorem ask{A:Option (List FP)}(s:Nat){b:Bool}(v:(t s).hd=some (SV.b b))(on:b=true->an C ops i l ⟨upd t s (SV.b true),h,nx⟩ A K)(off:b=false->an C ops i l ⟨upd t s (SV.b false),h,nx⟩ A K):an C ops i l ⟨t,h,nx⟩ A K:=by
 have v:=SV.bD v
 have same:upd t s (SV.b b)=t:=by
  funext k;rw[az];split
  ·next e=>subst e;exact v.symm
  ·rfl
 cases b with
 |true=>rw[<-same];exact on rfl
 |false=>rw[<-same];exact off rfl
theorem c1{f:FuncId}{args:List SV}{b:List aB}{r:SV}{ae:List (Option aB)}(Y:Spec C.P C.G f args b (fun I J=>I=r/\J=ae)){x:Operand}{e:Array Operand}{O:Array TypeId}{aZ:List SV}{fn:Func}{I:SV}
  (π v:List Nat) (d nm X:Nat) (hi:i+1=X) (U:nx+8*i=nm) (hp:π++ay nm (ae.length-b.length)=v) (hg:o.guard=none) (B:o.dst=some d) (hd:Nat.blt d C.sz=true) (J:o.op= .call {callee:= .value x,args:=e,argTypes:=O}) (hx:bE C t x= .fn f aZ) (hf:C.P.funcs[f]? =some fn) (V:fE fn=true)
  (D:fZ (bE C t) e.toList++aZ=gV π args) (side:(Nat.beq π.length b.length&&(bK π&&(aW b.length (b.map some)&&cS b.length args)))=true)
  (E:(Nat.ble b.length ae.length&&Nat.ble ae.length (b.length+8))=true) (W:fJ h (gG π π b)) (hr:(du v r).hd=some I) (hw:rQ h (c9 v v ae)=some h')
  (k:an C ops X l ⟨upd t d I,h',nx⟩ none K):an C ops i (o::l) ⟨t,h,nx⟩ none K:=by
 subst hi;subst U;subst hp
 refine mY (σ:=⟨t,h,nx⟩) π Y hg (by unfold aM;rw[B];exact hd) J hx hf V D side E W ?_
 unfold St.app;rw[B,SV.bD hr,ir hw];exact k
theorem Fg{f:FuncId}{args:List SV}{b:List aB}{r:SV}{ae:List (Option aB)}(Y:Spec C.P C.G f args b (fun I J=>I=r/\J=ae)){x:Operand}{v:Array Operand}{O:Array TypeId}{aZ:List SV}{fn:Func}{I:SV}
  (π e:List Nat) (d nm X:Nat) (hi:i+1=X) (U:nx+8*i=nm) (hp:π++ay nm (ae.length-b.length)=e) (hg:o.guard=none) (B:o.dst=some d) (hd:Nat.blt d C.sz=true) (J:o.op= .call {callee:= .value x,args:=v,argTypes:=O}) (hx:bE C t x= .fn f aZ) (hf:C.P.funcs[f]? =some fn) (V:fE fn=true)
  (D:fZ (bE C t) v.toList++aZ=gV π args) (side:(Nat.beq π.length b.length&&(bK π&&(aW b.length (b.map some)&&cS b.length args)))=true)
  (E:(Nat.ble b.length ae.length&&Nat.ble ae.length (b.length+8))=true) (W:fJ h (gG π π b)) (hr:(du e r).hd=some I) (hw:rQ h (c9 e e ae)=some h')
  (k:an C ops X l ⟨upd t d I,h',nx⟩ (some (acc++ [((gG π π b).map (·.1),(c9 e e ae).map (·.1))])) K):an C ops i (o::l) ⟨t,h,nx⟩ (some acc) K:=by
 subst hi;subst U;subst hp
 refine mY (σ:=⟨t,h,nx⟩) π Y hg (by unfold aM;rw[B];exact hd) J hx hf V D side E W ?_
 unfold St.app;rw[B,SV.bD hr,ir hw];exact k
theorem J8{op:BinOp}{ty v:TypeId}{y z:Operand}{xs I:List SV}{J:Array Field}{b r:Bool}(d nm O:Nat)(U:i+1=O)(B:nx+8*i=nm)(V:o.guard=none)(e:o.dst=some d)(hd:Nat.blt d C.sz=true)(W:o.op= .binOp op ty y z v)
  (X:bE C t y= .agg xs) (Y:bE C t z= .agg I) (D:C.P.underlying ty=some (.struct J)) (E:C.P.stoodInHeld ty=false) (hm:C.P.eqGuardType C.P.depth ty=false) (hb:l8 C.P xs I J.toList=some b) (G:(op= .eql/\r=b)\/(op= .neq/\r= !b))
  (k:an C ops O l ⟨upd t d (SV.b r),h,nx⟩ none K):an C ops i (o::l) ⟨t,h,nx⟩ none K:=by
 subst U;subst B
 refine cp (σ:=⟨t,h,nx⟩) V (by unfold aM;rw[e];exact hd) (m6 W X Y D E hm hb G) (fun p E=>by cases E) rfl ?_
 unfold St.app;rw[e];exact k
theorem J9{op:BinOp}{ty v:TypeId}{y z:Operand}{xs I:List SV}{J:Array Field}{b r:Bool}(d nm O:Nat)(U:i+1=O)(B:nx+8*i=nm)(V:o.guard=none)(e:o.dst=some d)(hd:Nat.blt d C.sz=true)(W:o.op= .binOp op ty y z v)
  (X:bE C t y= .agg xs) (Y:bE C t z= .agg I) (D:C.P.underlying ty=some (.struct J)) (E:C.P.stoodInHeld ty=false) (hm:C.P.eqGuardType C.P.depth ty=false) (hb:l8 C.P xs I J.toList=some b) (G:(op= .eql/\r=b)\/(op= .neq/\r= !b))
  (k:an C ops O l ⟨upd t d (SV.b r),h,nx⟩ (some (acc++ [([],[])])) K):an C ops i (o::l) ⟨t,h,nx⟩ (some acc) K:=by
 subst U;subst B
 refine cp (σ:=⟨t,h,nx⟩) V (by unfold aM;rw[e];exact hd) (m6 W X Y D E hm hb G) (fun p E=>by cases E) rfl ?_
 unfold St.app;rw[e];exact k
end
section
variable {C:Ctx} {ops:List Oper} {i:Nat} {o:Oper} {l:List Oper} {t:Nat->SV} {h h':ar} {nx:Nat} {K:St->Prop} {acc:List FP}
theorem e1(b:Nat)(e:nx+8*ops.length=b)(k:K ⟨t,h,b⟩):an C ops i [] ⟨t,h,nx⟩ none K:=by subst e;exact⟨trivial,k⟩
theorem iT(b:Nat)(e:nx+8*ops.length=b)(v:p8 ops acc=true)(k:K ⟨t,h,b⟩):an C ops i [] ⟨t,h,nx⟩ (some acc) K:=by subst e;exact⟨v,k⟩
end
section
variable {C:Ctx} {Q:Exit->St->Prop} {σ:St}
theorem r1{id:Nat}{ops:Array Oper}{y:Code}(k:an C ops.toList 0 ops.toList σ none (fun aF=>W C y Q aF)):W C (.seq (.region id ops false) y) Q σ:=ai (fX k)
theorem r0{id:Nat}{ops:Array Oper}(k:an C ops.toList 0 ops.toList σ none (fun aF=>Q .normal aF)):W C (.region id ops false) Q σ:=fX k
theorem kD{id:Nat}{ops:Array Oper}{y:Code}(hm:C.P.follows .mixedOrders=true)(k:an C ops.toList 0 ops.toList σ (some []) (fun aF=>W C y Q aF)):W C (.seq (.region id ops true) y) Q σ:=ai (dI hm k)
theorem rd0{id:Nat}{ops:Array Oper}(hm:C.P.follows .mixedOrders=true)(k:an C ops.toList 0 ops.toList σ (some []) (fun aF=>Q .normal aF)):W C (.region id ops true) Q σ:=dI hm k
theorem q1{t:Nat->SV}{h:ar}{nx:Nat}{c:Operand}{x y:Code}{b:Bool}(e:(bE C t c).hd=some (SV.b b))(k:b=true->W C x Q ⟨t,h,nx⟩)(v:b=false->W C y Q ⟨t,h,nx⟩):W C (.cond c x y) Q ⟨t,h,nx⟩:=
 xS (σ:=⟨t,h,nx⟩) (SV.bD e) k v
theorem ab{t:Nat->SV}{h:ar}{nx:Nat}{c:Code}(v:List Nat){l:List (Nat×SV)}(e:mZ t v=some l)(k:W C c Q ⟨dG l,h,nx⟩):W C c Q ⟨t,h,nx⟩:=by
 refine me (fun M F pin ρ a w b=>?_) k
 refine⟨M,ρ,aD.le_refl _,⟨⟨fun n=>?_,b.sz,b.df,b.hr,b.pn,b.pm,b.gl⟩,b.fr⟩⟩
 rcases iU e n with h|h
 ·show VR M ρ (dG l n) _;rw[h];exact .any _
 ·show VR M ρ (dG l n) _;rw[h];exact b.tm n
theorem start{P:Program}{G:Nat->SV}{f:FuncId}{fn:Func}{c:Code}{args:List SV}{b:List aB}{post:SV->List (Option aB)->Prop}(e m:Nat)(v:P.funcs[f]? =some fn)(B:fn.body=some c)(k:fn.ntmps=e)(hm:b.length=m)
  (D:Nat.ble args.length e=true) (h:W ⟨P,e,m,G⟩ c (iP ⟨P,e,m,G⟩ fn post) ⟨dG (iE 0 args),dC (b.map some),m⟩):Spec P G f args b post:=by
 subst k;subst hm
 refine qa v B D ?_
 unfold fg
 rw[List.length_map]
 exact h
end
theorem su{C:Ctx}{o:Oper}{nm:Nat}{v:Operand->SV}{op:BinOp}{ty e:TypeId}{y z:Operand}{a b r:Int}(k:o.op= .binOp op ty y z e)(D:(v y).hd=some (SV.i a))(E:(v z).hd=some (SV.i b))(G:arith op a b=some r)(B:aj r):
 bV C o nm v [] (fun x w=>x=SV.i r/\w= []):= .of (qp k D E G B) (kG.plain (by rw[k];rfl)) (od k (SV.bD D) (SV.bD E))
theorem qB{C:Ctx}{o:Oper}{nm:Nat}{v:Operand->SV}{op:BinOp}{ty e:TypeId}{y z:Operand}{a b r:Int}(k:o.op= .binOp op ty y z e)(D:(v y).hd=some (SV.i a))(E:(v z).hd=some (SV.i b))(G:n9 op a b=some r)(B:0<=a/\a<=9223372036854775807/\0<b):
 bV C o nm v [] (fun x w=>x=SV.i r/\w= []):= .of (sk k D E G B) (kG.plain (by rw[k];rfl)) (od k (SV.bD D) (SV.bD E))
section
variable {C:Ctx} {ops:List Oper} {i:Nat} {o:Oper} {l:List Oper} {t:Nat->SV} {h h':ar} {nx:Nat} {K:St->Prop} {acc:List FP}
theorem sA{op:BinOp}{ty v:TypeId}{y z:Operand}{a b r:Int}(d nm E:Nat)(G:i+1=E)(B:nx+8*i=nm)(I:o.guard=none)(e:o.dst=some d)(hd:Nat.blt d C.sz=true)(J:o.op= .binOp op ty y z v)
  (O:(bE C t y).hd=some (SV.i a)) (U:(bE C t z).hd=some (SV.i b)) (V:arith op a b=some r) (D:aj r) (k:an C ops E l ⟨upd t d (SV.i r),h,nx⟩ none K):an C ops i (o::l) ⟨t,h,nx⟩ none K:=by
 subst G;subst B
 refine cp (σ:=⟨t,h,nx⟩) I (by unfold aM;rw[e];exact hd) (su J O U V D) (fun p W=>by cases W) rfl ?_
 unfold St.app;rw[e];exact k
theorem dA{op:BinOp}{ty v:TypeId}{y z:Operand}{a b r:Int}(d nm E:Nat)(G:i+1=E)(B:nx+8*i=nm)(I:o.guard=none)(e:o.dst=some d)(hd:Nat.blt d C.sz=true)(J:o.op= .binOp op ty y z v)
  (O:(bE C t y).hd=some (SV.i a)) (U:(bE C t z).hd=some (SV.i b)) (V:arith op a b=some r) (D:aj r) (k:an C ops E l ⟨upd t d (SV.i r),h,nx⟩ (some (acc++ [([],[])])) K):an C ops i (o::l) ⟨t,h,nx⟩ (some acc) K:=by
 subst G;subst B
 refine cp (σ:=⟨t,h,nx⟩) I (by unfold aM;rw[e];exact hd) (su J O U V D) (fun p W=>by cases W) rfl ?_
 unfold St.app;rw[e];exact k
theorem sD{op:BinOp}{ty v:TypeId}{y z:Operand}{a b r:Int}(d nm E:Nat)(G:i+1=E)(B:nx+8*i=nm)(I:o.guard=none)(e:o.dst=some d)(hd:Nat.blt d C.sz=true)(J:o.op= .binOp op ty y z v)
  (O:(bE C t y).hd=some (SV.i a)) (U:(bE C t z).hd=some (SV.i b)) (V:n9 op a b=some r) (D:0<=a/\a<=9223372036854775807/\0<b) (k:an C ops E l ⟨upd t d (SV.i r),h,nx⟩ none K):an C ops i (o::l) ⟨t,h,nx⟩ none K:=by
 subst G;subst B
 refine cp (σ:=⟨t,h,nx⟩) I (by unfold aM;rw[e];exact hd) (qB J O U V D) (fun p W=>by cases W) rfl ?_
 unfold St.app;rw[e];exact k
theorem dD{op:BinOp}{ty v:TypeId}{y z:Operand}{a b r:Int}(d nm E:Nat)(G:i+1=E)(B:nx+8*i=nm)(I:o.guard=none)(e:o.dst=some d)(hd:Nat.blt d C.sz=true)(J:o.op= .binOp op ty y z v)
  (O:(bE C t y).hd=some (SV.i a)) (U:(bE C t z).hd=some (SV.i b)) (V:n9 op a b=some r) (D:0<=a/\a<=9223372036854775807/\0<b) (k:an C ops E l ⟨upd t d (SV.i r),h,nx⟩ (some (acc++ [([],[])])) K):an C ops i (o::l) ⟨t,h,nx⟩ (some acc) K:=by
 subst G;subst B
 refine cp (σ:=⟨t,h,nx⟩) I (by unfold aM;rw[e];exact hd) (qB J O U V D) (fun p W=>by cases W) rfl ?_
 unfold St.app;rw[e];exact k
theorem val{A:Option (List FP)}(s:Nat)(u:SV){b:SV}(v:(t s).hd=some b)(B:b=u)(k:an C ops i l ⟨upd t s u,h,nx⟩ A K):an C ops i l ⟨t,h,nx⟩ A K:=by
 have same:upd t s u=t:=by
  funext n;rw[az];split
  ·next e=>subst e;rw[SV.bD v,B]
  ·rfl
 rw[<-same];exact k
end
section
variable {C:Ctx} {Q:Exit->St->Prop} {σ:St}
theorem loop{c:Code}{t:Nat->SV}{h:ar}{nx:Nat}{α:Type}(m:Nat)(tl:α->List (Nat×SV))(hl:α->List (Option aB))(I:α->Prop)(e:α->Nat)(x0:α)(π:List Nat)(hm:∀ x,(hl x).length=m)
  (v:I x0) (k:(Nat.beq π.length (hl x0).length&&(bK π&&(gW C.m π&&(eE (hl x0).length (tl x0)&&aW (hl x0).length (hl x0)))))=true) (B:AN π t (tl x0)) (D:hSub π π h (hl x0))
  (round:∀ x,I x->W C c (il (fun aF=>∃ b π,I b/\e b<e x/\Sub C π aF (tl b) (hl b)) Q) ⟨dG (tl x),dC (hl x),m⟩):W C (.loop c) Q ⟨t,h,nx⟩:=by
 refine xT tl hl I e x0 π v ⟨k,B,D⟩ fun x E=>?_
 have :=round x E
 rw[<-hm x]at this
 exact this
theorem fV{c:Code}{t:Nat->SV}{h:ar}{nx:Nat}(s ty k:Nat)(f:Nat->Nat->D)(I:(t s).hd=some (.d .bz))(J:W C c Q ⟨upd t s (.sl nx 0 0),upd h nx (some (.rows ty k 0 f)),nx+8⟩):W C c Q ⟨t,h,nx⟩:=by
 refine me (fun M F pin ρ a w b=>?_) J
 have v:=b.tm s
 rw[show(⟨t,h,nx⟩:St).t s= .d .bz from SV.bD I]at v
 have B:∀ n,nx<=n->n<nx+8->ρ n=none:=fun n O _=>b.fr n O
 obtain⟨aq,G,U,V,X⟩:=b.hr.ghost B ty k f
 refine⟨M,aq,aD.le_refl _,⟨⟨fun n=>?_,b.sz,b.df,X,Names.le_trans b.pn G,b.pm,b.gl⟩,fun n Y=>?_⟩⟩
 ·show VR M aq (upd t s _ n) _
  rw[az]
  split
  ·next e=>
   subst e
   generalize hq:a.tmps.getD n undef=q at v
   cases v with |d _ _ hd=>cases hd with |bz aa=>exact .jo nx 0 _ V rfl aa
  ·exact(b.tm n).mono (aD.le_refl _) G
 ·have E:nx+8<=n:=Y
  rw[U n (.inr E)];exact b.fr n (by show nx<=n;omega)
theorem freeze{c:Code}{t:Nat->SV}{h:ar}{nx:Nat}(s n len:Nat){ty k L:Nat}{f:Nat->Nat->D}(b:(t s).hd=some (.sl n 0 len))(e:h n=some (.rows ty k L f))(hl:len<=L)
  (v:W C c Q ⟨upd t s (.d (.vec k len f)),upd h n none,nx⟩):W C c Q ⟨t,h,nx⟩:=
 qo (σ:=⟨t,h,nx⟩) s n len (SV.bD b) e hl v
theorem cB{c:Code}{t:Nat->SV}{h:ar}{nx:Nat}(s:Nat)(u:SV){b:SV}(v:(t s).hd=some b)(B:b=u)(k:W C c Q ⟨upd t s u,h,nx⟩):W C c Q ⟨t,h,nx⟩:=by
 have same:upd t s u=t:=by
  funext n;rw[az];split
  ·next e=>subst e;rw[SV.bD v,B]
  ·rfl
 rw[<-same];exact k
theorem bW{c:Code}{t:Nat->SV}{h:ar}{nx:Nat}(n:Nat)(b':aB){b:aB}(v:h n=some b)(B:b=b')(k:W C c Q ⟨t,upd h n (some b'),nx⟩):W C c Q ⟨t,h,nx⟩:=by
 have same:upd h n (some b')=h:=by
  funext m;rw[az];split
  ·next e=>subst e;rw[v,B]
  ·rfl
 rw[<-same];exact k
end
section
variable {C:Ctx} {fn:Func} {post:SV->List (Option aB)->Prop} {t:Nat->SV} {h:ar} {nx:Nat}
theorem oa{π:List Nat}{ae:List (Option aB)}(b:fn.results= #[])(e:dY C.m (.bA []) ae=true)(hS:(Nat.beq π.length ae.length&&(bK π&&(gW C.m π&&(eE ae.length []&&aW ae.length ae))))=true)
  (k:hSub π π h ae) (v:post (.bA []) ae):iP C fn post .ret ⟨t,h,nx⟩:=
 ⟨π,_, .bA [],ae,dL.of (IJ b) (fun tmps w=>by simp[results,b]),rfl,e,⟨hS,trivial,k⟩,v⟩
theorem bm(s:Nat){π:List Nat}(r:SV){ae:List (Option aB)}{u:SV}(b:fn.results= #[.tmp s])(k:(t s).hd=some u)(v:u=du π r)(e:dY C.m r ae=true)(hS:(Nat.beq π.length ae.length&&(bK π&&(gW C.m π&&(eE ae.length []&&aW ae.length ae))))=true)
  (B:hSub π π h ae) (D:post r ae):iP C fn post .ret ⟨t,h,nx⟩:=
 ⟨π,t s,r,ae,dL.of (II b) (fun tmps w=>by simp[results,b]),by rw[SV.bD k,v],e,⟨hS,trivial,B⟩,D⟩
theorem eF(s1 k:Nat){π:List Nat}(r1 e:SV){ae:List (Option aB)}{I J:SV}(b:fn.results= #[.tmp s1, .tmp k])(v:(t s1).hd=some I)(B:(t k).hd=some J)(D:I=du π r1)(E:J=du π e)(G:dY C.m (.bA [r1,e]) ae=true)
  (hS:(Nat.beq π.length ae.length&&(bK π&&(gW C.m π&&(eE ae.length []&&aW ae.length ae))))=true) (O:hSub π π h ae) (U:post (.bA [r1,e]) ae):iP C fn post .ret ⟨t,h,nx⟩:=
 ⟨π, .bA [t s1,t k], .bA [r1,e],ae,dL.of (Hm b) (fun tmps w=>by simp[results,b]),by rw[SV.bD v,SV.bD B,D,E];rfl,G,⟨hS,trivial,O⟩,U⟩
end
theorem ug{C:Ctx}{t:Nat->SV}{h:ar}{nx:Nat}:∀ {l:List ResultVar} {vc:Prop} {J:List SV},pA C.P t h l=some (vc,J)->vc->∀ M F pin ρ a w,SR C M F pin ρ ⟨t,h,nx⟩ a w->At C.P (fun b=>M b≠none\/iX ρ h b) (fun b=>iX ρ h b) (l.mapM (lP a.tmps)) w
 | [],vc,J,e,k,M,F,pin,ρ,a,w,B=>by rw[List.mapM_nil];exact(Still.pure _).at
 | .tmp s::r,vc,J,e,k,M,F,pin,ρ,a,w,B=>by
  unfold pA at e
  split at e
  ·next O U V=>
   cases e
   rw[List.mapM_cons]
   refine .bind (Still.pure _).at fun v w' W=>?_
   cases W
   exact .bind (ug V k M F pin ρ a w B) fun _ _ _=>(Still.pure _).at
  ·cases e
 | .cell s ty::r,vc,J,e,k,M,F,pin,ρ,a,w,B=>by
  unfold pA at e
  split at e
  ·next O bs u X U hl V=>
   cases e
   obtain⟨Y,k2⟩:=qf hl k.1
   obtain⟨v,_,⟨ad,E,G⟩,W⟩:=k2 M F ρ h w (a.tmps.getD s undef) (B.tm s) B.hr Y
   obtain⟨aa,D,g2,g3⟩:=qA hl k.1 (B.tm s) B.hr Y
   rw[E]at D;cases D
   have I:(lP a.tmps (.cell s ty)).run C.P w= .ok v w:=by simp[lP,E,asAddr,G]
   rw[List.mapM_cons]
   refine .bind ?_ fun x w' hx=>?_
   ·unfold lP
    simp only[E,asAddr]
    refine .bind (Still.pure _).at fun q w' hq=>?_
    cases hq
    exact qw g2 g3
   ·rw[I]at hx;cases hx
    exact .bind (ug V k.2 M F pin ρ a w B) fun _ _ _=>(Still.pure _).at
  ·cases e
theorem FC{C:Ctx}{fn:Func}{t:Nat->SV}{h:ar}{nx:Nat}{D:Array ResultVar}{vc:Prop}{G:List SV}(k:fn.results=D)(e:pA C.P t h D.toList=some (vc,G))(v:vc):dL C fn ⟨t,h,nx⟩ (oneOf G):=by
 intro M F pin ρ a w I
 refine⟨Nice.FC k e v M F pin ρ a w I,fun ev B=>?_⟩
 rw[jA,k]at B
 have E:At C.P (fun b=>M b≠none\/iX ρ h b) (fun b=>iX ρ h b) (do let vs <-D.mapM (lP a.tmps);pure (if h:vs.size=1 then vs[0]else .tuple vs)) w:=by
  refine .bind ?_ fun _ _ _=>(Still.pure _).at
  rw[Array.mapM_eq_mapM_toList]
  intro es O J
  rw[Sem.events_map]at J
  exact ug e v M F pin ρ a w I es O J
 rcases E #[] ev B with h|h
 ·simp at h
 ·exact h
section
variable {C:Ctx} {fn:Func} {post:SV->List (Option aB)->Prop} {t:Nat->SV} {h:ar} {nx:Nat}
theorem cG{D:Array ResultVar}{π:List Nat}(r:SV){ae:List (Option aB)}{vc:Prop}{k:List SV}(b:fn.results=D)(e:pA C.P t h D.toList=some (vc,k))(v:vc)(E:oneOf k=du π r)(B:dY C.m r ae=true)(hS:(Nat.beq π.length ae.length&&(bK π&&(gW C.m π&&(eE ae.length []&&aW ae.length ae))))=true)
  (G:hSub π π h ae) (I:post r ae):iP C fn post .ret ⟨t,h,nx⟩:=
 ⟨π,oneOf k,r,ae,FC b e v,E,B,⟨hS,trivial,G⟩,I⟩
end
theorem torows{C:Ctx}{c:Code}{Q:Exit->St->Prop}{t:Nat->SV}{h:ar}{nx:Nat}(n L:Nat)(f:Nat->Nat->D){ty k:Nat}{xs:List SV}(B:h n=some (.cells ty k xs))(E:0<k)(hl:L*k<=xs.length)(G:∀ i c,i<L->c<k->xs[i*k+c]? =some (.d (f i c)))
  (I:W C c Q ⟨t,upd h n (some (.rows ty k L f)),nx⟩):W C c Q ⟨t,h,nx⟩:=by
 refine me (fun M F pin ρ a w b=>?_) I
 refine⟨M,ρ,aD.le_refl _,⟨⟨b.tm,b.sz,b.df,?_,b.pn,b.pm,b.gl⟩,b.fr⟩⟩
 refine b.hr.swap n B (fun x obj e=>?_) (fun h=>by cases h)
 cases obj with
 |cells cur T fz=>
  obtain⟨J,O,U,V,h5,X⟩:=e
  refine⟨J,O,U,V,?_,fun i c Y hc=>?_⟩
  ·have :L*k<=x.R*k:=by omega
   exact Nat.le_of_mul_le_mul_right this E
  ·obtain⟨v,k1,k2⟩:=X _ _ (G i c Y hc)
   exact⟨v,k1,by cases k2 with |d _ _ h=>exact h⟩
 |_=>exact e.elim
theorem bP{C:Ctx}{c:Code}{Q:Exit->St->Prop}{t:Nat->SV}{h:ar}{nx:Nat}(n e:Nat)(g:Nat->Nat->D){ty k L:Nat}{f:Nat->Nat->D}(G:h n=some (.rows ty k L f))(hl:L=e)(I:∀ i c,i<L->c<k->f i c=g i c)
  (J:W C c Q ⟨t,upd h n (some (.rows ty k e g)),nx⟩):W C c Q ⟨t,h,nx⟩:=by
 subst hl
 refine me (fun M F pin ρ a w b=>?_) J
 refine⟨M,ρ,aD.le_refl _,⟨⟨b.tm,b.sz,b.df,?_,b.pn,b.pm,b.gl⟩,b.fr⟩⟩
 refine b.hr.swap n G (fun x obj v=>?_) (fun h=>by cases L with |zero=>rfl|succ L=>cases h)
 cases obj with
 |cells cur T fz=>
  obtain⟨O,U,V,X,Y,h6⟩:=v
  exact⟨O,U,V,X,Y,fun i c B E=>by rw[<-I i c B E];exact h6 i c B E⟩
 |_=>exact v.elim
section
variable {C:Ctx} {ops:List Oper} {i:Nat} {o:Oper} {l:List Oper} {t:Nat->SV} {h h':ar} {nx:Nat} {K:St->Prop} {acc:List FP}
end
theorem fl{C:Ctx}{c:Code}{Q:Exit->St->Prop}{t:Nat->SV}{h:ar}{nx:Nat}(n j ty k:Nat)(f:Nat->Nat->D){B G:Nat}{xs:List SV}(hn:h n=some (.cells B G xs))(hj:xs[j]? =some (.d .bz))(I:Nat.beq n nx=false)
  (kk:W C c Q ⟨t,upd (upd h nx (some (.rows ty k 0 f))) n (some (.cells B G (xs.set j (.sl nx 0 0)))),nx+8⟩):W C c Q ⟨t,h,nx⟩:=by
 refine me (fun M F pin ρ a w b=>?_) kk
 have J:∀ m,nx<=m->m<nx+8->ρ m=none:=fun m O _=>b.fr m O
 obtain⟨aq,X,k2,k3,k4⟩:=b.hr.ghost J ty k f
 have U:n≠nx:=fun e=>by subst e;simp at I
 have V:upd h nx (some (.rows ty k 0 f)) n=some (.cells B G xs):=by rw[bU _ _ _ _ U];exact hn
 have k5:=k4.swap n V (b':= .cells B G (xs.set j (.sl nx 0 0))) (fun x obj Y=>?_) (fun h=>by cases h)
 ·refine⟨M,aq,aD.le_refl _,⟨⟨fun m=>(b.tm m).mono (aD.le_refl _) X,b.sz,b.df,k5,Names.le_trans b.pn X,b.pm,b.gl⟩,fun m hm=>?_⟩⟩
  have hm':nx+8<=m:=hm
  rw[k2 m (.inr hm')];exact b.fr m (by show nx<=m;omega)
 ·cases obj with
  |cells cur T fz=>
   obtain⟨O,h2,h3,h4,h5,h6⟩:=Y
   refine⟨O,h2,h3,h4,by rw[List.length_set];exact h5,fun q s E=>?_⟩
   rw[List.getElem?_set]at E
   split at E
   ·next e=>
    subst e
    split at E
    ·cases E
     obtain⟨v,v1,v2⟩:=h6 j _ hj
     refine⟨v,v1,?_⟩
     cases v2 with |d _ _ hd=>cases hd with |bz aa=>exact .jo nx 0 _ k3 rfl aa
    ·cases E
   ·exact h6 q s E
  |_=>exact Y.elim
def IN(C:Ctx)(c:Code)(Q:Exit->St->Prop):Nat->St->Prop
 |0,_=>False
 |n+1,σ=>W C c (il (IN C c Q n) Q) σ
theorem we{C:Ctx}{c:Code}{Q:Exit->St->Prop}{σ:St}(n:Nat)(h:IN C c Q n σ):W C (.loop c) Q σ:=by
 refine pI (fun n σ=>IN C c Q n σ) n h ?_
 intro n σ b
 cases n with
 |zero=>exact b.elim
 |succ n=>
  refine tH b ?_
  intro e aF k
  cases e with
  |normal=>exact⟨n,by omega,k⟩
  |_=>exact k
theorem Hx{C:Ctx}{c:Code}{Q:Exit->St->Prop}{n:Nat}{σ:St}(h:W C c (il (IN C c Q n) Q) σ):IN C c Q (n+1) σ:=h
theorem rename{C:Ctx}{c:Code}{Q:Exit->St->Prop}{t:Nat->SV}{h:ar}{nx:Nat}(n:Nat){b:aB}(hn:h n=some b)(al:Nat.beq n nx=false)
  (kk:W C c Q ⟨fun k=>mv n nx (t k),upd (upd (fun m=>(h m).map (kE n nx)) n none) nx (some (kE n nx b)),nx+8⟩):W C c Q ⟨t,h,nx⟩:=by
 refine me (fun M F pin ρ a w B=>?_) kk
 have a5:n≠nx:=fun e=>by subst e;simp at al
 have av:ρ nx=none:=B.fr nx (Nat.le_refl nx)
 let aq:Names:=fun m=>if m=nx then ρ n else ρ m
 have hle:ρ.le aq:=by
  intro m x D
  have :m≠nx:=by rintro rfl;rw[av]at D;cases D
  simp[aq,this,D]
 have O:∀ m z,ρ m=some z->aq (CL n nx m)=some z:=by
  intro m z hz
  unfold CL
  cases e:Nat.beq m n with
  |true=>have :=Nat.eq_of_beq_eq_true e;subst this;simp[aq,hz]
  |false=>exact hle m z hz
 have U:=B.hr
 refine⟨M,aq,aD.le_refl _,⟨⟨fun k=>(B.tm k).mv O,B.sz,B.df,⟨U.fT,U.iL,U.j9,?_,?_,?_⟩,Names.le_trans B.pn hle,B.pm,fun g ρ=>B.gl g ρ⟩,?_⟩⟩
 rotate_left 2
 ·have key:∀ p,upd (upd (fun m=>(h m).map (kE n nx)) n none) nx (some (kE n nx b)) p≠none->h (if p=nx then n else p)≠none/\upd (upd (fun m=>(h m).map (kE n nx)) n none) nx (some (kE n nx b)) p=(h (if p=nx then n else p)).map (kE n nx)/\aq p=ρ (if p=nx then n else p)/\(p≠nx->p≠n):=by
   intro p v
   rw[az]at v ⊢
   by_cases e:p=nx
   ·subst e
    simp only[if_true]
    exact⟨by rw[hn];simp,by rw[hn];rfl,by simp[aq],fun h=>absurd rfl h⟩
   ·rw[if_neg e,az]at v
    rw[if_neg e,if_neg e,az]
    by_cases I:p=n
    ·rw[if_pos I]at v;exact absurd rfl v
    ·rw[if_neg I]at v ⊢
     exact⟨fun V=>by rw[V]at v;exact v rfl,rfl,by simp[aq,e],fun _=>I⟩
  intro p S es v
  have v:upd (upd (fun m=>(h m).map (kE n nx)) n none) nx (some (kE n nx b)) p=some (.fam S es):=v
  obtain⟨k1,k2,k3,k4⟩:=key p (by rw[v];simp)
  rw[v]at k2
  obtain⟨b0,aa⟩:=Option.ne_none_iff_exists'.1 k1
  rw[aa]at k2
  obtain⟨ax,rfl,rfl⟩:=pO (Option.some.inj k2).symm
  obtain⟨x,D,g0,g1,g2,g3,g4⟩:=U.fam _ S ax aa
  refine⟨x,by rw[k3];exact D,g0,g1,fun q y J hy X=>?_,fun q S2 a0 a1 J=>?_,g4.mv⟩
  ·obtain⟨j1,j2,j3,j4⟩:=key q J
   exact g2 _ y j1 (by rw[<-j3];exact hy) X
  ·have J:upd (upd (fun m=>(h m).map (kE n nx)) n none) nx (some (kE n nx b)) q=some (.fam S2 a0):=J
   obtain⟨j1,j2,j3,j4⟩:=key q (by rw[J];simp)
   rw[J]at j2
   obtain⟨b2,ah⟩:=Option.ne_none_iff_exists'.1 j1
   rw[ah]at j2
   obtain⟨a2,rfl,rfl⟩:=pO (Option.some.inj j2).symm
   refine g3 _ S2 a2 (fun e=>a1 ?_) ah
   by_cases E:p=nx<;>by_cases G:q=nx
   ·rw[E,G]
   ·rw[if_pos E,if_neg G]at e;exact absurd e (j4 G)
   ·rw[if_neg E,if_pos G]at e;exact absurd e.symm (k4 E)
   ·rw[if_neg E,if_neg G]at e;exact e
 rotate_right 2
 ·intro m blk hm
  have hm:upd (upd (fun m=>(h m).map (kE n nx)) n none) nx (some (kE n nx b)) m=some blk:=hm
  rw[az]at hm
  split at hm
  ·next e=>
   subst e;cases hm
   obtain⟨x,D,a3⟩:=U.live n b hn
   refine⟨x,by simp[aq,D],?_⟩
   rcases a3 with⟨Y,hg⟩|⟨Y,h1,h2,o,h3,h4⟩
   ·exact .inl ⟨Y,by rw[lC];exact hg⟩
   ·exact .inr ⟨Y,h1,h2,o,h3,h4.mv O⟩
  ·next e=>
   rw[az]at hm
   split at hm
   ·cases hm
   ·next I=>
    cases V:h m with
    |none=>simp[V]at hm
    |some b0=>
     simp only[V,Option.map_some,Option.some.injEq]at hm
     subst hm
     obtain⟨x,D,a3⟩:=U.live m b0 V
     refine⟨x,hle m x D,?_⟩
     rcases a3 with⟨Y,hg⟩|⟨Y,h1,h2,o,h3,h4⟩
     ·exact .inl ⟨Y,by rw[lC];exact hg⟩
     ·exact .inr ⟨Y,h1,h2,o,h3,h4.mv O⟩
 ·have key:∀ p x,upd (upd (fun m=>(h m).map (kE n nx)) n none) nx (some (kE n nx b)) p≠none->aq p=some x->h (if p=nx then n else p)≠none/\ρ (if p=nx then n else p)=some x/\(p≠nx->p≠n):=by
   intro p x v D
   rw[az]at v
   by_cases e:p=nx
   ·subst e
    simp only[if_true]
    exact⟨by rw[hn];simp,by simpa[aq]using D,fun h=>absurd rfl h⟩
   ·rw[if_neg e,az]at v
    rw[if_neg e]
    by_cases I:p=n
    ·rw[if_pos I]at v;exact absurd rfl v
    ·rw[if_neg I]at v
     refine⟨fun V=>by rw[V]at v;exact v rfl,by simpa[aq,e]using D,fun _=>I⟩
  intro p q x y v J D hy a4 X hb
  obtain⟨p1,p2,p3⟩:=key p x v D
  obtain⟨q1,q2,q3⟩:=key q y J hy
  have :=U.sep _ _ x y p1 q1 p2 q2 a4 X hb
  by_cases E:p=nx<;>by_cases G:q=nx
  ·rw[E,G]
  ·rw[if_pos E,if_neg G]at this;exact absurd this.symm (q3 G)
  ·rw[if_neg E,if_pos G]at this;exact absurd this (p3 E)
  ·rw[if_neg E,if_neg G]at this;exact this
 ·intro m hm
  have hm':nx+8<=m:=hm
  have :m≠nx:=by omega
  simp only[aq,if_neg this]
  exact B.fr m (by show nx<=m;omega)
theorem CV{C:Ctx}{o:Oper}{nm:Nat}{v:Operand->SV}{h:ar}{ty:TypeId}{y B:Operand}{vc:Prop}{xs:List SV}(b:o.op= .index ty y B)(e:pP C.P ty (v y) (v B)=some (vc,[], .agg xs,[]))(k:vc):
  bV C o nm v [] (fun x w=>x= .agg xs/\w= []):=by
 obtain⟨D,E,G⟩:=AZ (C:=C) (nm:=nm) (h:=h) (v:=v) b e k
 refine .of D (kG.plain (by rw[b];rfl)) (cE fun M F ρ a h w _ _ _=>?_)
 unfold execOp
 rw[b]
 exact .bind (pc _ _ _) fun _=> .pure _
theorem wh{C:Ctx}{ops:List Oper}{i:Nat}{o:Oper}{l:List Oper}{t:Nat->SV}{h:ar}{nx:Nat}{K:St->Prop}{ty:TypeId}{y D:Operand}{vc:Prop}{xs:List SV}(d nm E:Nat)(G:i+1=E)(v:nx+8*i=nm)(I:o.guard=none)(b:o.dst=some d)(hd:Nat.blt d C.sz=true)(J:o.op= .index ty y D)
  (e:pP C.P ty (bE C t y) (bE C t D)=some (vc,[], .agg xs,[])) (B:vc) (k:an C ops E l ⟨upd t d (.agg xs),h,nx⟩ none K):an C ops i (o::l) ⟨t,h,nx⟩ none K:=by
 subst G;subst v
 refine cp (σ:=⟨t,h,nx⟩) I (by unfold aM;rw[b];exact hd) (CV (h:=h) J e B) (fun p O=>by cases O) rfl ?_
 unfold St.app;rw[b];exact k
end Go.Proofs.YtifcaekngfgdmaaDoor.Nice.Co
namespace Go.Proofs.YtifcaekngfgdmaaDoor.Nice.Co
open Go
section
variable {C:Ctx} {ops:List Oper} {i:Nat} {o:Oper} {l:List Oper} {t:Nat->SV} {h h':ar} {nx:Nat} {K:St->Prop} {vc:Prop} {bs:List (Nat×aB)} {u:SV} {wr:List (Nat×Option aB)}
def og(C:Ctx)(i nx:Nat)(o:Oper)(d nm b:Nat):Bool:=
 Nat.beq (i+1) b&&(Nat.beq (nx+8*i) nm&&(o.guard.isNone&&((match o.dst with |some d'=>Nat.beq d' d|none=>false)&&Nat.blt d C.sz)))
def gb(C:Ctx)(i nx:Nat)(o:Oper)(t:Nat->SV)(h:ar)(d nm b:Nat):Option (Prop×List (Nat×aB)×SV×List (Nat×Option aB)×ar):=
 match og C i nx o d nm b with
 |true=>gH C nm o (bE C t) h
 |false=>none
theorem fq{d nm v:Nat}(e:gb C i nx o t h d nm v=some (vc,bs,u,wr,h')):i+1=v/\nx+8*i=nm/\o.guard=none/\o.dst=some d/\Nat.blt d C.sz=true/\gH C nm o (bE C t) h=some (vc,bs,u,wr,h'):=by
 unfold gb at e
 split at e
 ·next b=>
  unfold og at b
  simp only[Bool.and_eq_true,Option.isNone_iff_eq_none]at b
  obtain⟨B,D,E,k,G⟩:=b
  refine⟨Nat.eq_of_beq_eq_true B,Nat.eq_of_beq_eq_true D,E,?_,G,e⟩
  split at k
  ·next hd=>rw[hd,Nat.eq_of_beq_eq_true k]
  ·cases k
 ·cases e
theorem sT(d nm b:Nat)(e:gb C i nx o t h d nm b=some (True,bs,u,wr,h'))(k:an C ops b l ⟨upd t d u,h',nx⟩ none K):an C ops i (o::l) ⟨t,h,nx⟩ none K:=by
 obtain⟨v,B,D,E,G,I⟩:=fq e
 exact s1 d nm b v B D E G I trivial k
theorem sO(d nm b:Nat)(e:gb C i nx o t h d nm b=some (vc,bs,u,wr,h'))(k:an C ops b l ⟨upd t d u,h',nx⟩ none K)(v:vc:=by first|trivial|omega):an C ops i (o::l) ⟨t,h,nx⟩ none K:=by
 obtain⟨B,D,E,G,I,J⟩:=fq e
 exact s1 d nm b B D E G I J v k
theorem cJ(nm v:Nat)(E:i+1=v)(B:nx+8*i=nm)(G:o.guard=none)(b:o.dst=none)(e:gH C nm o (bE C t) h=some (vc,bs,u,wr,h'))(k:an C ops v l ⟨t,h',nx⟩ none K)(D:vc:=by first|trivial|omega):an C ops i (o::l) ⟨t,h,nx⟩ none K:=s0 nm v E B G b e D k
variable {acc:List FP}
theorem dT(d nm b:Nat)(e:gb C i nx o t h d nm b=some (True,bs,u,wr,h'))(k:an C ops b l ⟨upd t d u,h',nx⟩ (some (acc++ [(bs.map (·.1),wr.map (·.1))])) K):an C ops i (o::l) ⟨t,h,nx⟩ (some acc) K:=by
 obtain⟨v,B,D,E,G,I⟩:=fq e
 exact d1 d nm b v B D E G I trivial k
theorem dO(d nm b:Nat)(e:gb C i nx o t h d nm b=some (vc,bs,u,wr,h'))(k:an C ops b l ⟨upd t d u,h',nx⟩ (some (acc++ [(bs.map (·.1),wr.map (·.1))])) K)(v:vc:=by first|trivial|omega):an C ops i (o::l) ⟨t,h,nx⟩ (some acc) K:=by
 obtain⟨B,D,E,G,I,J⟩:=fq e
 exact d1 d nm b B D E G I J v k
def uh(C:Ctx)(i nx:Nat)(o:Oper)(t:Nat->SV)(d nm e:Nat):Option Int:=
 match og C i nx o d nm e with
 |true=>match o.op with
  | .binOp op _ y z _=>match(bE C t y).hd,(bE C t z).hd with
   |some (.d (.val (.int .i64 a))),some (.d (.val (.int .i64 b)))=>arith op a b
   |_,_=>none
  |_=>none
 |false=>none
theorem m7{d nm k:Nat}(b:og C i nx o d nm k=true):i+1=k/\nx+8*i=nm/\o.guard=none/\o.dst=some d/\Nat.blt d C.sz=true:=by
 unfold og at b
 simp only[Bool.and_eq_true,Option.isNone_iff_eq_none]at b
 obtain⟨v,B,D,e,E⟩:=b
 refine⟨Nat.eq_of_beq_eq_true v,Nat.eq_of_beq_eq_true B,D,?_,E⟩
 split at e
 ·next hd=>rw[hd,Nat.eq_of_beq_eq_true e]
 ·cases e
theorem m8{d nm v:Nat}{r:Int}(e:uh C i nx o t d nm v=some r):og C i nx o d nm v=true/\∃ op ty y z k a b,o.op= .binOp op ty y z k/\(bE C t y).hd=some (SV.i a)/\(bE C t z).hd=some (SV.i b)/\arith op a b=some r:=by
 unfold uh at e
 split at e
 ·next B=>
  split at e
  ·next op ty y z k D=>
   split at e
   ·next a b E G=>exact⟨B,op,ty,y,z,k,a,b,D,E,G,e⟩
   ·cases e
  ·cases e
 ·cases e
theorem de(d nm v:Nat){r:Int}(e:uh C i nx o t d nm v=some r)(k:an C ops v l ⟨upd t d (SV.i r),h,nx⟩ none K)(B:aj r:=by unfold aj;omega):an C ops i (o::l) ⟨t,h,nx⟩ none K:=by
 obtain⟨D,op,ty,y,z,E,a,b,G,I,J,O⟩:=m8 e
 obtain⟨U,V,W,X,Y⟩:=m7 D
 exact sA d nm v U V W X Y G I J O B k
theorem xN(d nm v:Nat){r:Int}(e:uh C i nx o t d nm v=some r)(k:an C ops v l ⟨upd t d (SV.i r),h,nx⟩ (some (acc++ [([],[])])) K)(B:aj r:=by unfold aj;omega):an C ops i (o::l) ⟨t,h,nx⟩ (some acc) K:=by
 obtain⟨D,op,ty,y,z,E,a,b,G,I,J,O⟩:=m8 e
 obtain⟨U,V,W,X,Y⟩:=m7 D
 exact dA d nm v U V W X Y G I J O B k
def ui(C:Ctx)(ops:List Oper)(i:Nat)(o:Oper)(j:Nat)(want:Bool)(s b:Nat):Bool:=
 Nat.beq (i+1) b&&((match o.guard with |some (e,w)=>Nat.beq e j&&cond want w (!w)|none=>false)&&((match eD ops j with |some s'=>Nat.beq s' s|none=>false)&&aM C o))
theorem m9{j s v:Nat}{want:Bool}(e:ui C ops i o j want s v=true):i+1=v/\o.guard=some (j,want)/\eD ops j=some s/\aM C o=true:=by
 unfold ui at e
 simp only[Bool.and_eq_true]at e
 obtain⟨B,b,k,D⟩:=e
 refine⟨Nat.eq_of_beq_eq_true B,?_,?_,D⟩
 ·split at b
  ·next J w E=>
   simp only[Bool.and_eq_true]at b
   rw[E,Nat.eq_of_beq_eq_true b.1]
   have G:=b.2
   cases want<;>cases w<;>first|rfl|(simp at G;done)
  ·cases b
 ·split at k
  ·next s' I=>rw[I,Nat.eq_of_beq_eq_true k]
  ·cases k
theorem gT{A:Option (List FP)}(j:Nat)(want:Bool)(s k:Nat)(e:ui C ops i o j want s k=true)(v:t s=SV.b want)
  (on:an C ops i ({o with guard:=none}::l) ⟨upd t s (SV.b want),h,nx⟩ A K):an C ops i (o::l) ⟨t,h,nx⟩ A K:=by
 obtain⟨B,D,E,G⟩:=m9 e
 exact g1 j want s 0 k B D E v G on
theorem gF{A:Option (List FP)}(j:Nat)(want:Bool)(s d k:Nat)(e:(ui C ops i o j want s k&&(match o.dst with |some d'=>Nat.beq d' d|none=>false))=true)(D:t s=SV.b (!want))
  (off:an C ops k l ⟨upd t d (.bA []),h,nx⟩ (A.map (· ++ [([],[])])) K):an C ops i (o::l) ⟨t,h,nx⟩ A K:=by
 simp only[Bool.and_eq_true]at e
 obtain⟨E,G,I,v⟩:=m9 e.1
 have hd:o.dst=some d:=by
  have B:=e.2
  split at B
  ·next hd=>rw[hd,Nat.eq_of_beq_eq_true B]
  ·cases B
 exact g0 j want s d k E G I D hd (by unfold aM at v;rw[hd]at v;exact v) off
theorem sV(d nm b:Nat)(e:gb C i nx o t h d nm b=some (vc,bs,u,wr,h'))(v:vc)(k:an C ops b l ⟨upd t d u,h',nx⟩ none K):an C ops i (o::l) ⟨t,h,nx⟩ none K:=sO d nm b e k v
theorem dV(d nm b:Nat)(e:gb C i nx o t h d nm b=some (vc,bs,u,wr,h'))(v:vc)(k:an C ops b l ⟨upd t d u,h',nx⟩ (some (acc++ [(bs.map (·.1),wr.map (·.1))])) K):an C ops i (o::l) ⟨t,h,nx⟩ (some acc) K:=dO d nm b e k v
end
end Go.Proofs.YtifcaekngfgdmaaDoor.Nice.Co
namespace Go.Proofs.YtifcaekngfgdmaaDoor.Nice
open Go
theorem Ba{P:Program}(w:World)(src dst e:TypeId)(l c:Nat)(b:P.underlying src=some (.slice e))(k:P.underlying e=some (.int .u8))(hd:P.underlying dst=some .string):
  (convert src dst (.slice none l c)).run P w= .ok (.string .empty) w:=by
 rw[run_convert_bytes_string w src dst e none l c b k hd]
 simp[Conv.bytesToString,Sem.run_pure]
theorem bV.weaken{C:Ctx}{o:Oper}{nm:Nat}{v:Operand->SV}{bs:List (Nat×aB)}{u u':SV}{wr:List (Nat×Option aB)}(h:bV C o nm v bs (fun x y=>x=u/\y=wr))(B:∀ M ρ z,VR M ρ u z->VR M ρ u' z):bV C o nm v bs (fun x y=>x=u'/\y=wr):=
 fun M F ρ a D w E G I b k K Q J=>h M F ρ a D w E G I b k K Q fun M' aq x y z w' O U V e W X Y=>J M' aq u' y z w' O U V ⟨rfl,e.2⟩ (B _ _ _ (e.1▸W)) X Y
section
variable {C:Ctx} {ops:List Oper} {i:Nat} {o:Oper} {l:List Oper} {t:Nat->SV} {h h':ar} {nx:Nat} {K:St->Prop} {vc:Prop} {bs:List (Nat×aB)} {u:SV} {wr:List (Nat×Option aB)} {acc:List FP}
theorem GY(u':SV)(d nm D:Nat)(E:i+1=D)(v:nx+8*i=nm)(G:o.guard=none)(b:o.dst=some d)(hd:Nat.blt d C.sz=true)(e:gH C nm o (bE C t) h=some (vc,bs,u,wr,h'))(B:vc)(I:∀ M ρ z,VR M ρ u z->VR M ρ u' z)
  (k:an C ops D l ⟨upd t d u',h',nx⟩ none K):an C ops i (o::l) ⟨t,h,nx⟩ none K:=by
 subst E;subst v
 obtain⟨e1,J⟩:=dM e
 obtain⟨O,U,V⟩:=qn e1 B
 refine cp (σ:=⟨t,h,nx⟩) G (by unfold aM;rw[b];exact hd) (O.weaken I) U V ?_
 unfold St.app;rw[b,J];exact k
theorem Fi(u':SV)(d nm D:Nat)(E:i+1=D)(v:nx+8*i=nm)(G:o.guard=none)(b:o.dst=some d)(hd:Nat.blt d C.sz=true)(e:gH C nm o (bE C t) h=some (vc,bs,u,wr,h'))(B:vc)(I:∀ M ρ z,VR M ρ u z->VR M ρ u' z)
  (k:an C ops D l ⟨upd t d u',h',nx⟩ (some (acc++ [(bs.map (·.1),wr.map (·.1))])) K):an C ops i (o::l) ⟨t,h,nx⟩ (some acc) K:=by
 subst E;subst v
 obtain⟨e1,J⟩:=dM e
 obtain⟨O,U,V⟩:=qn e1 B
 refine cp (σ:=⟨t,h,nx⟩) G (by unfold aM;rw[b];exact hd) (O.weaken I) U V ?_
 unfold St.app;rw[b,J];exact k
end
theorem VR.zy{M:aD}{ρ:Names}{f:Nat->Nat->D}{K k n q c:Nat}{z:Value}(B:c=q*k)(U:n*k<=K)(h:VR M ρ (.vp K 1 f 0 c) z):VR M ρ (.vp k n (fun i j=>f 0 (i*k+j)) q 0) z:=by
 subst B
 cases h with
 |vp _ _ _ _ _ b o cur T E g G I J=>
  have lt:∀ i j,i<n->j<k->i*k+j<K:=fun i j e v=>by
   have O:(i+1)*k<=n*k:=Nat.mul_le_mul_right k e
   rw[Nat.succ_mul]at O;omega
  have :=VR.vp (ρ:=ρ) k n (fun i j=>f 0 (i*k+j)) q 0 b o cur T E (fun i j=>g 0 (i*k+j)) G (fun i j e v=>by
   have :=I 0 (i*k+j) (by decide) (lt i j e v)
   rw[<-this];congr 1;omega) (fun i j e v=>J 0 (i*k+j) (by decide) (lt i j e v))
  rw[show o+0*K+q*k=o+q*k+0 by omega];exact this
section
variable {C:Ctx} {ops:List Oper} {i:Nat} {o:Oper} {l:List Oper} {t:Nat->SV} {h h':ar} {nx:Nat} {K:St->Prop} {acc:List FP}
end
section
variable {C:Ctx} {ops:List Oper} {i:Nat} {o:Oper} {l:List Oper} {t:Nat->SV} {h h':ar} {nx:Nat} {K:St->Prop} {acc:List FP}
end
theorem GZ{C:Ctx}{ops:List Oper}{i:Nat}{o:Oper}{l:List Oper}{t:Nat->SV}{h:ar}{nx:Nat}{K:St->Prop}{ty B el V len:Nat}{f:Nat->Nat->D}{y:Operand}(d nm O:Nat)(W:i+1=O)(E:nx+8*i=nm)(X:o.guard=none)(k:o.dst=some d)(hd:Nat.blt d C.sz=true)(U:o.op= .binOp .eql ty y (.const (.slice none 0 0)) B)
  (Y:(bE C t y).hd=some (.d (.vec V len f))) (ht:C.P.underlying ty=some (.slice el))
  (kk:∀ b:Bool,(b=true->len=0)->an C ops O l ⟨upd t d (SV.b b),h,nx⟩ none K):an C ops i (o::l) ⟨t,h,nx⟩ none K:=by
 subst W;subst E
 unfold an
 refine .inr ⟨rfl,by unfold aM;rw[k];exact hd,by simp[mP,X],[],(fun u wr=>∃ b:Bool,(b=true->len=0)/\u=SV.b b/\wr= []),?_,(fun p hp=>by cases hp),?_⟩
 ·intro M F ρ a hh w hv hG hH aa ah Kk Q hK
  have e1:=hv y (by rw[U];exact aP (.inl rfl));rw[SV.bD Y]at e1
  have hc:a.eval (.const (.slice none 0 0))= .slice none 0 0:=rfl
  have key:∃ ad l c,a.eval y= .slice ad l c/\(ad=none->len=0):=by
   generalize a.eval y=q at e1
   cases e1 with
   |d _ _ hD=>cases hD with
    |ie _ _ ad cap=>exact⟨ad,0,cap,rfl,fun _=>rfl⟩
    |vec _ _ _ b oo cap cur T fz g v al av hr=>exact⟨_,_,_,rfl,fun e=>by cases e⟩
  obtain⟨ad,G,I,hs,hz⟩:=key
  have hx:(execOp a.eval o).run C.P w= .ok (.value (.bool ad.isNone)) w:=by
   have he:=run_equal_slice_nil (P:=C.P) w ty el ad G I ht
   have J:(eqGuard .eql ty y (.const (.slice none 0 0)) (.slice ad G I) (.slice none 0 0)).run C.P w= .ok () w:=rfl
   have v:(binOp .eql ty (.slice ad G I) (.slice none 0 0)).run C.P w= .ok (.bool ad.isNone) w:=by
    simp only[binOp];simp[he]
   unfold execOp
   simp only[U,hs,hc,Sem.run_bind,J,v,Result.andThen_ok,Sem.run_pure]
  unfold Cr
  rw[hx]
  exact hK M ρ (SV.b ad.isNone) [] _ w (aD.le_refl _) (Names.le_refl _) (fun _ _=>rfl) ⟨ad.isNone,fun e=>hz (by cases ad<;>simp_all),rfl,rfl⟩ (.d _ _ (.val _ rfl)) hH (bG.refl _)
 ·rintro u wr ⟨b,v,rfl,rfl⟩
  have :=kk b v
  unfold St.app;rw[k];exact this
section
variable {C:Ctx} {ops:List Oper} {i:Nat} {o:Oper} {l:List Oper} {t:Nat->SV} {h h':ar} {nx:Nat} {K:St->Prop} {acc:List FP}
end
theorem ye{M F:aD}{ρ:Names}{h:ar}{w:World}(G:HR M F ρ h w){n ty k L len:Nat}{f:Nat->Nat->D}(W:h n=some (.rows ty k L f))(hl:len<=L):
  ∃ M',M.le M'/\HR M' F ρ (upd h n none) w/\∀ v,VR M ρ (.sl n 0 len) v->VR M' ρ (.d (.vec k len f)) v:=by
 obtain⟨x,U,X⟩:=G.live n _ W
 rcases X with⟨Y,_⟩|⟨h0,hM,hF,o,h3,h4⟩
 ·refine⟨M,aD.le_refl _,G.drop n,fun v hv=>?_⟩
  cases hv with
  |jo _ _ x' E hR al=>exact .d _ _ (.ie _ _ _ _)
  |sl _ _ _ x' E aa hR h0=>rw[U]at E;obtain rfl:=Option.some.inj E;omega
 ·cases o with
  |cells cur T fz=>
   obtain⟨rfl,rfl,g1,g2,g3,g4⟩:=h4
   let M':aD:=fun b=>if b=x.b then some (.cells cur T (0,0))else M b
   have hle:M.le M':=by
    intro b o B
    have :b≠x.b:=by rintro rfl;rw[hM]at B;cases B
    simp[M',this,B]
   refine⟨M',hle,G.tB hle (fun m b hm=>?_) ?_ ?_ (fun m b y hm hy q0=>?_) (fun m S es hm b B=>?_),fun v hv=>?_⟩
   ·rw[az]at hm;split at hm
    ·cases hm
    ·exact hm
   ·intro b o B
    by_cases e:b=x.b
    ·subst e;simp[M']at B;subst B;exact h3
    ·simp[M',e]at B;exact G.fT b o B
   ·intro b o B
    have :b≠x.b:=by rintro rfl;rw[hF]at B;cases B
    simp[M',this];exact G.j9 b o B
   ·rw[az]at hm;split at hm
    ·cases hm
    ·next e=>
     obtain⟨y',J,X⟩:=G.live m b hm
     rw[hy]at J;obtain rfl:=Option.some.inj J
     have :y.b≠x.b:=fun B=>e (G.sep m n y x (by rw[hm];simp) (by rw[W];simp) hy U q0 h0 B)
     rcases X with⟨Y,_⟩|⟨_,q1,_⟩
     ·omega
     ·simp[M',this,q1]
   ·rw[az]at hm;split at hm
    ·cases hm
    ·obtain⟨_,_,_,g1,g2,_⟩:=G.fam m S es hm
     have :b≠x.b:=fun e=>g2 n x (by rw[W];simp) U h0 (e▸B)
     simp[M',this,(g1 b B).1]
   ·cases hv with
    |jo _ _ x' E hR al=>exact .d _ _ (.ie _ _ _ _)
    |sl _ _ _ x' E aa hR ah=>
     rw[U]at E;obtain rfl:=Option.some.inj E
     subst g1
     have I:∀ i c,i<len->c<x.k->∃ v,cur[i*x.k+c]? =some v/\DR M (f i c) v:=fun i c V O=>g4 i c (by omega) O
     refine .d _ _ (.vec x.k len f x.b (0*x.k) _ cur T (0,0) (fun i c=>(cur[i*x.k+c]?).getD undef) (by simp[M']) (by omega) (fun i c V O=>?_) (fun i c V O=>?_))
     ·obtain⟨v,v1,_⟩:=I i c V O
      rw[Nat.zero_mul,Nat.zero_add,v1];rfl
     ·obtain⟨v,v1,v2⟩:=I i c V O
      simp only[v1,Option.getD_some];exact v2.mono hle
  |_=>exact h4.elim
theorem zz{C:Ctx}{c:Code}{Q:Exit->St->Prop}{t:Nat->SV}{h:ar}{nx:Nat}(m j n len:Nat){ty k L E O:Nat}{f:Nat->Nat->D}{xs:List SV}(hm:h m=some (.cells E O xs))(hj:xs[j]? =some (.sl n 0 len))(hn:h n=some (.rows ty k L f))(hl:len<=L)(X:Nat.beq m n=false)
  (kk:W C c Q ⟨t,upd (upd h n none) m (some (.cells E O (xs.set j (.d (.vec k len f))))),nx⟩):W C c Q ⟨t,h,nx⟩:=by
 intro M F pin ρ a w B
 have Y:m≠n:=fun e=>by subst e;simp at X
 obtain⟨M',hle,hH,hv⟩:=ye B.hr hn hl
 have hm':upd h n none m=some (.cells E O xs):=by rw[bU _ _ _ _ Y];exact hm
 have G:∀ x,ρ m=some x->∃ cur,w.heap[x.b]? =some (.cells cur E (0,0))/\0<x.R/\x.k=O/\cur.size=x.R*O/\xs.length<=cur.size/\∀ (i:Nat) (s:SV),xs[i]? =some s->∃ v,cur[i]? =some v/\VR M ρ s v:=fun x V=>B.hr.cells hm V
 have aa:HR M' F ρ (upd (upd h n none) m (some (.cells E O (xs.set j (.d (.vec k len f)))))) w:=by
  obtain⟨x,V,av⟩:=hH.live m _ hm'
  obtain⟨cur,c1,c2,c3,c4,c5,c6⟩:=G x V
  refine hH.put m x (by rw[hm'];simp) V c2 _ (.cells cur E (0,0)) c1 (fun b hb=>rfl) ⟨rfl,rfl,c3,c4,by rw[List.length_set];exact c5,fun i q U=>?_⟩
  rw[List.getElem?_set]at U
  split at U
  ·next e=>
   split at U
   ·cases U;subst e
    obtain⟨v,I,J⟩:=c6 j _ hj
    exact⟨v,I,hv v J⟩
   ·cases U
  ·obtain⟨v,I,J⟩:=c6 i q U
   exact⟨v,I,J.mono hle (Names.le_refl _)⟩
 refine fj ?_ (kk M' F pin ρ a w ⟨⟨fun i=>(B.tm i).mono hle (Names.le_refl _),B.sz,B.df,aa,B.pn,B.pm,fun g ρ=>(B.gl g ρ).mono hle (Names.le_refl _)⟩,B.fr⟩)
 rintro e a' w' ⟨M2,ah,al,h1,h2,h3,h4⟩
 exact⟨M2,ah,al,aD.le_trans hle h1,h2,h3,h4⟩
structure lS (P:Program) (kt:TypeId) (key:Value) (ks:List Value) (r:Option Nat):Prop where
 Iz:∀ e w,(Instr.checkKey e 10000 kt key).run P w= .ok () w
 JJ:∀ (iK:List MapEntry) w,iK.map (·.key)=ks->(Instr.findKey kt key iK).run P w= .ok (r.bind fun j=>(iK[j]?).map fun e=>(j,e.val)) w
 Ka:∀ j,r=some j->j<ks.length/\Instr.sameBits 10000 (ks.getD j key) key=true
def lT(kind:TypeDesc)(key:Value):List Value->Option (Option Nat)
 | []=>some none
 |k::r=>match Instr.sameNow kind key k with
  |some true=>some (some 0)
  |some false=>(lT kind key r).map (·.map (· +1))
  |none=>none
theorem sv{kind:TypeDesc}{key:Value}:∀ (k:List MapEntry) (i:Nat) (r:Option Nat),lT kind key (k.map (·.key))=some r->Instr.findNow kind key k i=some (r.bind fun j=>(k[j]?).map fun e=>(i+j,e.val))
 | [],i,r,h=>by simp[lT]at h;subst h;rfl
 |y::k,i,r,h=>by
  simp only[List.map_cons,lT]at h
  simp only[Instr.findNow]
  cases v:Instr.sameNow kind key y.key with
  |none=>rw[v]at h;cases h
  |some b=>cases b with
   |true=>rw[v]at h;simp at h;subst h;simp
   |false=>
    rw[v]at h
    simp only[Option.map_eq_some_iff]at h
    obtain⟨B,h',rfl⟩:=h
    rw[sv k (i+1) B h']
    cases B with
    |none=>rfl
    |some j=>simp only[Option.map_some,Option.bind_some,List.getElem?_cons_succ,show i+1+j=i+(j+1) by omega]
theorem wi{kind:TypeDesc}{key:Value}:∀ (e:List Value) (j:Nat),lT kind key e=some (some j)->j<e.length/\Instr.sameBits 10000 (e.getD j key) key=true
 | [],j,h=>by simp[lT]at h
 |k::e,j,h=>by
  simp only[lT]at h
  cases v:Instr.sameNow kind key k with
  |none=>rw[v]at h;cases h
  |some b=>cases b with
   |true=>
    rw[v]at h;simp at h;subst h
    exact⟨by simp,by simpa using vN v⟩
   |false=>
    rw[v]at h
    simp only[Option.map_eq_some_iff]at h
    obtain⟨D,h',B⟩:=h
    cases D with
    |none=>simp at B
    |some E=>
     simp at B;subst B
     obtain⟨a,b⟩:=wi e E h'
     exact⟨by simpa using a,by simpa using b⟩
theorem CW{P:Program}{kt:TypeId}{kind:TypeDesc}{key:Value}{k:List Value}{r:Option Nat}(v:P.underlying kt=some kind)(B:plainKey kind=true)(h:lT kind key k=some r):lS P kt key k r:=by
 refine⟨fun e w=>run_checkKey v B e 9999 key,fun b w D=>?_,fun j E=>?_⟩
 ·subst D
  simp[Instr.findKey,run_underlying v,sv b 0 r h]
 ·subst E;exact wi k j h
theorem HR.qC{M F:aD}{ρ:Names}{h:ar}{w:World}(H:HR M F ρ h w){n:Nat}{S:List Nat}{es:ko}(U:h n=some (.fam S es))(hl:es.ly=none){x:Own}(V:ρ n=some x):
  0<x.R/\M x.b=none/\F x.b=none/\∃ k D,w.heap[x.b]? =some (.map k D)/\k.size=es.es.length/\k.toList.map (·.key)=es.es.map (·.1)/\(∀ (j:Nat) (e:Value×SV×List ff),es.es[j]? =some e->∃ y:MapEntry,k[j]? =some y/\y.key=e.1)/\∀ p,p∈es.op->∃ y:MapEntry,k[p.1]? =some y/\VR M ρ p.2 y.val:=by
 obtain⟨x',v,W⟩:=H.live n _ U
 rw[V]at v;obtain rfl:=Option.some.inj v
 rcases W with⟨_,X⟩|⟨Y,h1,h2,o,h3,E⟩
 ·simp[aB.ghost]at X
 ·cases o with
  |map k D=>
   obtain⟨_,⟨g1,_⟩,G,g3⟩:=E
   have O:∀ (j:Nat) (e:Value×SV×List ff),es.es[j]? =some e->∃ y:MapEntry,k[j]? =some y/\y.key=e.1:=fun j e B=>let⟨y,I,J,_⟩:=G j e B;⟨y,I,J⟩
   refine⟨Y,h1,h2,k,D,h3,g1,?_,O,g3⟩
   apply List.ext_getElem?
   intro j
   rw[List.getElem?_map,List.getElem?_map,Array.getElem?_toList]
   cases B:es.es[j]? with
   |none=>
    have :es.es.length<=j:=List.getElem?_eq_none_iff.1 B
    rw[Array.getElem?_eq_none (by omega)];rfl
   |some e=>
    obtain⟨y,I,J⟩:=O j e B
    rw[I];simp[J]
  |cells cur T fz=>rw[E.1.1]at hl;cases hl
  |_=>exact E.elim
theorem HR.CX{M F:aD}{ρ:Names}{h:ar}{w:World}(H:HR M F ρ h w){n:Nat}{S:List Nat}{es:ko}(k:h n=some (.fam S es)){x:Own}(v:ρ n=some x):
  M x.b=none/\F x.b=none/\∃ o,w.heap[x.b]? =some o/\BR M ρ x (.fam S es) o:=by
 obtain⟨O,e,B⟩:=H.live n _ k
 rw[v]at e;obtain rfl:=Option.some.inj e
 rcases B with⟨_,D⟩|⟨U,E,G,o,I,J⟩
 ·simp[aB.ghost]at D
 ·exact⟨E,G,o,I,J⟩
theorem HR.FG{M F:aD}{ρ:Names}{h:ar}{w:World}(H:HR M F ρ h w){n:Nat}{S:List Nat}{es:ko}(E:h n=some (.fam S es)){x:Own}(G:ρ n=some x){k:Array MapEntry}{B:Nat}(I:w.heap[x.b]? =some (.map k B)):
  B=k.size/\∀ (j:Nat) (e:Value×SV×List ff),es.es[j]? =some e->∃ y:MapEntry,k[j]? =some y/\y.key=e.1/\y.born=j:=by
 obtain⟨W,v,J⟩:=H.live n _ E
 rw[G]at v;obtain rfl:=Option.some.inj v
 rcases J with⟨_,O⟩|⟨X,Y,h2,o,D,U⟩
 ·simp[aB.ghost]at O
 ·rw[I]at D;cases D
  obtain⟨_,⟨_,g1⟩,V,_⟩:=U
  exact⟨g1,V⟩
theorem wj{C:Ctx}{o:Oper}{nm:Nat}{v:Operand->SV}{t kt el:TypeId}{y z:Operand}{ok:Bool}(D:o.op= .lookup t y z ok)(O:C.P.underlying t=some (.map kt el))
  {n:Nat} {S:List Nat} {es:ko} (hl:es.ly=none) (hy:v y= .map n) {key:Value} (hz:∀ M ρ u,VR M ρ (v z) u->u=key) {r:Option Nat} (U:lS C.P kt key (es.es.map (·.1)) r) {u:SV}
  (hu:(r=none/\∃ zl,(C.P.info? el).bind (·.zero)=some zl/\zl.oneCell'=true/\u=toSV zl)\/∃ j,r=some j/\(j,u)∈es.op):
  bV C o nm v [(n, .fam S es)] (fun x w=>x=x8 ok u r.isSome/\w= []):=by
 refine aJ fun M F ρ a h w V hH E=>?_
 have e1:=V y (by rw[D];exact aP (.inl rfl));rw[hy]at e1
 have W:=hz _ _ _ (V z (by rw[D];exact aP (.inr rfl)))
 generalize X:a.eval y=q at e1
 cases e1 with
 |map _ x hx=>
  obtain⟨_,_,_,e,cl,k1,k2,k3,_,k4⟩:=hH.qC (E _ (List.mem_singleton.2 rfl)) hl hx
  have Y:=run_getObj_map (P:=C.P) k1
  have hf:=U.JJ e.toList w k3
  have hc:=U.Iz e.isEmpty w
  rcases hu with⟨rfl,zl,G,h1,rfl⟩|⟨j,rfl,hj⟩
  ·obtain⟨i,hi,I⟩:=Option.bind_eq_some_iff.1 G
   refine⟨if ok then .tuple #[zl, .bool false]else zl,?_,?_⟩
   ·have :(Instr.lookup t (.map (some x.b)) key ok).run C.P w= .ok (if ok then .tuple #[zl, .bool false]else zl) w:=by
     cases ok<;>simp[Instr.lookup,run_underlying O,Y,hc,hf,zeroValue,typeInfo,hi,I]
    simp only[execOp,D,X,W,Sem.run_bind,this,Result.andThen_ok,Sem.run_pure]
   ·have k:VR M ρ (toSV zl) zl:=mV h1
    cases ok with
    |false=>exact k
    |true=>exact VR.Hq k (.d _ _ (.val _ rfl))
  ·obtain⟨B,y1,y2⟩:=k4 _ hj
   refine⟨if ok then .tuple #[B.val, .bool true]else B.val,?_,?_⟩
   ·have :(Instr.lookup t (.map (some x.b)) key ok).run C.P w= .ok (if ok then .tuple #[B.val, .bool true]else B.val) w:=by
     have J:(Instr.findKey kt key e.toList).run C.P w= .ok (some (j,B.val)) w:=by
      rw[hf];simp[y1]
     cases ok<;>simp[Instr.lookup,run_underlying O,Y,hc,J]
    simp only[execOp,D,X,W,Sem.run_bind,this,Result.andThen_ok,Sem.run_pure]
   ·have k:VR M ρ u B.val:=y2
    cases ok with
    |false=>exact k
    |true=>exact VR.Hq k (.d _ _ (.val _ rfl))
theorem HR.CY{M F:aD}{ρ:Names}{h:ar}{w w':World}(H:HR M F ρ h w){n:Nat}{x:Own}{S:List Nat}{es B:ko}(G:h n=some (.fam S es))(hl:es.ly=none)(hl2:B.ly=none)(I:ρ n=some x){J ents2:Array MapEntry}{cl cl2:Nat}
  (ho:w.heap[x.b]? =some (.map J cl)) (hb:w'.heap[x.b]? =some (.map ents2 cl2)) (Y:∀ b,b≠x.b->w'.heap[b]? =w.heap[b]?) (a2:w.heap.size<=w'.heap.size) (hB:BR M ρ x (.fam S B) (.map ents2 cl2))
  (O:∀ (j:Nat) (k:Value) (s:SV) (bl:List ff),B.at j k s bl->∃ k',es.at j k' s bl/\∀ y,J[j]? =some y->∃ y2,ents2[j]? =some y2/\y2.val=y.val):HR M F ρ (upd h n (some (.fam S B))) w':=by
 obtain⟨X,hM,hF,_⟩:=H.qC G hl I
 have ne:∀ m,upd h n (some (.fam S B)) m≠none->h m≠none:=by
  intro m hm e
  rw[az]at hm;split at hm
  ·next U=>subst U;rw[G]at e;cases e
  ·exact hm e
 refine⟨fun b o v=>?_,fun b o v=>?_,H.j9,fun m b hm=>?_,fun p q y z D E=>H.sep p q y z (ne p D) (ne q E),fun m S' al hm=>?_⟩
 ·rw[Y b (by rintro rfl;rw[hM]at v;cases v)];exact H.fT b o v
 ·rw[Y b (by rintro rfl;rw[hF]at v;cases v)];exact H.iL b o v
 ·rw[az]at hm
  split at hm
  ·next e=>subst e;cases hm;exact⟨x,I, .inr ⟨X,hM,hF,_,hb,hB⟩⟩
  ·next e=>
   obtain⟨y,V,hr⟩:=H.live m b hm
   refine⟨y,V,?_⟩
   rcases hr with hr|⟨g0,g1,g2,o,g3,g4⟩
   ·exact .inl hr
   ·refine .inr ⟨g0,g1,g2,o,?_,g4⟩
    rw[Y y.b ?_];exact g3
    intro av
    exact e (H.sep m n y x (by rw[hm];simp) (by rw[G];simp) V I g0 X av)
 ·obtain⟨x',aa,k0,k1,k2,k3,k4⟩:=H.fam n S es G
  rw[I]at aa;obtain rfl:=Option.some.inj aa
  rw[az]at hm
  split at hm
  ·next e=>
   subst e;cases hm
   refine⟨x,I,X,fun b v=>⟨(k1 b v).1,(k1 b v).2.1,by have :=(k1 b v).2.2;omega⟩,fun p y D V=>k2 p y (ne p D) V,fun p S2 U D E=>?_,?_⟩
   ·rw[bU _ _ _ _ D]at E
    exact k3 p S2 U D E
   ·obtain⟨ax,r1,r2⟩:=k4
    refine⟨ax,fun j k s bl hj=>?_,?_⟩
    ·obtain⟨k',e1,U⟩:=O j k s bl hj
     obtain⟨⟨en,c,f1,f2,f3⟩,f4⟩:=r1 j k' s bl e1
     rw[ho]at f1;cases f1
     rw[hl]at f2
     obtain⟨y,a0,rfl⟩:=lg.1 f2
     obtain⟨y2,f5,f6⟩:=U y a0
     refine⟨⟨_,y2.val,hb,by rw[hl2];exact lg.2 ⟨y2,f5,rfl⟩,by rw[f6];exact f3⟩,fun i c W=>?_⟩
     obtain⟨z,z1,z2⟩:=f4 i c W
     refine⟨z,z1,?_⟩
     rcases z2 with z2|⟨z2,z3,o,z4,z5⟩
     ·exact .inl z2
     ·refine .inr ⟨z2,z3,o,?_,z5⟩
      rw[Y z.b ?_];exact z4
      intro e;exact k2 m x (by rw[G];simp) I X (e▸z3)
    ·intro j j' k k' s s' bl ah i i' c c' z z' hj a1
     obtain⟨a3,b1,_⟩:=O j k s bl hj
     obtain⟨a4,b2,_⟩:=O j' k' s' ah a1
     exact r2 j j' a3 a4 s s' bl ah i i' c c' z z' b1 b2
  ·next e=>
   obtain⟨y,V,g0,g1,g2,g3,g4⟩:=H.fam m S' al hm
   refine⟨y,V,g0,fun b v=>⟨(g1 b v).1,(g1 b v).2.1,by have :=(g1 b v).2.2;omega⟩,fun p z D hz=>g2 p z (ne p D) hz,fun p S2 U D E=>?_,g4.last (aD.le_refl _) (fun c W=>Y c ?_)⟩
   ·rw[az]at E
    split at E
    ·next e3=>subst e3;cases E;exact g3 p S es D G
    ·exact g3 p S2 U D E
   ·rintro rfl
    rcases W with W|W
    ·exact e (H.sep m n y x (by rw[hm];simp) (by rw[G];simp) V I g0 X W.symm)
    ·exact g2 n x (by rw[G];simp) I X W
def qD(key:Value)(u:SV)(r:Option Nat)(es:List (Value×SV×List ff)):ko:=match r with
 |none=>⟨es++ [(key, .any,[])],[(es.length,u)],none⟩
 |some j=>⟨es.set j (key, .any,[]),[(j,u)],none⟩
theorem zA{C:Ctx}{o:Oper}{nm:Nat}{v:Operand->SV}{t kt el:TypeId}{y z q:Operand}(ho:o.op= .mapUpdate t y z q)(ht:C.P.underlying t=some (.map kt el))
  {n:Nat} {S:List Nat} {es:ko} (hl:es.ly=none) (hy:v y= .map n) {key:Value} (hz:∀ M ρ u,VR M ρ (v z) u->u=key) {u:SV} (hq:v q=u) {r:Option Nat} (hr:lS C.P kt key (es.es.map (·.1)) r) (ah:∀ p,p∈es.op->r=some p.1):
  bV C o nm v [(n, .fam S es)] (fun x w=>x= .any/\w= [(n,some (.fam S (qD key u r es.es)))]):=by
 have m3:∀ x,x=y\/x=z\/x=q->x∈o.op.operands:=by intro x hx;rw[ho];rcases hx with rfl|rfl|rfl<;>simp[Op.operands]
 refine zn fun M F ρ a h w hv hH a2 a6=>?_
 have e1:=hv y (m3 y (.inl rfl));rw[hy]at e1
 have e2:=hz _ _ _ (hv z (m3 z (.inr (.inl rfl))))
 have e3:=hv q (m3 q (.inr (.inr rfl)));rw[hq]at e3
 have hn:=a2 _ (List.mem_singleton.2 rfl)
 have hn:h n=some (.fam S es):=hn
 generalize al:a.eval y=qy at e1
 cases e1 with
 |map _ x hx=>
  obtain⟨h0,hM,hF,B,E,V,k2,k3,_,k5⟩:=hH.qC hn hl hx
  obtain⟨W,k4⟩:=hH.FG hn hx V
  have hb:x.b<w.heap.size:=(Array.getElem?_eq_some_iff.1 V).1
  have hg:=run_getObj_map (P:=C.P) V
  have hc:=hr.Iz false w
  have hf:=hr.JJ B.toList w k3
  cases r with
  |none=>
   have hf:(Instr.findKey kt key B.toList).run C.P w= .ok none w:=hf
   refine⟨ρ,{w with heap:=w.heap.setIfInBounds x.b (.map (B.push {key:=key,val:=a.eval q,born:=E}) (E+1))},Names.le_refl _,fun _ _=>rfl,by simp[execOp,ho,al,e2,Instr.mapUpdate,run_underlying ht,hg,hc,hf,run_setObj_map V],?_,⟨rfl,rfl,rfl,by simp⟩⟩
   refine HR.CY (w':={w with heap:=w.heap.setIfInBounds x.b (.map (B.push {key:=key,val:=a.eval q,born:=E}) (E+1))}) (ents2:=B.push {key:=key,val:=a.eval q,born:=E}) (cl2:=E+1) hH hn hl rfl hx V (by simp[hb]) (fun b X=>by simp[Array.getElem?_setIfInBounds_ne (Ne.symm X)]) (by simp) ⟨rfl,⟨by simp[qD,k2],by simp[W]⟩,fun j e D=>?_,fun p G=>?_⟩ (fun j k s bl U=>?_)
   ·simp only[qD]at D
    by_cases U:j<es.es.length
    ·rw[List.getElem?_append_left U]at D
     obtain⟨y,a7,a8⟩:=k4 j e D
     exact⟨y,by rw[Array.getElem?_push,if_neg (by omega)];exact a7,a8⟩
    ·rw[List.getElem?_append_right (by omega)]at D
     have a3:j=es.es.length:=by
      have :=(List.getElem?_eq_some_iff.1 D).1
      simp at this;omega
     subst a3
     simp at D;subst D
     exact⟨⟨key,a.eval q,E⟩,by rw[Array.getElem?_push,if_pos k2.symm],rfl,by rw[W,k2]⟩
   ·simp only[qD,List.mem_singleton]at G
    subst G
    exact⟨⟨key,a.eval q,E⟩,by rw[Array.getElem?_push,if_pos k2.symm],e3⟩
   ·obtain⟨U,av⟩:=U
    simp only[qD]at U av
    have I:es.es.length≠j:=av _ (List.mem_singleton.2 rfl)
    have a4:j<es.es.length:=by
     have :=(List.getElem?_eq_some_iff.1 U).1
     simp at this;omega
    rw[List.getElem?_append_left a4]at U
    exact⟨k,⟨U,fun p G=>by have :=ah p G;cases this⟩,fun y hy=>⟨y,by rw[Array.getElem?_push,if_neg (by omega)];exact hy,rfl⟩⟩
  |some J=>
   obtain⟨Y,ax⟩:=hr.Ka J rfl
   rw[List.length_map]at Y
   obtain⟨y0,y1,y2,y3⟩:=k4 J _ (List.getElem?_eq_getElem Y)
   have hf:(Instr.findKey kt key B.toList).run C.P w= .ok (some (J,y0.val)) w:=by rw[hf];simp[y1]
   have a0:((B[J]?).map (·.key)).getD key=y0.key:=by rw[y1];rfl
   have a5:(es.es.map (·.1)).getD J key=y0.key:=by
    rw[List.getD_eq_getElem?_getD,List.getElem?_map,List.getElem?_eq_getElem Y,y2];rfl
   have aa:(Instr.keyThatStays y0.key key).run C.P w= .ok key w:=by
    rw[a5]at ax
    simp[Instr.keyThatStays,ax]
   refine⟨ρ,{w with heap:=w.heap.setIfInBounds x.b (.map (B.modify J fun e=>{e with key:=key,val:=a.eval q}) E)},Names.le_refl _,fun _ _=>rfl,?_,?_,⟨rfl,rfl,rfl,by simp⟩⟩
   ·simp only[execOp,ho,al,e2,Instr.mapUpdate,Sem.run_bind,run_underlying ht,hg,hc,hf,Result.andThen_ok,Sem.run_pure,a0,aa,run_setObj_map V]
   ·refine HR.CY (w':={w with heap:=w.heap.setIfInBounds x.b (.map (B.modify J fun e=>{e with key:=key,val:=a.eval q}) E)}) (ents2:=B.modify J fun e=>{e with key:=key,val:=a.eval q}) (cl2:=E) hH hn hl rfl hx V (by simp[hb]) (fun b X=>by simp[Array.getElem?_setIfInBounds_ne (Ne.symm X)]) (by simp) ⟨rfl,⟨by simp[qD,k2],by simp[W]⟩,fun i e D=>?_,fun p G=>?_⟩ (fun i k s bl O=>?_)
    ·simp only[qD]at D
     rw[List.getElem?_set]at D
     split at D
     ·next O=>
      subst O
      cases D
      exact⟨{y0 with key:=key,val:=a.eval q},by rw[Array.getElem?_modify,if_pos rfl,y1];rfl,rfl,y3⟩
     ·next O=>
      obtain⟨y',b1,b2⟩:=k4 i e D
      exact⟨y',by rw[Array.getElem?_modify,if_neg O];exact b1,b2⟩
    ·simp only[qD,List.mem_singleton]at G
     subst G
     exact⟨{y0 with key:=key,val:=a.eval q},by rw[Array.getElem?_modify,if_pos rfl,y1];rfl,e3⟩
    ·obtain⟨O,a1⟩:=O
     simp only[qD]at O a1
     have I:J≠i:=a1 _ (List.mem_singleton.2 rfl)
     rw[List.getElem?_set_ne I]at O
     exact⟨k,⟨O,fun p G=>by have :=ah p G;cases this;exact I⟩,fun y hy=>⟨y,by rw[Array.getElem?_modify,if_neg I];exact hy,rfl⟩⟩
section
variable {C:Ctx} {ops:List Oper} {i:Nat} {o:Oper} {l:List Oper} {t:Nat->SV} {h h':ar} {nx:Nat} {K:St->Prop} {acc:List FP} {ty kt el:TypeId} {y z q:Operand} {ok:Bool} {n:Nat} {S:List Nat} {es:ko} {key:Value} {u u':SV}
theorem Hy(r:Option Nat)(u:SV)(B:lS C.P kt key (es.es.map (·.1)) r)(D:(r=none/\∃ zl,(C.P.info? el).bind (·.zero)=some zl/\zl.oneCell'=true/\u=toSV zl)\/∃ j,r=some j/\(j,u)∈es.op)(d nm v:Nat)(E:i+1=v)(e:nx+8*i=nm)(G:o.guard=none)(b:o.dst=some d)(hd:Nat.blt d C.sz=true)(I:o.op= .lookup ty y z ok)
  (J:C.P.underlying ty=some (.map kt el)) (O:bE C t y= .map n) (U:∀ M ρ u,VR M ρ (bE C t z) u->u=key) (V:h n=some (.fam S es)) (W:(x8 ok u r.isSome).hd=some u')
  (k:an C ops v l ⟨upd t d u',h,nx⟩ none K) (hl:es.ly=none:=by rfl):an C ops i (o::l) ⟨t,h,nx⟩ none K:=by
 subst E;subst e
 refine cp (σ:=⟨t,h,nx⟩) G (by unfold aM;rw[b];exact hd) (wj I J hl O U B D) (fun p X=>by rw[List.mem_singleton.1 X];exact V) rfl ?_
 unfold St.app;rw[b,SV.bD W];exact k
theorem gu(r:Option Nat)(u:SV)(B:lS C.P kt key (es.es.map (·.1)) r)(D:(r=none/\∃ zl,(C.P.info? el).bind (·.zero)=some zl/\zl.oneCell'=true/\u=toSV zl)\/∃ j,r=some j/\(j,u)∈es.op)(d nm v:Nat)(E:i+1=v)(e:nx+8*i=nm)(G:o.guard=none)(b:o.dst=some d)(hd:Nat.blt d C.sz=true)(I:o.op= .lookup ty y z ok)
  (J:C.P.underlying ty=some (.map kt el)) (O:bE C t y= .map n) (U:∀ M ρ u,VR M ρ (bE C t z) u->u=key) (V:h n=some (.fam S es)) (W:(x8 ok u r.isSome).hd=some u')
  (k:an C ops v l ⟨upd t d u',h,nx⟩ (some (acc++ [([n],[])])) K) (hl:es.ly=none:=by rfl):an C ops i (o::l) ⟨t,h,nx⟩ (some acc) K:=by
 subst E;subst e
 refine cp (σ:=⟨t,h,nx⟩) G (by unfold aM;rw[b];exact hd) (wj I J hl O U B D) (fun p X=>by rw[List.mem_singleton.1 X];exact V) rfl ?_
 unfold St.app;rw[b,SV.bD W];exact k
theorem IP(r:Option Nat)(u:SV)(D:lS C.P kt key (es.es.map (·.1)) r)(e:∀ p,p∈es.op->r=some p.1)(nm B:Nat)(E:i+1=B)(v:nx+8*i=nm)(G:o.guard=none)(b:o.dst=none)(I:o.op= .mapUpdate ty y z q)
  (J:C.P.underlying ty=some (.map kt el)) (O:bE C t y= .map n) (U:∀ M ρ u,VR M ρ (bE C t z) u->u=key) (V:h n=some (.fam S es)) (W:(bE C t q).hd=some u)
  (k:an C ops B l ⟨t,upd h n (some (.fam S (qD key u r es.es))),nx⟩ none K) (hl:es.ly=none:=by rfl):an C ops i (o::l) ⟨t,h,nx⟩ none K:=by
 subst E;subst v
 refine cp (σ:=⟨t,h,nx⟩) G (by unfold aM;rw[b]) (zA I J hl O U (SV.bD W) D e) (fun p X=>by rw[List.mem_singleton.1 X];exact V) (by simp[cC]) ?_
 unfold St.app;rw[b];exact k
theorem IQ(r:Option Nat)(u:SV)(D:lS C.P kt key (es.es.map (·.1)) r)(e:∀ p,p∈es.op->r=some p.1)(nm B:Nat)(E:i+1=B)(v:nx+8*i=nm)(G:o.guard=none)(b:o.dst=none)(I:o.op= .mapUpdate ty y z q)
  (J:C.P.underlying ty=some (.map kt el)) (O:bE C t y= .map n) (U:∀ M ρ u,VR M ρ (bE C t z) u->u=key) (V:h n=some (.fam S es)) (W:(bE C t q).hd=some u)
  (k:an C ops B l ⟨t,upd h n (some (.fam S (qD key u r es.es))),nx⟩ (some (acc++ [([n],[n])])) K) (hl:es.ly=none:=by rfl):an C ops i (o::l) ⟨t,h,nx⟩ (some acc) K:=by
 subst E;subst v
 refine cp (σ:=⟨t,h,nx⟩) G (by unfold aM;rw[b]) (zA I J hl O U (SV.bD W) D e) (fun p X=>by rw[List.mem_singleton.1 X];exact V) (by simp[cC]) ?_
 unfold St.app;rw[b];exact k
end
end Go.Proofs.YtifcaekngfgdmaaDoor.Nice
