/- Part 8 of the proof of TopFile. -/
import Derived.Test.YtifcaekngfgdmaaDoorZM7
import Derived.Conc.CrowdRun
import Derived.Conc.CrowdComm
import Derived.Conc.QuitsD
set_option linter.unusedVariables false
set_option linter.unusedSimpArgs false
set_option maxRecDepth 100000
set_option maxHeartbeats 4000000
namespace Go.Proofs.YtifcaekngfgdmaaDoor.Nice
open Go
theorem Dz{C:Ctx}{o:Oper}{nm:Nat}{v:Operand->SV}{y:Operand}{t ty:TypeId}(ho:o.op= .call {callee:= .builtin .clear,args:= #[y],argTypes:= #[t]})(ht:C.P.underlying t=some (.slice ty)){zs:List Value}(hz:eP C.P ty=some zs){n off len k L:Nat}{f:Nat->Nat->D}(hk:zs.length=k)(hy:v y= .sl n off len)(hL:off+len<=L):
  bV C o nm v [(n, .rows ty k L f)] (fun x wr=>x= .any/\wr= [(n,some (.rows ty k off f))]):=by
 obtain⟨inf,B,Y,ah,J,a5,O⟩:=dx hz
 refine dn fun M F ρ a h w hv hH al a6=>?_
 have e1:=hv y (by rw[ho];simp[Op.operands,Call.operands]);rw[hy]at e1
 have U:=al _ (List.mem_singleton.2 rfl)
 have U:h n=some (.rows ty k L f):=U
 have E:∀ (w':World),(Builtin.clear_ #[t] o.type #[a.eval y]).run C.P w= .ok (.tuple #[]) w'->(execOp a.eval o).run C.P w= .ok (.value (.tuple #[])) w':=by
  intro w' hr
  unfold execOp
  simp only[ho,resolve,invoke,builtin,Sem.run_bind,Sem.run_pure,Result.andThen_ok,List.map_toArray,List.map_cons,List.map_nil,hr]
 have short:∀ (x:Own) (obj:Obj),BR M ρ x (.rows ty k L f) obj->BR M ρ x (.rows ty k off f) obj:=by
  intro x obj hb
  cases obj with
  |cells cur T fz=>
   obtain⟨h1,h2,h3,h4,h5,h6⟩:=hb
   exact⟨h1,h2,h3,h4,by omega,fun i c Y hc=>h6 i c (by omega) hc⟩
  |_=>exact hb.elim
 have gh:(aB.rows ty k L f).ghost=true->(aB.rows ty k off f).ghost=true:=by
  intro h
  cases L with
  |zero=>
   obtain rfl:off=0:=by omega
   rfl
  |succ L=>cases h
 have nothing:∀ ad c,a.eval y= .slice ad 0 c->∃ aq v' w',ρ.le aq/\(∀ n,n<nm\/nm+8<=n->aq n=ρ n)/\(execOp a.eval o).run C.P w= .ok (.value v') w'/\VR M aq .any v'/\HR M F aq (dB h [(n,some (.rows ty k off f))]) w'/\bG w w':=by
  intro ad c V
  refine⟨ρ, .tuple #[],w,Names.le_refl _,fun _ _=>rfl,E w ?_, .any _,hH.swap n U short gh, .refl _⟩
  rw[V]
  cases ad<;>simp[Builtin.clear_,run_underlying ht]
 generalize V:a.eval y=q at e1
 cases e1 with
 |jo _ _ x hx hR aa=>exact nothing aa 0 V
 |sl _ _ _ x hx IK hR h0=>
  rcases Nat.eq_zero_or_pos len with av|a3
  ·subst av;exact nothing _ _ V
  ·obtain⟨cur,k1,_,k3,k4,k5,k6⟩:=hH.rows U (by omega) hx
   have ax:x.k=k:=k3
   subst ax
   have a0:(Builtin.zeroCells B.cells len).toList.length=len*x.k:=by
    rw[Array.length_toList,size_zeroCells,<-Array.length_toList,J,hk]
   have hmul:(off+len)*x.k<=x.R*x.k:=Nat.mul_le_mul_right _ (by omega)
   rw[Nat.add_mul]at hmul
   have G:off*x.k+(Builtin.zeroCells B.cells len).toList.length<=cur.size:=by rw[a0,k4];exact hmul
   have h1:∀ u,u∈(Builtin.zeroCells B.cells len).toList->u.oneCell'=true:=by
    intro u hu
    have :u∈B.cells.toList:=by
     rw[Array.mem_toList_iff]at hu
     obtain⟨p,hp,rfl⟩:=Array.mem_iff_getElem.1 hu
     rw[Array.mem_toList_iff]
     have a1:p<len*B.cells.size:=by rw[size_zeroCells]at hp;exact hp
     have a2:0<B.cells.size:=by
      rcases Nat.eq_zero_or_pos B.cells.size with e|e
      ·rw[e]at a1;omega
      ·exact e
     simp only[Builtin.zeroCells,Array.getElem_map,Array.getElem_range]
     rw[getElem!_pos B.cells (p%B.cells.size) (Nat.mod_lt _ a2)]
     exact Array.getElem_mem _
    rw[J]at this
    exact O u this
   have I:=run_storeCells_at C.P x.b (off*x.k) ty (Builtin.zeroCells B.cells len).toList 0 cur w k1 (by rw[Nat.add_zero];exact G) h1
   rw[Nat.add_zero]at I
   generalize W:(cur.toList.take (off*x.k)++(Builtin.zeroCells B.cells len).toList++cur.toList.drop (off*x.k+(Builtin.zeroCells B.cells len).toList.length)).toArray=X at I
   refine⟨ρ, .tuple #[],w.setRow x.b X,Names.le_refl _,fun _ _=>rfl,E _ ?_, .any _,?_,⟨rfl,rfl,rfl,by simp⟩⟩
   ·obtain⟨a4,rfl⟩:∃ l,len=l+1:=⟨len-1,by omega⟩
    rw[V]
    simp only[Builtin.clear_,run_underlying ht,Sem.run_bind,Result.andThen_ok]
    simp[zeroValue,typeInfo,Y,ah,run_underlying ht]
    rw[I];rfl
   ·refine hH.put n x (by rw[U];simp) hx h0 _ _ (setRow_heap w x.b cur _ ty (0,0) k1) (fun b hb=>setRow_other w x.b b _ hb) ?_
    refine⟨rfl,rfl,rfl,?_,by omega,fun i c Y hc=>?_⟩
    ·rw[<-W]
     simp only[List.size_toArray,List.length_append,List.length_take,List.length_drop,Array.length_toList]
     rw[<-k4]
     simp only[Array.length_toList]at G;omega
    ·obtain⟨u,u1,u2⟩:=k6 i c (by omega) hc
     refine⟨u,?_,u2⟩
     have :=Nat.mul_le_mul_right x.k (show i+1<=off from Y)
     rw[Nat.succ_mul]at this
     rw[<-W,List.getElem?_toArray,lx _ _ _ _ (by rw[Array.length_toList];exact G),if_pos (by omega),Array.getElem?_toList]
     exact u1
theorem DC{C:Ctx}{o:Oper}{nm:Nat}{v:Operand->SV}{t kt el:TypeId}{y z:Operand}(B:o.op= .lookup t y z true)(O:C.P.underlying t=some (.map kt el))
  {n:Nat} {S:List Nat} {es:ko} (hl:es.ly=none) (U:v y= .map n) {key:Value} (V:∀ M ρ u,VR M ρ (v z) u->u=key) {j:Nat} (D:lS C.P kt key (es.es.map (·.1)) (some j)):
  bV C o nm v [(n, .fam S es)] (fun x w=>x= .bA [.any,SV.b true]/\w= []):=by
 refine aJ fun M F ρ a h w J W E=>?_
 have e1:=J y (by rw[B];exact aP (.inl rfl));rw[U]at e1
 have X:=V _ _ _ (J z (by rw[B];exact aP (.inr rfl)))
 generalize Y:a.eval y=q at e1
 cases e1 with
 |map _ x hx=>
  obtain⟨_,_,_,e,cl,k1,k2,k3,k5,k4⟩:=W.qC (E _ (List.mem_singleton.2 rfl)) hl hx
  have hg:=run_getObj_map (P:=C.P) k1
  have hf:=D.JJ e.toList w k3
  have hc:=D.Iz e.isEmpty w
  have k:=(D.Ka j rfl).1
  rw[List.length_map]at k
  obtain⟨G,y1,_⟩:=k5 j _ (List.getElem?_eq_getElem k)
  refine⟨.tuple #[G.val, .bool true],?_,VR.Hq (.any _) (.d _ _ (.val _ rfl))⟩
  have :(Instr.lookup t (.map (some x.b)) key true).run C.P w= .ok (.tuple #[G.val, .bool true]) w:=by
   have I:(Instr.findKey kt key e.toList).run C.P w= .ok (some (j,G.val)) w:=by
    rw[hf];simp[y1]
   simp[Instr.lookup,run_underlying O,hg,hc,I]
  simp only[execOp,B,Y,X,Sem.run_bind,this,Result.andThen_ok,Sem.run_pure]
theorem FV{C:Ctx}{o:Oper}{nm:Nat}{v:Operand->SV}{y:Operand}{t kt el:TypeId}(k:o.op= .call {callee:= .builtin .len,args:= #[y],argTypes:= #[t]})(D:C.P.underlying t=some (.map kt el)){n L:Nat}{S:List Nat}{es:ko}(hl:es.ly=none)(E:v y= .map n)(G:es.es.length=L):
  bV C o nm v [(n, .fam S es)] (fun x w=>x=SV.i L/\w= []):=by
 refine aJ fun M F ρ a h w I J e=>?_
 have e1:=I y (by rw[k];simp[Op.operands,Call.operands]);rw[E]at e1
 generalize O:a.eval y=q at e1
 cases e1 with
 |map _ x U=>
  obtain⟨_,_,_,B,Y,V,W,_⟩:=J.qC (e _ (List.mem_singleton.2 rfl)) hl U
  have X:(Builtin.len_ #[t] o.type #[.map (some x.b)]).run C.P w= .ok (.int .i64 L) w:=by
   simp[Builtin.len_,run_underlying D,run_getObj_map V,goInt,W,G]
  refine⟨.int .i64 L,?_, .d _ _ (.val _ rfl)⟩
  unfold execOp
  simp only[k,O,resolve,invoke,builtin,Sem.run_bind,Sem.run_pure,Result.andThen_ok,List.map_toArray,List.map_cons,List.map_nil,X]
theorem DD{C:Ctx}{o:Oper}{nm:Nat}{v:Operand->SV}{t e:TypeId}{y z:Operand}(k:o.op= .slice t y none (some z) none)(D:C.P.underlying t=some (.slice e)){inf:TypeInfo}(E:C.P.info? e=some inf)(G:v y= .d .bz)(I:v z=SV.i 0):
  bV C o nm v [] (fun x wr=>x= .d .bz/\wr= []):=by
 refine aJ fun M F ρ a h w B U J=>?_
 have e1:=B y (by rw[k];simp[Op.operands]);rw[G]at e1
 have b:=B z (by rw[k];simp[Op.operands]);rw[I]at b
 have b:a.eval z= .int .i64 0:=b.val
 generalize O:a.eval y=q at e1
 cases e1 with
 |d _ _ hd=>
  cases hd with
  |bz aa=>
   have :=eb (P:=C.P) (w:=w) D E aa 0 0 none (some (.int .i64 0)) 0 0 (.inl ⟨rfl,rfl⟩) (.inr ⟨_,rfl⟩) (by omega) (by omega) (by omega) (by omega)
   refine⟨sliced aa (0:Int).toNat (0:Int).toNat 0 inf.size,?_,?_⟩
   ·simp only[execOp,k,Option.map_none,Option.map_some,O,b,Sem.run_bind,this,Result.andThen_ok,Sem.run_pure]
   ·cases aa<;>exact .d _ _ (.bz _)
theorem FW{C:Ctx}{o:Oper}{nm:Nat}{v:Operand->SV}{t e:TypeId}{y z:Operand}(B:o.op= .slice t y none (some z) none)(I:C.P.underlying t=some (.slice e)){inf:TypeInfo}(J:C.P.info? e=some inf){n len:Nat}{u:Int}(O:v y= .sl n 0 len)(U:v z=SV.i u)(V:0<=u)(W:u<=len):
  bV C o nm v [] (fun x wr=>x= .sl n 0 u.toNat/\wr= []):=by
 refine aJ fun M F ρ a h w G hH X=>?_
 have e1:=G y (by rw[B];simp[Op.operands]);rw[O]at e1
 have k:=G z (by rw[B];simp[Op.operands]);rw[U]at k
 have k:a.eval z= .int .i64 u:=k.val
 generalize Y:a.eval y=q at e1
 have go:∀ b cap,q= .slice b len cap->len<=cap->(execOp a.eval o).run C.P w= .ok (.value (sliced b 0 u.toNat cap inf.size)) w:=by
  intro b cap D hc
  have :=eb (P:=C.P) (w:=w) I J b len cap none (some (.int .i64 u)) 0 u (.inl ⟨rfl,rfl⟩) (.inr ⟨_,rfl⟩) (by omega) V W hc
  simp only[execOp,B,Option.map_none,Option.map_some,Y,D,k,Sem.run_bind,this,Result.andThen_ok,Sem.run_pure];rfl
 cases e1 with
 |sl _ _ _ x hx IK hR IA=>
  refine⟨_,go _ _ rfl (by omega),?_⟩
  unfold sliced
  rw[if_neg (by omega)]
  simp only[Option.map_some,Addr.add_lit,Nat.zero_mul,Nat.add_zero,Nat.sub_zero]
  have :=VR.sl (M:=M) n 0 u.toNat x hx (by omega) hR IA
  simpa using this
 |jo _ _ x hx hR b=>
  have E:u=0:=by omega
  subst E
  refine⟨_,go b 0 rfl (Nat.le_refl _),?_⟩
  simp only[sliced,Int.toNat_zero,Nat.sub_self,if_true]
  exact .jo n 0 x hx hR b
section
variable {C:Ctx} {ops:List Oper} {i:Nat} {o:Oper} {l:List Oper} {tm:Nat->SV} {h:ar} {nx:Nat} {K:St->Prop} {acc:Option (List FP)}
theorem IZ{y:Operand}{t ty:TypeId}{zs:List Value}{n off len k L:Nat}{f:Nat->Nat->D}(nm v:Nat)(B:i+1=v)(e:nx+8*i=nm)(E:o.guard=none)(b:o.dst=none)(G:o.op= .call {callee:= .builtin .clear,args:= #[y],argTypes:= #[t]})(I:C.P.underlying t=some (.slice ty))(J:eP C.P ty=some zs)(O:zs.length=k)(U:bE C tm y= .sl n off len)(V:h n=some (.rows ty k L f))(W:off+len<=L)
  (X:an C ops v l ⟨tm,upd h n (some (.rows ty k off f)),nx⟩ (acc.map (· ++ [([n],[n])])) K):an C ops i (o::l) ⟨tm,h,nx⟩ acc K:=by
 subst B;subst e
 refine cp (σ:=⟨tm,h,nx⟩) E (by unfold aM;rw[b]) (Dz (nm:=nx+8*i) G I J O U W) (fun p Y=>by rw[List.mem_singleton.1 Y];exact V) (by simp[cC]) ?_
 unfold St.app;rw[b];exact X
theorem HH{y z:Operand}{ty kt el:TypeId}{n:Nat}{S:List Nat}{es:ko}{key:Value}(j:Nat)(B:lS C.P kt key (es.es.map (·.1)) (some j))(d nm v:Nat)(D:i+1=v)(k:nx+8*i=nm)(E:o.guard=none)(e:o.dst=some d)(hd:Nat.blt d C.sz=true)(G:o.op= .lookup ty y z true)
  (I:C.P.underlying ty=some (.map kt el)) (J:bE C tm y= .map n) (O:∀ M ρ u,VR M ρ (bE C tm z) u->u=key) (U:h n=some (.fam S es)) (hl:es.ly=none)
  (V:an C ops v l ⟨upd tm d (.bA [.any,SV.b true]),h,nx⟩ (acc.map (· ++ [([n],[])])) K):an C ops i (o::l) ⟨tm,h,nx⟩ acc K:=by
 subst D;subst k
 refine cp (σ:=⟨tm,h,nx⟩) E (by unfold aM;rw[e];exact hd) (DC (nm:=nx+8*i) G I hl J O B) (fun p W=>by rw[List.mem_singleton.1 W];exact U) rfl ?_
 unfold St.app;rw[e];exact V
theorem I0{y:Operand}{t kt el:TypeId}{n L:Nat}{S:List Nat}{es:ko}(d nm k:Nat)(v:i+1=k)(e:nx+8*i=nm)(B:o.guard=none)(b:o.dst=some d)(hd:Nat.blt d C.sz=true)(D:o.op= .call {callee:= .builtin .len,args:= #[y],argTypes:= #[t]})(E:C.P.underlying t=some (.map kt el))(G:bE C tm y= .map n)(I:h n=some (.fam S es))(hl:es.ly=none)(J:es.es.length=L)
  (O:an C ops k l ⟨upd tm d (SV.i L),h,nx⟩ (acc.map (· ++ [([n],[])])) K):an C ops i (o::l) ⟨tm,h,nx⟩ acc K:=by
 subst v;subst e
 refine cp (σ:=⟨tm,h,nx⟩) B (by unfold aM;rw[b];exact hd) (FV (nm:=nx+8*i) D E hl G J) (fun p U=>by rw[List.mem_singleton.1 U];exact I) rfl ?_
 unfold St.app;rw[b];exact O
theorem HI{y z:Operand}{t e:TypeId}{inf:TypeInfo}(d nm B:Nat)(D:i+1=B)(v:nx+8*i=nm)(E:o.guard=none)(b:o.dst=some d)(hd:Nat.blt d C.sz=true)(G:o.op= .slice t y none (some z) none)(I:C.P.underlying t=some (.slice e))(k:C.P.info? e=some inf)(J:bE C tm y= .d .bz)(O:bE C tm z=SV.i 0)
  (U:an C ops B l ⟨upd tm d (.d .bz),h,nx⟩ (acc.map (· ++ [([],[])])) K):an C ops i (o::l) ⟨tm,h,nx⟩ acc K:=by
 subst D;subst v
 refine cp (σ:=⟨tm,h,nx⟩) E (by unfold aM;rw[b];exact hd) (DD (nm:=nx+8*i) G I k J O) (fun p V=>by cases V) rfl ?_
 unfold St.app;rw[b];exact U
theorem G6{y z:Operand}{t e:TypeId}{inf:TypeInfo}{n len:Nat}{u:Int}(d nm B:Nat)(E:i+1=B)(v:nx+8*i=nm)(G:o.guard=none)(b:o.dst=some d)(hd:Nat.blt d C.sz=true)(I:o.op= .slice t y none (some z) none)(J:C.P.underlying t=some (.slice e))(k:C.P.info? e=some inf)(O:bE C tm y= .sl n 0 len)(U:bE C tm z=SV.i u)(D:0<=u/\u<=len)
  (V:an C ops B l ⟨upd tm d (.sl n 0 u.toNat),h,nx⟩ (acc.map (· ++ [([],[])])) K):an C ops i (o::l) ⟨tm,h,nx⟩ acc K:=by
 subst E;subst v
 refine cp (σ:=⟨tm,h,nx⟩) G (by unfold aM;rw[b];exact hd) (FW (nm:=nx+8*i) I J k O U D.1 D.2) (fun p W=>by cases W) rfl ?_
 unfold St.app;rw[b];exact V
end
theorem Spec.bP{P:Program}{G:Nat->SV}{fn:FuncId}{args:List SV}{ty k N:Nat}{f g:Nat->Nat->D}{rest:List aB}{post:SV->List (Option aB)->Prop}(h:Spec P G fn args (.rows ty k N g::rest) post)(J:∀ i c,i<N->c<k->f i c=g i c):Spec P G fn args (.rows ty k N f::rest) post:=by
 intro M F ρ vs w O U V W X
 refine h M F ρ vs w O ?_ V W X
 have :=U.swap 0 (b:= .rows ty k N f) (b':= .rows ty k N g) rfl (fun x obj B=>?_) (fun v=>by cases N with |zero=>rfl|succ N=>cases v)
 ·have e:upd (dC ((aB.rows ty k N f::rest).map some)) 0 (some (aB.rows ty k N g))=dC ((aB.rows ty k N g::rest).map some):=by
   funext n
   cases n with
   |zero=>rfl
   |succ n=>rfl
  rw[e]at this
  exact this
 ·cases obj with
  |cells cur T fz=>
   obtain⟨Y,h2,h3,h4,h5,h6⟩:=B
   exact⟨Y,h2,h3,h4,h5,fun i c E I=>by rw[<-J i c E I];exact h6 i c E I⟩
  |_=>exact B.elim
theorem sM{C:Ctx}{c:Code}{Q:Exit->St->Prop}{t:Nat->SV}{h:ar}{nx:Nat}(n j:Nat)(s':SV){ty k:Nat}{xs:List SV}{s:SV}(G:h n=some (.cells ty k xs))(I:xs[j]? =some s)(J:∀ M ρ v,VR M ρ s v->VR M ρ s' v)
  (O:W C c Q ⟨t,upd h n (some (.cells ty k (xs.set j s'))),nx⟩):W C c Q ⟨t,h,nx⟩:=by
 intro M F pin ρ a w b
 refine O M F pin ρ a w ⟨⟨b.tm,b.sz,b.df,?_,b.pn,b.pm,b.gl⟩,b.fr⟩
 refine b.hr.swap n G (fun x obj D=>?_) (fun h=>by cases h)
 cases obj with
 |cells cur T fz=>
  obtain⟨U,V,X,Y,h5,E⟩:=D
  refine⟨U,V,X,Y,by rw[List.length_set];exact h5,fun q z B=>?_⟩
  rw[List.getElem?_set]at B
  split at B
  ·next e=>
   subst e
   split at B
   ·cases B
    obtain⟨v,v1,v2⟩:=E j _ I
    exact⟨v,v1,J M ρ v v2⟩
   ·cases B
  ·exact E q z B
 |_=>exact D.elim
theorem jb(k:Nat)(f:Nat->Nat->D):∀ M ρ v,VR M ρ (.d .bz) v->VR M ρ (.d (.vec k 0 f)) v:=by
 intro M ρ v h
 cases h with |d _ _ h=>cases h with |bz a=>exact .d _ _ (.ie _ _ _ _)
end Go.Proofs.YtifcaekngfgdmaaDoor.Nice
namespace Go.Proofs.YtifcaekngfgdmaaDoor.Nice
open Go Go.Proofs Co
def qR(ch:List (List aR)):Nat->Nat->D:=fun i _=> .vec 2 (ch.getD i []).length (b6 (ch.getD i []))
def Kw(ch:List (List aR)):SV:= .d (.vec 1 ch.length (qR ch))
def bw(ch:List (List aR)):aB:= .rows 37 1 ch.length (qR ch)
def dw(l:List aR):aB:= .rows 31 2 l.length (b6 l)
theorem HJ{A B:List (List aR)}(i c:Nat)(b:i<A.length+B.length)(e:c<1):dZ (qR A) A.length (qR B) i c=qR (A++B) i c:=by
 unfold dZ qR
 by_cases h:i<A.length
 ·rw[if_pos h];simp[List.getD,List.getElem?_append_left h]
 ·rw[if_neg h];simp[List.getD,List.getElem?_append_right (by omega:A.length<=i)]
theorem yq{A:List (List aR)}{b:List aR}{d:D}(hd:d= .vec 2 b.length (b6 b))(i c:Nat)(e:i<A.length+1)(k:c<1):dZ (qR A) A.length (iF 1 [d]) i c=qR (A++ [b]) i c:=by
 subst hd
 rw[<-HJ i c e k]
 unfold dZ
 split
 ·rfl
 ·obtain rfl:c=0:=by omega
  have :i-A.length=0:=by omega
  rw[this];rfl
theorem HK{A B:List aR}(i c:Nat)(b:i<A.length+B.length)(e:c<2):dZ (b6 A) A.length (b6 B) i c=b6 (A++B) i c:=by
 unfold dZ b6
 by_cases h:i<A.length
 ·rw[if_pos h];simp[List.getD,List.getElem?_append_left h]
 ·rw[if_neg h];simp[List.getD,List.getElem?_append_right (by omega:A.length<=i)]
theorem HL{l:List (List aR)}{p:Nat}{b:List aR}{d:D}(hd:d= .vec 2 b.length (b6 b))(e:p<l.length)(i c:Nat)(k:i<l.length)(v:c<1):pz (qR l) p 0 [d] i c=qR (l.set p b) i c:=by
 subst hd
 obtain rfl:c=0:=by omega
 unfold pz qR
 by_cases h:i=p
 ·subst h;simp[List.getD,e]
 ·simp[h,List.getD,List.getElem?_set_ne (Ne.symm h)]
theorem HM{l:List aR}{p:Nat}{b:aR}(e:p<l.length)(i c:Nat)(B:i<l.length)(k:c<2):pz (b6 l) p 0 [.val (.int .i64 b.t), .val (.int .i64 b.v)] i c=b6 (l.set p b) i c:=by
 unfold pz
 by_cases h:i=p
 ·subst h
  match c,k with
  |0,_=>simp[b6,List.getD,e]
  |1,_=>simp[b6,List.getD,e]
 ·simp only[h,false_and,if_false]
  unfold b6
  rw[show(l.set p b).getD i default=l.getD i default by simp[List.getD,List.getElem?_set_ne (Ne.symm h)]]
def aV(k:Int)(s:ByteArray):List Int:= [k,s.size]++fb s
theorem Bt{k:Int}{s:ByteArray}(i c:Nat)(b:i<2+s.size)(e:c<1):dZ (iF 1 [.val (.int .u8 k), .val (.int .u8 s.size)]) 2 (ey s) i c=dm (aV k s) i c:=by
 unfold aV
 rw[<-Dx (A:= [k,(s.size:Int)]) i c b e]
 unfold dZ
 split
 ·obtain rfl:c=0:=by omega
  have :i=0\/i=1:=by omega
  rcases this with rfl|rfl<;>rfl
 ·next h=>rw[if_neg (by simpa using h)];rfl
theorem g9(k:Int)(s:ByteArray):(aV k s).length=2+s.size:=by simp[aV,bN];omega
def rW(cs:List (List aR))(n:Nat):Nat:=(cs.take n).flatten.length
theorem eY{α:Type}{l:List α}{k:Nat}(h:k<l.length):l.take (k+1)=l.take k++ [l[k]]:=by
 rw[List.take_add_one,List.getElem?_eq_getElem h];rfl
theorem lG{cs:List (List aR)}{n:Nat}(h:n<cs.length):(cs.take (n+1)).flatten=(cs.take n).flatten++cs.getD n []:=by
 rw[eY h,List.flatten_append]
 simp[List.getD,h]
theorem sN{cs:List (List aR)}{n:Nat}(h:n<cs.length):rW cs (n+1)=rW cs n+(cs.getD n []).length:=by
 unfold rW
 rw[lG h,List.length_append]
theorem uE(cs:List (List aR))(n:Nat):rW cs n<=cs.flatten.length:=by
 unfold rW
 conv=>rhs;rw[<-List.take_append_drop n cs]
 rw[List.flatten_append,List.length_append];omega
def eZ{α:Type}(p:α->Bool)(l:List α)(k:Nat):List α:=(l.take k).filter p++l.drop ((l.take k).filter p).length
def cx{α:Type}(p:α->Bool)(l:List α)(k:Nat):Nat:=((l.take k).filter p).length
theorem kM{α:Type}(p:α->Bool)(l:List α)(k:Nat):cx p l k<=k/\cx p l k<=l.length:=by
 unfold cx
 have h:=List.length_filter_le p (l.take k)
 rw[List.length_take]at h
 omega
theorem gk{α:Type}(p:α->Bool)(l:List α)(k:Nat):(eZ p l k).length=l.length:=by
 have h:=(kM p l k).2
 unfold cx at h
 unfold eZ
 rw[List.length_append,List.length_drop];omega
theorem DF{α:Type}(p:α->Bool){l:List α}{k j:Nat}(h:k<=j):(eZ p l k)[j]? =l[j]? :=by
 have b:=(kM p l k).1
 unfold cx at b
 unfold eZ
 rw[List.getElem?_append_right (by omega),List.getElem?_drop];congr 1;omega
theorem uF{α:Type}(p:α->Bool){l:List α}{k:Nat}(h:k<l.length)(b:p l[k]=false):eZ p l (k+1)=eZ p l k/\cx p l (k+1)=cx p l k:=by
 unfold eZ cx
 rw[eY h,List.filter_append]
 simp[b]
theorem wK{α:Type}(p:α->Bool){l:List α}{k:Nat}(h:k<l.length)(b:p l[k]=true):eZ p l (k+1)=(eZ p l k).set (cx p l k) l[k]/\cx p l (k+1)=cx p l k+1:=by
 have v:=(kM p l k).1
 unfold eZ cx at *
 have e:(l.take (k+1)).filter p=(l.take k).filter p++ [l[k]]:=by rw[eY h,List.filter_append];simp[b]
 rw[e]
 refine⟨?_,by simp⟩
 rw[List.set_append_right _ _ (Nat.le_refl _),Nat.sub_self,List.append_assoc]
 congr 1
 rw[List.length_append,List.length_singleton]
 generalize((l.take k).filter p).length=q at *
 rw[show l.drop q=l[q]::l.drop (q+1)from(List.drop_eq_getElem_cons (by omega))]
 rfl
theorem kN{α:Type}(p:α->Bool)(l:List α):(eZ p l l.length).take (cx p l l.length)=l.filter p/\cx p l l.length=(l.filter p).length:=by
 unfold eZ cx
 rw[List.take_length]
 exact⟨List.take_left,rfl⟩
theorem Bu{α:Type}(p:α->Bool){l:List α}{k:Nat}(B:k<l.length)(h:∀ (i:Nat) (v:i<k),p (l[i]'(by omega))=true)(b:p l[k]=false):eZ p l (k+1)=l/\cx p l (k+1)=k:=by
 have e:(l.take k).filter p=l.take k:=by
  rw[List.filter_eq_self]
  intro x D
  obtain⟨i,v,rfl⟩:=List.mem_iff_getElem.1 D
  rw[List.length_take]at v
  rw[List.getElem_take]
  exact h i (by omega)
 have hl:(l.take k).length=k:=by rw[List.length_take];omega
 obtain⟨E,G⟩:=uF p B b
 rw[E,G]
 unfold eZ cx
 rw[e,hl]
 exact⟨List.take_append_drop k l,rfl⟩
theorem DG{α:Type}(p:α->Bool){l:List α}(h:∀ (i:Nat) (b:i<l.length),p l[i]=true):l.filter p=l:=by
 rw[List.filter_eq_self]
 intro x e
 obtain⟨i,b,rfl⟩:=List.mem_iff_getElem.1 e
 exact h i b
theorem G7{α:Type}(p:α->Bool):∀ {l:List α} {n:Nat} (h:n<l.length),n<=(l.takeWhile p).length->p l[n]=false->(l.takeWhile p).length=n
 |x::l,0,h,_,hp=>by simp only[List.getElem_cons_zero]at hp;rw[List.takeWhile_cons];simp[hp]
 |x::l,n+1,h,hn,hp=>by
  have h':n<l.length:=by simpa using h
  rw[List.takeWhile_cons]at *
  split at hn
  ·next e=>
   rw[if_pos e]
   have b:n<=(l.takeWhile p).length:=by simpa using hn
   rw[List.length_cons,G7 p h' b (by simpa using hp)]
  ·simp at hn
theorem uG{α:Type}(p:α->Bool):∀ {l:List α} {n:Nat} (h:n<l.length),n<=(l.takeWhile p).length->p l[n]=true->n+1<=(l.takeWhile p).length
 |x::l,0,h,_,hp=>by simp only[List.getElem_cons_zero]at hp;rw[List.takeWhile_cons];simp[hp]
 |x::l,n+1,h,hn,hp=>by
  have h':n<l.length:=by simpa using h
  rw[List.takeWhile_cons]at *
  split at hn
  ·next e=>
   rw[if_pos e]
   have b:n<=(l.takeWhile p).length:=by simpa using hn
   have :=uG p h' b (by simpa using hp)
   rw[List.length_cons];omega
  ·simp at hn
theorem DH{α:Type}(p:α->Bool):∀ {l:List α} {i:Nat} (h:i<(l.takeWhile p).length) (hl:i<l.length),p l[i]=true
 |x::l,i,h,hl=>by
  rw[List.takeWhile_cons]at h
  split at h
  ·next e=>
   match i,h,hl with
   |0,_,_=>simpa using e
   |i+1,h,hl=>
    have :=DH p (l:=l) (i:=i) (by simpa using h) (by simpa using hl)
    simpa using this
  ·simp at h
theorem G8{α:Type}(p:α->Bool){l:List α}{i:Nat}(h:i<(l.takeWhile p).length):∃ hl:i<l.length,p l[i]=true:=by
 have hle:=(List.takeWhile_prefix p (l:=l)).length_le
 exact⟨by omega,DH p h (by omega)⟩
def mw{α:Type}(p:α->Bool)(l:List α):Int:=if(l.takeWhile p).length<l.length then((l.takeWhile p).length:Int)else -1
theorem zS{α:Type}(p:α->Bool){l:List α}{n:Nat}(h:n<l.length)(b:n<=(l.takeWhile p).length)(e:p l[n]=false):mw p l=(n:Int):=by
 unfold mw;rw[G7 p h b e,if_pos h]
theorem sP{α:Type}(p:α->Bool){l:List α}(b:l.length<=(l.takeWhile p).length):mw p l= -1:=by
 unfold mw;rw[if_neg (by omega)]
theorem zT{α:Type}(p:α->Bool){l:List α}(h:mw p l= -1):l.filter p=l:=by
 unfold mw at h
 split at h
 ·omega
 ·exact DG p fun i b=>(G8 p (by omega)).2
theorem wL{α:Type}(p:α->Bool){l:List α}(h: ¬ mw p l= -1):∃ k,mw p l=(k:Nat)/\k<l.length/\eZ p l (k+1)=l/\cx p l (k+1)=k:=by
 unfold mw at h ⊢
 split at h
 ·next e=>
  rw[if_pos e]
  refine⟨_,rfl,e,Bu p e (fun i b=>(G8 p b).2) ?_⟩
  cases v:p l[(l.takeWhile p).length]
  ·rfl
  ·have :=uG p e (Nat.le_refl _) v
   omega
 ·exact absurd rfl h
theorem getD_eq{α:Type}[Inhabited α]{l:List α}{n:Nat}(h:n<l.length):l.getD n default=l[n]:=by simp[List.getD,h]
theorem wM{α:Type}[Inhabited α](p:α->Bool){l:List α}{k j:Nat}(h:k<=j):(eZ p l k).getD j default=l.getD j default:=by
 simp only[List.getD];rw[DF p h]
theorem wN{α:Type}[Inhabited α](p:α->Bool)(l:List α){i:Nat}(h:i<cx p l l.length):(eZ p l l.length).getD i default=(l.filter p).getD i default:=by
 obtain⟨b,e⟩:=kN p l
 rw[<-b];simp only[List.getD];rw[List.getElem?_take,if_pos h]
def dK(a b:Int)(s:aR):Bool:= !(decide (s.t<a)||decide (b<=s.t))
def lastT(c:List aR):Int:=(c.getD (c.length-1) default).t
def aO(k:Int)(c:List aR):Bool:= !(decide (lastT c<k))
theorem sQ(k:Int)(s:ByteArray)(B:s.size<=200):Spec Tryd.prog GF 43 [.d (.val (.int .u8 k)), .d (.val (.string s))] [] (fun r b=>r= .sl 0 0 (aV k s).length/\b= [some (bY (aV k s))]):=by
 refine start 12 0 Tryd.func43 rfl rfl rfl rfl ?_
 refine r1<|sT 4 0 1 rfl<|e1 8 rfl<|ab [0,1] rfl<|r1<|sT 5 8 1 rfl<|sT 6 16 2 rfl<|sO 7 24 3 rfl<|sT 8 32 4 rfl ?_
 refine val 8 (.d (.val (.int .u8 s.size))) rfl (congrArg (fun x=>SV.d (D.val (Value.int .u8 x))) (show(s.size:Int)%256=s.size by omega)) ?_
 refine sT 9 40 5 rfl<|sT 10 48 6 rfl ?_
 refine IX 11 56 7 rfl rfl rfl rfl rfl rfl Tryd.underlying26 Tryd.underlying9 rfl rfl rfl rfl rfl rfl rfl rfl rfl (by omega) (by show(2+s.size)*1<=140737488355328;omega) (by simp only[maxLen];omega) ?_
 refine sT 4 64 8 rfl<|e1 72 rfl<|ab [4] rfl ?_
 refine bP 56 (aV k s).length (dm (aV k s)) rfl (g9 k s).symm (fun i c e v=>Bt i c e v) ?_
 refine cB 4 (.sl 56 0 (aV k s).length) rfl (by rw[g9]) ?_
 refine ao ?_
 exact bm 4 (.sl 0 0 (aV k s).length) (π:= [56]) (ae:= [some (bY (aV k s))]) Tryd.results43 rfl rfl rfl rfl ⟨rfl,trivial⟩ ⟨rfl,rfl⟩
theorem qS(ch:List (List aR))(hl:ch.length<=100000):Spec Tryd.prog GF 59 [Kw ch] [] (fun r k=>r= .sl 0 0 ch.length/\k= [some (bw ch)]):=by
 refine start 8 0 Tryd.func59 rfl rfl rfl rfl ?_
 refine r1<|sT 2 0 1 rfl<|e1 8 rfl<|ab [0] rfl<|ai<|r1<|sT 3 8 1 rfl ?_
 refine GZ 4 16 2 rfl rfl rfl rfl rfl rfl rfl rfl (fun b v=>?_)
 refine e1 24 rfl<|ab [0,4] rfl ?_
 refine q1 rfl (fun e=>?_) (fun e=>?_)
 try simp only[cs,ne_eq]at e
 obtain rfl:ch= []:=List.length_eq_zero_iff.1 (v e)
 refine r1<|sT 2 24 1 rfl<|e1 32 rfl<|ab [2] rfl ?_
 refine fV 2 37 1 (qR []) rfl ?_
 refine ao<|tr ?_
 exact bm 2 (.sl 0 0 0) (π:= [32]) (ae:= [some (bw [])]) Tryd.results59 rfl rfl rfl rfl ⟨rfl,trivial⟩ ⟨rfl,rfl⟩
 try simp only[cs,ne_eq]at e
 refine ak<|tn<|r1<|sT 5 24 1 rfl<|sT 6 32 2 rfl ?_
 refine sV 7 40 3 rfl ⟨trivial,(by show ch.length*24<=140737488355328;omega),(by simp only[maxLen];omega)⟩ ?_
 refine sT 2 48 4 rfl<|e1 56 rfl<|ab [2] rfl<|ao ?_
 exact bm 2 (.sl 0 0 ch.length) (π:= [40]) (ae:= [some (bw ch)]) Tryd.results59 rfl rfl rfl rfl ⟨rfl,trivial⟩ ⟨rfl,rfl⟩
theorem DI(n:Nat)(B:n<=100000):Spec Tryd.prog GF 94 [.d .bz,SV.i n] [] (fun r k=>r= .sl 0 0 0/\k= [some (dw [])]):=by
 refine start 27 0 Tryd.func94 rfl rfl rfl rfl ?_
 refine r1<|sT 4 0 1 rfl<|e1 8 rfl<|ab [0,1] rfl<|ai<|r1<|sT 5 8 1 rfl<|sO 6 16 2 rfl<|e1 24 rfl<|ab [0,1,6] rfl ?_
 refine q1 rfl (fun b=>?_) (fun b=>?_)
 exfalso;simp at b;omega
 try simp only[cs,ne_eq]at b
 refine ak<|tn<|ai<|r1<|sT 8 24 1 rfl<|sT 9 32 2 rfl ?_
 refine zO 10 40 3 rfl rfl rfl rfl rfl rfl Tryd.underlying37 rfl ?_
 refine sT 11 48 4 rfl<|sO 12 56 5 rfl<|de 13 64 6 rfl<|de 14 72 7 rfl ?_
 refine val 14 (SV.i n) rfl (congrArg SV.i (by omega)) ?_
 refine sT 1 80 8 rfl<|e1 88 rfl<|ab [0,1] rfl<|r1<|sT 15 88 1 rfl<|sO 16 96 2 rfl<|e1 104 rfl<|ab [0,1,16] rfl ?_
 refine q1 rfl (fun e=>?_) (fun e=>?_)
 try simp only[cs,ne_eq]at e
 refine r0 ?_
 refine sT 17 104 1 rfl<|sT 18 112 2 rfl ?_
 refine zO 19 120 3 rfl rfl rfl rfl rfl rfl Tryd.underlying37 rfl ?_
 refine HI 20 128 4 rfl rfl rfl rfl rfl rfl Tryd.underlying37 rfl rfl rfl ?_
 refine sT 21 136 5 rfl ?_
 refine JP (fun _ _=>D.val (Value.int .i64 0)) 22 144 6 rfl rfl rfl rfl rfl rfl Tryd.underlying37 Tryd.underlying3 rfl rfl rfl (by decide) rfl rfl (by omega) (fun M j c v=>(match c,v with |0,_=>⟨_,rfl, .val _ rfl⟩|1,_=>⟨_,rfl, .val _ rfl⟩)) (by show n*16<=140737488355328;omega) (by simp only[maxLen];omega) ?_
 refine sT 23 152 7 rfl<|sO 24 160 8 rfl<|sO 25 168 9 rfl<|sT 0 176 10 rfl<|e1 184 rfl<|tn ?_
 refine Du 144 0 (b6 []) rfl (Nat.zero_le _) (fun i c E=>by omega) ?_
 refine r1<|sT 26 184 1 rfl<|sT 4 192 2 rfl<|e1 200 rfl<|ab [4] rfl<|ao ?_
 exact bm 4 (.sl 0 0 0) (π:= [144]) (ae:= [some (dw [])]) Tryd.results94 rfl rfl rfl rfl ⟨rfl,trivial⟩ ⟨rfl,rfl⟩
 try simp only[cs,ne_eq]at e
 refine ak<|tn ?_
 refine fV 0 31 2 (b6 []) rfl ?_
 refine r1<|sT 26 112 1 rfl<|sT 4 120 2 rfl<|e1 128 rfl<|ab [4] rfl<|ao ?_
 exact bm 4 (.sl 0 0 0) (π:= [104]) (ae:= [some (dw [])]) Tryd.results94 rfl rfl rfl rfl ⟨rfl,trivial⟩ ⟨rfl,rfl⟩
theorem yr(gs:List (List aR))(hl:gs.length<=1000)(J:gs.flatten.length<=100000):Spec Tryd.prog GF 85 [.sl 0 0 gs.length] [bw gs] (fun r E=>r= .sl 1 0 gs.flatten.length/\E= [some (bw gs),some (dw gs.flatten)]):=by
 refine start 36 1 Tryd.func85 rfl rfl rfl rfl ?_
 refine r1<|sT 2 1 1 rfl<|e1 9 rfl<|ab [0] rfl<|r1<|sT 3 9 1 rfl<|e1 17 rfl<|ab [0,3] rfl<|ai<|r1<|sT 9 17 1 rfl<|sO 10 25 2 rfl<|sT 11 33 3 rfl<|e1 41 rfl<|ab [0,3,9,10,11] rfl<|au ?_
 refine loop (α:=Nat) 1 (fun n=> [(0, .sl 0 0 gs.length),(3,SV.i (rW gs (n))),(9, .sl 0 0 gs.length),(10,SV.i gs.length),(11,SV.i (n))]) (fun n=> [some (bw gs)]) (fun n=>(n)<=gs.length) (fun n=>gs.length-(n)) (((0):Nat)) [0] (fun _=>rfl) (show(0)<=gs.length from(Nat.zero_le _)) rfl ⟨rfl,rfl,rfl,rfl,rfl,trivial⟩ ⟨rfl,trivial⟩ (fun n v=>?_)
 show W _ _ _ ⟨dG [(0, .sl 0 0 gs.length),(3,SV.i (rW gs n)),(9, .sl 0 0 gs.length),(10,SV.i gs.length),(11,SV.i n)],dC [some (bw gs)],1⟩
 have v:n<=gs.length:=v
 refine r1<|sO 12 1 1 rfl<|e1 9 rfl<|ab [0,3,9,10,11,12] rfl<|ai ?_
 refine q1 rfl (fun e=>?_) (fun e=>?_)
 try simp only[cs,ne_eq]at e
 have B:=uE gs (n+1)
 have D:=sN (cs:=gs) (n:=n) (by omega)
 refine ak<|tn<|ai<|au<|r1 ?_
 refine sV 13 9 1 rfl ⟨⟨by omega,by omega⟩,by omega⟩ ?_
 refine sV 14 17 2 rfl (by simp only[Int.toNat_natCast];omega) ?_
 refine val 14 (.d (.vec 2 (gs.getD n []).length (b6 (gs.getD n [])))) rfl (by first|(simp only[Int.toNat_natCast,Nat.zero_add];done)|(simp only[Int.toNat_natCast,Nat.zero_add];rfl)) ?_
 refine sT 5 25 3 rfl<|e1 33 rfl<|ab [0,3,5,9,10,11] rfl<|r1<|sT 15 33 1 rfl<|sT 16 41 2 rfl<|sO 17 49 3 rfl<|de 18 57 4 rfl ?_
 refine val 18 (SV.i (rW gs (n+1))) rfl (congrArg SV.i (by omega)) ?_
 refine sT 3 65 5 rfl<|e1 73 rfl<|ab [0,3,9,10,11] rfl<|r1<|sT 19 73 1 rfl<|sO 20 81 2 rfl<|e1 89 rfl<|ab [0,3,9,10,11,20] rfl ?_
 refine q1 rfl (fun k=>?_) (fun k=>?_)
 exfalso;simp at k;omega
 try simp only[cs,ne_eq]at k
 refine ak<|bn<|tn ?_
 refine r0 ?_
 refine de 22 89 1 rfl<|sT 11 97 2 rfl<|e1 105 rfl<|tn ?_
 exact again ((n+1:Nat)) [0] (show(n+1)<=gs.length from(by omega)) (show gs.length-(n+1)<gs.length-n from(by omega)) rfl ⟨rfl,rfl,rfl,rfl,rfl,trivial⟩ ⟨rfl,trivial⟩
 try simp only[cs,ne_eq]at e
 refine bI<|tx<|tx<|bx<|tn ?_
 obtain rfl:n=gs.length:=(by omega)
 refine r1<|sT 23 9 1 rfl ?_
 refine c1 (DI (rW gs gs.length) (by have :=uE gs gs.length;omega)) [] [17] 24 17 2 rfl rfl rfl rfl rfl rfl rfl rfl Tryd.func94 rfl rfl rfl rfl trivial rfl rfl ?_
 refine sT 6 25 3 rfl<|e1 33 rfl<|ab [0,6] rfl<|ai<|r1<|sT 25 33 1 rfl<|sO 26 41 2 rfl<|sT 27 49 3 rfl<|e1 57 rfl<|ab [6,25,26,27] rfl<|au ?_
 refine loop (α:=Nat) 2 (fun n=> [(6, .sl 1 0 (gs.take (n)).flatten.length),(25, .sl 0 0 gs.length),(26,SV.i gs.length),(27,SV.i (n))]) (fun n=> [some (bw gs),some (dw (gs.take (n)).flatten)]) (fun n=>(n)<=gs.length) (fun n=>gs.length-(n)) (((0):Nat)) [0,17] (fun _=>rfl) (show(0)<=gs.length from(Nat.zero_le _)) rfl ⟨rfl,rfl,rfl,rfl,trivial⟩ ⟨rfl,rfl,trivial⟩ (fun n v=>?_)
 show W _ _ _ ⟨dG [(6, .sl 1 0 (gs.take n).flatten.length),(25, .sl 0 0 gs.length),(26,SV.i gs.length),(27,SV.i n)],dC [some (bw gs),some (dw (gs.take n).flatten)],2⟩
 have v:n<=gs.length:=v
 refine r1<|sO 28 2 1 rfl<|e1 10 rfl<|ab [6,25,26,27,28] rfl<|ai ?_
 refine q1 rfl (fun b=>?_) (fun b=>?_)
 try simp only[cs,ne_eq]at b
 have B:=uE gs (n+1)
 have D:=sN (cs:=gs) (n:=n) (by omega)
 unfold rW at B D
 refine ak<|tn<|ai<|au<|r1 ?_
 refine sV 29 10 1 rfl ⟨⟨by omega,by omega⟩,by omega⟩ ?_
 refine sV 30 18 2 rfl (by simp only[Int.toNat_natCast];omega) ?_
 refine val 30 (.d (.vec 2 (gs.getD n []).length (b6 (gs.getD n [])))) rfl (by first|(simp only[Int.toNat_natCast,Nat.zero_add];done)|(simp only[Int.toNat_natCast,Nat.zero_add];rfl)) ?_
 refine sT 8 26 3 rfl<|e1 34 rfl<|ab [6,8,25,26,27] rfl ?_
 refine r0 ?_
 refine sT 31 34 1 rfl<|sT 32 42 2 rfl ?_
 refine sV 33 50 3 rfl ⟨Nat.le_refl _,trivial,(by show(_+_)*16<=140737488355328;omega),(by simp only[maxLen];omega)⟩ ?_
 refine sT 6 58 4 rfl<|e1 66 rfl<|bn<|tn ?_
 refine bP 50 (gs.take (n+1)).flatten.length (b6 (gs.take (n+1)).flatten) rfl (by rw[lG (by omega),List.length_append]) (fun i c G I=>by rw[lG (by omega)];exact HK i c G I) ?_
 refine cB 6 (.sl 50 0 (gs.take (n+1)).flatten.length) rfl (by rw[lG (by omega),List.length_append]) ?_
 refine r0 ?_
 refine de 34 66 1 rfl<|sT 27 74 2 rfl<|e1 82 rfl<|tn ?_
 exact again ((n+1:Nat)) [0,50] (show(n+1)<=gs.length from(by omega)) (show gs.length-(n+1)<gs.length-n from(by omega)) rfl ⟨rfl,rfl,rfl,rfl,trivial⟩ ⟨rfl,rfl,trivial⟩
 try simp only[cs,ne_eq]at b
 refine bI<|tx<|tx<|bx<|tn<|r1<|sT 35 10 1 rfl<|sT 2 18 2 rfl<|e1 26 rfl<|ab [2] rfl<|ao ?_
 obtain rfl:n=gs.length:=(by omega)
 exact bm 2 (.sl 1 0 gs.flatten.length) (π:= [0,1]) (ae:= [some (bw gs),some (dw gs.flatten)]) Tryd.results85 rfl (by rw[List.take_length];rfl) rfl rfl ⟨rfl,(by rw[List.take_length];rfl),trivial⟩ ⟨rfl,rfl⟩
theorem pf(s:aR)(a b:Int):Spec Tryd.prog GF 62 [nj s, .ptr 0 0 0, .ptr 1 0 0] [.cells 3 1 [SV.i a], .cells 3 1 [SV.i b]] (fun r v=>r=SV.b (!(dK a b s))/\v= [some (.cells 3 1 [SV.i a]),some (.cells 3 1 [SV.i b])]):=by
 refine start 15 2 Tryd.func62 rfl rfl rfl rfl ?_
 refine r1<|sT 3 2 1 rfl<|sT 4 10 2 rfl<|e1 18 rfl<|ab [1,2,3] rfl<|r1<|sT 5 18 1 rfl<|sO 6 26 2 rfl<|sO 7 34 3 rfl<|sO 8 42 4 rfl<|sT 9 50 5 rfl ?_
 refine ask 9 rfl (fun e=>?_) (fun e=>?_)
 ·skip
  try simp only[cs,ne_eq]at e
  refine gF 4 false 9 10 6 rfl rfl<|gF 4 false 9 11 7 rfl rfl<|gF 4 false 9 12 8 rfl rfl<|gF 4 false 9 13 9 rfl rfl<|sT 14 90 10 rfl<|sT 4 98 11 rfl<|e1 106 rfl<|ab [4] rfl<|ao ?_
  exact bm 4 (SV.b (!(dK a b s))) (π:= [0,1]) (ae:= [some (.cells 3 1 [SV.i a]),some (.cells 3 1 [SV.i b])]) Tryd.results62 rfl (show SV.b _=SV.b _ from congrArg SV.b (by unfold dK;rw[Bool.not_not];by_cases k:s.t<a<;>simp[k]<;>omega)) rfl rfl ⟨rfl,rfl,trivial⟩ ⟨rfl,rfl⟩
 try simp only[cs,ne_eq]at e
 refine gT 4 false 9 6 rfl rfl<|sT 10 58 6 rfl<|gT 4 false 9 7 rfl rfl<|sO 11 66 7 rfl<|gT 4 false 9 8 rfl rfl<|sO 12 74 8 rfl<|gT 4 false 9 9 rfl rfl<|sO 13 82 9 rfl<|sT 14 90 10 rfl<|sT 4 98 11 rfl<|e1 106 rfl<|ab [4] rfl<|ao ?_
 exact bm 4 (SV.b (!(dK a b s))) (π:= [0,1]) (ae:= [some (.cells 3 1 [SV.i a]),some (.cells 3 1 [SV.i b])]) Tryd.results62 rfl (show SV.b _=SV.b _ from congrArg SV.b (by unfold dK;rw[Bool.not_not];by_cases k:s.t<a<;>simp[k]<;>omega)) rfl rfl ⟨rfl,rfl,trivial⟩ ⟨rfl,rfl⟩
theorem sR(c:List aR)(k:Int)(v:0<c.length)(hl:c.length<=100000):Spec Tryd.prog GF 60 [jD c, .ptr 0 0 0] [.cells 3 1 [SV.i k]] (fun r e=>r=SV.b (!(aO k c))/\e= [some (.cells 3 1 [SV.i k])]):=by
 refine start 13 1 Tryd.func60 rfl rfl rfl rfl ?_
 refine r1<|sT 3 1 1 rfl<|e1 9 rfl<|ab [0,1] rfl ?_
 refine kD rfl ?_
 refine dT 4 9 1 rfl<|dT 5 17 2 rfl<|dO 6 25 3 rfl<|xN 7 33 4 rfl ?_
 refine dV 8 41 5 rfl ⟨by omega,by omega⟩ ?_
 refine dT 9 49 6 rfl<|dO 10 57 7 rfl<|dO 11 65 8 rfl<|dO 12 73 9 rfl<|dT 3 81 10 rfl<|iT 89 rfl (by kernel_rfl)<|ab [3] rfl<|ao ?_
 exact bm 3 (SV.b (!(aO k c))) (π:= [0]) (ae:= [some (.cells 3 1 [SV.i k])]) Tryd.results60 rfl (by unfold aO lastT;rw[Bool.not_not];exact congrArg SV.b (congrArg (fun n=>decide ((c.getD n default).t<k)) (by omega))) rfl rfl ⟨rfl,trivial⟩ ⟨rfl,rfl⟩
theorem yt(l:List aR)(hl:l.length<=100000)(a b:Int):Spec Tryd.prog GF 87 [.sl 0 0 l.length, .fn 62 [.ptr 1 0 0, .ptr 2 0 0]] [dw l, .cells 3 1 [SV.i a], .cells 3 1 [SV.i b]] (fun r E=>r=SV.i (mw (dK a b) l)/\E= [some (dw l),some (.cells 3 1 [SV.i a]),some (.cells 3 1 [SV.i b])]):=by
 refine start 19 3 Tryd.func87 rfl rfl rfl rfl ?_
 refine r1<|sT 4 3 1 rfl<|e1 11 rfl<|ab [0,1] rfl<|ai<|r1<|sT 6 11 1 rfl<|sO 7 19 2 rfl<|sT 8 27 3 rfl<|e1 35 rfl<|ab [0,1,7,8] rfl<|au ?_
 refine loop (α:=Nat) 3 (fun n=> [(0, .sl 0 0 l.length),(1, .fn 62 [.ptr 1 0 0, .ptr 2 0 0]),(7,SV.i l.length),(8,SV.i (n))]) (fun n=> [some (dw l),some (.cells 3 1 [SV.i a]),some (.cells 3 1 [SV.i b])]) (fun n=>(n)<=l.length/\(n)<=(l.takeWhile (dK a b)).length) (fun n=>l.length-(n)) (((0):Nat)) [0,1,2] (fun _=>rfl) (show(0)<=l.length/\(0)<=(l.takeWhile (dK a b)).length from⟨Nat.zero_le _,Nat.zero_le _⟩) rfl ⟨rfl,rfl,rfl,rfl,trivial⟩ ⟨rfl,rfl,rfl,trivial⟩ (fun n D=>?_)
 show W _ _ _ ⟨dG [(0, .sl 0 0 l.length),(1, .fn 62 [.ptr 1 0 0, .ptr 2 0 0]),(7,SV.i l.length),(8,SV.i n)],dC [some (dw l),some (.cells 3 1 [SV.i a]),some (.cells 3 1 [SV.i b])],3⟩
 have D:n<=l.length/\n<=(l.takeWhile (dK a b)).length:=D
 obtain⟨G,v⟩:=D
 refine r1<|sO 9 3 1 rfl<|e1 11 rfl<|ab [0,1,7,8,9] rfl<|ai ?_
 refine q1 rfl (fun k=>?_) (fun k=>?_)
 try simp only[cs,ne_eq]at k
 refine ak<|tn<|ai<|au<|r1<|sT 10 11 1 rfl<|sT 5 19 2 rfl<|e1 27 rfl<|ab [0,1,5,7,8] rfl ?_
 refine Js [1] (Fz rfl Tryd.func62 rfl) (by kernel_rfl) ?_
 refine sT 11 27 1 rfl<|sT 12 35 2 rfl<|sT 13 43 3 rfl ?_
 refine sV 14 51 4 rfl ⟨⟨by omega,by omega⟩,by omega⟩ ?_
 refine sV 15 59 5 rfl (by simp only[Int.toNat_natCast];omega) ?_
 refine val 15 (nj (l.getD n default)) rfl (by simp only[Int.toNat_natCast,Nat.zero_add];rfl) ?_
 refine c1 (pf (l.getD n default) a b) [1,2] [1,2] 16 67 6 rfl rfl rfl rfl rfl rfl rfl rfl Tryd.func62 rfl rfl rfl rfl ⟨rfl,rfl,trivial⟩ rfl rfl ?_
 refine e1 75 rfl<|ab [0,1,5,7,8,16] rfl ?_
 refine q1 rfl (fun e=>?_) (fun e=>?_)
 try simp only[cs,ne_eq]at e
 have B:(dK a b) (l.getD n default)=false:=(by simpa using e)
 rw[getD_eq (by omega)]at B
 refine r1<|sT 17 75 1 rfl<|sT 4 83 2 rfl<|e1 91 rfl<|ab [4] rfl<|ao<|br<|tr<|tr<|br<|tr ?_
 exact bm 4 (SV.i (mw (dK a b) l)) (π:= [0,1,2]) (ae:= [some (dw l),some (.cells 3 1 [SV.i a]),some (.cells 3 1 [SV.i b])]) Tryd.results87 rfl (congrArg SV.i (zS (dK a b) (by omega) v B).symm) rfl rfl ⟨rfl,rfl,rfl,trivial⟩ ⟨rfl,rfl⟩
 try simp only[cs,ne_eq]at e
 have B:(dK a b) (l.getD n default)=true:=(by simpa using e)
 rw[getD_eq (by omega)]at B
 refine ak<|bn<|tn ?_
 refine r0 ?_
 refine de 18 75 1 rfl<|sT 8 83 2 rfl<|e1 91 rfl<|tn ?_
 exact again ((n+1:Nat)) [0,1,2] (show(n+1)<=l.length/\(n+1)<=(l.takeWhile (dK a b)).length from⟨by omega,uG (dK a b) (by omega) v B⟩) (show l.length-(n+1)<l.length-n from(by omega)) rfl ⟨rfl,rfl,rfl,rfl,trivial⟩ ⟨rfl,rfl,rfl,trivial⟩
 try simp only[cs,ne_eq]at k
 refine bI<|tx<|tx<|bx<|tn<|r1<|sT 4 11 1 rfl<|e1 19 rfl<|ab [4] rfl<|ao ?_
 exact bm 4 (SV.i (mw (dK a b) l)) (π:= [0,1,2]) (ae:= [some (dw l),some (.cells 3 1 [SV.i a]),some (.cells 3 1 [SV.i b])]) Tryd.results87 rfl (congrArg SV.i (sP (dK a b) (by omega)).symm) rfl rfl ⟨rfl,rfl,rfl,trivial⟩ ⟨rfl,rfl⟩
theorem wO(l:List aR)(hl:l.length<=100000)(a b:Int):Spec Tryd.prog GF 61 [.sl 0 0 l.length, .fn 62 [.ptr 1 0 0, .ptr 2 0 0]] [dw l, .cells 3 1 [SV.i a], .cells 3 1 [SV.i b]] (fun r ho=>r= .sl 0 0 (l.filter (dK a b)).length/\ho= [some (dw (l.filter (dK a b))),some (.cells 3 1 [SV.i a]),some (.cells 3 1 [SV.i b])]):=by
 refine start 42 3 Tryd.func61 rfl rfl rfl rfl ?_
 refine r1<|sT 4 3 1 rfl<|e1 11 rfl<|ab [0,1] rfl<|r1<|sT 8 11 1 rfl<|sT 9 19 2 rfl ?_
 refine c1 (yt l hl a b) [0,1,2] [0,1,2] 10 27 3 rfl rfl rfl rfl rfl rfl rfl rfl Tryd.func87 rfl rfl rfl rfl ⟨rfl,rfl,rfl,trivial⟩ rfl rfl ?_
 refine sT 5 35 4 rfl<|e1 43 rfl<|ab [0,1,5] rfl<|ai<|r1<|sT 11 43 1 rfl<|sO 12 51 2 rfl<|e1 59 rfl<|ab [0,1,5,12] rfl ?_
 refine q1 rfl (fun e=>?_) (fun e=>?_)
 try simp only[cs,ne_eq]at e
 have v:=zT (dK a b) e
 refine cB 0 (.sl 0 0 (l.filter (dK a b)).length) rfl (by rw[v]) ?_
 refine bW 0 (dw (l.filter (dK a b))) rfl (by first|(rw[v];done)|(rw[v];rfl)) ?_
 refine r1<|sT 13 59 1 rfl<|sT 4 67 2 rfl<|e1 75 rfl<|ab [4] rfl<|ao<|tr ?_
 exact bm 4 (.sl 0 0 (l.filter (dK a b)).length) (π:= [0,1,2]) (ae:= [some (dw (l.filter (dK a b))),some (.cells 3 1 [SV.i a]),some (.cells 3 1 [SV.i b])]) Tryd.results61 rfl rfl rfl rfl ⟨rfl,rfl,rfl,trivial⟩ ⟨rfl,rfl⟩
 try simp only[cs,ne_eq]at e
 obtain⟨q,hq,I,D,J⟩:=wL (dK a b) e
 refine cB 5 (SV.i (q:Nat)) rfl (congrArg SV.i hq) ?_
 refine ak<|tn<|ai<|r1<|sT 14 59 1 rfl<|de 15 67 2 rfl<|sT 6 75 3 rfl<|e1 83 rfl<|ab [0,1,5,6] rfl<|au ?_
 refine cB 5 (SV.i (cx (dK a b) l (q+1):Nat)) rfl (by rw[J]) ?_
 refine bW 0 (dw (eZ (dK a b) l (q+1))) rfl (by first|(rw[D];done)|(rw[D];rfl)) ?_
 refine loop (α:=Nat) 3 (fun j=> [(0, .sl 0 0 l.length),(1, .fn 62 [.ptr 1 0 0, .ptr 2 0 0]),(5,SV.i ((cx (dK a b) l (j)):Nat)),(6,SV.i (j))]) (fun j=> [some (dw (eZ (dK a b) l (j))),some (.cells 3 1 [SV.i a]),some (.cells 3 1 [SV.i b])]) (fun j=>(j)<=l.length) (fun j=>l.length-(j)) (((q+1):Nat)) [0,1,2] (fun _=>rfl) (show(q+1)<=l.length from(show q+1<=l.length from I)) rfl ⟨rfl,rfl,rfl,rfl,trivial⟩ ⟨rfl,rfl,rfl,trivial⟩ (fun j Y=>?_)
 show W _ _ _ ⟨dG [(0, .sl 0 0 l.length),(1, .fn 62 [.ptr 1 0 0, .ptr 2 0 0]),(5,SV.i ((cx (dK a b) l j):Nat)),(6,SV.i j)],dC [some (dw (eZ (dK a b) l j)),some (.cells 3 1 [SV.i a]),some (.cells 3 1 [SV.i b])],3⟩
 have Y:j<=l.length:=Y
 have O:=gk (dK a b) l j
 have U:=kM (dK a b) l j
 refine ai<|r1<|sT 16 3 1 rfl<|sT 17 11 2 rfl<|sO 18 19 3 rfl<|sO 19 27 4 rfl<|e1 35 rfl<|ab [0,1,5,6,19] rfl ?_
 refine q1 rfl (fun B=>?_) (fun B=>?_)
 try simp only[cs,ne_eq]at B
 refine ak<|tn<|ai<|au<|r1<|sT 22 35 1 rfl<|sT 23 43 2 rfl ?_
 refine sV 24 51 3 rfl ⟨⟨by omega,by omega⟩,by omega⟩ ?_
 refine sV 25 59 4 rfl (by simp only[Int.toNat_natCast];omega) ?_
 refine val 25 (nj (l.getD j default)) rfl (by simp only[Int.toNat_natCast,Nat.zero_add];unfold nj b6;rw[<-wM (dK a b) (Nat.le_refl j)];rfl) ?_
 refine sT 7 67 5 rfl<|cJ 75 6 rfl rfl rfl rfl rfl<|e1 83 rfl<|ab [0,1,5,6,7] rfl ?_
 refine Js [1] (Fz rfl Tryd.func62 rfl) (by kernel_rfl) ?_
 refine sT 26 83 1 rfl<|sO 27 91 2 rfl ?_
 refine c1 (pf (l.getD j default) a b) [1,2] [1,2] 28 99 3 rfl rfl rfl rfl rfl rfl rfl rfl Tryd.func62 rfl rfl rfl rfl ⟨rfl,rfl,trivial⟩ rfl rfl ?_
 refine sT 29 107 4 rfl<|e1 115 rfl<|ab [0,1,5,6,7,29] rfl ?_
 refine q1 rfl (fun k=>?_) (fun k=>?_)
 try simp only[cs,ne_eq]at k
 have E:(dK a b) (l.getD j default)=true:=(by simpa using k)
 rw[getD_eq (by omega)]at E
 have G:=wK (dK a b) (by omega) E
 refine r1<|sT 30 115 1 rfl<|sT 31 123 2 rfl<|sO 32 131 3 rfl ?_
 refine sV 33 139 4 rfl ⟨⟨by omega,by omega⟩,by omega⟩ ?_
 refine s0 147 5 rfl rfl rfl rfl rfl (by simp only[Int.toNat_natCast];omega) ?_
 refine e1 155 rfl<|ab [0,1,5,6] rfl ?_
 refine r0 ?_
 refine sT 34 155 1 rfl<|de 35 163 2 rfl ?_
 refine val 35 (SV.i ((cx (dK a b) l j)+1:Nat)) rfl (congrArg SV.i (by omega)) ?_
 refine sT 5 171 3 rfl<|e1 179 rfl<|bn<|tn ?_
 refine bP 0 (eZ (dK a b) l (j+1)).length (b6 (eZ (dK a b) l (j+1))) rfl (by rw[gk,gk]) (fun i c V hc=>by rw[G.1,<-getD_eq (by omega)];simp only[Int.toNat_natCast,Nat.zero_add];exact HM (p:=(cx (dK a b) l j)) (b:=l.getD j default) (by rw[gk];omega) i c V hc) ?_
 refine cB 5 (SV.i ((cx (dK a b) l (j+1)):Nat)) rfl (by rw[G.2]) ?_
 refine r0 ?_
 refine sT 20 179 1 rfl<|de 21 187 2 rfl<|sT 6 195 3 rfl<|e1 203 rfl<|tn ?_
 exact again ((j+1:Nat)) [0,1,2] (show(j+1)<=l.length from(by omega)) (show l.length-(j+1)<l.length-j from(by omega)) rfl ⟨rfl,rfl,rfl,rfl,trivial⟩ ⟨rfl,rfl,rfl,trivial⟩
 try simp only[cs,ne_eq]at k
 have E:(dK a b) (l.getD j default)=false:=(by simpa using k)
 rw[getD_eq (by omega)]at E
 have G:=uF (dK a b) (by omega) E
 refine ak<|bn<|tn ?_
 refine bW 0 (dw (eZ (dK a b) l (j+1))) rfl (by rw[G.1]) ?_
 refine cB 5 (SV.i ((cx (dK a b) l (j+1)):Nat)) rfl (by rw[G.2]) ?_
 refine r0 ?_
 refine sT 20 115 1 rfl<|de 21 123 2 rfl<|sT 6 131 3 rfl<|e1 139 rfl<|tn ?_
 exact again ((j+1:Nat)) [0,1,2] (show(j+1)<=l.length from(by omega)) (show l.length-(j+1)<l.length-j from(by omega)) rfl ⟨rfl,rfl,rfl,rfl,trivial⟩ ⟨rfl,rfl,rfl,trivial⟩
 try simp only[cs,ne_eq]at B
 refine bI<|tx<|tx<|bx<|tn ?_
 obtain rfl:j=l.length:=(by omega)
 refine r1<|sT 36 35 1 rfl<|sT 37 43 2 rfl ?_
 refine sV 38 51 3 rfl ⟨by omega,by omega,by omega,by omega⟩ ?_
 refine IZ (zs:= [.int .i64 0, .int .i64 0]) 59 4 rfl rfl rfl rfl rfl Tryd.underlying37 rfl rfl rfl rfl (by have h1:=U.2;rw[O,Int.toNat_natCast,Int.toNat_natCast,Nat.zero_add,Nat.add_sub_of_le h1];exact Nat.le_refl _) ?_
 refine e1 67 rfl<|ab [0,5] rfl<|r1<|sT 39 67 1 rfl<|sT 40 75 2 rfl ?_
 refine G6 41 83 3 rfl rfl rfl rfl rfl rfl Tryd.underlying37 rfl rfl rfl ⟨by omega,by omega⟩ ?_
 refine val 41 (.sl 0 0 (l.filter (dK a b)).length) rfl (by rw[<-(kN (dK a b) l).2];simp) ?_
 refine sT 4 91 4 rfl<|e1 99 rfl<|ab [4] rfl ?_
 refine bP 0 (l.filter (dK a b)).length (b6 (l.filter (dK a b))) rfl (by rw[<-(kN (dK a b) l).2];simp) (fun i c V hc=>?_) ?_
 ·have X:i<(cx (dK a b) l l.length):=(by simpa using V)
  unfold b6
  rw[wN (dK a b) l X]
 refine ao ?_
 exact bm 4 (.sl 0 0 (l.filter (dK a b)).length) (π:= [0,1,2]) (ae:= [some (dw (l.filter (dK a b))),some (.cells 3 1 [SV.i a]),some (.cells 3 1 [SV.i b])]) Tryd.results61 rfl rfl rfl rfl ⟨rfl,rfl,rfl,trivial⟩ ⟨rfl,rfl⟩
theorem yu(l:List (List aR))(hl:l.length<=100000)(v:∀ i,i<l.length->0<(l.getD i default).length/\(l.getD i default).length<=100000)(k:Int):Spec Tryd.prog GF 86 [.sl 0 0 l.length, .fn 60 [.ptr 1 0 0]] [bw l, .cells 3 1 [SV.i k]] (fun r G=>r=SV.i (mw (aO k) l)/\G= [some (bw l),some (.cells 3 1 [SV.i k])]):=by
 refine start 19 2 Tryd.func86 rfl rfl rfl rfl ?_
 refine r1<|sT 4 2 1 rfl<|e1 10 rfl<|ab [0,1] rfl<|ai<|r1<|sT 6 10 1 rfl<|sO 7 18 2 rfl<|sT 8 26 3 rfl<|e1 34 rfl<|ab [0,1,7,8] rfl<|au ?_
 refine loop (α:=Nat) 2 (fun n=> [(0, .sl 0 0 l.length),(1, .fn 60 [.ptr 1 0 0]),(7,SV.i l.length),(8,SV.i (n))]) (fun n=> [some (bw l),some (.cells 3 1 [SV.i k])]) (fun n=>(n)<=l.length/\(n)<=(l.takeWhile (aO k)).length) (fun n=>l.length-(n)) (((0):Nat)) [0,1] (fun _=>rfl) (show(0)<=l.length/\(0)<=(l.takeWhile (aO k)).length from⟨Nat.zero_le _,Nat.zero_le _⟩) rfl ⟨rfl,rfl,rfl,rfl,trivial⟩ ⟨rfl,rfl,trivial⟩ (fun n E=>?_)
 show W _ _ _ ⟨dG [(0, .sl 0 0 l.length),(1, .fn 60 [.ptr 1 0 0]),(7,SV.i l.length),(8,SV.i n)],dC [some (bw l),some (.cells 3 1 [SV.i k])],2⟩
 have E:n<=l.length/\n<=(l.takeWhile (aO k)).length:=E
 obtain⟨I,B⟩:=E
 refine r1<|sO 9 2 1 rfl<|e1 10 rfl<|ab [0,1,7,8,9] rfl<|ai ?_
 refine q1 rfl (fun e=>?_) (fun e=>?_)
 try simp only[cs,ne_eq]at e
 refine ak<|tn<|ai<|au<|r1<|sT 10 10 1 rfl<|sT 5 18 2 rfl<|e1 26 rfl<|ab [0,1,5,7,8] rfl ?_
 refine Js [1] (Fz rfl Tryd.func60 rfl) (by kernel_rfl) ?_
 refine sT 11 26 1 rfl<|sT 12 34 2 rfl<|sT 13 42 3 rfl ?_
 refine sV 14 50 4 rfl ⟨⟨by omega,by omega⟩,by omega⟩ ?_
 refine sV 15 58 5 rfl (by simp only[Int.toNat_natCast];omega) ?_
 refine val 15 (.d (.vec 2 (l.getD n default).length (b6 (l.getD n default)))) rfl (by simp only[Int.toNat_natCast,Nat.zero_add];rfl) ?_
 refine c1 (sR (l.getD n default) k (v n (by omega)).1 (v n (by omega)).2) [1] [1] 16 66 6 rfl rfl rfl rfl rfl rfl rfl rfl Tryd.func60 rfl rfl rfl rfl ⟨rfl,trivial⟩ rfl rfl ?_
 refine e1 74 rfl<|ab [0,1,5,7,8,16] rfl ?_
 refine q1 rfl (fun b=>?_) (fun b=>?_)
 try simp only[cs,ne_eq]at b
 have D:(aO k) (l.getD n default)=false:=(by simpa using b)
 rw[getD_eq (by omega)]at D
 refine r1<|sT 17 74 1 rfl<|sT 4 82 2 rfl<|e1 90 rfl<|ab [4] rfl<|ao<|br<|tr<|tr<|br<|tr ?_
 exact bm 4 (SV.i (mw (aO k) l)) (π:= [0,1]) (ae:= [some (bw l),some (.cells 3 1 [SV.i k])]) Tryd.results86 rfl (congrArg SV.i (zS (aO k) (by omega) B D).symm) rfl rfl ⟨rfl,rfl,trivial⟩ ⟨rfl,rfl⟩
 try simp only[cs,ne_eq]at b
 have D:(aO k) (l.getD n default)=true:=(by simpa using b)
 rw[getD_eq (by omega)]at D
 refine ak<|bn<|tn ?_
 refine r0 ?_
 refine de 18 74 1 rfl<|sT 8 82 2 rfl<|e1 90 rfl<|tn ?_
 exact again ((n+1:Nat)) [0,1] (show(n+1)<=l.length/\(n+1)<=(l.takeWhile (aO k)).length from⟨by omega,uG (aO k) (by omega) B D⟩) (show l.length-(n+1)<l.length-n from(by omega)) rfl ⟨rfl,rfl,rfl,rfl,trivial⟩ ⟨rfl,rfl,trivial⟩
 try simp only[cs,ne_eq]at e
 refine bI<|tx<|tx<|bx<|tn<|r1<|sT 4 10 1 rfl<|e1 18 rfl<|ab [4] rfl<|ao ?_
 exact bm 4 (SV.i (mw (aO k) l)) (π:= [0,1]) (ae:= [some (bw l),some (.cells 3 1 [SV.i k])]) Tryd.results86 rfl (congrArg SV.i (sP (aO k) (by omega)).symm) rfl rfl ⟨rfl,rfl,trivial⟩ ⟨rfl,rfl⟩
theorem wP(l:List (List aR))(hl:l.length<=100000)(B:∀ i,i<l.length->0<(l.getD i default).length/\(l.getD i default).length<=100000)(k:Int):Spec Tryd.prog GF 58 [.sl 0 0 l.length, .fn 60 [.ptr 1 0 0]] [bw l, .cells 3 1 [SV.i k]] (fun r ho=>r= .sl 0 0 (l.filter (aO k)).length/\ho= [some (bw (l.filter (aO k))),some (.cells 3 1 [SV.i k])]):=by
 refine start 42 2 Tryd.func58 rfl rfl rfl rfl ?_
 refine r1<|sT 4 2 1 rfl<|e1 10 rfl<|ab [0,1] rfl<|r1<|sT 8 10 1 rfl<|sT 9 18 2 rfl ?_
 refine c1 (yu l hl B k) [0,1] [0,1] 10 26 3 rfl rfl rfl rfl rfl rfl rfl rfl Tryd.func86 rfl rfl rfl rfl ⟨rfl,rfl,trivial⟩ rfl rfl ?_
 refine sT 5 34 4 rfl<|e1 42 rfl<|ab [0,1,5] rfl<|ai<|r1<|sT 11 42 1 rfl<|sO 12 50 2 rfl<|e1 58 rfl<|ab [0,1,5,12] rfl ?_
 refine q1 rfl (fun e=>?_) (fun e=>?_)
 try simp only[cs,ne_eq]at e
 have D:=zT (aO k) e
 refine cB 0 (.sl 0 0 (l.filter (aO k)).length) rfl (by rw[D]) ?_
 refine bW 0 (bw (l.filter (aO k))) rfl (by first|(rw[D];done)|(rw[D];rfl)) ?_
 refine r1<|sT 13 58 1 rfl<|sT 4 66 2 rfl<|e1 74 rfl<|ab [4] rfl<|ao<|tr ?_
 exact bm 4 (.sl 0 0 (l.filter (aO k)).length) (π:= [0,1]) (ae:= [some (bw (l.filter (aO k))),some (.cells 3 1 [SV.i k])]) Tryd.results58 rfl rfl rfl rfl ⟨rfl,rfl,trivial⟩ ⟨rfl,rfl⟩
 try simp only[cs,ne_eq]at e
 obtain⟨q,hq,O,G,U⟩:=wL (aO k) e
 refine cB 5 (SV.i (q:Nat)) rfl (congrArg SV.i hq) ?_
 refine ak<|tn<|ai<|r1<|sT 14 58 1 rfl<|de 15 66 2 rfl<|sT 6 74 3 rfl<|e1 82 rfl<|ab [0,1,5,6] rfl<|au ?_
 refine cB 5 (SV.i (cx (aO k) l (q+1):Nat)) rfl (by rw[U]) ?_
 refine bW 0 (bw (eZ (aO k) l (q+1))) rfl (by first|(rw[G];done)|(rw[G];rfl)) ?_
 refine loop (α:=Nat) 2 (fun j=> [(0, .sl 0 0 l.length),(1, .fn 60 [.ptr 1 0 0]),(5,SV.i ((cx (aO k) l (j)):Nat)),(6,SV.i (j))]) (fun j=> [some (bw (eZ (aO k) l (j))),some (.cells 3 1 [SV.i k])]) (fun j=>(j)<=l.length) (fun j=>l.length-(j)) (((q+1):Nat)) [0,1] (fun _=>rfl) (show(q+1)<=l.length from(show q+1<=l.length from O)) rfl ⟨rfl,rfl,rfl,rfl,trivial⟩ ⟨rfl,rfl,trivial⟩ (fun j hx=>?_)
 show W _ _ _ ⟨dG [(0, .sl 0 0 l.length),(1, .fn 60 [.ptr 1 0 0]),(5,SV.i ((cx (aO k) l j):Nat)),(6,SV.i j)],dC [some (bw (eZ (aO k) l j)),some (.cells 3 1 [SV.i k])],2⟩
 have hx:j<=l.length:=hx
 have V:=gk (aO k) l j
 have X:=kM (aO k) l j
 refine ai<|r1<|sT 16 2 1 rfl<|sT 17 10 2 rfl<|sO 18 18 3 rfl<|sO 19 26 4 rfl<|e1 34 rfl<|ab [0,1,5,6,19] rfl ?_
 refine q1 rfl (fun E=>?_) (fun E=>?_)
 try simp only[cs,ne_eq]at E
 refine ak<|tn<|ai<|au<|r1<|sT 22 34 1 rfl<|sT 23 42 2 rfl ?_
 refine sV 24 50 3 rfl ⟨⟨by omega,by omega⟩,by omega⟩ ?_
 refine sV 25 58 4 rfl (by simp only[Int.toNat_natCast];omega) ?_
 refine val 25 (.d (.vec 2 (l.getD j default).length (b6 (l.getD j default)))) rfl (by simp only[Int.toNat_natCast,Nat.zero_add];rw[show(eZ (aO k) l j).getD j []=l.getD j default from wM (aO k) (Nat.le_refl j)]) ?_
 refine sT 7 66 5 rfl<|e1 74 rfl<|ab [0,1,5,6,7] rfl ?_
 refine Js [1] (Fz rfl Tryd.func60 rfl) (by kernel_rfl) ?_
 refine sT 26 74 1 rfl<|sT 27 82 2 rfl ?_
 refine c1 (sR (l.getD j default) k (B j (by omega)).1 (B j (by omega)).2) [1] [1] 28 90 3 rfl rfl rfl rfl rfl rfl rfl rfl Tryd.func60 rfl rfl rfl rfl ⟨rfl,trivial⟩ rfl rfl ?_
 refine sT 29 98 4 rfl<|e1 106 rfl<|ab [0,1,5,6,7,29] rfl ?_
 refine q1 rfl (fun v=>?_) (fun v=>?_)
 try simp only[cs,ne_eq]at v
 have I:(aO k) (l.getD j default)=true:=(by simpa using v)
 rw[getD_eq (by omega)]at I
 have J:=wK (aO k) (by omega) I
 refine r1<|sT 30 106 1 rfl<|sT 31 114 2 rfl<|sT 32 122 3 rfl ?_
 refine sV 33 130 4 rfl ⟨⟨by omega,by omega⟩,by omega⟩ ?_
 refine s0 138 5 rfl rfl rfl rfl rfl (by simp only[Int.toNat_natCast];omega) ?_
 refine e1 146 rfl<|ab [0,1,5,6] rfl ?_
 refine r0 ?_
 refine sT 34 146 1 rfl<|de 35 154 2 rfl ?_
 refine val 35 (SV.i ((cx (aO k) l j)+1:Nat)) rfl (congrArg SV.i (by omega)) ?_
 refine sT 5 162 3 rfl<|e1 170 rfl<|bn<|tn ?_
 refine bP 0 (eZ (aO k) l (j+1)).length (qR (eZ (aO k) l (j+1))) rfl (by rw[gk,gk]) (fun i c Y hc=>by rw[J.1,<-getD_eq (by omega)];simp only[Int.toNat_natCast,Nat.zero_add];exact HL (p:=(cx (aO k) l j)) (b:=l.getD j default) rfl (by rw[gk];omega) i c Y hc) ?_
 refine cB 5 (SV.i ((cx (aO k) l (j+1)):Nat)) rfl (by rw[J.2]) ?_
 refine r0 ?_
 refine sT 20 170 1 rfl<|de 21 178 2 rfl<|sT 6 186 3 rfl<|e1 194 rfl<|tn ?_
 exact again ((j+1:Nat)) [0,1] (show(j+1)<=l.length from(by omega)) (show l.length-(j+1)<l.length-j from(by omega)) rfl ⟨rfl,rfl,rfl,rfl,trivial⟩ ⟨rfl,rfl,trivial⟩
 try simp only[cs,ne_eq]at v
 have I:(aO k) (l.getD j default)=false:=(by simpa using v)
 rw[getD_eq (by omega)]at I
 have J:=uF (aO k) (by omega) I
 refine ak<|bn<|tn ?_
 refine bW 0 (bw (eZ (aO k) l (j+1))) rfl (by rw[J.1]) ?_
 refine cB 5 (SV.i ((cx (aO k) l (j+1)):Nat)) rfl (by rw[J.2]) ?_
 refine r0 ?_
 refine sT 20 106 1 rfl<|de 21 114 2 rfl<|sT 6 122 3 rfl<|e1 130 rfl<|tn ?_
 exact again ((j+1:Nat)) [0,1] (show(j+1)<=l.length from(by omega)) (show l.length-(j+1)<l.length-j from(by omega)) rfl ⟨rfl,rfl,rfl,rfl,trivial⟩ ⟨rfl,rfl,trivial⟩
 try simp only[cs,ne_eq]at E
 refine bI<|tx<|tx<|bx<|tn ?_
 obtain rfl:j=l.length:=(by omega)
 refine r1<|sT 36 34 1 rfl<|sT 37 42 2 rfl ?_
 refine sV 38 50 3 rfl ⟨by omega,by omega,by omega,by omega⟩ ?_
 refine IZ (zs:= [.slice none 0 0]) 58 4 rfl rfl rfl rfl rfl Tryd.underlying98 rfl rfl rfl rfl (by have h1:=X.2;rw[V,Int.toNat_natCast,Int.toNat_natCast,Nat.zero_add,Nat.add_sub_of_le h1];exact Nat.le_refl _) ?_
 refine e1 66 rfl<|ab [0,5] rfl<|r1<|sT 39 66 1 rfl<|sT 40 74 2 rfl ?_
 refine G6 41 82 3 rfl rfl rfl rfl rfl rfl Tryd.underlying98 rfl rfl rfl ⟨by omega,by omega⟩ ?_
 refine val 41 (.sl 0 0 (l.filter (aO k)).length) rfl (by rw[<-(kN (aO k) l).2];simp) ?_
 refine sT 4 90 4 rfl<|e1 98 rfl<|ab [4] rfl ?_
 refine bP 0 (l.filter (aO k)).length (qR (l.filter (aO k))) rfl (by rw[<-(kN (aO k) l).2];simp) (fun i c Y hc=>?_) ?_
 ·have aa:i<(cx (aO k) l l.length):=(by simpa using Y)
  unfold qR
  rw[show(eZ (aO k) l l.length).getD i []=(l.filter (aO k)).getD i []from wN (aO k) l aa]
 refine ao ?_
 exact bm 4 (.sl 0 0 (l.filter (aO k)).length) (π:= [0,1]) (ae:= [some (bw (l.filter (aO k))),some (.cells 3 1 [SV.i k])]) Tryd.results58 rfl rfl rfl rfl ⟨rfl,rfl,trivial⟩ ⟨rfl,rfl⟩
structure Ln where
 nm:ByteArray
 ch:List (List aR)
 op:List aR
 deriving Inhabited
def bJ(ch:List (List aR))(op:List aR):List aR:=ch.flatten++op
theorem wQ(l:List aR):∀ i c,c<2->∃ u,b6 l i c= .val u:=by
 intro i c b
 match c,b with
 |0,_=>exact⟨_,rfl⟩
 |1,_=>exact⟨_,rfl⟩
structure lL (ch:List (List aR)) (op:List aR):Prop where
 c:ch.length<=200
 ne:∀ i,i<ch.length->0<(ch.getD i default).length/\(ch.getD i default).length<=120
 o:op.length<=120
theorem pU:∀ {gs:List (List aR)} {k:Nat},(∀ i,i<gs.length->(gs.getD i default).length<=k)->gs.flatten.length<=gs.length*k
 | [],_,_=>by simp
 |g::gs,k,h=>by
  have b:=h 0 (by simp)
  have :=pU (gs:=gs) (k:=k) (fun i e=>by have :=h (i+1) (by simpa using e);simpa using this)
  simp only[List.flatten_cons,List.length_append,List.length_cons,Nat.succ_mul]at *
  have b:g.length<=k:=by simpa using b
  omega
theorem lL.all{ch:List (List aR)}{op:List aR}(h:lL ch op):ch.flatten.length<=24000:=by
 have :=pU (gs:=ch) (k:=120) fun i b=>(h.ne i b).2
 have :=h.c
 omega
theorem FX(ch:List (List aR))(op:List aR)(h:lL ch op):Spec Tryd.prog GF 85 [.sl 0 0 (ch.length+1)] [.rows 37 1 (ch.length+1) (dZ (qR ch) ch.length (iF 1 [.vec 2 op.length (b6 op)]))] (fun r b=>r= .sl 1 0 (bJ ch op).length/\b= [some (bw (ch++ [op])),some (dw (bJ ch op))]):=by
 have D:=h.c
 have E:=h.all
 have G:=h.o
 have e:(ch++ [op]).flatten=bJ ch op:=by simp[bJ]
 have :=yr (ch++ [op]) (by simp;omega) (by rw[e];unfold bJ;rw[List.length_append];omega)
 rw[e]at this
 refine Spec.bP (g:=qR (ch++ [op])) ?_ (fun i c k v=>yq rfl i c k v)
 have B:(ch++ [op]).length=ch.length+1:=by simp
 unfold bw at this ⊢
 rw[B]at this ⊢
 exact this
theorem zU(ch:List (List aR))(op:List aR)(b:lL ch op):Spec Tryd.prog GF 57 [G3 100 [.vec 1 ch.length (qR ch), .vec 2 op.length (b6 op)]] [] (fun r e=>r= .sl 0 0 (bJ ch op).length/\e= [some (dw (bJ ch op))]):=by
 have k:=b.c
 refine start 15 0 Tryd.func57 rfl rfl rfl rfl ?_
 refine r1<|sT 2 0 1 rfl<|e1 8 rfl<|ab [0] rfl ?_
 refine kD rfl ?_
 refine dT 3 8 1 rfl ?_
 refine Dt 4 16 2 rfl rfl rfl rfl rfl rfl rfl ?_
 refine wF 5 24 3 rfl rfl rfl rfl rfl rfl rfl Tryd.underlying100 rfl rfl (by decide) rfl ?_
 refine zN 6 32 4 rfl rfl rfl rfl rfl rfl rfl rfl ?_
 refine Fg (qS ch (by omega)) [] [40] 7 40 5 rfl rfl rfl rfl rfl rfl rfl rfl Tryd.func59 rfl rfl rfl rfl trivial rfl rfl ?_
 refine dT 8 48 6 rfl ?_
 refine Dt 9 56 7 rfl rfl rfl rfl rfl rfl rfl ?_
 refine wF 10 64 8 rfl rfl rfl rfl rfl rfl rfl Tryd.underlying100 rfl rfl (by decide) rfl ?_
 refine zN 11 72 9 rfl rfl rfl rfl rfl rfl rfl rfl ?_
 refine dT 12 80 10 rfl ?_
 refine dV 13 88 11 rfl ⟨Nat.le_refl _,trivial,(by show(_+1)*24<=140737488355328;omega),(by simp only[maxLen];omega)⟩ ?_
 refine Fg (FX ch op b) [88] [88,96] 14 96 12 rfl rfl rfl rfl rfl rfl rfl rfl Tryd.func85 rfl rfl rfl rfl ⟨rfl,trivial⟩ rfl rfl ?_
 refine dT 2 104 13 rfl<|iT 112 rfl (by kernel_rfl)<|ab [2] rfl<|ao ?_
 exact bm 2 (.sl 0 0 (bJ ch op).length) (π:= [96]) (ae:= [some (dw (bJ ch op))]) Tryd.results57 rfl rfl rfl rfl ⟨rfl,trivial⟩ ⟨rfl,rfl⟩
theorem jK(ch:List (List aR))(op:List aR)(e:lL ch op)(a b:Int):Spec Tryd.prog GF 44 [.ptr 0 0 0,SV.i a,SV.i b] [.cells 100 2 [.sl 1 0 ch.length, .sl 2 0 op.length],bw ch,dw op] (fun r I=>r= .sl 3 0 ((bJ ch op).filter (dK a b)).length/\I= [some (.cells 100 2 [.sl 1 0 ch.length, .sl 2 0 op.length]),some (bw ch),some (dw op),some (dw ((bJ ch op).filter (dK a b)))]):=by
 have E:=e.all
 have G:=e.o
 refine start 11 3 Tryd.func44 rfl rfl rfl rfl ?_
 refine r1<|sT 4 3 1 rfl<|sT 5 11 2 rfl<|sT 6 19 3 rfl<|e1 27 rfl<|ab [0,4,5] rfl<|r1<|sT 7 27 1 rfl ?_
 refine G4 (zU ch op e) (wQ _) [(0, .cells 100 2 [.sl 1 0 ch.length, .sl 2 0 op.length]),(1,bw ch),(2,dw op)] 8 35 2 rfl rfl rfl rfl rfl rfl rfl Tryd.func57 rfl rfl ⟨rfl,rfl,rfl,trivial⟩ (by intro M F ρ a h w J B k i y v;match i,v with |0,v=>(cases v;refine⟨_,rfl,Dv B (show h 0=some _ from k (0, .cells 100 2 [.sl 1 0 ch.length, .sl 2 0 op.length]) (by simp)) (J (.tmp 7) (by simp[Op.operands,Call.operands])) fun j d hd=>?_⟩;match j,hd with |0,hd=>(cases hd;exact⟨_,rfl,fun u D=>uC B (show h 1=some _ from k (1,bw ch) (by simp)) (Nat.le_refl _) D⟩)|1,hd=>(cases hd;exact⟨_,rfl,fun u D=>uC B (show h 2=some _ from k (2,dw op) (by simp)) (Nat.le_refl _) D⟩)|j+2,hd=>simp at hd)|i+1,v=>simp at v) ?_
 refine sT 9 43 3 rfl ?_
 refine c1 (wO (bJ ch op) (by unfold bJ;rw[List.length_append];omega) a b) [35,3,11] [35,3,11] 10 51 4 rfl rfl rfl rfl rfl rfl rfl rfl Tryd.func61 rfl rfl rfl rfl ⟨rfl,rfl,rfl,trivial⟩ rfl rfl ?_
 refine sT 6 59 5 rfl<|e1 67 rfl<|ab [6] rfl<|ao ?_
 exact bm 6 (.sl 3 0 ((bJ ch op).filter (dK a b)).length) (π:= [0,1,2,35]) (ae:= [some (.cells 100 2 [.sl 1 0 ch.length, .sl 2 0 op.length]),some (bw ch),some (dw op),some (dw ((bJ ch op).filter (dK a b)))]) Tryd.results44 rfl rfl rfl rfl ⟨rfl,rfl,rfl,rfl,trivial⟩ ⟨rfl,rfl⟩
theorem wR(ch:List (List aR))(op:List aR)(b:lL ch op)(k:Int):Spec Tryd.prog GF 41 [.ptr 0 0 0,SV.i k] [.cells 100 2 [.sl 1 0 ch.length, .sl 2 0 op.length],bw ch,dw op] (fun r v=>r=SV.bA []/\v= [some (.cells 100 2 [.sl 3 0 (ch.filter (aO k)).length, .sl 2 0 op.length]),none,some (dw op),some (bw (ch.filter (aO k)))]):=by
 have B:=b.c
 refine start 14 3 Tryd.func41 rfl rfl rfl rfl ?_
 refine r1<|sT 3 3 1 rfl<|e1 11 rfl<|ab [0,3] rfl ?_
 refine zz 0 0 1 ch.length rfl rfl rfl (Nat.le_refl _) rfl ?_
 refine r0 ?_
 refine sT 4 11 1 rfl<|sT 5 19 2 rfl<|sT 6 27 3 rfl<|sT 7 35 4 rfl<|sO 8 43 5 rfl ?_
 refine c1 (qS ch (by omega)) [] [51] 9 51 6 rfl rfl rfl rfl rfl rfl rfl rfl Tryd.func59 rfl rfl rfl rfl trivial rfl rfl ?_
 refine sT 10 59 7 rfl ?_
 refine c1 (wP ch (by omega) (fun i e=>⟨(b.ne i e).1,Nat.le_trans (b.ne i e).2 (by decide)⟩) k) [51,3] [51,3] 11 67 8 rfl rfl rfl rfl rfl rfl rfl rfl Tryd.func58 rfl rfl rfl rfl ⟨rfl,rfl,trivial⟩ rfl rfl ?_
 refine sT 12 75 9 rfl<|sT 13 83 10 rfl<|cJ 91 11 rfl rfl rfl rfl rfl<|e1 99 rfl ?_
 exact oa (π:= [0,1,2,51]) (ae:= [some (.cells 100 2 [.sl 3 0 (ch.filter (aO k)).length, .sl 2 0 op.length]),none,some (dw op),some (bw (ch.filter (aO k)))]) Tryd.results41 rfl rfl ⟨rfl,rfl,rfl,trivial⟩ ⟨rfl,rfl⟩
structure bS where
 e:Int
 ch:List (List aR)
 op:List aR
 F:List Int
 cnt:Nat
def cH(nm:ByteArray)(ch:List (List aR))(op:List aR)(F:List Int)(cnt:Nat):bS:=
 if op.length=0 then⟨0,ch,op,F,cnt⟩else if ch.length=30\/cnt=200 then⟨8,ch,op,F,cnt⟩else⟨0,ch++ [op],[],F++bg (aV 2 nm++bf op),cnt+1⟩
theorem wS{nm:ByteArray}{ch:List (List aR)}{op:List aR}{F:List Int}{cnt:Nat}(h:op.length=0):cH nm ch op F cnt=⟨0,ch,op,F,cnt⟩:=by unfold cH;rw[if_pos h]
theorem lH{nm:ByteArray}{ch:List (List aR)}{op:List aR}{F:List Int}{cnt:Nat}(h: ¬ op.length=0)(b:ch.length=30\/cnt=200):cH nm ch op F cnt=⟨8,ch,op,F,cnt⟩:=by unfold cH;rw[if_neg h,if_pos b]
theorem qT{nm:ByteArray}{ch:List (List aR)}{op:List aR}{F:List Int}{cnt:Nat}(h: ¬ op.length=0)(b: ¬ ch.length=30)(e: ¬ cnt=200):cH nm ch op F cnt=⟨0,ch++ [op],[],F++bg (aV 2 nm++bf op),cnt+1⟩:=by unfold cH;rw[if_neg h,if_neg (by omega)]
theorem pV(x y:List Int):x.length+y.length=(x++y).length:=List.length_append.symm
theorem kO(l:List aR):(bf l).length<=1+30*l.length+1:=by
 have :=kK l l.length
 unfold bf
 rw[cf];omega
theorem wT(M:List Int)(h:bt M)(b:M.length<=1000000):Bytes (pack M):=by
 exact gg (by rw[cf];omega) (FH M h)
theorem DJ{Z:List Nat}{es:List (Value×SV×List ff)}(F b:List Int)(O:F.length<=1000000)(e:Bytes b)(k:b.length<=4000)(cnt:Nat)(U:cnt<=1000){N:Nat}{f:Nat->Nat->D}(v:N=b.length)(B:∀ i c,i<N->c<1->f i c=dm b i c):Spec Tryd.prog GF 37 [.ptr 0 0 0, .sl 3 0 N] [.cells 55 3 [.map 1, .sl 2 0 F.length,SV.i cnt], .fam Z ⟨es,[],none⟩,bY F, .rows 5 1 N f] (fun r E=>r=SV.bA []/\E= [some (.cells 55 3 [.map 1, .sl 4 0 (F++bg b).length,SV.i (cnt+1:Nat)]),some (.fam Z ⟨es,[],none⟩),none,none,some (bY (F++bg b))]):=by
 subst v
 have G:=fv b
 refine start 27 4 Tryd.func37 rfl rfl rfl rfl ?_
 refine bP 3 b.length (dm b) rfl rfl B ?_
 refine freeze 1 3 b.length rfl rfl (Nat.le_refl _) ?_
 refine r1<|sT 7 4 1 rfl ?_
 refine c1 (qQ b e k) [] [12] 8 12 2 rfl rfl rfl rfl rfl rfl rfl rfl Tryd.func56 rfl rfl rfl rfl trivial rfl rfl ?_
 refine sT 6 20 3 rfl<|sT 9 28 4 rfl<|sT 10 36 5 rfl<|sT 4 44 6 rfl<|sT 5 52 7 rfl<|e1 60 rfl<|ab [0,4] rfl<|r1<|sT 11 60 1 rfl<|sT 12 68 2 rfl<|sT 13 76 3 rfl<|sT 14 84 4 rfl<|sO 15 92 5 rfl<|sT 16 100 6 rfl ?_
 refine sV 17 108 7 rfl ⟨Nat.le_refl _,(by omega),(by show(_+_)*1<=140737488355328;omega),(by simp only[maxLen];omega)⟩ ?_
 refine sT 18 116 8 rfl<|sT 19 124 9 rfl<|cJ 132 10 rfl rfl rfl rfl rfl<|e1 140 rfl<|ab [0] rfl ?_
 refine bP 108 (F++bg b).length (dm (F++bg b)) rfl (by rw[List.length_append]) (fun i c I J=>mq i c I J) ?_
 refine bW 0 (.cells 55 3 [.map 1, .sl 108 0 (F++bg b).length,SV.i cnt]) rfl (congrArg (fun n=>aB.cells 55 3 [.map 1, .sl 108 0 n,SV.i cnt]) (pV F (bg b))) ?_
 refine r0 ?_
 refine sT 20 140 1 rfl<|sT 21 148 2 rfl<|sT 22 156 3 rfl<|sO 23 164 4 rfl<|de 24 172 5 rfl ?_
 refine val 24 (SV.i (cnt+1:Nat)) rfl (congrArg SV.i (by omega)) ?_
 refine sT 25 180 6 rfl<|sT 26 188 7 rfl<|cJ 196 8 rfl rfl rfl rfl rfl<|e1 204 rfl ?_
 exact oa (π:= [0,1,2,3,108]) (ae:= [some (.cells 55 3 [.map 1, .sl 4 0 (F++bg b).length,SV.i (cnt+1:Nat)]),some (.fam Z ⟨es,[],none⟩),none,none,some (bY (F++bg b))]) Tryd.results37 rfl rfl ⟨rfl,rfl,rfl,trivial⟩ ⟨rfl,rfl⟩
theorem DK{Z:List Nat}{es:List (Value×SV×List ff)}{j e k:Nat}{v B:Nat->Nat->D}(F b:List Int)(X:F.length<=1000000)(E:Bytes b)(G:b.length<=4000)(cnt:Nat)(Y:cnt<=1000){N:Nat}{f:Nat->Nat->D}(I:N=b.length)(J:∀ i c,i<N->c<1->f i c=dm b i c):Spec Tryd.prog GF 37 [.ptr 0 0 0, .sl 3 0 N] [.cells 55 3 [.map 1, .sl 2 0 F.length,SV.i cnt], .fam Z ⟨es,[(j, .ptr 4 0 0)],none⟩,bY F, .rows 5 1 N f, .cells 100 2 [.sl 5 0 e, .sl 6 0 k], .rows 37 1 e v, .rows 31 2 k B] (fun r O=>r=SV.bA []/\O= [some (.cells 55 3 [.map 1, .sl 7 0 (F++bg b).length,SV.i (cnt+1:Nat)]),some (.fam Z ⟨es,[(j, .ptr 4 0 0)],none⟩),none,none,some (.cells 100 2 [.sl 5 0 e, .sl 6 0 k]),some (.rows 37 1 e v),some (.rows 31 2 k B),some (bY (F++bg b))]):=by
 subst I
 have U:=fv b
 refine start 27 7 Tryd.func37 rfl rfl rfl rfl ?_
 refine bP 3 b.length (dm b) rfl rfl J ?_
 refine freeze 1 3 b.length rfl rfl (Nat.le_refl _) ?_
 refine r1<|sT 7 7 1 rfl ?_
 refine c1 (qQ b E G) [] [15] 8 15 2 rfl rfl rfl rfl rfl rfl rfl rfl Tryd.func56 rfl rfl rfl rfl trivial rfl rfl ?_
 refine sT 6 23 3 rfl<|sT 9 31 4 rfl<|sT 10 39 5 rfl<|sT 4 47 6 rfl<|sT 5 55 7 rfl<|e1 63 rfl<|ab [0,4] rfl<|r1<|sT 11 63 1 rfl<|sT 12 71 2 rfl<|sT 13 79 3 rfl<|sT 14 87 4 rfl<|sO 15 95 5 rfl<|sT 16 103 6 rfl ?_
 refine sV 17 111 7 rfl ⟨Nat.le_refl _,(by omega),(by show(_+_)*1<=140737488355328;omega),(by simp only[maxLen];omega)⟩ ?_
 refine sT 18 119 8 rfl<|sT 19 127 9 rfl<|cJ 135 10 rfl rfl rfl rfl rfl<|e1 143 rfl<|ab [0] rfl ?_
 refine bP 111 (F++bg b).length (dm (F++bg b)) rfl (by rw[List.length_append]) (fun i c V W=>mq i c V W) ?_
 refine bW 0 (.cells 55 3 [.map 1, .sl 111 0 (F++bg b).length,SV.i cnt]) rfl (congrArg (fun n=>aB.cells 55 3 [.map 1, .sl 111 0 n,SV.i cnt]) (pV F (bg b))) ?_
 refine r0 ?_
 refine sT 20 143 1 rfl<|sT 21 151 2 rfl<|sT 22 159 3 rfl<|sO 23 167 4 rfl<|de 24 175 5 rfl ?_
 refine val 24 (SV.i (cnt+1:Nat)) rfl (congrArg SV.i (by omega)) ?_
 refine sT 25 183 6 rfl<|sT 26 191 7 rfl<|cJ 199 8 rfl rfl rfl rfl rfl<|e1 207 rfl ?_
 exact oa (π:= [0,1,2,3,4,5,6,111]) (ae:= [some (.cells 55 3 [.map 1, .sl 7 0 (F++bg b).length,SV.i (cnt+1:Nat)]),some (.fam Z ⟨es,[(j, .ptr 4 0 0)],none⟩),none,none,some (.cells 100 2 [.sl 5 0 e, .sl 6 0 k]),some (.rows 37 1 e v),some (.rows 31 2 k B),some (bY (F++bg b))]) Tryd.results37 rfl rfl ⟨rfl,rfl,rfl,rfl,rfl,rfl,trivial⟩ ⟨rfl,rfl⟩
theorem DL{Z:List Nat}{es:List (Value×SV×List ff)}{j e:Nat}{k:Nat->Nat->D}{v:D}(F b:List Int)(W:F.length<=1000000)(B:Bytes b)(E:b.length<=4000)(cnt:Nat)(X:cnt<=1000){N:Nat}{f:Nat->Nat->D}(G:N=b.length)(I:∀ i c,i<N->c<1->f i c=dm b i c):Spec Tryd.prog GF 37 [.ptr 0 0 0, .sl 3 0 N] [.cells 55 3 [.map 1, .sl 2 0 F.length,SV.i cnt], .fam Z ⟨es,[(j, .ptr 4 0 0)],none⟩,bY F, .rows 5 1 N f, .cells 100 2 [.sl 5 0 e, .d v], .rows 37 1 e k] (fun r J=>r=SV.bA []/\J= [some (.cells 55 3 [.map 1, .sl 6 0 (F++bg b).length,SV.i (cnt+1:Nat)]),some (.fam Z ⟨es,[(j, .ptr 4 0 0)],none⟩),none,none,some (.cells 100 2 [.sl 5 0 e, .d v]),some (.rows 37 1 e k),some (bY (F++bg b))]):=by
 subst G
 have O:=fv b
 refine start 27 6 Tryd.func37 rfl rfl rfl rfl ?_
 refine bP 3 b.length (dm b) rfl rfl I ?_
 refine freeze 1 3 b.length rfl rfl (Nat.le_refl _) ?_
 refine r1<|sT 7 6 1 rfl ?_
 refine c1 (qQ b B E) [] [14] 8 14 2 rfl rfl rfl rfl rfl rfl rfl rfl Tryd.func56 rfl rfl rfl rfl trivial rfl rfl ?_
 refine sT 6 22 3 rfl<|sT 9 30 4 rfl<|sT 10 38 5 rfl<|sT 4 46 6 rfl<|sT 5 54 7 rfl<|e1 62 rfl<|ab [0,4] rfl<|r1<|sT 11 62 1 rfl<|sT 12 70 2 rfl<|sT 13 78 3 rfl<|sT 14 86 4 rfl<|sO 15 94 5 rfl<|sT 16 102 6 rfl ?_
 refine sV 17 110 7 rfl ⟨Nat.le_refl _,(by omega),(by show(_+_)*1<=140737488355328;omega),(by simp only[maxLen];omega)⟩ ?_
 refine sT 18 118 8 rfl<|sT 19 126 9 rfl<|cJ 134 10 rfl rfl rfl rfl rfl<|e1 142 rfl<|ab [0] rfl ?_
 refine bP 110 (F++bg b).length (dm (F++bg b)) rfl (by rw[List.length_append]) (fun i c U V=>mq i c U V) ?_
 refine bW 0 (.cells 55 3 [.map 1, .sl 110 0 (F++bg b).length,SV.i cnt]) rfl (congrArg (fun n=>aB.cells 55 3 [.map 1, .sl 110 0 n,SV.i cnt]) (pV F (bg b))) ?_
 refine r0 ?_
 refine sT 20 142 1 rfl<|sT 21 150 2 rfl<|sT 22 158 3 rfl<|sO 23 166 4 rfl<|de 24 174 5 rfl ?_
 refine val 24 (SV.i (cnt+1:Nat)) rfl (congrArg SV.i (by omega)) ?_
 refine sT 25 182 6 rfl<|sT 26 190 7 rfl<|cJ 198 8 rfl rfl rfl rfl rfl<|e1 206 rfl ?_
 exact oa (π:= [0,1,2,3,4,5,110]) (ae:= [some (.cells 55 3 [.map 1, .sl 6 0 (F++bg b).length,SV.i (cnt+1:Nat)]),some (.fam Z ⟨es,[(j, .ptr 4 0 0)],none⟩),none,none,some (.cells 100 2 [.sl 5 0 e, .d v]),some (.rows 37 1 e k),some (bY (F++bg b))]) Tryd.results37 rfl rfl ⟨rfl,rfl,rfl,rfl,rfl,trivial⟩ ⟨rfl,rfl⟩
end Go.Proofs.YtifcaekngfgdmaaDoor.Nice
namespace Go.Proofs.YtifcaekngfgdmaaDoor.Nice.Co
open Go Go.Conc
open Go.ConcN (PermW fork_knows Deaf_absent)
universe u
def up{α:Type u}(f:Nat->α)(i:Nat)(x:α):Nat->α:=fun a=>if a=i then x else f a
theorem aG{α:Type u}(f:Nat->α)(i:Nat)(x:α):up f i x i=x:=by simp[up]
theorem aU{α:Type u}(f:Nat->α){i a:Nat}(x:α)(h:a≠i):up f i x a=f a:=by simp[up,h]
def fC:Loc->Option Nat
 | .cell a=>some a.block
 | .obj r=>some r
 |_=>none
def ID(own rd:aI)(Wg Ch:Nat)(e:Prop)(x:Touch):Prop:=
 (∃ b,fC x.loc=some b/\own b/\x.kind≠ .said)\/(∃ b,fC x.loc=some b/\rd b/\x.write=false/\x.kind≠ .said)\/((fC x.loc=some Wg\/fC x.loc=some Ch)/\x.kind= .atomic)\/(fC x.loc=some Wg/\x.kind= .said/\e)
structure Dj (N:Nat) (own rd:Nat->aI) (size Wg Ch:Nat):Prop where
 oo:∀ i j b,i<N->j<N->i≠j->own i b-> ¬ own j b
 ord:∀ i j b,i<N->j<N->own i b-> ¬ rd j b
 vg:∀ i b,i<N->own i b->b<size/\b≠Wg/\b≠Ch
 yv:∀ i b,i<N->rd i b->b<size/\b≠Wg/\b≠Ch
 wg:Wg<size
 ch:Ch<size
 ne:Wg≠Ch
structure TI (N:Nat) (own rd:Nat->aI) (deaf:Nat->Nat) (size Wg Ch jZ:Nat) (t:Trace):Prop where
 lt:∀ (p:Nat) (op:MemOp),t[p]? =some op->op.g<N
 ow:∀ i l b,i<N->fC l=some b->own i b->Perm t i l
 rr:∀ i l b,i<N->fC l=some b->rd i b->PermW t i l
 wg:∀ p a,touchAt t p=some a->(fC a.loc=some Wg\/fC a.loc=some Ch)->a.kind≠ .plain
 fresh:∀ p a b,touchAt t p=some a->fC a.loc=some b->b<size
 sd:∀ p a,touchAt t p=some a->a.kind= .said->Knows t jZ p
 nr:∀ said,¬ Race said t
 df:∀ i,i<N->Deaf t i=deaf i
theorem dr{t u:Trace}{p:Nat}{a:Touch}(h:touchAt (t++u) p=some a):(p<t.size/\touchAt t p=some a)\/(t.size<=p/\∃ op,(t++u)[p]? =some op/\op∈u/\op.act.touch?=some a):=by
 obtain⟨x,B,b⟩:=touch_of h
 rcases getElem?_append_cases B with⟨e,k⟩|⟨e,v⟩
 ·exact .inl ⟨e,by rw[touchAt_of k];exact b⟩
 ·exact .inr ⟨e,x,B,v,b⟩
section
variable {N:Nat} {own rd:Nat->aI} {deaf:Nat->Nat} {size Wg Ch jZ:Nat} {t u:Trace}
theorem TI.app(h:TI N own rd deaf size Wg Ch jZ t)(D:Dj N own rd size Wg Ch){i:Nat}(W:i<N)(hg:∀ op,op∈u->op.g=i)(hu:∀ op,op∈u->∀ x,op.act.touch?=some x->ID (own i) (rd i) Wg Ch (i=jZ) x)
  {own':aI} {size':Nat} (ho:∀ b,own' b->own i b\/(size<=b/\b<size')) (hs:size<=size') {d':Nat} (hd:Deaf (t++u) i=d'):
  TI N (up own i own') rd (up deaf i d') size' Wg Ch jZ (t++u):=by
 have mine:∀ {q:Nat} {op:MemOp},(t++u)[q]? =some op->op∈u->Knows (t++u) i q:=fun hq E=>by
  have :=knows_own hq
  rwa[hg _ E]at this
 refine⟨fun p op hp=>?_,fun j l b U hl v=>?_,fun j l b U hl v=>?_,fun p a V v=>?_,fun p a b V v=>?_,fun p a V X=>?_,fun said=>?_,fun j U=>?_⟩
 ·rcases getElem?_append_cases hp with⟨_,ah⟩|⟨_,al⟩
  ·exact h.lt p op ah
  ·rw[hg op al];exact W
 ·by_cases e:j=i
  ·subst e
   rw[aG]at v
   intro p a V aa
   rcases dr V with⟨hp,J⟩|⟨_,op,B,E,_⟩
   ·rcases ho b v with v|v
    ·exact(h.ow j l b U hl v p a J aa).app u
    ·have :=h.fresh p a b J (by rw[aa];exact hl)
     omega
   ·exact mine B E
  ·rw[aU _ _ e]at v
   refine(h.ow j l b U hl v).app fun op B x hx G=>?_
   exfalso
   rcases hu op B x hx with⟨c,k,I,_⟩|⟨c,k,I,_⟩|⟨k|k,_⟩|⟨k,_⟩
   ·rw[G,hl]at k;cases k;exact D.oo i j b W U (fun x=>e x.symm) I v
   ·rw[G,hl]at k;cases k;exact D.ord j i b U W v I
   ·rw[G,hl]at k;cases k;exact(D.vg j _ U v).2.1 rfl
   ·rw[G,hl]at k;cases k;exact(D.vg j _ U v).2.2 rfl
   ·rw[G,hl]at k;cases k;exact(D.vg j _ U v).2.1 rfl
 ·refine(h.rr j l b U hl v).app fun op B x hx G hw=>?_
  rcases hu op B x hx with⟨c,k,I,_⟩|⟨c,k,I,Y,_⟩|⟨k|k,_⟩|⟨k,_⟩
  ·rw[G,hl]at k;cases k
   by_cases e:j=i
   ·rw[hg op B,e]
   ·exact absurd v (D.ord i j b W U I)
  ·rw[Y]at hw;cases hw
  ·rw[G,hl]at k;cases k;exact absurd rfl (D.yv j _ U v).2.1
  ·rw[G,hl]at k;cases k;exact absurd rfl (D.yv j _ U v).2.2
  ·rw[G,hl]at k;cases k;exact absurd rfl (D.yv j _ U v).2.1
 ·rcases dr V with⟨_,J⟩|⟨_,op,B,E,hx⟩
  ·exact h.wg p a J v
  ·rcases hu op E a hx with⟨c,k,I,_⟩|⟨c,k,I,_⟩|⟨_,X⟩|⟨_,X,_⟩
   ·rcases v with v|v<;>rw[v]at k<;>cases k
    ·exact absurd rfl (D.vg i _ W I).2.1
    ·exact absurd rfl (D.vg i _ W I).2.2
   ·rcases v with v|v<;>rw[v]at k<;>cases k
    ·exact absurd rfl (D.yv i _ W I).2.1
    ·exact absurd rfl (D.yv i _ W I).2.2
   ·rw[X];simp
   ·rw[X];simp
 ·rcases dr V with⟨_,J⟩|⟨_,op,B,E,hx⟩
  ·exact Nat.lt_of_lt_of_le (h.fresh p a b J v) hs
  ·refine Nat.lt_of_lt_of_le ?_ hs
   rcases hu op E a hx with⟨c,k,I,_⟩|⟨c,k,I,_⟩|⟨k|k,_⟩|⟨k,_⟩
   ·rw[v]at k;cases k;exact(D.vg i b W I).1
   ·rw[v]at k;cases k;exact(D.yv i b W I).1
   ·rw[v]at k;cases k;exact D.wg
   ·rw[v]at k;cases k;exact D.ch
   ·rw[v]at k;cases k;exact D.wg
 ·rcases dr V with⟨_,J⟩|⟨_,op,B,E,hx⟩
  ·exact(h.sd p a J X).app u
  ·rcases hu op E a hx with⟨c,k,_,Y⟩|⟨c,k,_,_,Y⟩|⟨_,Y⟩|⟨_,_,Y⟩
   ·exact absurd X Y
   ·exact absurd X Y
   ·rw[X]at Y;cases Y
   ·rw[<-Y];exact mine B E
 ·refine noRace_append (h.nr said) hg fun p a V op B b v k=>?_
  obtain⟨c1,_,c3,O⟩:=k
  rcases hu op B b v with⟨c,k,I,_⟩|⟨c,k,I,Y,_⟩|⟨k,X⟩|⟨k,X,av⟩
  ·exact h.ow i b.loc c W k I p a V c1
  ·exact h.rr i b.loc c W k I p a V c1 (c3.resolve_right (by rw[Y];simp))
  ·have :=h.wg p a V (by rw[c1];exact k)
   rw[X]at O
   rcases O with O|O|⟨_,_,O⟩
   ·exact absurd O this
   ·cases O
   ·cases O
  ·have :=h.wg p a V (.inl (by rw[c1];exact k))
   rw[X]at O
   rcases O with O|O|⟨_,O,_⟩
   ·exact absurd O this
   ·cases O
   ·rw[av];exact h.sd p a V O
 ·by_cases e:j=i
  ·subst e;rw[aG];exact hd
  ·rw[aU _ _ e,Deaf_other t (fun x=>e x.symm) u hg]
   exact h.df j U
theorem TI.less(h:TI N own rd deaf size Wg Ch jZ t){own' rd':Nat->aI}(v:∀ i b,i<N->own' i b->own i b)(B:∀ i b,i<N->rd' i b->rd i b\/own i b):TI N own' rd' deaf size Wg Ch jZ t:=
 ⟨h.lt,fun i l b e hl k=>h.ow i l b e hl (v i b e k),fun i l b e hl k=>(B i b e k).elim (h.rr i l b e hl) fun k=>PermW.of (h.ow i l b e hl k),h.wg,h.fresh,h.sd,h.nr,h.df⟩
theorem TI.fork(h:TI N own rd deaf size Wg Ch jZ t)(hN:0<N)(h0:deaf 0=0){x y:MemOp}(G:x.g=0/\x.act= .go N)(I:y.g=N/\y.act= .start){rdN:aI}(hr:∀ b,rdN b->rd 0 b){B:Nat}(U:B=jZ\/(jZ=0/\B=N)):
  TI (N+1) (up own N fun _=>False) (up rd N rdN) (up deaf N 0) size Wg Ch B (t++ #[x,y]):=by
 have d0:Deaf t 0=0:=by rw[h.df 0 hN];exact h0
 have V:Deaf t N=0:=Deaf_absent fun i op hi e=>by have :=h.lt i op hi;omega
 have D:∀ op,op∈(#[x,y]:Trace)->∀ b,op.act.touch?=some b->False:=by
  intro op k b v
  simp only[List.mem_toArray,List.mem_cons,List.not_mem_nil,or_false]at k
  rcases k with rfl|rfl
  ·rw[G.2]at v;cases v
  ·rw[I.2]at v;cases v
 have old:∀ {p:Nat} {a:Touch},touchAt (t++ #[x,y]) p=some a->touchAt t p=some a:=by
  intro p a E
  rcases dr E with⟨_,W⟩|⟨_,op,_,X,G⟩
  ·exact W
  ·exact(D op X a G).elim
 refine⟨fun p op hp=>?_,fun j l b hj hl v=>?_,fun j l b hj hl v=>?_,fun p a E v=>h.wg p a (old E) v,fun p a b E v=>h.fresh p a b (old E) v,fun p a E hk=>?_,fun said=>?_,fun j hj=>?_⟩
 ·rcases getElem?_append_cases hp with⟨_,Y⟩|⟨_,J⟩
  ·exact Nat.lt_succ_of_lt (h.lt p op Y)
  ·simp only[List.mem_toArray,List.mem_cons,List.not_mem_nil,or_false]at J
   rcases J with rfl|rfl
   ·rw[G.1];omega
   ·rw[I.1];omega
 ·by_cases e:j=N
  ·subst e;rw[aG]at v;exact v.elim
  ·rw[aU _ _ e]at v
   exact(h.ow j l b (by omega) hl v).app fun op k b v _=>(D op k b v).elim
 ·by_cases e:j=N
  ·subst e
   rw[aG]at v
   exact fun p a E aa hw=>fork_knows G I d0 V (h.rr 0 l b hN hl (hr b v) p a (old E) aa hw)
  ·rw[aU _ _ e]at v
   exact(h.rr j l b (by omega) hl v).app fun op k b v _ _=>(D op k b v).elim
 ·have O:=h.sd p a (old E) hk
  rcases U with rfl|⟨rfl,rfl⟩
  ·exact O.app _
  ·exact fork_knows G I d0 V O
 ·have e:t++ #[x,y]=(t++ #[x])++ #[y]:=by apply Array.ext';simp
  rw[e]
  refine noRace_append (g:=N) (noRace_append (g:=0) (h.nr said) (fun op k=>by simp at k;rw[k];exact G.1) (fun i a _ op k b v _=>(D op (by simp at k ⊢;exact .inl k) b v).elim))
   (fun op k=>by simp at k;rw[k];exact I.1) (fun i a _ op k b v _=>(D op (by simp at k ⊢;exact .inr k) b v).elim)
 ·have e:t++ #[x,y]=(t++ #[x])++ #[y]:=by apply Array.ext';simp
  rw[e,Deaf_push,Deaf_push]
  have e1:∀ d,deafStep j d x=d:=fun d=>by simp[deafStep,G.2]
  have e2:∀ d,deafStep j d y=d:=fun d=>by simp[deafStep,I.2]
  rw[e1,e2]
  by_cases e:j=N
  ·subst e;rw[aG];exact V
  ·rw[aU _ _ e];exact h.df j (by omega)
def bO(i:Nat)(fi:FuncId)(pi:String)(fm:FuncId)(pm:String)(c k cap:Nat):Trace:=
 #[{g:=i,fn:=fi,pos:=pi,act:= .send c k},{g:=0,fn:=fm,pos:=pm,act:= .recv c k cap},{g:=i,fn:=fi,pos:=pi,act:= .sendDone c k},{g:=0,fn:=fm,pos:=pm,act:= .recvDone c k}]
theorem DM(t:Trace)(i:Nat)(fi:FuncId)(pi:String)(fm:FuncId)(pm:String)(c k cap:Nat):
  (t++bO i fi pi fm pm c k cap)[t.size]? =some {g:=i,fn:=fi,pos:=pi,act:= .send c k}/\(t++bO i fi pi fm pm c k cap)[t.size+3]? =some {g:=0,fn:=fm,pos:=pm,act:= .recvDone c k}:=by
 constructor
 ·rw[Array.getElem?_append_right (Nat.le_refl _)];simp[bO]
 ·rw[Array.getElem?_append_right (by omega)];simp[bO]
theorem ef{i:Nat}{fi:FuncId}{pi:String}{fm:FuncId}{pm:String}{c k cap:Nat}:∀ op,op∈bO i fi pi fm pm c k cap->op.act.touch?=none/\op.act≠ .mark .disable/\op.act≠ .mark .enable/\(op.g=i\/op.g=0):=by
 intro op b
 simp only[bO,List.mem_toArray,List.mem_cons,List.not_mem_nil,or_false]at b
 rcases b with rfl|rfl|rfl|rfl<;>simp[MemAct.touch?]
theorem mA{i:Nat}{fi:FuncId}{pi:String}{fm:FuncId}{pm:String}{c k cap:Nat}(U:Deaf t i=0)(d0:Deaf t 0=0){p:Nat}(h:Knows t i p):Knows (t++bO i fi pi fm pm c k cap) 0 p:=by
 obtain⟨B,D⟩:=DM t i fi pi fm pm c k cap
 have hd:∀ (j n:Nat),n<=(t++bO i fi pi fm pm c k cap).size->t.size<=n->(t++bO i fi pi fm pm c k cap).deaf j n=Deaf t j:=by
  intro j n
  induction n with
  |zero=>
   intro _ V;have E:t.size=0:=by omega
   simp[Trace.deaf,Deaf,E]
  |succ n ih=>
   intro V W
   rcases Nat.lt_or_ge n t.size with G|I
   ·have :n+1=t.size:=by omega
    rw[this];exact deaf_old (Nat.le_refl _)
   ·obtain⟨op,v⟩:∃ op,(t++bO i fi pi fm pm c k cap)[n]? =some op:=⟨_,Array.getElem?_eq_getElem (by omega)⟩
    rw[deaf_succ v,ih (by omega) I]
    rcases getElem?_append_cases v with⟨G,_⟩|⟨_,J⟩
    ·omega
    ·obtain⟨_,a,b,_⟩:=ef op J
     unfold deafStep
     split
     ·rename_i e;exact absurd e a
     ·rename_i e;exact absurd e b
     ·rfl
 have X:(t++bO i fi pi fm pm c k cap).size=t.size+4:=by simp[bO]
 have E:(t++bO i fi pi fm pm c k cap).heard t.size:=⟨i,by simp[Trace.g?,B],by rw[hd i _ (by omega) (Nat.le_refl _)];exact U⟩
 have e1:(t++bO i fi pi fm pm c k cap).heard (t.size+3):=⟨0,by simp[Trace.g?,D],by rw[hd 0 _ (by omega) (by omega)];exact d0⟩
 have O:HappensBefore (t++bO i fi pi fm pm c k cap) p t.size:=h.hb_new (Nat.le_refl _) B rfl
 exact⟨t.size+3,_,D,rfl, .inr (O.trans (.single (.inr ⟨.handOver (c:=c) (k:=k) (by rw[act?_of B]) (by rw[act?_of D]),E,e1⟩)))⟩
theorem TI.meet(h:TI N own rd deaf size Wg Ch jZ t){i:Nat}(J:i<N)(hN:0<N)(d0:deaf 0=0)(di:deaf i=0){fi:FuncId}{pi:String}{fm:FuncId}{pm:String}{c k cap:Nat}{rd0:aI}(hr:∀ b,rd0 b->rd 0 b\/own i b\/rd i b):
  TI N own (up rd 0 rd0) deaf size Wg Ch jZ (t++bO i fi pi fm pm c k cap):=by
 have Y:Deaf t 0=0:=by rw[h.df 0 hN];exact d0
 have ei:Deaf t i=0:=by rw[h.df i J];exact di
 have old:∀ {p:Nat} {a:Touch},touchAt (t++bO i fi pi fm pm c k cap) p=some a->touchAt t p=some a:=by
  intro p a D
  rcases dr D with⟨_,E⟩|⟨_,op,_,O,hx⟩
  ·exact E
  ·rw[(ef op O).1]at hx;cases hx
 refine⟨fun p op hp=>?_,fun j l b I hl v=>?_,fun j l b I hl v=>?_,fun p a D v=>h.wg p a (old D) v,fun p a b D v=>h.fresh p a b (old D) v,fun p a D hk=>(h.sd p a (old D) hk).app _,fun said=>?_,fun j I=>?_⟩
 ·rcases getElem?_append_cases hp with⟨_,U⟩|⟨_,V⟩
  ·exact h.lt p op U
  ·rcases(ef op V).2.2.2 with e|e<;>rw[e]<;>assumption
 ·exact(h.ow j l b I hl v).app fun op B b v _=>by rw[(ef op B).1]at v;cases v
 ·have base:rd j b->PermW (t++bO i fi pi fm pm c k cap) j l:=fun v=>(h.rr j l b I hl v).app fun op B b v _ _=>by rw[(ef op B).1]at v;cases v
  by_cases e:j=0
  ·subst e
   rw[aG]at v
   rcases hr b v with v|v|v
   ·exact base v
   ·exact fun p a D G hw=>mA ei Y (h.ow i l b J hl v p a (old D) G)
   ·exact fun p a D G hw=>mA ei Y (h.rr i l b J hl v p a (old D) G hw)
  ·rw[aU _ _ e]at v
   exact base v
 ·rintro⟨p,q,W,⟨a,b,D,v,hc⟩,n1,n2⟩
  have E:=old (show touchAt _ p=some a from D)
  have X:=old (show touchAt _ q=some b from v)
  exact h.nr said ⟨p,q,W,⟨a,b,E,X,hc⟩,fun e=>n1 (hb_app _ e),fun e=>n2 (hb_app _ e)⟩
 ·have e:Deaf (t++bO i fi pi fm pm c k cap) j=Deaf t j:=by
   have :∀ (l:List MemOp) (t:Trace),(∀ op,op∈l->op.act≠ .mark .disable/\op.act≠ .mark .enable)->Deaf (t++l.toArray) j=Deaf t j:=by
    intro l t hl
    rw[Deaf_append]
    generalize Deaf t j=d
    induction l with
    |nil=>rfl
    |cons y l ih=>
     have hy:deafStep j d y=d:=by
      obtain⟨a,b⟩:=hl y (by simp)
      unfold deafStep
      split
      ·rename_i e;exact absurd e a
      ·rename_i e;exact absurd e b
      ·rfl
     rw[List.foldl_cons,hy]
     exact ih fun op B=>hl op (by simp[B])
   have :=this (bO i fi pi fm pm c k cap).toList t fun op B=>⟨(ef op (by simpa using B)).2.1,(ef op (by simpa using B)).2.2.1⟩
   simpa using this
  rw[e];exact h.df j I
end
end Go.Proofs.YtifcaekngfgdmaaDoor.Nice.Co
namespace Go.Proofs.YtifcaekngfgdmaaDoor.Nice.Co
open Go Go.Conc
open Go.ConcR (KK WgAt stA smA mk)
inductive Lo where
 |spawn (j:Nat) (p:Bool)
 |recv (J:List Nat)
 |fin
 |wk (k:Nat)
 |told
 |l1
 |l2
 |l3
 |out
 |cw (B:Nat)
 |cc (v:Nat)
 |cr
 |cs
 deriving DecidableEq
def Lo.mute:Lo->Bool
 | .told| .l1| .l2| .l3=>true
 |_=>false
structure kq where
 own:aI
 rd:aI
 deaf:Nat
 lo:Lo
structure pg where
 v:Nat
 wt:Nat
 sm:Nat
 cl:Bool
structure Pr where
 n:Nat
 Wg:Nat
 Ch:Nat
 ty:TypeId
 rX:Nat->aD->Value->Prop
def gm(p:Pr)(w:World):Prop:=(∃ st b,WgAt p.ty p.Wg w st b)/\p.Ch<w.heap.size
structure Sh (p:Pr) (s:pg) (w:World):Prop where
 wg:WgAt p.ty p.Wg w ((s.v:Int)*KK+s.wt) s.sm
 ch:∃ q,w.heap[p.Ch]? =some (.chan 0 #[] s.cl q q false)
theorem Sh.lv{p:Pr}{s:pg}{w:World}(h:Sh p s w):gm p w:=⟨⟨_,_,h.wg⟩,let⟨_,h⟩:=h.ch;(Array.getElem?_eq_some_iff.1 h).1⟩
structure cM (p:Pr) (Γ:kq) (w af:World):Prop where
 ry:dd Γ.own Γ.rd w af
 wg:gm p w->gm p af
theorem cM.refl{p:Pr}{Γ:kq}(w:World):cM p Γ w w:=⟨.refl w,id⟩
theorem cM.trans{p:Pr}{Γ:kq}{a b c:World}(h:cM p Γ a b)(k:cM p Γ b c):cM p Γ a c:=⟨h.ry.trans k.ry,fun x=>k.wg (h.wg x)⟩
structure nu (p:Pr) (w w':World):Prop where
 same:bG w w'
 size:w'.heap.size=w.heap.size
 ab:∀ b,b≠p.Wg->b≠p.Ch->w'.heap[b]? =w.heap[b]?
def uH(n:Nat):Lo->pg->Prop
 | .spawn j q,s=>s=⟨j+(if q then 1 else 0),0,0,false⟩
 | .told,s=>1<=s.v/\s.v<=n/\s.wt<=1/\s.sm=0/\s.cl=false
 | .l1,s=>s=⟨0,1,0,false⟩
 | .l2,s=>s=⟨0,1,0,false⟩
 | .l3,s=>s=⟨0,0,0,false⟩
 | .cw B,s=>s.v<=B/\s.wt=0/\s.sm=0/\s.cl=false
 | .cc v,s=>s.v<=v/\s.wt=0/\s.sm=0/\s.cl=false
 | .cr,s=>s.cl=false/\((s.wt=1/\s.sm=0)\/(s.v=0/\s.wt=0/\s.sm<=1))
 | .cs,s=>s=⟨0,0,0,false⟩
 |_,_=>True
def fN(m:Mark):Prop:=m= .disable\/m= .enable\/(∃ a,m= .acquire a)\/∃ a,m= .releaseMerge a
def xO(a:Addr):Event:=⟨.cell a,false,true⟩
def G9(a:Addr):Event:=⟨.cell a,true,true⟩
inductive qU (p:Pr) (d:Nat):Lo->pg->Array Event->Lo->pg->Prop
 |mark {lo:Lo} {s:pg} (m:Mark) (h:fN m):qU p d lo s #[mk m] lo s
 |add {j:Nat}:j<p.n->qU p d (.spawn j false) ⟨j,0,0,false⟩ #[xO (stA p.Wg),G9 (stA p.Wg)] (.spawn j true) ⟨j+1,0,0,false⟩
 |zV {j:Nat} {s:pg}:qU p d (.spawn j true) s #[mk (.read (smA p.Wg))] (.spawn j true) s
 |done {v wt:Nat} (hd:0<d):qU p d .told ⟨v+1,wt,0,false⟩ #[xO (stA p.Wg),G9 (stA p.Wg)] (if v=0/\wt=1 then .l1 else .out) ⟨v,wt,0,false⟩
 |Jv (hd:0<d):qU p d .l1 ⟨0,1,0,false⟩ #[xO (stA p.Wg)] .l2 ⟨0,1,0,false⟩
 |Jw (hd:0<d):qU p d .l2 ⟨0,1,0,false⟩ #[G9 (stA p.Wg)] .l3 ⟨0,0,0,false⟩
 |rel (hd:0<d):qU p d .l3 ⟨0,0,0,false⟩ (semEvents (smA p.Wg)) .out ⟨0,0,1,false⟩
 |JQ {B:Nat}:qU p d (.cw B) ⟨0,0,0,false⟩ #[xO (stA p.Wg)] .cs ⟨0,0,0,false⟩
 |JR {B v:Nat} (h:0<v) (hB:v<=B):qU p d (.cw B) ⟨v,0,0,false⟩ #[xO (stA p.Wg)] (.cc v) ⟨v,0,0,false⟩
 |JS {v:Nat} (h:0<v):qU p d (.cc v) ⟨v,0,0,false⟩ #[xO (stA p.Wg),G9 (stA p.Wg)] .cr ⟨v,1,0,false⟩
 |nv {v v':Nat} (h:v'<v):qU p d (.cc v) ⟨v',0,0,false⟩ #[xO (stA p.Wg)] (.cw v') ⟨v',0,0,false⟩
 |zW {s:pg}:qU p d .cr s #[mk (.write (smA p.Wg))] .cr s
 |Jx:qU p d .cs ⟨0,0,0,false⟩ #[xO (stA p.Wg)] .cs ⟨0,0,0,false⟩
 |close (h0:d=0):qU p d .cs ⟨0,0,0,false⟩ #[⟨.obj p.Ch,false,true⟩,⟨.obj p.Ch,true,true⟩] .out ⟨0,0,0,true⟩
def Holds(M:aD)(w:World):Prop:=∀ b o,M b=some o->w.heap[b]? =some o
abbrev no:aI:=fun _=>False
abbrev Bv:=Bool->kq->Goroutine->World->Prop
structure qV (g h:Goroutine):Prop where
 frame:g.frame=h.frame
 callers:g.callers=h.callers
 dying:g.dying=h.dying
theorem qV.refl(g:Goroutine):qV g g:=⟨rfl,rfl,rfl⟩
theorem qV.step{P:Program}{main:Bool}{g h:Goroutine}(l:qV g h)(w:World):stepG P main g w=stepG P main h w:=stepG_same l.frame l.callers l.dying w
structure j5 (P:Program) (p:Pr) (K:Bv) (Γ:kq) (g:Goroutine) (w:World) (J:List Nat) (ki:Goroutine) (z:Value):Prop where
 hs:g.status= .running
 hl:Γ.lo= .recv J
 hd:Γ.deaf=0
 hg:qV g ki
 h:∀ af,cM p Γ w af->stepG P true g af= .comm ki #[rcase p.Ch z] true (.recv true) af #[]
 hk:∀ k M v af,cM p Γ w af->k<p.n->k∉J->p.rX k M v->Holds M af->(∀ b,M b≠none-> ¬ Γ.own b/\b≠p.Wg/\b≠p.Ch)->K true ⟨Γ.own,fun b=>Γ.rd b\/M b≠none,0, .recv (k::J)⟩ (Go.Conc.served ki (recvd true v true)) af
 hc:∀ af,cM p Γ w af->(∀ k,k<p.n->k∈J)->K true ⟨Γ.own,Γ.rd,0, .fin⟩ (Go.Conc.served ki (recvd true z false)) af
inductive Node (P:Program) (p:Pr) (aK:Value->World->Prop) (K:Bv) (main:Bool) (Γ:kq) (g:Goroutine) (w:World):Prop
 |own (hs:g.status= .running) (hl:Γ.lo≠ .out) (h:∀ af,cM p Γ w af->∃ g' w' es,stepG P main g af= .go g' w' es/\(Γ.lo.mute=true->es= #[])/\mc Γ.own Γ.rd af w' es/\K main ⟨more Γ.own af w',Γ.rd,Γ.deaf,Γ.lo⟩ g' w')
 |sync (hs:g.status= .running) (hl:Γ.lo≠ .out) (h:∀ af,cM p Γ w af->∀ s,Sh p s af->uH p.n Γ.lo s->∃ g' w' es Kc s',stepG P main g af= .go g' w' es/\qU p Γ.deaf Γ.lo s es Kc s'/\nu p af w'/\Sh p s' w'/\((s'.sm=s.sm/\s'.cl=s.cl)\/mayWake P g=true)/\K main ⟨Γ.own,Γ.rd,deafBehind Γ.deaf es,Kc⟩ g' w')
 |wait (hs:g.status= .running) (ho:g.offers=none) (hl:Γ.lo= .cr) (h:∀ af,cM p Γ w af->∀ s,Sh p s af->uH p.n .cr s->(s.sm=0->stepG P main g af= .go {g with status:= .blocked} af #[])/\
  (s.sm=1->∃ g' w',stepG P main g af= .go g' w' (semEvents (smA p.Wg))/\nu p af w'/\Sh p ⟨0,0,0,false⟩ w'/\K main ⟨Γ.own,Γ.rd,Γ.deaf, .cs⟩ g' w'))
 |kP (hs:g.status= .running) (hm:main=true) (j:Nat) (hl:Γ.lo= .spawn j true) (hd:Γ.deaf=0) (h:∀ af,cM p Γ w af->∃ (X:aI) (g' ch:Goroutine),(∀ b,X b->Γ.own b)/\stepG P true g af= .spawn g' ch af #[]/\
  K true ⟨fun b=>Γ.own b/\ ¬ X b,fun b=>Γ.rd b\/X b,0, .spawn (j+1) false⟩ g' af/\K false ⟨no,fun b=>Γ.rd b\/X b,0, .wk j⟩ ch af)
 |kQ (hs:g.status= .running) (hm:main=true) (hl:Γ.lo= .spawn p.n false) (hd:Γ.deaf=0) (h:∀ af,cM p Γ w af->∃ (X:aI) (g' ch:Goroutine),(∀ b,X b->Γ.own b)/\stepG P true g af= .spawn g' ch af #[]/\
  K true ⟨fun b=>Γ.own b/\ ¬ X b,fun b=>Γ.rd b\/X b,0, .recv []⟩ g' af/\K false ⟨no,fun b=>Γ.rd b\/X b,0, .cw p.n⟩ ch af)
 |send (hs:g.status= .running) (hm:main=false) (k:Nat) (hl:Γ.lo= .wk k) (hd:Γ.deaf=0) (ki:Goroutine) (v z:Value) (M:aD) (hM:∀ b,M b≠none->Γ.own b\/Γ.rd b) (hh:Holds M w) (ht:p.rX k M v)
  (h:∀ af,cM p Γ w af->stepG P false g af= .comm ki #[scase p.Ch v z] true .send af #[]) (hk:∀ af,gm p af->K false ⟨no,no,0, .told⟩ (Go.Conc.served ki undef) af)
 |recv (hm:main=true) (J:List Nat) (ki:Goroutine) (z:Value) (h:j5 P p K Γ g w J ki z)
 |ret (hs:g.status= .running) (hm:main=true) (hl:Γ.lo= .fin) (h:∀ af,cM p Γ w af->∃ v es,stepG P true g af= .ended (.done v) af es/\(∀ e,e∈es->l9 Γ.own Γ.rd e)/\aK v af)
 |quit (hm:main=false) (hl:Γ.lo= .out) (h:(g.status= .finished/\Γ.deaf=0)\/(g.status= .running/\∃ g' es,(∀ e,e∈es->Event.mute e=true)/\(∀ af,stepG P false g af= .go g' af es)/\K false ⟨Γ.own,Γ.rd,deafBehind Γ.deaf es, .out⟩ g' w))
section
variable {P:Program} {p:Pr} {aK:Value->World->Prop} {K K':Bv} {main:Bool} {Γ:kq} {g:Goroutine} {w yw:World}
theorem j5.mono(h:∀ m Γ g w,K m Γ g w->K' m Γ g w){J:List Nat}{B:Goroutine}{z:Value}(n:j5 P p K Γ g w J B z):j5 P p K' Γ g w J B z:=
 ⟨n.hs,n.hl,n.hd,n.hg,n.h,fun k M v af a b c d e f=>h _ _ _ _ (n.hk k M v af a b c d e f),fun af a b=>h _ _ _ _ (n.hc af a b)⟩
theorem j5.rely{J:List Nat}{b:Goroutine}{z:Value}(n:j5 P p K Γ g w J b z)(r:cM p Γ w yw):j5 P p K Γ g yw J b z:=
 ⟨n.hs,n.hl,n.hd,n.hg,fun af e=>n.h af (r.trans e),fun k M v af a=>n.hk k M v af (r.trans a),fun af a=>n.hc af (r.trans a)⟩
theorem Node.mono(h:∀ m Γ g w,K m Γ g w->K' m Γ g w)(n:Node P p aK K main Γ g w):Node P p aK K' main Γ g w:=by
 cases n with
 |own E hl D=>exact .own E hl fun af B=>let⟨g',w',es,a,b,c,d⟩:=D af B;⟨g',w',es,a,b,c,h _ _ _ _ d⟩
 |sync E hl D=>exact .sync E hl fun af B s I O=>let⟨g',w',es,U,s',a,b,c,d,e,f⟩:=D af B s I O;⟨g',w',es,U,s',a,b,c,d,e,h _ _ _ _ f⟩
 |wait E V hl D=>exact .wait E V hl fun af B s I O=>let⟨a,b⟩:=D af B s I O;⟨a,fun e=>let⟨g',w',c,d,f,k⟩:=b e;⟨g',w',c,d,f,h _ _ _ _ k⟩⟩
 |kP E hm j hl hd D=>exact .kP E hm j hl hd fun af B=>let⟨X,g',ch,a,b,c,d⟩:=D af B;⟨X,g',ch,a,b,h _ _ _ _ c,h _ _ _ _ d⟩
 |kQ E hm hl hd D=>exact .kQ E hm hl hd fun af B=>let⟨X,g',ch,a,b,c,d⟩:=D af B;⟨X,g',ch,a,b,h _ _ _ _ c,h _ _ _ _ d⟩
 |send E hm k hl hd G v z M W Y ht D hk=>exact .send E hm k hl hd G v z M W Y ht D fun af B=>h _ _ _ _ (hk af B)
 |recv hm J G z D=>exact .recv hm J G z (D.mono h)
 |ret E hm hl D=>exact .ret E hm hl D
 |quit hm hl D=>exact .quit hm hl (D.imp id fun⟨a,g',es,b,c,d⟩=>⟨a,g',es,b,c,h _ _ _ _ d⟩)
theorem Node.rely(O:∀ m Γ g w af,K m Γ g w->cM p Γ w af->K m Γ g af)(n:Node P p aK K main Γ g w)(r:cM p Γ w yw):Node P p aK K main Γ g yw:=by
 cases n with
 |own D hl B=>exact .own D hl fun af e=>B af (r.trans e)
 |sync D hl B=>exact .sync D hl fun af e=>B af (r.trans e)
 |wait D U hl B=>exact .wait D U hl fun af e=>B af (r.trans e)
 |kP D hm j hl hd B=>exact .kP D hm j hl hd fun af e=>B af (r.trans e)
 |kQ D hm hl hd B=>exact .kQ D hm hl hd fun af e=>B af (r.trans e)
 |send D hm k hl hd E v z M G V W B X=>exact .send D hm k hl hd E v z M G (fun b o I=>by rw[r.ry.ab b (G b (by rw[I];simp))];exact V b o I) W (fun af e=>B af (r.trans e)) X
 |recv hm J E z B=>exact .recv hm J E z (B.rely r)
 |ret D hm hl B=>exact .ret D hm hl fun af e=>B af (r.trans e)
 |quit hm hl B=>exact .quit hm hl (B.imp id fun⟨a,g',es,b,c,d⟩=>⟨a,g',es,b,c,O _ _ _ _ _ d ⟨⟨r.ry.same,r.ry.ab⟩,r.wg⟩⟩)
theorem Node.status(n:Node P p aK K main Γ g w):g.status= .running\/(g.status= .finished/\Γ.lo= .out/\Γ.deaf=0):=by
 cases n with
 |own hs=>exact .inl hs
 |sync hs=>exact .inl hs
 |wait hs=>exact .inl hs
 |kP hs=>exact .inl hs
 |kQ hs=>exact .inl hs
 |send hs=>exact .inl hs
 |recv _ _ _ _ h=>exact .inl h.hs
 |ret hs=>exact .inl hs
 |quit hm hl hn=>exact hn.elim (fun x=> .inr ⟨x.1,hl,x.2⟩) fun x=> .inl x.1
end
inductive cb:Type 1
 |node (α:Type) (f:α->cb):cb
inductive cb.Lt:cb->cb->Prop
 |mk (α:Type) (f:α->cb) (a:α):cb.Lt (f a) (.node α f)
theorem cb.acc:∀ r:cb,Acc cb.Lt r
 | .node α f=> .intro _ fun y h=>by cases h with |mk _ _ a=>exact cb.acc (f a)
theorem cb.wf:WellFounded cb.Lt:=⟨cb.acc⟩
inductive Drop:List cb->List cb->Prop
 |head {r r':cb} {l:List cb}:r'.Lt r->Drop (r'::l) (r::l)
 |tail {r:cb} {l l':List cb}:Drop l' l->Drop (r::l') (r::l)
theorem Drop.DN:∀ (r:cb),Acc cb.Lt r->∀ l,Acc Drop l->Acc Drop (r::l):=by
 intro r e
 induction e with
 |intro r _ k=>
  intro l hl
  induction hl with
  |intro l hl b=>
   refine .intro _ fun y v=>?_
   cases v with
   |head h=>exact k _ h l (.intro l hl)
   |tail h=>exact b _ h
theorem Drop.acc:∀ l,Acc Drop l
 | []=> .intro _ fun y b=>by cases b
 |r::l=>Drop.DN r r.acc l (Drop.acc l)
theorem Drop.wf:WellFounded Drop:=⟨Drop.acc⟩
def Fj(ρ:Nat->cb):Nat->List cb
 |0=> []
 |m+1=>ρ (m+1)::Fj ρ m
theorem sS{ρ aq:Nat->cb}:∀ {m:Nat},(∀ i,1<=i->i<=m->aq i=ρ i)->Fj aq m=Fj ρ m
 |0,_=>rfl
 |m+1,h=>by rw[Fj,Fj,h (m+1) (by omega) (Nat.le_refl _),sS fun i b e=>h i b (by omega)]
theorem wU{ρ:Nat->cb}{i:Nat}{r:cb}(k:1<=i)(b:r.Lt (ρ i)):∀ {m:Nat},i<=m->Drop (Fj (up ρ i r) m) (Fj ρ m)
 |0,h=>by omega
 |m+1,h=>by
  rw[Fj,Fj]
  by_cases e:i=m+1
  ·subst e
   rw[aG,sS fun j _ v=>aU ρ r (by omega)]
   exact .head b
  ·rw[aU ρ r (fun x=>e x.symm)]
   exact .tail (wU k b (by omega))
def rY(gs:Array Goroutine):Nat->Nat
 |0=>0
 |m+1=>rY gs m+if(gs[m]?).any (·.status== .running)then 1 else 0
theorem qW{gs gs':Array Goroutine}:∀ {m:Nat},(∀ i,i<m->gs'[i]? =gs[i]?)->rY gs' m=rY gs m
 |0,_=>rfl
 |m+1,h=>by rw[rY,rY,qW fun i b=>h i (by omega),h m (by omega)]
theorem zX{gs gs':Array Goroutine}{i:Nat}{g g':Goroutine}(B:gs[i]? =some g)(D:g.status= .running)(b:gs'[i]? =some g')(k:g'.status≠ .running):∀ {m:Nat},(∀ j,j<m->j≠i->gs'[j]? =gs[j]?)->i<m->rY gs' m<rY gs m
 |0,_,h=>by omega
 |m+1,v,h=>by
  rw[rY,rY]
  by_cases e:i=m
  ·subst e
   rw[qW fun j E=>v j (by omega) (by omega),B,b]
   simp[D,k]
  ·have :=zX B D b k (m:=m) (fun j I G=>v j (by omega) G) (by omega)
   rw[v m (by omega) (fun x=>e x.symm)]
   omega
section
variable (P:Program) (p:Pr) (aK:Value->World->Prop)
def ig:cb->Bv
 | .node α f=>fun main Γ g w=>Node P p aK (fun m b g' w'=>∃ a,ig (f a) m b g' w') main Γ g w
def cy:Bv:=fun main Γ g w=>∃ r,ig P p aK r main Γ g w
end
section
variable {P:Program} {p:Pr} {aK:Value->World->Prop} {main:Bool} {Γ:kq} {g:Goroutine} {w af:World}
def Below(P:Program)(p:Pr)(aK:Value->World->Prop)(r:cb):Bv:=fun m Γ g w=>∃ b,b.Lt r/\ig P p aK b m Γ g w
theorem ig.node{r:cb}(h:ig P p aK r main Γ g w):Node P p aK (Below P p aK r) main Γ g w:=by
 cases r with
 |node α f=>exact Node.mono (fun m Γ g w ⟨a,h⟩=>⟨f a, .mk α f a,h⟩) h
theorem ig.FY{r:cb}(h:Node P p aK (Below P p aK r) main Γ g w):ig P p aK r main Γ g w:=by
 cases r with
 |node α f=>exact Node.mono (fun m Γ g w ⟨b,hl,h⟩=>by cases hl with |mk _ _ a=>exact⟨a,h⟩) h
theorem ig.rely:∀ {r:cb} {main:Bool} {Γ:kq} {g:Goroutine} {w af:World},ig P p aK r main Γ g w->cM p Γ w af->ig P p aK r main Γ g af
 | .node α f,_,_,_,_,_,h,r=>Node.rely (fun m Γ g w af ⟨a,h⟩ r=>⟨a,ig.rely h r⟩) h r
theorem cy.intro(h:Node P p aK (cy P p aK) main Γ g w):cy P p aK main Γ g w:=by
 let α:Type:={q:Bool×kq×Goroutine×World//cy P p aK q.1 q.2.1 q.2.2.1 q.2.2.2}
 refine⟨.node α fun a=>Classical.choose a.2,Node.mono (fun m Γ g w h=>⟨⟨(m,Γ,g,w),h⟩,Classical.choose_spec h⟩) h⟩
theorem ig.quits:∀ {r:cb} {main:Bool} {Γ:kq} {g:Goroutine} {w:World},ig P p aK r main Γ g w->Γ.lo= .out->∃ q,QuitsD P q Γ.deaf g
 | .node α f,main,Γ,g,w,h,hl=>by
  have h':Node P p aK _ main Γ g w:=h
  cases h' with
  |own _ x=>exact absurd hl x
  |sync _ x=>exact absurd hl x
  |wait _ _ x=>rw[hl]at x;cases x
  |kP _ _ _ x=>rw[hl]at x;cases x
  |kQ _ _ x=>rw[hl]at x;cases x
  |send _ _ _ x=>rw[hl]at x;cases x
  |recv _ _ _ _ x=>have :=x.hl;rw[hl]at this;cases this
  |ret _ _ x=>rw[hl]at x;cases x
  |quit hm _ hn=>
   rcases hn with⟨a,b⟩|⟨a,g',es,b,c,⟨i,d⟩⟩
   ·exact⟨0,a,b⟩
   ·obtain⟨q,e⟩:=ig.quits d rfl
    exact⟨q+1, .inr ⟨a,g',es,b,c,e⟩⟩
theorem cy.jc{A B:aI}:∀ {q d:Nat} {g:Goroutine},QuitsD P q d g->cy P p aK false ⟨A,B,d, .out⟩ g w
 |0,d,g,h=>cy.intro (.quit rfl rfl (.inl h))
 |q+1,d,g,h=>cy.intro (.quit rfl rfl (h.imp id fun⟨a,g',es,b,c,k⟩=>⟨a,g',es,b,c,cy.jc k⟩))
end
def Lo.live:Lo->Nat
 | .wk _| .told=>1
 |_=>0
def cnt(lo:Nat->Lo):Nat->Nat
 |0=>0
 |m+1=>cnt lo m+(lo (m+1)).live
theorem oy{lo e:Nat->Lo}:∀ {m:Nat},(∀ i,1<=i->i<=m->e i=lo i)->cnt e m=cnt lo m
 |0,_=>rfl
 |m+1,h=>by rw[cnt,cnt,oy fun i a b=>h i a (by omega),h (m+1) (by omega) (Nat.le_refl _)]
theorem yx(lo:Nat->Lo){i:Nat}(x:Lo)(k:1<=i):∀ {m:Nat},i<=m->cnt (up lo i x) m+(lo i).live=cnt lo m+x.live
 |0,h=>by omega
 |m+1,h=>by
  rw[cnt,cnt]
  by_cases e:i=m+1
  ·subst e
   rw[aG,oy (lo:=lo) fun j a b=>aU lo x (by omega)]
   omega
  ·rw[aU lo x (fun y=>e y.symm)]
   have :=yx lo x k (m:=m) (by omega)
   omega
theorem pW(lo:Nat->Lo){i:Nat}(x:Lo){m:Nat}(h:m<i\/i=0):cnt (up lo i x) m=cnt lo m:=oy (lo:=lo) fun j a b=>aU lo x (by omega)
theorem uI{lo:Nat->Lo}{i:Nat}(b:1<=i)(hl:(lo i).live=1):∀ {m:Nat},i<=m->1<=cnt lo m
 |0,h=>by omega
 |m+1,h=>by
  rw[cnt]
  by_cases e:i=m+1
  ·subst e;omega
  ·have :=uI b hl (m:=m) (by omega)
   omega
theorem Lo.zY(l:Lo):l.live<=1:=by cases l<;>simp[Lo.live]
theorem DO(lo:Nat->Lo):∀ m,cnt lo m<=m
 |0=>Nat.le_refl _
 |m+1=>by rw[cnt];have :=DO lo m;have :=(lo (m+1)).zY;omega
theorem wV{lo:Nat->Lo}{m i:Nat}(h:cnt lo m=0)(b:1<=i)(e:i<=m):(lo i).live=0:=by
 rcases Nat.lt_or_ge (lo i).live 1 with h'|h'
 ·omega
 ·have :=uI (lo:=lo) b (by have :=(lo i).zY;omega) e
  omega
def Op(n:Nat)(lo:Nat->Lo):Prop:=∀ i,1<=i->i<=n->lo i= .wk (i-1)\/lo i= .told\/lo i= .out
def gw(n:Nat)(lo:Nat->Lo):Prop:=∀ i,1<=i->i<=n->lo i= .out
theorem gw.cnt{n:Nat}{lo:Nat->Lo}(h:gw n lo):cnt lo n=0:=by
 have :∀ m,m<=n->Co.cnt lo m=0:=by
  intro m
  induction m with
  |zero=>intro _;rfl
  |succ m ih=>intro hm;rw[Co.cnt,ih (by omega),h (m+1) (by omega) hm];rfl
 exact this n (Nat.le_refl _)
theorem Op.HN{n:Nat}{lo:Nat->Lo}(h:Op n lo)(v:cnt lo n=0):gw n lo:=by
 intro i b k
 have :=wV v b k
 rcases h i b k with e|e|e
 ·rw[e]at this;simp[Lo.live]at this
 ·rw[e]at this;simp[Lo.live]at this
 ·exact e
inductive Md (n:Nat) (lo:Nat->Lo) (s:pg):Prop
 |opn (B:Nat) (h:lo (n+1)= .cw B) (ho:Op n lo) (hB:cnt lo n<=B) (hs:s=⟨cnt lo n,0,0,false⟩)
 |pD (B:Nat) (h:lo (n+1)= .cc B) (ho:Op n lo) (hB:cnt lo n<=B) (hs:s=⟨cnt lo n,0,0,false⟩)
 |reg (h:lo (n+1)= .cr) (ho:Op n lo) (hB:1<=cnt lo n) (hs:s=⟨cnt lo n,1,0,false⟩)
 |last (h:lo (n+1)= .cr) (L:Nat) (h1:1<=L) (h2:L<=n) (hl:((lo L= .l1\/lo L= .l2)/\s=⟨0,1,0,false⟩)\/(lo L= .l3/\s=⟨0,0,0,false⟩)) (ho:∀ i,1<=i->i<=n->i≠L->lo i= .out)
 |sema (h:lo (n+1)= .cr) (ho:gw n lo) (hs:s=⟨0,0,1,false⟩)
 |done (h:lo (n+1)= .cs) (ho:gw n lo) (hs:s=⟨0,0,0,false⟩)
 |shut (h:lo (n+1)= .out) (ho:gw n lo) (hs:s=⟨0,0,0,true⟩)
def Kd(n:Nat)(lo:Nat->Lo):Prop:=∀ i,1<=i->i<=n->lo i= .wk (i-1)\/lo i= .told\/lo i= .l1\/lo i= .l2\/lo i= .l3\/lo i= .out
def kR(n:Nat)(lo:Nat->Lo)(s:pg):Prop:=(∃ J,lo 0= .recv J/\∀ k,k<n->(k∈J↔lo (k+1)≠ .wk k))\/(lo 0= .fin/\s.cl=true)
inductive cz (p:Pr) (N:Nat) (lo:Nat->Lo) (s:pg):Prop
 |spawn (j:Nat) (q:Bool) (hN:N=j+1) (h0:lo 0= .spawn j q) (hj:j+(if q then 1 else 0)<=p.n) (hw:∀ i,1<=i->i<=j->lo i= .wk (i-1)) (hs:s=⟨j+(if q then 1 else 0),0,0,false⟩)
 |late (hN:N=p.n+2) (hm:kR p.n lo s) (hw:Kd p.n lo) (md:Md p.n lo s)
theorem Md.Kx{n:Nat}{lo:Nat->Lo}{s:pg}(h:Md n lo s):Kd n lo:=by
 intro i b k
 cases h with
 |opn B h ho=>rcases ho i b k with e|e|e<;>simp[e]
 |pD B h ho=>rcases ho i b k with e|e|e<;>simp[e]
 |reg h ho=>rcases ho i b k with e|e|e<;>simp[e]
 |last h L _ _ hl ho=>
  by_cases e:i=L
  ·subst e;rcases hl with⟨hl|hl,_⟩|⟨hl,_⟩<;>simp[hl]
  ·simp[ho i b k e]
 |sema h ho=>simp[ho i b k]
 |done h ho=>simp[ho i b k]
 |shut h ho=>simp[ho i b k]
theorem eR{α:Type}(f:Nat->α)(i:Nat):up f i (f i)=f:=by
 funext j
 by_cases e:j=i
 ·subst e;rw[aG]
 ·rw[aU f _ e]
section
variable {p:Pr} {N:Nat} {lo:Nat->Lo} {s:pg}
theorem cz.main(h:cz p N lo s):(∃ j q,lo 0= .spawn j q)\/(∃ J,lo 0= .recv J)\/lo 0= .fin:=by
 cases h with
 |spawn j q _ h0=>exact .inl ⟨j,q,h0⟩
 |late _ hm=>
  rcases hm with⟨J,h,_⟩|⟨h,_⟩
  ·exact .inr (.inl ⟨J,h⟩)
  ·exact .inr (.inr h)
theorem cz.Ke(h:cz p N lo s){i:Nat}(b:i<N):i=0\/(1<=i/\i<=p.n/\(lo i= .wk (i-1)\/(N=p.n+2/\(lo i= .told\/lo i= .l1\/lo i= .l2\/lo i= .l3\/lo i= .out))))\/(i=p.n+1/\N=p.n+2/\Md p.n lo s):=by
 cases h with
 |spawn j q hN h0 hj hw=>
  rcases Nat.eq_zero_or_pos i with e|e
  ·exact .inl e
  ·refine .inr (.inl ⟨e,?_, .inl (hw i e (by omega))⟩)
   have :j<=p.n:=Nat.le_trans (Nat.le_add_right _ _) hj
   omega
 |late hN hm hw md=>
  rcases Nat.eq_zero_or_pos i with e|e
  ·exact .inl e
  ·rcases Nat.lt_or_ge p.n i with h|h
   ·exact .inr (.inr ⟨by omega,hN,md⟩)
   ·refine .inr (.inl ⟨e,h,?_⟩)
    rcases hw i e h with x|x
    ·exact .inl x
    ·exact .inr ⟨hN,x⟩
theorem Md.closer{n:Nat}(h:Md n lo s):(∃ B,lo (n+1)= .cw B)\/(∃ B,lo (n+1)= .cc B)\/lo (n+1)= .cr\/lo (n+1)= .cs\/lo (n+1)= .out:=by
 cases h with
 |opn B h=>exact .inl ⟨B,h⟩
 |pD B h=>exact .inr (.inl ⟨B,h⟩)
 |reg h=>simp[h]
 |last h=>simp[h]
 |sema h=>simp[h]
 |done h=>simp[h]
 |shut h=>simp[h]
theorem cz.HO(h:cz p N lo s){i:Nat}(X:i<N):uH p.n (lo i) s:=by
 cases h with
 |spawn j q hN h0 hj hw b=>
  rcases Nat.eq_zero_or_pos i with e|e
  ·subst e;rw[h0];exact b
  ·rw[hw i e (by omega)];trivial
 |late hN hm hw md=>
  have I:=DO lo p.n
  rcases Nat.eq_zero_or_pos i with e|e
  ·subst e
   rcases hm with⟨J,h,_⟩|⟨h,_⟩<;>rw[h]<;>trivial
  ·rcases Nat.lt_or_ge p.n i with W|hle
   ·obtain rfl:i=p.n+1:=by omega
    cases md with
    |opn B h ho hB b=>rw[h,b];exact⟨hB,rfl,rfl,rfl⟩
    |pD B h ho hB b=>rw[h,b];exact⟨hB,rfl,rfl,rfl⟩
    |reg h ho hB b=>rw[h,b];exact⟨rfl, .inl ⟨rfl,rfl⟩⟩
    |last h L _ _ hl=>
     rw[h];rcases hl with⟨_,b⟩|⟨_,b⟩<;>rw[b]
     ·exact⟨rfl, .inl ⟨rfl,rfl⟩⟩
     ·exact⟨rfl, .inr ⟨rfl,rfl,Nat.zero_le _⟩⟩
    |sema h ho b=>rw[h,b];exact⟨rfl, .inr ⟨rfl,rfl,Nat.le_refl _⟩⟩
    |done h ho b=>rw[h,b];rfl
    |shut h=>rw[h];trivial
   ·have v:∀ x,lo i=x->x≠ .out->(∀ k,x≠ .wk k)->x≠ .told->((x= .l1\/x= .l2)/\s=⟨0,1,0,false⟩)\/(x= .l3/\s=⟨0,0,0,false⟩):=by
     intro x D E O U
     cases md with
     |opn B h ho=>
      rcases ho i e hle with a|a|a<;>rw[D]at a
      ·exact absurd a (O _)
      ·exact absurd a U
      ·exact absurd a E
     |pD B h ho=>
      rcases ho i e hle with a|a|a<;>rw[D]at a
      ·exact absurd a (O _)
      ·exact absurd a U
      ·exact absurd a E
     |reg h ho=>
      rcases ho i e hle with a|a|a<;>rw[D]at a
      ·exact absurd a (O _)
      ·exact absurd a U
      ·exact absurd a E
     |last h L _ _ hl ho=>
      by_cases G:i=L
      ·subst G;rw[D]at hl;exact hl
      ·have :=ho i e hle G;rw[D]at this;exact absurd this E
     |sema h ho=>have :=ho i e hle;rw[D]at this;exact absurd this E
     |done h ho=>have :=ho i e hle;rw[D]at this;exact absurd this E
     |shut h ho=>have :=ho i e hle;rw[D]at this;exact absurd this E
    rcases hw i e hle with a|a|a|a|a|a
    ·rw[a];trivial
    ·rw[a]
     have V:1<=cnt lo p.n:=uI e (by rw[a];rfl) hle
     cases md with
     |opn B h ho hB b=>rw[b];exact⟨V,I,by simp,rfl,rfl⟩
     |pD B h ho hB b=>rw[b];exact⟨V,I,by simp,rfl,rfl⟩
     |reg h ho hB b=>rw[b];exact⟨V,I,by simp,rfl,rfl⟩
     |last h L _ _ hl ho=>
      by_cases G:i=L
      ·subst G;rcases hl with⟨x|x,_⟩|⟨x,_⟩<;>rw[a]at x<;>cases x
      ·have :=ho i e hle G;rw[a]at this;cases this
     |sema h ho=>have :=ho i e hle;rw[a]at this;cases this
     |done h ho=>have :=ho i e hle;rw[a]at this;cases this
     |shut h ho=>have :=ho i e hle;rw[a]at this;cases this
    ·rw[a];rcases v _ a (by simp) (by simp) (by simp)with⟨_,h⟩|⟨h,_⟩
     ·exact h
     ·cases h
    ·rw[a];rcases v _ a (by simp) (by simp) (by simp)with⟨_,h⟩|⟨h,_⟩
     ·exact h
     ·cases h
    ·rw[a];rcases v _ a (by simp) (by simp) (by simp)with⟨h|h,_⟩|⟨_,h⟩
     ·cases h
     ·cases h
     ·exact h
    ·rw[a];trivial
end
end Go.Proofs.YtifcaekngfgdmaaDoor.Nice.Co
