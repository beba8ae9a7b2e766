/- The quiet operations of the small machine: structs, boxes, make; calls by contract. -/
import Derived.Laws.IdiomStrings
import Derived.Laws.AppendOwn
import Derived.Test.YtojjlnbnneemaaaVg
open List(range replicate)
open Nat(le_refl)
set_option linter.all false
namespace Go.Ve
variable{D:Nat->Prop}{x:Operand}{P:Program}{d s t:TypeId}{v:V}{w:World}
def BH:V->Prop
 |.c _=>True
 |.dead=>True
 |.many t n f=>t≠.bx/\∀k,k<n->BH (f k)
 |.nd _ own sz n f=>own=true/\∀i k,i<n->k<sz->BH (f i k)
 |.mp own _=>own=true
 |_=>False
theorem Rel.ownOnly'{D':Nat->Prop}:∀(v:V) (R R':V->Value->Prop) (cv:Value) (fp:Nat->Prop),BH v->Rel D w R v cv fp->Rel D' w R' v cv fp:=by
 intro v
 induction v with
 |c v=>intro R R' cv fp _ h;exact h
 |dead=>intro R R' cv fp _ h;exact h
 |many t n f W=>
  intro R R' cv fp u h;obtain⟨cs,F,A,hn,Z,hd,hf⟩:=h;have O:KR D' w t cs cv:=by
   cases t with
   |ag=>trivial
   |tu=>trivial
   |cl g=>trivial
   |bx=>exact absurd rfl u.1
  exact⟨cs,F,O,hn,λk E=>W k _ _ _ _ (u.2 k E) (Z k E),hd,hf⟩
 |nd s own sz n f W=>
  intro R R' cv fp u h;rcases h with h|⟨b,o,cap,F,A,U,B,hs,Z,hi,ho'⟩
  .exact .inl h
  refine .inr ⟨b,o,cap,F,A,U,B,hs,λi k J E=>?_,(λh=>by rw[u.1]at h;grind),ho'⟩
  obtain⟨x,hx,Y⟩:=Z i k J E;exact⟨x,hx,W i k _ _ _ _ (u.2 i k J E) Y⟩
 |rs=>intro R R' cv fp u h;trivial
 |rp=>intro R R' cv fp u h;trivial
 |rm=>intro R R' cv fp u h;trivial
 |mp own l=>
  intro R R' cv fp u h;obtain⟨b,A,hm,h0,h1⟩:=h;exact⟨b,A,hm,(λe=>by rw[show own=true from u]at e;cases e),h1⟩
def FC(P:Program)(f:FuncId)(args:List V)(r:V):Prop:=
 ∀(w:World) (D:Nat->Prop) (cvs:Array Value),Wok w->(∀b,D b->b<w.heap.size)->cvs.size=args.length->
  (∀i,i<args.length->Rel D w noR (args.getD i .dead) (cvs.getD i undef) noF)->
  Calls P f cvs w λe w'=>∃cv fp D',e=.returned cv/\Below w.heap.size w w'/\Rel D' w' noR r cv fp/\(∀b,fp b->w.heap.size<=b)/\
   (∀b,D b->D' b)/\(∀b,D' b->D b\/w.heap.size<=b)/\∀b,D' b->b<w'.heap.size/\¬fp b
section ops
variable {P:Program}{o:Oper}{a:Act}{w:World}{σ:List V}{D:Nat->Prop}{ρ:Nat->Value}{F:Nat->Nat->Prop}{K:V->Prop}
def arI(P:Program)(t:TypeId):Nat:=match P.underlying t with
 |some (.array m e)=>match P.info? e,P.underlying e with
  |some i,some d=>if i.size=1/\IH d=false then m else 0
  |_,_=>0
 |_=>0
def Zn(h:0<arI P t):∃e i d,P.underlying t=some (.array (arI P t) e)/\P.info? e=some i/\i.size=1/\P.underlying e=some d/\IH d=false:=by
 generalize u:arI P t=m at h;unfold arI at u;split at u
 .rename_i J e B
  split at u
  .rename_i i d E hd
   split at u
   .rename_i A
    subst u;exact⟨e,i,d,B,E,A.1,hd,A.2⟩
   .omega
  .omega
 .omega
def Aas(P:Program)(t:TypeId):Option (List (Nat×Nat)×List Value):=
 match P.info? t,P.underlying t with
 |some it,some (.struct fields)=>
  match it.zero,fields.toList.mapM (λf=>(P.info? f.type).map λi=>(f.offset,i.size))with
  |some z,some places=>if z.cells.toList.all (·.oneCell')=true then some (places,z.cells.toList)else none
  |_,_=>none
 |some it,some (.array _ _)=>
  match it.zero with
  |some z=>if 0<arI P t/\z.cells.toList.all (·.oneCell')=true then some ((range (arI P t)).map λk=>(k,1),z.cells.toList)else none
  |none=>none
 |_,_=>none
def N7{B A:Nat->Option (Nat×Nat)}(h:∀i p,B i=some p->A i=some p):∀(u:List (Nat×Value)) (cells r:Array Value),Instr.fill B cells u=some r->Instr.fill A cells u=some r
 |[],_,_,hf=>hf
 |(i,v)::rest,cells,r,hf=>by
  unfold Instr.fill at hf⊢;cases E:B i with
  |none=>rw[E]at hf;cases hf
  |some p=>
   rw[E]at hf;rw[h i p E];simp only at hf⊢;split at hf
   .cases hf
   .rename_i J
    rw[if_neg J];exact N7 h rest _ _ hf
def Ws(_:Nat)(_ _:V)(_:V->Prop):Prop:=False
def LV(wr:Bu σ w D ρ F){u:V}{ix:Operand}(E:0<arI P t)(J:o.op=.index t x ix)(B:OpR σ w D ρ F v (a.eval x))(A:OpR σ w D ρ F u (a.eval ix))(h:Ws (arI P t) v u K):∃r,K r/\Av P o a w σ D ρ r:=False.elim h
def Ll{places:List (Nat×Nat)}{zero:List Value}(u:Aas P t=some (places,zero)):∃z:Value,z.cells.toList=zero/\(∀v∈zero,v.oneCell'=true)/\∀A cells,Instr.fill (λi=>places[i]?) z.cells A=some cells->P.built t A=some cells:=by
 unfold Aas at u;split at u
 .rename_i it W hit O
  split at u<;>try (cases u;done)
  rename_i z places' Y Z;split at u<;>try (cases u;done)
  rename_i B;simp only[Option.some.injEq,Prod.mk.injEq]at u;obtain⟨rfl,rfl⟩:=u;refine⟨z,rfl,aET.1 B,λA cells hf=>?_⟩
  unfold Program.built;simp only[hit,O,Y,Z];simpa using hf
 .rename_i it m e hit O
  split at u<;>try (cases u;done)
  rename_i z Y;split at u<;>try (cases u;done)
  rename_i B;simp only[Option.some.injEq,Prod.mk.injEq]at u;obtain⟨rfl,rfl⟩:=u;obtain⟨e',ie,_,E,hie,hs,_⟩:=Zn B.1;rw[O]at E;simp only[Option.some.injEq,TypeDesc.array.injEq]at E;obtain⟨_,rfl⟩:=E;refine⟨z,rfl,aET.1 B.2,λA cells hf=>?_⟩
  unfold Program.built;simp only[hit,O,Y,hie];refine N7 (λi p J=>?_) _ _ _ hf
  rw[List.getElem?_map]at J;cases U:(range (arI P t))[i]? with
  |none=>rw[U]at J;cases J
  |some j=>
   rw[U]at J;have hj:i=j:=by
    rw[List.getElem?_eq_some_iff]at U;obtain⟨h1,h2⟩:=U;rw[List.getElem_range]at h2;exact h2
   subst hj;simp only[Option.map_some,Option.some.injEq]at J;rw[<-J,hs,Nat.mul_one]
 .cases u
def KO(A:Option (List (Nat×Nat)×List Value))(u:List (Nat×V))(K:V->Prop):Prop:=
 match A with
 |some (places,zero)=>u.all (λp=>Bv p.2)=true/\match Cg (λi=>places[i]?) (zero.map .c) u with
  |some l=>K (Am l)
  |none=>False
 |none=>False
theorem NE(wr:Bu σ w D ρ F){ps:Array (Nat×Operand)}{W:List (Nat×V)}(ho:o.op=.build t ps)(hv:Lq σ w D ρ F W (ps.toList.map λp=>(p.1,a.eval p.2)))
  (h:KO (Aas P t) W K):∃r,K r/\Av P o a w σ D ρ r:=by
 unfold KO at h;split at h
 case h_2=>exact h.elim
 rename_i places zero U;obtain⟨hp,h⟩:=h;split at h
 case h_2=>exact h.elim
 rename_i l hl;obtain⟨z,rfl,O,u⟩:=Ll U
 have B:PC D w (Aq σ ρ w) (z.cells.toList.map .c) z.cells:=by
  refine⟨by simp,λj Z=>?_⟩
  simp at Z;simp[Z];exact⟨rfl,O _ (by simp),λ_ h=>h⟩
 obtain⟨J,E,A⟩:=Ip hl hp hv B;have Y:=run_build w t (ps.map λp=>(p.1,a.eval p.2)) J (u _ _ (by simpa using E))
 refine⟨_,h,Av.pure wr (v':=.agg J) ?_ ?_⟩
 .unfold execOp;simp_all
 .exact⟨J,λ_=>noF,rfl,A.1,λk hk=>A.2 k hk,λ_ _ _ _ _ _ h=>h.elim,λb=>⟨λh=>h.elim,fun⟨_,_,h⟩=>h⟩⟩
def NG(u:Option TyI)(K:V->Prop):Prop:=
 match u with
 |some ⟨_,size,zero⟩=>0<size/\K (Bp true (zero.map .c))
 |none=>False
theorem NF(wr:Bu σ w D ρ F)(ho:o.op=.alloc t)(h:NG (tyI P t) K):∃r,K r/\Av P o a w σ D ρ r:=by
 unfold NG at h;split at h
 case h_2=>exact h.elim
 rename_i ag size zero J;obtain⟨d,i,z,hd,W,Z,U,u,A,E,_⟩:=CX J;simp only at U u A E;obtain⟨Y,hK⟩:=h;refine⟨_,hK,Av.new (ob:=.cells z.cells t) (v':=.pointer (some ⟨w.heap.size,0,none⟩)) wr ?_ ⟨_,Rel.eqv _ _ _ _ (show Eqv (.nd false true size 1 λ_ k=>.c (zero.getD k undef)) (Bp true (zero.map .c))from ?_) (HF wr.Dlt (s:=false) (cap:=1) (by omega) (le_refl _) (by unfold maxLen;omega) (λ_=>rfl) λi k W hk=>?_),λb h=>h⟩⟩
 .unfold execOp;rw[ho];simp[Instr.alloc,zeroValue,typeInfo,W,Z,newVar,newRow]
 .have B:zero.length=size:=by rw[<-A,<-u];simp
  refine⟨λi k=>([zero.map V.c].getD i []).getD k .dead,by unfold Bp;rw[List.length_map,B],λi k W hk=>?_⟩
  obtain rfl:i=0:=by omega
  have O:k<zero.length:=by omega
  have e:([zero.map V.c].getD 0 []).getD k .dead=.c (zero.getD k undef):=by simp[O]
  show Eqv _ (([zero.map V.c].getD 0 []).getD k .dead);rw[e];exact Eqv.refl _
 .obtain rfl:i=0:=by omega
  have hk':k<z.cells.size:=by omega
  have e1:zero.getD k undef=z.cells.getD k undef:=by rw[<-u];simp
  simp only[Nat.zero_mul,Nat.zero_add];refine⟨e1.symm,E _ ?_,λ_ h=>h⟩
  grind
def boxL(l:List V):V:=.many .bx l.length λk=>l.getD k .dead
def qBox(v:V)(K:V->Prop):Prop:=Bv v=true/\(((cellsV v).all Cf=true/\K (Bp true (cellsV v)))\/K (boxL (cellsV v)))
theorem Ut(wr:Bu σ w D ρ F)(Y:o.op=.box t x)(W:OpR σ w D ρ F v (a.eval x))(h:qBox v K):∃r,K r/\Av P o a w σ D ρ r:=by
 obtain⟨hp,U⟩:=h;obtain⟨fp,hr,_⟩:=W;obtain⟨⟨Z,B⟩,_⟩:=Ch (λv cv h=>Aq.one h) hp hr
 rcases U with⟨O,U⟩|U
 rotate_left
 .refine⟨_,U,λnext Q hn=>?_⟩
  have J:(execOp a.eval o).run P w=.ok (.value (.pointer (some ⟨w.heap.size,0,none⟩))) (w.alloc (.cells (a.eval x).cells t)):=by
   unfold execOp;rw[Y];simp[Instr.box,newVar,newRow]
  unfold Oper.wp;rw[J];have u:∀b,b<w.heap.size->(w.alloc (.cells (a.eval x).cells t)).heap[b]? =w.heap[b]?:=λb A=>Below.heap_alloc _ _ _ A
  refine hn _ _ (λb=>D b\/b=w.heap.size) noF ((Below.refl _ _).alloc (le_refl _) _) ?_ (λ_ h=>h.elim) (λ_ h=>.inl h) (λb h=>h.imp id λh=>by omega) (λb h=>⟨?_,λh=>h⟩)
  .refine⟨(a.eval x).cells,λ_=>noF,⟨w.heap.size,0,rfl,λ_=>.inr rfl,λk E=>?_⟩,Z,λk E=>?_,λ_ _ _ _ _ _ h=>h.elim,λb=>⟨λh=>h.elim,fun⟨_,_,h⟩=>h⟩⟩
   .simp_all
   .exact Rel.mono (λb A=>.inl A) (λv cv W=>Aq.same wr (λi b A=>u b (wr.lt i b A)) v cv W) _ _ _ (λb A=>A.elim (λA=>u b (wr.Dlt b A)) λh=>h.elim) (B k E)
  .rcases h with h|h
   .have:=wr.Dlt b h;simp;omega
   .simp;omega
 refine⟨_,U,Av.new (ob:=.cells (a.eval x).cells t) (v':=.pointer (some ⟨w.heap.size,0,none⟩)) wr ?_ ⟨_,HF wr.Dlt (s:=false) (cap:=1) (by omega) (le_refl _) (by unfold maxLen;omega) (λ_=>rfl) λi k hi E=>?_,λb h=>h⟩⟩
 .unfold execOp;rw[Y];simp[Instr.box,newVar,newRow]
 .obtain rfl:i=0:=by omega
  simp only[Nat.zero_mul,Nat.zero_add];show Rel D w noR ((cellsV v).getD k .dead) _ noF;refine CM (aET.1 O _ ?_) (B k E);rw[gDE,gEE E];exact List.getElem_mem E
def WN(u:Bool)(sz n:Nat)(zero:List Value):V:=arr true sz (λx=>x) [] (replicate n (zero.map .c))
theorem UD{R:V->Value->Prop}(u:Bool)(sz n:Nat)(zero:List Value)(A:zero.length=sz){cv:Value}{fp:Nat->Prop}(h:Rel D w R (.nd true true sz n λ_ k=>.c (zero.getD k undef)) cv fp):Rel D w R (WN u sz n zero) cv fp:=by
 have gen:Rel D w R (arr true sz (λx=>x) [] (replicate n (zero.map .c))) cv fp:=by
  refine Rel.eqv _ _ _ _ ?_ h;refine⟨λi k=>((replicate n (zero.map V.c)).getD i []).getD k .dead,by simp[arr],λi k E B=>?_⟩
  have:((replicate n (zero.map V.c)).getD i []).getD k .dead=.c (zero.getD k undef):=by
   grind
  trivial
 trivial
def Wq(A:Option SlI)(u:Bool)(l c:V)(K:V->Prop):Prop:=
 match A,l,c with
 |some ⟨_,size,bytes,zero⟩,.c (.int _ l),.c (.int _ c)=>0<size/\(0<=l/\l<=c/\(bytes:Int)*c<=281474976710656/\c<=9223372036854775807)/\K (WN u size l.toNat zero)
 |_,_,_=>False
theorem O1(wr:Bu σ w D ρ F){vl vc:V}{l c:Operand}(ho:o.op=.makeSlice t l c)(hl:OpR σ w D ρ F vl (a.eval l))(hc:OpR σ w D ρ F vc (a.eval c)){u:Bool}(h:Wq (slI P t) u vl vc K):∃r,K r/\Av P o a w σ D ρ r:=by
 unfold Wq at h;split at h
 case h_2=>exact h.elim
 rename_i e size bytes zero kl li kc A hsi;obtain⟨hu,i0,z,Z,hz,J,Y,E,B,O⟩:=Dn hsi;simp only at hu Z J Y E B O;obtain⟨hpos,⟨h1,h2,h3,h4⟩,hK⟩:=h;obtain⟨_,hl,_⟩:=hl;obtain⟨_,hc,_⟩:=hc;have U:=run_make (P:=P) w t e i0 z hu Z hz kl kc li A h1 h2 (by rw[Y];exact h3) h4
 refine⟨_,hK,Av.new (ob:=.cells (madeCells z.cells (A.toNat*i0.size)) e) (v':=.slice (some ⟨w.heap.size,0,none⟩) li.toNat A.toNat) wr ?_ ⟨_,UD u size li.toNat zero (by rw[<-B,<-E];simp) (HF wr.Dlt (s:=true) (cap:=A.toNat) ?_ (by omega) (by unfold maxLen;omega) (λh=>by cases h) λi k hi hk=>?_),λb h=>h⟩⟩
 .have e1:a.eval l=.int kl li:=hl.1
  have e2:a.eval c=.int kc A:=hc.1;unfold execOp;rw[ho];simp[e1,e2,U]
 .rw[size_madeCells,J];exact le_refl _
 .have hlt:i*size+k<A.toNat*i0.size:=by
   rw[J];have:(i+1)*size<=A.toNat*size:=Nat.mul_le_mul_right _ (by omega)
   rw[Nat.add_mul]at this;omega
  have W:k<z.cells.size:=by omega
  have hm:(i*size+k) % z.cells.size=k:=by rw[B,Nat.mul_comm,Nat.mul_add_mod,Nat.mod_eq_of_lt hk]
  have e1:(madeCells z.cells (A.toNat*i0.size)).getD (i*size+k) undef=zero.getD k undef:=by
   unfold madeCells;simp only[Array.getD_eq_getD_getElem?,Array.getElem?_map,Array.getElem?_range,hlt,if_true,Option.map_some,Option.getD_some,hm];rw[<-E,getElem!_pos z.cells k W];simp[W]
  rw[e1];refine⟨rfl,O _ ?_,λ_ h=>h⟩
  grind
def KN(P:Program)(σ:List V)(s d:TypeId)(x:V)(K:V->Prop):Prop:=O5 P σ s d x K
def NB{σ:List V}{x:V}{K:V->Prop}(h:cvI P s d≠.other):KN P σ s d x K=O5 P σ s d x K:=rfl
def NA(wr:Bu σ w D ρ F)(A:o.op=.convert s d x)(u:OpR σ w D ρ F v (a.eval x))(h:KN P σ s d v K):∃r,K r/\Av P o a w σ D ρ r:=O4 wr A u h
def Ce(σ:List V):V->V
 |.rs id p off len=>match sub p (σ.getD id .dead)with
  |.nd _ _ sz _ f=>.nd true false sz len λi k=>frz (f (off+i) k)
  |_=>.dead
 |.rp id p i k=>match sub p (σ.getD id .dead)with
  |.nd _ _ sz _ f=>.nd false false (sz-k) 1 λi' j=>if i'=0 then frz (f i (k+j))else .dead
  |_=>.dead
 |.rm id p=>match sub p (σ.getD id .dead)with
  |.mp _ l=>.mp false l
  |_=>.dead
 |.many t n f=>if t=.bx then .nd false false n 1 λi k=>if i=0 then Ce σ (f k)else .dead else .many t n λk=>Ce σ (f k)
 |v=>frz v
def AU:V->Bool
 |.rs ..=>true
 |.rp ..=>true
 |.rm ..=>true
 |.mp own _=>own
 |.nd _ own _ _ _=>own
 |.many _ n f=>(range n).any λk=>AU (f k)
 |_=>false
theorem YW(wr:Bu σ w D ρ F):∀(v:V) (cv:Value) (fp:Nat->Prop),Rel D w (Aq σ ρ w) v cv fp->(AU v=true\/∀b,¬fp b)->
  Rel (λb=>D b\/(AU v=true/\(fp b\/∃i,F i b))) w noR (Ce σ v) cv noF:=by
 intro v
 induction v with
 |c v=>intro cv fp h _;exact⟨h.1,h.2.1,λ_ h=>h⟩
 |dead=>intro cv fp h _;exact λ_ h=>h
 |many t n f ih=>
  intro cv fp h E;obtain⟨cs,F',O,hn,hr,hd,hf⟩:=h
  have Y:∀k,k<n->Rel (λb=>D b\/(AU (.many t n f)=true/\(fp b\/∃i,F i b))) w noR (Ce σ (f k)) (cs.getD k undef) noF:=by
   intro k J
   have hla:AU (f k)=true->AU (.many t n f)=true:=λh=>by
    unfold AU;rw[List.any_eq_true];exact⟨k,List.mem_range.2 J,h⟩
   have hl':AU (f k)=true\/∀b,¬F' k b:=by
    cases hlk:AU (f k)with
    |true=>exact .inl rfl
    |false=>
     right;refine AF (f k) _ _ ?_ (hr k J);have:∀v:V,AU v=false->AN v=false:=by
      intro v
      induction v with
      |many t n f ih=>
       intro h;unfold AU at h;unfold AN;rw[List.any_eq_false]at h⊢;intro k J;simpa using ih k (by simpa using h k J)
      |nd s own sz n f _=>intro h;exact h
      |mp own l=>intro h;exact h
      |_=>intro _;rfl
     exact this _ hlk
   exact Rel.mono (λb B=>B.imp id fun⟨h1,h2⟩=>⟨hla h1,h2.imp (λh=>(hf b).2 ⟨k,J,h⟩) id⟩) (λ_ _ h=>h) _ _ _ (λ_ _=>rfl) (ih k _ _ (hr k J) hl')
  unfold Ce;split
  .rename_i ht
   subst ht;obtain⟨b,o,h1,h2,h3⟩:=O;refine .inr ⟨b,o,1,λ_ _=>noF,h1,le_refl _,by unfold maxLen;omega,λ_=>rfl,λi k hi J=>?_,λ_=>⟨λhp=>.inl (h2 (by omega)),λ_ _ _ _ _ h=>h,λ_ h=>h⟩,λh=>by cases h⟩
   obtain rfl:i=0:=by omega
   exact⟨cs.getD k undef,by simpa using h3 k (by omega),Y k J⟩
  .exact⟨cs,λ_=>noF,O.mono (λ_ h=>.inl h) (λ_ _=>rfl),hn,Y,λ_ _ _ _ _ _ h=>h.elim,λb=>⟨λh=>h.elim,fun⟨_,_,h⟩=>h⟩⟩
 |nd s own sz n f ih=>
  intro cv fp h E;have h1:=Rel.frz _ _ _ (show Rel D w noR (.nd s own sz n f) cv fp from h)
  refine Rel.mono (λb B=>B.imp id λh=>?_) (λ_ _ h=>h) _ _ _ (λ_ _=>rfl) h1
  rcases E with E|E
  .exact⟨E,.inl h⟩
  .exact absurd h (E b)
 |rs u p off len=>
  intro cv fp h _;obtain⟨⟨W,sz,n,f,cn,ha,hle,O⟩,_⟩:=h;obtain⟨Z,U,A,_⟩:=C9 (w':=w) p _ _ _ _ _ (wr.rel u W) (λb B h=>wr.dD u b h B) ha
  have hz:=Rel.frz _ _ _ U;unfold Ce;rw[<-At.sub ha];simp only[Go.Ve.frz]at hz;obtain⟨ad,cap,hcn,hcap,hmax,hc⟩:=N2 hz;have hD:∀b,(D b\/Z b)->D b\/(AU (.rs u p off len)=true/\(fp b\/∃i,F i b)):=λb B=>B.imp id λh=>⟨rfl,.inr ⟨u,A b h⟩⟩
  rcases O with⟨b,o',cap',rfl,rfl⟩|⟨rfl,ad',rfl,_⟩
  .simp only[AC,if_true,Value.slice.injEq]at hcn
   obtain⟨rfl,-,rfl⟩:=hcn;rcases hc with⟨_,hc0,a0,h,hn0⟩|⟨b2,o2,h,hc⟩
   .simp only[Value.slice.injEq]at h
    exact absurd rfl (hn0 _ h.1.symm)
   .simp only[Option.some.injEq,Addr.mk.injEq,and_true]at h
    obtain⟨rfl,rfl⟩:=h;refine .inr ⟨b,o'+off*sz,cap'-off,λ_ _=>noF,by simp[AC],by omega,by omega,(λh=>by cases h),λi k hi J=>?_,λ_=>⟨λhp=>?_,λ_ _ _ _ _ h=>h,λ_ h=>h⟩,λh=>by cases h⟩
    .obtain⟨_,y,hy,hry⟩:=hc (off+i) k (by omega) J
     exact⟨y,by rw[<-hy];congr 2;rw[Nat.add_mul];omega,Rel.mono hD (λ_ _ h=>h) _ _ _ (λ_ _=>rfl) hry⟩
    .have hp1:0<len:=Nat.pos_of_mul_pos_right hp
     have hp2:0<sz:=Nat.pos_of_mul_pos_left hp;exact hD b (hc off 0 (by omega) hp2).1
  .cases ad' with
   |none=>exact .inl ⟨rfl,rfl,.inl rfl,λ_ h=>h⟩
   |some ad'=>exact .inr ⟨ad'.1,ad'.2,0,λ_ _=>noF,rfl,le_refl _,Nat.zero_le _,(λh=>by cases h),λi k hi J=>by omega,λ_=>⟨λhp=>by simp at hp,λ_ _ _ _ _ h=>h,λ_ h=>h⟩,λh=>by cases h⟩
 |rp u p i k=>
  intro cv fp h _;obtain⟨⟨W,s,sz,n,f,b,o',cap,ha,hi,J,rfl⟩,_⟩:=h;obtain⟨Z,U,A,_⟩:=C9 (w':=w) p _ _ _ _ _ (wr.rel u W) (λb B h=>wr.dD u b h B) ha
  have hz:=Rel.frz _ _ _ U;unfold Ce;rw[<-At.sub ha];simp only[Go.Ve.frz]at hz;obtain⟨b2,o2,cap2,O,hcap,hc⟩:=JH hz (by omega)
  obtain⟨rfl,rfl,_⟩:=Aw O;have hD:∀b,(D b\/Z b)->D b\/(AU (.rp u p i k)=true/\(fp b\/∃i,F i b)):=λb B=>B.imp id λh=>⟨rfl,.inr ⟨u,A b h⟩⟩
  refine .inr ⟨b,o'+i*sz+k,1,λ_ _=>noF,by simp[AC],le_refl _,by unfold maxLen;omega,λ_=>rfl,λj l hj E=>?_,λ_=>⟨λ_=>hD b (hc i k hi J).1,λ_ _ _ _ _ h=>h,λ_ h=>h⟩,λh=>by cases h⟩
  obtain rfl:j=0:=by omega
  obtain⟨_,y,hy,hry⟩:=hc i (k+l) hi (by omega)
  exact⟨y,by simpa [Nat.add_assoc]using hy,Rel.mono hD (λ_ _ h=>h) _ _ _ (λ_ _=>rfl) hry⟩
 |rm u p=>
  intro cv fp h _;obtain⟨⟨W,l,b,ha,rfl⟩,_⟩:=h;obtain⟨Z,U,A,_⟩:=C9 (w':=w) p _ _ _ _ _ (wr.rel u W) (λb B h=>wr.dD u b h B) ha
  have hz:=Rel.frz _ _ _ U;unfold Ce;rw[<-At.sub ha];exact Rel.mono (λb B=>B.imp id λh=>⟨rfl,.inr ⟨u,A b h⟩⟩) (λ_ _ h=>h) _ _ _ (λ_ _=>rfl) hz
 |mp own l=>
  intro cv fp h E;have h1:=Rel.frz _ _ _ (show Rel D w noR (.mp own l) cv fp from h)
  refine Rel.mono (λb B=>B.imp id λh=>?_) (λ_ _ h=>h) _ _ _ (λ_ _=>rfl) h1
  rcases E with E|E
  .exact⟨E,.inl h⟩
  .exact absurd h (E b)
end ops
end Go.Ve

