/- The quiet operations of the small machine: structs, boxes, make; calls by contract. -/
import Derived.Laws.IdiomStrings
import Derived.Laws.AppendOwn
import Derived.Test.YteakdlfnmhlifaaVg
open List(range replicate)
open Nat(le_refl)
set_option linter.all false
namespace Go.Ve
variable{D:Nat->Prop}{x:Operand}{P:Program}{d s t:TypeId}{v:V}{w:World}
def BE:V->Prop
 |.c _=>True
 |.dead=>True
 |.many t n f=>t≠.bx/\∀k,k<n->BE (f k)
 |.nd _ own sz n f=>own=true/\∀i k,i<n->k<sz->BE (f i k)
 |.mp own _=>own=true
 |_=>False
theorem Rel.ownOnly'{D':Nat->Prop}:∀(v:V) (R R':V->Value->Prop) (cv:Value) (fp:Nat->Prop),BE v->Rel D w R v cv fp->Rel D' w R' v cv fp:=by
 intro v
 induction v with
 |c v=>intro R R' cv fp _ h;exact h
 |dead=>intro R R' cv fp _ h;exact h
 |many t n f U=>
  intro R R' cv fp u h;obtain⟨cs,F,A,hn,Y,hd,hf⟩:=h;have J:LJ D' w t cs cv:=by
   cases t with
   |ag=>trivial
   |tu=>trivial
   |cl g=>trivial
   |bx=>exact absurd rfl u.1
  exact⟨cs,F,J,hn,λk E=>U k _ _ _ _ (u.2 k E) (Y k E),hd,hf⟩
 |nd s own sz n f U=>
  intro R R' cv fp u h;rcases h with h|⟨b,o,cap,F,A,O,B,hs,Y,hi,Z⟩
  .exact .inl h
  refine .inr ⟨b,o,cap,F,A,O,B,hs,λi k H E=>?_,(λh=>by rw[u.1]at h;grind),Z⟩
  obtain⟨x,hx,W⟩:=Y i k H E;exact⟨x,hx,U i k _ _ _ _ (u.2 i k H E) W⟩
 |rs=>intro R R' cv fp u h;trivial
 |rp=>intro R R' cv fp u h;trivial
 |rm=>intro R R' cv fp u h;trivial
 |mp own l=>
  intro R R' cv fp u h;obtain⟨b,A,hm,h0,h1⟩:=h;exact⟨b,A,hm,(λe=>by rw[show own=true from u]at e;cases e),h1⟩
def FC(P:Program)(f:FuncId)(args:List V)(r:V):Prop:=
 ∀(w:World) (D:Nat->Prop) (cvs:Array Value),Wok w->(∀b,D b->b<w.heap.size)->cvs.size=args.length->
  (∀i,i<args.length->Rel D w noR (args.getD i .dead) (cvs.getD i undef) noF)->
  Calls P f cvs w λe w'=>∃cv fp D',e=.returned cv/\Below w.heap.size w w'/\Rel D' w' noR r cv fp/\(∀b,fp b->w.heap.size<=b)/\
   (∀b,D b->D' b)/\(∀b,D' b->D b\/w.heap.size<=b)/\∀b,D' b->b<w'.heap.size/\¬fp b
section ops
variable {P:Program}{o:Oper}{a:Act}{w:World}{σ:List V}{D:Nat->Prop}{ρ:Nat->Value}{F:Nat->Nat->Prop}{K:V->Prop}
def arI(P:Program)(t:TypeId):Nat:=match P.underlying t with
 |some (.array m e)=>match P.info? e,P.underlying e with
  |some i,some d=>if i.size=1/\Jd d=false then m else 0
  |_,_=>0
 |_=>0
def Vg(h:0<arI P t):∃e i d,P.underlying t=some (.array (arI P t) e)/\P.info? e=some i/\i.size=1/\P.underlying e=some d/\Jd d=false:=by
 generalize u:arI P t=m at h;unfold arI at u;split at u
 .rename_i E e B
  split at u
  .rename_i i d hi hd
   split at u
   .rename_i A
    subst u;exact⟨e,i,d,B,hi,A.1,hd,A.2⟩
   .omega
  .omega
 .omega
def AbT(P:Program)(t:TypeId):Option (List (Nat×Nat)×List Value):=
 match P.info? t,P.underlying t with
 |some it,some (.struct fields)=>
  match it.zero,fields.toList.mapM (λf=>(P.info? f.type).map λi=>(f.offset,i.size))with
  |some z,some places=>if z.cells.toList.all (·.oneCell')=true then some (places,z.cells.toList)else none
  |_,_=>none
 |some it,some (.array _ _)=>
  match it.zero with
  |some z=>if 0<arI P t/\z.cells.toList.all (·.oneCell')=true then some ((range (arI P t)).map λk=>(k,1),z.cells.toList)else none
  |none=>none
 |_,_=>none
def Pe{A u:Nat->Option (Nat×Nat)}(h:∀i p,A i=some p->u i=some p):∀(e:List (Nat×Value)) (cells r:Array Value),Instr.fill A cells e=some r->Instr.fill u cells e=some r
 |[],_,_,hf=>hf
 |(i,v)::rest,cells,r,hf=>by
  unfold Instr.fill at hf⊢;cases B:A i with
  |none=>rw[B]at hf;cases hf
  |some p=>
   rw[B]at hf;rw[h i p B];simp only at hf⊢;split at hf
   .cases hf
   .rename_i E
    rw[if_neg E];exact Pe h rest _ _ hf
def MU(m:Nat)(x e:V)(K:V->Prop):Prop:=
 match x,e with
 |.many .ag n f,.c (.int _ i)=>n=m/\(0<=i/\i<(m:Int))/\AK (f i.toNat)=false/\K (f i.toNat)
 |_,_=>False
theorem MT(wr:Bg σ w D ρ F){vi:V}{ix:Operand}(ht:0<arI P t)(ho:o.op=.index t x ix)(hv:OpR σ w D ρ F v (a.eval x))(H:OpR σ w D ρ F vi (a.eval ix))(h:MU (arI P t) v vi K):∃r,K r/\Ar P o a w σ D ρ r:=by
 obtain⟨e,ie,d,hu,W,hs,hd,Y⟩:=Vg ht;generalize arI P t=m at*;unfold MU at h;obtain⟨fp,U,_⟩:=hv;obtain⟨_,O,_⟩:=H;split at h<;>try (exact h.elim)
 rename_i n f k i;obtain⟨rfl,⟨h1,h2⟩,hto,hK⟩:=h;obtain⟨cs,F',A,hn,U,_,_⟩:=U;have A:a.eval x=.agg cs:=A;have h3:i.toNat<cs.size:=by omega
 have Z:=U i.toNat (by omega)
 have e1:=A4 (AC _ _ _ hto Z);rw[e1]at Z
 have B:cs[i.toNat]? =some (cs.getD i.toNat undef):=by
  rw[Array.getD_eq_getD_getElem?,getElem?_pos cs i.toNat h3];rfl
 refine⟨_,hK,Ar.pure wr ?_ Z⟩
 have E:∀w,(isAgg e).run P w=.ok false w:=λw=>by
  unfold isAgg;simp only[Sem.run_bind,run_underlying hd];cases d<;>first|rfl|cases Y
 have J:∀w,(sizeOf e).run P w=.ok ie.size w:=λw=>by
  simp[sizeOf,typeInfo,W]
 have u:∀w,(part e cs i.toNat).run P w=.ok (cs.getD i.toNat undef) w:=λw=>by
  simp only[part,Sem.run_bind,E,B];rfl
 unfold execOp;rw[ho];simp only[Instr.index];simp[run_underlying hu,A,O.1,asIntOf,h1,h2,J,hs,u]
def Mm{places:List (Nat×Nat)}{zero:List Value}(u:AbT P t=some (places,zero)):∃z:Value,z.cells.toList=zero/\(∀v∈zero,v.oneCell'=true)/\∀A cells,Instr.fill (λi=>places[i]?) z.cells A=some cells->P.built t A=some cells:=by
 unfold AbT at u;split at u
 .rename_i it O hit J
  split at u<;>try (cases u;done)
  rename_i z places' U W;split at u<;>try (cases u;done)
  rename_i B;simp only[Option.some.injEq,Prod.mk.injEq]at u;obtain⟨rfl,rfl⟩:=u;refine⟨z,rfl,aET.1 B,λA cells Z=>?_⟩
  unfold Program.built;simp only[hit,J,U,W];simpa using Z
 .rename_i it m e hit J
  split at u<;>try (cases u;done)
  rename_i z U;split at u<;>try (cases u;done)
  rename_i B;simp only[Option.some.injEq,Prod.mk.injEq]at u;obtain⟨rfl,rfl⟩:=u;obtain⟨e',ie,_,E,Y,hs,_⟩:=Vg B.1;rw[J]at E;simp only[Option.some.injEq,TypeDesc.array.injEq]at E;obtain⟨_,rfl⟩:=E;refine⟨z,rfl,aET.1 B.2,λA cells Z=>?_⟩
  unfold Program.built;simp only[hit,J,U,Y];refine Pe (λi p H=>?_) _ _ _ Z
  rw[List.getElem?_map]at H;cases hi:(range (arI P t))[i]? with
  |none=>rw[hi]at H;cases H
  |some j=>
   rw[hi]at H;have hj:i=j:=by
    rw[List.getElem?_eq_some_iff]at hi;obtain⟨h1,h2⟩:=hi;rw[List.getElem_range]at h2;exact h2
   subst hj;simp only[Option.map_some,Option.some.injEq]at H;rw[<-H,hs,Nat.mul_one]
 .cases u
def LC(u:Option (List (Nat×Nat)×List Value))(e:List (Nat×V))(K:V->Prop):Prop:=
 match u with
 |some (places,zero)=>e.all (λp=>Bv p.2)=true/\match Cb (λi=>places[i]?) (zero.map .c) e with
  |some l=>K (Ag l)
  |none=>False
 |none=>False
theorem OE(wr:Bg σ w D ρ F){ps:Array (Nat×Operand)}{O:List (Nat×V)}(ho:o.op=.build t ps)(W:Mr σ w D ρ F O (ps.toList.map λp=>(p.1,a.eval p.2)))
  (h:LC (AbT P t) O K):∃r,K r/\Ar P o a w σ D ρ r:=by
 unfold LC at h;split at h
 case h_2=>exact h.elim
 rename_i places zero J;obtain⟨Y,h⟩:=h;split at h
 case h_2=>exact h.elim
 rename_i l Z;obtain⟨z,rfl,H,e⟩:=Mm J
 have A:QR D w (Ai σ ρ w) (z.cells.toList.map .c) z.cells:=by
  refine⟨by simp,λj hj=>?_⟩
  simp at hj;simp[hj];exact⟨rfl,H _ (by simp),λ_ h=>h⟩
 obtain⟨E,B,u⟩:=IP Z Y W A;have U:=run_build w t (ps.map λp=>(p.1,a.eval p.2)) E (e _ _ (by simpa using B))
 refine⟨_,h,Ar.pure wr (v':=.agg E) ?_ ?_⟩
 .unfold execOp;simp_all
 .exact⟨E,λ_=>noF,rfl,u.1,λk hk=>u.2 k hk,λ_ _ _ _ _ _ h=>h.elim,λb=>⟨λh=>h.elim,fun⟨_,_,h⟩=>h⟩⟩
def OG(e:Option TyI)(K:V->Prop):Prop:=
 match e with
 |some ⟨_,size,zero⟩=>0<size/\K (A8 true (zero.map .c))
 |none=>False
theorem OF(wr:Bg σ w D ρ F)(Y:o.op=.alloc t)(h:OG (tyI P t) K):∃r,K r/\Ar P o a w σ D ρ r:=by
 unfold OG at h;split at h
 case h_2=>exact h.elim
 rename_i ag size zero H;obtain⟨d,i,z,hd,hi,W,O,u,A,E,_⟩:=CZ H;simp only at O u A E;obtain⟨U,hK⟩:=h;refine⟨_,hK,Ar.new (ob:=.cells z.cells t) (v':=.pointer (some ⟨w.heap.size,0,none⟩)) wr ?_ ⟨_,Rel.eqv _ _ _ _ (show Eqv (.nd false true size 1 λ_ k=>.c (zero.getD k undef)) (A8 true (zero.map .c))from ?_) (H3 wr.Dlt (s:=false) (cap:=1) (by omega) (le_refl _) (by unfold maxLen;omega) (λ_=>rfl) λi k hi hk=>?_),λb h=>h⟩⟩
 .unfold execOp;rw[Y];simp[Instr.alloc,zeroValue,typeInfo,hi,W,newVar,newRow]
 .have B:zero.length=size:=by rw[<-A,<-u];simp
  refine⟨λi k=>([zero.map V.c].getD i []).getD k .dead,by unfold A8;rw[List.length_map,B],λi k hi hk=>?_⟩
  obtain rfl:i=0:=by omega
  have J:k<zero.length:=by omega
  have e:([zero.map V.c].getD 0 []).getD k .dead=.c (zero.getD k undef):=by simp[J]
  show Eqv _ (([zero.map V.c].getD 0 []).getD k .dead);rw[e];exact Eqv.refl _
 .obtain rfl:i=0:=by omega
  have Z:k<z.cells.size:=by omega
  have e1:zero.getD k undef=z.cells.getD k undef:=by rw[<-u];simp
  simp only[Nat.zero_mul,Nat.zero_add];refine⟨e1.symm,E _ ?_,λ_ h=>h⟩
  grind
def boxL(l:List V):V:=.many .bx l.length λk=>l.getD k .dead
def qBox(v:V)(K:V->Prop):Prop:=Bv v=true/\(((cellsV v).all B9=true/\K (A8 true (cellsV v)))\/K (boxL (cellsV v)))
theorem VT(wr:Bg σ w D ρ F)(U:o.op=.box t x)(O:OpR σ w D ρ F v (a.eval x))(h:qBox v K):∃r,K r/\Ar P o a w σ D ρ r:=by
 obtain⟨Z,J⟩:=h;obtain⟨fp,Y,_⟩:=O;obtain⟨⟨W,A⟩,_⟩:=Cc (λv cv h=>Ai.one h) Z Y
 rcases J with⟨H,J⟩|J
 rotate_left
 .refine⟨_,J,λnext Q hn=>?_⟩
  have E:(execOp a.eval o).run P w=.ok (.value (.pointer (some ⟨w.heap.size,0,none⟩))) (w.alloc (.cells (a.eval x).cells t)):=by
   unfold execOp;rw[U];simp[Instr.box,newVar,newRow]
  unfold Oper.wp;rw[E];have e:∀b,b<w.heap.size->(w.alloc (.cells (a.eval x).cells t)).heap[b]? =w.heap[b]?:=λb u=>Below.heap_alloc _ _ _ u
  refine hn _ _ (λb=>D b\/b=w.heap.size) noF ((Below.refl _ _).alloc (le_refl _) _) ?_ (λ_ h=>h.elim) (λ_ h=>.inl h) (λb h=>h.imp id λh=>by omega) (λb h=>⟨?_,λh=>h⟩)
  .refine⟨(a.eval x).cells,λ_=>noF,⟨w.heap.size,0,rfl,λ_=>.inr rfl,λk B=>?_⟩,W,λk B=>?_,λ_ _ _ _ _ _ h=>h.elim,λb=>⟨λh=>h.elim,fun⟨_,_,h⟩=>h⟩⟩
   .simp_all
   .exact Rel.mono (λb u=>.inl u) (λv cv O=>Ai.same wr (λi b u=>e b (wr.lt i b u)) v cv O) _ _ _ (λb u=>u.elim (λu=>e b (wr.Dlt b u)) λh=>h.elim) (A k B)
  .rcases h with h|h
   .have:=wr.Dlt b h;simp;omega
   .simp;omega
 refine⟨_,J,Ar.new (ob:=.cells (a.eval x).cells t) (v':=.pointer (some ⟨w.heap.size,0,none⟩)) wr ?_ ⟨_,H3 wr.Dlt (s:=false) (cap:=1) (by omega) (le_refl _) (by unfold maxLen;omega) (λ_=>rfl) λi k hi B=>?_,λb h=>h⟩⟩
 .unfold execOp;rw[U];simp[Instr.box,newVar,newRow]
 .obtain rfl:i=0:=by omega
  simp only[Nat.zero_mul,Nat.zero_add];show Rel D w noR ((cellsV v).getD k .dead) _ noF;refine CO (aET.1 H _ ?_) (A k B);rw[gDE,gEE B];exact List.getElem_mem B
def Yk(e:Bool)(sz n:Nat)(zero:List Value):V:=arr true sz (λx=>x) [] (replicate n (zero.map .c))
theorem V7{R:V->Value->Prop}(e:Bool)(sz n:Nat)(zero:List Value)(u:zero.length=sz){cv:Value}{fp:Nat->Prop}(h:Rel D w R (.nd true true sz n λ_ k=>.c (zero.getD k undef)) cv fp):Rel D w R (Yk e sz n zero) cv fp:=by
 have gen:Rel D w R (arr true sz (λx=>x) [] (replicate n (zero.map .c))) cv fp:=by
  refine Rel.eqv _ _ _ _ ?_ h;refine⟨λi k=>((replicate n (zero.map V.c)).getD i []).getD k .dead,by simp[arr],λi k hi A=>?_⟩
  have:((replicate n (zero.map V.c)).getD i []).getD k .dead=.c (zero.getD k undef):=by
   grind
  trivial
 trivial
def XY(u:Option SlI)(e:Bool)(l c:V)(K:V->Prop):Prop:=
 match u,l,c with
 |some ⟨_,size,bytes,zero⟩,.c (.int _ l),.c (.int _ c)=>0<size/\(0<=l/\l<=c/\(bytes:Int)*c<=281474976710656/\c<=9223372036854775807)/\K (Yk e size l.toNat zero)
 |_,_,_=>False
theorem Qc(wr:Bg σ w D ρ F){vl vc:V}{l c:Operand}(ho:o.op=.makeSlice t l c)(hl:OpR σ w D ρ F vl (a.eval l))(hc:OpR σ w D ρ F vc (a.eval c)){u:Bool}(h:XY (slI P t) u vl vc K):∃r,K r/\Ar P o a w σ D ρ r:=by
 unfold XY at h;split at h
 case h_2=>exact h.elim
 rename_i e size bytes zero kl Z kc A hsi;obtain⟨hu,i0,z,Y,hz,H,W,E,B,J⟩:=Hj hsi;simp only at hu Y H W E B J;obtain⟨hpos,⟨h1,h2,h3,h4⟩,hK⟩:=h;obtain⟨_,hl,_⟩:=hl;obtain⟨_,hc,_⟩:=hc;have O:=run_make (P:=P) w t e i0 z hu Y hz kl kc Z A h1 h2 (by rw[W];exact h3) h4
 refine⟨_,hK,Ar.new (ob:=.cells (madeCells z.cells (A.toNat*i0.size)) e) (v':=.slice (some ⟨w.heap.size,0,none⟩) Z.toNat A.toNat) wr ?_ ⟨_,V7 u size Z.toNat zero (by rw[<-B,<-E];simp) (H3 wr.Dlt (s:=true) (cap:=A.toNat) ?_ (by omega) (by unfold maxLen;omega) (λh=>by cases h) λi k hi hk=>?_),λb h=>h⟩⟩
 .have e1:a.eval l=.int kl Z:=hl.1
  have e2:a.eval c=.int kc A:=hc.1;unfold execOp;rw[ho];simp[e1,e2,O]
 .rw[size_madeCells,H];exact le_refl _
 .have hlt:i*size+k<A.toNat*i0.size:=by
   rw[H];have:(i+1)*size<=A.toNat*size:=Nat.mul_le_mul_right _ (by omega)
   rw[Nat.add_mul]at this;omega
  have U:k<z.cells.size:=by omega
  have hm:(i*size+k) % z.cells.size=k:=by rw[B,Nat.mul_comm,Nat.mul_add_mod,Nat.mod_eq_of_lt hk]
  have e1:(madeCells z.cells (A.toNat*i0.size)).getD (i*size+k) undef=zero.getD k undef:=by
   unfold madeCells;simp only[Array.getD_eq_getD_getElem?,Array.getElem?_map,Array.getElem?_range,hlt,if_true,Option.map_some,Option.getD_some,hm];rw[<-E,getElem!_pos z.cells k U];simp[U]
  rw[e1];refine⟨rfl,J _ ?_,λ_ h=>h⟩
  grind
def Oz(P:Program)(σ:List V)(s d:TypeId)(x:V)(K:V->Prop):Prop:=VS P σ s d x K
def X0{σ:List V}{x:V}{K:V->Prop}(h:cvI P s d≠.other):Oz P σ s d x K=VS P σ s d x K:=rfl
def Oy(wr:Bg σ w D ρ F)(u:o.op=.convert s d x)(e:OpR σ w D ρ F v (a.eval x))(h:Oz P σ s d v K):∃r,K r/\Ar P o a w σ D ρ r:=Qf wr u e h
def BQ(σ:List V):V->V
 |.rs id p off len=>match sub p (σ.getD id .dead)with
  |.nd _ _ sz _ f=>.nd true false sz len λi k=>frz (f (off+i) k)
  |_=>.dead
 |.rp id p i k=>match sub p (σ.getD id .dead)with
  |.nd _ _ sz _ f=>.nd false false (sz-k) 1 λi' j=>if i'=0 then frz (f i (k+j))else .dead
  |_=>.dead
 |.rm id p=>match sub p (σ.getD id .dead)with
  |.mp _ l=>.mp false l
  |_=>.dead
 |.many t n f=>if t=.bx then .nd false false n 1 λi k=>if i=0 then BQ σ (f k)else .dead else .many t n λk=>BQ σ (f k)
 |v=>frz v
def AL:V->Bool
 |.rs ..=>true
 |.rp ..=>true
 |.rm ..=>true
 |.mp own _=>own
 |.nd _ own _ _ _=>own
 |.many _ n f=>(range n).any λk=>AL (f k)
 |_=>false
theorem Aar(wr:Bg σ w D ρ F):∀(v:V) (cv:Value) (fp:Nat->Prop),Rel D w (Ai σ ρ w) v cv fp->(AL v=true\/∀b,¬fp b)->
  Rel (λb=>D b\/(AL v=true/\(fp b\/∃i,F i b))) w noR (BQ σ v) cv noF:=by
 intro v
 induction v with
 |c v=>intro cv fp h _;exact⟨h.1,h.2.1,λ_ h=>h⟩
 |dead=>intro cv fp h _;exact λ_ h=>h
 |many t n f ih=>
  intro cv fp h B;obtain⟨cs,F',H,hn,hr,hd,hf⟩:=h
  have U:∀k,k<n->Rel (λb=>D b\/(AL (.many t n f)=true/\(fp b\/∃i,F i b))) w noR (BQ σ (f k)) (cs.getD k undef) noF:=by
   intro k E
   have hla:AL (f k)=true->AL (.many t n f)=true:=λh=>by
    unfold AL;rw[List.any_eq_true];exact⟨k,List.mem_range.2 E,h⟩
   have hl':AL (f k)=true\/∀b,¬F' k b:=by
    cases hlk:AL (f k)with
    |true=>exact .inl rfl
    |false=>
     right;refine AC (f k) _ _ ?_ (hr k E);have:∀v:V,AL v=false->AK v=false:=by
      intro v
      induction v with
      |many t n f ih=>
       intro h;unfold AL at h;unfold AK;rw[List.any_eq_false]at h⊢;intro k E;simpa using ih k (by simpa using h k E)
      |nd s own sz n f _=>intro h;exact h
      |mp own l=>intro h;exact h
      |_=>intro _;rfl
     exact this _ hlk
   exact Rel.mono (λb A=>A.imp id fun⟨h1,h2⟩=>⟨hla h1,h2.imp (λh=>(hf b).2 ⟨k,E,h⟩) id⟩) (λ_ _ h=>h) _ _ _ (λ_ _=>rfl) (ih k _ _ (hr k E) hl')
  unfold BQ;split
  .rename_i ht
   subst ht;obtain⟨b,o,h1,h2,h3⟩:=H;refine .inr ⟨b,o,1,λ_ _=>noF,h1,le_refl _,by unfold maxLen;omega,λ_=>rfl,λi k hi E=>?_,λ_=>⟨λhp=>.inl (h2 (by omega)),λ_ _ _ _ _ h=>h,λ_ h=>h⟩,λh=>by cases h⟩
   obtain rfl:i=0:=by omega
   exact⟨cs.getD k undef,by simpa using h3 k (by omega),U k E⟩
  .exact⟨cs,λ_=>noF,H.mono (λ_ h=>.inl h) (λ_ _=>rfl),hn,U,λ_ _ _ _ _ _ h=>h.elim,λb=>⟨λh=>h.elim,fun⟨_,_,h⟩=>h⟩⟩
 |nd s own sz n f ih=>
  intro cv fp h B;have h1:=Rel.frz _ _ _ (show Rel D w noR (.nd s own sz n f) cv fp from h)
  refine Rel.mono (λb A=>A.imp id λh=>?_) (λ_ _ h=>h) _ _ _ (λ_ _=>rfl) h1
  rcases B with B|B
  .exact⟨B,.inl h⟩
  .exact absurd h (B b)
 |rs e p off len=>
  intro cv fp h _;obtain⟨⟨O,sz,n,f,cn,Z,hle,H⟩,_⟩:=h;obtain⟨W,J,u,_⟩:=Dg (w':=w) p _ _ _ _ _ (wr.rel e O) (λb A h=>wr.dD e b h A) Z
  have hz:=Rel.frz _ _ _ J;unfold BQ;rw[<-At.sub Z];simp only[Go.Ve.frz]at hz;obtain⟨ad,cap,hcn,hcap,hmax,hc⟩:=O8 hz;have hD:∀b,(D b\/W b)->D b\/(AL (.rs e p off len)=true/\(fp b\/∃i,F i b)):=λb A=>A.imp id λh=>⟨rfl,.inr ⟨e,u b h⟩⟩
  rcases H with⟨b,o',cap',rfl,rfl⟩|⟨rfl,Y,rfl,_⟩
  .simp only[Ay,if_true,Value.slice.injEq]at hcn
   obtain⟨rfl,-,rfl⟩:=hcn;rcases hc with⟨_,hc0,a0,h,hn0⟩|⟨b2,o2,h,hc⟩
   .simp only[Value.slice.injEq]at h
    exact absurd rfl (hn0 _ h.1.symm)
   .simp only[Option.some.injEq,Addr.mk.injEq,and_true]at h
    obtain⟨rfl,rfl⟩:=h;refine .inr ⟨b,o'+off*sz,cap'-off,λ_ _=>noF,by simp[Ay],by omega,by omega,(λh=>by cases h),λi k hi E=>?_,λ_=>⟨λhp=>?_,λ_ _ _ _ _ h=>h,λ_ h=>h⟩,λh=>by cases h⟩
    .obtain⟨_,y,hy,hry⟩:=hc (off+i) k (by omega) E
     exact⟨y,by rw[<-hy];congr 2;rw[Nat.add_mul];omega,Rel.mono hD (λ_ _ h=>h) _ _ _ (λ_ _=>rfl) hry⟩
    .have hp1:0<len:=Nat.pos_of_mul_pos_right hp
     have hp2:0<sz:=Nat.pos_of_mul_pos_left hp;exact hD b (hc off 0 (by omega) hp2).1
  .cases Y with
   |none=>exact .inl ⟨rfl,rfl,.inl rfl,λ_ h=>h⟩
   |some Y=>exact .inr ⟨Y.1,Y.2,0,λ_ _=>noF,rfl,le_refl _,Nat.zero_le _,(λh=>by cases h),λi k hi E=>by omega,λ_=>⟨λhp=>by simp at hp,λ_ _ _ _ _ h=>h,λ_ h=>h⟩,λh=>by cases h⟩
 |rp e p i k=>
  intro cv fp h _;obtain⟨⟨O,s,sz,n,f,b,o',cap,Z,hi,E,rfl⟩,_⟩:=h;obtain⟨W,J,u,_⟩:=Dg (w':=w) p _ _ _ _ _ (wr.rel e O) (λb A h=>wr.dD e b h A) Z
  have hz:=Rel.frz _ _ _ J;unfold BQ;rw[<-At.sub Z];simp only[Go.Ve.frz]at hz;obtain⟨b2,o2,cap2,H,hcap,hc⟩:=Kr hz (by omega)
  obtain⟨rfl,rfl,_⟩:=As H;have hD:∀b,(D b\/W b)->D b\/(AL (.rp e p i k)=true/\(fp b\/∃i,F i b)):=λb A=>A.imp id λh=>⟨rfl,.inr ⟨e,u b h⟩⟩
  refine .inr ⟨b,o'+i*sz+k,1,λ_ _=>noF,by simp[Ay],le_refl _,by unfold maxLen;omega,λ_=>rfl,λj l hj B=>?_,λ_=>⟨λ_=>hD b (hc i k hi E).1,λ_ _ _ _ _ h=>h,λ_ h=>h⟩,λh=>by cases h⟩
  obtain rfl:j=0:=by omega
  obtain⟨_,y,hy,hry⟩:=hc i (k+l) hi (by omega)
  exact⟨y,by simpa [Nat.add_assoc]using hy,Rel.mono hD (λ_ _ h=>h) _ _ _ (λ_ _=>rfl) hry⟩
 |rm e p=>
  intro cv fp h _;obtain⟨⟨O,l,b,Z,rfl⟩,_⟩:=h;obtain⟨W,J,u,_⟩:=Dg (w':=w) p _ _ _ _ _ (wr.rel e O) (λb A h=>wr.dD e b h A) Z
  have hz:=Rel.frz _ _ _ J;unfold BQ;rw[<-At.sub Z];exact Rel.mono (λb A=>A.imp id λh=>⟨rfl,.inr ⟨e,u b h⟩⟩) (λ_ _ h=>h) _ _ _ (λ_ _=>rfl) hz
 |mp own l=>
  intro cv fp h B;have h1:=Rel.frz _ _ _ (show Rel D w noR (.mp own l) cv fp from h)
  refine Rel.mono (λb A=>A.imp id λh=>?_) (λ_ _ h=>h) _ _ _ (λ_ _=>rfl) h1
  rcases B with B|B
  .exact⟨B,.inl h⟩
  .exact absurd h (B b)
end ops
end Go.Ve

