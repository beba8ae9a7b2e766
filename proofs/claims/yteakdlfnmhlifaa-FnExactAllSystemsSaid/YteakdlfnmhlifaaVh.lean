/- The quiet operations of the small machine: structs, boxes, make; calls by contract. -/
import Derived.Laws.IdiomStrings
import Derived.Laws.AppendOwn
import Derived.Test.YteakdlfnmhlifaaVg
open List(range replicate)
open Nat(le_refl)
set_option linter.all false
namespace Go.Ve
variable{D:Nat->Prop}{x:Operand}{P:Program}{d s t:TypeId}{v:V}{w:World}
def Bw:V->Prop
 |.c _=>True
 |.dead=>True
 |.many t n f=>t≠.bx/\∀k,k<n->Bw (f k)
 |.nd _ own sz n f=>own=true/\∀i k,i<n->k<sz->Bw (f i k)
 |.mp own _=>own=true
 |_=>False
theorem Rel.ownOnly'{D':Nat->Prop}:∀(v:V) (R R':V->Value->Prop) (cv:Value) (fp:Nat->Prop),Bw v->Rel D w R v cv fp->Rel D' w R' v cv fp:=by
 intro v
 induction v with
 |c v=>intro R R' cv fp _ h;exact h
 |dead=>intro R R' cv fp _ h;exact h
 |many t n f ih=>
  intro R R' cv fp A h;obtain⟨cs,F,B,hn,hr,hd,hf⟩:=h;have Y:Ly D' w t cs cv:=by
   cases t with
   |ag=>trivial
   |tu=>trivial
   |cl g=>trivial
   |bx=>exact absurd rfl A.1
  exact⟨cs,F,Y,hn,λk U=>ih k _ _ _ _ (A.2 k U) (hr k U),hd,hf⟩
 |nd s own sz n f ih=>
  intro R R' cv fp A h;rcases h with h|⟨b,o,cap,F,B,Z,H,hs,hr,hi,ho'⟩
  .exact .inl h
  refine .inr ⟨b,o,cap,F,B,Z,H,hs,λi k W U=>?_,(λh=>by rw[A.1]at h;grind),ho'⟩
  obtain⟨x,hx,hrx⟩:=hr i k W U;exact⟨x,hx,ih i k _ _ _ _ (A.2 i k W U) hrx⟩
 |rs=>intro R R' cv fp A h;trivial
 |rp=>intro R R' cv fp A h;trivial
 |rm=>intro R R' cv fp A h;trivial
 |mp own l=>
  intro R R' cv fp A h;obtain⟨b,B,hm,h0,h1⟩:=h;exact⟨b,B,hm,(λe=>by rw[show own=true from A]at e;cases e),h1⟩
def FC(P:Program)(f:FuncId)(args:List V)(r:V):Prop:=
 ∀(w:World) (D:Nat->Prop) (cvs:Array Value),Wok w->(∀b,D b->b<w.heap.size)->cvs.size=args.length->
  (∀i,i<args.length->Rel D w noR (args.getD i .dead) (cvs.getD i undef) noF)->
  Calls P f cvs w λe w'=>∃cv fp D',e=.returned cv/\Below w.heap.size w w'/\Rel D' w' noR r cv fp/\(∀b,fp b->w.heap.size<=b)/\
   (∀b,D b->D' b)/\(∀b,D' b->D b\/w.heap.size<=b)/\∀b,D' b->b<w'.heap.size/\¬fp b
section ops
variable {P:Program}{o:Oper}{a:Act}{w:World}{σ:List V}{D:Nat->Prop}{ρ:Nat->Value}{F:Nat->Nat->Prop}{K:V->Prop}
def arI(P:Program)(t:TypeId):Nat:=match P.underlying t with
 |some (.array m e)=>match P.info? e,P.underlying e with
  |some i,some d=>if i.size=1/\I4 d=false then m else 0
  |_,_=>0
 |_=>0
def UR(h:0<arI P t):∃e i d,P.underlying t=some (.array (arI P t) e)/\P.info? e=some i/\i.size=1/\P.underlying e=some d/\I4 d=false:=by
 generalize hm:arI P t=m at h;unfold arI at hm;split at hm
 .rename_i H e B
  split at hm
  .rename_i i d hi hd
   split at hm
   .rename_i A
    subst hm;exact⟨e,i,d,B,hi,A.1,hd,A.2⟩
   .omega
  .omega
 .omega
def Abo(P:Program)(t:TypeId):Option (List (Nat×Nat)×List Value):=
 match P.info? t,P.underlying t with
 |some it,some (.struct fields)=>
  match it.zero,fields.toList.mapM (λf=>(P.info? f.type).map λi=>(f.offset,i.size))with
  |some z,some places=>if z.cells.toList.all (·.oneCell')=true then some (places,z.cells.toList)else none
  |_,_=>none
 |some it,some (.array _ _)=>
  match it.zero with
  |some z=>if 0<arI P t/\z.cells.toList.all (·.oneCell')=true then some ((range (arI P t)).map λk=>(k,1),z.cells.toList)else none
  |none=>none
 |_,_=>none
def OY{H B:Nat->Option (Nat×Nat)}(h:∀i p,H i=some p->B i=some p):∀(A:List (Nat×Value)) (cells r:Array Value),Instr.fill H cells A=some r->Instr.fill B cells A=some r
 |[],_,_,hf=>hf
 |(i,v)::rest,cells,r,hf=>by
  unfold Instr.fill at hf⊢;cases U:H i with
  |none=>rw[U]at hf;cases hf
  |some p=>
   rw[U]at hf;rw[h i p U];simp only at hf⊢;split at hf
   .cases hf
   .rename_i W
    rw[if_neg W];exact OY h rest _ _ hf
def MN(m:Nat)(x A:V)(K:V->Prop):Prop:=
 match x,A with
 |.many .ag n f,.c (.int _ i)=>n=m/\(0<=i/\i<(m:Int))/\AJ (f i.toNat)=false/\K (f i.toNat)
 |_,_=>False
theorem MM(wr:Be σ w D ρ F){vi:V}{ix:Operand}(ht:0<arI P t)(ho:o.op=.index t x ix)(hv:OpR σ w D ρ F v (a.eval x))(W:OpR σ w D ρ F vi (a.eval ix))(h:MN (arI P t) v vi K):∃r,K r/\Ap P o a w σ D ρ r:=by
 obtain⟨e,ie,d,hu,hie,hs,hd,hag⟩:=UR ht;generalize arI P t=m at*;unfold MN at h;obtain⟨fp,hr,_⟩:=hv;obtain⟨_,Z,_⟩:=W;split at h<;>try (exact h.elim)
 rename_i n f k i;obtain⟨rfl,⟨h1,h2⟩,hto,hK⟩:=h;obtain⟨cs,F',B,hn,hr,_,_⟩:=hr;have B:a.eval x=.agg cs:=B;have h3:i.toNat<cs.size:=by omega
 have h4:=hr i.toNat (by omega)
 have e1:=A2 (AB _ _ _ hto h4);rw[e1]at h4
 have H:cs[i.toNat]? =some (cs.getD i.toNat undef):=by
  rw[Array.getD_eq_getD_getElem?,getElem?_pos cs i.toNat h3];rfl
 refine⟨_,hK,Ap.pure wr ?_ h4⟩
 have U:∀w,(isAgg e).run P w=.ok false w:=λw=>by
  unfold isAgg;simp only[Sem.run_bind,run_underlying hd];cases d<;>first|rfl|cases hag
 have Y:∀w,(sizeOf e).run P w=.ok ie.size w:=λw=>by
  simp[sizeOf,typeInfo,hie]
 have A:∀w,(part e cs i.toNat).run P w=.ok (cs.getD i.toNat undef) w:=λw=>by
  simp only[part,Sem.run_bind,U,H];rfl
 unfold execOp;rw[ho];simp only[Instr.index];simp[run_underlying hu,B,Z.1,asIntOf,h1,h2,Y,hs,A]
def Mc{places:List (Nat×Nat)}{zero:List Value}(A:Abo P t=some (places,zero)):∃z:Value,z.cells.toList=zero/\(∀v∈zero,v.oneCell'=true)/\∀B cells,Instr.fill (λi=>places[i]?) z.cells B=some cells->P.built t B=some cells:=by
 unfold Abo at A;split at A
 .rename_i it Z hit Y
  split at A<;>try (cases A;done)
  rename_i z places' hz hpl;split at A<;>try (cases A;done)
  rename_i H;simp only[Option.some.injEq,Prod.mk.injEq]at A;obtain⟨rfl,rfl⟩:=A;refine⟨z,rfl,aET.1 H,λB cells hf=>?_⟩
  unfold Program.built;simp only[hit,Y,hz,hpl];simpa using hf
 .rename_i it m e hit Y
  split at A<;>try (cases A;done)
  rename_i z hz;split at A<;>try (cases A;done)
  rename_i H;simp only[Option.some.injEq,Prod.mk.injEq]at A;obtain⟨rfl,rfl⟩:=A;obtain⟨e',ie,_,U,hie,hs,_⟩:=UR H.1;rw[Y]at U;simp only[Option.some.injEq,TypeDesc.array.injEq]at U;obtain⟨_,rfl⟩:=U;refine⟨z,rfl,aET.1 H.2,λB cells hf=>?_⟩
  unfold Program.built;simp only[hit,Y,hz,hie];refine OY (λi p W=>?_) _ _ _ hf
  rw[List.getElem?_map]at W;cases hi:(range (arI P t))[i]? with
  |none=>rw[hi]at W;cases W
  |some j=>
   rw[hi]at W;have hj:i=j:=by
    rw[List.getElem?_eq_some_iff]at hi;obtain⟨h1,h2⟩:=hi;rw[List.getElem_range]at h2;exact h2
   subst hj;simp only[Option.map_some,Option.some.injEq]at W;rw[<-W,hs,Nat.mul_one]
 .cases A
def Lt(B:Option (List (Nat×Nat)×List Value))(A:List (Nat×V))(K:V->Prop):Prop:=
 match B with
 |some (places,zero)=>A.all (λp=>Bs p.2)=true/\match B8 (λi=>places[i]?) (zero.map .c) A with
  |some l=>K (Ah l)
  |none=>False
 |none=>False
theorem Oo(wr:Be σ w D ρ F){ps:Array (Nat×Operand)}{vs:List (Nat×V)}(ho:o.op=.build t ps)(hv:Mh σ w D ρ F vs (ps.toList.map λp=>(p.1,a.eval p.2)))
  (h:Lt (Abo P t) vs K):∃r,K r/\Ap P o a w σ D ρ r:=by
 unfold Lt at h;split at h
 case h_2=>exact h.elim
 rename_i places zero Z;obtain⟨hp,h⟩:=h;split at h
 case h_2=>exact h.elim
 rename_i l hl;obtain⟨z,rfl,Y,A⟩:=Mc Z
 have H:Qn D w (Ae σ ρ w) (z.cells.toList.map .c) z.cells:=by
  refine⟨by simp,λj hj=>?_⟩
  simp at hj;simp[hj];exact⟨rfl,Y _ (by simp),λ_ h=>h⟩
 obtain⟨W,U,B⟩:=II hl hp hv H;have hrun:=run_build w t (ps.map λp=>(p.1,a.eval p.2)) W (A _ _ (by simpa using U))
 refine⟨_,h,Ap.pure wr (v':=.agg W) ?_ ?_⟩
 .unfold execOp;simp_all
 .exact⟨W,λ_=>noF,rfl,B.1,λk hk=>B.2 k hk,λ_ _ _ _ _ _ h=>h.elim,λb=>⟨λh=>h.elim,fun⟨_,_,h⟩=>h⟩⟩
def Ot(A:Option TyI)(K:V->Prop):Prop:=
 match A with
 |some ⟨_,size,zero⟩=>0<size/\K (A3 true (zero.map .c))
 |none=>False
theorem Oq(wr:Be σ w D ρ F)(ho:o.op=.alloc t)(h:Ot (tyI P t) K):∃r,K r/\Ap P o a w σ D ρ r:=by
 unfold Ot at h;split at h
 case h_2=>exact h.elim
 rename_i ag size zero W;obtain⟨d,i,z,hd,hi,hz,Z,A,B,U,_⟩:=CP W;simp only at Z A B U;obtain⟨hpos,hK⟩:=h;refine⟨_,hK,Ap.new (ob:=.cells z.cells t) (v':=.pointer (some ⟨w.heap.size,0,none⟩)) wr ?_ ⟨_,Rel.eqv _ _ _ _ (show Eqv (.nd false true size 1 λ_ k=>.c (zero.getD k undef)) (A3 true (zero.map .c))from ?_) (HP wr.Dlt (s:=false) (cap:=1) (by omega) (le_refl _) (by unfold maxLen;omega) (λ_=>rfl) λi k hi hk=>?_),λb h=>h⟩⟩
 .unfold execOp;rw[ho];simp[Instr.alloc,zeroValue,typeInfo,hi,hz,newVar,newRow]
 .have H:zero.length=size:=by rw[<-B,<-A];simp
  refine⟨λi k=>([zero.map V.c].getD i []).getD k .dead,by unfold A3;rw[List.length_map,H],λi k hi hk=>?_⟩
  obtain rfl:i=0:=by omega
  have Y:k<zero.length:=by omega
  have e:([zero.map V.c].getD 0 []).getD k .dead=.c (zero.getD k undef):=by simp[Y]
  show Eqv _ (([zero.map V.c].getD 0 []).getD k .dead);rw[e];exact Eqv.refl _
 .obtain rfl:i=0:=by omega
  have hk':k<z.cells.size:=by omega
  have e1:zero.getD k undef=z.cells.getD k undef:=by rw[<-A];simp
  simp only[Nat.zero_mul,Nat.zero_add];refine⟨e1.symm,U _ ?_,λ_ h=>h⟩
  grind
def boxL(l:List V):V:=.many .bx l.length λk=>l.getD k .dead
def qBox(v:V)(K:V->Prop):Prop:=Bs v=true/\(((cellsV v).all B7=true/\K (A3 true (cellsV v)))\/K (boxL (cellsV v)))
theorem Vv(wr:Be σ w D ρ F)(ho:o.op=.box t x)(hv:OpR σ w D ρ F v (a.eval x))(h:qBox v K):∃r,K r/\Ap P o a w σ D ρ r:=by
 obtain⟨hp,Z⟩:=h;obtain⟨fp,hr,_⟩:=hv;obtain⟨⟨hs,H⟩,_⟩:=B9 (λv cv h=>Ae.one h) hp hr
 rcases Z with⟨Y,Z⟩|Z
 rotate_left
 .refine⟨_,Z,λnext Q hn=>?_⟩
  have W:(execOp a.eval o).run P w=.ok (.value (.pointer (some ⟨w.heap.size,0,none⟩))) (w.alloc (.cells (a.eval x).cells t)):=by
   unfold execOp;rw[ho];simp[Instr.box,newVar,newRow]
  unfold Oper.wp;rw[W];have A:∀b,b<w.heap.size->(w.alloc (.cells (a.eval x).cells t)).heap[b]? =w.heap[b]?:=λb B=>Below.heap_alloc _ _ _ B
  refine hn _ _ (λb=>D b\/b=w.heap.size) noF ((Below.refl _ _).alloc (le_refl _) _) ?_ (λ_ h=>h.elim) (λ_ h=>.inl h) (λb h=>h.imp id λh=>by omega) (λb h=>⟨?_,λh=>h⟩)
  .refine⟨(a.eval x).cells,λ_=>noF,⟨w.heap.size,0,rfl,λ_=>.inr rfl,λk U=>?_⟩,hs,λk U=>?_,λ_ _ _ _ _ _ h=>h.elim,λb=>⟨λh=>h.elim,fun⟨_,_,h⟩=>h⟩⟩
   .simp_all
   .exact Rel.mono (λb B=>.inl B) (λv cv hv=>Ae.same wr (λi b B=>A b (wr.lt i b B)) v cv hv) _ _ _ (λb B=>B.elim (λB=>A b (wr.Dlt b B)) λh=>h.elim) (H k U)
  .rcases h with h|h
   .have:=wr.Dlt b h;simp;omega
   .simp;omega
 refine⟨_,Z,Ap.new (ob:=.cells (a.eval x).cells t) (v':=.pointer (some ⟨w.heap.size,0,none⟩)) wr ?_ ⟨_,HP wr.Dlt (s:=false) (cap:=1) (by omega) (le_refl _) (by unfold maxLen;omega) (λ_=>rfl) λi k hi U=>?_,λb h=>h⟩⟩
 .unfold execOp;rw[ho];simp[Instr.box,newVar,newRow]
 .obtain rfl:i=0:=by omega
  simp only[Nat.zero_mul,Nat.zero_add];show Rel D w noR ((cellsV v).getD k .dead) _ noF;refine CH (aET.1 Y _ ?_) (H k U);rw[gDE,gEE U];exact List.getElem_mem U
def XO(A:Bool)(sz n:Nat)(zero:List Value):V:=arr true sz (λx=>x) [] (replicate n (zero.map .c))
theorem VH{R:V->Value->Prop}(A:Bool)(sz n:Nat)(zero:List Value)(H:zero.length=sz){cv:Value}{fp:Nat->Prop}(h:Rel D w R (.nd true true sz n λ_ k=>.c (zero.getD k undef)) cv fp):Rel D w R (XO A sz n zero) cv fp:=by
 have B:Rel D w R (arr true sz (λx=>x) [] (replicate n (zero.map .c))) cv fp:=by
  refine Rel.eqv _ _ _ _ ?_ h;refine⟨λi k=>((replicate n (zero.map V.c)).getD i []).getD k .dead,by simp[arr],λi k hi U=>?_⟩
  have:((replicate n (zero.map V.c)).getD i []).getD k .dead=.c (zero.getD k undef):=by
   grind
  trivial
 trivial
def Xu(B:Option SlI)(A:Bool)(l c:V)(K:V->Prop):Prop:=
 match B,l,c with
 |some ⟨_,size,bytes,zero⟩,.c (.int _ l),.c (.int _ c)=>0<size/\(0<=l/\l<=c/\(bytes:Int)*c<=281474976710656/\c<=9223372036854775807)/\K (XO A size l.toNat zero)
 |_,_,_=>False
theorem PN(wr:Be σ w D ρ F){vl vc:V}{l c:Operand}(ho:o.op=.makeSlice t l c)(hl:OpR σ w D ρ F vl (a.eval l))(hc:OpR σ w D ρ F vc (a.eval c)){A:Bool}(h:Xu (slI P t) A vl vc K):∃r,K r/\Ap P o a w σ D ρ r:=by
 unfold Xu at h;split at h
 case h_2=>exact h.elim
 rename_i e size bytes zero kl li kc B hsi;obtain⟨hu,i0,z,hi0,hz,W,hib,U,H,Y⟩:=D6 hsi;simp only at hu hi0 W hib U H Y;obtain⟨hpos,⟨h1,h2,h3,h4⟩,hK⟩:=h;obtain⟨_,hl,_⟩:=hl;obtain⟨_,hc,_⟩:=hc;have Z:=run_make (P:=P) w t e i0 z hu hi0 hz kl kc li B h1 h2 (by rw[hib];exact h3) h4
 refine⟨_,hK,Ap.new (ob:=.cells (madeCells z.cells (B.toNat*i0.size)) e) (v':=.slice (some ⟨w.heap.size,0,none⟩) li.toNat B.toNat) wr ?_ ⟨_,VH A size li.toNat zero (by rw[<-H,<-U];simp) (HP wr.Dlt (s:=true) (cap:=B.toNat) ?_ (by omega) (by unfold maxLen;omega) (λh=>by cases h) λi k hi hk=>?_),λb h=>h⟩⟩
 .have e1:a.eval l=.int kl li:=hl.1
  have e2:a.eval c=.int kc B:=hc.1;unfold execOp;rw[ho];simp[e1,e2,Z]
 .rw[size_madeCells,W];exact le_refl _
 .have hlt:i*size+k<B.toNat*i0.size:=by
   rw[W];have:(i+1)*size<=B.toNat*size:=Nat.mul_le_mul_right _ (by omega)
   rw[Nat.add_mul]at this;omega
  have hk':k<z.cells.size:=by omega
  have hm:(i*size+k) % z.cells.size=k:=by rw[H,Nat.mul_comm,Nat.mul_add_mod,Nat.mod_eq_of_lt hk]
  have e1:(madeCells z.cells (B.toNat*i0.size)).getD (i*size+k) undef=zero.getD k undef:=by
   unfold madeCells;simp only[Array.getD_eq_getD_getElem?,Array.getElem?_map,Array.getElem?_range,hlt,if_true,Option.map_some,Option.getD_some,hm];rw[<-U,getElem!_pos z.cells k hk'];simp[hk']
  rw[e1];refine⟨rfl,Y _ ?_,λ_ h=>h⟩
  grind
def Ol(P:Program)(σ:List V)(s d:TypeId)(x:V)(K:V->Prop):Prop:=Vu P σ s d x K
def Xw{σ:List V}{x:V}{K:V->Prop}(h:cvI P s d≠.other):Ol P σ s d x K=Vu P σ s d x K:=rfl
def Ok(wr:Be σ w D ρ F)(A:o.op=.convert s d x)(hv:OpR σ w D ρ F v (a.eval x))(h:Ol P σ s d v K):∃r,K r/\Ap P o a w σ D ρ r:=PP wr A hv h
def B6(σ:List V):V->V
 |.rs id p off len=>match sub p (σ.getD id .dead)with
  |.nd _ _ sz _ f=>.nd true false sz len λi k=>frz (f (off+i) k)
  |_=>.dead
 |.rp id p i k=>match sub p (σ.getD id .dead)with
  |.nd _ _ sz _ f=>.nd false false (sz-k) 1 λi' j=>if i'=0 then frz (f i (k+j))else .dead
  |_=>.dead
 |.rm id p=>match sub p (σ.getD id .dead)with
  |.mp _ l=>.mp false l
  |_=>.dead
 |.many t n f=>if t=.bx then .nd false false n 1 λi k=>if i=0 then B6 σ (f k)else .dead else .many t n λk=>B6 σ (f k)
 |v=>frz v
def AR:V->Bool
 |.rs ..=>true
 |.rp ..=>true
 |.rm ..=>true
 |.mp own _=>own
 |.nd _ own _ _ _=>own
 |.many _ n f=>(range n).any λk=>AR (f k)
 |_=>false
theorem ZP(wr:Be σ w D ρ F):∀(v:V) (cv:Value) (fp:Nat->Prop),Rel D w (Ae σ ρ w) v cv fp->(AR v=true\/∀b,¬fp b)->
  Rel (λb=>D b\/(AR v=true/\(fp b\/∃i,F i b))) w noR (B6 σ v) cv noF:=by
 intro v
 induction v with
 |c v=>intro cv fp h _;exact⟨h.1,h.2.1,λ_ h=>h⟩
 |dead=>intro cv fp h _;exact λ_ h=>h
 |many t n f ih=>
  intro cv fp h U;obtain⟨cs,F',Y,hn,hr,hd,hf⟩:=h
  have hcell:∀k,k<n->Rel (λb=>D b\/(AR (.many t n f)=true/\(fp b\/∃i,F i b))) w noR (B6 σ (f k)) (cs.getD k undef) noF:=by
   intro k W
   have hla:AR (f k)=true->AR (.many t n f)=true:=λh=>by
    unfold AR;rw[List.any_eq_true];exact⟨k,List.mem_range.2 W,h⟩
   have hl':AR (f k)=true\/∀b,¬F' k b:=by
    cases hlk:AR (f k)with
    |true=>exact .inl rfl
    |false=>
     right;refine AB (f k) _ _ ?_ (hr k W);have:∀v:V,AR v=false->AJ v=false:=by
      intro v
      induction v with
      |many t n f ih=>
       intro h;unfold AR at h;unfold AJ;rw[List.any_eq_false]at h⊢;intro k W;simpa using ih k (by simpa using h k W)
      |nd s own sz n f _=>intro h;exact h
      |mp own l=>intro h;exact h
      |_=>intro _;rfl
     exact this _ hlk
   exact Rel.mono (λb H=>H.imp id fun⟨h1,h2⟩=>⟨hla h1,h2.imp (λh=>(hf b).2 ⟨k,W,h⟩) id⟩) (λ_ _ h=>h) _ _ _ (λ_ _=>rfl) (ih k _ _ (hr k W) hl')
  unfold B6;split
  .rename_i ht
   subst ht;obtain⟨b,o,h1,h2,h3⟩:=Y;refine .inr ⟨b,o,1,λ_ _=>noF,h1,le_refl _,by unfold maxLen;omega,λ_=>rfl,λi k hi W=>?_,λ_=>⟨λhp=>.inl (h2 (by omega)),λ_ _ _ _ _ h=>h,λ_ h=>h⟩,λh=>by cases h⟩
   obtain rfl:i=0:=by omega
   exact⟨cs.getD k undef,by simpa using h3 k (by omega),hcell k W⟩
  .exact⟨cs,λ_=>noF,Y.mono (λ_ h=>.inl h) (λ_ _=>rfl),hn,hcell,λ_ _ _ _ _ _ h=>h.elim,λb=>⟨λh=>h.elim,fun⟨_,_,h⟩=>h⟩⟩
 |nd s own sz n f ih=>
  intro cv fp h U;have h1:=Rel.frz _ _ _ (show Rel D w noR (.nd s own sz n f) cv fp from h)
  refine Rel.mono (λb H=>H.imp id λh=>?_) (λ_ _ h=>h) _ _ _ (λ_ _=>rfl) h1
  rcases U with U|U
  .exact⟨U,.inl h⟩
  .exact absurd h (U b)
 |rs A p off len=>
  intro cv fp h _;obtain⟨⟨hid,sz,n,f,cn,ha,hle,Y⟩,_⟩:=h;obtain⟨fp1,Z,B,_⟩:=Ds (w':=w) p _ _ _ _ _ (wr.rel A hid) (λb H h=>wr.dD A b h H) ha
  have hz:=Rel.frz _ _ _ Z;unfold B6;rw[<-At.sub ha];simp only[Go.Ve.frz]at hz;obtain⟨ad,cap,hcn,hcap,hmax,hc⟩:=OT hz;have hD:∀b,(D b\/fp1 b)->D b\/(AR (.rs A p off len)=true/\(fp b\/∃i,F i b)):=λb H=>H.imp id λh=>⟨rfl,.inr ⟨A,B b h⟩⟩
  rcases Y with⟨b,o',cap',rfl,rfl⟩|⟨rfl,ad',rfl,_⟩
  .simp only[Av,if_true,Value.slice.injEq]at hcn
   obtain⟨rfl,-,rfl⟩:=hcn;rcases hc with⟨_,hc0,a0,h,hn0⟩|⟨b2,o2,h,hc⟩
   .simp only[Value.slice.injEq]at h
    exact absurd rfl (hn0 _ h.1.symm)
   .simp only[Option.some.injEq,Addr.mk.injEq,and_true]at h
    obtain⟨rfl,rfl⟩:=h;refine .inr ⟨b,o'+off*sz,cap'-off,λ_ _=>noF,by simp[Av],by omega,by omega,(λh=>by cases h),λi k hi W=>?_,λ_=>⟨λhp=>?_,λ_ _ _ _ _ h=>h,λ_ h=>h⟩,λh=>by cases h⟩
    .obtain⟨_,y,hy,hry⟩:=hc (off+i) k (by omega) W
     exact⟨y,by rw[<-hy];congr 2;rw[Nat.add_mul];omega,Rel.mono hD (λ_ _ h=>h) _ _ _ (λ_ _=>rfl) hry⟩
    .have hp1:0<len:=Nat.pos_of_mul_pos_right hp
     have hp2:0<sz:=Nat.pos_of_mul_pos_left hp;exact hD b (hc off 0 (by omega) hp2).1
  .cases ad' with
   |none=>exact .inl ⟨rfl,rfl,.inl rfl,λ_ h=>h⟩
   |some ad'=>exact .inr ⟨ad'.1,ad'.2,0,λ_ _=>noF,rfl,le_refl _,Nat.zero_le _,(λh=>by cases h),λi k hi W=>by omega,λ_=>⟨λhp=>by simp at hp,λ_ _ _ _ _ h=>h,λ_ h=>h⟩,λh=>by cases h⟩
 |rp A p i k=>
  intro cv fp h _;obtain⟨⟨hid,s,sz,n,f,b,o',cap,ha,hi,W,rfl⟩,_⟩:=h;obtain⟨fp1,Z,B,_⟩:=Ds (w':=w) p _ _ _ _ _ (wr.rel A hid) (λb H h=>wr.dD A b h H) ha
  have hz:=Rel.frz _ _ _ Z;unfold B6;rw[<-At.sub ha];simp only[Go.Ve.frz]at hz;obtain⟨b2,o2,cap2,Y,hcap,hc⟩:=Kh hz (by omega)
  obtain⟨rfl,rfl,_⟩:=Am Y;have hD:∀b,(D b\/fp1 b)->D b\/(AR (.rp A p i k)=true/\(fp b\/∃i,F i b)):=λb H=>H.imp id λh=>⟨rfl,.inr ⟨A,B b h⟩⟩
  refine .inr ⟨b,o'+i*sz+k,1,λ_ _=>noF,by simp[Av],le_refl _,by unfold maxLen;omega,λ_=>rfl,λj l hj U=>?_,λ_=>⟨λ_=>hD b (hc i k hi W).1,λ_ _ _ _ _ h=>h,λ_ h=>h⟩,λh=>by cases h⟩
  obtain rfl:j=0:=by omega
  obtain⟨_,y,hy,hry⟩:=hc i (k+l) hi (by omega)
  exact⟨y,by simpa [Nat.add_assoc]using hy,Rel.mono hD (λ_ _ h=>h) _ _ _ (λ_ _=>rfl) hry⟩
 |rm A p=>
  intro cv fp h _;obtain⟨⟨hid,l,b,ha,rfl⟩,_⟩:=h;obtain⟨fp1,Z,B,_⟩:=Ds (w':=w) p _ _ _ _ _ (wr.rel A hid) (λb H h=>wr.dD A b h H) ha
  have hz:=Rel.frz _ _ _ Z;unfold B6;rw[<-At.sub ha];exact Rel.mono (λb H=>H.imp id λh=>⟨rfl,.inr ⟨A,B b h⟩⟩) (λ_ _ h=>h) _ _ _ (λ_ _=>rfl) hz
 |mp own l=>
  intro cv fp h U;have h1:=Rel.frz _ _ _ (show Rel D w noR (.mp own l) cv fp from h)
  refine Rel.mono (λb H=>H.imp id λh=>?_) (λ_ _ h=>h) _ _ _ (λ_ _=>rfl) h1
  rcases U with U|U
  .exact⟨U,.inl h⟩
  .exact absurd h (U b)
end ops
end Go.Ve

