/- The quiet operations of the small machine: structs, boxes, make; calls by contract. -/
import Derived.Laws.IdiomStrings
import Derived.Laws.AppendOwn
import Derived.Test.YtojjlnbnneemaaaVg
set_option linter.all false
namespace Go.Ve
variable{D:Nat->Prop}{x:Operand}{P:Program}{d s t:TypeId}{v:V}{w:World}
def BF:V->Prop
 |.c _=>True
 |.dead=>True
 |.many t n f=>t≠.bx/\∀k,k<n->BF (f k)
 |.nd _ own sz n f=>own=true/\∀i k,i<n->k<sz->BF (f i k)
 |.mp own _=>own=true
 |_=>False
theorem Rel.ownOnly'{D':Nat->Prop}:∀(v:V) (R R':V->Value->Prop) (cv:Value) (fp:Nat->Prop),BF v->Rel D w R v cv fp->Rel D' w R' v cv fp:=by
 intro v
 induction v with
 |c v=>intro R R' cv fp _ h;exact h
 |dead=>intro R R' cv fp _ h;exact h
 |many t n f O=>
  intro R R' cv fp ho h;obtain⟨cs,F,A,hn,W,hd,hf⟩:=h;have L:Lm D' w t cs cv:=by
   cases t with
   |ag=>trivial
   |tu=>trivial
   |cl g=>trivial
   |bx=>exact absurd rfl ho.1
  exact⟨cs,F,L,hn,λk E=>O k _ _ _ _ (ho.2 k E) (W k E),hd,hf⟩
 |nd s own sz n f O=>
  intro R R' cv fp ho h;rcases h with h|⟨b,o,cap,F,A,M,B,hs,W,hi,Y⟩
  .exact .inl h
  refine .inr ⟨b,o,cap,F,A,M,B,hs,λi k J E=>?_,(λh=>by rw[ho.1]at h;grind),Y⟩
  obtain⟨x,Z,U⟩:=W i k J E;exact⟨x,Z,O i k _ _ _ _ (ho.2 i k J E) U⟩
 |rs=>intro R R' cv fp ho h;trivial
 |rp=>intro R R' cv fp ho h;trivial
 |rm=>intro R R' cv fp ho h;trivial
 |mp own l=>
  intro R R' cv fp ho h;obtain⟨b,A,hm,h0,h1⟩:=h;exact⟨b,A,hm,(λe=>by rw[show own=true from ho]at e;cases e),h1⟩
def FC(P:Program)(f:FuncId)(args:List V)(r:V):Prop:=
 ∀(w:World) (D:Nat->Prop) (cvs:Array Value),Wok w->(∀b,D b->b<w.heap.size)->cvs.size=args.length->
  (∀i,i<args.length->Rel D w noR (args.getD i .dead) (cvs.getD i undef) noF)->
  Calls P f cvs w λe w'=>∃cv fp D',e=.returned cv/\Below w.heap.size w w'/\Rel D' w' noR r cv fp/\(∀b,fp b->w.heap.size<=b)/\
   (∀b,D b->D' b)/\(∀b,D' b->D b\/w.heap.size<=b)/\∀b,D' b->b<w'.heap.size/\¬fp b
section ops
variable {P:Program}{o:Oper}{a:Act}{w:World}{σ:List V}{D:Nat->Prop}{ρ:Nat->Value}{F:Nat->Nat->Prop}{K:V->Prop}
def arI(P:Program)(t:TypeId):Nat:=match P.underlying t with
 |some (.array m e)=>match P.info? e,P.underlying e with
  |some i,some d=>if i.size=1/\Jb d=false then m else 0
  |_,_=>0
 |_=>0
def Uj(h:0<arI P t):∃e i d,P.underlying t=some (.array (arI P t) e)/\P.info? e=some i/\i.size=1/\P.underlying e=some d/\Jb d=false:=by
 generalize A:arI P t=m at h;unfold arI at A;split at A
 .rename_i L e E
  split at A
  .rename_i i d J hd
   split at A
   .rename_i B
    subst A;exact⟨e,i,d,E,J,B.1,hd,B.2⟩
   .omega
  .omega
 .omega
def Aax(P:Program)(t:TypeId):Option (List (Nat×Nat)×List Value):=
 match P.info? t,P.underlying t with
 |some it,some (.struct fields)=>
  match it.zero,fields.toList.mapM (λf=>(P.info? f.type).map λi=>(f.offset,i.size))with
  |some z,some places=>if z.cells.toList.all (·.oneCell')=true then some (places,z.cells.toList)else none
  |_,_=>none
 |some it,some (.array _ _)=>
  match it.zero with
  |some z=>if 0<arI P t/\z.cells.toList.all (·.oneCell')=true then some ((List.range (arI P t)).map λk=>(k,1),z.cells.toList)else none
  |none=>none
 |_,_=>none
def OM{B A:Nat->Option (Nat×Nat)}(h:∀i p,B i=some p->A i=some p):∀(e:List (Nat×Value)) (cells r:Array Value),Instr.fill B cells e=some r->Instr.fill A cells e=some r
 |[],_,_,hf=>hf
 |(i,v)::rest,cells,r,hf=>by
  unfold Instr.fill at hf⊢;cases E:B i with
  |none=>rw[E]at hf;cases hf
  |some p=>
   rw[E]at hf;rw[h i p E];simp only at hf⊢;split at hf
   .cases hf
   .rename_i J
    rw[if_neg J];exact OM h rest _ _ hf
def Mt(m:Nat)(x ix:V)(K:V->Prop):Prop:=
 match x,ix with
 |.many .ag n f,.c (.int _ i)=>n=m/\(0<=i/\i<(m:Int))/\AS (f i.toNat)=false/\K (f i.toNat)
 |_,_=>False
theorem Mr(wr:Bs σ w D ρ F){vi:V}{ix:Operand}(ht:0<arI P t)(ho:o.op=.index t x ix)(hv:OpR σ w D ρ F v (a.eval x))(L:OpR σ w D ρ F vi (a.eval ix))(h:Mt (arI P t) v vi K):∃r,K r/\Av P o a w σ D ρ r:=by
 obtain⟨e,ie,d,hu,W,hs,hd,Y⟩:=Uj ht;generalize arI P t=m at*;unfold Mt at h;obtain⟨fp,U,_⟩:=hv;obtain⟨_,O,_⟩:=L;split at h<;>try (exact h.elim)
 rename_i n f k i;obtain⟨rfl,⟨h1,h2⟩,hto,hK⟩:=h;obtain⟨cs,F',B,hn,U,_,_⟩:=U;have B:a.eval x=.agg cs:=B;have h3:i.toNat<cs.size:=by omega
 have Z:=U i.toNat (by omega)
 have e1:=Bb (AF _ _ _ hto Z);rw[e1]at Z
 have E:cs[i.toNat]? =some (cs.getD i.toNat undef):=by
  rw[Array.getD_eq_getD_getElem?,getElem?_pos cs i.toNat h3];rfl
 refine⟨_,hK,Av.pure wr ?_ Z⟩
 have J:∀w,(isAgg e).run P w=.ok false w:=λw=>by
  unfold isAgg;simp only[Sem.run_bind,run_underlying hd];cases d<;>first|rfl|cases Y
 have M:∀w,(sizeOf e).run P w=.ok ie.size w:=λw=>by
  simp[sizeOf,typeInfo,W]
 have A:∀w,(part e cs i.toNat).run P w=.ok (cs.getD i.toNat undef) w:=λw=>by
  simp only[part,Sem.run_bind,J,E];rfl
 unfold execOp;rw[ho];simp only[Instr.index];simp[run_underlying hu,B,O.1,asIntOf,h1,h2,M,hs,A]
def LU{places:List (Nat×Nat)}{zero:List Value}(A:Aax P t=some (places,zero)):∃z:Value,z.cells.toList=zero/\(∀v∈zero,v.oneCell'=true)/\∀B cells,Instr.fill (λi=>places[i]?) z.cells B=some cells->P.built t B=some cells:=by
 unfold Aax at A;split at A
 .rename_i it U hit M
  split at A<;>try (cases A;done)
  rename_i z places' W Y;split at A<;>try (cases A;done)
  rename_i E;simp only[Option.some.injEq,Prod.mk.injEq]at A;obtain⟨rfl,rfl⟩:=A;refine⟨z,rfl,aET.1 E,λB cells hf=>?_⟩
  unfold Program.built;simp only[hit,M,W,Y];simpa using hf
 .rename_i it m e hit M
  split at A<;>try (cases A;done)
  rename_i z W;split at A<;>try (cases A;done)
  rename_i E;simp only[Option.some.injEq,Prod.mk.injEq]at A;obtain⟨rfl,rfl⟩:=A;obtain⟨e',ie,_,J,Z,hs,_⟩:=Uj E.1;rw[M]at J;simp only[Option.some.injEq,TypeDesc.array.injEq]at J;obtain⟨_,rfl⟩:=J;refine⟨z,rfl,aET.1 E.2,λB cells hf=>?_⟩
  unfold Program.built;simp only[hit,M,W,Z];refine OM (λi p L=>?_) _ _ _ hf
  rw[List.getElem?_map]at L;cases O:(List.range (arI P t))[i]? with
  |none=>rw[O]at L;cases L
  |some j=>
   rw[O]at L;have hj:i=j:=by
    rw[List.getElem?_eq_some_iff]at O;obtain⟨h1,h2⟩:=O;rw[List.getElem_range]at h2;exact h2
   subst hj;simp only[Option.map_some,Option.some.injEq]at L;rw[<-L,hs,Nat.mul_one]
 .cases A
def Lj(A:Option (List (Nat×Nat)×List Value))(e:List (Nat×V))(K:V->Prop):Prop:=
 match A with
 |some (places,zero)=>e.all (λp=>Bw p.2)=true/\match Cd (λi=>places[i]?) (zero.map .c) e with
  |some l=>K (Aj l)
  |none=>False
 |none=>False
theorem Ob(wr:Bs σ w D ρ F){ps:Array (Nat×Operand)}{O:List (Nat×V)}(ho:o.op=.build t ps)(Y:LY σ w D ρ F O (ps.toList.map λp=>(p.1,a.eval p.2)))
  (h:Lj (Aax P t) O K):∃r,K r/\Av P o a w σ D ρ r:=by
 unfold Lj at h;split at h
 case h_2=>exact h.elim
 rename_i places zero M;obtain⟨Z,h⟩:=h;split at h
 case h_2=>exact h.elim
 rename_i l hl;obtain⟨z,rfl,L,e⟩:=LU M
 have B:Qa D w (Am σ ρ w) (z.cells.toList.map .c) z.cells:=by
  refine⟨by simp,λj W=>?_⟩
  simp at W;simp[W];exact⟨rfl,L _ (by simp),λ_ h=>h⟩
 obtain⟨J,E,A⟩:=IN hl Z Y B;have U:=run_build w t (ps.map λp=>(p.1,a.eval p.2)) J (e _ _ (by simpa using E))
 refine⟨_,h,Av.pure wr (v':=.agg J) ?_ ?_⟩
 .unfold execOp;simp_all
 .exact⟨J,λ_=>noF,rfl,A.1,λk hk=>A.2 k hk,λ_ _ _ _ _ _ h=>h.elim,λb=>⟨λh=>h.elim,fun⟨_,_,h⟩=>h⟩⟩
def Od(e:Option TyI)(K:V->Prop):Prop:=
 match e with
 |some ⟨_,size,zero⟩=>0<size/\K (Bi true (zero.map .c))
 |none=>False
theorem Oc(wr:Bs σ w D ρ F)(ho:o.op=.alloc t)(h:Od (tyI P t) K):∃r,K r/\Av P o a w σ D ρ r:=by
 unfold Od at h;split at h
 case h_2=>exact h.elim
 rename_i ag size zero L;obtain⟨d,i,z,hd,U,Y,O,A,B,J,_⟩:=C5 L;simp only at O A B J;obtain⟨W,hK⟩:=h;refine⟨_,hK,Av.new (ob:=.cells z.cells t) (v':=.pointer (some ⟨w.heap.size,0,none⟩)) wr ?_ ⟨_,Rel.eqv _ _ _ _ (show Eqv (.nd false true size 1 λ_ k=>.c (zero.getD k undef)) (Bi true (zero.map .c))from ?_) (HX wr.Dlt (s:=false) (cap:=1) (by omega) (Nat.le_refl _) (by unfold maxLen;omega) (λ_=>rfl) λi k U hk=>?_),λb h=>h⟩⟩
 .unfold execOp;rw[ho];simp[Instr.alloc,zeroValue,typeInfo,U,Y,newVar,newRow]
 .have E:zero.length=size:=by rw[<-B,<-A];simp
  refine⟨λi k=>([zero.map V.c].getD i []).getD k .dead,by unfold Bi;rw[List.length_map,E],λi k U hk=>?_⟩
  obtain rfl:i=0:=by omega
  have M:k<zero.length:=by omega
  have e:([zero.map V.c].getD 0 []).getD k .dead=.c (zero.getD k undef):=by simp[M]
  show Eqv _ (([zero.map V.c].getD 0 []).getD k .dead);rw[e];exact Eqv.refl _
 .obtain rfl:i=0:=by omega
  have Z:k<z.cells.size:=by omega
  have e1:zero.getD k undef=z.cells.getD k undef:=by rw[<-A];simp
  simp only[Nat.zero_mul,Nat.zero_add];refine⟨e1.symm,J _ ?_,λ_ h=>h⟩
  grind
def boxL(l:List V):V:=.many .bx l.length λk=>l.getD k .dead
def qBox(v:V)(K:V->Prop):Prop:=Bw v=true/\(((cellsV v).all Cc=true/\K (Bi true (cellsV v)))\/K (boxL (cellsV v)))
theorem UW(wr:Bs σ w D ρ F)(ho:o.op=.box t x)(O:OpR σ w D ρ F v (a.eval x))(h:qBox v K):∃r,K r/\Av P o a w σ D ρ r:=by
 obtain⟨Y,M⟩:=h;obtain⟨fp,W,_⟩:=O;obtain⟨⟨U,B⟩,_⟩:=Ce (λv cv h=>Am.one h) Y W
 rcases M with⟨L,M⟩|M
 rotate_left
 .refine⟨_,M,λnext Q hn=>?_⟩
  have J:(execOp a.eval o).run P w=.ok (.value (.pointer (some ⟨w.heap.size,0,none⟩))) (w.alloc (.cells (a.eval x).cells t)):=by
   unfold execOp;rw[ho];simp[Instr.box,newVar,newRow]
  unfold Oper.wp;rw[J];have e:∀b,b<w.heap.size->(w.alloc (.cells (a.eval x).cells t)).heap[b]? =w.heap[b]?:=λb A=>Below.heap_alloc _ _ _ A
  refine hn _ _ (λb=>D b\/b=w.heap.size) noF ((Below.refl _ _).alloc (Nat.le_refl _) _) ?_ (λ_ h=>h.elim) (λ_ h=>.inl h) (λb h=>h.imp id λh=>by omega) (λb h=>⟨?_,λh=>h⟩)
  .refine⟨(a.eval x).cells,λ_=>noF,⟨w.heap.size,0,rfl,λ_=>.inr rfl,λk E=>?_⟩,U,λk E=>?_,λ_ _ _ _ _ _ h=>h.elim,λb=>⟨λh=>h.elim,fun⟨_,_,h⟩=>h⟩⟩
   .simp_all
   .exact Rel.mono (λb A=>.inl A) (λv cv O=>Am.same wr (λi b A=>e b (wr.lt i b A)) v cv O) _ _ _ (λb A=>A.elim (λA=>e b (wr.Dlt b A)) λh=>h.elim) (B k E)
  .rcases h with h|h
   .have:=wr.Dlt b h;simp;omega
   .simp;omega
 refine⟨_,M,Av.new (ob:=.cells (a.eval x).cells t) (v':=.pointer (some ⟨w.heap.size,0,none⟩)) wr ?_ ⟨_,HX wr.Dlt (s:=false) (cap:=1) (by omega) (Nat.le_refl _) (by unfold maxLen;omega) (λ_=>rfl) λi k Z E=>?_,λb h=>h⟩⟩
 .unfold execOp;rw[ho];simp[Instr.box,newVar,newRow]
 .obtain rfl:i=0:=by omega
  simp only[Nat.zero_mul,Nat.zero_add];show Rel D w noR ((cellsV v).getD k .dead) _ noF;refine CX (aET.1 L _ ?_) (B k E);rw[gDE,gEE E];exact List.getElem_mem E
def W5(e:Bool)(sz n:Nat)(zero:List Value):V:=arr true sz (λx=>x) [] (List.replicate n (zero.map .c))
theorem U7{R:V->Value->Prop}(e:Bool)(sz n:Nat)(zero:List Value)(B:zero.length=sz){cv:Value}{fp:Nat->Prop}(h:Rel D w R (.nd true true sz n λ_ k=>.c (zero.getD k undef)) cv fp):Rel D w R (W5 e sz n zero) cv fp:=by
 have A:Rel D w R (arr true sz (λx=>x) [] (List.replicate n (zero.map .c))) cv fp:=by
  refine Rel.eqv _ _ _ _ ?_ h;refine⟨λi k=>((List.replicate n (zero.map V.c)).getD i []).getD k .dead,by simp[arr],λi k J E=>?_⟩
  have:((List.replicate n (zero.map V.c)).getD i []).getD k .dead=.c (zero.getD k undef):=by
   grind
  trivial
 trivial
def WM(A:Option SlI)(e:Bool)(l c:V)(K:V->Prop):Prop:=
 match A,l,c with
 |some ⟨_,size,bytes,zero⟩,.c (.int _ l),.c (.int _ c)=>0<size/\(0<=l/\l<=c/\(bytes:Int)*c<=281474976710656/\c<=9223372036854775807)/\K (W5 e size l.toNat zero)
 |_,_,_=>False
theorem Px(wr:Bs σ w D ρ F){vl vc:V}{l c:Operand}(ho:o.op=.makeSlice t l c)(hl:OpR σ w D ρ F vl (a.eval l))(hc:OpR σ w D ρ F vc (a.eval c)){A:Bool}(h:WM (slI P t) A vl vc K):∃r,K r/\Av P o a w σ D ρ r:=by
 unfold WM at h;split at h
 case h_2=>exact h.elim
 rename_i e size bytes zero kl Z kc B hsi;obtain⟨hu,i0,z,Y,hz,L,W,J,E,M⟩:=C8 hsi;simp only at hu Y L W J E M;obtain⟨hpos,⟨h1,h2,h3,h4⟩,hK⟩:=h;obtain⟨_,hl,_⟩:=hl;obtain⟨_,hc,_⟩:=hc;have O:=run_make (P:=P) w t e i0 z hu Y hz kl kc Z B h1 h2 (by rw[W];exact h3) h4
 refine⟨_,hK,Av.new (ob:=.cells (madeCells z.cells (B.toNat*i0.size)) e) (v':=.slice (some ⟨w.heap.size,0,none⟩) Z.toNat B.toNat) wr ?_ ⟨_,U7 A size Z.toNat zero (by rw[<-E,<-J];simp) (HX wr.Dlt (s:=true) (cap:=B.toNat) ?_ (by omega) (by unfold maxLen;omega) (λh=>by cases h) λi k hi hk=>?_),λb h=>h⟩⟩
 .have e1:a.eval l=.int kl Z:=hl.1
  have e2:a.eval c=.int kc B:=hc.1;unfold execOp;rw[ho];simp[e1,e2,O]
 .rw[size_madeCells,L];exact Nat.le_refl _
 .have hlt:i*size+k<B.toNat*i0.size:=by
   rw[L];have:(i+1)*size<=B.toNat*size:=Nat.mul_le_mul_right _ (by omega)
   rw[Nat.add_mul]at this;omega
  have U:k<z.cells.size:=by omega
  have hm:(i*size+k) % z.cells.size=k:=by rw[E,Nat.mul_comm,Nat.mul_add_mod,Nat.mod_eq_of_lt hk]
  have e1:(madeCells z.cells (B.toNat*i0.size)).getD (i*size+k) undef=zero.getD k undef:=by
   unfold madeCells;simp only[Array.getD_eq_getD_getElem?,Array.getElem?_map,Array.getElem?_range,hlt,if_true,Option.map_some,Option.getD_some,hm];rw[<-J,getElem!_pos z.cells k U];simp[U]
  rw[e1];refine⟨rfl,M _ ?_,λ_ h=>h⟩
  grind
def Ht(b:ByteArray):List Int:=b.data.toList.map λx=>(x.toNat:Int)
def Dv(b:ByteArray):(Ht b).length=b.size:=by
 unfold Ht;simp
def bytesV(b:ByteArray):V:=.nd true true 1 (Ht b).length λi k=>([V.c (.int .u8 ((Ht b).getD i 0))]:List V).getD k .dead
def cvB(P:Program)(s d:TypeId):Option TypeId:=
 match P.underlying s,P.underlying d with
 |some .string,some (.slice e)=>match P.underlying e with
  |some (.int .u8)=>some e
  |_=>none
 |_,_=>none
theorem Zp{e:TypeId}(h:cvB P s d=some e):P.underlying s=some .string/\P.underlying d=some (.slice e)/\P.underlying e=some (.int .u8):=by
 unfold cvB at h
 grind
def DI(P:Program)(σ:List V)(s d:TypeId)(x:V)(K:V->Prop):Prop:=
 match cvB P s d,x with
 |some _,.c (.string b)=>b.size<=9223372036854775807/\K (bytesV b)
 |some _,_=>False
 |none,x=>N6 P σ s d x K
theorem Zr(h:cvI P s d≠.other):cvB P s d=none:=by
 unfold cvB;split
 .unfold cvI at h
  grind
 rfl
def JW{σ:List V}{x:V}{K:V->Prop}(h:cvI P s d≠.other):DI P σ s d x K=N6 P σ s d x K:=by
 unfold DI;rw[Zr h]
def N5(wr:Bs σ w D ρ F)(ho:o.op=.convert s d x)(M:OpR σ w D ρ F v (a.eval x))(h:DI P σ s d v K):∃r,K r/\Av P o a w σ D ρ r:=by
 unfold DI at h;split at h
 case h_2=>exact h.elim
 case h_3=>exact PA wr ho M h
 rename_i e b J;obtain⟨hs,hd,he⟩:=Zp J;obtain⟨U,hK⟩:=h;obtain⟨_,M,_⟩:=M;have e1:a.eval x=.string b:=M.1;have B:=run_bytes_of_string (P:=P) w s d e b hs hd he;have Y:b.size<=grownCap w b.size 0 e:=grownCap_ge w b.size 0 e
 have E:∀i,i<b.size->(bytesRow b (grownCap w b.size 0 e))[i]? =some (.int .u8 ((Ht b).getD i 0)):=λi O=>by
  have L:i<b.data.size:=O;unfold bytesRow Ht;rw[Array.getElem?_append_left (by simpa using L),Array.getElem?_map,Array.getElem?_eq_getElem L,Option.map_some,gDE,List.getElem?_map,gEE (by simpa using L)]
  rfl
 have W:(bytesRow b (grownCap w b.size 0 e)).size=grownCap w b.size 0 e:=by
  have L:b.data.size=b.size:=rfl;unfold bytesRow;rw[Array.size_append,Array.size_map,Array.size_replicate,L];omega
 refine⟨_,hK,λnext Q hn=>?_⟩
 unfold Oper.wp;obtain⟨C,hC⟩:∃C,C=bytesRow b (grownCap w b.size 0 e):=⟨_,rfl⟩;rw[<-hC]at B E W
 have Z:(execOp a.eval o).run P w=.ok (.value (.slice (some ⟨w.heap.size,0,none⟩) b.size (grownCap w b.size 0 e))) (w.drew.alloc (.cells C e (C.size,C.size+1))):=by
  unfold execOp;rw[ho];simp[e1,B]
 rw[Z];have A:(w.drew.alloc (.cells C e (C.size,C.size+1))).heap[w.heap.size]? =some (.cells C e (C.size,C.size+1)):=heap_alloc_new w.drew _;have hlt:w.heap.size<(w.drew.alloc (.cells C e (C.size,C.size+1))).heap.size:=(Array.getElem?_eq_some_iff.1 A).1
 refine hn _ _ D (λc=>c=w.heap.size) ⟨rfl,rfl,rfl,by omega,λk hk=>heap_alloc_old w.drew _ hk,Nat.le_succ _⟩ (.inr ⟨w.heap.size,0,grownCap w b.size 0 e,λ_ _=>noF,by rw[Dv];rfl,by rw[Dv];exact Y,by rw[Dv];exact U,(λh=>by cases h),λi k O hk=>?_,(λh=>by cases h),
   λ_=>⟨⟨C,e,⟨_,A,.inr (Nat.le_refl _)⟩,by omega⟩,λ_ _ _ _ h=>h,λ_ _ _ _ _ _ _ _ _ _ h=>h.elim,λx=>⟨λh=>.inl h,λh=>h.elim id fun⟨_,_,_,_,h⟩=>h.elim⟩⟩⟩) (λc J=>by
   have:c=w.heap.size:=J;omega) (λ_ h=>h) (λ_ h=>.inl h) (λc J=>⟨by have:=wr.Dlt c J;omega,λh=>by have:=wr.Dlt c J;have L:c=w.heap.size:=h;omega⟩)
 rw[Dv]at O;obtain rfl:k=0:=by omega
 refine⟨_,?_,rfl,rfl,λ_ h=>h⟩
 unfold World.cell?;simp only[A,Option.isSome_none,Bool.false_eq_true,if_false];rw[show 0+i*1+0=i by omega]
 exact E i O
def BS(σ:List V):V->V
 |.rs id p off len=>match sub p (σ.getD id .dead)with
  |.nd _ _ sz _ f=>.nd true false sz len λi k=>frz (f (off+i) k)
  |_=>.dead
 |.rp id p i k=>match sub p (σ.getD id .dead)with
  |.nd _ _ sz _ f=>.nd false false (sz-k) 1 λi' j=>if i'=0 then frz (f i (k+j))else .dead
  |_=>.dead
 |.rm id p=>match sub p (σ.getD id .dead)with
  |.mp _ l=>.mp false l
  |_=>.dead
 |.many t n f=>if t=.bx then .nd false false n 1 λi k=>if i=0 then BS σ (f k)else .dead else .many t n λk=>BS σ (f k)
 |v=>frz v
def AT:V->Bool
 |.rs ..=>true
 |.rp ..=>true
 |.rm ..=>true
 |.mp own _=>own
 |.nd _ own _ _ _=>own
 |.many _ n f=>(List.range n).any λk=>AT (f k)
 |_=>false
theorem Y1(wr:Bs σ w D ρ F):∀(v:V) (cv:Value) (fp:Nat->Prop),Rel D w (Am σ ρ w) v cv fp->(AT v=true\/∀b,¬fp b)->
  Rel (λb=>D b\/(AT v=true/\(fp b\/∃i,F i b))) w noR (BS σ v) cv noF:=by
 intro v
 induction v with
 |c v=>intro cv fp h _;exact⟨h.1,h.2.1,λ_ h=>h⟩
 |dead=>intro cv fp h _;exact λ_ h=>h
 |many t n f ih=>
  intro cv fp h E;obtain⟨cs,F',L,hn,hr,hd,hf⟩:=h
  have U:∀k,k<n->Rel (λb=>D b\/(AT (.many t n f)=true/\(fp b\/∃i,F i b))) w noR (BS σ (f k)) (cs.getD k undef) noF:=by
   intro k J
   have hla:AT (f k)=true->AT (.many t n f)=true:=λh=>by
    unfold AT;rw[List.any_eq_true];exact⟨k,List.mem_range.2 J,h⟩
   have hl':AT (f k)=true\/∀b,¬F' k b:=by
    cases hlk:AT (f k)with
    |true=>exact .inl rfl
    |false=>
     right;refine AF (f k) _ _ ?_ (hr k J);have:∀v:V,AT v=false->AS v=false:=by
      intro v
      induction v with
      |many t n f ih=>
       intro h;unfold AT at h;unfold AS;rw[List.any_eq_false]at h⊢;intro k J;simpa using ih k (by simpa using h k J)
      |nd s own sz n f _=>intro h;exact h
      |mp own l=>intro h;exact h
      |_=>intro _;rfl
     exact this _ hlk
   exact Rel.mono (λb B=>B.imp id fun⟨h1,h2⟩=>⟨hla h1,h2.imp (λh=>(hf b).2 ⟨k,J,h⟩) id⟩) (λ_ _ h=>h) _ _ _ (λ_ _=>rfl) (ih k _ _ (hr k J) hl')
  unfold BS;split
  .rename_i ht
   subst ht;obtain⟨b,o,h1,h2,h3⟩:=L;refine .inr ⟨b,o,1,λ_ _=>noF,h1,Nat.le_refl _,by unfold maxLen;omega,λ_=>rfl,λi k hi J=>?_,λ_=>⟨λhp=>.inl (h2 (by omega)),λ_ _ _ _ _ h=>h,λ_ h=>h⟩,λh=>by cases h⟩
   obtain rfl:i=0:=by omega
   exact⟨cs.getD k undef,by simpa using h3 k (by omega),U k J⟩
  .exact⟨cs,λ_=>noF,L.mono (λ_ h=>.inl h) (λ_ _=>rfl),hn,U,λ_ _ _ _ _ _ h=>h.elim,λb=>⟨λh=>h.elim,fun⟨_,_,h⟩=>h⟩⟩
 |nd s own sz n f ih=>
  intro cv fp h E;have h1:=Rel.frz _ _ _ (show Rel D w noR (.nd s own sz n f) cv fp from h)
  refine Rel.mono (λb B=>B.imp id λh=>?_) (λ_ _ h=>h) _ _ _ (λ_ _=>rfl) h1
  rcases E with E|E
  .exact⟨E,.inl h⟩
  .exact absurd h (E b)
 |rs e p off len=>
  intro cv fp h _;obtain⟨⟨O,sz,n,f,cn,ha,hle,L⟩,_⟩:=h;obtain⟨W,M,A,_⟩:=Dg (w':=w) p _ _ _ _ _ (wr.rel e O) (λb B h=>wr.dD e b h B) ha
  have Z:=Rel.frz _ _ _ M;unfold BS;rw[<-At.sub ha];simp only[Go.Ve.frz]at Z;obtain⟨ad,cap,hcn,hcap,hmax,hc⟩:=OH Z;have hD:∀b,(D b\/W b)->D b\/(AT (.rs e p off len)=true/\(fp b\/∃i,F i b)):=λb B=>B.imp id λh=>⟨rfl,.inr ⟨e,A b h⟩⟩
  rcases L with⟨b,o',cap',rfl,rfl⟩|⟨rfl,Y,rfl,_⟩
  .simp only[AD,if_true,Value.slice.injEq]at hcn
   obtain⟨rfl,-,rfl⟩:=hcn;rcases hc with⟨_,hc0,a0,h,hn0⟩|⟨b2,o2,h,hc⟩
   .simp only[Value.slice.injEq]at h
    exact absurd rfl (hn0 _ h.1.symm)
   .simp only[Option.some.injEq,Addr.mk.injEq,and_true]at h
    obtain⟨rfl,rfl⟩:=h;refine .inr ⟨b,o'+off*sz,cap'-off,λ_ _=>noF,by simp[AD],by omega,by omega,(λh=>by cases h),λi k hi J=>?_,λ_=>⟨λhp=>?_,λ_ _ _ _ _ h=>h,λ_ h=>h⟩,λh=>by cases h⟩
    .obtain⟨_,y,hy,hry⟩:=hc (off+i) k (by omega) J
     exact⟨y,by rw[<-hy];congr 2;rw[Nat.add_mul];omega,Rel.mono hD (λ_ _ h=>h) _ _ _ (λ_ _=>rfl) hry⟩
    .have hp1:0<len:=Nat.pos_of_mul_pos_right hp
     have hp2:0<sz:=Nat.pos_of_mul_pos_left hp;exact hD b (hc off 0 (by omega) hp2).1
  .cases Y with
   |none=>exact .inl ⟨rfl,rfl,.inl rfl,λ_ h=>h⟩
   |some Y=>exact .inr ⟨Y.1,Y.2,0,λ_ _=>noF,rfl,Nat.le_refl _,Nat.zero_le _,(λh=>by cases h),λi k hi J=>by omega,λ_=>⟨λhp=>by simp at hp,λ_ _ _ _ _ h=>h,λ_ h=>h⟩,λh=>by cases h⟩
 |rp e p i k=>
  intro cv fp h _;obtain⟨⟨O,s,sz,n,f,b,o',cap,ha,hi,J,rfl⟩,_⟩:=h;obtain⟨W,M,A,_⟩:=Dg (w':=w) p _ _ _ _ _ (wr.rel e O) (λb B h=>wr.dD e b h B) ha
  have Z:=Rel.frz _ _ _ M;unfold BS;rw[<-At.sub ha];simp only[Go.Ve.frz]at Z;obtain⟨b2,o2,cap2,L,hcap,hc⟩:=Kc Z (by omega)
  obtain⟨rfl,rfl,_⟩:=Az L;have hD:∀b,(D b\/W b)->D b\/(AT (.rp e p i k)=true/\(fp b\/∃i,F i b)):=λb B=>B.imp id λh=>⟨rfl,.inr ⟨e,A b h⟩⟩
  refine .inr ⟨b,o'+i*sz+k,1,λ_ _=>noF,by simp[AD],Nat.le_refl _,by unfold maxLen;omega,λ_=>rfl,λj l hj E=>?_,λ_=>⟨λ_=>hD b (hc i k hi J).1,λ_ _ _ _ _ h=>h,λ_ h=>h⟩,λh=>by cases h⟩
  obtain rfl:j=0:=by omega
  obtain⟨_,y,hy,hry⟩:=hc i (k+l) hi (by omega)
  exact⟨y,by simpa [Nat.add_assoc]using hy,Rel.mono hD (λ_ _ h=>h) _ _ _ (λ_ _=>rfl) hry⟩
 |rm e p=>
  intro cv fp h _;obtain⟨⟨O,l,b,ha,rfl⟩,_⟩:=h;obtain⟨W,M,A,_⟩:=Dg (w':=w) p _ _ _ _ _ (wr.rel e O) (λb B h=>wr.dD e b h B) ha
  have Z:=Rel.frz _ _ _ M;unfold BS;rw[<-At.sub ha];exact Rel.mono (λb B=>B.imp id λh=>⟨rfl,.inr ⟨e,A b h⟩⟩) (λ_ _ h=>h) _ _ _ (λ_ _=>rfl) Z
 |mp own l=>
  intro cv fp h E;have h1:=Rel.frz _ _ _ (show Rel D w noR (.mp own l) cv fp from h)
  refine Rel.mono (λb B=>B.imp id λh=>?_) (λ_ _ h=>h) _ _ _ (λ_ _=>rfl) h1
  rcases E with E|E
  .exact⟨E,.inl h⟩
  .exact absurd h (E b)
end ops
end Go.Ve

