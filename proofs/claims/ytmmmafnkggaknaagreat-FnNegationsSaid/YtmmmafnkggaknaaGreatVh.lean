/- The quiet operations of the small machine: structs, boxes, make; calls by contract. -/
import Derived.Laws.IdiomStrings
import Derived.Laws.AppendOwn
import Derived.Test.YtmmmafnkggaknaaGreatVg
set_option linter.all false
namespace Go.Ve
variable{D:Nat->Prop}{x:Operand}{P:Program}{d s t:TypeId}{v:V}{w:World}
def BC:V->Prop
 |.c _=>True
 |.dead=>True
 |.many t n f=>t≠.bx/\∀k,k<n->BC (f k)
 |.nd _ own sz n f=>own=true/\∀i k,i<n->k<sz->BC (f i k)
 |_=>False
theorem Rel.ownOnly'{D':Nat->Prop}:∀(v:V) (R R':V->Value->Prop) (cv:Value) (fp:Nat->Prop),BC v->Rel D w R v cv fp->Rel D' w R' v cv fp:=by
 intro v
 induction v with
 |c v=>intro R R' cv fp _ h;exact h
 |dead=>intro R R' cv fp _ h;exact h
 |many t n f W=>
  intro R R' cv fp e h;obtain⟨cs,F,J,hn,hr,hd,hf⟩:=h;have E:Ko D' w t cs cv:=by
   cases t with
   |ag=>trivial
   |tu=>trivial
   |cl g=>trivial
   |bx=>exact absurd rfl e.1
  exact⟨cs,F,E,hn,λk A=>W k _ _ _ _ (e.2 k A) (hr k A),hd,hf⟩
 |nd s own sz n f W=>
  intro R R' cv fp e h;rcases h with h|⟨b,o,cap,F,J,U,u,hs,hr,hi,ho'⟩
  .exact .inl h
  refine .inr ⟨b,o,cap,F,J,U,u,hs,λi k B A=>?_,(λh=>by rw[e.1]at h;grind),ho'⟩
  obtain⟨x,hx,Z⟩:=hr i k B A;exact⟨x,hx,W i k _ _ _ _ (e.2 i k B A) Z⟩
 |rs=>intro R R' cv fp e h;trivial
 |rp=>intro R R' cv fp e h;trivial
def FC(P:Program)(f:FuncId)(args:List V)(r:V):Prop:=
 ∀(w:World) (D:Nat->Prop) (cvs:Array Value),Wok w->(∀b,D b->b<w.heap.size)->cvs.size=args.length->
  (∀i,i<args.length->Rel D w noR (args.getD i .dead) (cvs.getD i undef) noF)->
  Calls P f cvs w λe w'=>∃cv fp D',e=.returned cv/\Below w.heap.size w w'/\Rel D' w' noR r cv fp/\(∀b,fp b->w.heap.size<=b)/\
   (∀b,D b->D' b)/\(∀b,D' b->D b\/w.heap.size<=b)/\∀b,D' b->b<w'.heap.size/\¬fp b
section ops
variable {P:Program}{o:Oper}{a:Act}{w:World}{σ:List V}{D:Nat->Prop}{ρ:Nat->Value}{F:Nat->Nat->Prop}{K:V->Prop}
def arI(P:Program)(t:TypeId):Nat:=match P.underlying t with
 |some (.array m e)=>match P.info? e,P.underlying e with
  |some i,some d=>if i.size=1/\Iw d=false then m else 0
  |_,_=>0
 |_=>0
def PG(h:0<arI P t):∃e i d,P.underlying t=some (.array (arI P t) e)/\P.info? e=some i/\i.size=1/\P.underlying e=some d/\Iw d=false:=by
 generalize u:arI P t=m at h;unfold arI at u;split at u
 .rename_i J e B
  split at u
  .rename_i i d E hd
   split at u
   .rename_i A
    subst u;exact⟨e,i,d,B,E,A.1,hd,A.2⟩
   .omega
  .omega
 .omega
def YN(P:Program)(t:TypeId):Option (List (Nat×Nat)×List Value):=
 match P.info? t,P.underlying t with
 |some it,some (.struct fields)=>
  match it.zero,fields.toList.mapM (λf=>(P.info? f.type).map λi=>(f.offset,i.size))with
  |some z,some places=>if z.cells.toList.all (·.oneCell')=true then some (places,z.cells.toList)else none
  |_,_=>none
 |some it,some (.array _ _)=>
  match it.zero with
  |some z=>if 0<arI P t/\z.cells.toList.all (·.oneCell')=true then some ((List.range (arI P t)).map λk=>(k,1),z.cells.toList)else none
  |none=>none
 |_,_=>none
def Nl{A u:Nat->Option (Nat×Nat)}(h:∀i p,A i=some p->u i=some p):∀(e:List (Nat×Value)) (cells r:Array Value),Instr.fill A cells e=some r->Instr.fill u cells e=some r
 |[],_,_,hf=>hf
 |(i,v)::rest,cells,r,hf=>by
  unfold Instr.fill at hf⊢;cases B:A i with
  |none=>rw[B]at hf;cases hf
  |some p=>
   rw[B]at hf;rw[h i p B];simp only at hf⊢;split at hf
   .cases hf
   .rename_i E
    rw[if_neg E];exact Nl h rest _ _ hf
def Lh(m:Nat)(x ix:V)(K:V->Prop):Prop:=
 match x,ix with
 |.many .ag n f,.c (.int _ i)=>n=m/\(0<=i/\i<(m:Int))/\AL (f i.toNat)=false/\K (f i.toNat)
 |_,_=>False
theorem Lg(wr:BG σ w D ρ F){vi:V}{ix:Operand}(ht:0<arI P t)(ho:o.op=.index t x ix)(hv:OpR σ w D ρ F v (a.eval x))(J:OpR σ w D ρ F vi (a.eval ix))(h:Lh (arI P t) v vi K):∃r,K r/\Aw P o a w σ D ρ r:=by
 obtain⟨e,ie,d,hu,hie,hs,hd,hag⟩:=PG ht;generalize arI P t=m at*;unfold Lh at h;obtain⟨fp,Z,_⟩:=hv;obtain⟨_,W,_⟩:=J;split at h<;>try (exact h.elim)
 rename_i n f k i;obtain⟨rfl,⟨h1,h2⟩,hto,hK⟩:=h;obtain⟨cs,F',A,hn,Z,_,_⟩:=Z;have A:a.eval x=.agg cs:=A;have h3:i.toNat<cs.size:=by omega
 have h4:=Z i.toNat (by omega)
 have e1:=A6 (AE _ _ _ hto h4);rw[e1]at h4
 have B:cs[i.toNat]? =some (cs.getD i.toNat undef):=by
  rw[Array.getD_eq_getD_getElem?,getElem?_pos cs i.toNat h3];rfl
 refine⟨_,hK,Aw.pure wr ?_ h4⟩
 have E:∀w,(isAgg e).run P w=.ok false w:=λw=>by
  unfold isAgg;simp only[Sem.run_bind,run_underlying hd];cases d<;>first|rfl|cases hag
 have U:∀w,(sizeOf e).run P w=.ok ie.size w:=λw=>by
  simp[sizeOf,typeInfo,hie]
 have u:∀w,(part e cs i.toNat).run P w=.ok (cs.getD i.toNat undef) w:=λw=>by
  simp only[part,Sem.run_bind,E,B];rfl
 unfold execOp;rw[ho];simp only[Instr.index];simp[run_underlying hu,A,W.1,asIntOf,h1,h2,U,hs,u]
def KQ{places:List (Nat×Nat)}{zero:List Value}(u:YN P t=some (places,zero)):∃z:Value,z.cells.toList=zero/\(∀v∈zero,v.oneCell'=true)/\∀A cells,Instr.fill (λi=>places[i]?) z.cells A=some cells->P.built t A=some cells:=by
 unfold YN at u;split at u
 .rename_i it Z hit U
  split at u<;>try (cases u;done)
  rename_i z places' hz hpl;split at u<;>try (cases u;done)
  rename_i B;simp only[Option.some.injEq,Prod.mk.injEq]at u;obtain⟨rfl,rfl⟩:=u;refine⟨z,rfl,aET.1 B,λA cells hf=>?_⟩
  unfold Program.built;simp only[hit,U,hz,hpl];simpa using hf
 .rename_i it m e hit U
  split at u<;>try (cases u;done)
  rename_i z hz;split at u<;>try (cases u;done)
  rename_i B;simp only[Option.some.injEq,Prod.mk.injEq]at u;obtain⟨rfl,rfl⟩:=u;obtain⟨e',ie,_,E,hie,hs,_⟩:=PG B.1;rw[U]at E;simp only[Option.some.injEq,TypeDesc.array.injEq]at E;obtain⟨_,rfl⟩:=E;refine⟨z,rfl,aET.1 B.2,λA cells hf=>?_⟩
  unfold Program.built;simp only[hit,U,hz,hie];refine Nl (λi p J=>?_) _ _ _ hf
  rw[List.getElem?_map]at J;cases W:(List.range (arI P t))[i]? with
  |none=>rw[W]at J;cases J
  |some j=>
   rw[W]at J;have hj:i=j:=by
    rw[List.getElem?_eq_some_iff]at W;obtain⟨h1,h2⟩:=W;rw[List.getElem_range]at h2;exact h2
   subst hj;simp only[Option.map_some,Option.some.injEq]at J;rw[<-J,hs,Nat.mul_one]
 .cases u
def Kl(u:Option (List (Nat×Nat)×List Value))(e:List (Nat×V))(K:V->Prop):Prop:=
 match u with
 |some (places,zero)=>e.all (λp=>By p.2)=true/\match Cd (λi=>places[i]?) (zero.map .c) e with
  |some l=>K (An l)
  |none=>False
 |none=>False
theorem MS(wr:BG σ w D ρ F){ps:Array (Nat×Operand)}{W:List (Nat×V)}(ho:o.op=.build t ps)(hv:KW σ w D ρ F W (ps.toList.map λp=>(p.1,a.eval p.2)))
  (h:Kl (YN P t) W K):∃r,K r/\Aw P o a w σ D ρ r:=by
 unfold Kl at h;split at h
 case h_2=>exact h.elim
 rename_i places zero U;obtain⟨hp,h⟩:=h;split at h
 case h_2=>exact h.elim
 rename_i l hl;obtain⟨z,rfl,J,e⟩:=KQ U
 have A:OI D w (Au σ ρ w) (z.cells.toList.map .c) z.cells:=by
  refine⟨by simp,λj hj=>?_⟩
  simp at hj;simp[hj];exact⟨rfl,J _ (by simp),λ_ h=>h⟩
 obtain⟨E,B,u⟩:=Ig hl hp hv A;have Z:=run_build w t (ps.map λp=>(p.1,a.eval p.2)) E (e _ _ (by simpa using B))
 refine⟨_,h,Aw.pure wr (v':=.agg E) ?_ ?_⟩
 .unfold execOp;simp_all
 .exact⟨E,λ_=>noF,rfl,u.1,λk hk=>u.2 k hk,λ_ _ _ _ _ _ h=>h.elim,λb=>⟨λh=>h.elim,fun⟨_,_,h⟩=>h⟩⟩
def MU(e:Option TyI)(K:V->Prop):Prop:=
 match e with
 |some ⟨_,size,zero⟩=>0<size/\K (Bj true (zero.map .c))
 |none=>False
theorem MT(wr:BG σ w D ρ F)(ho:o.op=.alloc t)(h:MU (tyI P t) K):∃r,K r/\Aw P o a w σ D ρ r:=by
 unfold MU at h;split at h
 case h_2=>exact h.elim
 rename_i ag size zero J;obtain⟨d,i,z,hd,Z,hz,W,u,A,E,_⟩:=CN J;simp only at W u A E;obtain⟨hpos,hK⟩:=h;refine⟨_,hK,Aw.new (ob:=.cells z.cells t) (v':=.pointer (some ⟨w.heap.size,0,none⟩)) wr ?_ ⟨_,Rel.eqv _ _ _ _ (show Eqv (.nd false true size 1 λ_ k=>.c (zero.getD k undef)) (Bj true (zero.map .c))from ?_) (Hy wr.Dlt (s:=false) (cap:=1) (by omega) (Nat.le_refl _) (by unfold maxLen;omega) (λ_=>rfl) λi k Z hk=>?_),λb h=>h⟩⟩
 .unfold execOp;rw[ho];simp[Instr.alloc,zeroValue,typeInfo,Z,hz,newVar,newRow]
 .have B:zero.length=size:=by rw[<-A,<-u];simp
  refine⟨λi k=>([zero.map V.c].getD i []).getD k .dead,by unfold Bj;rw[List.length_map,B],λi k Z hk=>?_⟩
  obtain rfl:i=0:=by omega
  have U:k<zero.length:=by omega
  have e:([zero.map V.c].getD 0 []).getD k .dead=.c (zero.getD k undef):=by simp[U]
  show Eqv _ (([zero.map V.c].getD 0 []).getD k .dead);rw[e];exact Eqv.refl _
 .obtain rfl:i=0:=by omega
  have hk':k<z.cells.size:=by omega
  have e1:zero.getD k undef=z.cells.getD k undef:=by rw[<-u];simp
  simp only[Nat.zero_mul,Nat.zero_add];refine⟨e1.symm,E _ ?_,λ_ h=>h⟩
  grind
def boxL(l:List V):V:=.many .bx l.length λk=>l.getD k .dead
def qBox(v:V)(K:V->Prop):Prop:=By v=true/\(((cellsV v).all Cc=true/\K (Bj true (cellsV v)))\/K (boxL (cellsV v)))
theorem Qm(wr:BG σ w D ρ F)(Z:o.op=.box t x)(W:OpR σ w D ρ F v (a.eval x))(h:qBox v K):∃r,K r/\Aw P o a w σ D ρ r:=by
 obtain⟨hp,U⟩:=h;obtain⟨fp,hr,_⟩:=W;obtain⟨⟨hs,A⟩,_⟩:=Ce (λv cv h=>Au.one h) hp hr
 rcases U with⟨J,U⟩|U
 rotate_left
 .refine⟨_,U,λnext Q hn=>?_⟩
  have E:(execOp a.eval o).run P w=.ok (.value (.pointer (some ⟨w.heap.size,0,none⟩))) (w.alloc (.cells (a.eval x).cells t)):=by
   unfold execOp;rw[Z];simp[Instr.box,newVar,newRow]
  unfold Oper.wp;rw[E];have e:∀b,b<w.heap.size->(w.alloc (.cells (a.eval x).cells t)).heap[b]? =w.heap[b]?:=λb u=>Below.heap_alloc _ _ _ u
  refine hn _ _ (λb=>D b\/b=w.heap.size) noF ((Below.refl _ _).alloc (Nat.le_refl _) _) ?_ (λ_ h=>h.elim) (λ_ h=>.inl h) (λb h=>h.imp id λh=>by omega) (λb h=>⟨?_,λh=>h⟩)
  .refine⟨(a.eval x).cells,λ_=>noF,⟨w.heap.size,0,rfl,λ_=>.inr rfl,λk B=>?_⟩,hs,λk B=>?_,λ_ _ _ _ _ _ h=>h.elim,λb=>⟨λh=>h.elim,fun⟨_,_,h⟩=>h⟩⟩
   .simp_all
   .exact Rel.mono (λb u=>.inl u) (λv cv W=>Au.same wr (λi b u=>e b (wr.lt i b u)) v cv W) _ _ _ (λb u=>u.elim (λu=>e b (wr.Dlt b u)) λh=>h.elim) (A k B)
  .rcases h with h|h
   .have:=wr.Dlt b h;simp;omega
   .simp;omega
 refine⟨_,U,Aw.new (ob:=.cells (a.eval x).cells t) (v':=.pointer (some ⟨w.heap.size,0,none⟩)) wr ?_ ⟨_,Hy wr.Dlt (s:=false) (cap:=1) (by omega) (Nat.le_refl _) (by unfold maxLen;omega) (λ_=>rfl) λi k hi B=>?_,λb h=>h⟩⟩
 .unfold execOp;rw[Z];simp[Instr.box,newVar,newRow]
 .obtain rfl:i=0:=by omega
  simp only[Nat.zero_mul,Nat.zero_add];show Rel D w noR ((cellsV v).getD k .dead) _ noF;refine CH (aET.1 J _ ?_) (A k B);rw[gDE,gEE B];exact List.getElem_mem B
def Vw(e:Bool)(sz n:Nat)(zero:List Value):V:=arr true sz (λx=>x) [] (List.replicate n (zero.map .c))
theorem Qw{R:V->Value->Prop}(e:Bool)(sz n:Nat)(zero:List Value)(A:zero.length=sz){cv:Value}{fp:Nat->Prop}(h:Rel D w R (.nd true true sz n λ_ k=>.c (zero.getD k undef)) cv fp):Rel D w R (Vw e sz n zero) cv fp:=by
 have u:Rel D w R (arr true sz (λx=>x) [] (List.replicate n (zero.map .c))) cv fp:=by
  refine Rel.eqv _ _ _ _ ?_ h;refine⟨λi k=>((List.replicate n (zero.map V.c)).getD i []).getD k .dead,by simp[arr],λi k E B=>?_⟩
  have:((List.replicate n (zero.map V.c)).getD i []).getD k .dead=.c (zero.getD k undef):=by
   grind
  trivial
 trivial
def Vf(u:Option SlI)(e:Bool)(l c:V)(K:V->Prop):Prop:=
 match u,l,c with
 |some ⟨_,size,bytes,zero⟩,.c (.int _ l),.c (.int _ c)=>0<size/\(0<=l/\l<=c/\(bytes:Int)*c<=281474976710656/\c<=9223372036854775807)/\K (Vw e size l.toNat zero)
 |_,_,_=>False
theorem N3(wr:BG σ w D ρ F){vl vc:V}{l c:Operand}(ho:o.op=.makeSlice t l c)(hl:OpR σ w D ρ F vl (a.eval l))(hc:OpR σ w D ρ F vc (a.eval c)){u:Bool}(h:Vf (slI P t) u vl vc K):∃r,K r/\Aw P o a w σ D ρ r:=by
 unfold Vf at h;split at h
 case h_2=>exact h.elim
 rename_i e size bytes zero kl li kc A hsi;obtain⟨hu,i0,z,hi0,hz,J,hib,E,B,U⟩:=DN hsi;simp only at hu hi0 J hib E B U;obtain⟨hpos,⟨h1,h2,h3,h4⟩,hK⟩:=h;obtain⟨_,hl,_⟩:=hl;obtain⟨_,hc,_⟩:=hc;have W:=run_make (P:=P) w t e i0 z hu hi0 hz kl kc li A h1 h2 (by rw[hib];exact h3) h4
 refine⟨_,hK,Aw.new (ob:=.cells (madeCells z.cells (A.toNat*i0.size)) e) (v':=.slice (some ⟨w.heap.size,0,none⟩) li.toNat A.toNat) wr ?_ ⟨_,Qw u size li.toNat zero (by rw[<-B,<-E];simp) (Hy wr.Dlt (s:=true) (cap:=A.toNat) ?_ (by omega) (by unfold maxLen;omega) (λh=>by cases h) λi k hi hk=>?_),λb h=>h⟩⟩
 .have e1:a.eval l=.int kl li:=hl.1
  have e2:a.eval c=.int kc A:=hc.1;unfold execOp;rw[ho];simp[e1,e2,W]
 .rw[size_madeCells,J];exact Nat.le_refl _
 .have hlt:i*size+k<A.toNat*i0.size:=by
   rw[J];have:(i+1)*size<=A.toNat*size:=Nat.mul_le_mul_right _ (by omega)
   rw[Nat.add_mul]at this;omega
  have Z:k<z.cells.size:=by omega
  have hm:(i*size+k) % z.cells.size=k:=by rw[B,Nat.mul_comm,Nat.mul_add_mod,Nat.mod_eq_of_lt hk]
  have e1:(madeCells z.cells (A.toNat*i0.size)).getD (i*size+k) undef=zero.getD k undef:=by
   unfold madeCells;simp only[Array.getD_eq_getD_getElem?,Array.getElem?_map,Array.getElem?_range,hlt,if_true,Option.map_some,Option.getD_some,hm];rw[<-E,getElem!_pos z.cells k Z];simp[Z]
  rw[e1];refine⟨rfl,U _ ?_,λ_ h=>h⟩
  grind
def MN(P:Program)(σ:List V)(s d:TypeId)(x:V)(K:V->Prop):Prop:=Ql P σ s d x K
def Vg{σ:List V}{x:V}{K:V->Prop}(h:cvI P s d≠.other):MN P σ s d x K=Ql P σ s d x K:=rfl
def MM(wr:BG σ w D ρ F)(u:o.op=.convert s d x)(e:OpR σ w D ρ F v (a.eval x))(h:MN P σ s d v K):∃r,K r/\Aw P o a w σ D ρ r:=N5 wr u e h
def BR(σ:List V):V->V
 |.rs id p off len=>match sub p (σ.getD id .dead)with
  |.nd _ _ sz _ f=>.nd true false sz len λi k=>frz (f (off+i) k)
  |_=>.dead
 |.rp id p i k=>match sub p (σ.getD id .dead)with
  |.nd _ _ sz _ f=>.nd false false (sz-k) 1 λi' j=>if i'=0 then frz (f i (k+j))else .dead
  |_=>.dead
 |.many t n f=>if t=.bx then .nd false false n 1 λi k=>if i=0 then BR σ (f k)else .dead else .many t n λk=>BR σ (f k)
 |v=>frz v
def AM:V->Bool
 |.rs ..=>true
 |.rp ..=>true
 |.nd _ own _ _ _=>own
 |.many _ n f=>(List.range n).any λk=>AM (f k)
 |_=>false
theorem Xt(wr:BG σ w D ρ F):∀(v:V) (cv:Value) (fp:Nat->Prop),Rel D w (Au σ ρ w) v cv fp->(AM v=true\/∀b,¬fp b)->
  Rel (λb=>D b\/(AM v=true/\(fp b\/∃i,F i b))) w noR (BR σ v) cv noF:=by
 intro v
 induction v with
 |c v=>intro cv fp h _;exact⟨h.1,h.2.1,λ_ h=>h⟩
 |dead=>intro cv fp h _;exact λ_ h=>h
 |many t n f ih=>
  intro cv fp h hl;obtain⟨cs,F',A,hn,hr,hd,hf⟩:=h
  have E:∀k,k<n->Rel (λb=>D b\/(AM (.many t n f)=true/\(fp b\/∃i,F i b))) w noR (BR σ (f k)) (cs.getD k undef) noF:=by
   intro k u
   have hla:AM (f k)=true->AM (.many t n f)=true:=λh=>by
    unfold AM;rw[List.any_eq_true];exact⟨k,List.mem_range.2 u,h⟩
   have hl':AM (f k)=true\/∀b,¬F' k b:=by
    cases hlk:AM (f k)with
    |true=>exact .inl rfl
    |false=>
     right;refine AE (f k) _ _ ?_ (hr k u);have:∀v:V,AM v=false->AL v=false:=by
      intro v
      induction v with
      |many t n f ih=>
       intro h;unfold AM at h;unfold AL;rw[List.any_eq_false]at h⊢;intro k u;simpa using ih k (by simpa using h k u)
      |nd s own sz n f _=>intro h;exact h
      |_=>intro _;rfl
     exact this _ hlk
   exact Rel.mono (λb J=>J.imp id fun⟨h1,h2⟩=>⟨hla h1,h2.imp (λh=>(hf b).2 ⟨k,u,h⟩) id⟩) (λ_ _ h=>h) _ _ _ (λ_ _=>rfl) (ih k _ _ (hr k u) hl')
  unfold BR;split
  .rename_i ht
   subst ht;obtain⟨b,o,h1,h2,h3⟩:=A;refine .inr ⟨b,o,1,λ_ _=>noF,h1,Nat.le_refl _,by unfold maxLen;omega,λ_=>rfl,λi k hi u=>?_,λ_=>⟨λhp=>.inl (h2 (by omega)),λ_ _ _ _ _ h=>h,λ_ h=>h⟩,λh=>by cases h⟩
   obtain rfl:i=0:=by omega
   exact⟨cs.getD k undef,by simpa using h3 k (by omega),E k u⟩
  .exact⟨cs,λ_=>noF,A.mono (λ_ h=>.inl h) (λ_ _=>rfl),hn,E,λ_ _ _ _ _ _ h=>h.elim,λb=>⟨λh=>h.elim,fun⟨_,_,h⟩=>h⟩⟩
 |nd s own sz n f ih=>
  intro cv fp h hl;have h1:=Rel.frz _ _ _ (show Rel D w noR (.nd s own sz n f) cv fp from h)
  refine Rel.mono (λb J=>J.imp id λh=>?_) (λ_ _ h=>h) _ _ _ (λ_ _=>rfl) h1
  rcases hl with hl|hl
  .exact⟨hl,.inl h⟩
  .exact absurd h (hl b)
 |rs e p off len=>
  intro cv fp h _;obtain⟨⟨hid,sz,n,f,cn,ha,hle,A⟩,_⟩:=h;obtain⟨fp1,Z,B,_⟩:=DF (w':=w) p _ _ _ _ _ (wr.rel e hid) (λb J h=>wr.dD e b h J) ha
  have hz:=Rel.frz _ _ _ Z;unfold BR;rw[<-At.sub ha];simp only[Go.Ve.frz]at hz;obtain⟨ad,cap,hcn,hcap,hmax,hc⟩:=Ni hz;have hD:∀b,(D b\/fp1 b)->D b\/(AM (.rs e p off len)=true/\(fp b\/∃i,F i b)):=λb J=>J.imp id λh=>⟨rfl,.inr ⟨e,B b h⟩⟩
  rcases A with⟨b,o',cap',rfl,rfl⟩|⟨rfl,U,rfl,_⟩
  .simp only[AC,if_true,Value.slice.injEq]at hcn
   obtain⟨rfl,-,rfl⟩:=hcn;rcases hc with⟨_,hc0,a0,h,hn0⟩|⟨b2,o2,h,hc⟩
   .simp only[Value.slice.injEq]at h
    exact absurd rfl (hn0 _ h.1.symm)
   .simp only[Option.some.injEq,Addr.mk.injEq,and_true]at h
    obtain⟨rfl,rfl⟩:=h;refine .inr ⟨b,o'+off*sz,cap'-off,λ_ _=>noF,by simp[AC],by omega,by omega,(λh=>by cases h),λi k hi u=>?_,λ_=>⟨λhp=>?_,λ_ _ _ _ _ h=>h,λ_ h=>h⟩,λh=>by cases h⟩
    .obtain⟨_,y,hy,W⟩:=hc (off+i) k (by omega) u
     exact⟨y,by rw[<-hy];congr 2;rw[Nat.add_mul];omega,Rel.mono hD (λ_ _ h=>h) _ _ _ (λ_ _=>rfl) W⟩
    .have hp1:0<len:=Nat.pos_of_mul_pos_right hp
     have hp2:0<sz:=Nat.pos_of_mul_pos_left hp;exact hD b (hc off 0 (by omega) hp2).1
  .cases U with
   |none=>exact .inl ⟨rfl,rfl,.inl rfl,λ_ h=>h⟩
   |some U=>exact .inr ⟨U.1,U.2,0,λ_ _=>noF,rfl,Nat.le_refl _,Nat.zero_le _,(λh=>by cases h),λi k hi u=>by omega,λ_=>⟨λhp=>by simp at hp,λ_ _ _ _ _ h=>h,λ_ h=>h⟩,λh=>by cases h⟩
 |rp e p i k=>
  intro cv fp h _;obtain⟨⟨hid,s,sz,n,f,b,o',cap,ha,hi,u,rfl⟩,_⟩:=h;obtain⟨fp1,Z,B,_⟩:=DF (w':=w) p _ _ _ _ _ (wr.rel e hid) (λb J h=>wr.dD e b h J) ha
  have hz:=Rel.frz _ _ _ Z;unfold BR;rw[<-At.sub ha];simp only[Go.Ve.frz]at hz;obtain⟨b2,o2,cap2,A,hcap,hc⟩:=Jx hz (by omega)
  obtain⟨rfl,rfl,_⟩:=Az A;have hD:∀b,(D b\/fp1 b)->D b\/(AM (.rp e p i k)=true/\(fp b\/∃i,F i b)):=λb J=>J.imp id λh=>⟨rfl,.inr ⟨e,B b h⟩⟩
  refine .inr ⟨b,o'+i*sz+k,1,λ_ _=>noF,by simp[AC],Nat.le_refl _,by unfold maxLen;omega,λ_=>rfl,λj l hj hl=>?_,λ_=>⟨λ_=>hD b (hc i k hi u).1,λ_ _ _ _ _ h=>h,λ_ h=>h⟩,λh=>by cases h⟩
  obtain rfl:j=0:=by omega
  obtain⟨_,y,hy,W⟩:=hc i (k+l) hi (by omega)
  exact⟨y,by simpa [Nat.add_assoc]using hy,Rel.mono hD (λ_ _ h=>h) _ _ _ (λ_ _=>rfl) W⟩
end ops
end Go.Ve

