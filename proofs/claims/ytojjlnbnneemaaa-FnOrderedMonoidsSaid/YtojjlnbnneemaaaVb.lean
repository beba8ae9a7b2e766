/- Paths into owned trees: what lies there, and that a tree may be changed at one place. -/
import Derived.Test.YtojjlnbnneemaaaVa
import Derived.Laws.Cells
import Derived.Laws.MakeOwn
import Derived.Laws.Tables
import Derived.IntWalk
import Derived.Laws.Slices
set_option linter.all false
namespace Go.Ve
variable{s:Bool}{b cap n o:Nat}{D:Nat->Prop}{w:World}
def sub:List (Nat×Nat)->V->V
 |[],v=>v
 |(i,k)::p,.nd _ _ _ _ f=>sub p (f i k)
 |_::_,_=>.dead
def upd:List (Nat×Nat)->V->V->V
 |[],_,x=>x
 |(i,k)::p,.nd s o sz n f,x=>.nd s o sz n λi' k'=>if i'=i/\k'=k then upd p (f i k) x else f i' k'
 |_::_,v,_=>v
def At(w:World):List (Nat×Nat)->V->Value->V->Value->Prop
 |[],v,cv,v',cv'=>v'=v/\cv'=cv
 |(i,k)::p,.nd s true sz n f,cv,v',cv'=>i<n/\k<sz/\∃b o cap x,cv=AD s b o n cap/\w.cell? ⟨b,o+i*sz+k,none⟩=some x/\At w p (f i k) x v' cv'
 |_::_,_,_,_,_=>False
def KG:List (Nat×Nat)->V->Prop
 |[],_=>True
 |(i,k)::p,.nd _ own sz n f=>own=true/\i<n/\k<sz/\KG p (f i k)
 |_::_,_=>False
theorem Az{B A e:Nat}(h:AD s b o n cap=AD s B A n e):b=B/\o=A/\(s=true->cap=e):=by
 cases s
 .simp[AD]at h;grind
 .simp[AD]at h;omega
def At.sub{w:World}:∀{p:List (Nat×Nat)}{v:V}{cv:Value}{v':V}{e:Value},At w p v cv v' e->v'=sub p v
 |[],_,_,_,_,h=>h.1
 |(i,k)::p,.nd s true sz n f,_,v',_,h=>by obtain⟨_,_,_,_,_,x,_,_,h⟩:=h;exact(show v'=Go.Ve.sub p (f i k)from At.sub h)
 |_::_,.nd _ false _ _ _,_,_,_,h=>h.elim
 |_::_,.c _,_,_,_,h=>h.elim
 |_::_,.dead,_,_,_,h=>h.elim
 |_::_,.many ..,_,_,_,h=>h.elim
 |_::_,.rs ..,_,_,_,h=>h.elim
 |_::_,.rp ..,_,_,_,h=>h.elim
 |_::_,.rm ..,_,_,_,h=>h.elim
 |_::_,.mp ..,_,_,_,h=>h.elim
def At.ok{w:World}:∀{p:List (Nat×Nat)}{v:V}{cv:Value}{v':V}{e:Value},At w p v cv v' e->KG p v
 |[],_,_,_,_,h=>trivial
 |(i,k)::p,.nd s true sz n f,_,_,_,h=>by obtain⟨B,A,_,_,_,x,_,_,h⟩:=h;exact⟨rfl,B,A,At.ok h⟩
 |_::_,.nd _ false _ _ _,_,_,_,h=>h.elim
 |_::_,.c _,_,_,_,h=>h.elim
 |_::_,.dead,_,_,_,h=>h.elim
 |_::_,.many ..,_,_,_,h=>h.elim
 |_::_,.rs ..,_,_,_,h=>h.elim
 |_::_,.rp ..,_,_,_,h=>h.elim
 |_::_,.rm ..,_,_,_,h=>h.elim
 |_::_,.mp ..,_,_,_,h=>h.elim
theorem At.app{w:World}:∀{p q:List (Nat×Nat)}{v:V}{cv:Value}{v':V}{B:Value}{A:V}{e:Value},At w p v cv v' B->At w q v' B A e->At w (p++q) v cv A e
 |[],_,_,_,_,_,_,_,h,h'=>by obtain⟨rfl,rfl⟩:=h;grind
 |(i,k)::p,_,.nd s true sz n f,_,_,_,_,_,h,h'=>by
  obtain⟨O,M,b,o,cap,x,L,J,E⟩:=h;exact⟨O,M,b,o,cap,x,L,J,At.app E h'⟩
 |_::_,_,.nd _ false _ _ _,_,_,_,_,_,h,_=>h.elim
 |_::_,_,.c _,_,_,_,_,_,h,_=>h.elim
 |_::_,_,.dead,_,_,_,_,_,h,_=>h.elim
 |_::_,_,.many ..,_,_,_,_,_,h,_=>h.elim
 |_::_,_,.rs ..,_,_,_,_,_,h,_=>h.elim
 |_::_,_,.rp ..,_,_,_,_,_,h,_=>h.elim
 |_::_,_,.rm ..,_,_,_,_,_,h,_=>h.elim
 |_::_,_,.mp ..,_,_,_,_,_,h,_=>h.elim
theorem Rel.root{R:V->Value->Prop}{sz:Nat}{f:Nat->Nat->V}{fp:Nat->Prop}(h:Rel D w R (.nd s true sz n f) (AD s b o n cap) fp):fp b:=by
 rcases h with⟨_,rfl,B,_⟩|⟨J,E,A,F,e,_,_,_,_,_,ho⟩
 .exact absurd B BQ
 .obtain⟨rfl,-,-⟩:=Az e
  grind
theorem Dg{D:Nat->Prop}{w w':World}:∀(p:List (Nat×Nat)) (v:V) (cv:Value) (fp:Nat->Prop) (v1:V) (cv1:Value),
  Rel D w noR v cv fp->(∀b,D b->¬fp b)->At w p v cv v1 cv1->
  ∃J,Rel D w noR v1 cv1 J/\(∀b,J b->fp b)/\∀v2 O,Rel D w' noR v2 cv1 O->(∀b,O b->J b\/¬fp b)->
   (∀b,(D b\/fp b)->¬J b->w'.heap[b]? =w.heap[b]?)->Rel D w' noR (upd p v v2) cv (λb=>(fp b/\¬J b)\/O b):=by
 intro p
 induction p with
 |nil=>
  intro v cv fp v1 cv1 hr hD ha;obtain⟨rfl,rfl⟩:=ha;refine⟨fp,hr,λ_ h=>h,λv2 O h2 hs hw=>Rel.fp_congr (λb=>?_) h2⟩
  exact⟨λh=>.inr h,λh=>h.elim (λh=>absurd h.1 h.2) id⟩
 |cons ik p ih=>
  obtain⟨i,k⟩:=ik;intro v cv fp v1 cv1 hr hD ha
  match v,ha,hr with
  |.nd s true sz n f,ha,hr=>
   obtain⟨Y,W,b,o,cap,x,hcv,hx,ha⟩:=ha;rcases hr with⟨h0,_⟩|⟨b',o',cap',F,hcv',hcap,hmax,hs1,E,himm,ho⟩
   .omega
   subst hcv;obtain⟨rfl,rfl,hcc⟩:=Az hcv';obtain⟨⟨cs,T,hb1,hb2⟩,hbF,hFd,hfp⟩:=ho rfl;obtain⟨x',hx',hrx⟩:=E i k Y W;have:x'=x:=Option.some.inj (hx'.symm.trans hx);subst this;have B:∀c,F i k c->fp c:=λc E=>(hfp c).2 (.inr ⟨i,k,Y,W,E⟩)
   obtain⟨J,hr1,hs,hput⟩:=ih _ _ _ _ _ hrx (λc E h=>hD c E (B c h)) ha
   refine⟨J,hr1,λc E=>B c (hs c E),λv2 O h2 hs2 hw=>?_⟩
   have Z:fp b:=(hfp b).2 (.inl rfl);have hb1':¬J b:=λh=>hbF i k Y W (hs b h)
   have hwb:w'.heap[b]? =w.heap[b]?:=hw b (.inr Z) hb1';have hnew:=hput v2 O h2 (λc E=>(hs2 c E).imp id λh h'=>h (B c h')) (λc E hn=>hw c (E.imp id (B c)) hn)
   refine .inr ⟨b,o,cap',λi' k' c=>if i'=i/\k'=k then(F i k c/\¬J c)\/O c else F i' k' c,hcv',hcap,hmax,hs1,?_,(λh=>by cases h),λ_=>⟨⟨cs,T,hb1.same hwb,hb2⟩,?_,?_,?_⟩⟩
   .intro i' k' A e
    by_cases U:i'=i/\k'=k
    .obtain⟨rfl,rfl⟩:=U
     exact⟨x',by rw[Dr (w:=w) hwb];exact hx,by simpa using hnew⟩
    .obtain⟨y,hy,hry⟩:=E i' k' A e
     refine⟨y,by rw[Dr (w:=w) hwb];exact hy,?_⟩
     simp only[U,if_false];refine Rel.mono (λ_ h=>h) (λ_ _ h=>h) _ _ _ (λc E=>hw c (E.imp id λh=>(hfp c).2 (.inr ⟨i',k',A,e,h⟩)) ?_) hry
     intro h1;rcases E with hcD|hcF
     .exact hD c hcD (B c (hs c h1))
     .exact hFd i' k' i k c A e Y W (by omega) hcF (hs c h1)
   .intro i' k' A e
    by_cases U:i'=i/\k'=k
    .simp only[U,and_self,if_true]
     rintro (⟨h,_⟩|h)
     .exact hbF i k Y W h
     .rcases hs2 b h with h|h
      .exact hb1' h
      .exact h Z
    .simp only[U,if_false];exact hbF i' k' A e
   .intro i1 k1 i2 k2 c h1 h2' h3 h4 hne M L
    by_cases he1:i1=i/\k1=k<;>by_cases he2:i2=i/\k2=k
    .omega
    .simp only[he1,and_self,if_true]at M
     simp only[he2,if_false]at L;rcases M with⟨h,_⟩|h
     .exact hFd i k i2 k2 c Y W h3 h4 (by omega) h L
     .rcases hs2 c h with h|h
      .exact hFd i k i2 k2 c Y W h3 h4 (by omega) (hs c h) L
      .exact h ((hfp c).2 (.inr ⟨i2,k2,h3,h4,L⟩))
    .simp only[he2,and_self,if_true]at L
     simp only[he1,if_false]at M;rcases L with⟨h,_⟩|h
     .exact hFd i k i1 k1 c Y W h1 h2' (by omega) h M
     .rcases hs2 c h with h|h
      .exact hFd i k i1 k1 c Y W h1 h2' (by omega) (hs c h) M
      .exact h ((hfp c).2 (.inr ⟨i1,k1,h1,h2',M⟩))
    .simp only[he1,if_false]at M
     simp only[he2,if_false]at L;exact hFd i1 k1 i2 k2 c h1 h2' h3 h4 hne M L
   .intro c
    constructor
    .rintro (⟨E,hn⟩|E)
     .rcases(hfp c).1 E with rfl|⟨i',k',A,e,hF⟩
      .exact .inl rfl
      .refine .inr ⟨i',k',A,e,?_⟩
       by_cases U:i'=i/\k'=k
       .simp only[U,and_self,if_true];rw[U.1,U.2]at hF;exact .inl ⟨hF,hn⟩
       .simp only[U,if_false];exact hF
     .exact .inr ⟨i,k,Y,W,by simp only[and_self,if_true];exact .inr E⟩
    .rintro (rfl|⟨i',k',A,e,hF⟩)
     .exact .inl ⟨Z,hb1'⟩
     .by_cases U:i'=i/\k'=k
      .simp only[U,and_self,if_true]at hF
       rcases hF with⟨h,hn⟩|h
       .exact .inl ⟨B c h,hn⟩
       .exact .inr h
      .simp only[U,if_false]at hF
       exact .inl ⟨(hfp c).2 (.inr ⟨i',k',A,e,hF⟩),λh1=>hFd i' k' i k c A e Y W (by omega) hF (hs c h1)⟩
theorem At.same{D:Nat->Prop}{w w':World}:∀{p:List (Nat×Nat)}{v:V}{cv:Value}{fp:Nat->Prop}{B:V}{e:Value},
  Rel D w noR v cv fp->At w p v cv B e->(∀b,fp b->w'.heap[b]? =w.heap[b]?)->At w' p v cv B e
 |[],_,_,_,_,_,_,ha,_=>ha
 |(i,k)::p,.nd s true sz n f,cv,fp,B,e,hr,ha,hw=>by
  obtain⟨M,L,b,o,cap,x,O,W,ha⟩:=ha;subst O;have hb:=Rel.root hr;rcases hr with⟨h0,_⟩|⟨b',o',cap',F,A,hcap,Y,hs1,U,Z,ho⟩
  .omega
  obtain⟨rfl,rfl,hcc⟩:=Az A;obtain⟨x',E,J⟩:=U i k M L;have:=Option.some.inj (E.symm.trans W);subst this;exact⟨M,L,b,o,cap,x',rfl,by rw[Dr (hw b hb)];exact W,At.same J ha λc U=>hw c (((ho rfl).2.2.2 c).2 (.inr ⟨i,k,M,L,U⟩))⟩
 |_::_,.nd _ false _ _ _,_,_,_,_,_,h,_=>h.elim
 |_::_,.c _,_,_,_,_,_,h,_=>h.elim
 |_::_,.dead,_,_,_,_,_,h,_=>h.elim
 |_::_,.many ..,_,_,_,_,_,h,_=>h.elim
 |_::_,.rs ..,_,_,_,_,_,h,_=>h.elim
 |_::_,.rp ..,_,_,_,_,_,h,_=>h.elim
 |_::_,.rm ..,_,_,_,_,_,h,_=>h.elim
 |_::_,.mp ..,_,_,_,_,_,h,_=>h.elim
end Go.Ve


namespace Go.Ve
variable{σ:List V}{F:Nat->Nat->Prop}{D fp:Nat->Prop}{ρ:Nat->Value}{x:Operand}{P:Program}{t:TypeId}{v:V}{R:V->Value->Prop}{w:World}
def Am(σ:List V)(ρ:Nat->Value)(w:World):V->Value->Prop
 |.rs id p off len,cv=>id<σ.length/\∃sz n f e,At w p (σ.getD id .dead) (ρ id) (.nd true true sz n f) e/\off+len<=n/\
   ((∃b o cap,e=AD true b o n cap/\cv=.slice (some ⟨b,o+off*sz,none⟩) len (cap-off))\/(len=0/\∃a:Option (Nat×Nat),cv=.slice (a.map λp=>⟨p.1,p.2,none⟩) 0 0/\(off=0->n=0->cv=e)/\∀p,a=some p->∃o cap,e=AD true p.1 o n cap/\o<=p.2/\p.2<=o+cap*sz))
 |.rp id p i k,cv=>id<σ.length/\∃s sz n f b o cap,At w p (σ.getD id .dead) (ρ id) (.nd s true sz n f) (AD s b o n cap)/\i<n/\k<sz/\
   cv=.pointer (some ⟨b,o+i*sz+k,none⟩)
 |.rm id p,cv=>id<σ.length/\∃l b,At w p (σ.getD id .dead) (ρ id) (.mp true l) cv/\cv=.map (some b)
 |_,_=>False
structure Bs(σ:List V)(w:World)(D:Nat->Prop)(ρ:Nat->Value)(F:Nat->Nat->Prop):Prop where
 rel:∀i,i<σ.length->Rel D w noR (σ.getD i .dead) (ρ i) (F i)
 disj:∀i j b,i≠j->F i b->¬F j b
 dD:∀i b,F i b->¬D b
 Dlt:∀b,D b->b<w.heap.size
 out:∀i b,σ.length<=i->¬F i b
def Bs.lt{σ:List V}{w:World}{D:Nat->Prop}{ρ:Nat->Value}{F:Nat->Nat->Prop}(h:Bs σ w D ρ F)(i b:Nat)(e:F i b):b<w.heap.size:=by
 by_cases A:i<σ.length
 .exact Rel.lt _ _ _ (h.rel i A) b e
 .exact absurd e (h.out i b (by omega))
def Am.same{σ:List V}{w w':World}{D:Nat->Prop}{ρ:Nat->Value}{F:Nat->Nat->Prop}(h:Bs σ w D ρ F)(B:∀i b,F i b->w'.heap[b]? =w.heap[b]?):
  ∀v cv,Am σ ρ w v cv->Am σ ρ w' v cv
 |.rs id p off len,cv,⟨A,sz,n,f,E,ha,r⟩=>⟨A,sz,n,f,E,At.same (h.rel id A) ha (B id),r⟩
 |.rp id p i k,cv,⟨A,s,sz,n,f,b,o,cap,ha,r⟩=>⟨A,s,sz,n,f,b,o,cap,At.same (h.rel id A) ha (B id),r⟩
 |.rm id p,cv,⟨A,l,b,ha,e⟩=>⟨A,l,b,At.same (h.rel id A) ha (B id),e⟩
 |.mp ..,_,h=>h.elim
 |.c _,_,h=>h.elim
 |.dead,_,h=>h.elim
 |.many ..,_,h=>h.elim
 |.nd ..,_,h=>h.elim
theorem Bs.below{w':World}(h:Bs σ w D ρ F)(A:Below w.heap.size w w'):Bs σ w' D ρ F:=
 ⟨λi B=>Rel.mono (λ_ h=>h) (λ_ _ h=>h) _ _ _ (λb e=>A.block b (e.elim (h.Dlt b) (h.lt i b))) (h.rel i B),h.disj,h.dD,λb e=>Nat.lt_of_lt_of_le (h.Dlt b e) A.size,h.out⟩
def Rel.noR_mono{cv:Value}(h:Rel D w noR v cv fp):Rel D w R v cv fp:=
 Rel.mono (λ_ h=>h) (λ_ _ h=>h.elim) _ _ _ (λ_ _=>rfl) h
def OpR(σ:List V)(w:World)(D:Nat->Prop)(ρ:Nat->Value)(F:Nat->Nat->Prop)(v:V)(cv:Value):Prop:=
 ∃fp,Rel D w (Am σ ρ w) v cv fp/\(∀b,fp b->¬D b)/\∀i b,F i b->¬fp b
def Av(P:Program)(o:Oper)(a:Act)(w:World)(σ:List V)(D:Nat->Prop)(ρ:Nat->Value)(r:V):Prop:=
 ∀(next:Act->World->Prop) (Q:Exit->Act->World->Prop),
  (∀v' w' D' fp,Below w.heap.size w w'->Rel D' w' (Am σ ρ w') r v' fp->(∀b,fp b->w.heap.size<=b)->(∀b,D b->D' b)->(∀b,D' b->D b\/w.heap.size<=b)->
   (∀b,D' b->b<w'.heap.size/\¬fp b)->next (a.put o.dst v') w')->o.wp P a w next Q
theorem Av.pure{P:Program}{o:Oper}{a:Act}{r:V}{v':Value}(wr:Bs σ w D ρ F)
  (h:(execOp a.eval o).run P w=.ok (.value v') w) (e:Rel D w (Am σ ρ w) r v' noF):Av P o a w σ D ρ r:=by
 intro next Q hn
 unfold Oper.wp;rw[h];exact hn v' w D noF (Below.refl _ _) e (λ_ h=>h.elim) (λ_ h=>h) (λ_ h=>.inl h) (λb h=>⟨wr.Dlt b h,λh=>h⟩)
theorem Av.new{P:Program}{o:Oper}{a:Act}{r:V}{v':Value}{ob:Obj}(wr:Bs σ w D ρ F)
  (h:(execOp a.eval o).run P w=.ok (.value v') (w.alloc ob)) (e:∃fp,Rel D (w.alloc ob) (Am σ ρ (w.alloc ob)) r v' fp/\∀b,fp b->b=w.heap.size):Av P o a w σ D ρ r:=by
 intro next Q hn
 unfold Oper.wp;rw[h];obtain⟨fp,e,B⟩:=e;refine hn v' (w.alloc ob) D fp ((Below.refl _ _).alloc (Nat.le_refl _) _) e (λb A=>by grind) (λ_ h=>h) (λ_ h=>.inl h) (λb h=>⟨?_,λA=>?_⟩)
 .have:=wr.Dlt b h;simp;omega
 .have:=wr.Dlt b h;grind
def Jb:TypeDesc->Bool
 |.struct _|.array _ _=>true
 |_=>false
structure SlI where
 e:TypeId
 size:Nat
 bytes:Nat
 zero:List Value
def slI(P:Program)(t:TypeId):Option SlI:=
 match P.underlying t with
 |some (.slice e)=>match P.info? e with
  |some i=>match i.zero with
   |some z=>if z.cells.size=i.size/\z.cells.toList.all (·.oneCell')=true then some ⟨e,i.size,i.bytes,z.cells.toList⟩else none
   |none=>none
  |none=>none
 |_=>none
structure TyI where
 agg:Bool
 size:Nat
 zero:List Value
def tyI(P:Program)(t:TypeId):Option TyI:=
 match P.underlying t,P.info? t with
 |some d,some i=>match i.zero with
  |some z=>if z.cells.size=i.size/\z.cells.toList.all (·.oneCell')=true then some ⟨Jb d,i.size,z.cells.toList⟩else none
  |none=>none
 |_,_=>none
def Vm(P:Program)(t:TypeId)(k:Nat):Option (Nat×Nat):=
 match P.underlying t with
 |some (.struct fs)=>match fs[k]? with
  |some f=>match P.info? f.type with
   |some i=>if 0<i.size then some (f.offset,i.size)else none
   |none=>none
  |none=>none
 |_=>none
theorem C8{s:SlI}(h:slI P t=some s):P.underlying t=some (.slice s.e)/\∃i z,P.info? s.e=some i/\i.zero=some z/\i.size=s.size/\i.bytes=s.bytes/\z.cells.toList=s.zero/\z.cells.size=s.size/\∀v∈s.zero,v.oneCell'=true:=by
 unfold slI at h
 grind
theorem C5{s:TyI}(h:tyI P t=some s):∃d i z,P.underlying t=some d/\P.info? t=some i/\i.zero=some z/\i.size=s.size/\z.cells.toList=s.zero/\z.cells.size=s.size/\(∀v∈s.zero,v.oneCell'=true)/\s.agg=Jb d:=by
 unfold tyI at h
 grind
theorem Xz{k off sz:Nat}(h:Vm P t k=some (off,sz)):∃fs f i,P.underlying t=some (.struct fs)/\fs[k]? =some f/\f.offset=off/\P.info? f.type=some i/\i.size=sz/\0<sz:=by
 unfold Vm at h
 grind
section ops
variable {P:Program}{o:Oper}{a:Act}{w:World}{σ:List V}{D:Nat->Prop}{ρ:Nat->Value}{F:Nat->Nat->Prop}{K:V->Prop}
def AS:V->Bool
 |.nd _ own _ _ _=>own
 |.mp own _=>own
 |.many _ n f=>(List.range n).any λk=>AS (f k)
 |_=>false
theorem AF:∀(v:V) (cv:Value) (fp:Nat->Prop),AS v=false->Rel D w R v cv fp->∀b,¬fp b:=by
 intro v
 induction v with
 |c v=>intro cv fp _ h;exact h.2.2
 |dead=>intro cv fp _ h;exact h
 |many t n f B=>
  intro cv fp ho h b A;obtain⟨cs,F,e,hn,E,hd,O⟩:=h;obtain⟨k,M,A⟩:=(O b).1 A;refine B k _ _ ?_ (E k M) b A;unfold AS at ho
  grind
 |nd s own sz n f B=>
  intro cv fp ho h;cases own with
  |true=>trivial
  |false=>
   rcases h with h|⟨b,o,cap,F,e,L,J,W,E,Y,_⟩
   .grind
   grind
 |rs id p off len=>intro cv fp _ h;exact h.2
 |rp id p i k=>intro cv fp _ h;exact h.2
 |rm id p=>intro cv fp _ h;exact h.2
 |mp own l=>
  intro cv fp ho h;cases own with
  |true=>cases ho
  |false=>obtain⟨b,_,_,U,_⟩:=h;exact(U rfl).2
def Bb(h:∀b,¬fp b):fp=noF:=funext λb=>propext ⟨λe=>h b e,λe=>e.elim⟩
def WL(v:V)(K:V->Prop):Prop:=AS v=false/\K v
theorem JU(wr:Bs σ w D ρ F)(ho:o.op=.move x\/o.op=.assign x)(A:OpR σ w D ρ F v (a.eval x))(h:WL v K):∃r,K r/\Av P o a w σ D ρ r:=by
 obtain⟨fp,e,_⟩:=A;have:=Bb (AF _ _ _ h.1 e);subst this;refine⟨v,h.2,Av.pure wr ?_ e⟩;rcases ho with ho|ho<;>(unfold execOp;simp_all)
def WK(c x y:V)(K:V->Prop):Prop:=
 match c with
 |.c (.bool b)=>AS x=false/\AS y=false/\(b=true->K x)/\(b=false->K y)
 |_=>False
theorem Pw(wr:Bs σ w D ρ F){M J E:V}{c y:Operand}(ho:o.op=.pick c x y)(L:OpR σ w D ρ F M (a.eval c))(B:OpR σ w D ρ F J (a.eval x))(A:OpR σ w D ρ F E (a.eval y))(h:WK M J E K):
  ∃r,K r/\Av P o a w σ D ρ r:=by
 unfold WK at h;split at h<;>try grind
 rename_i b;obtain⟨Y,W,U,O⟩:=h;obtain⟨_,L,_⟩:=L;obtain⟨fx,B,_⟩:=B;obtain⟨Z,A,_⟩:=A;have:=Bb (AF _ _ _ Y B);subst this;have:=Bb (AF _ _ _ W A);subst this;have e:=L.1;cases b with
 |true=>exact⟨J,U rfl,Av.pure wr (by unfold execOp;rw[ho];simp[e,asBool]) B⟩
 |false=>exact⟨E,O rfl,Av.pure wr (by unfold execOp;rw[ho];simp[e,asBool]) A⟩
end ops
end Go.Ve


namespace Go.Ve
variable{ad:Addr}{s:Bool}{n sz:Nat}{f:Nat->Nat->V}{fp:Nat->Prop}{d:TypeDesc}{t:TypeId}{v:V}{R:V->Value->Prop}{cv:Value}
section ops
variable {P:Program}{o:Oper}{a:Act}{w:World}{σ:List V}{D:Nat->Prop}{ρ:Nat->Value}{F:Nat->Nat->Prop}{K:V->Prop}
def VW(id:Nat)(q:List (Nat×Nat)):V->V
 |.nd true true _ n _=>.rs id q 0 n
 |.nd false true _ _ _=>.rp id q 0 0
 |.mp true _=>.rm id q
 |v=>v
def Cx(σ:List V)(id:Nat)(p:List (Nat×Nat))(i k:Nat):V:=
 match sub p (σ.getD id .dead)with
 |.nd _ _ _ _ f=>f i k
 |_=>.dead
def A6(σ:List V)(id:Nat)(p:List (Nat×Nat)):Nat:=
 match sub p (σ.getD id .dead)with
 |.nd _ _ sz _ _=>sz
 |_=>0
def Cw:V->Bool
 |.many ..=>false
 |.nd false true sz _ _=>0<sz
 |_=>true
theorem Qg(wr:Bs σ w D ρ F){id:Nat}{p:List (Nat×Nat)}{s:Bool}{sz n:Nat}{f:Nat->Nat->V}{b W cap:Nat}(E:id<σ.length)
  (ha:At w p (σ.getD id .dead) (ρ id) (.nd s true sz n f) (AD s b W n cap)) {i k:Nat} (hi:i<n) (hk:k<sz) (hc:Cw (f i k)=true):
  ∃x,w.cell? ⟨b,W+i*sz+k,none⟩=some x/\Rel D w (Am σ ρ w) (VW id (p++[(i,k)]) (f i k)) x noF:=by
 obtain⟨fp1,Y,hsub,_⟩:=Dg (w':=w) p _ _ _ _ _ (wr.rel id E) (λb hb h=>wr.dD id b h hb) ha
 rcases Y with⟨h0,_⟩|⟨b2,o2,cap2,F2,hcv,hcap,hmax,hs1,L,himm,ho⟩
 .omega
 obtain⟨rfl,rfl,_⟩:=Az hcv;obtain⟨x,hx,A⟩:=L i k hi hk;refine⟨x,hx,?_⟩;have M:At w (p++[(i,k)]) (σ.getD id .dead) (ρ id) (f i k) x:=At.app ha ⟨hi,hk,b,W,cap,x,rfl,hx,rfl,rfl⟩;generalize hv:f i k=v at*;cases v with
 |c v=>exact⟨A.1,A.2.1,λ_ h=>h⟩
 |dead=>exact λ_ h=>h
 |many t n f=>cases hc
 |rs id p off len=>exact A.1.elim
 |rp id p i k=>exact A.1.elim
 |rm id p=>exact A.1.elim
 |mp own l=>
  cases own with
  |false=>
   have Z:F2 i k=noF:=Bb (AF _ _ _ (by rfl) A)
   rw[Z]at A;exact Rel.noR_mono A
  |true=>obtain⟨b',hb',_⟩:=A;exact⟨⟨E,l,b',M,hb'⟩,λ_ h=>h⟩
 |nd s' own O n' f'=>
  cases own with
  |false=>
   have Z:F2 i k=noF:=Bb (AF _ _ _ (by rfl) A)
   rw[Z]at A;cases s'<;>exact Rel.noR_mono A
  |true=>
   cases s' with
   |true=>
    refine⟨⟨E,O,n',f',x,M,by omega,?_⟩,λ_ h=>h⟩
    rcases A with⟨rfl,_,J,_⟩|⟨b3,U,B,F3,rfl,_⟩
    .have J:=D5 J
     subst J;exact .inr ⟨rfl,none,rfl,λ_ _=>rfl,λp e=>by cases e⟩
    .exact .inl ⟨b3,U,B,rfl,by simp[AD]⟩
   |false=>
    rcases A with⟨_,h,_⟩|⟨b3,U,B,F3,rfl,_,_,h1,_⟩
    .cases h
    .refine⟨⟨E,false,O,n',f',b3,U,B,M,by rw[h1 rfl];exact Nat.one_pos,by simpa [Cw]using hc,by simp[AD]⟩,λ_ h=>h⟩
def MI{ad:Addr}{i:TypeInfo}{s:Nat}(hd:P.underlying t=some d)(E:P.info? t=some i)(e:i.size=s)(A:Jb d=true)
  (cs:List Value) (B:cs.length=s) (J:∀j v,cs[j]? =some v->w.cell? (ad.add j)=some v):(loadVar t ad).run P w=.ok (.agg cs.toArray) w:=by
 subst B
 have L:(isAgg t).run P w=.ok true w:=by
  unfold isAgg;cases d<;>simp[Jb]at A<;>simp[run_underlying hd]
 simp[loadVar,L,Result.andThen,sizeOf,typeInfo,e];simp[E,<-e];rw[e,run_loadCells_list w ad cs J]
def MG{ad:Addr}(hd:P.underlying t=some d)(e:Jb d=false)
  {v:Value} (A:w.cell? ad=some v):(loadVar t ad).run P w=.ok v w:=by
 have B:(isAgg t).run P w=.ok false w:=by
  unfold isAgg;cases d<;>simp[Jb]at e<;>simp[run_underlying hd]
 simp[loadVar,B,A]
theorem A9(e:ad.spot=none)(j:Nat):ad.add j=⟨ad.block,ad.off+j,none⟩:=by
 unfold Addr.add;split
 .rename_i h;cases ad;grind
 rfl
theorem BT{p:Nat->Value->Prop}(h:∀k,k<n->∃x,p k x):∃cs:List Value,cs.length=n/\∀k x,cs[k]? =some x->p k x:=by
 induction n with
 |zero=>simp
 |succ n E=>
  obtain⟨cs,A,J⟩:=E λk B=>h k (by omega)
  obtain⟨x,L⟩:=h n (by omega)
  refine⟨cs++[x],by simp[A],λk y e=>?_⟩
  by_cases B:k<cs.length
  .rw[gAL B]at e;exact J k y e
  .have:k=n:=by
    grind
   subst this;simp[A]at e
   grind
def Iy(e:Option TyI)(σ:List V)(x:V)(K:V->Prop):Prop:=
 match e with
 |some ⟨false,_,_⟩=>match x with
  |.nd false false sz _ f=>0<sz/\K (f 0 0)
  |.rp id p i k=>Cw (Cx σ id p i k)=true/\K (VW id (p++[(i,k)]) (Cx σ id p i k))
  |.many .bx n f=>(0<n/\AS (f 0)=false)/\K (f 0)
  |_=>False
 |some ⟨true,s,_⟩=>match x with
  |.nd false false sz _ f=>s<=sz/\K (Aj (tab s λk=>f 0 k))
  |.rp id p i k=>k+s<=A6 σ id p/\(List.range s).all (λj=>Cw (Cx σ id p i (k+j)))=true/\K (Aj (tab s λj=>VW id (p++[(i,k+j)]) (Cx σ id p i (k+j))))
  |.many .bx n f=>(s<=n/\(List.range s).all (λk=>!AS (f k))=true)/\K (Aj (tab s f))
  |_=>False
 |none=>False
theorem Kc(h:Rel D w R (.nd s false sz n f) cv fp)(hn:0<n):
  ∃b o cap,cv=AD s b o n cap/\n<=cap/\∀i k,i<n->k<sz->D b/\∃x,w.cell? ⟨b,o+i*sz+k,none⟩=some x/\Rel D w noR (f i k) x noF:=by
 rcases h with⟨h0,_⟩|⟨b,o,cap,F,E,e,J,Y,O,A,_⟩
 .omega
 obtain⟨W,U,Z⟩:=A rfl;refine⟨b,o,cap,E,e,λi k A L=>⟨W (Nat.mul_pos hn (by omega)),?_⟩⟩
 obtain⟨x,M,B⟩:=O i k A L;exact⟨x,M,Bb (U i k · A L)▸B⟩
theorem MT(h:Rel D w R (.nd false false sz n f) cv fp):
  n=1/\∃b o,cv=.pointer (some ⟨b,o,none⟩)/\∀k,k<sz->D b/\∃x,w.cell? ⟨b,o+k,none⟩=some x/\Rel D w noR (f 0 k) x noF:=by
 have hn:n=1:=by
  rcases h with⟨_,h,_⟩|⟨b,o,cap,F,e,B,A,J,E,M,_⟩
  .cases h
  grind
 subst hn;obtain⟨b,o,cap,e,_,E⟩:=Kc h Nat.one_pos;exact⟨rfl,b,o,by trivial,λk L=>by grind⟩
theorem Ij{f:Nat->V}(h:Rel D w R (.many .bx n f) cv fp):
  ∃b o,cv=.pointer (some ⟨b,o,none⟩)/\(0<n->D b)/\∀k,k<n->∃x e,w.cell? ⟨b,o+k,none⟩=some x/\Rel D w R (f k) x e:=by
 obtain⟨cs,F,⟨b,o,E,B,A⟩,hn,hr,_,_⟩:=h
 grind
theorem N1(wr:Bs σ w D ρ F)(hr:Rel D w (Am σ ρ w) v cv fp)(h:Iy (tyI P t) σ v K):∃r,K r/\∃ad cr,cv=.pointer (some ad)/\(loadVar t ad).run P w=.ok cr w/\Rel D w (Am σ ρ w) r cr noF:=by
 unfold Iy at h;split at h
 .rename_i sz0 z0 hti
  obtain⟨d,i,z,hd,hi,hz,W,_,_,_,E⟩:=C5 hti;split at h
  .obtain⟨A,L⟩:=h
   obtain⟨_,b,Z,O,U⟩:=MT hr;obtain⟨_,y,hy,J⟩:=U 0 A;exact⟨_,L,_,_,O,MG hd E.symm (by simpa using hy),Rel.noR_mono J⟩
  .rename_i id p i' k'
   obtain⟨U,L⟩:=h;obtain⟨⟨hid,s,sz,n,f,b,Z,cap,ha,hi',hk',O⟩,_⟩:=hr;have B:Cx σ id p i' k'=f i' k':=by unfold Cx;rw[<-At.sub ha]
   rw[B]at L U;obtain⟨y,hy,J⟩:=Qg wr hid ha hi' hk' U;exact⟨_,L,_,_,O,MG hd E.symm hy,J⟩
  .obtain⟨⟨A,hto⟩,L⟩:=h
   obtain⟨b,Z,O,_,U⟩:=Ij hr;obtain⟨y,fq,hy,J⟩:=U 0 A;exact⟨_,L,_,_,O,MG hd E.symm (by simpa using hy),Bb (AF _ _ _ hto J)▸J⟩
  .exact h.elim
 .rename_i s z0 hti
  obtain⟨d,i,z,hd,hi,hz,W,_,_,_,E⟩:=C5 hti;split at h
  .obtain⟨A,L⟩:=h
   obtain⟨_,b,Z,O,U⟩:=MT hr;obtain⟨cs,M,e⟩:=BT (n:=s) (p:=λk x=>w.cell? ⟨b,Z+k,none⟩=some x/\Rel D w noR (_) x noF) λk Y=>(U k (by omega)).2
   refine⟨_,L,_,_,O,MI hd hi W E.symm cs M λj v hj=>(by rw[A9 rfl];exact(e j v hj).1),Rel.eqv _ _ _ _ (Ph _ _) ?_⟩
   refine⟨cs.toArray,λ_=>noF,rfl,by simpa using M,λk Y=>?_,λ_ _ _ _ _ _ h=>h.elim,λb=>⟨λh=>h.elim,fun⟨_,_,h⟩=>h⟩⟩
   have:cs[k]? =some (cs.toArray.getD k undef):=by simp[M,Y]
   exact Rel.noR_mono (e k _ this).2
  .rename_i id p i' k'
   obtain⟨A,hco,L⟩:=h;obtain⟨⟨hid,s',sz,n,f,b,Z,cap,ha,hi',hk',O⟩,_⟩:=hr;have B:∀k,Cx σ id p i' k=f i' k:=by intro k;unfold Cx;rw[<-At.sub ha]
   have hns:A6 σ id p=sz:=by unfold A6;rw[<-At.sub ha]
   rw[hns]at A;simp only[B]at L hco;obtain⟨cs,M,e⟩:=BT (n:=s) λj hj=>Qg wr hid ha hi' (show k'+j<sz by omega) (by simpa using aET.1 hco j (List.mem_range.2 hj))
   refine⟨_,L,_,_,O,MI hd hi W E.symm cs M λj v hj=>(by rw[A9 rfl];simpa [Nat.add_assoc]using(e j v hj).1),Rel.eqv _ _ _ _ (Ph _ _) ?_⟩
   refine⟨cs.toArray,λ_=>noF,rfl,by simpa using M,λk Y=>?_,λ_ _ _ _ _ _ h=>h.elim,λb=>⟨λh=>h.elim,fun⟨_,_,h⟩=>h⟩⟩
   have:cs[k]? =some (cs.toArray.getD k undef):=by simp[M,Y]
   exact(e k _ this).2
  .rename_i n f
   obtain⟨⟨A,hto⟩,L⟩:=h;obtain⟨b,Z,O,_,U⟩:=Ij hr
   obtain⟨cs,M,e⟩:=BT (n:=s) (p:=λk x=>w.cell? ⟨b,Z+k,none⟩=some x/\Rel D w (Am σ ρ w) (f k) x noF) λk Y=>by
    obtain⟨x,fq,h1,h2⟩:=U k (by omega)
    exact⟨x,h1,Bb (AF _ _ _ (by simpa using aET.1 hto k (List.mem_range.2 Y)) h2)▸h2⟩
   refine⟨_,L,_,_,O,MI hd hi W E.symm cs M λj v hj=>(by rw[A9 rfl];exact(e j v hj).1),Rel.eqv _ _ _ _ (Ph _ _) ?_⟩
   refine⟨cs.toArray,λ_=>noF,rfl,by simpa using M,λk Y=>?_,λ_ _ _ _ _ _ h=>h.elim,λb=>⟨λh=>h.elim,fun⟨_,_,h⟩=>h⟩⟩
   have:cs[k]? =some (cs.toArray.getD k undef):=by simp[M,Y]
   exact(e k _ this).2
  .exact h.elim
 .exact h.elim
theorem Py(wr:Bs σ w D ρ F){x:Operand}(ho:o.op=.load t x)(A:OpR σ w D ρ F v (a.eval x))(h:Iy (tyI P t) σ v K):∃r,K r/\Av P o a w σ D ρ r:=by
 obtain⟨fp,B,L,J⟩:=A;obtain⟨r,O,ad,cr,M,E,e⟩:=N1 wr B h;exact⟨r,O,Av.pure wr (by unfold execOp;rw[ho];simp[Instr.loadAt,M,Instr.sureAddr,E]) e⟩
end ops
end Go.Ve

