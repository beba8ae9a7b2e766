/- Paths into owned trees. -/
import Derived.Test.YteakdlfnmhlifaaVa
import Derived.Laws.Cells
import Derived.Laws.MakeOwn
import Derived.Laws.Tables
import Derived.IntWalk
import Derived.Laws.Slices
set_option linter.all false
namespace Go.Ve
variable{s:Bool}{b cap n o:Nat}{D:Nat->Prop}{w:World}
def sub:List (Nat×Nat)->V->V
 |[],v=>v
 |(i,k)::p,.nd _ _ _ _ f=>sub p (f i k)
 |_::_,_=>.dead
def upd:List (Nat×Nat)->V->V->V
 |[],_,x=>x
 |(i,k)::p,.nd s o sz n f,x=>.nd s o sz n λi' k'=>if i'=i/\k'=k then upd p (f i k) x else f i' k'
 |_::_,v,_=>v
def At(w:World):List (Nat×Nat)->V->Value->V->Value->Prop
 |[],v,cv,v',cv'=>v'=v/\cv'=cv
 |(i,k)::p,.nd s true sz n f,cv,v',cv'=>i<n/\k<sz/\∃b o cap x,cv=Av s b o n cap/\w.cell? ⟨b,o+i*sz+k,none⟩=some x/\At w p (f i k) x v' cv'
 |_::_,_,_,_,_=>False
def KP:List (Nat×Nat)->V->Prop
 |[],_=>True
 |(i,k)::p,.nd _ own sz n f=>own=true/\i<n/\k<sz/\KP p (f i k)
 |_::_,_=>False
theorem Am{H B A:Nat}(h:Av s b o n cap=Av s H B n A):b=H/\o=B/\(s=true->cap=A):=by
 cases s
 .simp[Av]at h;grind
 .simp[Av]at h;omega
def At.sub{w:World}:∀{p:List (Nat×Nat)}{v:V}{cv:Value}{v':V}{A:Value},At w p v cv v' A->v'=sub p v
 |[],_,_,_,_,h=>h.1
 |(i,k)::p,.nd s true sz n f,_,v',_,h=>by obtain⟨_,_,_,_,_,x,_,_,h⟩:=h;exact(show v'=Go.Ve.sub p (f i k)from At.sub h)
 |_::_,.nd _ false _ _ _,_,_,_,h=>h.elim
 |_::_,.c _,_,_,_,h=>h.elim
 |_::_,.dead,_,_,_,h=>h.elim
 |_::_,.many ..,_,_,_,h=>h.elim
 |_::_,.rs ..,_,_,_,h=>h.elim
 |_::_,.rp ..,_,_,_,h=>h.elim
 |_::_,.rm ..,_,_,_,h=>h.elim
 |_::_,.mp ..,_,_,_,h=>h.elim
def At.ok{w:World}:∀{p:List (Nat×Nat)}{v:V}{cv:Value}{v':V}{A:Value},At w p v cv v' A->KP p v
 |[],_,_,_,_,h=>trivial
 |(i,k)::p,.nd s true sz n f,_,_,_,h=>by obtain⟨H,B,_,_,_,x,_,_,h⟩:=h;exact⟨rfl,H,B,At.ok h⟩
 |_::_,.nd _ false _ _ _,_,_,_,h=>h.elim
 |_::_,.c _,_,_,_,h=>h.elim
 |_::_,.dead,_,_,_,h=>h.elim
 |_::_,.many ..,_,_,_,h=>h.elim
 |_::_,.rs ..,_,_,_,h=>h.elim
 |_::_,.rp ..,_,_,_,h=>h.elim
 |_::_,.rm ..,_,_,_,h=>h.elim
 |_::_,.mp ..,_,_,_,h=>h.elim
theorem At.app{w:World}:∀{p q:List (Nat×Nat)}{v:V}{cv:Value}{v':V}{H:Value}{B:V}{A:Value},At w p v cv v' H->At w q v' H B A->At w (p++q) v cv B A
 |[],_,_,_,_,_,_,_,h,h'=>by obtain⟨rfl,rfl⟩:=h;grind
 |(i,k)::p,_,.nd s true sz n f,_,_,_,_,_,h,h'=>by
  obtain⟨Y,W,b,o,cap,x,h3,h4,U⟩:=h;exact⟨Y,W,b,o,cap,x,h3,h4,At.app U h'⟩
 |_::_,_,.nd _ false _ _ _,_,_,_,_,_,h,_=>h.elim
 |_::_,_,.c _,_,_,_,_,_,h,_=>h.elim
 |_::_,_,.dead,_,_,_,_,_,h,_=>h.elim
 |_::_,_,.many ..,_,_,_,_,_,h,_=>h.elim
 |_::_,_,.rs ..,_,_,_,_,_,h,_=>h.elim
 |_::_,_,.rp ..,_,_,_,_,_,h,_=>h.elim
 |_::_,_,.rm ..,_,_,_,_,_,h,_=>h.elim
 |_::_,_,.mp ..,_,_,_,_,_,h,_=>h.elim
theorem Rel.root{R:V->Value->Prop}{sz:Nat}{f:Nat->Nat->V}{fp:Nat->Prop}(h:Rel D w R (.nd s true sz n f) (Av s b o n cap) fp):fp b:=by
 rcases h with⟨_,rfl,h3,_⟩|⟨W,H,B,F,A,_,_,_,_,_,U⟩
 .exact absurd h3 BF
 .obtain⟨rfl,-,-⟩:=Am A
  grind
theorem Ds{D:Nat->Prop}{w w':World}:∀(p:List (Nat×Nat)) (v:V) (cv:Value) (fp:Nat->Prop) (v1:V) (cv1:Value),
  Rel D w noR v cv fp->(∀b,D b->¬fp b)->At w p v cv v1 cv1->
  ∃W,Rel D w noR v1 cv1 W/\(∀b,W b->fp b)/\∀v2 fp2,Rel D w' noR v2 cv1 fp2->(∀b,fp2 b->W b\/¬fp b)->
   (∀b,(D b\/fp b)->¬W b->w'.heap[b]? =w.heap[b]?)->Rel D w' noR (upd p v v2) cv (λb=>(fp b/\¬W b)\/fp2 b):=by
 intro p
 induction p with
 |nil=>
  intro v cv fp v1 cv1 hr hD ha;obtain⟨rfl,rfl⟩:=ha;refine⟨fp,hr,λ_ h=>h,λv2 fp2 h2 hs hw=>Rel.fp_congr (λb=>?_) h2⟩
  exact⟨λh=>.inr h,λh=>h.elim (λh=>absurd h.1 h.2) id⟩
 |cons ik p ih=>
  obtain⟨i,k⟩:=ik;intro v cv fp v1 cv1 hr hD ha
  match v,ha,hr with
  |.nd s true sz n f,ha,hr=>
   obtain⟨hi,hk,b,o,cap,x,hcv,hx,ha⟩:=ha;rcases hr with⟨h0,_⟩|⟨b',o',cap',F,hcv',hcap,hmax,hs1,U,himm,ho⟩
   .omega
   subst hcv;obtain⟨rfl,rfl,hcc⟩:=Am hcv';obtain⟨⟨cs,T,hb1,hb2⟩,hbF,hFd,hfp⟩:=ho rfl;obtain⟨x',hx',hrx⟩:=U i k hi hk;have:x'=x:=Option.some.inj (hx'.symm.trans hx);subst this;have H:∀c,F i k c->fp c:=λc U=>(hfp c).2 (.inr ⟨i,k,hi,hk,U⟩)
   obtain⟨W,hr1,hs,hput⟩:=ih _ _ _ _ _ hrx (λc U h=>hD c U (H c h)) ha
   refine⟨W,hr1,λc U=>H c (hs c U),λv2 fp2 h2 hs2 hw=>?_⟩
   have hbfp:fp b:=(hfp b).2 (.inl rfl);have hb1':¬W b:=λh=>hbF i k hi hk (hs b h)
   have hwb:w'.heap[b]? =w.heap[b]?:=hw b (.inr hbfp) hb1';have hnew:=hput v2 fp2 h2 (λc U=>(hs2 c U).imp id λh h'=>h (H c h')) (λc U hn=>hw c (U.imp id (H c)) hn)
   refine .inr ⟨b,o,cap',λi' k' c=>if i'=i/\k'=k then(F i k c/\¬W c)\/fp2 c else F i' k' c,hcv',hcap,hmax,hs1,?_,(λh=>by cases h),λ_=>⟨⟨cs,T,hb1.same hwb,hb2⟩,?_,?_,?_⟩⟩
   .intro i' k' B A
    by_cases he:i'=i/\k'=k
    .obtain⟨rfl,rfl⟩:=he
     exact⟨x',by rw[Dg (w:=w) hwb];exact hx,by simpa using hnew⟩
    .obtain⟨y,hy,hry⟩:=U i' k' B A
     refine⟨y,by rw[Dg (w:=w) hwb];exact hy,?_⟩
     simp only[he,if_false];refine Rel.mono (λ_ h=>h) (λ_ _ h=>h) _ _ _ (λc U=>hw c (U.imp id λh=>(hfp c).2 (.inr ⟨i',k',B,A,h⟩)) ?_) hry
     intro h1;rcases U with hcD|hcF
     .exact hD c hcD (H c (hs c h1))
     .exact hFd i' k' i k c B A hi hk (by omega) hcF (hs c h1)
   .intro i' k' B A
    by_cases he:i'=i/\k'=k
    .simp only[he,and_self,if_true]
     rintro (⟨h,_⟩|h)
     .exact hbF i k hi hk h
     .rcases hs2 b h with h|h
      .exact hb1' h
      .exact h hbfp
    .simp only[he,if_false];exact hbF i' k' B A
   .intro i1 k1 i2 k2 c h1 h2' h3 h4 hne Z Y
    by_cases he1:i1=i/\k1=k<;>by_cases he2:i2=i/\k2=k
    .omega
    .simp only[he1,and_self,if_true]at Z
     simp only[he2,if_false]at Y;rcases Z with⟨h,_⟩|h
     .exact hFd i k i2 k2 c hi hk h3 h4 (by omega) h Y
     .rcases hs2 c h with h|h
      .exact hFd i k i2 k2 c hi hk h3 h4 (by omega) (hs c h) Y
      .exact h ((hfp c).2 (.inr ⟨i2,k2,h3,h4,Y⟩))
    .simp only[he2,and_self,if_true]at Y
     simp only[he1,if_false]at Z;rcases Y with⟨h,_⟩|h
     .exact hFd i k i1 k1 c hi hk h1 h2' (by omega) h Z
     .rcases hs2 c h with h|h
      .exact hFd i k i1 k1 c hi hk h1 h2' (by omega) (hs c h) Z
      .exact h ((hfp c).2 (.inr ⟨i1,k1,h1,h2',Z⟩))
    .simp only[he1,if_false]at Z
     simp only[he2,if_false]at Y;exact hFd i1 k1 i2 k2 c h1 h2' h3 h4 hne Z Y
   .intro c
    constructor
    .rintro (⟨U,hn⟩|U)
     .rcases(hfp c).1 U with rfl|⟨i',k',B,A,hF⟩
      .exact .inl rfl
      .refine .inr ⟨i',k',B,A,?_⟩
       by_cases he:i'=i/\k'=k
       .simp only[he,and_self,if_true];rw[he.1,he.2]at hF;exact .inl ⟨hF,hn⟩
       .simp only[he,if_false];exact hF
     .exact .inr ⟨i,k,hi,hk,by simp only[and_self,if_true];exact .inr U⟩
    .rintro (rfl|⟨i',k',B,A,hF⟩)
     .exact .inl ⟨hbfp,hb1'⟩
     .by_cases he:i'=i/\k'=k
      .simp only[he,and_self,if_true]at hF
       rcases hF with⟨h,hn⟩|h
       .exact .inl ⟨H c h,hn⟩
       .exact .inr h
      .simp only[he,if_false]at hF
       exact .inl ⟨(hfp c).2 (.inr ⟨i',k',B,A,hF⟩),λh1=>hFd i' k' i k c B A hi hk (by omega) hF (hs c h1)⟩
theorem At.same{D:Nat->Prop}{w w':World}:∀{p:List (Nat×Nat)}{v:V}{cv:Value}{fp:Nat->Prop}{U:V}{A:Value},
  Rel D w noR v cv fp->At w p v cv U A->(∀b,fp b->w'.heap[b]? =w.heap[b]?)->At w' p v cv U A
 |[],_,_,_,_,_,_,H,_=>H
 |(i,k)::p,.nd s true sz n f,cv,fp,U,A,hr,H,hw=>by
  obtain⟨hi,Z,b,o,cap,x,hcv,hx,H⟩:=H;subst hcv;have hb:=Rel.root hr;rcases hr with⟨h0,_⟩|⟨b',o',cap',F,B,hcap,hmax,hs1,hc,himm,ho⟩
  .omega
  obtain⟨rfl,rfl,hcc⟩:=Am B;obtain⟨x',W,Y⟩:=hc i k hi Z;have:=Option.some.inj (W.symm.trans hx);subst this;exact⟨hi,Z,b,o,cap,x',rfl,by rw[Dg (hw b hb)];exact hx,At.same Y H λc hc=>hw c (((ho rfl).2.2.2 c).2 (.inr ⟨i,k,hi,Z,hc⟩))⟩
 |_::_,.nd _ false _ _ _,_,_,_,_,_,h,_=>h.elim
 |_::_,.c _,_,_,_,_,_,h,_=>h.elim
 |_::_,.dead,_,_,_,_,_,h,_=>h.elim
 |_::_,.many ..,_,_,_,_,_,h,_=>h.elim
 |_::_,.rs ..,_,_,_,_,_,h,_=>h.elim
 |_::_,.rp ..,_,_,_,_,_,h,_=>h.elim
 |_::_,.rm ..,_,_,_,_,_,h,_=>h.elim
 |_::_,.mp ..,_,_,_,_,_,h,_=>h.elim
end Go.Ve


namespace Go.Ve
variable{σ:List V}{F:Nat->Nat->Prop}{D fp:Nat->Prop}{ρ:Nat->Value}{x:Operand}{P:Program}{t:TypeId}{v:V}{R:V->Value->Prop}{w:World}
def Ae(σ:List V)(ρ:Nat->Value)(w:World):V->Value->Prop
 |.rs id p off len,cv=>id<σ.length/\∃sz n f A,At w p (σ.getD id .dead) (ρ id) (.nd true true sz n f) A/\off+len<=n/\
   ((∃b o cap,A=Av true b o n cap/\cv=.slice (some ⟨b,o+off*sz,none⟩) len (cap-off))\/(len=0/\∃a:Option (Nat×Nat),cv=.slice (a.map λp=>⟨p.1,p.2,none⟩) 0 0/\(off=0->n=0->cv=A)/\∀p,a=some p->∃o cap,A=Av true p.1 o n cap/\o<=p.2/\p.2<=o+cap*sz))
 |.rp id p i k,cv=>id<σ.length/\∃s sz n f b o cap,At w p (σ.getD id .dead) (ρ id) (.nd s true sz n f) (Av s b o n cap)/\i<n/\k<sz/\
   cv=.pointer (some ⟨b,o+i*sz+k,none⟩)
 |.rm id p,cv=>id<σ.length/\∃l b,At w p (σ.getD id .dead) (ρ id) (.mp true l) cv/\cv=.map (some b)
 |_,_=>False
structure Be(σ:List V)(w:World)(D:Nat->Prop)(ρ:Nat->Value)(F:Nat->Nat->Prop):Prop where
 rel:∀i,i<σ.length->Rel D w noR (σ.getD i .dead) (ρ i) (F i)
 disj:∀i j b,i≠j->F i b->¬F j b
 dD:∀i b,F i b->¬D b
 Dlt:∀b,D b->b<w.heap.size
 out:∀i b,σ.length<=i->¬F i b
def Be.lt{σ:List V}{w:World}{D:Nat->Prop}{ρ:Nat->Value}{F:Nat->Nat->Prop}(h:Be σ w D ρ F)(i b:Nat)(A:F i b):b<w.heap.size:=by
 by_cases hi:i<σ.length
 .exact Rel.lt _ _ _ (h.rel i hi) b A
 .exact absurd A (h.out i b (by omega))
def Ae.same{σ:List V}{w w':World}{D:Nat->Prop}{ρ:Nat->Value}{F:Nat->Nat->Prop}(h:Be σ w D ρ F)(H:∀i b,F i b->w'.heap[b]? =w.heap[b]?):
  ∀v cv,Ae σ ρ w v cv->Ae σ ρ w' v cv
 |.rs id p off len,cv,⟨A,sz,n,f,U,B,r⟩=>⟨A,sz,n,f,U,At.same (h.rel id A) B (H id),r⟩
 |.rp id p i k,cv,⟨A,s,sz,n,f,b,o,cap,B,r⟩=>⟨A,s,sz,n,f,b,o,cap,At.same (h.rel id A) B (H id),r⟩
 |.rm id p,cv,⟨A,l,b,B,e⟩=>⟨A,l,b,At.same (h.rel id A) B (H id),e⟩
 |.mp ..,_,h=>h.elim
 |.c _,_,h=>h.elim
 |.dead,_,h=>h.elim
 |.many ..,_,h=>h.elim
 |.nd ..,_,h=>h.elim
theorem Be.below{w':World}(h:Be σ w D ρ F)(B:Below w.heap.size w w'):Be σ w' D ρ F:=
 ⟨λi hi=>Rel.mono (λ_ h=>h) (λ_ _ h=>h) _ _ _ (λb A=>B.block b (A.elim (h.Dlt b) (h.lt i b))) (h.rel i hi),h.disj,h.dD,λb A=>Nat.lt_of_lt_of_le (h.Dlt b A) B.size,h.out⟩
def Rel.noR_mono{cv:Value}(h:Rel D w noR v cv fp):Rel D w R v cv fp:=
 Rel.mono (λ_ h=>h) (λ_ _ h=>h.elim) _ _ _ (λ_ _=>rfl) h
def OpR(σ:List V)(w:World)(D:Nat->Prop)(ρ:Nat->Value)(F:Nat->Nat->Prop)(v:V)(cv:Value):Prop:=
 ∃fp,Rel D w (Ae σ ρ w) v cv fp/\(∀b,fp b->¬D b)/\∀i b,F i b->¬fp b
def Ap(P:Program)(o:Oper)(a:Act)(w:World)(σ:List V)(D:Nat->Prop)(ρ:Nat->Value)(r:V):Prop:=
 ∀(next:Act->World->Prop) (Q:Exit->Act->World->Prop),
  (∀v' w' D' fp,Below w.heap.size w w'->Rel D' w' (Ae σ ρ w') r v' fp->(∀b,fp b->w.heap.size<=b)->(∀b,D b->D' b)->(∀b,D' b->D b\/w.heap.size<=b)->
   (∀b,D' b->b<w'.heap.size/\¬fp b)->next (a.put o.dst v') w')->o.wp P a w next Q
theorem Ap.pure{P:Program}{o:Oper}{a:Act}{r:V}{v':Value}(wr:Be σ w D ρ F)
  (h:(execOp a.eval o).run P w=.ok (.value v') w) (A:Rel D w (Ae σ ρ w) r v' noF):Ap P o a w σ D ρ r:=by
 intro next Q B
 unfold Oper.wp;rw[h];exact B v' w D noF (Below.refl _ _) A (λ_ h=>h.elim) (λ_ h=>h) (λ_ h=>.inl h) (λb h=>⟨wr.Dlt b h,λh=>h⟩)
theorem Ap.new{P:Program}{o:Oper}{a:Act}{r:V}{v':Value}{ob:Obj}(wr:Be σ w D ρ F)
  (h:(execOp a.eval o).run P w=.ok (.value v') (w.alloc ob)) (A:∃fp,Rel D (w.alloc ob) (Ae σ ρ (w.alloc ob)) r v' fp/\∀b,fp b->b=w.heap.size):Ap P o a w σ D ρ r:=by
 intro next Q B
 unfold Oper.wp;rw[h];obtain⟨fp,A,U⟩:=A;refine B v' (w.alloc ob) D fp ((Below.refl _ _).alloc (Nat.le_refl _) _) A (λb H=>by grind) (λ_ h=>h) (λ_ h=>.inl h) (λb h=>⟨?_,λH=>?_⟩)
 .have:=wr.Dlt b h;simp;omega
 .have:=wr.Dlt b h;grind
def I4:TypeDesc->Bool
 |.struct _|.array _ _=>true
 |_=>false
structure SlI where
 e:TypeId
 size:Nat
 bytes:Nat
 zero:List Value
def slI(P:Program)(t:TypeId):Option SlI:=
 match P.underlying t with
 |some (.slice e)=>match P.info? e with
  |some i=>match i.zero with
   |some z=>if z.cells.size=i.size/\z.cells.toList.all (·.oneCell')=true then some ⟨e,i.size,i.bytes,z.cells.toList⟩else none
   |none=>none
  |none=>none
 |_=>none
structure TyI where
 agg:Bool
 size:Nat
 zero:List Value
def tyI(P:Program)(t:TypeId):Option TyI:=
 match P.underlying t,P.info? t with
 |some d,some i=>match i.zero with
  |some z=>if z.cells.size=i.size/\z.cells.toList.all (·.oneCell')=true then some ⟨I4 d,i.size,z.cells.toList⟩else none
  |none=>none
 |_,_=>none
def VS(P:Program)(t:TypeId)(k:Nat):Option (Nat×Nat):=
 match P.underlying t with
 |some (.struct fs)=>match fs[k]? with
  |some f=>match P.info? f.type with
   |some i=>if 0<i.size then some (f.offset,i.size)else none
   |none=>none
  |none=>none
 |_=>none
theorem D6{s:SlI}(h:slI P t=some s):P.underlying t=some (.slice s.e)/\∃i z,P.info? s.e=some i/\i.zero=some z/\i.size=s.size/\i.bytes=s.bytes/\z.cells.toList=s.zero/\z.cells.size=s.size/\∀v∈s.zero,v.oneCell'=true:=by
 unfold slI at h
 grind
theorem CP{s:TyI}(h:tyI P t=some s):∃d i z,P.underlying t=some d/\P.info? t=some i/\i.zero=some z/\i.size=s.size/\z.cells.toList=s.zero/\z.cells.size=s.size/\(∀v∈s.zero,v.oneCell'=true)/\s.agg=I4 d:=by
 unfold tyI at h
 grind
theorem Yj{k off sz:Nat}(h:VS P t k=some (off,sz)):∃fs f i,P.underlying t=some (.struct fs)/\fs[k]? =some f/\f.offset=off/\P.info? f.type=some i/\i.size=sz/\0<sz:=by
 unfold VS at h
 grind
section ops
variable {P:Program}{o:Oper}{a:Act}{w:World}{σ:List V}{D:Nat->Prop}{ρ:Nat->Value}{F:Nat->Nat->Prop}{K:V->Prop}
def AJ:V->Bool
 |.nd _ own _ _ _=>own
 |.mp own _=>own
 |.many _ n f=>(List.range n).any λk=>AJ (f k)
 |_=>false
theorem AB:∀(v:V) (cv:Value) (fp:Nat->Prop),AJ v=false->Rel D w R v cv fp->∀b,¬fp b:=by
 intro v
 induction v with
 |c v=>intro cv fp _ h;exact h.2.2
 |dead=>intro cv fp _ h;exact h
 |many t n f U=>
  intro cv fp A h b H;obtain⟨cs,F,B,hn,W,hd,hf⟩:=h;obtain⟨k,hk,H⟩:=(hf b).1 H;refine U k _ _ ?_ (W k hk) b H;unfold AJ at A
  grind
 |nd s own sz n f U=>
  intro cv fp A h;cases own with
  |true=>trivial
  |false=>
   rcases h with h|⟨b,o,cap,F,B,Z,Y,hs,W,hi,_⟩
   .grind
   grind
 |rs id p off len=>intro cv fp _ h;exact h.2
 |rp id p i k=>intro cv fp _ h;exact h.2
 |rm id p=>intro cv fp _ h;exact h.2
 |mp own l=>
  intro cv fp A h;cases own with
  |true=>cases A
  |false=>obtain⟨b,_,_,h0,_⟩:=h;exact(h0 rfl).2
def A2(h:∀b,¬fp b):fp=noF:=funext λb=>propext ⟨λA=>h b A,λA=>A.elim⟩
def Xt(v:V)(K:V->Prop):Prop:=AJ v=false/\K v
theorem JY(wr:Be σ w D ρ F)(A:o.op=.move x\/o.op=.assign x)(hv:OpR σ w D ρ F v (a.eval x))(h:Xt v K):∃r,K r/\Ap P o a w σ D ρ r:=by
 obtain⟨fp,B,_⟩:=hv;have:=A2 (AB _ _ _ h.1 B);subst this;refine⟨v,h.2,Ap.pure wr ?_ B⟩;rcases A with A|A<;>(unfold execOp;simp_all)
def Xs(c x y:V)(K:V->Prop):Prop:=
 match c with
 |.c (.bool b)=>AJ x=false/\AJ y=false/\(b=true->K x)/\(b=false->K y)
 |_=>False
theorem PL(wr:Be σ w D ρ F){Z W U:V}{c y:Operand}(ho:o.op=.pick c x y)(Y:OpR σ w D ρ F Z (a.eval c))(H:OpR σ w D ρ F W (a.eval x))(B:OpR σ w D ρ F U (a.eval y))(h:Xs Z W U K):
  ∃r,K r/\Ap P o a w σ D ρ r:=by
 unfold Xs at h;split at h<;>try grind
 rename_i b;obtain⟨h1,h2,h3,h4⟩:=h;obtain⟨_,Y,_⟩:=Y;obtain⟨fx,H,_⟩:=H;obtain⟨fy,B,_⟩:=B;have:=A2 (AB _ _ _ h1 H);subst this;have:=A2 (AB _ _ _ h2 B);subst this;have A:=Y.1;cases b with
 |true=>exact⟨W,h3 rfl,Ap.pure wr (by unfold execOp;rw[ho];simp[A,asBool]) H⟩
 |false=>exact⟨U,h4 rfl,Ap.pure wr (by unfold execOp;rw[ho];simp[A,asBool]) B⟩
end ops
end Go.Ve


namespace Go.Ve
variable{ad:Addr}{s:Bool}{n sz:Nat}{f:Nat->Nat->V}{fp:Nat->Prop}{d:TypeDesc}{t:TypeId}{v:V}{R:V->Value->Prop}{cv:Value}
section ops
variable {P:Program}{o:Oper}{a:Act}{w:World}{σ:List V}{D:Nat->Prop}{ρ:Nat->Value}{F:Nat->Nat->Prop}{K:V->Prop}
def Wy(id:Nat)(q:List (Nat×Nat)):V->V
 |.nd true true _ n _=>.rs id q 0 n
 |.nd false true _ _ _=>.rp id q 0 0
 |.mp true _=>.rm id q
 |v=>v
def Co(σ:List V)(id:Nat)(p:List (Nat×Nat))(i k:Nat):V:=
 match sub p (σ.getD id .dead)with
 |.nd _ _ _ _ f=>f i k
 |_=>.dead
def AW(σ:List V)(id:Nat)(p:List (Nat×Nat)):Nat:=
 match sub p (σ.getD id .dead)with
 |.nd _ _ sz _ _=>sz
 |_=>0
def BU:V->Bool
 |.many ..=>false
 |.nd false true sz _ _=>0<sz
 |_=>true
theorem QC(wr:Be σ w D ρ F){id:Nat}{p:List (Nat×Nat)}{s:Bool}{sz n:Nat}{f:Nat->Nat->V}{b o' cap:Nat}(H:id<σ.length)
  (ha:At w p (σ.getD id .dead) (ρ id) (.nd s true sz n f) (Av s b o' n cap)) {i k:Nat} (hi:i<n) (hk:k<sz) (hc:BU (f i k)=true):
  ∃x,w.cell? ⟨b,o'+i*sz+k,none⟩=some x/\Rel D w (Ae σ ρ w) (Wy id (p++[(i,k)]) (f i k)) x noF:=by
 obtain⟨fp1,hr1,hsub,_⟩:=Ds (w':=w) p _ _ _ _ _ (wr.rel id H) (λb hb h=>wr.dD id b h hb) ha
 rcases hr1 with⟨h0,_⟩|⟨b2,o2,cap2,F2,hcv,hcap,hmax,hs1,W,himm,ho⟩
 .omega
 obtain⟨rfl,rfl,_⟩:=Am hcv;obtain⟨x,hx,A⟩:=W i k hi hk;refine⟨x,hx,?_⟩;have Y:At w (p++[(i,k)]) (σ.getD id .dead) (ρ id) (f i k) x:=At.app ha ⟨hi,hk,b,o',cap,x,rfl,hx,rfl,rfl⟩;generalize hv:f i k=v at*;cases v with
 |c v=>exact⟨A.1,A.2.1,λ_ h=>h⟩
 |dead=>exact λ_ h=>h
 |many t n f=>cases hc
 |rs id p off len=>exact A.1.elim
 |rp id p i k=>exact A.1.elim
 |rm id p=>exact A.1.elim
 |mp own l=>
  cases own with
  |false=>
   have he:F2 i k=noF:=A2 (AB _ _ _ (by rfl) A)
   rw[he]at A;exact Rel.noR_mono A
  |true=>obtain⟨b',hb',_⟩:=A;exact⟨⟨H,l,b',Y,hb'⟩,λ_ h=>h⟩
 |nd s' own Z n' f'=>
  cases own with
  |false=>
   have he:F2 i k=noF:=A2 (AB _ _ _ (by rfl) A)
   rw[he]at A;cases s'<;>exact Rel.noR_mono A
  |true=>
   cases s' with
   |true=>
    refine⟨⟨H,Z,n',f',x,Y,by omega,?_⟩,λ_ h=>h⟩
    rcases A with⟨rfl,_,U,_⟩|⟨b3,o3,B,F3,rfl,_⟩
    .have U:=DQ U
     subst U;exact .inr ⟨rfl,none,rfl,λ_ _=>rfl,λp e=>by cases e⟩
    .exact .inl ⟨b3,o3,B,rfl,by simp[Av]⟩
   |false=>
    rcases A with⟨_,h,_⟩|⟨b3,o3,B,F3,rfl,_,_,h1,_⟩
    .cases h
    .refine⟨⟨H,false,Z,n',f',b3,o3,B,Y,by rw[h1 rfl];exact Nat.one_pos,by simpa [BU]using hc,by simp[Av]⟩,λ_ h=>h⟩
def M4{ad:Addr}{i:TypeInfo}{s:Nat}(hd:P.underlying t=some d)(hi:P.info? t=some i)(A:i.size=s)(B:I4 d=true)
  (cs:List Value) (H:cs.length=s) (U:∀j v,cs[j]? =some v->w.cell? (ad.add j)=some v):(loadVar t ad).run P w=.ok (.agg cs.toArray) w:=by
 subst H
 have W:(isAgg t).run P w=.ok true w:=by
  unfold isAgg;cases d<;>simp[I4]at B<;>simp[run_underlying hd]
 simp[loadVar,W,Result.andThen,sizeOf,typeInfo,A];simp[hi,<-A];rw[A,run_loadCells_list w ad cs U]
def M2{ad:Addr}(hd:P.underlying t=some d)(A:I4 d=false)
  {v:Value} (B:w.cell? ad=some v):(loadVar t ad).run P w=.ok v w:=by
 have H:(isAgg t).run P w=.ok false w:=by
  unfold isAgg;cases d<;>simp[I4]at A<;>simp[run_underlying hd]
 simp[loadVar,H,B]
theorem AZ(A:ad.spot=none)(j:Nat):ad.add j=⟨ad.block,ad.off+j,none⟩:=by
 unfold Addr.add;split
 .rename_i h;cases ad;grind
 rfl
theorem BJ{p:Nat->Value->Prop}(h:∀k,k<n->∃x,p k x):∃cs:List Value,cs.length=n/\∀k x,cs[k]? =some x->p k x:=by
 induction n with
 |zero=>simp
 |succ n U=>
  obtain⟨cs,B,W⟩:=U λk H=>h k (by omega)
  obtain⟨x,Y⟩:=h n (by omega)
  refine⟨cs++[x],by simp[B],λk y A=>?_⟩
  by_cases H:k<cs.length
  .rw[gAL H]at A;exact W k y A
  .have:k=n:=by
    grind
   subst this;simp[B]at A
   grind
def Iu(A:Option TyI)(σ:List V)(x:V)(K:V->Prop):Prop:=
 match A with
 |some ⟨false,_,_⟩=>match x with
  |.nd false false sz _ f=>0<sz/\K (f 0 0)
  |.rp id p i k=>BU (Co σ id p i k)=true/\K (Wy id (p++[(i,k)]) (Co σ id p i k))
  |.many .bx n f=>(0<n/\AJ (f 0)=false)/\K (f 0)
  |_=>False
 |some ⟨true,s,_⟩=>match x with
  |.nd false false sz _ f=>s<=sz/\K (Ah (tab s λk=>f 0 k))
  |.rp id p i k=>k+s<=AW σ id p/\(List.range s).all (λj=>BU (Co σ id p i (k+j)))=true/\K (Ah (tab s λj=>Wy id (p++[(i,k+j)]) (Co σ id p i (k+j))))
  |.many .bx n f=>(s<=n/\(List.range s).all (λk=>!AJ (f k))=true)/\K (Ah (tab s f))
  |_=>False
 |none=>False
theorem Kh(h:Rel D w R (.nd s false sz n f) cv fp)(hn:0<n):
  ∃b o cap,cv=Av s b o n cap/\n<=cap/\∀i k,i<n->k<sz->D b/\∃x,w.cell? ⟨b,o+i*sz+k,none⟩=some x/\Rel D w noR (f i k) x noF:=by
 rcases h with⟨h0,_⟩|⟨b,o,cap,F,H,A,U,hs,Z,hi,_⟩
 .omega
 obtain⟨h1,h2,h3⟩:=hi rfl;refine⟨b,o,cap,H,A,λi k hi W=>⟨h1 (Nat.mul_pos hn (by omega)),?_⟩⟩
 obtain⟨x,Y,B⟩:=Z i k hi W;exact⟨x,Y,A2 (h2 i k · hi W)▸B⟩
theorem Na(h:Rel D w R (.nd false false sz n f) cv fp):
  n=1/\∃b o,cv=.pointer (some ⟨b,o,none⟩)/\∀k,k<sz->D b/\∃x,w.cell? ⟨b,o+k,none⟩=some x/\Rel D w noR (f 0 k) x noF:=by
 have W:n=1:=by
  rcases h with⟨_,h,_⟩|⟨b,o,cap,F,A,H,B,Y,U,hi,_⟩
  .cases h
  grind
 subst W;obtain⟨b,o,cap,A,_,U⟩:=Kh h Nat.one_pos;exact⟨rfl,b,o,by trivial,λk Z=>by grind⟩
theorem H9{f:Nat->V}(h:Rel D w R (.many .bx n f) cv fp):
  ∃b o,cv=.pointer (some ⟨b,o,none⟩)/\(0<n->D b)/\∀k,k<n->∃x A,w.cell? ⟨b,o+k,none⟩=some x/\Rel D w R (f k) x A:=by
 obtain⟨cs,F,⟨b,o,H,B,h3⟩,hn,hr,_,_⟩:=h
 grind
theorem Og(wr:Be σ w D ρ F)(hr:Rel D w (Ae σ ρ w) v cv fp)(h:Iu (tyI P t) σ v K):∃r,K r/\∃ad cr,cv=.pointer (some ad)/\(loadVar t ad).run P w=.ok cr w/\Rel D w (Ae σ ρ w) r cr noF:=by
 unfold Iu at h;split at h
 .rename_i sz0 z0 hti
  obtain⟨d,i,z,hd,hi,hz,his,_,_,_,U⟩:=CP hti;split at h
  .obtain⟨B,Y⟩:=h
   obtain⟨_,b,o',he,hc⟩:=Na hr;obtain⟨_,y,hy,W⟩:=hc 0 B;exact⟨_,Y,_,_,he,M2 hd U.symm (by simpa using hy),Rel.noR_mono W⟩
  .rename_i id p i' k'
   obtain⟨hc,Y⟩:=h;obtain⟨⟨hid,s,sz,n,f,b,o',cap,ha,hi',hk',he⟩,_⟩:=hr;have H:Co σ id p i' k'=f i' k':=by unfold Co;rw[<-At.sub ha]
   rw[H]at Y hc;obtain⟨y,hy,W⟩:=QC wr hid ha hi' hk' hc;exact⟨_,Y,_,_,he,M2 hd U.symm hy,W⟩
  .obtain⟨⟨B,hto⟩,Y⟩:=h
   obtain⟨b,o',he,_,hc⟩:=H9 hr;obtain⟨y,fq,hy,W⟩:=hc 0 B;exact⟨_,Y,_,_,he,M2 hd U.symm (by simpa using hy),A2 (AB _ _ _ hto W)▸W⟩
  .exact h.elim
 .rename_i s z0 hti
  obtain⟨d,i,z,hd,hi,hz,his,_,_,_,U⟩:=CP hti;split at h
  .obtain⟨B,Y⟩:=h
   obtain⟨_,b,o',he,hc⟩:=Na hr;obtain⟨cs,Z,A⟩:=BJ (n:=s) (p:=λk x=>w.cell? ⟨b,o'+k,none⟩=some x/\Rel D w noR (_) x noF) λk hk=>(hc k (by omega)).2
   refine⟨_,Y,_,_,he,M4 hd hi his U.symm cs Z λj v hj=>(by rw[AZ rfl];exact(A j v hj).1),Rel.eqv _ _ _ _ (Pt _ _) ?_⟩
   refine⟨cs.toArray,λ_=>noF,rfl,by simpa using Z,λk hk=>?_,λ_ _ _ _ _ _ h=>h.elim,λb=>⟨λh=>h.elim,fun⟨_,_,h⟩=>h⟩⟩
   have:cs[k]? =some (cs.toArray.getD k undef):=by simp[Z,hk]
   exact Rel.noR_mono (A k _ this).2
  .rename_i id p i' k'
   obtain⟨B,hco,Y⟩:=h;obtain⟨⟨hid,s',sz,n,f,b,o',cap,ha,hi',hk',he⟩,_⟩:=hr;have H:∀k,Co σ id p i' k=f i' k:=by intro k;unfold Co;rw[<-At.sub ha]
   have hns:AW σ id p=sz:=by unfold AW;rw[<-At.sub ha]
   rw[hns]at B;simp only[H]at Y hco;obtain⟨cs,Z,A⟩:=BJ (n:=s) λj hj=>QC wr hid ha hi' (show k'+j<sz by omega) (by simpa using aET.1 hco j (List.mem_range.2 hj))
   refine⟨_,Y,_,_,he,M4 hd hi his U.symm cs Z λj v hj=>(by rw[AZ rfl];simpa [Nat.add_assoc]using(A j v hj).1),Rel.eqv _ _ _ _ (Pt _ _) ?_⟩
   refine⟨cs.toArray,λ_=>noF,rfl,by simpa using Z,λk hk=>?_,λ_ _ _ _ _ _ h=>h.elim,λb=>⟨λh=>h.elim,fun⟨_,_,h⟩=>h⟩⟩
   have:cs[k]? =some (cs.toArray.getD k undef):=by simp[Z,hk]
   exact(A k _ this).2
  .rename_i n f
   obtain⟨⟨B,hto⟩,Y⟩:=h;obtain⟨b,o',he,_,hc⟩:=H9 hr
   obtain⟨cs,Z,A⟩:=BJ (n:=s) (p:=λk x=>w.cell? ⟨b,o'+k,none⟩=some x/\Rel D w (Ae σ ρ w) (f k) x noF) λk hk=>by
    obtain⟨x,fq,h1,h2⟩:=hc k (by omega)
    exact⟨x,h1,A2 (AB _ _ _ (by simpa using aET.1 hto k (List.mem_range.2 hk)) h2)▸h2⟩
   refine⟨_,Y,_,_,he,M4 hd hi his U.symm cs Z λj v hj=>(by rw[AZ rfl];exact(A j v hj).1),Rel.eqv _ _ _ _ (Pt _ _) ?_⟩
   refine⟨cs.toArray,λ_=>noF,rfl,by simpa using Z,λk hk=>?_,λ_ _ _ _ _ _ h=>h.elim,λb=>⟨λh=>h.elim,fun⟨_,_,h⟩=>h⟩⟩
   have:cs[k]? =some (cs.toArray.getD k undef):=by simp[Z,hk]
   exact(A k _ this).2
  .exact h.elim
 .exact h.elim
theorem JZ(wr:Be σ w D ρ F){x:Operand}(H:o.op=.load t x)(hv:OpR σ w D ρ F v (a.eval x))(h:Iu (tyI P t) σ v K):∃r,K r/\Ap P o a w σ D ρ r:=by
 obtain⟨fp,B,Y,W⟩:=hv;obtain⟨r,hK,ad,cr,Z,U,A⟩:=Og wr B h;exact⟨r,hK,Ap.pure wr (by unfold execOp;rw[H];simp[Instr.loadAt,Z,Instr.sureAddr,U]) A⟩
end ops
end Go.Ve

