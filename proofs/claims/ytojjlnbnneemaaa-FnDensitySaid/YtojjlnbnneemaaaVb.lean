/- Paths into owned trees. -/
import Derived.Test.YtojjlnbnneemaaaVa
import Derived.Laws.Cells
import Derived.Laws.MakeOwn
import Derived.Laws.Tables
import Derived.IntWalk
import Derived.Laws.Slices
set_option linter.all false
namespace Go.Ve
variable{s:Bool}{b cap n o:Nat}{D:Nat->Prop}{w:World}
def sub:List (Nat×Nat)->V->V
 |[],v=>v
 |(i,k)::p,.nd _ _ _ _ f=>sub p (f i k)
 |_::_,_=>.dead
def upd:List (Nat×Nat)->V->V->V
 |[],_,x=>x
 |(i,k)::p,.nd s o sz n f,x=>.nd s o sz n λi' k'=>if i'=i/\k'=k then upd p (f i k) x else f i' k'
 |_::_,v,_=>v
def At(w:World):List (Nat×Nat)->V->Value->V->Value->Prop
 |[],v,cv,v',cv'=>v'=v/\cv'=cv
 |(i,k)::p,.nd s true sz n f,cv,v',cv'=>i<n/\k<sz/\∃b o cap x,cv=AC s b o n cap/\w.cell? ⟨b,o+i*sz+k,none⟩=some x/\At w p (f i k) x v' cv'
 |_::_,_,_,_,_=>False
def Kb:List (Nat×Nat)->V->Prop
 |[],_=>True
 |(i,k)::p,.nd _ own sz n f=>own=true/\i<n/\k<sz/\Kb p (f i k)
 |_::_,_=>False
theorem Aw{B A u:Nat}(h:AC s b o n cap=AC s B A n u):b=B/\o=A/\(s=true->cap=u):=by
 cases s
 .simp[AC]at h;grind
 .simp[AC]at h;omega
def At.sub{w:World}:∀{p:List (Nat×Nat)}{v:V}{cv:Value}{v':V}{u:Value},At w p v cv v' u->v'=sub p v
 |[],_,_,_,_,h=>h.1
 |(i,k)::p,.nd s true sz n f,_,v',_,h=>by obtain⟨_,_,_,_,_,x,_,_,h⟩:=h;exact(show v'=Go.Ve.sub p (f i k)from At.sub h)
 |_::_,.nd _ false _ _ _,_,_,_,h=>h.elim
 |_::_,.c _,_,_,_,h=>h.elim
 |_::_,.dead,_,_,_,h=>h.elim
 |_::_,.many ..,_,_,_,h=>h.elim
 |_::_,.rs ..,_,_,_,h=>h.elim
 |_::_,.rp ..,_,_,_,h=>h.elim
 |_::_,.rm ..,_,_,_,h=>h.elim
 |_::_,.mp ..,_,_,_,h=>h.elim
def At.ok{w:World}:∀{p:List (Nat×Nat)}{v:V}{cv:Value}{v':V}{u:Value},At w p v cv v' u->Kb p v
 |[],_,_,_,_,h=>trivial
 |(i,k)::p,.nd s true sz n f,_,_,_,h=>by obtain⟨B,A,_,_,_,x,_,_,h⟩:=h;exact⟨rfl,B,A,At.ok h⟩
 |_::_,.nd _ false _ _ _,_,_,_,h=>h.elim
 |_::_,.c _,_,_,_,h=>h.elim
 |_::_,.dead,_,_,_,h=>h.elim
 |_::_,.many ..,_,_,_,h=>h.elim
 |_::_,.rs ..,_,_,_,h=>h.elim
 |_::_,.rp ..,_,_,_,h=>h.elim
 |_::_,.rm ..,_,_,_,h=>h.elim
 |_::_,.mp ..,_,_,_,h=>h.elim
theorem At.app{w:World}:∀{p q:List (Nat×Nat)}{v:V}{cv:Value}{v':V}{B:Value}{A:V}{u:Value},At w p v cv v' B->At w q v' B A u->At w (p++q) v cv A u
 |[],_,_,_,_,_,_,_,h,h'=>by obtain⟨rfl,rfl⟩:=h;grind
 |(i,k)::p,_,.nd s true sz n f,_,_,_,_,_,h,h'=>by
  obtain⟨W,U,b,o,cap,x,O,J,E⟩:=h;exact⟨W,U,b,o,cap,x,O,J,At.app E h'⟩
 |_::_,_,.nd _ false _ _ _,_,_,_,_,_,h,_=>h.elim
 |_::_,_,.c _,_,_,_,_,_,h,_=>h.elim
 |_::_,_,.dead,_,_,_,_,_,h,_=>h.elim
 |_::_,_,.many ..,_,_,_,_,_,h,_=>h.elim
 |_::_,_,.rs ..,_,_,_,_,_,h,_=>h.elim
 |_::_,_,.rp ..,_,_,_,_,_,h,_=>h.elim
 |_::_,_,.rm ..,_,_,_,_,_,h,_=>h.elim
 |_::_,_,.mp ..,_,_,_,_,_,h,_=>h.elim
theorem Rel.root{R:V->Value->Prop}{sz:Nat}{f:Nat->Nat->V}{fp:Nat->Prop}(h:Rel D w R (.nd s true sz n f) (AC s b o n cap) fp):fp b:=by
 rcases h with⟨_,rfl,B,_⟩|⟨O,E,A,F,u,_,_,_,_,_,J⟩
 .exact absurd B BQ
 .obtain⟨rfl,-,-⟩:=Aw u
  grind
theorem C9{D:Nat->Prop}{w w':World}:∀(p:List (Nat×Nat)) (v:V) (cv:Value) (fp:Nat->Prop) (v1:V) (cv1:Value),
  Rel D w noR v cv fp->(∀b,D b->¬fp b)->At w p v cv v1 cv1->
  ∃J,Rel D w noR v1 cv1 J/\(∀b,J b->fp b)/\∀v2 W,Rel D w' noR v2 cv1 W->(∀b,W b->J b\/¬fp b)->
   (∀b,(D b\/fp b)->¬J b->w'.heap[b]? =w.heap[b]?)->Rel D w' noR (upd p v v2) cv (λb=>(fp b/\¬J b)\/W b):=by
 intro p
 induction p with
 |nil=>
  intro v cv fp v1 cv1 hr hD ha;obtain⟨rfl,rfl⟩:=ha;refine⟨fp,hr,λ_ h=>h,λv2 W h2 hs hw=>Rel.fp_congr (λb=>?_) h2⟩
  exact⟨λh=>.inr h,λh=>h.elim (λh=>absurd h.1 h.2) id⟩
 |cons ik p ih=>
  obtain⟨i,k⟩:=ik;intro v cv fp v1 cv1 hr hD ha
  match v,ha,hr with
  |.nd s true sz n f,ha,hr=>
   obtain⟨hi,Z,b,o,cap,x,hcv,hx,ha⟩:=ha;rcases hr with⟨h0,_⟩|⟨b',o',cap',F,hcv',hcap,hmax,hs1,E,himm,ho⟩
   .omega
   subst hcv;obtain⟨rfl,rfl,hcc⟩:=Aw hcv';obtain⟨⟨cs,T,hb1,hb2⟩,hbF,hFd,hfp⟩:=ho rfl;obtain⟨x',hx',hrx⟩:=E i k hi Z;have:x'=x:=Option.some.inj (hx'.symm.trans hx);subst this;have B:∀c,F i k c->fp c:=λc E=>(hfp c).2 (.inr ⟨i,k,hi,Z,E⟩)
   obtain⟨J,hr1,hs,hput⟩:=ih _ _ _ _ _ hrx (λc E h=>hD c E (B c h)) ha
   refine⟨J,hr1,λc E=>B c (hs c E),λv2 W h2 hs2 hw=>?_⟩
   have hbfp:fp b:=(hfp b).2 (.inl rfl);have hb1':¬J b:=λh=>hbF i k hi Z (hs b h)
   have hwb:w'.heap[b]? =w.heap[b]?:=hw b (.inr hbfp) hb1';have hnew:=hput v2 W h2 (λc E=>(hs2 c E).imp id λh h'=>h (B c h')) (λc E hn=>hw c (E.imp id (B c)) hn)
   refine .inr ⟨b,o,cap',λi' k' c=>if i'=i/\k'=k then(F i k c/\¬J c)\/W c else F i' k' c,hcv',hcap,hmax,hs1,?_,(λh=>by cases h),λ_=>⟨⟨cs,T,hb1.same hwb,hb2⟩,?_,?_,?_⟩⟩
   .intro i' k' A u
    by_cases Y:i'=i/\k'=k
    .obtain⟨rfl,rfl⟩:=Y
     exact⟨x',by rw[Dj (w:=w) hwb];exact hx,by simpa using hnew⟩
    .obtain⟨y,hy,hry⟩:=E i' k' A u
     refine⟨y,by rw[Dj (w:=w) hwb];exact hy,?_⟩
     simp only[Y,if_false];refine Rel.mono (λ_ h=>h) (λ_ _ h=>h) _ _ _ (λc E=>hw c (E.imp id λh=>(hfp c).2 (.inr ⟨i',k',A,u,h⟩)) ?_) hry
     intro h1;rcases E with hcD|hcF
     .exact hD c hcD (B c (hs c h1))
     .exact hFd i' k' i k c A u hi Z (by omega) hcF (hs c h1)
   .intro i' k' A u
    by_cases Y:i'=i/\k'=k
    .simp only[Y,and_self,if_true]
     rintro (⟨h,_⟩|h)
     .exact hbF i k hi Z h
     .rcases hs2 b h with h|h
      .exact hb1' h
      .exact h hbfp
    .simp only[Y,if_false];exact hbF i' k' A u
   .intro i1 k1 i2 k2 c h1 h2' h3 h4 hne U O
    by_cases he1:i1=i/\k1=k<;>by_cases he2:i2=i/\k2=k
    .omega
    .simp only[he1,and_self,if_true]at U
     simp only[he2,if_false]at O;rcases U with⟨h,_⟩|h
     .exact hFd i k i2 k2 c hi Z h3 h4 (by omega) h O
     .rcases hs2 c h with h|h
      .exact hFd i k i2 k2 c hi Z h3 h4 (by omega) (hs c h) O
      .exact h ((hfp c).2 (.inr ⟨i2,k2,h3,h4,O⟩))
    .simp only[he2,and_self,if_true]at O
     simp only[he1,if_false]at U;rcases O with⟨h,_⟩|h
     .exact hFd i k i1 k1 c hi Z h1 h2' (by omega) h U
     .rcases hs2 c h with h|h
      .exact hFd i k i1 k1 c hi Z h1 h2' (by omega) (hs c h) U
      .exact h ((hfp c).2 (.inr ⟨i1,k1,h1,h2',U⟩))
    .simp only[he1,if_false]at U
     simp only[he2,if_false]at O;exact hFd i1 k1 i2 k2 c h1 h2' h3 h4 hne U O
   .intro c
    constructor
    .rintro (⟨E,hn⟩|E)
     .rcases(hfp c).1 E with rfl|⟨i',k',A,u,hF⟩
      .exact .inl rfl
      .refine .inr ⟨i',k',A,u,?_⟩
       by_cases Y:i'=i/\k'=k
       .simp only[Y,and_self,if_true];rw[Y.1,Y.2]at hF;exact .inl ⟨hF,hn⟩
       .simp only[Y,if_false];exact hF
     .exact .inr ⟨i,k,hi,Z,by simp only[and_self,if_true];exact .inr E⟩
    .rintro (rfl|⟨i',k',A,u,hF⟩)
     .exact .inl ⟨hbfp,hb1'⟩
     .by_cases Y:i'=i/\k'=k
      .simp only[Y,and_self,if_true]at hF
       rcases hF with⟨h,hn⟩|h
       .exact .inl ⟨B c h,hn⟩
       .exact .inr h
      .simp only[Y,if_false]at hF
       exact .inl ⟨(hfp c).2 (.inr ⟨i',k',A,u,hF⟩),λh1=>hFd i' k' i k c A u hi Z (by omega) hF (hs c h1)⟩
theorem At.same{D:Nat->Prop}{w w':World}:∀{p:List (Nat×Nat)}{v:V}{cv:Value}{fp:Nat->Prop}{E:V}{u:Value},
  Rel D w noR v cv fp->At w p v cv E u->(∀b,fp b->w'.heap[b]? =w.heap[b]?)->At w' p v cv E u
 |[],_,_,_,_,_,_,B,_=>B
 |(i,k)::p,.nd s true sz n f,cv,fp,E,u,hr,B,hw=>by
  obtain⟨W,U,b,o,cap,x,Y,hx,B⟩:=B;subst Y;have hb:=Rel.root hr;rcases hr with⟨h0,_⟩|⟨b',o',cap',F,A,hcap,hmax,hs1,Z,himm,ho⟩
  .omega
  obtain⟨rfl,rfl,hcc⟩:=Aw A;obtain⟨x',J,O⟩:=Z i k W U;have:=Option.some.inj (J.symm.trans hx);subst this;exact⟨W,U,b,o,cap,x',rfl,by rw[Dj (hw b hb)];exact hx,At.same O B λc Z=>hw c (((ho rfl).2.2.2 c).2 (.inr ⟨i,k,W,U,Z⟩))⟩
 |_::_,.nd _ false _ _ _,_,_,_,_,_,h,_=>h.elim
 |_::_,.c _,_,_,_,_,_,h,_=>h.elim
 |_::_,.dead,_,_,_,_,_,h,_=>h.elim
 |_::_,.many ..,_,_,_,_,_,h,_=>h.elim
 |_::_,.rs ..,_,_,_,_,_,h,_=>h.elim
 |_::_,.rp ..,_,_,_,_,_,h,_=>h.elim
 |_::_,.rm ..,_,_,_,_,_,h,_=>h.elim
 |_::_,.mp ..,_,_,_,_,_,h,_=>h.elim
end Go.Ve


namespace Go.Ve
variable{σ:List V}{F:Nat->Nat->Prop}{D fp:Nat->Prop}{ρ:Nat->Value}{x:Operand}{P:Program}{t:TypeId}{v:V}{R:V->Value->Prop}{w:World}
def Aq(σ:List V)(ρ:Nat->Value)(w:World):V->Value->Prop
 |.rs id p off len,cv=>id<σ.length/\∃sz n f cn,At w p (σ.getD id .dead) (ρ id) (.nd true true sz n f) cn/\off+len<=n/\
   ((∃b o cap,cn=AC true b o n cap/\cv=.slice (some ⟨b,o+off*sz,none⟩) len (cap-off))\/(len=0/\∃a:Option (Nat×Nat),cv=.slice (a.map λp=>⟨p.1,p.2,none⟩) 0 0/\(off=0->n=0->cv=cn)/\∀p,a=some p->∃o cap,cn=AC true p.1 o n cap/\o<=p.2/\p.2<=o+cap*sz))
 |.rp id p i k,cv=>id<σ.length/\∃s sz n f b o cap,At w p (σ.getD id .dead) (ρ id) (.nd s true sz n f) (AC s b o n cap)/\i<n/\k<sz/\
   cv=.pointer (some ⟨b,o+i*sz+k,none⟩)
 |.rm id p,cv=>id<σ.length/\∃l b,At w p (σ.getD id .dead) (ρ id) (.mp true l) cv/\cv=.map (some b)
 |_,_=>False
structure Bu(σ:List V)(w:World)(D:Nat->Prop)(ρ:Nat->Value)(F:Nat->Nat->Prop):Prop where
 rel:∀i,i<σ.length->Rel D w noR (σ.getD i .dead) (ρ i) (F i)
 disj:∀i j b,i≠j->F i b->¬F j b
 dD:∀i b,F i b->¬D b
 Dlt:∀b,D b->b<w.heap.size
 out:∀i b,σ.length<=i->¬F i b
def Bu.lt{σ:List V}{w:World}{D:Nat->Prop}{ρ:Nat->Value}{F:Nat->Nat->Prop}(h:Bu σ w D ρ F)(i b:Nat)(u:F i b):b<w.heap.size:=by
 by_cases A:i<σ.length
 .exact Rel.lt _ _ _ (h.rel i A) b u
 .exact absurd u (h.out i b (by omega))
def Aq.same{σ:List V}{w w':World}{D:Nat->Prop}{ρ:Nat->Value}{F:Nat->Nat->Prop}(h:Bu σ w D ρ F)(B:∀i b,F i b->w'.heap[b]? =w.heap[b]?):
  ∀v cv,Aq σ ρ w v cv->Aq σ ρ w' v cv
 |.rs id p off len,cv,⟨u,sz,n,f,cn,A,r⟩=>⟨u,sz,n,f,cn,At.same (h.rel id u) A (B id),r⟩
 |.rp id p i k,cv,⟨u,s,sz,n,f,b,o,cap,A,r⟩=>⟨u,s,sz,n,f,b,o,cap,At.same (h.rel id u) A (B id),r⟩
 |.rm id p,cv,⟨u,l,b,A,e⟩=>⟨u,l,b,At.same (h.rel id u) A (B id),e⟩
 |.mp ..,_,h=>h.elim
 |.c _,_,h=>h.elim
 |.dead,_,h=>h.elim
 |.many ..,_,h=>h.elim
 |.nd ..,_,h=>h.elim
theorem Bu.below{w':World}(h:Bu σ w D ρ F)(A:Below w.heap.size w w'):Bu σ w' D ρ F:=
 ⟨λi B=>Rel.mono (λ_ h=>h) (λ_ _ h=>h) _ _ _ (λb u=>A.block b (u.elim (h.Dlt b) (h.lt i b))) (h.rel i B),h.disj,h.dD,λb u=>Nat.lt_of_lt_of_le (h.Dlt b u) A.size,h.out⟩
def Rel.noR_mono{cv:Value}(h:Rel D w noR v cv fp):Rel D w R v cv fp:=
 Rel.mono (λ_ h=>h) (λ_ _ h=>h.elim) _ _ _ (λ_ _=>rfl) h
def OpR(σ:List V)(w:World)(D:Nat->Prop)(ρ:Nat->Value)(F:Nat->Nat->Prop)(v:V)(cv:Value):Prop:=
 ∃fp,Rel D w (Aq σ ρ w) v cv fp/\(∀b,fp b->¬D b)/\∀i b,F i b->¬fp b
def Av(P:Program)(o:Oper)(a:Act)(w:World)(σ:List V)(D:Nat->Prop)(ρ:Nat->Value)(r:V):Prop:=
 ∀(next:Act->World->Prop) (Q:Exit->Act->World->Prop),
  (∀v' w' D' fp,Below w.heap.size w w'->Rel D' w' (Aq σ ρ w') r v' fp->(∀b,fp b->w.heap.size<=b)->(∀b,D b->D' b)->(∀b,D' b->D b\/w.heap.size<=b)->
   (∀b,D' b->b<w'.heap.size/\¬fp b)->next (a.put o.dst v') w')->o.wp P a w next Q
theorem Av.pure{P:Program}{o:Oper}{a:Act}{r:V}{v':Value}(wr:Bu σ w D ρ F)
  (h:(execOp a.eval o).run P w=.ok (.value v') w) (u:Rel D w (Aq σ ρ w) r v' noF):Av P o a w σ D ρ r:=by
 intro next Q A
 unfold Oper.wp;rw[h];exact A v' w D noF (Below.refl _ _) u (λ_ h=>h.elim) (λ_ h=>h) (λ_ h=>.inl h) (λb h=>⟨wr.Dlt b h,λh=>h⟩)
theorem Av.new{P:Program}{o:Oper}{a:Act}{r:V}{v':Value}{ob:Obj}(wr:Bu σ w D ρ F)
  (h:(execOp a.eval o).run P w=.ok (.value v') (w.alloc ob)) (u:∃fp,Rel D (w.alloc ob) (Aq σ ρ (w.alloc ob)) r v' fp/\∀b,fp b->b=w.heap.size):Av P o a w σ D ρ r:=by
 intro next Q A
 unfold Oper.wp;rw[h];obtain⟨fp,u,E⟩:=u;refine A v' (w.alloc ob) D fp ((Below.refl _ _).alloc (Nat.le_refl _) _) u (λb B=>by grind) (λ_ h=>h) (λ_ h=>.inl h) (λb h=>⟨?_,λB=>?_⟩)
 .have:=wr.Dlt b h;simp;omega
 .have:=wr.Dlt b h;grind
def IH:TypeDesc->Bool
 |.struct _|.array _ _=>true
 |_=>false
structure SlI where
 e:TypeId
 size:Nat
 bytes:Nat
 zero:List Value
def slI(P:Program)(t:TypeId):Option SlI:=
 match P.underlying t with
 |some (.slice e)=>match P.info? e with
  |some i=>match i.zero with
   |some z=>if z.cells.size=i.size/\z.cells.toList.all (·.oneCell')=true then some ⟨e,i.size,i.bytes,z.cells.toList⟩else none
   |none=>none
  |none=>none
 |_=>none
structure TyI where
 agg:Bool
 size:Nat
 zero:List Value
def tyI(P:Program)(t:TypeId):Option TyI:=
 match P.underlying t,P.info? t with
 |some d,some i=>match i.zero with
  |some z=>if z.cells.size=i.size/\z.cells.toList.all (·.oneCell')=true then some ⟨IH d,i.size,z.cells.toList⟩else none
  |none=>none
 |_,_=>none
def US(P:Program)(t:TypeId)(k:Nat):Option (Nat×Nat):=
 match P.underlying t with
 |some (.struct fs)=>match fs[k]? with
  |some f=>match P.info? f.type with
   |some i=>if 0<i.size then some (f.offset,i.size)else none
   |none=>none
  |none=>none
 |_=>none
theorem Dn{s:SlI}(h:slI P t=some s):P.underlying t=some (.slice s.e)/\∃i z,P.info? s.e=some i/\i.zero=some z/\i.size=s.size/\i.bytes=s.bytes/\z.cells.toList=s.zero/\z.cells.size=s.size/\∀v∈s.zero,v.oneCell'=true:=by
 unfold slI at h
 grind
theorem CX{s:TyI}(h:tyI P t=some s):∃d i z,P.underlying t=some d/\P.info? t=some i/\i.zero=some z/\i.size=s.size/\z.cells.toList=s.zero/\z.cells.size=s.size/\(∀v∈s.zero,v.oneCell'=true)/\s.agg=IH d:=by
 unfold tyI at h
 grind
theorem Xp{k off sz:Nat}(h:US P t k=some (off,sz)):∃fs f i,P.underlying t=some (.struct fs)/\fs[k]? =some f/\f.offset=off/\P.info? f.type=some i/\i.size=sz/\0<sz:=by
 unfold US at h
 grind
section ops
variable {P:Program}{o:Oper}{a:Act}{w:World}{σ:List V}{D:Nat->Prop}{ρ:Nat->Value}{F:Nat->Nat->Prop}{K:V->Prop}
def AN:V->Bool
 |.nd _ own _ _ _=>own
 |.mp own _=>own
 |.many _ n f=>(List.range n).any λk=>AN (f k)
 |_=>false
theorem AF:∀(v:V) (cv:Value) (fp:Nat->Prop),AN v=false->Rel D w R v cv fp->∀b,¬fp b:=by
 intro v
 induction v with
 |c v=>intro cv fp _ h;exact h.2.2
 |dead=>intro cv fp _ h;exact h
 |many t n f E=>
  intro cv fp u h b B;obtain⟨cs,F,A,hn,J,hd,Y⟩:=h;obtain⟨k,W,B⟩:=(Y b).1 B;refine E k _ _ ?_ (J k W) b B;unfold AN at u
  grind
 |nd s own sz n f E=>
  intro cv fp u h;cases own with
  |true=>trivial
  |false=>
   rcases h with h|⟨b,o,cap,F,A,U,O,hs,J,hi,_⟩
   .grind
   grind
 |rs id p off len=>intro cv fp _ h;exact h.2
 |rp id p i k=>intro cv fp _ h;exact h.2
 |rm id p=>intro cv fp _ h;exact h.2
 |mp own l=>
  intro cv fp u h;cases own with
  |true=>cases u
  |false=>obtain⟨b,_,_,Z,_⟩:=h;exact(Z rfl).2
def A7(h:∀b,¬fp b):fp=noF:=funext λb=>propext ⟨λu=>h b u,λu=>u.elim⟩
def Wp(v:V)(K:V->Prop):Prop:=AN v=false/\K v
theorem Jt(wr:Bu σ w D ρ F)(u:o.op=.move x\/o.op=.assign x)(B:OpR σ w D ρ F v (a.eval x))(h:Wp v K):∃r,K r/\Av P o a w σ D ρ r:=by
 obtain⟨fp,A,_⟩:=B;have:=A7 (AF _ _ _ h.1 A);subst this;refine⟨v,h.2,Av.pure wr ?_ A⟩;rcases u with u|u<;>(unfold execOp;simp_all)
def Wo(c x y:V)(K:V->Prop):Prop:=
 match c with
 |.c (.bool b)=>AN x=false/\AN y=false/\(b=true->K x)/\(b=false->K y)
 |_=>False
theorem O0(wr:Bu σ w D ρ F){U J E:V}{c y:Operand}(W:o.op=.pick c x y)(O:OpR σ w D ρ F U (a.eval c))(B:OpR σ w D ρ F J (a.eval x))(A:OpR σ w D ρ F E (a.eval y))(h:Wo U J E K):
  ∃r,K r/\Av P o a w σ D ρ r:=by
 unfold Wo at h;split at h<;>try grind
 rename_i b;obtain⟨h1,h2,Z,Y⟩:=h;obtain⟨_,O,_⟩:=O;obtain⟨fx,B,_⟩:=B;obtain⟨fy,A,_⟩:=A;have:=A7 (AF _ _ _ h1 B);subst this;have:=A7 (AF _ _ _ h2 A);subst this;have u:=O.1;cases b with
 |true=>exact⟨J,Z rfl,Av.pure wr (by unfold execOp;rw[W];simp[u,asBool]) B⟩
 |false=>exact⟨E,Y rfl,Av.pure wr (by unfold execOp;rw[W];simp[u,asBool]) A⟩
end ops
end Go.Ve


namespace Go.Ve
variable{ad:Addr}{s:Bool}{n sz:Nat}{f:Nat->Nat->V}{fp:Nat->Prop}{d:TypeDesc}{t:TypeId}{v:V}{R:V->Value->Prop}{cv:Value}
section ops
variable {P:Program}{o:Oper}{a:Act}{w:World}{σ:List V}{D:Nat->Prop}{ρ:Nat->Value}{F:Nat->Nat->Prop}{K:V->Prop}
def Vz(id:Nat)(q:List (Nat×Nat)):V->V
 |.nd true true _ n _=>.rs id q 0 n
 |.nd false true _ _ _=>.rp id q 0 0
 |.mp true _=>.rm id q
 |v=>v
def Cw(σ:List V)(id:Nat)(p:List (Nat×Nat))(i k:Nat):V:=
 match sub p (σ.getD id .dead)with
 |.nd _ _ _ _ f=>f i k
 |_=>.dead
def AW(σ:List V)(id:Nat)(p:List (Nat×Nat)):Nat:=
 match sub p (σ.getD id .dead)with
 |.nd _ _ sz _ _=>sz
 |_=>0
def B0:V->Bool
 |.many ..=>false
 |.nd false true sz _ _=>0<sz
 |_=>true
theorem PK(wr:Bu σ w D ρ F){id:Nat}{p:List (Nat×Nat)}{s:Bool}{sz n:Nat}{f:Nat->Nat->V}{b Y cap:Nat}(B:id<σ.length)
  (ha:At w p (σ.getD id .dead) (ρ id) (.nd s true sz n f) (AC s b Y n cap)) {i k:Nat} (hi:i<n) (hk:k<sz) (hc:B0 (f i k)=true):
  ∃x,w.cell? ⟨b,Y+i*sz+k,none⟩=some x/\Rel D w (Aq σ ρ w) (Vz id (p++[(i,k)]) (f i k)) x noF:=by
 obtain⟨fp1,Z,hsub,_⟩:=C9 (w':=w) p _ _ _ _ _ (wr.rel id B) (λb hb h=>wr.dD id b h hb) ha
 rcases Z with⟨h0,_⟩|⟨b2,o2,cap2,F2,hcv,hcap,hmax,hs1,J,himm,ho⟩
 .omega
 obtain⟨rfl,rfl,_⟩:=Aw hcv;obtain⟨x,hx,u⟩:=J i k hi hk;refine⟨x,hx,?_⟩;have O:At w (p++[(i,k)]) (σ.getD id .dead) (ρ id) (f i k) x:=At.app ha ⟨hi,hk,b,Y,cap,x,rfl,hx,rfl,rfl⟩;generalize hv:f i k=v at*;cases v with
 |c v=>exact⟨u.1,u.2.1,λ_ h=>h⟩
 |dead=>exact λ_ h=>h
 |many t n f=>cases hc
 |rs id p off len=>exact u.1.elim
 |rp id p i k=>exact u.1.elim
 |rm id p=>exact u.1.elim
 |mp own l=>
  cases own with
  |false=>
   have he:F2 i k=noF:=A7 (AF _ _ _ (by rfl) u)
   rw[he]at u;exact Rel.noR_mono u
  |true=>obtain⟨b',hb',_⟩:=u;exact⟨⟨B,l,b',O,hb'⟩,λ_ h=>h⟩
 |nd s' own U n' f'=>
  cases own with
  |false=>
   have he:F2 i k=noF:=A7 (AF _ _ _ (by rfl) u)
   rw[he]at u;cases s'<;>exact Rel.noR_mono u
  |true=>
   cases s' with
   |true=>
    refine⟨⟨B,U,n',f',x,O,by omega,?_⟩,λ_ h=>h⟩
    rcases u with⟨rfl,_,E,_⟩|⟨b3,W,A,F3,rfl,_⟩
    .have E:=DK E
     subst E;exact .inr ⟨rfl,none,rfl,λ_ _=>rfl,λp e=>by cases e⟩
    .exact .inl ⟨b3,W,A,rfl,by simp[AC]⟩
   |false=>
    rcases u with⟨_,h,_⟩|⟨b3,W,A,F3,rfl,_,_,h1,_⟩
    .cases h
    .refine⟨⟨B,false,U,n',f',b3,W,A,O,by rw[h1 rfl];exact Nat.one_pos,by simpa [B0]using hc,by simp[AC]⟩,λ_ h=>h⟩
def Me{ad:Addr}{i:TypeInfo}{s:Nat}(hd:P.underlying t=some d)(E:P.info? t=some i)(u:i.size=s)(A:IH d=true)
  (cs:List Value) (B:cs.length=s) (J:∀j v,cs[j]? =some v->w.cell? (ad.add j)=some v):(loadVar t ad).run P w=.ok (.agg cs.toArray) w:=by
 subst B
 have O:(isAgg t).run P w=.ok true w:=by
  unfold isAgg;cases d<;>simp[IH]at A<;>simp[run_underlying hd]
 simp[loadVar,O,Result.andThen,sizeOf,typeInfo,u];simp[E,<-u];rw[u,run_loadCells_list w ad cs J]
def Md{ad:Addr}(hd:P.underlying t=some d)(u:IH d=false)
  {v:Value} (A:w.cell? ad=some v):(loadVar t ad).run P w=.ok v w:=by
 have B:(isAgg t).run P w=.ok false w:=by
  unfold isAgg;cases d<;>simp[IH]at u<;>simp[run_underlying hd]
 simp[loadVar,B,A]
theorem AZ(u:ad.spot=none)(j:Nat):ad.add j=⟨ad.block,ad.off+j,none⟩:=by
 unfold Addr.add;split
 .rename_i h;cases ad;grind
 rfl
theorem BS{p:Nat->Value->Prop}(h:∀k,k<n->∃x,p k x):∃cs:List Value,cs.length=n/\∀k x,cs[k]? =some x->p k x:=by
 induction n with
 |zero=>simp
 |succ n E=>
  obtain⟨cs,A,J⟩:=E λk B=>h k (by omega)
  obtain⟨x,O⟩:=h n (by omega)
  refine⟨cs++[x],by simp[A],λk y u=>?_⟩
  by_cases B:k<cs.length
  .rw[gAL B]at u;exact J k y u
  .have:k=n:=by
    grind
   subst this;simp[A]at u
   grind
def Ib(u:Option TyI)(σ:List V)(x:V)(K:V->Prop):Prop:=
 match u with
 |some ⟨false,_,_⟩=>match x with
  |.nd false false sz _ f=>0<sz/\K (f 0 0)
  |.rp id p i k=>B0 (Cw σ id p i k)=true/\K (Vz id (p++[(i,k)]) (Cw σ id p i k))
  |.many .bx n f=>(0<n/\AN (f 0)=false)/\K (f 0)
  |_=>False
 |some ⟨true,s,_⟩=>match x with
  |.nd false false sz _ f=>s<=sz/\K (Am (tab s λk=>f 0 k))
  |.rp id p i k=>k+s<=AW σ id p/\(List.range s).all (λj=>B0 (Cw σ id p i (k+j)))=true/\K (Am (tab s λj=>Vz id (p++[(i,k+j)]) (Cw σ id p i (k+j))))
  |.many .bx n f=>(s<=n/\(List.range s).all (λk=>!AN (f k))=true)/\K (Am (tab s f))
  |_=>False
 |none=>False
theorem JH(h:Rel D w R (.nd s false sz n f) cv fp)(Y:0<n):
  ∃b o cap,cv=AC s b o n cap/\n<=cap/\∀i k,i<n->k<sz->D b/\∃x,w.cell? ⟨b,o+i*sz+k,none⟩=some x/\Rel D w noR (f i k) x noF:=by
 rcases h with⟨h0,_⟩|⟨b,o,cap,F,E,u,J,hs,W,A,_⟩
 .omega
 obtain⟨h1,Z,h3⟩:=A rfl;refine⟨b,o,cap,E,u,λi k A O=>⟨h1 (Nat.mul_pos Y (by omega)),?_⟩⟩
 obtain⟨x,U,B⟩:=W i k A O;exact⟨x,U,A7 (Z i k · A O)▸B⟩
theorem Mo(h:Rel D w R (.nd false false sz n f) cv fp):
  n=1/\∃b o,cv=.pointer (some ⟨b,o,none⟩)/\∀k,k<sz->D b/\∃x,w.cell? ⟨b,o+k,none⟩=some x/\Rel D w noR (f 0 k) x noF:=by
 have J:n=1:=by
  rcases h with⟨_,h,_⟩|⟨b,o,cap,F,u,B,A,O,E,W,_⟩
  .cases h
  grind
 subst J;obtain⟨b,o,cap,u,_,E⟩:=JH h Nat.one_pos;exact⟨rfl,b,o,by trivial,λk U=>by grind⟩
theorem HY{f:Nat->V}(h:Rel D w R (.many .bx n f) cv fp):
  ∃b o,cv=.pointer (some ⟨b,o,none⟩)/\(0<n->D b)/\∀k,k<n->∃x u,w.cell? ⟨b,o+k,none⟩=some x/\Rel D w R (f k) x u:=by
 obtain⟨cs,F,⟨b,o,E,B,A⟩,hn,hr,_,_⟩:=h
 grind
theorem Nw(wr:Bu σ w D ρ F)(hr:Rel D w (Aq σ ρ w) v cv fp)(h:Ib (tyI P t) σ v K):∃r,K r/\∃ad cr,cv=.pointer (some ad)/\(loadVar t ad).run P w=.ok cr w/\Rel D w (Aq σ ρ w) r cr noF:=by
 unfold Ib at h;split at h
 .rename_i sz0 z0 hti
  obtain⟨d,i,z,hd,hi,hz,Z,_,_,_,E⟩:=CX hti;split at h
  .obtain⟨A,O⟩:=h
   obtain⟨_,b,o',W,Y⟩:=Mo hr;obtain⟨_,y,hy,J⟩:=Y 0 A;exact⟨_,O,_,_,W,Md hd E.symm (by simpa using hy),Rel.noR_mono J⟩
  .rename_i id p i' k'
   obtain⟨Y,O⟩:=h;obtain⟨⟨hid,s,sz,n,f,b,o',cap,ha,hi',hk',W⟩,_⟩:=hr;have B:Cw σ id p i' k'=f i' k':=by unfold Cw;rw[<-At.sub ha]
   rw[B]at O Y;obtain⟨y,hy,J⟩:=PK wr hid ha hi' hk' Y;exact⟨_,O,_,_,W,Md hd E.symm hy,J⟩
  .obtain⟨⟨A,hto⟩,O⟩:=h
   obtain⟨b,o',W,_,Y⟩:=HY hr;obtain⟨y,fq,hy,J⟩:=Y 0 A;exact⟨_,O,_,_,W,Md hd E.symm (by simpa using hy),A7 (AF _ _ _ hto J)▸J⟩
  .exact h.elim
 .rename_i s z0 hti
  obtain⟨d,i,z,hd,hi,hz,Z,_,_,_,E⟩:=CX hti;split at h
  .obtain⟨A,O⟩:=h
   obtain⟨_,b,o',W,Y⟩:=Mo hr;obtain⟨cs,U,u⟩:=BS (n:=s) (p:=λk x=>w.cell? ⟨b,o'+k,none⟩=some x/\Rel D w noR (_) x noF) λk hk=>(Y k (by omega)).2
   refine⟨_,O,_,_,W,Me hd hi Z E.symm cs U λj v hj=>(by rw[AZ rfl];exact(u j v hj).1),Rel.eqv _ _ _ _ (OG _ _) ?_⟩
   refine⟨cs.toArray,λ_=>noF,rfl,by simpa using U,λk hk=>?_,λ_ _ _ _ _ _ h=>h.elim,λb=>⟨λh=>h.elim,fun⟨_,_,h⟩=>h⟩⟩
   have:cs[k]? =some (cs.toArray.getD k undef):=by simp[U,hk]
   exact Rel.noR_mono (u k _ this).2
  .rename_i id p i' k'
   obtain⟨A,hco,O⟩:=h;obtain⟨⟨hid,s',sz,n,f,b,o',cap,ha,hi',hk',W⟩,_⟩:=hr;have B:∀k,Cw σ id p i' k=f i' k:=by intro k;unfold Cw;rw[<-At.sub ha]
   have hns:AW σ id p=sz:=by unfold AW;rw[<-At.sub ha]
   rw[hns]at A;simp only[B]at O hco;obtain⟨cs,U,u⟩:=BS (n:=s) λj hj=>PK wr hid ha hi' (show k'+j<sz by omega) (by simpa using aET.1 hco j (List.mem_range.2 hj))
   refine⟨_,O,_,_,W,Me hd hi Z E.symm cs U λj v hj=>(by rw[AZ rfl];simpa [Nat.add_assoc]using(u j v hj).1),Rel.eqv _ _ _ _ (OG _ _) ?_⟩
   refine⟨cs.toArray,λ_=>noF,rfl,by simpa using U,λk hk=>?_,λ_ _ _ _ _ _ h=>h.elim,λb=>⟨λh=>h.elim,fun⟨_,_,h⟩=>h⟩⟩
   have:cs[k]? =some (cs.toArray.getD k undef):=by simp[U,hk]
   exact(u k _ this).2
  .rename_i n f
   obtain⟨⟨A,hto⟩,O⟩:=h;obtain⟨b,o',W,_,Y⟩:=HY hr
   obtain⟨cs,U,u⟩:=BS (n:=s) (p:=λk x=>w.cell? ⟨b,o'+k,none⟩=some x/\Rel D w (Aq σ ρ w) (f k) x noF) λk hk=>by
    obtain⟨x,fq,h1,h2⟩:=Y k (by omega)
    exact⟨x,h1,A7 (AF _ _ _ (by simpa using aET.1 hto k (List.mem_range.2 hk)) h2)▸h2⟩
   refine⟨_,O,_,_,W,Me hd hi Z E.symm cs U λj v hj=>(by rw[AZ rfl];exact(u j v hj).1),Rel.eqv _ _ _ _ (OG _ _) ?_⟩
   refine⟨cs.toArray,λ_=>noF,rfl,by simpa using U,λk hk=>?_,λ_ _ _ _ _ _ h=>h.elim,λb=>⟨λh=>h.elim,fun⟨_,_,h⟩=>h⟩⟩
   have:cs[k]? =some (cs.toArray.getD k undef):=by simp[U,hk]
   exact(u k _ this).2
  .exact h.elim
 .exact h.elim
theorem O2(wr:Bu σ w D ρ F){x:Operand}(E:o.op=.load t x)(A:OpR σ w D ρ F v (a.eval x))(h:Ib (tyI P t) σ v K):∃r,K r/\Av P o a w σ D ρ r:=by
 obtain⟨fp,B,U,O⟩:=A;obtain⟨r,Y,ad,cr,W,J,u⟩:=Nw wr B h;exact⟨r,Y,Av.pure wr (by unfold execOp;rw[E];simp[Instr.loadAt,W,Instr.sureAddr,J]) u⟩
end ops
end Go.Ve

