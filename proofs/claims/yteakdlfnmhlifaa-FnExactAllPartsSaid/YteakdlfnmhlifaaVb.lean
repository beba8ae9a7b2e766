/- Paths into owned trees. -/
import Derived.Test.YteakdlfnmhlifaaVa
import Derived.Laws.Cells
import Derived.Laws.MakeOwn
import Derived.Laws.Tables
import Derived.IntWalk
import Derived.Laws.Slices
set_option linter.all false
namespace Go.Ve
variable{s:Bool}{b cap n o:Nat}{D:Nat->Prop}{w:World}
def sub:List (Nat×Nat)->V->V
 |[],v=>v
 |(i,k)::p,.nd _ _ _ _ f=>sub p (f i k)
 |_::_,_=>.dead
def upd:List (Nat×Nat)->V->V->V
 |[],_,x=>x
 |(i,k)::p,.nd s o sz n f,x=>.nd s o sz n λi' k'=>if i'=i/\k'=k then upd p (f i k) x else f i' k'
 |_::_,v,_=>v
def At(w:World):List (Nat×Nat)->V->Value->V->Value->Prop
 |[],v,cv,v',cv'=>v'=v/\cv'=cv
 |(i,k)::p,.nd s true sz n f,cv,v',cv'=>i<n/\k<sz/\∃b o cap x,cv=Ay s b o n cap/\w.cell? ⟨b,o+i*sz+k,none⟩=some x/\At w p (f i k) x v' cv'
 |_::_,_,_,_,_=>False
def K2:List (Nat×Nat)->V->Prop
 |[],_=>True
 |(i,k)::p,.nd _ own sz n f=>own=true/\i<n/\k<sz/\K2 p (f i k)
 |_::_,_=>False
theorem As{A u e:Nat}(h:Ay s b o n cap=Ay s A u n e):b=A/\o=u/\(s=true->cap=e):=by
 cases s
 .simp[Ay]at h;grind
 .simp[Ay]at h;omega
def At.sub{w:World}:∀{p:List (Nat×Nat)}{v:V}{cv:Value}{v':V}{e:Value},At w p v cv v' e->v'=sub p v
 |[],_,_,_,_,h=>h.1
 |(i,k)::p,.nd s true sz n f,_,v',_,h=>by obtain⟨_,_,_,_,_,x,_,_,h⟩:=h;exact(show v'=Go.Ve.sub p (f i k)from At.sub h)
 |_::_,.nd _ false _ _ _,_,_,_,h=>h.elim
 |_::_,.c _,_,_,_,h=>h.elim
 |_::_,.dead,_,_,_,h=>h.elim
 |_::_,.many ..,_,_,_,h=>h.elim
 |_::_,.rs ..,_,_,_,h=>h.elim
 |_::_,.rp ..,_,_,_,h=>h.elim
 |_::_,.rm ..,_,_,_,h=>h.elim
 |_::_,.mp ..,_,_,_,h=>h.elim
def At.ok{w:World}:∀{p:List (Nat×Nat)}{v:V}{cv:Value}{v':V}{e:Value},At w p v cv v' e->K2 p v
 |[],_,_,_,_,h=>trivial
 |(i,k)::p,.nd s true sz n f,_,_,_,h=>by obtain⟨A,u,_,_,_,x,_,_,h⟩:=h;exact⟨rfl,A,u,At.ok h⟩
 |_::_,.nd _ false _ _ _,_,_,_,h=>h.elim
 |_::_,.c _,_,_,_,h=>h.elim
 |_::_,.dead,_,_,_,h=>h.elim
 |_::_,.many ..,_,_,_,h=>h.elim
 |_::_,.rs ..,_,_,_,h=>h.elim
 |_::_,.rp ..,_,_,_,h=>h.elim
 |_::_,.rm ..,_,_,_,h=>h.elim
 |_::_,.mp ..,_,_,_,h=>h.elim
theorem At.app{w:World}:∀{p q:List (Nat×Nat)}{v:V}{cv:Value}{v':V}{A:Value}{u:V}{e:Value},At w p v cv v' A->At w q v' A u e->At w (p++q) v cv u e
 |[],_,_,_,_,_,_,_,h,h'=>by obtain⟨rfl,rfl⟩:=h;grind
 |(i,k)::p,_,.nd s true sz n f,_,_,_,_,_,h,h'=>by
  obtain⟨O,J,b,o,cap,x,H,E,B⟩:=h;exact⟨O,J,b,o,cap,x,H,E,At.app B h'⟩
 |_::_,_,.nd _ false _ _ _,_,_,_,_,_,h,_=>h.elim
 |_::_,_,.c _,_,_,_,_,_,h,_=>h.elim
 |_::_,_,.dead,_,_,_,_,_,h,_=>h.elim
 |_::_,_,.many ..,_,_,_,_,_,h,_=>h.elim
 |_::_,_,.rs ..,_,_,_,_,_,h,_=>h.elim
 |_::_,_,.rp ..,_,_,_,_,_,h,_=>h.elim
 |_::_,_,.rm ..,_,_,_,_,_,h,_=>h.elim
 |_::_,_,.mp ..,_,_,_,_,_,h,_=>h.elim
theorem Rel.root{R:V->Value->Prop}{sz:Nat}{f:Nat->Nat->V}{fp:Nat->Prop}(h:Rel D w R (.nd s true sz n f) (Ay s b o n cap) fp):fp b:=by
 rcases h with⟨_,rfl,A,_⟩|⟨H,B,u,F,e,_,_,_,_,_,E⟩
 .exact absurd A BP
 .obtain⟨rfl,-,-⟩:=As e
  grind
theorem Dg{D:Nat->Prop}{w w':World}:∀(p:List (Nat×Nat)) (v:V) (cv:Value) (fp:Nat->Prop) (v1:V) (cv1:Value),
  Rel D w noR v cv fp->(∀b,D b->¬fp b)->At w p v cv v1 cv1->
  ∃E,Rel D w noR v1 cv1 E/\(∀b,E b->fp b)/\∀v2 O,Rel D w' noR v2 cv1 O->(∀b,O b->E b\/¬fp b)->
   (∀b,(D b\/fp b)->¬E b->w'.heap[b]? =w.heap[b]?)->Rel D w' noR (upd p v v2) cv (λb=>(fp b/\¬E b)\/O b):=by
 intro p
 induction p with
 |nil=>
  intro v cv fp v1 cv1 hr hD ha;obtain⟨rfl,rfl⟩:=ha;refine⟨fp,hr,λ_ h=>h,λv2 O h2 hs hw=>Rel.fp_congr (λb=>?_) h2⟩
  exact⟨λh=>.inr h,λh=>h.elim (λh=>absurd h.1 h.2) id⟩
 |cons ik p ih=>
  obtain⟨i,k⟩:=ik;intro v cv fp v1 cv1 hr hD ha
  match v,ha,hr with
  |.nd s true sz n f,ha,hr=>
   obtain⟨hi,W,b,o,cap,x,hcv,hx,ha⟩:=ha;rcases hr with⟨h0,_⟩|⟨b',o',cap',F,hcv',hcap,hmax,hs1,B,himm,ho⟩
   .omega
   subst hcv;obtain⟨rfl,rfl,hcc⟩:=As hcv';obtain⟨⟨cs,T,hb1,hb2⟩,hbF,hFd,hfp⟩:=ho rfl;obtain⟨x',hx',hrx⟩:=B i k hi W;have:x'=x:=Option.some.inj (hx'.symm.trans hx);subst this;have A:∀c,F i k c->fp c:=λc B=>(hfp c).2 (.inr ⟨i,k,hi,W,B⟩)
   obtain⟨E,hr1,hs,hput⟩:=ih _ _ _ _ _ hrx (λc B h=>hD c B (A c h)) ha
   refine⟨E,hr1,λc B=>A c (hs c B),λv2 O h2 hs2 hw=>?_⟩
   have Y:fp b:=(hfp b).2 (.inl rfl);have Z:¬E b:=λh=>hbF i k hi W (hs b h)
   have hwb:w'.heap[b]? =w.heap[b]?:=hw b (.inr Y) Z;have hnew:=hput v2 O h2 (λc B=>(hs2 c B).imp id λh h'=>h (A c h')) (λc B hn=>hw c (B.imp id (A c)) hn)
   refine .inr ⟨b,o,cap',λi' k' c=>if i'=i/\k'=k then(F i k c/\¬E c)\/O c else F i' k' c,hcv',hcap,hmax,hs1,?_,(λh=>by cases h),λ_=>⟨⟨cs,T,hb1.same hwb,hb2⟩,?_,?_,?_⟩⟩
   .intro i' k' u e
    by_cases U:i'=i/\k'=k
    .obtain⟨rfl,rfl⟩:=U
     exact⟨x',by rw[Dn (w:=w) hwb];exact hx,by simpa using hnew⟩
    .obtain⟨y,hy,hry⟩:=B i' k' u e
     refine⟨y,by rw[Dn (w:=w) hwb];exact hy,?_⟩
     simp only[U,if_false];refine Rel.mono (λ_ h=>h) (λ_ _ h=>h) _ _ _ (λc B=>hw c (B.imp id λh=>(hfp c).2 (.inr ⟨i',k',u,e,h⟩)) ?_) hry
     intro h1;rcases B with hcD|hcF
     .exact hD c hcD (A c (hs c h1))
     .exact hFd i' k' i k c u e hi W (by omega) hcF (hs c h1)
   .intro i' k' u e
    by_cases U:i'=i/\k'=k
    .simp only[U,and_self,if_true]
     rintro (⟨h,_⟩|h)
     .exact hbF i k hi W h
     .rcases hs2 b h with h|h
      .exact Z h
      .exact h Y
    .simp only[U,if_false];exact hbF i' k' u e
   .intro i1 k1 i2 k2 c h1 h2' h3 h4 hne J H
    by_cases he1:i1=i/\k1=k<;>by_cases he2:i2=i/\k2=k
    .omega
    .simp only[he1,and_self,if_true]at J
     simp only[he2,if_false]at H;rcases J with⟨h,_⟩|h
     .exact hFd i k i2 k2 c hi W h3 h4 (by omega) h H
     .rcases hs2 c h with h|h
      .exact hFd i k i2 k2 c hi W h3 h4 (by omega) (hs c h) H
      .exact h ((hfp c).2 (.inr ⟨i2,k2,h3,h4,H⟩))
    .simp only[he2,and_self,if_true]at H
     simp only[he1,if_false]at J;rcases H with⟨h,_⟩|h
     .exact hFd i k i1 k1 c hi W h1 h2' (by omega) h J
     .rcases hs2 c h with h|h
      .exact hFd i k i1 k1 c hi W h1 h2' (by omega) (hs c h) J
      .exact h ((hfp c).2 (.inr ⟨i1,k1,h1,h2',J⟩))
    .simp only[he1,if_false]at J
     simp only[he2,if_false]at H;exact hFd i1 k1 i2 k2 c h1 h2' h3 h4 hne J H
   .intro c
    constructor
    .rintro (⟨B,hn⟩|B)
     .rcases(hfp c).1 B with rfl|⟨i',k',u,e,hF⟩
      .exact .inl rfl
      .refine .inr ⟨i',k',u,e,?_⟩
       by_cases U:i'=i/\k'=k
       .simp only[U,and_self,if_true];rw[U.1,U.2]at hF;exact .inl ⟨hF,hn⟩
       .simp only[U,if_false];exact hF
     .exact .inr ⟨i,k,hi,W,by simp only[and_self,if_true];exact .inr B⟩
    .rintro (rfl|⟨i',k',u,e,hF⟩)
     .exact .inl ⟨Y,Z⟩
     .by_cases U:i'=i/\k'=k
      .simp only[U,and_self,if_true]at hF
       rcases hF with⟨h,hn⟩|h
       .exact .inl ⟨A c h,hn⟩
       .exact .inr h
      .simp only[U,if_false]at hF
       exact .inl ⟨(hfp c).2 (.inr ⟨i',k',u,e,hF⟩),λh1=>hFd i' k' i k c u e hi W (by omega) hF (hs c h1)⟩
theorem At.same{D:Nat->Prop}{w w':World}:∀{p:List (Nat×Nat)}{v:V}{cv:Value}{fp:Nat->Prop}{B:V}{e:Value},
  Rel D w noR v cv fp->At w p v cv B e->(∀b,fp b->w'.heap[b]? =w.heap[b]?)->At w' p v cv B e
 |[],_,_,_,_,_,_,A,_=>A
 |(i,k)::p,.nd s true sz n f,cv,fp,B,e,hr,A,hw=>by
  obtain⟨hi,J,b,o,cap,x,O,W,A⟩:=A;subst O;have hb:=Rel.root hr;rcases hr with⟨h0,_⟩|⟨b',o',cap',F,u,hcap,Y,hs1,U,Z,ho⟩
  .omega
  obtain⟨rfl,rfl,hcc⟩:=As u;obtain⟨x',E,H⟩:=U i k hi J;have:=Option.some.inj (E.symm.trans W);subst this;exact⟨hi,J,b,o,cap,x',rfl,by rw[Dn (hw b hb)];exact W,At.same H A λc U=>hw c (((ho rfl).2.2.2 c).2 (.inr ⟨i,k,hi,J,U⟩))⟩
 |_::_,.nd _ false _ _ _,_,_,_,_,_,h,_=>h.elim
 |_::_,.c _,_,_,_,_,_,h,_=>h.elim
 |_::_,.dead,_,_,_,_,_,h,_=>h.elim
 |_::_,.many ..,_,_,_,_,_,h,_=>h.elim
 |_::_,.rs ..,_,_,_,_,_,h,_=>h.elim
 |_::_,.rp ..,_,_,_,_,_,h,_=>h.elim
 |_::_,.rm ..,_,_,_,_,_,h,_=>h.elim
 |_::_,.mp ..,_,_,_,_,_,h,_=>h.elim
end Go.Ve


namespace Go.Ve
variable{σ:List V}{F:Nat->Nat->Prop}{D fp:Nat->Prop}{ρ:Nat->Value}{x:Operand}{P:Program}{t:TypeId}{v:V}{R:V->Value->Prop}{w:World}
def Ai(σ:List V)(ρ:Nat->Value)(w:World):V->Value->Prop
 |.rs id p off len,cv=>id<σ.length/\∃sz n f e,At w p (σ.getD id .dead) (ρ id) (.nd true true sz n f) e/\off+len<=n/\
   ((∃b o cap,e=Ay true b o n cap/\cv=.slice (some ⟨b,o+off*sz,none⟩) len (cap-off))\/(len=0/\∃a:Option (Nat×Nat),cv=.slice (a.map λp=>⟨p.1,p.2,none⟩) 0 0/\(off=0->n=0->cv=e)/\∀p,a=some p->∃o cap,e=Ay true p.1 o n cap/\o<=p.2/\p.2<=o+cap*sz))
 |.rp id p i k,cv=>id<σ.length/\∃s sz n f b o cap,At w p (σ.getD id .dead) (ρ id) (.nd s true sz n f) (Ay s b o n cap)/\i<n/\k<sz/\
   cv=.pointer (some ⟨b,o+i*sz+k,none⟩)
 |.rm id p,cv=>id<σ.length/\∃l b,At w p (σ.getD id .dead) (ρ id) (.mp true l) cv/\cv=.map (some b)
 |_,_=>False
structure Bg(σ:List V)(w:World)(D:Nat->Prop)(ρ:Nat->Value)(F:Nat->Nat->Prop):Prop where
 rel:∀i,i<σ.length->Rel D w noR (σ.getD i .dead) (ρ i) (F i)
 disj:∀i j b,i≠j->F i b->¬F j b
 dD:∀i b,F i b->¬D b
 Dlt:∀b,D b->b<w.heap.size
 out:∀i b,σ.length<=i->¬F i b
def Bg.lt{σ:List V}{w:World}{D:Nat->Prop}{ρ:Nat->Value}{F:Nat->Nat->Prop}(h:Bg σ w D ρ F)(i b:Nat)(e:F i b):b<w.heap.size:=by
 by_cases hi:i<σ.length
 .exact Rel.lt _ _ _ (h.rel i hi) b e
 .exact absurd e (h.out i b (by omega))
def Ai.same{σ:List V}{w w':World}{D:Nat->Prop}{ρ:Nat->Value}{F:Nat->Nat->Prop}(h:Bg σ w D ρ F)(B:∀i b,F i b->w'.heap[b]? =w.heap[b]?):
  ∀v cv,Ai σ ρ w v cv->Ai σ ρ w' v cv
 |.rs id p off len,cv,⟨u,sz,n,f,E,A,r⟩=>⟨u,sz,n,f,E,At.same (h.rel id u) A (B id),r⟩
 |.rp id p i k,cv,⟨u,s,sz,n,f,b,o,cap,A,r⟩=>⟨u,s,sz,n,f,b,o,cap,At.same (h.rel id u) A (B id),r⟩
 |.rm id p,cv,⟨u,l,b,A,e⟩=>⟨u,l,b,At.same (h.rel id u) A (B id),e⟩
 |.mp ..,_,h=>h.elim
 |.c _,_,h=>h.elim
 |.dead,_,h=>h.elim
 |.many ..,_,h=>h.elim
 |.nd ..,_,h=>h.elim
theorem Bg.below{w':World}(h:Bg σ w D ρ F)(u:Below w.heap.size w w'):Bg σ w' D ρ F:=
 ⟨λi hi=>Rel.mono (λ_ h=>h) (λ_ _ h=>h) _ _ _ (λb e=>u.block b (e.elim (h.Dlt b) (h.lt i b))) (h.rel i hi),h.disj,h.dD,λb e=>Nat.lt_of_lt_of_le (h.Dlt b e) u.size,h.out⟩
def Rel.noR_mono{cv:Value}(h:Rel D w noR v cv fp):Rel D w R v cv fp:=
 Rel.mono (λ_ h=>h) (λ_ _ h=>h.elim) _ _ _ (λ_ _=>rfl) h
def OpR(σ:List V)(w:World)(D:Nat->Prop)(ρ:Nat->Value)(F:Nat->Nat->Prop)(v:V)(cv:Value):Prop:=
 ∃fp,Rel D w (Ai σ ρ w) v cv fp/\(∀b,fp b->¬D b)/\∀i b,F i b->¬fp b
def Ar(P:Program)(o:Oper)(a:Act)(w:World)(σ:List V)(D:Nat->Prop)(ρ:Nat->Value)(r:V):Prop:=
 ∀(next:Act->World->Prop) (Q:Exit->Act->World->Prop),
  (∀v' w' D' fp,Below w.heap.size w w'->Rel D' w' (Ai σ ρ w') r v' fp->(∀b,fp b->w.heap.size<=b)->(∀b,D b->D' b)->(∀b,D' b->D b\/w.heap.size<=b)->
   (∀b,D' b->b<w'.heap.size/\¬fp b)->next (a.put o.dst v') w')->o.wp P a w next Q
theorem Ar.pure{P:Program}{o:Oper}{a:Act}{r:V}{v':Value}(wr:Bg σ w D ρ F)
  (h:(execOp a.eval o).run P w=.ok (.value v') w) (e:Rel D w (Ai σ ρ w) r v' noF):Ar P o a w σ D ρ r:=by
 intro next Q u
 unfold Oper.wp;rw[h];exact u v' w D noF (Below.refl _ _) e (λ_ h=>h.elim) (λ_ h=>h) (λ_ h=>.inl h) (λb h=>⟨wr.Dlt b h,λh=>h⟩)
theorem Ar.new{P:Program}{o:Oper}{a:Act}{r:V}{v':Value}{ob:Obj}(wr:Bg σ w D ρ F)
  (h:(execOp a.eval o).run P w=.ok (.value v') (w.alloc ob)) (e:∃fp,Rel D (w.alloc ob) (Ai σ ρ (w.alloc ob)) r v' fp/\∀b,fp b->b=w.heap.size):Ar P o a w σ D ρ r:=by
 intro next Q u
 unfold Oper.wp;rw[h];obtain⟨fp,e,B⟩:=e;refine u v' (w.alloc ob) D fp ((Below.refl _ _).alloc (Nat.le_refl _) _) e (λb A=>by grind) (λ_ h=>h) (λ_ h=>.inl h) (λb h=>⟨?_,λA=>?_⟩)
 .have:=wr.Dlt b h;simp;omega
 .have:=wr.Dlt b h;grind
def Jd:TypeDesc->Bool
 |.struct _|.array _ _=>true
 |_=>false
structure SlI where
 e:TypeId
 size:Nat
 bytes:Nat
 zero:List Value
def slI(P:Program)(t:TypeId):Option SlI:=
 match P.underlying t with
 |some (.slice e)=>match P.info? e with
  |some i=>match i.zero with
   |some z=>if z.cells.size=i.size/\z.cells.toList.all (·.oneCell')=true then some ⟨e,i.size,i.bytes,z.cells.toList⟩else none
   |none=>none
  |none=>none
 |_=>none
structure TyI where
 agg:Bool
 size:Nat
 zero:List Value
def tyI(P:Program)(t:TypeId):Option TyI:=
 match P.underlying t,P.info? t with
 |some d,some i=>match i.zero with
  |some z=>if z.cells.size=i.size/\z.cells.toList.all (·.oneCell')=true then some ⟨Jd d,i.size,z.cells.toList⟩else none
  |none=>none
 |_,_=>none
def Wm(P:Program)(t:TypeId)(k:Nat):Option (Nat×Nat):=
 match P.underlying t with
 |some (.struct fs)=>match fs[k]? with
  |some f=>match P.info? f.type with
   |some i=>if 0<i.size then some (f.offset,i.size)else none
   |none=>none
  |none=>none
 |_=>none
theorem Hj{s:SlI}(h:slI P t=some s):P.underlying t=some (.slice s.e)/\∃i z,P.info? s.e=some i/\i.zero=some z/\i.size=s.size/\i.bytes=s.bytes/\z.cells.toList=s.zero/\z.cells.size=s.size/\∀v∈s.zero,v.oneCell'=true:=by
 unfold slI at h
 grind
theorem CZ{s:TyI}(h:tyI P t=some s):∃d i z,P.underlying t=some d/\P.info? t=some i/\i.zero=some z/\i.size=s.size/\z.cells.toList=s.zero/\z.cells.size=s.size/\(∀v∈s.zero,v.oneCell'=true)/\s.agg=Jd d:=by
 unfold tyI at h
 grind
theorem YS{k off sz:Nat}(h:Wm P t k=some (off,sz)):∃fs f i,P.underlying t=some (.struct fs)/\fs[k]? =some f/\f.offset=off/\P.info? f.type=some i/\i.size=sz/\0<sz:=by
 unfold Wm at h
 grind
section ops
variable {P:Program}{o:Oper}{a:Act}{w:World}{σ:List V}{D:Nat->Prop}{ρ:Nat->Value}{F:Nat->Nat->Prop}{K:V->Prop}
def AK:V->Bool
 |.nd _ own _ _ _=>own
 |.mp own _=>own
 |.many _ n f=>(List.range n).any λk=>AK (f k)
 |_=>false
theorem AC:∀(v:V) (cv:Value) (fp:Nat->Prop),AK v=false->Rel D w R v cv fp->∀b,¬fp b:=by
 intro v
 induction v with
 |c v=>intro cv fp _ h;exact h.2.2
 |dead=>intro cv fp _ h;exact h
 |many t n f B=>
  intro cv fp e h b A;obtain⟨cs,F,u,Z,E,hd,U⟩:=h;obtain⟨k,O,A⟩:=(U b).1 A;refine B k _ _ ?_ (E k O) b A;unfold AK at e
  grind
 |nd s own sz n f B=>
  intro cv fp e h;cases own with
  |true=>trivial
  |false=>
   rcases h with h|⟨b,o,cap,F,u,J,H,Y,E,hi,_⟩
   .grind
   grind
 |rs id p off len=>intro cv fp _ h;exact h.2
 |rp id p i k=>intro cv fp _ h;exact h.2
 |rm id p=>intro cv fp _ h;exact h.2
 |mp own l=>
  intro cv fp e h;cases own with
  |true=>cases e
  |false=>obtain⟨b,_,_,W,_⟩:=h;exact(W rfl).2
def A4(h:∀b,¬fp b):fp=noF:=funext λb=>propext ⟨λe=>h b e,λe=>e.elim⟩
def XX(v:V)(K:V->Prop):Prop:=AK v=false/\K v
theorem J5(wr:Bg σ w D ρ F)(e:o.op=.move x\/o.op=.assign x)(A:OpR σ w D ρ F v (a.eval x))(h:XX v K):∃r,K r/\Ar P o a w σ D ρ r:=by
 obtain⟨fp,u,_⟩:=A;have:=A4 (AC _ _ _ h.1 u);subst this;refine⟨v,h.2,Ar.pure wr ?_ u⟩;rcases e with e|e<;>(unfold execOp;simp_all)
def XW(c x y:V)(K:V->Prop):Prop:=
 match c with
 |.c (.bool b)=>AK x=false/\AK y=false/\(b=true->K x)/\(b=false->K y)
 |_=>False
theorem Qb(wr:Bg σ w D ρ F){J E B:V}{c y:Operand}(O:o.op=.pick c x y)(H:OpR σ w D ρ F J (a.eval c))(A:OpR σ w D ρ F E (a.eval x))(u:OpR σ w D ρ F B (a.eval y))(h:XW J E B K):
  ∃r,K r/\Ar P o a w σ D ρ r:=by
 unfold XW at h;split at h<;>try grind
 rename_i b;obtain⟨Z,Y,W,U⟩:=h;obtain⟨_,H,_⟩:=H;obtain⟨fx,A,_⟩:=A;obtain⟨fy,u,_⟩:=u;have:=A4 (AC _ _ _ Z A);subst this;have:=A4 (AC _ _ _ Y u);subst this;have e:=H.1;cases b with
 |true=>exact⟨E,W rfl,Ar.pure wr (by unfold execOp;rw[O];simp[e,asBool]) A⟩
 |false=>exact⟨B,U rfl,Ar.pure wr (by unfold execOp;rw[O];simp[e,asBool]) u⟩
end ops
end Go.Ve


namespace Go.Ve
variable{ad:Addr}{s:Bool}{n sz:Nat}{f:Nat->Nat->V}{fp:Nat->Prop}{d:TypeDesc}{t:TypeId}{v:V}{R:V->Value->Prop}{cv:Value}
section ops
variable {P:Program}{o:Oper}{a:Act}{w:World}{σ:List V}{D:Nat->Prop}{ρ:Nat->Value}{F:Nat->Nat->Prop}{K:V->Prop}
def W2(id:Nat)(q:List (Nat×Nat)):V->V
 |.nd true true _ n _=>.rs id q 0 n
 |.nd false true _ _ _=>.rp id q 0 0
 |.mp true _=>.rm id q
 |v=>v
def Cs(σ:List V)(id:Nat)(p:List (Nat×Nat))(i k:Nat):V:=
 match sub p (σ.getD id .dead)with
 |.nd _ _ _ _ f=>f i k
 |_=>.dead
def AY(σ:List V)(id:Nat)(p:List (Nat×Nat)):Nat:=
 match sub p (σ.getD id .dead)with
 |.nd _ _ sz _ _=>sz
 |_=>0
def BZ:V->Bool
 |.many ..=>false
 |.nd false true sz _ _=>0<sz
 |_=>true
theorem Q6(wr:Bg σ w D ρ F){id:Nat}{p:List (Nat×Nat)}{s:Bool}{sz n:Nat}{f:Nat->Nat->V}{b W cap:Nat}(B:id<σ.length)
  (ha:At w p (σ.getD id .dead) (ρ id) (.nd s true sz n f) (Ay s b W n cap)) {i k:Nat} (hi:i<n) (hk:k<sz) (hc:BZ (f i k)=true):
  ∃x,w.cell? ⟨b,W+i*sz+k,none⟩=some x/\Rel D w (Ai σ ρ w) (W2 id (p++[(i,k)]) (f i k)) x noF:=by
 obtain⟨fp1,Y,hsub,_⟩:=Dg (w':=w) p _ _ _ _ _ (wr.rel id B) (λb hb h=>wr.dD id b h hb) ha
 rcases Y with⟨h0,_⟩|⟨b2,o2,cap2,F2,hcv,hcap,hmax,hs1,H,himm,ho⟩
 .omega
 obtain⟨rfl,rfl,_⟩:=As hcv;obtain⟨x,hx,u⟩:=H i k hi hk;refine⟨x,hx,?_⟩;have J:At w (p++[(i,k)]) (σ.getD id .dead) (ρ id) (f i k) x:=At.app ha ⟨hi,hk,b,W,cap,x,rfl,hx,rfl,rfl⟩;generalize hv:f i k=v at*;cases v with
 |c v=>exact⟨u.1,u.2.1,λ_ h=>h⟩
 |dead=>exact λ_ h=>h
 |many t n f=>cases hc
 |rs id p off len=>exact u.1.elim
 |rp id p i k=>exact u.1.elim
 |rm id p=>exact u.1.elim
 |mp own l=>
  cases own with
  |false=>
   have Z:F2 i k=noF:=A4 (AC _ _ _ (by rfl) u)
   rw[Z]at u;exact Rel.noR_mono u
  |true=>obtain⟨b',hb',_⟩:=u;exact⟨⟨B,l,b',J,hb'⟩,λ_ h=>h⟩
 |nd s' own O n' f'=>
  cases own with
  |false=>
   have Z:F2 i k=noF:=A4 (AC _ _ _ (by rfl) u)
   rw[Z]at u;cases s'<;>exact Rel.noR_mono u
  |true=>
   cases s' with
   |true=>
    refine⟨⟨B,O,n',f',x,J,by omega,?_⟩,λ_ h=>h⟩
    rcases u with⟨rfl,_,E,_⟩|⟨b3,U,A,F3,rfl,_⟩
    .have E:=DZ E
     subst E;exact .inr ⟨rfl,none,rfl,λ_ _=>rfl,λp e=>by cases e⟩
    .exact .inl ⟨b3,U,A,rfl,by simp[Ay]⟩
   |false=>
    rcases u with⟨_,h,_⟩|⟨b3,U,A,F3,rfl,_,_,h1,_⟩
    .cases h
    .refine⟨⟨B,false,O,n',f',b3,U,A,J,by rw[h1 rfl];exact Nat.one_pos,by simpa [BZ]using hc,by simp[Ay]⟩,λ_ h=>h⟩
def Nc{ad:Addr}{i:TypeInfo}{s:Nat}(hd:P.underlying t=some d)(hi:P.info? t=some i)(e:i.size=s)(u:Jd d=true)
  (cs:List Value) (A:cs.length=s) (B:∀j v,cs[j]? =some v->w.cell? (ad.add j)=some v):(loadVar t ad).run P w=.ok (.agg cs.toArray) w:=by
 subst A
 have E:(isAgg t).run P w=.ok true w:=by
  unfold isAgg;cases d<;>simp[Jd]at u<;>simp[run_underlying hd]
 simp[loadVar,E,Result.andThen,sizeOf,typeInfo,e];simp[hi,<-e];rw[e,run_loadCells_list w ad cs B]
def Nb{ad:Addr}(hd:P.underlying t=some d)(e:Jd d=false)
  {v:Value} (u:w.cell? ad=some v):(loadVar t ad).run P w=.ok v w:=by
 have A:(isAgg t).run P w=.ok false w:=by
  unfold isAgg;cases d<;>simp[Jd]at e<;>simp[run_underlying hd]
 simp[loadVar,A,u]
theorem A3(e:ad.spot=none)(j:Nat):ad.add j=⟨ad.block,ad.off+j,none⟩:=by
 unfold Addr.add;split
 .rename_i h;cases ad;grind
 rfl
theorem BR{p:Nat->Value->Prop}(h:∀k,k<n->∃x,p k x):∃cs:List Value,cs.length=n/\∀k x,cs[k]? =some x->p k x:=by
 induction n with
 |zero=>simp
 |succ n B=>
  obtain⟨cs,u,E⟩:=B λk A=>h k (by omega)
  obtain⟨x,H⟩:=h n (by omega)
  refine⟨cs++[x],by simp[u],λk y e=>?_⟩
  by_cases A:k<cs.length
  .rw[gAL A]at e;exact E k y e
  .have:k=n:=by
    grind
   subst this;simp[u]at e
   grind
def Iz(e:Option TyI)(σ:List V)(x:V)(K:V->Prop):Prop:=
 match e with
 |some ⟨false,_,_⟩=>match x with
  |.nd false false sz _ f=>0<sz/\K (f 0 0)
  |.rp id p i k=>BZ (Cs σ id p i k)=true/\K (W2 id (p++[(i,k)]) (Cs σ id p i k))
  |.many .bx n f=>(0<n/\AK (f 0)=false)/\K (f 0)
  |_=>False
 |some ⟨true,s,_⟩=>match x with
  |.nd false false sz _ f=>s<=sz/\K (Ag (tab s λk=>f 0 k))
  |.rp id p i k=>k+s<=AY σ id p/\(List.range s).all (λj=>BZ (Cs σ id p i (k+j)))=true/\K (Ag (tab s λj=>W2 id (p++[(i,k+j)]) (Cs σ id p i (k+j))))
  |.many .bx n f=>(s<=n/\(List.range s).all (λk=>!AK (f k))=true)/\K (Ag (tab s f))
  |_=>False
 |none=>False
theorem Kr(h:Rel D w R (.nd s false sz n f) cv fp)(O:0<n):
  ∃b o cap,cv=Ay s b o n cap/\n<=cap/\∀i k,i<n->k<sz->D b/\∃x,w.cell? ⟨b,o+i*sz+k,none⟩=some x/\Rel D w noR (f i k) x noF:=by
 rcases h with⟨h0,_⟩|⟨b,o,cap,F,A,e,B,Y,J,hi,_⟩
 .omega
 obtain⟨W,U,Z⟩:=hi rfl;refine⟨b,o,cap,A,e,λi k hi E=>⟨W (Nat.mul_pos O (by omega)),?_⟩⟩
 obtain⟨x,H,u⟩:=J i k hi E;exact⟨x,H,A4 (U i k · hi E)▸u⟩
theorem Nn(h:Rel D w R (.nd false false sz n f) cv fp):
  n=1/\∃b o,cv=.pointer (some ⟨b,o,none⟩)/\∀k,k<sz->D b/\∃x,w.cell? ⟨b,o+k,none⟩=some x/\Rel D w noR (f 0 k) x noF:=by
 have E:n=1:=by
  rcases h with⟨_,h,_⟩|⟨b,o,cap,F,e,A,u,H,B,hi,_⟩
  .cases h
  grind
 subst E;obtain⟨b,o,cap,e,_,B⟩:=Kr h Nat.one_pos;exact⟨rfl,b,o,by trivial,λk J=>by grind⟩
theorem Ik{f:Nat->V}(h:Rel D w R (.many .bx n f) cv fp):
  ∃b o,cv=.pointer (some ⟨b,o,none⟩)/\(0<n->D b)/\∀k,k<n->∃x e,w.cell? ⟨b,o+k,none⟩=some x/\Rel D w R (f k) x e:=by
 obtain⟨cs,F,⟨b,o,B,A,u⟩,hn,hr,_,_⟩:=h
 grind
theorem Ou(wr:Bg σ w D ρ F)(hr:Rel D w (Ai σ ρ w) v cv fp)(h:Iz (tyI P t) σ v K):∃r,K r/\∃ad cr,cv=.pointer (some ad)/\(loadVar t ad).run P w=.ok cr w/\Rel D w (Ai σ ρ w) r cr noF:=by
 unfold Iz at h;split at h
 .rename_i sz0 z0 hti
  obtain⟨d,i,z,hd,hi,hz,W,_,_,_,B⟩:=CZ hti;split at h
  .obtain⟨u,H⟩:=h
   obtain⟨_,b,Z,O,U⟩:=Nn hr;obtain⟨_,y,hy,E⟩:=U 0 u;exact⟨_,H,_,_,O,Nb hd B.symm (by simpa using hy),Rel.noR_mono E⟩
  .rename_i id p i' k'
   obtain⟨U,H⟩:=h;obtain⟨⟨hid,s,sz,n,f,b,Z,cap,ha,hi',hk',O⟩,_⟩:=hr;have A:Cs σ id p i' k'=f i' k':=by unfold Cs;rw[<-At.sub ha]
   rw[A]at H U;obtain⟨y,hy,E⟩:=Q6 wr hid ha hi' hk' U;exact⟨_,H,_,_,O,Nb hd B.symm hy,E⟩
  .obtain⟨⟨u,hto⟩,H⟩:=h
   obtain⟨b,Z,O,_,U⟩:=Ik hr;obtain⟨y,fq,hy,E⟩:=U 0 u;exact⟨_,H,_,_,O,Nb hd B.symm (by simpa using hy),A4 (AC _ _ _ hto E)▸E⟩
  .exact h.elim
 .rename_i s z0 hti
  obtain⟨d,i,z,hd,hi,hz,W,_,_,_,B⟩:=CZ hti;split at h
  .obtain⟨u,H⟩:=h
   obtain⟨_,b,Z,O,U⟩:=Nn hr;obtain⟨cs,J,e⟩:=BR (n:=s) (p:=λk x=>w.cell? ⟨b,Z+k,none⟩=some x/\Rel D w noR (_) x noF) λk Y=>(U k (by omega)).2
   refine⟨_,H,_,_,O,Nc hd hi W B.symm cs J λj v hj=>(by rw[A3 rfl];exact(e j v hj).1),Rel.eqv _ _ _ _ (PO _ _) ?_⟩
   refine⟨cs.toArray,λ_=>noF,rfl,by simpa using J,λk Y=>?_,λ_ _ _ _ _ _ h=>h.elim,λb=>⟨λh=>h.elim,fun⟨_,_,h⟩=>h⟩⟩
   have:cs[k]? =some (cs.toArray.getD k undef):=by simp[J,Y]
   exact Rel.noR_mono (e k _ this).2
  .rename_i id p i' k'
   obtain⟨u,hco,H⟩:=h;obtain⟨⟨hid,s',sz,n,f,b,Z,cap,ha,hi',hk',O⟩,_⟩:=hr;have A:∀k,Cs σ id p i' k=f i' k:=by intro k;unfold Cs;rw[<-At.sub ha]
   have hns:AY σ id p=sz:=by unfold AY;rw[<-At.sub ha]
   rw[hns]at u;simp only[A]at H hco;obtain⟨cs,J,e⟩:=BR (n:=s) λj hj=>Q6 wr hid ha hi' (show k'+j<sz by omega) (by simpa using aET.1 hco j (List.mem_range.2 hj))
   refine⟨_,H,_,_,O,Nc hd hi W B.symm cs J λj v hj=>(by rw[A3 rfl];simpa [Nat.add_assoc]using(e j v hj).1),Rel.eqv _ _ _ _ (PO _ _) ?_⟩
   refine⟨cs.toArray,λ_=>noF,rfl,by simpa using J,λk Y=>?_,λ_ _ _ _ _ _ h=>h.elim,λb=>⟨λh=>h.elim,fun⟨_,_,h⟩=>h⟩⟩
   have:cs[k]? =some (cs.toArray.getD k undef):=by simp[J,Y]
   exact(e k _ this).2
  .rename_i n f
   obtain⟨⟨u,hto⟩,H⟩:=h;obtain⟨b,Z,O,_,U⟩:=Ik hr
   obtain⟨cs,J,e⟩:=BR (n:=s) (p:=λk x=>w.cell? ⟨b,Z+k,none⟩=some x/\Rel D w (Ai σ ρ w) (f k) x noF) λk Y=>by
    obtain⟨x,fq,h1,h2⟩:=U k (by omega)
    exact⟨x,h1,A4 (AC _ _ _ (by simpa using aET.1 hto k (List.mem_range.2 Y)) h2)▸h2⟩
   refine⟨_,H,_,_,O,Nc hd hi W B.symm cs J λj v hj=>(by rw[A3 rfl];exact(e j v hj).1),Rel.eqv _ _ _ _ (PO _ _) ?_⟩
   refine⟨cs.toArray,λ_=>noF,rfl,by simpa using J,λk Y=>?_,λ_ _ _ _ _ _ h=>h.elim,λb=>⟨λh=>h.elim,fun⟨_,_,h⟩=>h⟩⟩
   have:cs[k]? =some (cs.toArray.getD k undef):=by simp[J,Y]
   exact(e k _ this).2
  .exact h.elim
 .exact h.elim
theorem Qd(wr:Bg σ w D ρ F){x:Operand}(B:o.op=.load t x)(u:OpR σ w D ρ F v (a.eval x))(h:Iz (tyI P t) σ v K):∃r,K r/\Ar P o a w σ D ρ r:=by
 obtain⟨fp,A,J,H⟩:=u;obtain⟨r,U,ad,cr,O,E,e⟩:=Ou wr A h;exact⟨r,U,Ar.pure wr (by unfold execOp;rw[B];simp[Instr.loadAt,O,Instr.sureAddr,E]) e⟩
end ops
end Go.Ve

