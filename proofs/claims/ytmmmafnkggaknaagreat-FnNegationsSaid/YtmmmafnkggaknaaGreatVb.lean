/- Paths into owned trees: what lies there, and that a tree may be changed at one place. -/
import Derived.Test.YtmmmafnkggaknaaGreatVa
import Derived.Laws.Cells
import Derived.Laws.MakeOwn
import Derived.Laws.Tables
import Derived.IntWalk
import Derived.Laws.Slices
set_option linter.all false
namespace Go.Ve
variable{s:Bool}{b cap n o:Nat}{D:Nat->Prop}{w:World}
def sub:List (Nat×Nat)->V->V
 |[],v=>v
 |(i,k)::p,.nd _ _ _ _ f=>sub p (f i k)
 |_::_,_=>.dead
def upd:List (Nat×Nat)->V->V->V
 |[],_,x=>x
 |(i,k)::p,.nd s o sz n f,x=>.nd s o sz n λi' k'=>if i'=i/\k'=k then upd p (f i k) x else f i' k'
 |_::_,v,_=>v
def At(w:World):List (Nat×Nat)->V->Value->V->Value->Prop
 |[],v,cv,v',cv'=>v'=v/\cv'=cv
 |(i,k)::p,.nd s true sz n f,cv,v',cv'=>i<n/\k<sz/\∃b o cap x,cv=AC s b o n cap/\w.cell? ⟨b,o+i*sz+k,none⟩=some x/\At w p (f i k) x v' cv'
 |_::_,_,_,_,_=>False
def KV:List (Nat×Nat)->V->Prop
 |[],_=>True
 |(i,k)::p,.nd _ own sz n f=>own=true/\i<n/\k<sz/\KV p (f i k)
 |_::_,_=>False
theorem Az{A u e:Nat}(h:AC s b o n cap=AC s A u n e):b=A/\o=u/\(s=true->cap=e):=by
 cases s
 .simp[AC]at h;grind
 .simp[AC]at h;omega
def At.sub{w:World}:∀{p:List (Nat×Nat)}{v:V}{cv:Value}{v':V}{e:Value},At w p v cv v' e->v'=sub p v
 |[],_,_,_,_,h=>h.1
 |(i,k)::p,.nd s true sz n f,_,v',_,h=>by obtain⟨_,_,_,_,_,x,_,_,h⟩:=h;exact(show v'=Go.Ve.sub p (f i k)from At.sub h)
 |_::_,.nd _ false _ _ _,_,_,_,h=>h.elim
 |_::_,.c _,_,_,_,h=>h.elim
 |_::_,.dead,_,_,_,h=>h.elim
 |_::_,.many ..,_,_,_,h=>h.elim
 |_::_,.rs ..,_,_,_,h=>h.elim
 |_::_,.rp ..,_,_,_,h=>h.elim
def At.ok{w:World}:∀{p:List (Nat×Nat)}{v:V}{cv:Value}{v':V}{e:Value},At w p v cv v' e->KV p v
 |[],_,_,_,_,h=>trivial
 |(i,k)::p,.nd s true sz n f,_,_,_,h=>by obtain⟨A,u,_,_,_,x,_,_,h⟩:=h;exact⟨rfl,A,u,At.ok h⟩
 |_::_,.nd _ false _ _ _,_,_,_,h=>h.elim
 |_::_,.c _,_,_,_,h=>h.elim
 |_::_,.dead,_,_,_,h=>h.elim
 |_::_,.many ..,_,_,_,h=>h.elim
 |_::_,.rs ..,_,_,_,h=>h.elim
 |_::_,.rp ..,_,_,_,h=>h.elim
theorem At.app{w:World}:∀{p q:List (Nat×Nat)}{v:V}{cv:Value}{v':V}{A:Value}{u:V}{e:Value},At w p v cv v' A->At w q v' A u e->At w (p++q) v cv u e
 |[],_,_,_,_,_,_,_,h,h'=>by obtain⟨rfl,rfl⟩:=h;grind
 |(i,k)::p,_,.nd s true sz n f,_,_,_,_,_,h,h'=>by
  obtain⟨W,U,b,o,cap,x,J,E,B⟩:=h;exact⟨W,U,b,o,cap,x,J,E,At.app B h'⟩
 |_::_,_,.nd _ false _ _ _,_,_,_,_,_,h,_=>h.elim
 |_::_,_,.c _,_,_,_,_,_,h,_=>h.elim
 |_::_,_,.dead,_,_,_,_,_,h,_=>h.elim
 |_::_,_,.many ..,_,_,_,_,_,h,_=>h.elim
 |_::_,_,.rs ..,_,_,_,_,_,h,_=>h.elim
 |_::_,_,.rp ..,_,_,_,_,_,h,_=>h.elim
theorem Rel.root{R:V->Value->Prop}{sz:Nat}{f:Nat->Nat->V}{fp:Nat->Prop}(h:Rel D w R (.nd s true sz n f) (AC s b o n cap) fp):fp b:=by
 rcases h with⟨_,rfl,A,_⟩|⟨J,B,u,F,e,_,_,_,_,_,E⟩
 .exact absurd A BP
 .obtain⟨rfl,-,-⟩:=Az e
  grind
theorem DF{D:Nat->Prop}{w w':World}:∀(p:List (Nat×Nat)) (v:V) (cv:Value) (fp:Nat->Prop) (v1:V) (cv1:Value),
  Rel D w noR v cv fp->(∀b,D b->¬fp b)->At w p v cv v1 cv1->
  ∃E,Rel D w noR v1 cv1 E/\(∀b,E b->fp b)/\∀v2 W,Rel D w' noR v2 cv1 W->(∀b,W b->E b\/¬fp b)->
   (∀b,(D b\/fp b)->¬E b->w'.heap[b]? =w.heap[b]?)->Rel D w' noR (upd p v v2) cv (λb=>(fp b/\¬E b)\/W b):=by
 intro p
 induction p with
 |nil=>
  intro v cv fp v1 cv1 hr hD ha;obtain⟨rfl,rfl⟩:=ha;refine⟨fp,hr,λ_ h=>h,λv2 W h2 hs hw=>Rel.fp_congr (λb=>?_) h2⟩
  exact⟨λh=>.inr h,λh=>h.elim (λh=>absurd h.1 h.2) id⟩
 |cons ik p ih=>
  obtain⟨i,k⟩:=ik;intro v cv fp v1 cv1 hr hD ha
  match v,ha,hr with
  |.nd s true sz n f,ha,hr=>
   obtain⟨hi,hk,b,o,cap,x,hcv,hx,ha⟩:=ha;rcases hr with⟨h0,_⟩|⟨b',o',cap',F,hcv',hcap,hmax,hs1,B,himm,ho⟩
   .omega
   subst hcv;obtain⟨rfl,rfl,hcc⟩:=Az hcv';obtain⟨⟨cs,T,hb1,hb2⟩,hbF,hFd,hfp⟩:=ho rfl;obtain⟨x',hx',hrx⟩:=B i k hi hk;have:x'=x:=Option.some.inj (hx'.symm.trans hx);subst this;have A:∀c,F i k c->fp c:=λc B=>(hfp c).2 (.inr ⟨i,k,hi,hk,B⟩)
   obtain⟨E,hr1,hs,hput⟩:=ih _ _ _ _ _ hrx (λc B h=>hD c B (A c h)) ha
   refine⟨E,hr1,λc B=>A c (hs c B),λv2 W h2 hs2 hw=>?_⟩
   have hbfp:fp b:=(hfp b).2 (.inl rfl);have hb1':¬E b:=λh=>hbF i k hi hk (hs b h)
   have hwb:w'.heap[b]? =w.heap[b]?:=hw b (.inr hbfp) hb1';have hnew:=hput v2 W h2 (λc B=>(hs2 c B).imp id λh h'=>h (A c h')) (λc B hn=>hw c (B.imp id (A c)) hn)
   refine .inr ⟨b,o,cap',λi' k' c=>if i'=i/\k'=k then(F i k c/\¬E c)\/W c else F i' k' c,hcv',hcap,hmax,hs1,?_,(λh=>by cases h),λ_=>⟨⟨cs,T,hb1.same hwb,hb2⟩,?_,?_,?_⟩⟩
   .intro i' k' u e
    by_cases Z:i'=i/\k'=k
    .obtain⟨rfl,rfl⟩:=Z
     exact⟨x',by rw[C7 (w:=w) hwb];exact hx,by simpa using hnew⟩
    .obtain⟨y,hy,hry⟩:=B i' k' u e
     refine⟨y,by rw[C7 (w:=w) hwb];exact hy,?_⟩
     simp only[Z,if_false];refine Rel.mono (λ_ h=>h) (λ_ _ h=>h) _ _ _ (λc B=>hw c (B.imp id λh=>(hfp c).2 (.inr ⟨i',k',u,e,h⟩)) ?_) hry
     intro h1;rcases B with hcD|hcF
     .exact hD c hcD (A c (hs c h1))
     .exact hFd i' k' i k c u e hi hk (by omega) hcF (hs c h1)
   .intro i' k' u e
    by_cases Z:i'=i/\k'=k
    .simp only[Z,and_self,if_true]
     rintro (⟨h,_⟩|h)
     .exact hbF i k hi hk h
     .rcases hs2 b h with h|h
      .exact hb1' h
      .exact h hbfp
    .simp only[Z,if_false];exact hbF i' k' u e
   .intro i1 k1 i2 k2 c h1 h2' h3 h4 hne U J
    by_cases he1:i1=i/\k1=k<;>by_cases he2:i2=i/\k2=k
    .omega
    .simp only[he1,and_self,if_true]at U
     simp only[he2,if_false]at J;rcases U with⟨h,_⟩|h
     .exact hFd i k i2 k2 c hi hk h3 h4 (by omega) h J
     .rcases hs2 c h with h|h
      .exact hFd i k i2 k2 c hi hk h3 h4 (by omega) (hs c h) J
      .exact h ((hfp c).2 (.inr ⟨i2,k2,h3,h4,J⟩))
    .simp only[he2,and_self,if_true]at J
     simp only[he1,if_false]at U;rcases J with⟨h,_⟩|h
     .exact hFd i k i1 k1 c hi hk h1 h2' (by omega) h U
     .rcases hs2 c h with h|h
      .exact hFd i k i1 k1 c hi hk h1 h2' (by omega) (hs c h) U
      .exact h ((hfp c).2 (.inr ⟨i1,k1,h1,h2',U⟩))
    .simp only[he1,if_false]at U
     simp only[he2,if_false]at J;exact hFd i1 k1 i2 k2 c h1 h2' h3 h4 hne U J
   .intro c
    constructor
    .rintro (⟨B,hn⟩|B)
     .rcases(hfp c).1 B with rfl|⟨i',k',u,e,hF⟩
      .exact .inl rfl
      .refine .inr ⟨i',k',u,e,?_⟩
       by_cases Z:i'=i/\k'=k
       .simp only[Z,and_self,if_true];rw[Z.1,Z.2]at hF;exact .inl ⟨hF,hn⟩
       .simp only[Z,if_false];exact hF
     .exact .inr ⟨i,k,hi,hk,by simp only[and_self,if_true];exact .inr B⟩
    .rintro (rfl|⟨i',k',u,e,hF⟩)
     .exact .inl ⟨hbfp,hb1'⟩
     .by_cases Z:i'=i/\k'=k
      .simp only[Z,and_self,if_true]at hF
       rcases hF with⟨h,hn⟩|h
       .exact .inl ⟨A c h,hn⟩
       .exact .inr h
      .simp only[Z,if_false]at hF
       exact .inl ⟨(hfp c).2 (.inr ⟨i',k',u,e,hF⟩),λh1=>hFd i' k' i k c u e hi hk (by omega) hF (hs c h1)⟩
theorem At.same{D:Nat->Prop}{w w':World}:∀{p:List (Nat×Nat)}{v:V}{cv:Value}{fp:Nat->Prop}{B:V}{e:Value},
  Rel D w noR v cv fp->At w p v cv B e->(∀b,fp b->w'.heap[b]? =w.heap[b]?)->At w' p v cv B e
 |[],_,_,_,_,_,_,A,_=>A
 |(i,k)::p,.nd s true sz n f,cv,fp,B,e,hr,A,hw=>by
  obtain⟨W,U,b,o,cap,x,Z,hx,A⟩:=A;subst Z;have hb:=Rel.root hr;rcases hr with⟨h0,_⟩|⟨b',o',cap',F,u,hcap,hmax,hs1,hc,himm,ho⟩
  .omega
  obtain⟨rfl,rfl,hcc⟩:=Az u;obtain⟨x',E,J⟩:=hc i k W U;have:=Option.some.inj (E.symm.trans hx);subst this;exact⟨W,U,b,o,cap,x',rfl,by rw[C7 (hw b hb)];exact hx,At.same J A λc hc=>hw c (((ho rfl).2.2.2 c).2 (.inr ⟨i,k,W,U,hc⟩))⟩
 |_::_,.nd _ false _ _ _,_,_,_,_,_,h,_=>h.elim
 |_::_,.c _,_,_,_,_,_,h,_=>h.elim
 |_::_,.dead,_,_,_,_,_,h,_=>h.elim
 |_::_,.many ..,_,_,_,_,_,h,_=>h.elim
 |_::_,.rs ..,_,_,_,_,_,h,_=>h.elim
 |_::_,.rp ..,_,_,_,_,_,h,_=>h.elim
end Go.Ve


namespace Go.Ve
variable{σ:List V}{F:Nat->Nat->Prop}{D fp:Nat->Prop}{ρ:Nat->Value}{x:Operand}{P:Program}{t:TypeId}{v:V}{R:V->Value->Prop}{w:World}
def Au(σ:List V)(ρ:Nat->Value)(w:World):V->Value->Prop
 |.rs id p off len,cv=>id<σ.length/\∃sz n f cn,At w p (σ.getD id .dead) (ρ id) (.nd true true sz n f) cn/\off+len<=n/\
   ((∃b o cap,cn=AC true b o n cap/\cv=.slice (some ⟨b,o+off*sz,none⟩) len (cap-off))\/(len=0/\∃a:Option (Nat×Nat),cv=.slice (a.map λp=>⟨p.1,p.2,none⟩) 0 0/\(off=0->n=0->cv=cn)/\∀p,a=some p->∃o cap,cn=AC true p.1 o n cap/\o<=p.2/\p.2<=o+cap*sz))
 |.rp id p i k,cv=>id<σ.length/\∃s sz n f b o cap,At w p (σ.getD id .dead) (ρ id) (.nd s true sz n f) (AC s b o n cap)/\i<n/\k<sz/\
   cv=.pointer (some ⟨b,o+i*sz+k,none⟩)
 |_,_=>False
structure BG(σ:List V)(w:World)(D:Nat->Prop)(ρ:Nat->Value)(F:Nat->Nat->Prop):Prop where
 rel:∀i,i<σ.length->Rel D w noR (σ.getD i .dead) (ρ i) (F i)
 disj:∀i j b,i≠j->F i b->¬F j b
 dD:∀i b,F i b->¬D b
 Dlt:∀b,D b->b<w.heap.size
 out:∀i b,σ.length<=i->¬F i b
def BG.lt{σ:List V}{w:World}{D:Nat->Prop}{ρ:Nat->Value}{F:Nat->Nat->Prop}(h:BG σ w D ρ F)(i b:Nat)(e:F i b):b<w.heap.size:=by
 by_cases u:i<σ.length
 .exact Rel.lt _ _ _ (h.rel i u) b e
 .exact absurd e (h.out i b (by omega))
def Au.same{σ:List V}{w w':World}{D:Nat->Prop}{ρ:Nat->Value}{F:Nat->Nat->Prop}(h:BG σ w D ρ F)(A:∀i b,F i b->w'.heap[b]? =w.heap[b]?):
  ∀v cv,Au σ ρ w v cv->Au σ ρ w' v cv
 |.rs id p off len,cv,⟨e,sz,n,f,cn,u,r⟩=>⟨e,sz,n,f,cn,At.same (h.rel id e) u (A id),r⟩
 |.rp id p i k,cv,⟨e,s,sz,n,f,b,o,cap,u,r⟩=>⟨e,s,sz,n,f,b,o,cap,At.same (h.rel id e) u (A id),r⟩
 |.c _,_,h=>h.elim
 |.dead,_,h=>h.elim
 |.many ..,_,h=>h.elim
 |.nd ..,_,h=>h.elim
theorem BG.below{w':World}(h:BG σ w D ρ F)(u:Below w.heap.size w w'):BG σ w' D ρ F:=
 ⟨λi A=>Rel.mono (λ_ h=>h) (λ_ _ h=>h) _ _ _ (λb e=>u.block b (e.elim (h.Dlt b) (h.lt i b))) (h.rel i A),h.disj,h.dD,λb e=>Nat.lt_of_lt_of_le (h.Dlt b e) u.size,h.out⟩
def Rel.noR_mono{cv:Value}(h:Rel D w noR v cv fp):Rel D w R v cv fp:=
 Rel.mono (λ_ h=>h) (λ_ _ h=>h.elim) _ _ _ (λ_ _=>rfl) h
def OpR(σ:List V)(w:World)(D:Nat->Prop)(ρ:Nat->Value)(F:Nat->Nat->Prop)(v:V)(cv:Value):Prop:=
 ∃fp,Rel D w (Au σ ρ w) v cv fp/\(∀b,fp b->¬D b)/\∀i b,F i b->¬fp b
def Aw(P:Program)(o:Oper)(a:Act)(w:World)(σ:List V)(D:Nat->Prop)(ρ:Nat->Value)(r:V):Prop:=
 ∀(next:Act->World->Prop) (Q:Exit->Act->World->Prop),
  (∀v' w' D' fp,Below w.heap.size w w'->Rel D' w' (Au σ ρ w') r v' fp->(∀b,fp b->w.heap.size<=b)->(∀b,D b->D' b)->(∀b,D' b->D b\/w.heap.size<=b)->
   (∀b,D' b->b<w'.heap.size/\¬fp b)->next (a.put o.dst v') w')->o.wp P a w next Q
theorem Aw.pure{P:Program}{o:Oper}{a:Act}{r:V}{v':Value}(wr:BG σ w D ρ F)
  (h:(execOp a.eval o).run P w=.ok (.value v') w) (e:Rel D w (Au σ ρ w) r v' noF):Aw P o a w σ D ρ r:=by
 intro next Q u
 unfold Oper.wp;rw[h];exact u v' w D noF (Below.refl _ _) e (λ_ h=>h.elim) (λ_ h=>h) (λ_ h=>.inl h) (λb h=>⟨wr.Dlt b h,λh=>h⟩)
theorem Aw.new{P:Program}{o:Oper}{a:Act}{r:V}{v':Value}{ob:Obj}(wr:BG σ w D ρ F)
  (h:(execOp a.eval o).run P w=.ok (.value v') (w.alloc ob)) (e:∃fp,Rel D (w.alloc ob) (Au σ ρ (w.alloc ob)) r v' fp/\∀b,fp b->b=w.heap.size):Aw P o a w σ D ρ r:=by
 intro next Q u
 unfold Oper.wp;rw[h];obtain⟨fp,e,B⟩:=e;refine u v' (w.alloc ob) D fp ((Below.refl _ _).alloc (Nat.le_refl _) _) e (λb A=>by grind) (λ_ h=>h) (λ_ h=>.inl h) (λb h=>⟨?_,λA=>?_⟩)
 .have:=wr.Dlt b h;simp;omega
 .have:=wr.Dlt b h;grind
def Iw:TypeDesc->Bool
 |.struct _|.array _ _=>true
 |_=>false
structure SlI where
 e:TypeId
 size:Nat
 bytes:Nat
 zero:List Value
def slI(P:Program)(t:TypeId):Option SlI:=
 match P.underlying t with
 |some (.slice e)=>match P.info? e with
  |some i=>match i.zero with
   |some z=>if z.cells.size=i.size/\z.cells.toList.all (·.oneCell')=true then some ⟨e,i.size,i.bytes,z.cells.toList⟩else none
   |none=>none
  |none=>none
 |_=>none
structure TyI where
 agg:Bool
 size:Nat
 zero:List Value
def tyI(P:Program)(t:TypeId):Option TyI:=
 match P.underlying t,P.info? t with
 |some d,some i=>match i.zero with
  |some z=>if z.cells.size=i.size/\z.cells.toList.all (·.oneCell')=true then some ⟨Iw d,i.size,z.cells.toList⟩else none
  |none=>none
 |_,_=>none
def QH(P:Program)(t:TypeId)(k:Nat):Option (Nat×Nat):=
 match P.underlying t with
 |some (.struct fs)=>match fs[k]? with
  |some f=>match P.info? f.type with
   |some i=>if 0<i.size then some (f.offset,i.size)else none
   |none=>none
  |none=>none
 |_=>none
theorem DN{s:SlI}(h:slI P t=some s):P.underlying t=some (.slice s.e)/\∃i z,P.info? s.e=some i/\i.zero=some z/\i.size=s.size/\i.bytes=s.bytes/\z.cells.toList=s.zero/\z.cells.size=s.size/\∀v∈s.zero,v.oneCell'=true:=by
 unfold slI at h
 grind
theorem CN{s:TyI}(h:tyI P t=some s):∃d i z,P.underlying t=some d/\P.info? t=some i/\i.zero=some z/\i.size=s.size/\z.cells.toList=s.zero/\z.cells.size=s.size/\(∀v∈s.zero,v.oneCell'=true)/\s.agg=Iw d:=by
 unfold tyI at h
 grind
theorem VZ{k off sz:Nat}(h:QH P t k=some (off,sz)):∃fs f i,P.underlying t=some (.struct fs)/\fs[k]? =some f/\f.offset=off/\P.info? f.type=some i/\i.size=sz/\0<sz:=by
 unfold QH at h
 grind
section ops
variable {P:Program}{o:Oper}{a:Act}{w:World}{σ:List V}{D:Nat->Prop}{ρ:Nat->Value}{F:Nat->Nat->Prop}{K:V->Prop}
def AL:V->Bool
 |.nd _ own _ _ _=>own
 |.many _ n f=>(List.range n).any λk=>AL (f k)
 |_=>false
theorem AE:∀(v:V) (cv:Value) (fp:Nat->Prop),AL v=false->Rel D w R v cv fp->∀b,¬fp b:=by
 intro v
 induction v with
 |c v=>intro cv fp _ h;exact h.2.2
 |dead=>intro cv fp _ h;exact h
 |many t n f A=>
  intro cv fp E h b u;obtain⟨cs,F,e,hn,B,hd,Z⟩:=h;obtain⟨k,W,u⟩:=(Z b).1 u;refine A k _ _ ?_ (B k W) b u;unfold AL at E
  grind
 |nd s own sz n f A=>
  intro cv fp E h;cases own with
  |true=>trivial
  |false=>
   rcases h with h|⟨b,o,cap,F,e,U,J,hs,B,hi,_⟩
   .grind
   grind
 |rs id p off len=>intro cv fp _ h;exact h.2
 |rp id p i k=>intro cv fp _ h;exact h.2
def A6(h:∀b,¬fp b):fp=noF:=funext λb=>propext ⟨λe=>h b e,λe=>e.elim⟩
def Vc(v:V)(K:V->Prop):Prop:=AL v=false/\K v
theorem Jk(wr:BG σ w D ρ F)(e:o.op=.move x\/o.op=.assign x)(A:OpR σ w D ρ F v (a.eval x))(h:Vc v K):∃r,K r/\Aw P o a w σ D ρ r:=by
 obtain⟨fp,u,_⟩:=A;have:=A6 (AE _ _ _ h.1 u);subst this;refine⟨v,h.2,Aw.pure wr ?_ u⟩;rcases e with e|e<;>(unfold execOp;simp_all)
def Vb(c x y:V)(K:V->Prop):Prop:=
 match c with
 |.c (.bool b)=>AL x=false/\AL y=false/\(b=true->K x)/\(b=false->K y)
 |_=>False
theorem N2(wr:BG σ w D ρ F){U E B:V}{c y:Operand}(W:o.op=.pick c x y)(J:OpR σ w D ρ F U (a.eval c))(A:OpR σ w D ρ F E (a.eval x))(u:OpR σ w D ρ F B (a.eval y))(h:Vb U E B K):
  ∃r,K r/\Aw P o a w σ D ρ r:=by
 unfold Vb at h;split at h<;>try grind
 rename_i b;obtain⟨h1,h2,h3,Z⟩:=h;obtain⟨_,J,_⟩:=J;obtain⟨fx,A,_⟩:=A;obtain⟨fy,u,_⟩:=u;have:=A6 (AE _ _ _ h1 A);subst this;have:=A6 (AE _ _ _ h2 u);subst this;have e:=J.1;cases b with
 |true=>exact⟨E,h3 rfl,Aw.pure wr (by unfold execOp;rw[W];simp[e,asBool]) A⟩
 |false=>exact⟨B,Z rfl,Aw.pure wr (by unfold execOp;rw[W];simp[e,asBool]) u⟩
end ops
end Go.Ve


namespace Go.Ve
variable{ad:Addr}{s:Bool}{n sz:Nat}{f:Nat->Nat->V}{fp:Nat->Prop}{d:TypeDesc}{t:TypeId}{v:V}{R:V->Value->Prop}{cv:Value}
section ops
variable {P:Program}{o:Oper}{a:Act}{w:World}{σ:List V}{D:Nat->Prop}{ρ:Nat->Value}{F:Nat->Nat->Prop}{K:V->Prop}
def Um(id:Nat)(q:List (Nat×Nat)):V->V
 |.nd true true _ n _=>.rs id q 0 n
 |.nd false true _ _ _=>.rp id q 0 0
 |v=>v
def Cq(σ:List V)(id:Nat)(p:List (Nat×Nat))(i k:Nat):V:=
 match sub p (σ.getD id .dead)with
 |.nd _ _ _ _ f=>f i k
 |_=>.dead
def AT(σ:List V)(id:Nat)(p:List (Nat×Nat)):Nat:=
 match sub p (σ.getD id .dead)with
 |.nd _ _ sz _ _=>sz
 |_=>0
def B0:V->Bool
 |.many ..=>false
 |.nd false true sz _ _=>0<sz
 |_=>true
theorem OO(wr:BG σ w D ρ F){id:Nat}{p:List (Nat×Nat)}{s:Bool}{sz n:Nat}{f:Nat->Nat->V}{b o' cap:Nat}(E:id<σ.length)
  (ha:At w p (σ.getD id .dead) (ρ id) (.nd s true sz n f) (AC s b o' n cap)) {i k:Nat} (hi:i<n) (hk:k<sz) (hc:B0 (f i k)=true):
  ∃x,w.cell? ⟨b,o'+i*sz+k,none⟩=some x/\Rel D w (Au σ ρ w) (Um id (p++[(i,k)]) (f i k)) x noF:=by
 obtain⟨fp1,hr1,hsub,_⟩:=DF (w':=w) p _ _ _ _ _ (wr.rel id E) (λb hb h=>wr.dD id b h hb) ha
 rcases hr1 with⟨h0,_⟩|⟨b2,o2,cap2,F2,hcv,hcap,hmax,hs1,J,himm,ho⟩
 .omega
 obtain⟨rfl,rfl,_⟩:=Az hcv;obtain⟨x,hx,u⟩:=J i k hi hk;refine⟨x,hx,?_⟩;have W:At w (p++[(i,k)]) (σ.getD id .dead) (ρ id) (f i k) x:=At.app ha ⟨hi,hk,b,o',cap,x,rfl,hx,rfl,rfl⟩;generalize hv:f i k=v at*;cases v with
 |c v=>exact⟨u.1,u.2.1,λ_ h=>h⟩
 |dead=>exact λ_ h=>h
 |many t n f=>cases hc
 |rs id p off len=>exact u.1.elim
 |rp id p i k=>exact u.1.elim
 |nd s' own U n' f'=>
  cases own with
  |false=>
   have he:F2 i k=noF:=A6 (AE _ _ _ (by rfl) u)
   rw[he]at u;cases s'<;>exact Rel.noR_mono u
  |true=>
   cases s' with
   |true=>
    refine⟨⟨E,U,n',f',x,W,by omega,?_⟩,λ_ h=>h⟩
    rcases u with⟨rfl,_,B,_⟩|⟨b3,Z,A,F3,rfl,_⟩
    .have B:=DA B
     subst B;exact .inr ⟨rfl,none,rfl,λ_ _=>rfl,λp e=>by cases e⟩
    .exact .inl ⟨b3,Z,A,rfl,by simp[AC]⟩
   |false=>
    rcases u with⟨_,h,_⟩|⟨b3,Z,A,F3,rfl,_,_,h1,_⟩
    .cases h
    .refine⟨⟨E,false,U,n',f',b3,Z,A,W,by rw[h1 rfl];exact Nat.one_pos,by simpa [B0]using hc,by simp[AC]⟩,λ_ h=>h⟩
def Lv{ad:Addr}{i:TypeInfo}{s:Nat}(hd:P.underlying t=some d)(B:P.info? t=some i)(e:i.size=s)(u:Iw d=true)
  (cs:List Value) (A:cs.length=s) (E:∀j v,cs[j]? =some v->w.cell? (ad.add j)=some v):(loadVar t ad).run P w=.ok (.agg cs.toArray) w:=by
 subst A
 have J:(isAgg t).run P w=.ok true w:=by
  unfold isAgg;cases d<;>simp[Iw]at u<;>simp[run_underlying hd]
 simp[loadVar,J,Result.andThen,sizeOf,typeInfo,e];simp[B,<-e];rw[e,run_loadCells_list w ad cs E]
def Lu{ad:Addr}(hd:P.underlying t=some d)(e:Iw d=false)
  {v:Value} (u:w.cell? ad=some v):(loadVar t ad).run P w=.ok v w:=by
 have A:(isAgg t).run P w=.ok false w:=by
  unfold isAgg;cases d<;>simp[Iw]at e<;>simp[run_underlying hd]
 simp[loadVar,A,u]
theorem AX(hs:ad.spot=none)(j:Nat):ad.add j=⟨ad.block,ad.off+j,none⟩:=by
 unfold Addr.add;split
 .rename_i h;cases ad;grind
 rfl
theorem BQ{p:Nat->Value->Prop}(h:∀k,k<n->∃x,p k x):∃cs:List Value,cs.length=n/\∀k x,cs[k]? =some x->p k x:=by
 induction n with
 |zero=>simp
 |succ n B=>
  obtain⟨cs,u,E⟩:=B λk A=>h k (by omega)
  obtain⟨x,J⟩:=h n (by omega)
  refine⟨cs++[x],by simp[u],λk y e=>?_⟩
  by_cases A:k<cs.length
  .rw[gAL A]at e;exact E k y e
  .have:k=n:=by
    grind
   subst this;simp[u]at e
   grind
def H0(e:Option TyI)(σ:List V)(x:V)(K:V->Prop):Prop:=
 match e with
 |some ⟨false,_,_⟩=>match x with
  |.nd false false sz _ f=>0<sz/\K (f 0 0)
  |.rp id p i k=>B0 (Cq σ id p i k)=true/\K (Um id (p++[(i,k)]) (Cq σ id p i k))
  |.many .bx n f=>(0<n/\AL (f 0)=false)/\K (f 0)
  |_=>False
 |some ⟨true,s,_⟩=>match x with
  |.nd false false sz _ f=>s<=sz/\K (An (tab s λk=>f 0 k))
  |.rp id p i k=>k+s<=AT σ id p/\(List.range s).all (λj=>B0 (Cq σ id p i (k+j)))=true/\K (An (tab s λj=>Um id (p++[(i,k+j)]) (Cq σ id p i (k+j))))
  |.many .bx n f=>(s<=n/\(List.range s).all (λk=>!AL (f k))=true)/\K (An (tab s f))
  |_=>False
 |none=>False
theorem Jx(h:Rel D w R (.nd s false sz n f) cv fp)(Z:0<n):
  ∃b o cap,cv=AC s b o n cap/\n<=cap/\∀i k,i<n->k<sz->D b/\∃x,w.cell? ⟨b,o+i*sz+k,none⟩=some x/\Rel D w noR (f i k) x noF:=by
 rcases h with⟨h0,_⟩|⟨b,o,cap,F,B,e,E,hs,W,u,_⟩
 .omega
 obtain⟨h1,h2,h3⟩:=u rfl;refine⟨b,o,cap,B,e,λi k u J=>⟨h1 (Nat.mul_pos Z (by omega)),?_⟩⟩
 obtain⟨x,U,A⟩:=W i k u J;exact⟨x,U,A6 (h2 i k · u J)▸A⟩
theorem LC(h:Rel D w R (.nd false false sz n f) cv fp):
  n=1/\∃b o,cv=.pointer (some ⟨b,o,none⟩)/\∀k,k<sz->D b/\∃x,w.cell? ⟨b,o+k,none⟩=some x/\Rel D w noR (f 0 k) x noF:=by
 have E:n=1:=by
  rcases h with⟨_,h,_⟩|⟨b,o,cap,F,e,A,u,hs,B,U,_⟩
  .cases h
  grind
 subst E;obtain⟨b,o,cap,e,_,B⟩:=Jx h Nat.one_pos;exact⟨rfl,b,o,by trivial,λk J=>by grind⟩
theorem HO{f:Nat->V}(h:Rel D w R (.many .bx n f) cv fp):
  ∃b o,cv=.pointer (some ⟨b,o,none⟩)/\(0<n->D b)/\∀k,k<n->∃x e,w.cell? ⟨b,o+k,none⟩=some x/\Rel D w R (f k) x e:=by
 obtain⟨cs,F,⟨b,o,B,A,u⟩,hn,hr,_,_⟩:=h
 grind
theorem MI(wr:BG σ w D ρ F)(hr:Rel D w (Au σ ρ w) v cv fp)(h:H0 (tyI P t) σ v K):∃r,K r/\∃ad cr,cv=.pointer (some ad)/\(loadVar t ad).run P w=.ok cr w/\Rel D w (Au σ ρ w) r cr noF:=by
 unfold H0 at h;split at h
 .rename_i sz0 z0 hti
  obtain⟨d,i,z,hd,hi,hz,his,_,_,_,B⟩:=CN hti;split at h
  .obtain⟨u,J⟩:=h
   obtain⟨_,b,o',W,Z⟩:=LC hr;obtain⟨_,y,hy,E⟩:=Z 0 u;exact⟨_,J,_,_,W,Lu hd B.symm (by simpa using hy),Rel.noR_mono E⟩
  .rename_i id p i' k'
   obtain⟨Z,J⟩:=h;obtain⟨⟨hid,s,sz,n,f,b,o',cap,ha,hi',hk',W⟩,_⟩:=hr;have A:Cq σ id p i' k'=f i' k':=by unfold Cq;rw[<-At.sub ha]
   rw[A]at J Z;obtain⟨y,hy,E⟩:=OO wr hid ha hi' hk' Z;exact⟨_,J,_,_,W,Lu hd B.symm hy,E⟩
  .obtain⟨⟨u,hto⟩,J⟩:=h
   obtain⟨b,o',W,_,Z⟩:=HO hr;obtain⟨y,fq,hy,E⟩:=Z 0 u;exact⟨_,J,_,_,W,Lu hd B.symm (by simpa using hy),A6 (AE _ _ _ hto E)▸E⟩
  .exact h.elim
 .rename_i s z0 hti
  obtain⟨d,i,z,hd,hi,hz,his,_,_,_,B⟩:=CN hti;split at h
  .obtain⟨u,J⟩:=h
   obtain⟨_,b,o',W,Z⟩:=LC hr;obtain⟨cs,U,e⟩:=BQ (n:=s) (p:=λk x=>w.cell? ⟨b,o'+k,none⟩=some x/\Rel D w noR (_) x noF) λk hk=>(Z k (by omega)).2
   refine⟨_,J,_,_,W,Lv hd hi his B.symm cs U λj v hj=>(by rw[AX rfl];exact(e j v hj).1),Rel.eqv _ _ _ _ (NO _ _) ?_⟩
   refine⟨cs.toArray,λ_=>noF,rfl,by simpa using U,λk hk=>?_,λ_ _ _ _ _ _ h=>h.elim,λb=>⟨λh=>h.elim,fun⟨_,_,h⟩=>h⟩⟩
   have:cs[k]? =some (cs.toArray.getD k undef):=by simp[U,hk]
   exact Rel.noR_mono (e k _ this).2
  .rename_i id p i' k'
   obtain⟨u,hco,J⟩:=h;obtain⟨⟨hid,s',sz,n,f,b,o',cap,ha,hi',hk',W⟩,_⟩:=hr;have A:∀k,Cq σ id p i' k=f i' k:=by intro k;unfold Cq;rw[<-At.sub ha]
   have hns:AT σ id p=sz:=by unfold AT;rw[<-At.sub ha]
   rw[hns]at u;simp only[A]at J hco;obtain⟨cs,U,e⟩:=BQ (n:=s) λj hj=>OO wr hid ha hi' (show k'+j<sz by omega) (by simpa using aET.1 hco j (List.mem_range.2 hj))
   refine⟨_,J,_,_,W,Lv hd hi his B.symm cs U λj v hj=>(by rw[AX rfl];simpa [Nat.add_assoc]using(e j v hj).1),Rel.eqv _ _ _ _ (NO _ _) ?_⟩
   refine⟨cs.toArray,λ_=>noF,rfl,by simpa using U,λk hk=>?_,λ_ _ _ _ _ _ h=>h.elim,λb=>⟨λh=>h.elim,fun⟨_,_,h⟩=>h⟩⟩
   have:cs[k]? =some (cs.toArray.getD k undef):=by simp[U,hk]
   exact(e k _ this).2
  .rename_i n f
   obtain⟨⟨u,hto⟩,J⟩:=h;obtain⟨b,o',W,_,Z⟩:=HO hr
   obtain⟨cs,U,e⟩:=BQ (n:=s) (p:=λk x=>w.cell? ⟨b,o'+k,none⟩=some x/\Rel D w (Au σ ρ w) (f k) x noF) λk hk=>by
    obtain⟨x,fq,h1,h2⟩:=Z k (by omega)
    exact⟨x,h1,A6 (AE _ _ _ (by simpa using aET.1 hto k (List.mem_range.2 hk)) h2)▸h2⟩
   refine⟨_,J,_,_,W,Lv hd hi his B.symm cs U λj v hj=>(by rw[AX rfl];exact(e j v hj).1),Rel.eqv _ _ _ _ (NO _ _) ?_⟩
   refine⟨cs.toArray,λ_=>noF,rfl,by simpa using U,λk hk=>?_,λ_ _ _ _ _ _ h=>h.elim,λb=>⟨λh=>h.elim,fun⟨_,_,h⟩=>h⟩⟩
   have:cs[k]? =some (cs.toArray.getD k undef):=by simp[U,hk]
   exact(e k _ this).2
  .exact h.elim
 .exact h.elim
theorem N4(wr:BG σ w D ρ F){x:Operand}(B:o.op=.load t x)(u:OpR σ w D ρ F v (a.eval x))(h:H0 (tyI P t) σ v K):∃r,K r/\Aw P o a w σ D ρ r:=by
 obtain⟨fp,A,U,J⟩:=u;obtain⟨r,Z,ad,cr,W,E,e⟩:=MI wr A h;exact⟨r,Z,Aw.pure wr (by unfold execOp;rw[B];simp[Instr.loadAt,W,Instr.sureAddr,E]) e⟩
end ops
end Go.Ve

