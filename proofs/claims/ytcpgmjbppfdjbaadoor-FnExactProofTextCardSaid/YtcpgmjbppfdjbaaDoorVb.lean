/- Paths into owned trees: what lies there, and that a tree may be changed at one place. -/
import Derived.Test.YtcpgmjbppfdjbaaDoorVa
import Derived.Laws.Cells
import Derived.Laws.MakeOwn
import Derived.Laws.Tables
import Derived.IntWalk
import Derived.Laws.Slices
namespace Go.Ve
variable{s:Bool}{b cap n o:Nat}{D:Nat->Prop}{w:World}
def sub:List (Nat×Nat)->V->V
 | [],v=>v
 |(i,k)::p,.nd _ _ _ _ f=>sub p (f i k)
 |_::_,_=>.dead
def upd:List (Nat×Nat)->V->V->V
 | [],_,x=>x
 |(i,k)::p,.nd s o sz n f,x=>.nd s o sz n λi' k'=>if i'=i/\k'=k then upd p (f i k) x else f i' k'
 |_::_,v,_=>v
def At(w:World):List (Nat×Nat)->V->Value->V->Value->Prop
 | [],v,cv,v',cv'=>v'=v/\cv'=cv
 |(i,k)::p,.nd s true sz n f,cv,v',cv'=>i<n/\k<sz/\∃b o cap x,cv=As s b o n cap/\w.cell? ⟨b,o+i*sz+k,none⟩=some x/\At w p (f i k) x v' cv'
 |_::_,_,_,_,_=>False
def Le:List (Nat×Nat)->V->Prop
 | [],_=>True
 |(i,k)::p,.nd _ own sz n f=>own=true/\i<n/\k<sz/\Le p (f i k)
 |_::_,_=>False
theorem Ap{b' o' cap':Nat}(h:As s b o n cap=As s b' o' n cap'):b=b'/\o=o'/\(s=true->cap=cap'):=by
 cases s
 ·simp [As]at h;grind
 ·simp [As]at h;omega
theorem At.sub{w:World}: ∀ {p:List (Nat×Nat)} {v:V} {cv:Value} {v':V} {cv':Value},At w p v cv v' cv'->v'=sub p v
 | [],_,_,_,_,h=>h.1
 |(i,k)::p,.nd s true sz n f,_,v',_,h=>by obtain⟨_,_,_,_,_,x,_,_,h⟩:=h;exact(show v'=Go.Ve.sub p (f i k)from At.sub h)
 |_::_,.nd _ false _ _ _,_,_,_,h=>h.elim
 |_::_,.c _,_,_,_,h=>h.elim
 |_::_,.dead,_,_,_,h=>h.elim
 |_::_,.many ..,_,_,_,h=>h.elim
 |_::_,.rs ..,_,_,_,h=>h.elim
 |_::_,.rp ..,_,_,_,h=>h.elim
theorem At.ok{w:World}: ∀ {p:List (Nat×Nat)} {v:V} {cv:Value} {v':V} {cv':Value},At w p v cv v' cv'->Le p v
 | [],_,_,_,_,h=>trivial
 |(i,k)::p,.nd s true sz n f,_,_,_,h=>by obtain⟨h1,h2,_,_,_,x,_,_,h⟩:=h;exact⟨rfl,h1,h2,At.ok h⟩
 |_::_,.nd _ false _ _ _,_,_,_,h=>h.elim
 |_::_,.c _,_,_,_,h=>h.elim
 |_::_,.dead,_,_,_,h=>h.elim
 |_::_,.many ..,_,_,_,h=>h.elim
 |_::_,.rs ..,_,_,_,h=>h.elim
 |_::_,.rp ..,_,_,_,h=>h.elim
theorem At.app{w:World}: ∀ {p q:List (Nat×Nat)} {v:V} {cv:Value} {v':V} {cv':Value} {v'':V} {cv'':Value},At w p v cv v' cv'->At w q v' cv' v'' cv''->At w (p++q) v cv v'' cv''
 | [],_,_,_,_,_,_,_,h,h'=>by obtain⟨rfl,rfl⟩:=h;grind
 |(i,k)::p,_,.nd s true sz n f,_,_,_,_,_,h,h'=>by
  obtain⟨h1,h2,b,o,cap,x,h3,h4,h5⟩:=h;exact⟨h1,h2,b,o,cap,x,h3,h4,At.app h5 h'⟩
 |_::_,_,.nd _ false _ _ _,_,_,_,_,_,h,_=>h.elim
 |_::_,_,.c _,_,_,_,_,_,h,_=>h.elim
 |_::_,_,.dead,_,_,_,_,_,h,_=>h.elim
 |_::_,_,.many ..,_,_,_,_,_,h,_=>h.elim
 |_::_,_,.rs ..,_,_,_,_,_,h,_=>h.elim
 |_::_,_,.rp ..,_,_,_,_,_,h,_=>h.elim
theorem Rel.root{R:V->Value->Prop}{sz:Nat}{f:Nat->Nat->V}{fp:Nat->Prop}(h:Rel D w R (.nd s true sz n f) (As s b o n cap) fp):fp b:=by
 rcases h with⟨_,rfl,h3,_⟩|⟨b',o',cap',F,hcv,_,_,_,_,_,ho⟩
 ·exact absurd h3 By
 ·obtain⟨rfl,-,-⟩:=Ap hcv
  grind
theorem Dt{D:Nat->Prop}{w w':World}: ∀ (p:List (Nat×Nat)) (v:V) (cv:Value) (fp:Nat->Prop) (v1:V) (cv1:Value),
  Rel D w noR v cv fp->(∀b,D b->¬fp b)->At w p v cv v1 cv1->
  ∃fp1,Rel D w noR v1 cv1 fp1/\(∀b,fp1 b->fp b)/\∀v2 fp2,Rel D w' noR v2 cv1 fp2->(∀b,fp2 b->fp1 b\/¬fp b)->
   (∀b,(D b\/fp b)->¬fp1 b->w'.heap[b]? =w.heap[b]?)->Rel D w' noR (upd p v v2) cv (λb=>(fp b/\¬fp1 b)\/fp2 b):=by
 intro p
 induction p with
 |nil=>
  intro v cv fp v1 cv1 hr hD ha;obtain⟨rfl,rfl⟩:=ha;refine⟨fp,hr,λ_ h=>h,λv2 fp2 h2 hs hw=>Rel.fp_congr (λb=>?_) h2⟩
  exact⟨λh=>.inr h,λh=>h.elim (λh=>absurd h.1 h.2) id⟩
 |cons ik p ih=>
  obtain⟨i,k⟩:=ik;intro v cv fp v1 cv1 hr hD ha
  match v,ha,hr with
  | .nd s true sz n f,ha,hr=>
   obtain⟨hi,hk,b,o,cap,x,hcv,hx,ha⟩:=ha;rcases hr with⟨h0,_⟩|⟨b',o',cap',F,hcv',hcap,hmax,hs1,hc,himm,ho⟩
   ·omega
   subst hcv;obtain⟨rfl,rfl,hcc⟩:=Ap hcv';obtain⟨⟨cs,T,hb1,hb2⟩,hbF,hFd,hfp⟩:=ho rfl;obtain⟨x',hx',hrx⟩:=hc i k hi hk;have:x'=x:=Option.some.inj (hx'.symm.trans hx);subst this;have hsub: ∀c,F i k c->fp c:=λc hc=>(hfp c).2 (.inr ⟨i,k,hi,hk,hc⟩)
   obtain⟨fp1,hr1,hs,hput⟩:=ih _ _ _ _ _ hrx (λc hc h=>hD c hc (hsub c h)) ha
   refine⟨fp1,hr1,λc hc=>hsub c (hs c hc),λv2 fp2 h2 hs2 hw=>?_⟩
   have hbfp:fp b:=(hfp b).2 (.inl rfl);have hb1': ¬fp1 b:=λh=>hbF i k hi hk (hs b h)
   have hwb:w'.heap[b]? =w.heap[b]?:=hw b (.inr hbfp) hb1';have hnew:=hput v2 fp2 h2 (λc hc=>(hs2 c hc).imp id λh h'=>h (hsub c h')) (λc hc hn=>hw c (hc.imp id (hsub c)) hn)
   refine .inr ⟨b,o,cap',λi' k' c=>if i'=i/\k'=k then(F i k c/\¬fp1 c)\/fp2 c else F i' k' c,hcv',hcap,hmax,hs1,?_,(λh=>by cases h),λ_=>⟨⟨cs,T,hb1.same hwb,hb2⟩,?_,?_,?_⟩⟩
   ·intro i' k' hi' hk'
    by_cases he:i'=i/\k'=k
    ·obtain⟨rfl,rfl⟩:=he
     exact⟨x',by rw [CW (w:=w) hwb];exact hx,by simpa using hnew⟩
    ·obtain⟨y,hy,hry⟩:=hc i' k' hi' hk'
     refine⟨y,by rw [CW (w:=w) hwb];exact hy,?_⟩
     simp only [he,if_false];refine Rel.mono (λ_ h=>h) (λ_ _ h=>h) _ _ _ (λc hc=>hw c (hc.imp id λh=>(hfp c).2 (.inr ⟨i',k',hi',hk',h⟩)) ?_) hry
     intro h1;rcases hc with hcD|hcF
     ·exact hD c hcD (hsub c (hs c h1))
     ·exact hFd i' k' i k c hi' hk' hi hk (by omega) hcF (hs c h1)
   ·intro i' k' hi' hk'
    by_cases he:i'=i/\k'=k
    ·simp only [he,and_self,if_true]
     rintro (⟨h,_⟩|h)
     ·exact hbF i k hi hk h
     ·rcases hs2 b h with h|h
      ·exact hb1' h
      ·exact h hbfp
    ·simp only [he,if_false];exact hbF i' k' hi' hk'
   ·intro i1 k1 i2 k2 c h1 h2' h3 h4 hne hF1 hF2
    by_cases he1:i1=i/\k1=k<;>by_cases he2:i2=i/\k2=k
    ·omega
    ·simp only [he1,and_self,if_true]at hF1
     simp only [he2,if_false]at hF2;rcases hF1 with⟨h,_⟩|h
     ·exact hFd i k i2 k2 c hi hk h3 h4 (by omega) h hF2
     ·rcases hs2 c h with h|h
      ·exact hFd i k i2 k2 c hi hk h3 h4 (by omega) (hs c h) hF2
      ·exact h ((hfp c).2 (.inr ⟨i2,k2,h3,h4,hF2⟩))
    ·simp only [he2,and_self,if_true]at hF2
     simp only [he1,if_false]at hF1;rcases hF2 with⟨h,_⟩|h
     ·exact hFd i k i1 k1 c hi hk h1 h2' (by omega) h hF1
     ·rcases hs2 c h with h|h
      ·exact hFd i k i1 k1 c hi hk h1 h2' (by omega) (hs c h) hF1
      ·exact h ((hfp c).2 (.inr ⟨i1,k1,h1,h2',hF1⟩))
    ·simp only [he1,if_false]at hF1
     simp only [he2,if_false]at hF2;exact hFd i1 k1 i2 k2 c h1 h2' h3 h4 hne hF1 hF2
   ·intro c
    constructor
    ·rintro (⟨hc,hn⟩|hc)
     ·rcases(hfp c).1 hc with rfl|⟨i',k',hi',hk',hF⟩
      ·exact .inl rfl
      ·refine .inr ⟨i',k',hi',hk',?_⟩
       by_cases he:i'=i/\k'=k
       ·simp only [he,and_self,if_true];rw [he.1,he.2]at hF;exact .inl ⟨hF,hn⟩
       ·simp only [he,if_false];exact hF
     ·exact .inr ⟨i,k,hi,hk,by simp only [and_self,if_true];exact .inr hc⟩
    ·rintro (rfl|⟨i',k',hi',hk',hF⟩)
     ·exact .inl ⟨hbfp,hb1'⟩
     ·by_cases he:i'=i/\k'=k
      ·simp only [he,and_self,if_true]at hF
       rcases hF with⟨h,hn⟩|h
       ·exact .inl ⟨hsub c h,hn⟩
       ·exact .inr h
      ·simp only [he,if_false]at hF
       exact .inl ⟨(hfp c).2 (.inr ⟨i',k',hi',hk',hF⟩),λh1=>hFd i' k' i k c hi' hk' hi hk (by omega) hF (hs c h1)⟩
theorem At.same{D:Nat->Prop}{w w':World}: ∀ {p:List (Nat×Nat)} {v:V} {cv:Value} {fp:Nat->Prop} {v1:V} {cv1:Value},
  Rel D w noR v cv fp->At w p v cv v1 cv1->(∀b,fp b->w'.heap[b]? =w.heap[b]?)->At w' p v cv v1 cv1
 | [],_,_,_,_,_,_,ha,_=>ha
 |(i,k)::p,.nd s true sz n f,cv,fp,v1,cv1,hr,ha,hw=>by
  obtain⟨hi,hk,b,o,cap,x,hcv,hx,ha⟩:=ha;subst hcv;have hb:=Rel.root hr;rcases hr with⟨h0,_⟩|⟨b',o',cap',F,hcv',hcap,hmax,hs1,hc,himm,ho⟩
  ·omega
  obtain⟨rfl,rfl,hcc⟩:=Ap hcv';obtain⟨x',hx',hrx⟩:=hc i k hi hk;have:=Option.some.inj (hx'.symm.trans hx);subst this;exact⟨hi,hk,b,o,cap,x',rfl,by rw [CW (hw b hb)];exact hx,At.same hrx ha λc hc=>hw c (((ho rfl).2.2.2 c).2 (.inr ⟨i,k,hi,hk,hc⟩))⟩
 |_::_,.nd _ false _ _ _,_,_,_,_,_,h,_=>h.elim
 |_::_,.c _,_,_,_,_,_,h,_=>h.elim
 |_::_,.dead,_,_,_,_,_,h,_=>h.elim
 |_::_,.many ..,_,_,_,_,_,h,_=>h.elim
 |_::_,.rs ..,_,_,_,_,_,h,_=>h.elim
 |_::_,.rp ..,_,_,_,_,_,h,_=>h.elim
end Go.Ve


namespace Go.Ve
variable{σ:List V}{F:Nat->Nat->Prop}{D fp:Nat->Prop}{ρ:Nat->Value}{x:Operand}{P:Program}{t:TypeId}{v:V}{R:V->Value->Prop}{w:World}
def Ag(σ:List V)(ρ:Nat->Value)(w:World):V->Value->Prop
 | .rs id p off len,cv=>id<σ.length/\∃sz n f cn,At w p (σ.getD id .dead) (ρ id) (.nd true true sz n f) cn/\off+len<=n/\
   ((∃b o cap,cn=As true b o n cap/\cv= .slice (some ⟨b,o+off*sz,none⟩) len (cap-off))\/(len=0/\∃a:Option (Nat×Nat),cv= .slice (a.map λp=>⟨p.1,p.2,none⟩) 0 0/\(off=0->n=0->cv=cn)/\∀p,a=some p->∃o cap,cn=As true p.1 o n cap/\o<=p.2/\p.2<=o+cap*sz))
 | .rp id p i k,cv=>id<σ.length/\∃s sz n f b o cap,At w p (σ.getD id .dead) (ρ id) (.nd s true sz n f) (As s b o n cap)/\i<n/\k<sz/\
   cv= .pointer (some ⟨b,o+i*sz+k,none⟩)
 |_,_=>False
structure Bj(σ:List V)(w:World)(D:Nat->Prop)(ρ:Nat->Value)(F:Nat->Nat->Prop):Prop where
 rel: ∀i,i<σ.length->Rel D w noR (σ.getD i .dead) (ρ i) (F i)
 disj: ∀i j b,i≠j->F i b->¬F j b
 dD: ∀i b,F i b->¬D b
 Dlt: ∀b,D b->b<w.heap.size
 out: ∀i b,σ.length<=i->¬F i b
theorem Bj.lt{σ:List V}{w:World}{D:Nat->Prop}{ρ:Nat->Value}{F:Nat->Nat->Prop}(h:Bj σ w D ρ F)(i b:Nat)(hb:F i b):b<w.heap.size:=by
 by_cases hi:i<σ.length
 ·exact Rel.lt _ _ _ (h.rel i hi) b hb
 ·exact absurd hb (h.out i b (by omega))
theorem Ag.same{σ:List V}{w w':World}{D:Nat->Prop}{ρ:Nat->Value}{F:Nat->Nat->Prop}(h:Bj σ w D ρ F)(hw: ∀i b,F i b->w'.heap[b]? =w.heap[b]?):
  ∀v cv,Ag σ ρ w v cv->Ag σ ρ w' v cv
 | .rs id p off len,cv,⟨hid,sz,n,f,cn,ha,r⟩=>⟨hid,sz,n,f,cn,At.same (h.rel id hid) ha (hw id),r⟩
 | .rp id p i k,cv,⟨hid,s,sz,n,f,b,o,cap,ha,r⟩=>⟨hid,s,sz,n,f,b,o,cap,At.same (h.rel id hid) ha (hw id),r⟩
 | .c _,_,h=>h.elim
 | .dead,_,h=>h.elim
 | .many ..,_,h=>h.elim
 | .nd ..,_,h=>h.elim
theorem Bj.below{w':World}(h:Bj σ w D ρ F)(hw:Below w.heap.size w w'):Bj σ w' D ρ F:=
 ⟨λi hi=>Rel.mono (λ_ h=>h) (λ_ _ h=>h) _ _ _ (λb hb=>hw.block b (hb.elim (h.Dlt b) (h.lt i b))) (h.rel i hi),h.disj,h.dD,λb hb=>Nat.lt_of_lt_of_le (h.Dlt b hb) hw.size,h.out⟩
theorem Rel.noR_mono{cv:Value}(h:Rel D w noR v cv fp):Rel D w R v cv fp:=
 Rel.mono (λ_ h=>h) (λ_ _ h=>h.elim) _ _ _ (λ_ _=>rfl) h
def OpR(σ:List V)(w:World)(D:Nat->Prop)(ρ:Nat->Value)(F:Nat->Nat->Prop)(v:V)(cv:Value):Prop:=
 ∃fp,Rel D w (Ag σ ρ w) v cv fp/\(∀b,fp b->¬D b)/\∀i b,F i b->¬fp b
def Ak(P:Program)(o:Oper)(a:Act)(w:World)(σ:List V)(D:Nat->Prop)(ρ:Nat->Value)(r:V):Prop:=
 ∀ (next:Act->World->Prop) (Q:Exit->Act->World->Prop),
  (∀v' w' D' fp,Below w.heap.size w w'->Rel D' w' (Ag σ ρ w') r v' fp->(∀b,fp b->w.heap.size<=b)->(∀b,D b->D' b)->(∀b,D' b->D b\/w.heap.size<=b)->
   (∀b,D' b->b<w'.heap.size/\¬fp b)->next (a.put o.dst v') w')->o.wp P a w next Q
theorem Ak.pure{P:Program}{o:Oper}{a:Act}{r:V}{v':Value}(wr:Bj σ w D ρ F)
  (h:(execOp a.eval o).run P w= .ok (.value v') w) (hr:Rel D w (Ag σ ρ w) r v' noF):Ak P o a w σ D ρ r:=by
 intro next Q hn
 unfold Oper.wp;rw [h];exact hn v' w D noF (Below.refl _ _) hr (λ_ h=>h.elim) (λ_ h=>h) (λ_ h=>.inl h) (λb h=>⟨wr.Dlt b h,λh=>h⟩)
theorem Ak.new{P:Program}{o:Oper}{a:Act}{r:V}{v':Value}{ob:Obj}(wr:Bj σ w D ρ F)
  (h:(execOp a.eval o).run P w= .ok (.value v') (w.alloc ob)) (hr: ∃fp,Rel D (w.alloc ob) (Ag σ ρ (w.alloc ob)) r v' fp/\∀b,fp b->b=w.heap.size):Ak P o a w σ D ρ r:=by
 intro next Q hn
 unfold Oper.wp;rw [h];obtain⟨fp,hr,hf⟩:=hr;refine hn v' (w.alloc ob) D fp ((Below.refl _ _).alloc (Nat.le_refl _) _) hr (λb hb=>by grind) (λ_ h=>h) (λ_ h=>.inl h) (λb h=>⟨?_,λhb=>?_⟩)
 ·have:=wr.Dlt b h;simp;omega
 ·have:=wr.Dlt b h;grind
def Iv:TypeDesc->Bool
 | .struct _| .array _ _=>true
 |_=>false
structure SlI where
 e:TypeId
 size:Nat
 bytes:Nat
 zero:List Value
def slI(P:Program)(t:TypeId):Option SlI:=
 match P.underlying t with
 |some (.slice e)=>match P.info? e with
  |some i=>match i.zero with
   |some z=>if z.cells.size=i.size/\z.cells.toList.all (·.oneCell')=true then some ⟨e,i.size,i.bytes,z.cells.toList⟩else none
   |none=>none
  |none=>none
 |_=>none
structure TyI where
 agg:Bool
 size:Nat
 zero:List Value
def tyI(P:Program)(t:TypeId):Option TyI:=
 match P.underlying t,P.info? t with
 |some d,some i=>match i.zero with
  |some z=>if z.cells.size=i.size/\z.cells.toList.all (·.oneCell')=true then some ⟨Iv d,i.size,z.cells.toList⟩else none
  |none=>none
 |_,_=>none
def Uq(P:Program)(t:TypeId)(k:Nat):Option (Nat×Nat):=
 match P.underlying t with
 |some (.struct fs)=>match fs[k]? with
  |some f=>match P.info? f.type with
   |some i=>if 0<i.size then some (f.offset,i.size)else none
   |none=>none
  |none=>none
 |_=>none
theorem CB{s:SlI}(h:slI P t=some s):P.underlying t=some (.slice s.e)/\∃i z,P.info? s.e=some i/\i.zero=some z/\i.size=s.size/\i.bytes=s.bytes/\z.cells.toList=s.zero/\z.cells.size=s.size/\∀v∈s.zero,v.oneCell'=true:=by
 unfold slI at h
 grind
theorem Cz{s:TyI}(h:tyI P t=some s): ∃d i z,P.underlying t=some d/\P.info? t=some i/\i.zero=some z/\i.size=s.size/\z.cells.toList=s.zero/\z.cells.size=s.size/\(∀v∈s.zero,v.oneCell'=true)/\s.agg=Iv d:=by
 unfold tyI at h
 grind
theorem Wx{k off sz:Nat}(h:Uq P t k=some (off,sz)): ∃fs f i,P.underlying t=some (.struct fs)/\fs[k]? =some f/\f.offset=off/\P.info? f.type=some i/\i.size=sz/\0<sz:=by
 unfold Uq at h
 grind
section ops
variable {P:Program} {o:Oper} {a:Act} {w:World} {σ:List V} {D:Nat->Prop} {ρ:Nat->Value} {F:Nat->Nat->Prop} {K:V->Prop}
def AE:V->Bool
 | .nd _ own _ _ _=>own
 | .many _ n f=>(List.range n).any λk=>AE (f k)
 |_=>false
theorem Au: ∀ (v:V) (cv:Value) (fp:Nat->Prop),AE v=false->Rel D w R v cv fp->∀b,¬fp b:=by
 intro v
 induction v with
 |c v=>intro cv fp _ h;exact h.2.2
 |dead=>intro cv fp _ h;exact h
 |many t n f ih=>
  intro cv fp ho h b hb;obtain⟨cs,F,hcv,hn,hr,hd,hf⟩:=h;obtain⟨k,hk,hb⟩:=(hf b).1 hb;refine ih k _ _ ?_ (hr k hk) b hb;unfold AE at ho
  grind
 |nd s own sz n f ih=>
  intro cv fp ho h;cases own with
  |true=>trivial
  |false=>
   rcases h with h|⟨b,o,cap,F,hcv,hcap,hmax,hs,hr,hi,_⟩
   ·grind
   grind
 |rs id p off len=>intro cv fp _ h;exact h.2
 |rp id p i k=>intro cv fp _ h;exact h.2
theorem AY(h: ∀b,¬fp b):fp=noF:=funext λb=>propext ⟨λhb=>h b hb,λhb=>hb.elim⟩
def VP(v:V)(K:V->Prop):Prop:=AE v=false/\K v
theorem Jo(wr:Bj σ w D ρ F)(ho:o.op= .move x\/o.op= .assign x)(hv:OpR σ w D ρ F v (a.eval x))(h:VP v K): ∃r,K r/\Ak P o a w σ D ρ r:=by
 obtain⟨fp,hr,_⟩:=hv;have:=AY (Au _ _ _ h.1 hr);subst this;refine⟨v,h.2,Ak.pure wr ?_ hr⟩;rcases ho with ho|ho<;>(unfold execOp;simp_all)
def QY(c x y:V)(K:V->Prop):Prop:=
 match c with
 | .c (.bool b)=>AE x=false/\AE y=false/\(b=true->K x)/\(b=false->K y)
 |_=>False
theorem Oz(wr:Bj σ w D ρ F){vc vx vy:V}{c y:Operand}(ho:o.op= .pick c x y)(hc:OpR σ w D ρ F vc (a.eval c))(hx:OpR σ w D ρ F vx (a.eval x))(hy:OpR σ w D ρ F vy (a.eval y))(h:QY vc vx vy K):
  ∃r,K r/\Ak P o a w σ D ρ r:=by
 unfold QY at h;split at h<;>try grind
 rename_i b;obtain⟨h1,h2,h3,h4⟩:=h;obtain⟨_,hc,_⟩:=hc;obtain⟨fx,hx,_⟩:=hx;obtain⟨fy,hy,_⟩:=hy;have:=AY (Au _ _ _ h1 hx);subst this;have:=AY (Au _ _ _ h2 hy);subst this;have hcb:=hc.1;cases b with
 |true=>exact⟨vx,h3 rfl,Ak.pure wr (by unfold execOp;rw [ho];simp [hcb,asBool]) hx⟩
 |false=>exact⟨vy,h4 rfl,Ak.pure wr (by unfold execOp;rw [ho];simp [hcb,asBool]) hy⟩
end ops
end Go.Ve


namespace Go.Ve
variable{ad:Addr}{s:Bool}{n sz:Nat}{f:Nat->Nat->V}{fp:Nat->Prop}{d:TypeDesc}{t:TypeId}{v:V}{R:V->Value->Prop}{cv:Value}
section ops
variable {P:Program} {o:Oper} {a:Act} {w:World} {σ:List V} {D:Nat->Prop} {ρ:Nat->Value} {F:Nat->Nat->Prop} {K:V->Prop}
def UX(id:Nat)(q:List (Nat×Nat)):V->V
 | .nd true true _ n _=>.rs id q 0 n
 | .nd false true _ _ _=>.rp id q 0 0
 |v=>v
def B7(σ:List V)(id:Nat)(p:List (Nat×Nat))(i k:Nat):V:=
 match sub p (σ.getD id .dead)with
 | .nd _ _ _ _ f=>f i k
 |_=>.dead
def AS(σ:List V)(id:Nat)(p:List (Nat×Nat)):Nat:=
 match sub p (σ.getD id .dead)with
 | .nd _ _ sz _ _=>sz
 |_=>0
def K3:V->Bool
 | .many ..=>false
 | .nd false true sz _ _=>0<sz
 |_=>true
theorem Pm(wr:Bj σ w D ρ F){id:Nat}{p:List (Nat×Nat)}{s:Bool}{sz n:Nat}{f:Nat->Nat->V}{b o' cap:Nat}(hid:id<σ.length)
  (ha:At w p (σ.getD id .dead) (ρ id) (.nd s true sz n f) (As s b o' n cap)) {i k:Nat} (hi:i<n) (hk:k<sz) (hc:K3 (f i k)=true):
  ∃x,w.cell? ⟨b,o'+i*sz+k,none⟩=some x/\Rel D w (Ag σ ρ w) (UX id (p++ [(i,k)]) (f i k)) x noF:=by
 obtain⟨fp1,hr1,hsub,_⟩:=Dt (w':=w) p _ _ _ _ _ (wr.rel id hid) (λb hb h=>wr.dD id b h hb) ha
 rcases hr1 with⟨h0,_⟩|⟨b2,o2,cap2,F2,hcv,hcap,hmax,hs1,hcell,himm,ho⟩
 ·omega
 obtain⟨rfl,rfl,_⟩:=Ap hcv;obtain⟨x,hx,hrx⟩:=hcell i k hi hk;refine⟨x,hx,?_⟩;have hat:At w (p++ [(i,k)]) (σ.getD id .dead) (ρ id) (f i k) x:=At.app ha ⟨hi,hk,b,o',cap,x,rfl,hx,rfl,rfl⟩;generalize hv:f i k=v at*;cases v with
 |c v=>exact⟨hrx.1,hrx.2.1,λ_ h=>h⟩
 |dead=>exact λ_ h=>h
 |many t n f=>cases hc
 |rs id p off len=>exact hrx.1.elim
 |rp id p i k=>exact hrx.1.elim
 |nd s' own sz' n' f'=>
  cases own with
  |false=>
   have he:F2 i k=noF:=AY (Au _ _ _ (by rfl) hrx)
   rw [he]at hrx;cases s'<;>exact Rel.noR_mono hrx
  |true=>
   cases s' with
   |true=>
    refine⟨⟨hid,sz',n',f',x,hat,by omega,?_⟩,λ_ h=>h⟩
    rcases hrx with⟨rfl,_,hn0,_⟩|⟨b3,o3,cap3,F3,rfl,_⟩
    ·have hn0:=Dn hn0
     subst hn0;exact .inr ⟨rfl,none,rfl,λ_ _=>rfl,λp e=>by cases e⟩
    ·exact .inl ⟨b3,o3,cap3,rfl,by simp [As]⟩
   |false=>
    rcases hrx with⟨_,h,_⟩|⟨b3,o3,cap3,F3,rfl,_,_,h1,_⟩
    ·cases h
    ·refine⟨⟨hid,false,sz',n',f',b3,o3,cap3,hat,by rw [h1 rfl];exact Nat.one_pos,by simpa [K3]using hc,by simp [As]⟩,λ_ h=>h⟩
theorem LX{ad:Addr}{i:TypeInfo}{s:Nat}(hd:P.underlying t=some d)(hi:P.info? t=some i)(his:i.size=s)(hagg:Iv d=true)
  (cs:List Value) (hl:cs.length=s) (hc: ∀j v,cs[j]? =some v->w.cell? (ad.add j)=some v):(loadVar t ad).run P w= .ok (.agg cs.toArray) w:=by
 subst hl
 have h1:(isAgg t).run P w= .ok true w:=by
  unfold isAgg;cases d<;>simp [Iv]at hagg<;>simp [run_underlying hd]
 simp [loadVar,h1,Result.andThen,sizeOf,typeInfo,his];simp [hi,<-his];rw [his,run_loadCells_list w ad cs hc]
theorem LW{ad:Addr}(hd:P.underlying t=some d)(hagg:Iv d=false)
  {v:Value} (hc:w.cell? ad=some v):(loadVar t ad).run P w= .ok v w:=by
 have h1:(isAgg t).run P w= .ok false w:=by
  unfold isAgg;cases d<;>simp [Iv]at hagg<;>simp [run_underlying hd]
 simp [loadVar,h1,hc]
theorem AT(hs:ad.spot=none)(j:Nat):ad.add j=⟨ad.block,ad.off+j,none⟩:=by
 unfold Addr.add;split
 ·rename_i h;cases ad;grind
 rfl
theorem BC{p:Nat->Value->Prop}(h: ∀k,k<n->∃x,p k x): ∃cs:List Value,cs.length=n/\∀k x,cs[k]? =some x->p k x:=by
 induction n with
 |zero=>simp
 |succ n ih=>
  obtain⟨cs,hl,hc⟩:=ih λk hk=>h k (by omega)
  obtain⟨x,hx⟩:=h n (by omega)
  refine⟨cs++ [x],by simp [hl],λk y hy=>?_⟩
  by_cases hk:k<cs.length
  ·rw [gAL hk]at hy;exact hc k y hy
  ·have:k=n:=by
    grind
   subst this;simp [hl]at hy
   grind
def HQ(ti:Option TyI)(σ:List V)(x:V)(K:V->Prop):Prop:=
 match ti with
 |some ⟨false,_,_⟩=>match x with
  | .nd false false sz _ f=>0<sz/\K (f 0 0)
  | .rp id p i k=>K3 (B7 σ id p i k)=true/\K (UX id (p++ [(i,k)]) (B7 σ id p i k))
  | .many .bx n f=>(0<n/\AE (f 0)=false)/\K (f 0)
  |_=>False
 |some ⟨true,s,_⟩=>match x with
  | .nd false false sz _ f=>s<=sz/\K (Ac (tab s λk=>f 0 k))
  | .rp id p i k=>k+s<=AS σ id p/\(List.range s).all (λj=>K3 (B7 σ id p i (k+j)))=true/\K (Ac (tab s λj=>UX id (p++ [(i,k+j)]) (B7 σ id p i (k+j))))
  | .many .bx n f=>(s<=n/\(List.range s).all (λk=>!AE (f k))=true)/\K (Ac (tab s f))
  |_=>False
 |none=>False
theorem JC(h:Rel D w R (.nd s false sz n f) cv fp)(hn:0<n):
  ∃b o cap,cv=As s b o n cap/\n<=cap/\∀i k,i<n->k<sz->D b/\∃x,w.cell? ⟨b,o+i*sz+k,none⟩=some x/\Rel D w noR (f i k) x noF:=by
 rcases h with⟨h0,_⟩|⟨b,o,cap,F,hcv,hcap,hmax,hs,hr,hi,_⟩
 ·omega
 obtain⟨h1,h2,h3⟩:=hi rfl;refine⟨b,o,cap,hcv,hcap,λi k hi hk=>⟨h1 (Nat.mul_pos hn (by omega)),?_⟩⟩
 obtain⟨x,hx,hrx⟩:=hr i k hi hk;exact⟨x,hx,AY (h2 i k · hi hk)▸hrx⟩
theorem L6(h:Rel D w R (.nd false false sz n f) cv fp):
  n=1/\∃b o,cv= .pointer (some ⟨b,o,none⟩)/\∀k,k<sz->D b/\∃x,w.cell? ⟨b,o+k,none⟩=some x/\Rel D w noR (f 0 k) x noF:=by
 have hn:n=1:=by
  rcases h with⟨_,h,_⟩|⟨b,o,cap,F,hcv,hcap,hmax,hs,hr,hi,_⟩
  ·cases h
  grind
 subst hn;obtain⟨b,o,cap,hcv,_,hr⟩:=JC h Nat.one_pos;exact⟨rfl,b,o,by trivial,λk hk=>by grind⟩
theorem Hy{f:Nat->V}(h:Rel D w R (.many .bx n f) cv fp):
  ∃b o,cv= .pointer (some ⟨b,o,none⟩)/\(0<n->D b)/\∀k,k<n->∃x fq,w.cell? ⟨b,o+k,none⟩=some x/\Rel D w R (f k) x fq:=by
 obtain⟨cs,F,⟨b,o,h1,h2,h3⟩,hn,hr,_,_⟩:=h
 grind
theorem M4(wr:Bj σ w D ρ F)(hr:Rel D w (Ag σ ρ w) v cv fp)(h:HQ (tyI P t) σ v K): ∃r,K r/\∃ad cr,cv= .pointer (some ad)/\(loadVar t ad).run P w= .ok cr w/\Rel D w (Ag σ ρ w) r cr noF:=by
 unfold HQ at h;split at h
 ·rename_i sz0 z0 hti
  obtain⟨d,i,z,hd,hi,hz,his,_,_,_,hag⟩:=Cz hti;split at h
  ·obtain⟨hsz,hK⟩:=h
   obtain⟨_,b,o',he,hc⟩:=L6 hr;obtain⟨_,y,hy,hry⟩:=hc 0 hsz;exact⟨_,hK,_,_,he,LW hd hag.symm (by simpa using hy),Rel.noR_mono hry⟩
  ·rename_i id p i' k'
   obtain⟨hc,hK⟩:=h;obtain⟨⟨hid,s,sz,n,f,b,o',cap,ha,hi',hk',he⟩,_⟩:=hr;have hcell:B7 σ id p i' k'=f i' k':=by unfold B7;rw [<-At.sub ha]
   rw [hcell]at hK hc;obtain⟨y,hy,hry⟩:=Pm wr hid ha hi' hk' hc;exact⟨_,hK,_,_,he,LW hd hag.symm hy,hry⟩
  ·obtain⟨⟨hsz,hto⟩,hK⟩:=h
   obtain⟨b,o',he,_,hc⟩:=Hy hr;obtain⟨y,fq,hy,hry⟩:=hc 0 hsz;exact⟨_,hK,_,_,he,LW hd hag.symm (by simpa using hy),AY (Au _ _ _ hto hry)▸hry⟩
  ·exact h.elim
 ·rename_i s z0 hti
  obtain⟨d,i,z,hd,hi,hz,his,_,_,_,hag⟩:=Cz hti;split at h
  ·obtain⟨hsz,hK⟩:=h
   obtain⟨_,b,o',he,hc⟩:=L6 hr;obtain⟨cs,hl,hcs⟩:=BC (n:=s) (p:=λk x=>w.cell? ⟨b,o'+k,none⟩=some x/\Rel D w noR (_) x noF) λk hk=>(hc k (by omega)).2
   refine⟨_,hK,_,_,he,LX hd hi his hag.symm cs hl λj v hj=>(by rw [AT rfl];exact(hcs j v hj).1),Rel.eqv _ _ _ _ (Oh _ _) ?_⟩
   refine⟨cs.toArray,λ_=>noF,rfl,by simpa using hl,λk hk=>?_,λ_ _ _ _ _ _ h=>h.elim,λb=>⟨λh=>h.elim,fun⟨_,_,h⟩=>h⟩⟩
   have:cs[k]? =some (cs.toArray.getD k undef):=by simp [hl,hk]
   exact Rel.noR_mono (hcs k _ this).2
  ·rename_i id p i' k'
   obtain⟨hsz,hco,hK⟩:=h;obtain⟨⟨hid,s',sz,n,f,b,o',cap,ha,hi',hk',he⟩,_⟩:=hr;have hcell: ∀k,B7 σ id p i' k=f i' k:=by intro k;unfold B7;rw [<-At.sub ha]
   have hns:AS σ id p=sz:=by unfold AS;rw [<-At.sub ha]
   rw [hns]at hsz;simp only [hcell]at hK hco;obtain⟨cs,hl,hcs⟩:=BC (n:=s) λj hj=>Pm wr hid ha hi' (show k'+j<sz by omega) (by simpa using aET.1 hco j (List.mem_range.2 hj))
   refine⟨_,hK,_,_,he,LX hd hi his hag.symm cs hl λj v hj=>(by rw [AT rfl];simpa [Nat.add_assoc]using(hcs j v hj).1),Rel.eqv _ _ _ _ (Oh _ _) ?_⟩
   refine⟨cs.toArray,λ_=>noF,rfl,by simpa using hl,λk hk=>?_,λ_ _ _ _ _ _ h=>h.elim,λb=>⟨λh=>h.elim,fun⟨_,_,h⟩=>h⟩⟩
   have:cs[k]? =some (cs.toArray.getD k undef):=by simp [hl,hk]
   exact(hcs k _ this).2
  ·rename_i n f
   obtain⟨⟨hsz,hto⟩,hK⟩:=h;obtain⟨b,o',he,_,hc⟩:=Hy hr
   obtain⟨cs,hl,hcs⟩:=BC (n:=s) (p:=λk x=>w.cell? ⟨b,o'+k,none⟩=some x/\Rel D w (Ag σ ρ w) (f k) x noF) λk hk=>by
    obtain⟨x,fq,h1,h2⟩:=hc k (by omega)
    exact⟨x,h1,AY (Au _ _ _ (by simpa using aET.1 hto k (List.mem_range.2 hk)) h2)▸h2⟩
   refine⟨_,hK,_,_,he,LX hd hi his hag.symm cs hl λj v hj=>(by rw [AT rfl];exact(hcs j v hj).1),Rel.eqv _ _ _ _ (Oh _ _) ?_⟩
   refine⟨cs.toArray,λ_=>noF,rfl,by simpa using hl,λk hk=>?_,λ_ _ _ _ _ _ h=>h.elim,λb=>⟨λh=>h.elim,fun⟨_,_,h⟩=>h⟩⟩
   have:cs[k]? =some (cs.toArray.getD k undef):=by simp [hl,hk]
   exact(hcs k _ this).2
  ·exact h.elim
 ·exact h.elim
theorem OB(wr:Bj σ w D ρ F){x:Operand}(ho:o.op= .load t x)(hv:OpR σ w D ρ F v (a.eval x))(h:HQ (tyI P t) σ v K): ∃r,K r/\Ak P o a w σ D ρ r:=by
 obtain⟨fp,hr,hfD,hfF⟩:=hv;obtain⟨r,hK,ad,cr,he,hl,hrr⟩:=M4 wr hr h;exact⟨r,hK,Ak.pure wr (by unfold execOp;rw [ho];simp [Instr.loadAt,he,Instr.sureAddr,hl]) hrr⟩
end ops
end Go.Ve

