/- Set functors: what makes them. -/
import Derived.Test.YtpaekmpjbalnfabBaa
namespace Go.Ve.D
open Go Go.Ve
theorem chk2{R S:Type}{F:Int->Option (LO Int R)}{n:Nat}{p:Nat->Bool}{Q:R->Prop}{o:LO Int R}{k:LO Int R->Option S}{Post:Bool->Option S->Prop}
  (h1: ∀i,i<n->(p i=true->F (i:Int)=some (.next ((i+1:Nat):Int)))/\(p i=false->∃r,F (i:Int)=some (.ret r)/\Q r)) (h2:F (n:Int)=some o) (ho: ∀y,o≠.next y)
  (hA:Post true (k o)) (hB: ∀r,Q r->Post false (k (.ret r))):Post ((List.range n).all p) (Option.bind (Ah F (0:Int)) k):=by
 refine BY (st:=fun i:Nat=>(i:Int)) (p:=p) (Q:=Q) (o:=o) (Post:=fun x=>Post ((List.range n).all p) x) h1 h2 ho (fun hall=>?_) (fun hall r hr=>?_)
 ·rw [hall];exact hA
 ·rw [hall];exact hB r hr
def Oe{R:Type}(bad:R->Prop)(s:Int)(p:Bool)(o:Option (LO Int R)):Prop:=(p=true->o=some (.next s))/\(p=false->∃r,o=some (.ret r)/\bad r)
def Uo{R:Type}(bad:R->Prop)(r:LO Int R):Prop:=∃r',r= .ret r'/\bad r'
theorem Mk{R:Type}{bad:R->Prop}{F:Int->Option (LO Int (LO Int R))}{n:Nat}{p:Nat->Bool}{id:Nat}{s:Int}{g:Nat->Int->Option (LO Int R)}
  (h1: ∀i,i<n->Oe (Uo bad) ((i+1:Nat):Int) (p i) (F (i:Int))) (h2:F (n:Int)=some (.brk id (n:Int))) (hk:g id (n:Int)=some (.next s)):
  Oe bad s ((List.range n).all p) (Option.bind (Ah F (0:Int)) (LO.fin g)):=by
 refine BY (st:=fun i:Nat=>(i:Int)) (p:=p) (Q:=Uo bad) (o:=.brk id (n:Int)) (Post:=fun x=>Oe bad s ((List.range n).all p) x) h1 h2 (fun y=>by simp) (fun hall=>?_) (fun hall r hr=>?_)
 ·rw [hall]
  exact⟨fun _=>hk,(fun h=>by cases h)⟩
 ·rw [hall]
  obtain⟨r',rfl,hb⟩:=hr;exact⟨(fun h=>by cases h),fun _=>⟨r',rfl,hb⟩⟩
theorem UH{R:Type}{bad:R->Prop}{F:Int->Option (LO Int R)}{n:Nat}{p:Nat->Bool}{id:Nat}{g:Nat->Int->Option R}{Post:Bool->Option R->Prop}
  (h1: ∀i,i<n->Oe bad ((i+1:Nat):Int) (p i) (F (i:Int))) (h2:F (n:Int)=some (.brk id (n:Int))) (hA:Post true (g id (n:Int))) (hB: ∀r,bad r->Post false (some r)):
  Post ((List.range n).all p) (Option.bind (Ah F (0:Int)) (LO.fin g)):=
 chk2 (Q:=bad) h1 h2 (fun y=>by simp) hA fun r hr=>hB r hr
theorem Cp{R:Type}{bad:R->Prop}{s:Int}{o:Option (LO Int R)}(h:o=some (.next s)):Oe bad s true o:=⟨fun _=>h,(fun h=>by cases h)⟩
theorem Cq{R:Type}{bad:R->Prop}{s:Int}{o:Option (LO Int R)}(h: ∃r,o=some (.ret r)/\bad r):Oe bad s false o:=⟨(fun h=>by cases h),fun _=>h⟩
abbrev SF:=Int×List Int×List Int×List Int×List (List Int)×List Int×List (List Int)
def szF(f:SF):List Int:=f.2.2.2.2.2.1
def sz(f:SF)(x:Int):Int:=(szF f).getD x.toNat 0
end Go.Ve.D


namespace Go.Ve.D
open Go Go.Ve
theorem Z0{c:Cat}{x:Int}{q:Int->Bool}:(List.range (Jz c x).length).all (fun i=>q ((Jz c x).getD i 0))=(List.range (ar c)).all fun b=>!decide (fT c b=x)||q (b:Int):=by
 rw [IC (0:Int) q];unfold Jz;rw [List.all_map,List.all_filter];rfl
theorem p89(c:Cat)(x:Int):G89 (c,x)=some (inn c.1 x):=by
 unfold G89 inn;cases decide (0<=x)<;>rfl
end Go.Ve.D


namespace Go.Ve.D
open Go Go.Ve
noncomputable section
theorem Oc{α R:Type}{F:Int×List α->Option (LO (Int×List α) R)}{n K L:Nat}{g:Nat->List α}{id:Nat}(hg: ∀i,i<n->(g i).length<=K)
  (h1: ∀i,i<n->∀acc:List α,acc.length<=L+i*K->F ((i:Int),acc)=some (.next (((i+1:Nat):Int),acc++g i))) (h2: ∀acc:List α,F ((n:Int),acc)=some (.brk id ((n:Int),acc))) (acc0:List α) (h0:acc0.length<=L):
  Ah F ((0:Int),acc0)=some (.brk id ((n:Int),acc0++(List.range n).flatMap g)):=by
 have hl: ∀i,i<=n->(acc0++(List.range i).flatMap g).length<=L+i*K:=by
  intro i
  induction i with
  |zero=>intro _;simpa using h0
  |succ i ih=>
   intro hi;have:=ih (by omega)
   have:=hg i (by omega)
   rw [List.range_succ,List.flatMap_append,<-List.append_assoc,List.length_append];simp only [List.flatMap_cons,List.flatMap_nil,List.append_nil];rw [Nat.succ_mul];omega
 have hst:=A8 (f:=F) (st:=fun i:Nat=>((i:Int),acc0++(List.range i).flatMap g)) (n:=n) (o:=.brk id ((n:Int),acc0++(List.range n).flatMap g)) (fun i hi=>?_) (h2 _) (fun y=>by simp)
 ·simpa using hst
 ·rw [h1 i hi _ (hl i (by omega)),List.range_succ,List.flatMap_append,List.append_assoc]
  simp
theorem HW{α:Type}{g:Nat->List α}{K:Nat}: ∀n,(∀i,i<n->(g i).length<=K)->((List.range n).flatMap g).length<=n*K
 |0,_=>by simp
 |n+1,h=>by
  have:=HW n fun i hi=>h i (by omega)
  have:=h n (by omega)
  rw [List.range_succ,List.flatMap_append,List.length_append,Nat.succ_mul];simp only [List.flatMap_cons,List.flatMap_nil,List.append_nil];omega
theorem O6{α R:Type}{F:(Int×List α)->Option (LO (Int×List α) R)}{n:Nat}{g:Nat->α}{id:Nat}
  (h1: ∀i,i<n->∀acc:List α,acc.length=i->F ((i:Int),acc)=some (.next (((i+1:Nat):Int),acc++ [g i])))
  (h2: ∀acc:List α,F ((n:Int),acc)=some (.brk id ((n:Int),acc))):
  Ah F ((0:Int),[])=some (.brk id ((n:Int),(List.range n).map g)):=by
 refine A8 (st:=fun i:Nat=>((i:Int),(List.range i).map g)) (n:=n) (fun i hi=>?_) (h2 _) (fun y=>by simp)
 rw [h1 i hi _ (by simp),List.range_succ,List.map_append]
 rfl
end
end Go.Ve.D


namespace Go.Ve.D
open Go Go.Ve
noncomputable section
def Hb(r:Bool):Prop:=r=false
theorem C0{s:Int}{R:Type}{bad:R->Prop}{o:Option (LO Int (LO Int R))}{r:R}(h:o=some (.ret (.ret r)))(hb:bad r):Oe (Uo bad) s false o:=Cq ⟨_,h,_,rfl,hb⟩
theorem A5{n:Nat}:decide ((n:Int)<(n:Int))=false:=dF (by omega)
end
end Go.Ve.D


namespace Go.Ve.D
open Go Go.Ve
noncomputable section
theorem idX{c:Cat}(h:Sh c)(hs:HT c=true){x:Nat}(hx:(x:Int)<c.1): ∃a:Nat,a<ar c/\c.2.2.2.1.getD x 0=(a:Int)/\fT c a=(x:Int)/\tT c a=(x:Int):=by
 unfold HT Ht at hs;rw [bAE,bAE,bAE]at hs;obtain⟨a1,a2,a3,a4,a5,a6,a7,a8⟩:=h.hd;have hi:=aET.1 hs.1.2.1 x (List.mem_range.2 (by omega))
 unfold Ws at hi;rw [bAE,decide_eq_true_eq,decide_eq_true_eq]at hi;obtain⟨g1,g2⟩:=Ja a8 (i:=x) (by omega)
 exact⟨(c.2.2.2.1.getD x 0).toNat,by show _<c.2.1.length;omega,by omega,hi⟩
def idA(c:Cat)(x:Nat):Nat:=(c.2.2.2.1.getD x 0).toNat
end
end Go.Ve.D


namespace Go.Ve.D
open Go Go.Ve
noncomputable section
theorem AaH{X R:Type}{f:X->Option (LO X R)}{st:Nat->X}{n:Nat}{p:Nat->Bool}{Q:LO X R->Prop}{o:LO X R}
  (h1: ∀i,i<n->(p i=true->f (st i)=some (.next (st (i+1))))/\(p i=false->∃r,f (st i)=some r/\(∀y,r≠.next y)/\Q r)) (h2:f (st n)=some o) (ho: ∀y,o≠.next y):
  ((List.range n).all p=true->Ah f (st 0)=some o)/\((List.range n).all p=false->∃r,Ah f (st 0)=some r/\Q r):=by
 have fin: ∀x o,f x=some o->(∀y,o≠.next y)->Ah f x=some o:=by
  intro x o h ho;rw [Bg,h];cases o with
  |next y=>exact absurd rfl (ho y)
  |brk id y=>rfl
  |ret r=>rfl
 have key: ∀k i,i+k=n->((List.range' i k).all p=true->Ah f (st i)=some o)/\((List.range' i k).all p=false->∃r,Ah f (st i)=some r/\Q r):=by
  intro k
  induction k with
  |zero=>
   intro i hi;obtain rfl:i=n:=by omega
   exact⟨fun _=>fin _ _ h2 ho,(fun h=>by cases h)⟩
  |succ k ih=>
   intro i hi;rw [List.range'_succ,List.all_cons];obtain⟨g1,g2⟩:=h1 i (by omega)
   cases hp:p i with
   |true=>
    rw [Bool.true_and];have e:Ah f (st i)=Ah f (st (i+1)):=by rw [Bg,g1 hp];rfl
    rw [e];exact ih (i+1) (by omega)
   |false=>
    refine⟨(fun h=>by cases h),fun _=>?_⟩
    obtain⟨r,hr,hn,hq⟩:=g2 hp;exact⟨r,fin _ _ hr hn,hq⟩
 rw [List.range_eq_range'];exact key n 0 (by omega)
def fLO{R R':Type}(g:R->R')(id n:Nat):Option R->LO Int R'
 |some r=>.ret (g r)
 |none=>.brk id (n:Int)
theorem Kl{R R':Type}{f:Int->Option (LO Int R')}{n:Nat}{q:Nat->Option R}(g:R->R'){id:Nat}
  (h1: ∀i,i<n->(q i=none->f (i:Int)=some (.next ((i+1:Nat):Int)))/\(∀r,q i=some r->f (i:Int)=some (.ret (g r)))) (h2:f (n:Int)=some (.brk id (n:Int))):
  Ah f (0:Int)=some (fLO g id n ((List.range n).findSome? q)):=by
 have key: ∀k i,i+k=n->Ah f (i:Int)=some (fLO g id n ((List.range' i k).findSome? q)):=by
  intro k
  induction k with
  |zero=>
   intro i hi;obtain rfl:i=n:=by omega
   rw [Bg,h2];rfl
  |succ k ih=>
   intro i hi;rw [List.range'_succ,List.findSome?_cons];obtain⟨g1,g2⟩:=h1 i (by omega)
   cases hq:q i with
   |none=>
    have e:Ah f (i:Int)=Ah f ((i+1:Nat):Int):=by rw [Bg,g1 hq];rfl
    rw [e];exact ih (i+1) (by omega)
   |some r=>rw [Bg,g2 r hq];rfl
 rw [List.range_eq_range'];exact key n 0 (by omega)
theorem scope{A:Type}{F:Nat×Unit->Option (LO (Nat×Unit) A)}{X:A}(h:F (0,())=some (.ret X)):Option.bind (Ah F (0,())) LO.fin1=some X:=by
 rw [Bg,h];rfl
theorem p43{c:Cat}(hm:c.2.1.length<=1048576)(ht:c.2.2.1.length=c.2.1.length)(x y:Int):G43 (c,(x,y))=some (I5 c x y):=by
 obtain⟨c1,c2,c3,c4,c5⟩:=c;unfold G43;simp only at hm ht⊢;refine As (v:=.brk 0 ((c2.length:Int),I5 (c1,(c2,(c3,(c4,c5)))) x y)) (KT (fun i hi acc ha=>?_) fun acc=>?_) rfl
 ·have hi3:i<c3.length:=by omega
  simp only [Aw,hi,decide_true,cond_true,Ad hi,Ad hi3,if_true,and_self,tNC,List.length_cons,List.length_nil];rw [Az (by omega) (by omega),if_pos (show acc.length+(0+1)<=17592186044416 by omega)]
  show _=some (LO.next (((i+1:Nat):Int),bif decide (c2.getD i 0=x)&&decide (c3.getD i 0=y)then acc++ [(i:Int)]else acc))
  cases decide (c2.getD i 0=x)<;>cases decide (c3.getD i 0=y)<;>rfl
 ·simp only [Aw,Nat.lt_irrefl,decide_false,cond_false]
theorem p48{c:Cat}(hm:c.2.1.length<=1048576)(ht:c.2.2.1.length=c.2.1.length)(x y:Int):G48 (c,(x,y))=some (I5 c x y):=p43 hm ht x y
theorem Wt{c:Cat}{x y:Int}{i:Nat}(hi:i<(I5 c x y).length): ∃f:Nat,f<ar c/\(I5 c x y).getD i 0=(f:Int)/\fT c f=x/\tT c f=y:=by
 have hm:(I5 c x y).getD i 0∈I5 c x y:=BI 0 hi;obtain⟨f,hf,e⟩:=List.mem_map.1 hm;obtain⟨g1,g2⟩:=List.mem_filter.1 hf;rw [bAE,decide_eq_true_eq,decide_eq_true_eq]at g2;exact⟨f,List.mem_range.1 g1,e.symm,g2⟩
end
end Go.Ve.D

