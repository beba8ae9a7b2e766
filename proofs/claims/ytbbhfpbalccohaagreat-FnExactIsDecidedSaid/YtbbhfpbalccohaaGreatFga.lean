/- Validity, failures, truth: both sides agree. -/
import Derived.Test.YtbbhfpbalccohaaGreatFek
import Derived.Test.YtbbhfpbalccohaaGreatUr7
namespace Go.Ve.D
open Go Go.Ve
noncomputable section
def VA{R:Type}(o:Option R)(e:LO Int R):LO Int R:=match o with
 |some r=>.ret r
 |none=>e
theorem OZ{R:Type}{F:Int->Option (LO Int R)}{n:Nat}{p:Nat->Option R}{id:Nat}(h1: ∀i,i<n->F (i:Int)=some (VA (p i) (.next ((i+1:Nat):Int))))
  (h2:F (n:Int)=some (.brk id (n:Int))):Ai F (0:Int)=some (VA ((List.range n).findSome? p) (.brk id (n:Int))):=by
 have key: ∀k i,i+k=n->Ai F (i:Int)=some (VA ((List.range' i k).findSome? p) (.brk id (n:Int))):=by
  intro k
  induction k with
  |zero=>
   intro i hi;obtain rfl:i=n:=by omega
   exact Jb h2
  |succ k ih=>
   intro i hi;rw [List.range'_succ,List.findSome?_cons];have e:=h1 i (by omega)
   cases hp:p i with
   |some r=>
    rw [hp]at e;exact Ja e
   |none=>
    rw [hp]at e;exact I9 e (ih (i+1) (by omega))
 rw [List.range_eq_range'];exact key n 0 (by omega)
def Xk(r:List Bool):Option Nat:=(List.range r.length).findSome? fun n=>bif r.getD n false then none else some n
def L0(v:List (List Bool)):Option (Nat×Nat):=(List.range v.length).findSome? fun x=>(Xk (v.getD x [])).map fun(n:Nat)=>(x,n)
theorem Dq{α β:Type}{p:Nat->Option α}{g:α->β}: ∀l:List Nat,l.findSome? (fun i=>(p i).map g)=(l.findSome? p).map g
 | []=>rfl
 |a::l=>by
  rw [List.findSome?_cons,List.findSome?_cons];cases p a with
  |some y=>rfl
  |none=>exact Dq l
theorem p76{v:List (List Bool)}(hv:v.length<=1048576)(hr: ∀r∈v,r.length<=1048576):G76 v=some (match L0 v with|some (x,n)=>((x:Int),((n:Int),true))|none=>((0:Int),((0:Int),false))):=by
 have e:=OZ (R:=Int×Int×Bool) (n:=v.length) (p:=fun x=>(Xk (v.getD x [])).map fun(n:Nat)=>((x:Int),((n:Int),true))) (id:=0) (F:=fun(v0:Int)=>(bif(decide (v0<((v.length:Nat):Int)))then(if(((0:Int)<=v0)/\(v0<((v.length:Nat):Int)))then(Option.bind (Ai (fun(v1:Int)=>(bif(decide (v1<(((v.getD (v0).toNat ([]:(List Bool))).length:Nat):Int)))then(if(((0:Int)<=v1)/\(v1<(((v.getD (v0).toNat ([]:(List Bool))).length:Nat):Int)))then(bif(!((v.getD (v0).toNat ([]:(List Bool))).getD (v1).toNat false))then(AN (AN (some (v0,(v1,true)))))else(some (LO.next (IntKind.wrap .i64 (v1+(1:Int))))))else none)else(some (LO.brk 2 v1)))) (0:Int)) (LO.fin fun i1 (v1:Int)=>(if i1=2 then(some (LO.next (IntKind.wrap .i64 (v0+(1:Int)))))else none)))else none)else(some (LO.brk 0 v0))))
  (fun x hx=>?_) (Ae Bk rfl)
 ·refine Aa e ?_
  have em:(List.range v.length).findSome? (fun x=>(Xk (v.getD x [])).map fun(n:Nat)=>((x:Int),((n:Int),true)))=(L0 v).map fun p=>((p.1:Int),((p.2:Int),true)):=by
   unfold L0;rw [<-Dq]
   congr 1
   funext x
   cases Xk (v.getD x [])<;>rfl
  rw [em];cases L0 v with
  |none=>rfl
  |some p=>rfl
 ·have hl:=hr _ (AK [] hx)
  refine Aj (C8 hx) (Ao (Ab hx) ?_);refine Aa (OZ (n:=(v.getD x []).length) (p:=fun n=>bif(v.getD x []).getD n false then none else some (LO.ret ((x:Int),((n:Int),true)))) (id:=2) (fun n hn=>?_) (Ae Bk rfl)) ?_
  ·refine Aj (C8 hn) (Ao (Ab hn) ?_)
   show(bif !(v.getD x []).getD n false then _ else _)=some (VA (bif(v.getD x []).getD n false then none else some (LO.ret ((x:Int),((n:Int),true)))) (LO.next ((n+1:Nat):Int)))
   cases (v.getD x []).getD n false with
   |true=>exact nx0 (wrS (by omega))
   |false=>rfl
  ·have em:(List.range (v.getD x []).length).findSome? (fun n=>bif(v.getD x []).getD n false then none else some (LO.ret ((x:Int),((n:Int),true)):LO Int (Int×Int×Bool)))=(Xk (v.getD x [])).map fun(n:Nat)=>LO.ret ((x:Int),((n:Int),true)):=by
    unfold Xk;rw [<-Dq]
    congr 1
    funext n
    cases (v.getD x []).getD n false<;>rfl
   rw [em];show _=some (VA ((Xk (v.getD x [])).map (fun(n:Nat)=>((x:Int),((n:Int),true)))) (LO.next ((x+1:Nat):Int)))
   cases Xk (v.getD x [])with
   |none=>exact Ao rfl (nx0 (wrS (by omega)))
   |some n=>rfl
theorem p76V{S:List SF}{G:List Int}(hs:SK S)(hc:CK S G)(f:Nat->Nat->Bool):G76 (mkV S G f)=some (match L0 (mkV S G f)with|some (x,n)=>((x:Int),((n:Int),true))|none=>((0:Int),((0:Int),false))):=by
 obtain⟨h1,h2⟩:=mkV_ok hs hc f;exact p76 (by omega) fun r hr=>by have:=h2 r hr;omega
end
end Go.Ve.D


namespace Go.Ve.D
open Go Go.Ve
noncomputable section
structure Szs(s:St)(G:List Int)(x:Fl)(r0 r1:Int):Prop where
 g:G.length<=1048576
 e0:G11 (s,1048576)=some r0
 n0: ¬r0<0
 e1:G12 (x,r0)=some r1
 n1: ¬r1<0
 hs:Mb s
 w:wSt s<=1048576
 hx:DI x
 wx:wF x<=1048576
theorem szs_of{s:St}{G:List Int}{x:Fl}(h1:inSt s)(h3:x.length<=maxLen)(h4: ∀k∈x,k.2.2.length<=maxLen)(P:Prop)
  (hG:(1048576:Int)<(G.length:Int)->P) (hA: ¬ (1048576:Int)<(G.length:Int)->∀r0,G11 (s,1048576)=some r0->r0<0->P)
  (hB: ¬ (1048576:Int)<(G.length:Int)->∀r0,G11 (s,1048576)=some r0->¬r0<0->∀r1,G12 (x,r0)=some r1->r1<0->P) (hC: ∀r0 r1,Szs s G x r0 r1->P):P:=by
 by_cases nG:(1048576:Int)<(G.length:Int)
 ·exact hG nG
 obtain⟨r0,e0,f0⟩:=p11 (s:=s) (b:=1048576) (by omega) h1
 by_cases n0:r0<0
 ·exact hA nG r0 e0 n0
 obtain⟨c1,c2,c3,c4⟩:=f0.resolve_left n0;obtain⟨r1,e1,f1⟩:=p12 (x:=x) (b:=r0) ⟨c1,by omega⟩ h3 h4
 by_cases n1:r1<0
 ·exact hB nG r0 e0 n0 r1 e1 n1
 obtain⟨d1,d2,d3,d4⟩:=f1.resolve_left n1;exact hC r0 r1 ⟨by omega,e0,n0,e1,n1,c3,c4,d3,d4⟩
end
end Go.Ve.D

