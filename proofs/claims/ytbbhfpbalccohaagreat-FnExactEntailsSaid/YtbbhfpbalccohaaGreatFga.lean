/- Validity, failures, truth: both sides agree. -/
import Derived.Test.YtbbhfpbalccohaaGreatFek
import Derived.Test.YtbbhfpbalccohaaGreatUr7
namespace Go.Ve.D
open Go Go.Ve
noncomputable section
def VJ{R:Type}(o:Option R)(e:LO Int R):LO Int R:=match o with
 |some r=>.ret r
 |none=>e
theorem O7{R:Type}{F:Int->Option (LO Int R)}{n:Nat}{p:Nat->Option R}{id:Nat}(h1: ∀i,i<n->F (i:Int)=some (VJ (p i) (.next ((i+1:Nat):Int))))
  (h2:F (n:Int)=some (.brk id (n:Int))):Ag F (0:Int)=some (VJ ((List.range n).findSome? p) (.brk id (n:Int))):=by
 have key: ∀k i,i+k=n->Ag F (i:Int)=some (VJ ((List.range' i k).findSome? p) (.brk id (n:Int))):=by
  intro k
  induction k with
  |zero=>
   intro i hi;obtain rfl:i=n:=by omega
   exact Jf h2
  |succ k ih=>
   intro i hi;rw [List.range'_succ,List.findSome?_cons];have e:=h1 i (by omega)
   cases hp:p i with
   |some r=>
    rw [hp]at e;exact Je e
   |none=>
    rw [hp]at e;exact Jd e (ih (i+1) (by omega))
 rw [List.range_eq_range'];exact key n 0 (by omega)
def Xv(r:List Bool):Option Nat:=(List.range r.length).findSome? fun n=>bif r.getD n false then none else some n
def L8(v:List (List Bool)):Option (Nat×Nat):=(List.range v.length).findSome? fun x=>(Xv (v.getD x [])).map fun(n:Nat)=>(x,n)
theorem Du{α β:Type}{p:Nat->Option α}{g:α->β}: ∀l:List Nat,l.findSome? (fun i=>(p i).map g)=(l.findSome? p).map g
 | []=>rfl
 |a::l=>by
  rw [List.findSome?_cons,List.findSome?_cons];cases p a with
  |some y=>rfl
  |none=>exact Du l
theorem p76{v:List (List Bool)}(hv:v.length<=1048576)(hr: ∀r∈v,r.length<=1048576):G76 v=some (match L8 v with|some (x,n)=>((x:Int),((n:Int),true))|none=>((0:Int),((0:Int),false))):=by
 have e:=O7 (R:=Int×Int×Bool) (n:=v.length) (p:=fun x=>(Xv (v.getD x [])).map fun(n:Nat)=>((x:Int),((n:Int),true))) (id:=0) (F:=fun(v0:Int)=>(bif(decide (v0<((v.length:Nat):Int)))then(if(((0:Int)<=v0)/\(v0<((v.length:Nat):Int)))then(Option.bind (Ag (fun(v1:Int)=>(bif(decide (v1<(((v.getD (v0).toNat ([]:(List Bool))).length:Nat):Int)))then(if(((0:Int)<=v1)/\(v1<(((v.getD (v0).toNat ([]:(List Bool))).length:Nat):Int)))then(bif(!((v.getD (v0).toNat ([]:(List Bool))).getD (v1).toNat false))then(AM (AM (some (v0,(v1,true)))))else(some (LO.next (IntKind.wrap .i64 (v1+(1:Int))))))else none)else(some (LO.brk 2 v1)))) (0:Int)) (LO.fin fun i1 (v1:Int)=>(if i1=2 then(some (LO.next (IntKind.wrap .i64 (v0+(1:Int)))))else none)))else none)else(some (LO.brk 0 v0))))
  (fun x hx=>?_) (Ad A1 rfl)
 ·refine Aa e ?_
  have em:(List.range v.length).findSome? (fun x=>(Xv (v.getD x [])).map fun(n:Nat)=>((x:Int),((n:Int),true)))=(L8 v).map fun p=>((p.1:Int),((p.2:Int),true)):=by
   unfold L8;rw [<-Du]
   congr 1
   funext x
   cases Xv (v.getD x [])<;>rfl
  rw [em];cases L8 v with
  |none=>rfl
  |some p=>rfl
 ·have hl:=hr _ (As [] hx)
  refine Aj (Cn hx) (Am (Ab hx) ?_);refine Aa (O7 (n:=(v.getD x []).length) (p:=fun n=>bif(v.getD x []).getD n false then none else some (LO.ret ((x:Int),((n:Int),true)))) (id:=2) (fun n hn=>?_) (Ad A1 rfl)) ?_
  ·refine Aj (Cn hn) (Am (Ab hn) ?_)
   show(bif !(v.getD x []).getD n false then _ else _)=some (VJ (bif(v.getD x []).getD n false then none else some (LO.ret ((x:Int),((n:Int),true)))) (LO.next ((n+1:Nat):Int)))
   cases (v.getD x []).getD n false with
   |true=>exact nx0 (wrS (by omega))
   |false=>rfl
  ·have em:(List.range (v.getD x []).length).findSome? (fun n=>bif(v.getD x []).getD n false then none else some (LO.ret ((x:Int),((n:Int),true)):LO Int (Int×Int×Bool)))=(Xv (v.getD x [])).map fun(n:Nat)=>LO.ret ((x:Int),((n:Int),true)):=by
    unfold Xv;rw [<-Du]
    congr 1
    funext n
    cases (v.getD x []).getD n false<;>rfl
   rw [em];show _=some (VJ ((Xv (v.getD x [])).map (fun(n:Nat)=>((x:Int),((n:Int),true)))) (LO.next ((x+1:Nat):Int)))
   cases Xv (v.getD x [])with
   |none=>exact Am rfl (nx0 (wrS (by omega)))
   |some n=>rfl
theorem p76V{S:List SF}{G:List Int}(hs:SK S)(hc:CK S G)(f:Nat->Nat->Bool):G76 (mkV S G f)=some (match L8 (mkV S G f)with|some (x,n)=>((x:Int),((n:Int),true))|none=>((0:Int),((0:Int),false))):=by
 obtain⟨h1,h2⟩:=PD hs hc f;exact p76 (by omega) fun r hr=>by have:=h2 r hr;omega
end
end Go.Ve.D


namespace Go.Ve.D
open Go Go.Ve
noncomputable section
end
end Go.Ve.D

