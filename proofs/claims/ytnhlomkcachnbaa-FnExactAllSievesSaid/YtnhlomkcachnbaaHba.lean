/- Set functors: what makes them. -/
import Derived.Test.YtnhlomkcachnbaaHaa
namespace Go.Ve.D
open Go Go.Ve
theorem chk2{R S:Type}{F:Int->Option (LO Int R)}{n:Nat}{p:Nat->Bool}{Q:R->Prop}{o:LO Int R}{k:LO Int R->Option S}{Post:Bool->Option S->Prop}
  (h1: ∀i,i<n->(p i=true->F (i:Int)=some (.next ((i+1:Nat):Int)))/\(p i=false->∃r,F (i:Int)=some (.ret r)/\Q r)) (h2:F (n:Int)=some o) (ho: ∀y,o≠.next y)
  (hA:Post true (k o)) (hB: ∀r,Q r->Post false (k (.ret r))):Post ((List.range n).all p) (Option.bind (Au F (0:Int)) k):=by
 refine BL (st:=fun i:Nat=>(i:Int)) (p:=p) (Q:=Q) (o:=o) (Post:=fun x=>Post ((List.range n).all p) x) h1 h2 ho (fun hall=>?_) (fun hall r hr=>?_)
 ·rw [hall];exact hA
 ·rw [hall];exact hB r hr
def inn1{R:Type}(bad:R->Prop)(s:Int)(p:Bool)(o:Option (LO Int R)):Prop:=(p=true->o=some (.next s))/\(p=false->∃r,o=some (.ret r)/\bad r)
theorem chkT{R:Type}{bad:R->Prop}{F:Int->Option (LO Int R)}{n:Nat}{p:Nat->Bool}{id:Nat}{g:Nat->Int->Option R}{Post:Bool->Option R->Prop}
  (h1: ∀i,i<n->inn1 bad ((i+1:Nat):Int) (p i) (F (i:Int))) (h2:F (n:Int)=some (.brk id (n:Int))) (hA:Post true (g id (n:Int))) (hB: ∀r,bad r->Post false (some r)):
  Post ((List.range n).all p) (Option.bind (Au F (0:Int)) (LO.fin g)):=
 chk2 (Q:=bad) h1 h2 (fun y=>by simp) hA fun r hr=>hB r hr
theorem inn1_t{R:Type}{bad:R->Prop}{s:Int}{o:Option (LO Int R)}(h:o=some (.next s)):inn1 bad s true o:=⟨fun _=>h,(fun h=>by cases h)⟩
theorem inn1_f{R:Type}{bad:R->Prop}{s:Int}{o:Option (LO Int R)}(h: ∃r,o=some (.ret r)/\bad r):inn1 bad s false o:=⟨(fun h=>by cases h),fun _=>h⟩
abbrev SF:=Int×List Int×List Int×List Int×List (List Int)×List Int×List (List Int)
def szF(f:SF):List Int:=f.2.2.2.2.2.1
def sz(f:SF)(x:Int):Int:=(szF f).getD x.toNat 0
end Go.Ve.D


namespace Go.Ve.D
open Go Go.Ve
end Go.Ve.D

