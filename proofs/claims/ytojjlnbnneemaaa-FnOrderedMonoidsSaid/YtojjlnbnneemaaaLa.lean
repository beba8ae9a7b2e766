/- Plain loops, plain numbers. -/
import Derived.Test.YtojjlnbnneemaaaTo
import Derived.Laws.Runes
import Derived.Laws.BitsLemmas
set_option linter.all false
namespace Go.Ve
open Go
variable{a n:Int}{i:Nat}{p:Nat->Bool}{R X:Type}
def K4{f:X->Option (LO X R)}{st:Nat->X}{n:Nat}{o:LO X R}(E:∀i,i<n->f (st i)=some (.next (st (i+1))))(B:f (st n)=some o)(ho:∀y,o≠.next y):Ar f (st 0)=some o:=by
 have key:∀k i,i+k=n->Ar f (st i)=some o:=by
  intro k
  induction k with
  |zero=>
   intro i A;obtain rfl:i=n:=by omega
   rw[Cg,B];cases o with
   |next y=>exact absurd rfl (ho y)
   |brk id y=>rfl
   |ret r=>rfl
  |succ k e=>
   intro i A;rw[Cg,E i (by omega)]
   exact e (i+1) (by omega)
 exact key n 0 (by omega)
def Di{f:X->Option (LO X R)}{st:Nat->X}{n:Nat}{r:R}{o:LO X R}(E:∀i,i<n->f (st i)=some (bif p i then .next (st (i+1))else .ret r))(B:f (st n)=some o)(ho:∀y,o≠.next y):
  Ar f (st 0)=some (bif(List.range n).all p then o else .ret r):=by
 have key:∀k i,i+k=n->Ar f (st i)=some (bif(List.range' i k).all p then o else .ret r):=by
  intro k
  induction k with
  |zero=>
   intro i A;obtain rfl:i=n:=by omega
   rw[Cg,B];cases o with
   |next y=>exact absurd rfl (ho y)
   |brk id y=>rfl
   |ret r=>rfl
  |succ k e=>
   intro i A;rw[Cg,E i (by omega),List.range'_succ,List.all_cons]
   cases F:p i with
   |true=>
    simp only[cond_true,Bool.true_and];exact e (i+1) (by omega)
   |false=>rfl
 rw[List.range_eq_range'];exact key n 0 (by omega)
def AL(A:0<=n)(e:n<9223372036854775808):IntKind.wrap .i64 n=n:=wrap_small n A e
def A3{n:Nat}:decide ((i:Int)<(n:Int))=decide (i<n):=by
 rw[Bool.eq_iff_iff];simp
def An{n:Nat}(h:i<n):((0:Int)<=(i:Int)/\(i:Int)<(n:Int)):=by omega
def VY{f:X->Option (LO X R)}{st:Nat->X}{n:Nat}{p:Nat->Bool}{Q:R->Prop}{o:LO X R}
  (M:∀i,i<n->(p i=true->f (st i)=some (.next (st (i+1))))/\(p i=false->∃r,f (st i)=some (.ret r)/\Q r)) (L:f (st n)=some o) (ho:∀y,o≠.next y):
  ((List.range n).all p=true->Ar f (st 0)=some o)/\((List.range n).all p=false->∃r,Ar f (st 0)=some (.ret r)/\Q r):=by
 have key:∀k i,i+k=n->((List.range' i k).all p=true->Ar f (st i)=some o)/\((List.range' i k).all p=false->∃r,Ar f (st i)=some (.ret r)/\Q r):=by
  intro k
  induction k with
  |zero=>
   intro i J;obtain rfl:i=n:=by omega
   refine⟨λ_=>?_,(λh=>by cases h)⟩
   rw[Cg,L];cases o with
   |next y=>exact absurd rfl (ho y)
   |brk id y=>rfl
   |ret r=>rfl
  |succ k B=>
   intro i J;rw[List.range'_succ,List.all_cons];obtain⟨g1,g2⟩:=M i (by omega)
   cases A:p i with
   |true=>
    rw[Bool.true_and];have e:Ar f (st i)=Ar f (st (i+1)):=by rw[Cg,g1 A];rfl
    rw[e];exact B (i+1) (by omega)
   |false=>
    refine⟨(λh=>by cases h),λ_=>?_⟩
    obtain⟨r,E,F⟩:=g2 A;exact⟨r,by rw[Cg,E];rfl,F⟩
 rw[List.range_eq_range'];exact key n 0 (by omega)
def VX{f:X->Option (LO X R)}{I:Nat->X->Prop}{Q:LO X R->Prop}{n:Nat}{x:X}(O:I 0 x)
  (M:∀i,i<n->∀x,I i x->(∃y,f x=some (.next y)/\I (i+1) y)\/∃o,f x=some o/\(∀y,o≠.next y)/\Q o)
  (L:∀x,I n x->∃o,f x=some o/\(∀y,o≠.next y)/\Q o):∃o,Ar f x=some o/\Q o:=by
 have fin:∀x o,f x=some o->(∀y,o≠.next y)->Ar f x=some o:=by
  intro x o h ho;rw[Cg,h];cases o with
  |next y=>exact absurd rfl (ho y)
  |brk id y=>rfl
  |ret r=>rfl
 have key:∀k i x,i+k=n->I i x->∃o,Ar f x=some o/\Q o:=by
  intro k
  induction k with
  |zero=>
   intro i x F A;obtain rfl:i=n:=by omega
   obtain⟨o,ho,hn,e⟩:=L x A;exact⟨o,fin x o ho hn,e⟩
  |succ k B=>
   intro i x F A;rcases M i (by omega) x A with⟨y,E,J⟩|⟨o,ho,hn,e⟩
   .obtain⟨o,ho,e⟩:=B (i+1) y (by omega) J
    refine⟨o,?_,e⟩;rw[Cg,E];exact ho
   .exact⟨o,fin x o ho hn,e⟩
 exact key n 0 x (by omega) O
def AaG(A: -9223372036854775808<=n)(e:n<=9223372036854775807):IntKind.wrap .i64 n=n:=by
 rw[IntKind.wrap_i64];omega
def Nd{α:Type}(d:α)(q:α->Bool):∀x:List α,(List.range x.length).all (λi=>q (x.getD i d))=x.all q
 |[]=>rfl
 |a::x=>by
  rw[List.length_cons,List.range_succ_eq_map,List.all_cons,List.all_map,List.all_cons];have:=Nd d q x;simp only[List.getD_cons_zero]
  congr 1
def inn(n a:Int):Bool:=decide (0<=a)&&decide (a<n)
def inn_f1(h:a<0):inn n a=false:=by simp[inn];omega
def inn_f2(h:n<=a):inn n a=false:=by simp[inn];omega
def inn_t(h:0<=a)(e:a<n):inn n a=true:=by simp[inn];omega
def wi(n:Int)(x:List Int):Bool:=x.all (inn n)
def DE:inn n a=true↔0<=a/\a<n:=by simp[inn]
def IZ{x:List Int}(h:wi n x=true)(e:i<x.length):0<=x.getD i 0/\x.getD i 0<n:=by
 rw[gDE,gEE e];exact DE.1 (aET.1 h _ (List.getElem_mem e))
def Cf{α A:Type}{a:Option α}{v:α}{k:α->Option A}{r:Option A}(h:a=some v)(e:k v=r):Option.bind a k=r:=by
 rw[h];exact e
end Go.Ve

