/- Plain loops, plain numbers. -/
import Derived.Test.YtojjlnbnneemaaaTo
import Derived.Laws.Runes
import Derived.Laws.BitsLemmas
open List(range range' all_cons)
set_option linter.all false
namespace Go.Ve
open Go
variable{a n:Int}{i:Nat}{p:Nat->Bool}{R X:Type}
def AG{f:X->Option (LO X R)}{st:Nat->X}{n:Nat}{o:LO X R}(J:∀i,i<n->f (st i)=some (.next (st (i+1))))(E:f (st n)=some o)(A:∀y,o≠.next y):A4 f (st 0)=some o:=by
 have key:∀k i,i+k=n->A4 f (st i)=some o:=by
  intro k
  induction k with
  |zero=>
   intro i B;obtain rfl:i=n:=by omega
   rw[Bi,E];cases o with
   |next y=>exact absurd rfl (A y)
   |brk id y=>rfl
   |ret r=>rfl
  |succ k u=>
   intro i B;rw[Bi,J i (by omega)]
   exact u (i+1) (by omega)
 exact key n 0 (by omega)
def Cr{f:X->Option (LO X R)}{st:Nat->X}{n:Nat}{r:R}{o:LO X R}(J:∀i,i<n->f (st i)=some (bif p i then .next (st (i+1))else .ret r))(E:f (st n)=some o)(A:∀y,o≠.next y):
  A4 f (st 0)=some (bif(range n).all p then o else .ret r):=by
 have key:∀k i,i+k=n->A4 f (st i)=some (bif(range' i k).all p then o else .ret r):=by
  intro k
  induction k with
  |zero=>
   intro i B;obtain rfl:i=n:=by omega
   rw[Bi,E];cases o with
   |next y=>exact absurd rfl (A y)
   |brk id y=>rfl
   |ret r=>rfl
  |succ k u=>
   intro i B;rw[Bi,J i (by omega),List.range'_succ,all_cons]
   cases O:p i with
   |true=>
    simp only[cond_true,Bool.true_and];exact u (i+1) (by omega)
   |false=>rfl
 rw[List.range_eq_range'];exact key n 0 (by omega)
def Ah(A:0<=n)(u:n<9223372036854775808):IntKind.wrap .i64 n=n:=wrap_small n A u
def Af{n:Nat}:decide ((i:Int)<(n:Int))=decide (i<n):=by
 rw[Bool.eq_iff_iff];simp
def Ac{n:Nat}(h:i<n):((0:Int)<=(i:Int)/\(i:Int)<(n:Int)):=by omega
def VA{f:X->Option (LO X R)}{st:Nat->X}{n:Nat}{p:Nat->Bool}{Q:R->Prop}{o:LO X R}
  (W:∀i,i<n->(p i=true->f (st i)=some (.next (st (i+1))))/\(p i=false->∃r,f (st i)=some (.ret r)/\Q r)) (U:f (st n)=some o) (J:∀y,o≠.next y):
  ((range n).all p=true->A4 f (st 0)=some o)/\((range n).all p=false->∃r,A4 f (st 0)=some (.ret r)/\Q r):=by
 have key:∀k i,i+k=n->((range' i k).all p=true->A4 f (st i)=some o)/\((range' i k).all p=false->∃r,A4 f (st i)=some (.ret r)/\Q r):=by
  intro k
  induction k with
  |zero=>
   intro i O;obtain rfl:i=n:=by omega
   refine⟨λ_=>?_,(λh=>by cases h)⟩
   rw[Bi,U];cases o with
   |next y=>exact absurd rfl (J y)
   |brk id y=>rfl
   |ret r=>rfl
  |succ k A=>
   intro i O;rw[List.range'_succ,all_cons];obtain⟨g1,g2⟩:=W i (by omega)
   cases u:p i with
   |true=>
    rw[Bool.true_and];have e:A4 f (st i)=A4 f (st (i+1)):=by rw[Bi,g1 u];rfl
    rw[e];exact A (i+1) (by omega)
   |false=>
    refine⟨(λh=>by cases h),λ_=>?_⟩
    obtain⟨r,B,E⟩:=g2 u;exact⟨r,by rw[Bi,B];rfl,E⟩
 rw[List.range_eq_range'];exact key n 0 (by omega)
def Jb{f:X->Option (LO X R)}{I:Nat->X->Prop}{Q:LO X R->Prop}{n:Nat}{x:X}(h0:I 0 x)
  (Z:∀i,i<n->∀x,I i x->(∃y,f x=some (.next y)/\I (i+1) y)\/∃o,f x=some o/\(∀y,o≠.next y)/\Q o)
  (Y:∀x,I n x->∃o,f x=some o/\(∀y,o≠.next y)/\Q o):∃o,A4 f x=some o/\Q o:=by
 have fin:∀x o,f x=some o->(∀y,o≠.next y)->A4 f x=some o:=by
  intro x o h u;rw[Bi,h];cases o with
  |next y=>exact absurd rfl (u y)
  |brk id y=>rfl
  |ret r=>rfl
 have key:∀k i x,i+k=n->I i x->∃o,A4 f x=some o/\Q o:=by
  intro k
  induction k with
  |zero=>
   intro i x U B;obtain rfl:i=n:=by omega
   obtain⟨o,u,E,A⟩:=Y x B;exact⟨o,fin x o u E,A⟩
  |succ k J=>
   intro i x U B;rcases Z i (by omega) x B with⟨y,O,W⟩|⟨o,u,E,A⟩
   .obtain⟨o,u,A⟩:=J (i+1) y (by omega) W
    refine⟨o,?_,A⟩;rw[Bi,O];exact u
   .exact⟨o,fin x o u E,A⟩
 exact key n 0 x (by omega) h0
def AaA(A: -9223372036854775808<=n)(u:n<=9223372036854775807):IntKind.wrap .i64 n=n:=by
 rw[IntKind.wrap_i64];omega
def MK{α:Type}(d:α)(q:α->Bool):∀x:List α,(range x.length).all (λi=>q (x.getD i d))=x.all q
 |[]=>rfl
 |a::x=>by
  rw[List.length_cons,List.range_succ_eq_map,all_cons,List.all_map,all_cons];have:=MK d q x;simp only[List.getD_cons_zero]
  congr 1
def inn(n a:Int):Bool:=decide (0<=a)&&decide (a<n)
def Z7(h:a<0):inn n a=false:=by simp[inn];omega
def Z6(h:n<=a):inn n a=false:=by simp[inn];omega
def Xa(h:0<=a)(u:a<n):inn n a=true:=by simp[inn];omega
def wi(n:Int)(x:List Int):Bool:=x.all (inn n)
def Io:inn n a=true↔0<=a/\a<n:=by simp[inn]
def DY{x:List Int}(h:wi n x=true)(u:i<x.length):0<=x.getD i 0/\x.getD i 0<n:=by
 rw[gDE,gEE u];exact Io.1 (aET.1 h _ (List.getElem_mem u))
def Ao{α u:Type}{a:Option α}{v:α}{k:α->Option u}{r:Option u}(h:a=some v)(A:k v=r):Option.bind a k=r:=by
 rw[h];exact A
end Go.Ve

