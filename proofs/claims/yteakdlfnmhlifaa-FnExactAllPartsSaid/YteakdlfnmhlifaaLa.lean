/- Plain loops, plain numbers. -/
import Derived.Test.YteakdlfnmhlifaaTo
import Derived.Laws.Runes
import Derived.Laws.BitsLemmas
open List(range range' all_cons)
set_option linter.all false
namespace Go.Ve
open Go
variable{a n:Int}{i:Nat}{p:Nat->Bool}{R X α:Type}
def Bi{f:X->Option (LO X R)}{st:Nat->X}{n:Nat}{o:LO X R}(B:∀i,i<n->f (st i)=some (.next (st (i+1))))(A:f (st n)=some o)(u:∀y,o≠.next y):Ap f (st 0)=some o:=by
 have key:∀k i,i+k=n->Ap f (st i)=some o:=by
  intro k
  induction k with
  |zero=>
   intro i hi;obtain rfl:i=n:=by omega
   rw[Bn,A];cases o with
   |next y=>exact absurd rfl (u y)
   |brk id y=>rfl
   |ret r=>rfl
  |succ k e=>
   intro i hi;rw[Bn,B i (by omega)]
   exact e (i+1) (by omega)
 exact key n 0 (by omega)
def BU{f:X->Option (LO X R)}{st:Nat->X}{n:Nat}{r:R}{o:LO X R}(B:∀i,i<n->f (st i)=some (bif p i then .next (st (i+1))else .ret r))(A:f (st n)=some o)(u:∀y,o≠.next y):
  Ap f (st 0)=some (bif(range n).all p then o else .ret r):=by
 have key:∀k i,i+k=n->Ap f (st i)=some (bif(range' i k).all p then o else .ret r):=by
  intro k
  induction k with
  |zero=>
   intro i hi;obtain rfl:i=n:=by omega
   rw[Bn,A];cases o with
   |next y=>exact absurd rfl (u y)
   |brk id y=>rfl
   |ret r=>rfl
  |succ k e=>
   intro i hi;rw[Bn,B i (by omega),List.range'_succ,all_cons]
   cases E:p i with
   |true=>
    simp only[cond_true,Bool.true_and];exact e (i+1) (by omega)
   |false=>rfl
 rw[List.range_eq_range'];exact key n 0 (by omega)
def Aw(u:0<=n)(e:n<9223372036854775808):IntKind.wrap .i64 n=n:=wrap_small n u e
def Ao{n:Nat}:decide ((i:Int)<(n:Int))=decide (i<n):=by
 rw[Bool.eq_iff_iff];simp
def Af{n:Nat}(h:i<n):((0:Int)<=(i:Int)/\(i:Int)<(n:Int)):=by omega
def HN{x:List α}{y:List α}(d:α)(B:y.length=x.length)(hi:i<x.length):(x.take i++y.drop i).set i (x.getD i d)=x.take (i+1)++y.drop (i+1):=by
 apply List.ext_getElem?;intro j;have u:(x.take i).length=i:=by simp;omega
 by_cases e:j=i
 .subst e
  rw[List.getElem?_set_self (by simp;omega),gAL (by simp;omega),List.getElem?_take_of_lt (by omega)]
  simp[hi]
 .rw[List.getElem?_set_ne (Ne.symm e)]
  by_cases A:j<i
  .rw[gAL (by omega),gAL (by simp;omega),List.getElem?_take_of_lt A,List.getElem?_take_of_lt (by omega)]
  .rw[gAR (by omega),gAR (by simp;omega),u,List.length_take,List.getElem?_drop,List.getElem?_drop]
   congr 1
   omega
def W3{f:X->Option (LO X R)}{st:Nat->X}{n:Nat}{p:Nat->Bool}{Q:R->Prop}{o:LO X R}
  (J:∀i,i<n->(p i=true->f (st i)=some (.next (st (i+1))))/\(p i=false->∃r,f (st i)=some (.ret r)/\Q r)) (H:f (st n)=some o) (F:∀y,o≠.next y):
  ((range n).all p=true->Ap f (st 0)=some o)/\((range n).all p=false->∃r,Ap f (st 0)=some (.ret r)/\Q r):=by
 have key:∀k i,i+k=n->((range' i k).all p=true->Ap f (st i)=some o)/\((range' i k).all p=false->∃r,Ap f (st i)=some (.ret r)/\Q r):=by
  intro k
  induction k with
  |zero=>
   intro i hi;obtain rfl:i=n:=by omega
   refine⟨λ_=>?_,(λh=>by cases h)⟩
   rw[Bn,H];cases o with
   |next y=>exact absurd rfl (F y)
   |brk id y=>rfl
   |ret r=>rfl
  |succ k A=>
   intro i hi;rw[List.range'_succ,all_cons];obtain⟨g1,g2⟩:=J i (by omega)
   cases u:p i with
   |true=>
    rw[Bool.true_and];have e:Ap f (st i)=Ap f (st (i+1)):=by rw[Bn,g1 u];rfl
    rw[e];exact A (i+1) (by omega)
   |false=>
    refine⟨(λh=>by cases h),λ_=>?_⟩
    obtain⟨r,B,E⟩:=g2 u;exact⟨r,by rw[Bn,B];rfl,E⟩
 rw[List.range_eq_range'];exact key n 0 (by omega)
def NV{f:X->Option (LO X R)}{I:Nat->X->Prop}{Q:LO X R->Prop}{n:Nat}{x:X}(U:I 0 x)
  (O:∀i,i<n->∀x,I i x->(∃y,f x=some (.next y)/\I (i+1) y)\/∃o,f x=some o/\(∀y,o≠.next y)/\Q o)
  (J:∀x,I n x->∃o,f x=some o/\(∀y,o≠.next y)/\Q o):∃o,Ap f x=some o/\Q o:=by
 have fin:∀x o,f x=some o->(∀y,o≠.next y)->Ap f x=some o:=by
  intro x o h e;rw[Bn,h];cases o with
  |next y=>exact absurd rfl (e y)
  |brk id y=>rfl
  |ret r=>rfl
 have key:∀k i x,i+k=n->I i x->∃o,Ap f x=some o/\Q o:=by
  intro k
  induction k with
  |zero=>
   intro i x hi A;obtain rfl:i=n:=by omega
   obtain⟨o,e,B,u⟩:=J x A;exact⟨o,fin x o e B,u⟩
  |succ k E=>
   intro i x hi A;rcases O i (by omega) x A with⟨y,F,H⟩|⟨o,e,B,u⟩
   .obtain⟨o,e,u⟩:=E (i+1) y (by omega) H
    refine⟨o,?_,u⟩;rw[Bn,F];exact e
   .exact⟨o,fin x o e B,u⟩
 exact key n 0 x (by omega) U
def Is(u: -9223372036854775808<=n)(e:n<=9223372036854775807):IntKind.wrap .i64 n=n:=by
 rw[IntKind.wrap_i64];omega
def K0{α:Type}(d:α)(q:α->Bool):∀x:List α,(range x.length).all (λi=>q (x.getD i d))=x.all q
 |[]=>rfl
 |a::x=>by
  rw[List.length_cons,List.range_succ_eq_map,all_cons,List.all_map,all_cons];have:=K0 d q x;simp only[List.getD_cons_zero]
  congr 1
def inn(n a:Int):Bool:=decide (0<=a)&&decide (a<n)
def AbA(h:a<0):inn n a=false:=by simp[inn];omega
def Abz(h:n<=a):inn n a=false:=by simp[inn];omega
def inn_t(h:0<=a)(e:a<n):inn n a=true:=by simp[inn];omega
def wi(n:Int)(x:List Int):Bool:=x.all (inn n)
def Kq:inn n a=true↔0<=a/\a<n:=by simp[inn]
def Hq{x:List Int}(h:wi n x=true)(hi:i<x.length):0<=x.getD i 0/\x.getD i 0<n:=by
 rw[gDE,gEE hi];exact Kq.1 (aET.1 h _ (List.getElem_mem hi))
def A6{u:Type}{a:Option α}{v:α}{k:α->Option u}{r:Option u}(h:a=some v)(e:k v=r):Option.bind a k=r:=by
 rw[h];exact e
end Go.Ve

