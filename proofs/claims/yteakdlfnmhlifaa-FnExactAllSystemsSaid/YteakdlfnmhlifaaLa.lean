/- Plain loops, plain numbers. -/
import Derived.Test.YteakdlfnmhlifaaTo
import Derived.Laws.Runes
import Derived.Laws.BitsLemmas
open List(range range' all_cons)
set_option linter.all false
namespace Go.Ve
open Go
variable{a n:Int}{i:Nat}{p:Nat->Bool}{R X α:Type}
def A4{f:X->Option (LO X R)}{st:Nat->X}{n:Nat}{o:LO X R}(H:∀i,i<n->f (st i)=some (.next (st (i+1))))(F:f (st n)=some o)(B:∀y,o≠.next y):Aq f (st 0)=some o:=by
 have key:∀k i,i+k=n->Aq f (st i)=some o:=by
  intro k
  induction k with
  |zero=>
   intro i hi;obtain rfl:i=n:=by omega
   rw[A7,F];cases o with
   |next y=>exact absurd rfl (B y)
   |brk id y=>rfl
   |ret r=>rfl
  |succ k A=>
   intro i hi;rw[A7,H i (by omega)]
   exact A (i+1) (by omega)
 exact key n 0 (by omega)
def BM{f:X->Option (LO X R)}{st:Nat->X}{n:Nat}{r:R}{o:LO X R}(H:∀i,i<n->f (st i)=some (bif p i then .next (st (i+1))else .ret r))(F:f (st n)=some o)(B:∀y,o≠.next y):
  Aq f (st 0)=some (bif(range n).all p then o else .ret r):=by
 have key:∀k i,i+k=n->Aq f (st i)=some (bif(range' i k).all p then o else .ret r):=by
  intro k
  induction k with
  |zero=>
   intro i hi;obtain rfl:i=n:=by omega
   rw[A7,F];cases o with
   |next y=>exact absurd rfl (B y)
   |brk id y=>rfl
   |ret r=>rfl
  |succ k A=>
   intro i hi;rw[A7,H i (by omega),List.range'_succ,all_cons]
   cases U:p i with
   |true=>
    simp only[cond_true,Bool.true_and];exact A (i+1) (by omega)
   |false=>rfl
 rw[List.range_eq_range'];exact key n 0 (by omega)
def AP(B:0<=n)(A:n<9223372036854775808):IntKind.wrap .i64 n=n:=wrap_small n B A
def AQ{n:Nat}:decide ((i:Int)<(n:Int))=decide (i<n):=by
 rw[Bool.eq_iff_iff];simp
def Ab{n:Nat}(h:i<n):((0:Int)<=(i:Int)/\(i:Int)<(n:Int)):=by omega
def Jf{x:List α}{y:List α}(d:α)(H:y.length=x.length)(hi:i<x.length):(x.take i++y.drop i).set i (x.getD i d)=x.take (i+1)++y.drop (i+1):=by
 apply List.ext_getElem?;intro j;have B:(x.take i).length=i:=by simp;omega
 by_cases A:j=i
 .subst A
  rw[List.getElem?_set_self (by simp;omega),gAL (by simp;omega),List.getElem?_take_of_lt (by omega)]
  simp[hi]
 .rw[List.getElem?_set_ne (Ne.symm A)]
  by_cases F:j<i
  .rw[gAL (by omega),gAL (by simp;omega),List.getElem?_take_of_lt F,List.getElem?_take_of_lt (by omega)]
  .rw[gAR (by omega),gAR (by simp;omega),B,List.length_take,List.getElem?_drop,List.getElem?_drop]
   congr 1
   omega
def Wz{f:X->Option (LO X R)}{st:Nat->X}{n:Nat}{p:Nat->Bool}{Q:R->Prop}{o:LO X R}
  (Y:∀i,i<n->(p i=true->f (st i)=some (.next (st (i+1))))/\(p i=false->∃r,f (st i)=some (.ret r)/\Q r)) (W:f (st n)=some o) (U:∀y,o≠.next y):
  ((range n).all p=true->Aq f (st 0)=some o)/\((range n).all p=false->∃r,Aq f (st 0)=some (.ret r)/\Q r):=by
 have key:∀k i,i+k=n->((range' i k).all p=true->Aq f (st i)=some o)/\((range' i k).all p=false->∃r,Aq f (st i)=some (.ret r)/\Q r):=by
  intro k
  induction k with
  |zero=>
   intro i hi;obtain rfl:i=n:=by omega
   refine⟨λ_=>?_,(λh=>by cases h)⟩
   rw[A7,W];cases o with
   |next y=>exact absurd rfl (U y)
   |brk id y=>rfl
   |ret r=>rfl
  |succ k B=>
   intro i hi;rw[List.range'_succ,all_cons];obtain⟨g1,g2⟩:=Y i (by omega)
   cases A:p i with
   |true=>
    rw[Bool.true_and];have e:Aq f (st i)=Aq f (st (i+1)):=by rw[A7,g1 A];rfl
    rw[e];exact B (i+1) (by omega)
   |false=>
    refine⟨(λh=>by cases h),λ_=>?_⟩
    obtain⟨r,F,H⟩:=g2 A;exact⟨r,by rw[A7,F];rfl,H⟩
 rw[List.range_eq_range'];exact key n 0 (by omega)
def NJ{f:X->Option (LO X R)}{I:Nat->X->Prop}{Q:LO X R->Prop}{n:Nat}{x:X}(h0:I 0 x)
  (h1:∀i,i<n->∀x,I i x->(∃y,f x=some (.next y)/\I (i+1) y)\/∃o,f x=some o/\(∀y,o≠.next y)/\Q o)
  (Z:∀x,I n x->∃o,f x=some o/\(∀y,o≠.next y)/\Q o):∃o,Aq f x=some o/\Q o:=by
 have fin:∀x o,f x=some o->(∀y,o≠.next y)->Aq f x=some o:=by
  intro x o h A;rw[A7,h];cases o with
  |next y=>exact absurd rfl (A y)
  |brk id y=>rfl
  |ret r=>rfl
 have key:∀k i x,i+k=n->I i x->∃o,Aq f x=some o/\Q o:=by
  intro k
  induction k with
  |zero=>
   intro i x hi F;obtain rfl:i=n:=by omega
   obtain⟨o,A,H,B⟩:=Z x F;exact⟨o,fin x o A H,B⟩
  |succ k U=>
   intro i x hi F;rcases h1 i (by omega) x F with⟨y,W,Y⟩|⟨o,A,H,B⟩
   .obtain⟨o,A,B⟩:=U (i+1) y (by omega) Y
    refine⟨o,?_,B⟩;rw[A7,W];exact A
   .exact⟨o,fin x o A H,B⟩
 exact key n 0 x (by omega) h0
def Ij(B: -9223372036854775808<=n)(A:n<=9223372036854775807):IntKind.wrap .i64 n=n:=by
 rw[IntKind.wrap_i64];omega
def Dv{α:Type}(d:α)(q:α->Bool):∀x:List α,(range x.length).all (λi=>q (x.getD i d))=x.all q
 |[]=>rfl
 |a::x=>by
  rw[List.length_cons,List.range_succ_eq_map,all_cons,List.all_map,all_cons];have:=Dv d q x;simp only[List.getD_cons_zero]
  congr 1
def inn(n a:Int):Bool:=decide (0<=a)&&decide (a<n)
def Aa7(h:a<0):inn n a=false:=by simp[inn];omega
def Aa6(h:n<=a):inn n a=false:=by simp[inn];omega
def ZY(h:0<=a)(A:a<n):inn n a=true:=by simp[inn];omega
def wi(n:Int)(x:List Int):Bool:=x.all (inn n)
def Kg:inn n a=true↔0<=a/\a<n:=by simp[inn]
def JA{x:List Int}(h:wi n x=true)(hi:i<x.length):0<=x.getD i 0/\x.getD i 0<n:=by
 rw[gDE,gEE hi];exact Kg.1 (aET.1 h _ (List.getElem_mem hi))
def Af{A:Type}{a:Option α}{v:α}{k:α->Option A}{r:Option A}(h:a=some v)(B:k v=r):Option.bind a k=r:=by
 rw[h];exact B
end Go.Ve

