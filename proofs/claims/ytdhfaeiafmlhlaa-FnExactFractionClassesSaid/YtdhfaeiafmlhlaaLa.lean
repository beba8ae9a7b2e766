/- Plain loops, plain numbers. -/
import Derived.Test.YtdhfaeiafmlhlaaTo
import Derived.Laws.Runes
import Derived.Laws.BitsLemmas
set_option linter.all false
namespace Go.Ve
open Go
variable{a n:Int}{i:Nat}{p:Nat->Bool}{R X α:Type}
def AL{f:X->Option (LO X R)}{st:Nat->X}{n:Nat}{o:LO X R}(E:∀i,i<n->f (st i)=some (.next (st (i+1))))(B:f (st n)=some o)(A:∀y,o≠.next y):Ar f (st 0)=some o:=by
 have key:∀k i,i+k=n->Ar f (st i)=some o:=by
  intro k
  induction k with
  |zero=>
   intro i hi;obtain rfl:i=n:=by omega
   rw[A1,B];cases o with
   |next y=>exact absurd rfl (A y)
   |brk id y=>rfl
   |ret r=>rfl
  |succ k e=>
   intro i hi;rw[A1,E i (by omega)]
   exact e (i+1) (by omega)
 exact key n 0 (by omega)
def Bt{f:X->Option (LO X R)}{st:Nat->X}{n:Nat}{r:R}{o:LO X R}(E:∀i,i<n->f (st i)=some (bif p i then .next (st (i+1))else .ret r))(B:f (st n)=some o)(A:∀y,o≠.next y):
  Ar f (st 0)=some (bif(List.range n).all p then o else .ret r):=by
 have key:∀k i,i+k=n->Ar f (st i)=some (bif(List.range' i k).all p then o else .ret r):=by
  intro k
  induction k with
  |zero=>
   intro i hi;obtain rfl:i=n:=by omega
   rw[A1,B];cases o with
   |next y=>exact absurd rfl (A y)
   |brk id y=>rfl
   |ret r=>rfl
  |succ k e=>
   intro i hi;rw[A1,E i (by omega),List.range'_succ,List.all_cons]
   cases F:p i with
   |true=>
    simp only[cond_true,Bool.true_and];exact e (i+1) (by omega)
   |false=>rfl
 rw[List.range_eq_range'];exact key n 0 (by omega)
def Aj(A:0<=n)(e:n<9223372036854775808):IntKind.wrap .i64 n=n:=wrap_small n A e
def Ad{n:Nat}:decide ((i:Int)<(n:Int))=decide (i<n):=by
 rw[Bool.eq_iff_iff];simp
def Aa{n:Nat}(h:i<n):((0:Int)<=(i:Int)/\(i:Int)<(n:Int)):=by omega
def Jh{x:List α}{y:List α}(d:α)(E:y.length=x.length)(hi:i<x.length):(x.take i++y.drop i).set i (x.getD i d)=x.take (i+1)++y.drop (i+1):=by
 apply List.ext_getElem?;intro j;have A:(x.take i).length=i:=by simp;omega
 by_cases e:j=i
 .subst e
  rw[List.getElem?_set_self (by simp;omega),gAL (by simp;omega),List.getElem?_take_of_lt (by omega)]
  simp[hi]
 .rw[List.getElem?_set_ne (Ne.symm e)]
  by_cases B:j<i
  .rw[gAL (by omega),gAL (by simp;omega),List.getElem?_take_of_lt B,List.getElem?_take_of_lt (by omega)]
  .rw[gAR (by omega),gAR (by simp;omega),A,List.length_take,List.getElem?_drop,List.getElem?_drop]
   congr 1
   omega
def WK{f:X->Option (LO X R)}{st:Nat->X}{n:Nat}{p:Nat->Bool}{Q:R->Prop}{o:LO X R}
  (U:∀i,i<n->(p i=true->f (st i)=some (.next (st (i+1))))/\(p i=false->∃r,f (st i)=some (.ret r)/\Q r)) (O:f (st n)=some o) (J:∀y,o≠.next y):
  ((List.range n).all p=true->Ar f (st 0)=some o)/\((List.range n).all p=false->∃r,Ar f (st 0)=some (.ret r)/\Q r):=by
 have key:∀k i,i+k=n->((List.range' i k).all p=true->Ar f (st i)=some o)/\((List.range' i k).all p=false->∃r,Ar f (st i)=some (.ret r)/\Q r):=by
  intro k
  induction k with
  |zero=>
   intro i hi;obtain rfl:i=n:=by omega
   refine⟨λ_=>?_,(λh=>by cases h)⟩
   rw[A1,O];cases o with
   |next y=>exact absurd rfl (J y)
   |brk id y=>rfl
   |ret r=>rfl
  |succ k B=>
   intro i hi;rw[List.range'_succ,List.all_cons];obtain⟨g1,g2⟩:=U i (by omega)
   cases A:p i with
   |true=>
    rw[Bool.true_and];have e:Ar f (st i)=Ar f (st (i+1)):=by rw[A1,g1 A];rfl
    rw[e];exact B (i+1) (by omega)
   |false=>
    refine⟨(λh=>by cases h),λ_=>?_⟩
    obtain⟨r,E,F⟩:=g2 A;exact⟨r,by rw[A1,E];rfl,F⟩
 rw[List.range_eq_range'];exact key n 0 (by omega)
def JG{f:X->Option (LO X R)}{I:Nat->X->Prop}{Q:LO X R->Prop}{n:Nat}{x:X}(Y:I 0 x)
  (W:∀i,i<n->∀x,I i x->(∃y,f x=some (.next y)/\I (i+1) y)\/∃o,f x=some o/\(∀y,o≠.next y)/\Q o)
  (U:∀x,I n x->∃o,f x=some o/\(∀y,o≠.next y)/\Q o):∃o,Ar f x=some o/\Q o:=by
 have fin:∀x o,f x=some o->(∀y,o≠.next y)->Ar f x=some o:=by
  intro x o h e;rw[A1,h];cases o with
  |next y=>exact absurd rfl (e y)
  |brk id y=>rfl
  |ret r=>rfl
 have key:∀k i x,i+k=n->I i x->∃o,Ar f x=some o/\Q o:=by
  intro k
  induction k with
  |zero=>
   intro i x hi B;obtain rfl:i=n:=by omega
   obtain⟨o,e,E,A⟩:=U x B;exact⟨o,fin x o e E,A⟩
  |succ k F=>
   intro i x hi B;rcases W i (by omega) x B with⟨y,J,O⟩|⟨o,e,E,A⟩
   .obtain⟨o,e,A⟩:=F (i+1) y (by omega) O
    refine⟨o,?_,A⟩;rw[A1,J];exact e
   .exact⟨o,fin x o e E,A⟩
 exact key n 0 x (by omega) Y
def JA(A: -9223372036854775808<=n)(e:n<=9223372036854775807):IntKind.wrap .i64 n=n:=by
 rw[IntKind.wrap_i64];omega
def KP{α:Type}(d:α)(q:α->Bool):∀x:List α,(List.range x.length).all (λi=>q (x.getD i d))=x.all q
 |[]=>rfl
 |a::x=>by
  rw[List.length_cons,List.range_succ_eq_map,List.all_cons,List.all_map,List.all_cons];have:=KP d q x;simp only[List.getD_cons_zero]
  congr 1
def inn(n a:Int):Bool:=decide (0<=a)&&decide (a<n)
def Abi(h:a<0):inn n a=false:=by simp[inn];omega
def Abh(h:n<=a):inn n a=false:=by simp[inn];omega
def inn_t(h:0<=a)(e:a<n):inn n a=true:=by simp[inn];omega
def wi(n:Int)(x:List Int):Bool:=x.all (inn n)
def IJ:inn n a=true↔0<=a/\a<n:=by simp[inn]
def Hx{x:List Int}(h:wi n x=true)(hi:i<x.length):0<=x.getD i 0/\x.getD i 0<n:=by
 rw[gDE,gEE hi];exact IJ.1 (aET.1 h _ (List.getElem_mem hi))
def AC{A:Type}{a:Option α}{v:α}{k:α->Option A}{r:Option A}(h:a=some v)(e:k v=r):Option.bind a k=r:=by
 rw[h];exact e
end Go.Ve

