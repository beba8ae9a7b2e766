/- Plain loops, plain numbers. -/
import Derived.Test.YtmmmafnkggaknaaGreatTo
import Derived.Laws.Runes
import Derived.Laws.BitsLemmas
set_option linter.all false
namespace Go.Ve
open Go
variable{a n:Int}{i:Nat}{p:Nat->Bool}{R X:Type}
def CZ{f:X->Option (LO X R)}{st:Nat->X}{n:Nat}{o:LO X R}(J:∀i,i<n->f (st i)=some (.next (st (i+1))))(E:f (st n)=some o)(A:∀y,o≠.next y):Aj f (st 0)=some o:=by
 have e:∀k i,i+k=n->Aj f (st i)=some o:=by
  intro k
  induction k with
  |zero=>
   intro i B;obtain rfl:i=n:=by omega
   rw[Bu,E];cases o with
   |next y=>exact absurd rfl (A y)
   |brk id y=>rfl
   |ret r=>rfl
  |succ k u=>
   intro i B;rw[Bu,J i (by omega)]
   exact u (i+1) (by omega)
 exact e n 0 (by omega)
def Bq{f:X->Option (LO X R)}{st:Nat->X}{n:Nat}{r:R}{o:LO X R}(J:∀i,i<n->f (st i)=some (bif p i then .next (st (i+1))else .ret r))(E:f (st n)=some o)(A:∀y,o≠.next y):
  Aj f (st 0)=some (bif(List.range n).all p then o else .ret r):=by
 have e:∀k i,i+k=n->Aj f (st i)=some (bif(List.range' i k).all p then o else .ret r):=by
  intro k
  induction k with
  |zero=>
   intro i B;obtain rfl:i=n:=by omega
   rw[Bu,E];cases o with
   |next y=>exact absurd rfl (A y)
   |brk id y=>rfl
   |ret r=>rfl
  |succ k u=>
   intro i B;rw[Bu,J i (by omega),List.range'_succ,List.all_cons]
   cases U:p i with
   |true=>
    simp only[cond_true,Bool.true_and];exact u (i+1) (by omega)
   |false=>rfl
 rw[List.range_eq_range'];exact e n 0 (by omega)
def Ah(u:0<=n)(e:n<9223372036854775808):IntKind.wrap .i64 n=n:=wrap_small n u e
def Am{n:Nat}:decide ((i:Int)<(n:Int))=decide (i<n):=by
 rw[Bool.eq_iff_iff];simp
def Ac{n:Nat}(h:i<n):((0:Int)<=(i:Int)/\(i:Int)<(n:Int)):=by omega
def Uo{f:X->Option (LO X R)}{st:Nat->X}{n:Nat}{p:Nat->Bool}{Q:R->Prop}{o:LO X R}
  (h1:∀i,i<n->(p i=true->f (st i)=some (.next (st (i+1))))/\(p i=false->∃r,f (st i)=some (.ret r)/\Q r)) (Z:f (st n)=some o) (U:∀y,o≠.next y):
  ((List.range n).all p=true->Aj f (st 0)=some o)/\((List.range n).all p=false->∃r,Aj f (st 0)=some (.ret r)/\Q r):=by
 have u:∀k i,i+k=n->((List.range' i k).all p=true->Aj f (st i)=some o)/\((List.range' i k).all p=false->∃r,Aj f (st i)=some (.ret r)/\Q r):=by
  intro k
  induction k with
  |zero=>
   intro i W;obtain rfl:i=n:=by omega
   refine⟨λ_=>?_,(λh=>by cases h)⟩
   rw[Bu,Z];cases o with
   |next y=>exact absurd rfl (U y)
   |brk id y=>rfl
   |ret r=>rfl
  |succ k B=>
   intro i W;rw[List.range'_succ,List.all_cons];obtain⟨g1,g2⟩:=h1 i (by omega)
   cases A:p i with
   |true=>
    rw[Bool.true_and];have e:Aj f (st i)=Aj f (st (i+1)):=by rw[Bu,g1 A];rfl
    rw[e];exact B (i+1) (by omega)
   |false=>
    refine⟨(λh=>by cases h),λ_=>?_⟩
    obtain⟨r,E,J⟩:=g2 A;exact⟨r,by rw[Bu,E];rfl,J⟩
 rw[List.range_eq_range'];exact u n 0 (by omega)
def Un{f:X->Option (LO X R)}{I:Nat->X->Prop}{Q:LO X R->Prop}{n:Nat}{x:X}(h0:I 0 x)
  (h1:∀i,i<n->∀x,I i x->(∃y,f x=some (.next y)/\I (i+1) y)\/∃o,f x=some o/\(∀y,o≠.next y)/\Q o)
  (h2:∀x,I n x->∃o,f x=some o/\(∀y,o≠.next y)/\Q o):∃o,Aj f x=some o/\Q o:=by
 have fin:∀x o,f x=some o->(∀y,o≠.next y)->Aj f x=some o:=by
  intro x o h e;rw[Bu,h];cases o with
  |next y=>exact absurd rfl (e y)
  |brk id y=>rfl
  |ret r=>rfl
 have A:∀k i x,i+k=n->I i x->∃o,Aj f x=some o/\Q o:=by
  intro k
  induction k with
  |zero=>
   intro i x W B;obtain rfl:i=n:=by omega
   obtain⟨o,e,E,u⟩:=h2 x B;exact⟨o,fin x o e E,u⟩
  |succ k J=>
   intro i x W B;rcases h1 i (by omega) x B with⟨y,U,Z⟩|⟨o,e,E,u⟩
   .obtain⟨o,e,u⟩:=J (i+1) y (by omega) Z
    refine⟨o,?_,u⟩;rw[Bu,U];exact e
   .exact⟨o,fin x o e E,u⟩
 exact A n 0 x (by omega) h0
def YS(u: -9223372036854775808<=n)(e:n<=9223372036854775807):IntKind.wrap .i64 n=n:=by
 rw[IntKind.wrap_i64];omega
def Io{α:Type}(d:α)(q:α->Bool):∀x:List α,(List.range x.length).all (λi=>q (x.getD i d))=x.all q
 |[]=>rfl
 |a::x=>by
  rw[List.length_cons,List.range_succ_eq_map,List.all_cons,List.all_map,List.all_cons];have:=Io d q x;simp only[List.getD_cons_zero]
  congr 1
def inn(n a:Int):Bool:=decide (0<=a)&&decide (a<n)
def Yv(h:a<0):inn n a=false:=by simp[inn];omega
def Yu(h:n<=a):inn n a=false:=by simp[inn];omega
def Z6(h:0<=a)(e:a<n):inn n a=true:=by simp[inn];omega
def wi(n:Int)(x:List Int):Bool:=x.all (inn n)
def Ie:inn n a=true↔0<=a/\a<n:=by simp[inn]
def Cx{x:List Int}(h:wi n x=true)(e:i<x.length):0<=x.getD i 0/\x.getD i 0<n:=by
 rw[gDE,gEE e];exact Ie.1 (aET.1 h _ (List.getElem_mem e))
def Ae{α β:Type}{a:Option α}{v:α}{k:α->Option β}{r:Option β}(h:a=some v)(e:k v=r):Option.bind a k=r:=by
 rw[h];exact e
end Go.Ve

