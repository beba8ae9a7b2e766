/- Plain loops, plain numbers. -/
import Derived.Test.YtcpgmjbppfdjbaaDoorTo
import Derived.Laws.Runes
import Derived.Laws.BitsLemmas
namespace Go.Ve
open Go
variable{a n:Int}{i:Nat}{R X α:Type}
theorem AaF{f:X->Option (LO X R)}{st:Nat->X}{n:Nat}{o:LO X R}(h1: ∀i,i<n->f (st i)=some (.next (st (i+1))))(h2:f (st n)=some o)(ho: ∀y,o≠.next y):A3 f (st 0)=some o:=by
 have key: ∀k i,i+k=n->A3 f (st i)=some o:=by
  intro k
  induction k with
  |zero=>
   intro i hi;obtain rfl:i=n:=by omega
   rw [Dz,h2];cases o with
   |next y=>exact absurd rfl (ho y)
   |brk id y=>rfl
   |ret r=>rfl
  |succ k ih=>
   intro i hi;rw [Dz,h1 i (by omega)]
   exact ih (i+1) (by omega)
 exact key n 0 (by omega)
theorem Dd{f:X->Option (LO X R)}{st:Nat->X}{n:Nat}{p:Nat->Bool}{r:R}{o:LO X R}(h1: ∀i,i<n->f (st i)=some (bif p i then .next (st (i+1))else .ret r))(h2:f (st n)=some o)(ho: ∀y,o≠.next y):
  A3 f (st 0)=some (bif(List.range n).all p then o else .ret r):=by
 have key: ∀k i,i+k=n->A3 f (st i)=some (bif(List.range' i k).all p then o else .ret r):=by
  intro k
  induction k with
  |zero=>
   intro i hi;obtain rfl:i=n:=by omega
   rw [Dz,h2];cases o with
   |next y=>exact absurd rfl (ho y)
   |brk id y=>rfl
   |ret r=>rfl
  |succ k ih=>
   intro i hi;rw [Dz,h1 i (by omega),List.range'_succ,List.all_cons]
   cases hp:p i with
   |true=>
    simp only [cond_true,Bool.true_and];exact ih (i+1) (by omega)
   |false=>rfl
 rw [List.range_eq_range'];exact key n 0 (by omega)
theorem Zg(h0:0<=n)(h1:n<9223372036854775808):IntKind.wrap .i64 n=n:=wrap_small n h0 h1
theorem AQ{n:Nat}(h:i<n):((0:Int)<=(i:Int)/\(i:Int)<(n:Int)):=by omega
theorem Lk{x:List α}{y:List α}(d:α)(hy:y.length=x.length)(hi:i<x.length):(x.take i++y.drop i).set i (x.getD i d)=x.take (i+1)++y.drop (i+1):=by
 apply List.ext_getElem?;intro j;have hl:(x.take i).length=i:=by simp;omega
 by_cases h1:j=i
 ·subst h1
  rw [List.getElem?_set_self (by simp;omega),gAL (by simp;omega),List.getElem?_take_of_lt (by omega)]
  simp [hi]
 ·rw [List.getElem?_set_ne (Ne.symm h1)]
  by_cases h2:j<i
  ·rw [gAL (by omega),gAL (by simp;omega),List.getElem?_take_of_lt h2,List.getElem?_take_of_lt (by omega)]
  ·rw [gAR (by omega),gAR (by simp;omega),hl,List.length_take,List.getElem?_drop,List.getElem?_drop]
   congr 1
   omega
theorem UY{f:X->Option (LO X R)}{I:Nat->X->Prop}{Q:LO X R->Prop}{n:Nat}{x:X}(h0:I 0 x)
  (h1: ∀i,i<n->∀x,I i x->(∃y,f x=some (.next y)/\I (i+1) y)\/∃o,f x=some o/\(∀y,o≠.next y)/\Q o)
  (h2: ∀x,I n x->∃o,f x=some o/\(∀y,o≠.next y)/\Q o): ∃o,A3 f x=some o/\Q o:=by
 have fin: ∀x o,f x=some o->(∀y,o≠.next y)->A3 f x=some o:=by
  intro x o h ho;rw [Dz,h];cases o with
  |next y=>exact absurd rfl (ho y)
  |brk id y=>rfl
  |ret r=>rfl
 have key: ∀k i x,i+k=n->I i x->∃o,A3 f x=some o/\Q o:=by
  intro k
  induction k with
  |zero=>
   intro i x hi hx;obtain rfl:i=n:=by omega
   obtain⟨o,ho,hn,hq⟩:=h2 x hx;exact⟨o,fin x o ho hn,hq⟩
  |succ k ih=>
   intro i x hi hx;rcases h1 i (by omega) x hx with⟨y,hy,hI⟩|⟨o,ho,hn,hq⟩
   ·obtain⟨o,ho,hq⟩:=ih (i+1) y (by omega) hI
    refine⟨o,?_,hq⟩;rw [Dz,hy];exact ho
   ·exact⟨o,fin x o ho hn,hq⟩
 exact key n 0 x (by omega) h0
theorem UO(h0: -9223372036854775808<=n)(h1:n<=9223372036854775807):IntKind.wrap .i64 n=n:=by
 rw [IntKind.wrap_i64];omega
theorem Ie{α:Type}(d:α)(q:α->Bool): ∀x:List α,(List.range x.length).all (λi=>q (x.getD i d))=x.all q
 | []=>rfl
 |a::x=>by
  rw [List.length_cons,List.range_succ_eq_map,List.all_cons,List.all_map,List.all_cons];have:=Ie d q x;simp only [List.getD_cons_zero]
  congr 1
def inn(n a:Int):Bool:=decide (0<=a)&&decide (a<n)
theorem inn_f1(h:a<0):inn n a=false:=by simp [inn];omega
theorem inn_f2(h:n<=a):inn n a=false:=by simp [inn];omega
theorem inn_t(h:0<=a)(h':a<n):inn n a=true:=by simp [inn];omega
def wi(n:Int)(x:List Int):Bool:=x.all (inn n)
theorem OV:inn n a=true↔0<=a/\a<n:=by simp [inn]
theorem Ax{β:Type}{a:Option α}{v:α}{k:α->Option β}{r:Option β}(h:a=some v)(h2:k v=r):Option.bind a k=r:=by
 rw [h];exact h2
end Go.Ve

