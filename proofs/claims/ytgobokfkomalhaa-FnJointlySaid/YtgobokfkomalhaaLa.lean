/- Plain loops, plain numbers. -/
import Derived.Test.YtgobokfkomalhaaTo
import Derived.Laws.Runes
import Derived.Laws.BitsLemmas
namespace Go.Ve
open Go
variable{a n:Int}{i:Nat}{p:Nat->Bool}{R X:Type}
theorem H4{f:X->Option (LO X R)}{st:Nat->X}{n:Nat}{o:LO X R}(h1: ∀i,i<n->f (st i)=some (.next (st (i+1))))(h2:f (st n)=some o)(ho: ∀y,o≠.next y):Aq f (st 0)=some o:=by
 have key: ∀k i,i+k=n->Aq f (st i)=some o:=by
  intro k
  induction k with
  |zero=>
   intro i hi;obtain rfl:i=n:=by omega
   rw [BK,h2];cases o with
   |next y=>exact absurd rfl (ho y)
   |brk id y=>rfl
   |ret r=>rfl
  |succ k ih=>
   intro i hi;rw [BK,h1 i (by omega)]
   exact ih (i+1) (by omega)
 exact key n 0 (by omega)
theorem BS{f:X->Option (LO X R)}{st:Nat->X}{n:Nat}{r:R}{o:LO X R}(h1: ∀i,i<n->f (st i)=some (bif p i then .next (st (i+1))else .ret r))(h2:f (st n)=some o)(ho: ∀y,o≠.next y):
  Aq f (st 0)=some (bif(List.range n).all p then o else .ret r):=by
 have key: ∀k i,i+k=n->Aq f (st i)=some (bif(List.range' i k).all p then o else .ret r):=by
  intro k
  induction k with
  |zero=>
   intro i hi;obtain rfl:i=n:=by omega
   rw [BK,h2];cases o with
   |next y=>exact absurd rfl (ho y)
   |brk id y=>rfl
   |ret r=>rfl
  |succ k ih=>
   intro i hi;rw [BK,h1 i (by omega),List.range'_succ,List.all_cons]
   cases hp:p i with
   |true=>
    simp only [cond_true,Bool.true_and];exact ih (i+1) (by omega)
   |false=>rfl
 rw [List.range_eq_range'];exact key n 0 (by omega)
theorem Ay(h0:0<=n)(h1:n<9223372036854775808):IntKind.wrap .i64 n=n:=wrap_small n h0 h1
theorem Bh{n:Nat}:decide ((i:Int)<(n:Int))=decide (i<n):=by
 rw [Bool.eq_iff_iff];simp
theorem Ad{n:Nat}(h:i<n):((0:Int)<=(i:Int)/\(i:Int)<(n:Int)):=by omega
theorem US{f:X->Option (LO X R)}{st:Nat->X}{n:Nat}{p:Nat->Bool}{Q:R->Prop}{o:LO X R}
  (h1: ∀i,i<n->(p i=true->f (st i)=some (.next (st (i+1))))/\(p i=false->∃r,f (st i)=some (.ret r)/\Q r)) (h2:f (st n)=some o) (ho: ∀y,o≠.next y):
  ((List.range n).all p=true->Aq f (st 0)=some o)/\((List.range n).all p=false->∃r,Aq f (st 0)=some (.ret r)/\Q r):=by
 have key: ∀k i,i+k=n->((List.range' i k).all p=true->Aq f (st i)=some o)/\((List.range' i k).all p=false->∃r,Aq f (st i)=some (.ret r)/\Q r):=by
  intro k
  induction k with
  |zero=>
   intro i hi;obtain rfl:i=n:=by omega
   refine⟨λ_=>?_,(λh=>by cases h)⟩
   rw [BK,h2];cases o with
   |next y=>exact absurd rfl (ho y)
   |brk id y=>rfl
   |ret r=>rfl
  |succ k ih=>
   intro i hi;rw [List.range'_succ,List.all_cons];obtain⟨g1,g2⟩:=h1 i (by omega)
   cases hp:p i with
   |true=>
    rw [Bool.true_and];have e:Aq f (st i)=Aq f (st (i+1)):=by rw [BK,g1 hp];rfl
    rw [e];exact ih (i+1) (by omega)
   |false=>
    refine⟨(λh=>by cases h),λ_=>?_⟩
    obtain⟨r,hr,hq⟩:=g2 hp;exact⟨r,by rw [BK,hr];rfl,hq⟩
 rw [List.range_eq_range'];exact key n 0 (by omega)
theorem UR{f:X->Option (LO X R)}{I:Nat->X->Prop}{Q:LO X R->Prop}{n:Nat}{x:X}(h0:I 0 x)
  (h1: ∀i,i<n->∀x,I i x->(∃y,f x=some (.next y)/\I (i+1) y)\/∃o,f x=some o/\(∀y,o≠.next y)/\Q o)
  (h2: ∀x,I n x->∃o,f x=some o/\(∀y,o≠.next y)/\Q o): ∃o,Aq f x=some o/\Q o:=by
 have fin: ∀x o,f x=some o->(∀y,o≠.next y)->Aq f x=some o:=by
  intro x o h ho;rw [BK,h];cases o with
  |next y=>exact absurd rfl (ho y)
  |brk id y=>rfl
  |ret r=>rfl
 have key: ∀k i x,i+k=n->I i x->∃o,Aq f x=some o/\Q o:=by
  intro k
  induction k with
  |zero=>
   intro i x hi hx;obtain rfl:i=n:=by omega
   obtain⟨o,ho,hn,hq⟩:=h2 x hx;exact⟨o,fin x o ho hn,hq⟩
  |succ k ih=>
   intro i x hi hx;rcases h1 i (by omega) x hx with⟨y,hy,hI⟩|⟨o,ho,hn,hq⟩
   ·obtain⟨o,ho,hq⟩:=ih (i+1) y (by omega) hI
    refine⟨o,?_,hq⟩;rw [BK,hy];exact ho
   ·exact⟨o,fin x o ho hn,hq⟩
 exact key n 0 x (by omega) h0
theorem Zc(h0: -9223372036854775808<=n)(h1:n<=9223372036854775807):IntKind.wrap .i64 n=n:=by
 rw [IntKind.wrap_i64];omega
theorem O8{α:Type}(d:α)(q:α->Bool): ∀x:List α,(List.range x.length).all (λi=>q (x.getD i d))=x.all q
 | []=>rfl
 |a::x=>by
  rw [List.length_cons,List.range_succ_eq_map,List.all_cons,List.all_map,List.all_cons];have:=O8 d q x;simp only [List.getD_cons_zero]
  congr 1
def inn(n a:Int):Bool:=decide (0<=a)&&decide (a<n)
theorem YQ(h:a<0):inn n a=false:=by simp [inn];omega
theorem YP(h:n<=a):inn n a=false:=by simp [inn];omega
theorem XY(h:0<=a)(h':a<n):inn n a=true:=by simp [inn];omega
def wi(n:Int)(x:List Int):Bool:=x.all (inn n)
theorem JI:inn n a=true↔0<=a/\a<n:=by simp [inn]
theorem Kk{x:List Int}(h:wi n x=true)(hi:i<x.length):0<=x.getD i 0/\x.getD i 0<n:=by
 rw [gDE,gEE hi];exact JI.1 (aET.1 h _ (List.getElem_mem hi))
theorem Ai{α β:Type}{a:Option α}{v:α}{k:α->Option β}{r:Option β}(h:a=some v)(h2:k v=r):Option.bind a k=r:=by
 rw [h];exact h2
end Go.Ve

