/- Plain loops, plain numbers. -/
import Derived.Test.YtlggjlgcmilmhaaTo
import Derived.Laws.Runes
import Derived.Laws.BitsLemmas
import Derived.Test.YtlggjlgcmilmhaaTr
namespace Go.Ve
open Go
variable{a n:Int}{i:Nat}{p:Nat->Bool}{R X:Type}
theorem CG{f:X->Option (LO X R)}{st:Nat->X}{n:Nat}{o:LO X R}(h1: ∀i,i<n->f (st i)=some (.next (st (i+1))))(h2:f (st n)=some o)(ho: ∀y,o≠.next y):Ap f (st 0)=some o:=by
 have key: ∀k i,i+k=n->Ap f (st i)=some o:=by
  intro k
  induction k with
  |zero=>
   intro i hi;obtain rfl:i=n:=by omega
   rw [Bi,h2];cases o with
   |next y=>exact absurd rfl (ho y)
   |brk id y=>rfl
   |ret r=>rfl
  |succ k ih=>
   intro i hi;rw [Bi,h1 i (by omega)]
   exact ih (i+1) (by omega)
 exact key n 0 (by omega)
theorem By{f:X->Option (LO X R)}{st:Nat->X}{n:Nat}{r:R}{o:LO X R}(h1: ∀i,i<n->f (st i)=some (bif p i then .next (st (i+1))else .ret r))(h2:f (st n)=some o)(ho: ∀y,o≠.next y):
  Ap f (st 0)=some (bif(List.range n).all p then o else .ret r):=by
 have key: ∀k i,i+k=n->Ap f (st i)=some (bif(List.range' i k).all p then o else .ret r):=by
  intro k
  induction k with
  |zero=>
   intro i hi;obtain rfl:i=n:=by omega
   rw [Bi,h2];cases o with
   |next y=>exact absurd rfl (ho y)
   |brk id y=>rfl
   |ret r=>rfl
  |succ k ih=>
   intro i hi;rw [Bi,h1 i (by omega),List.range'_succ,List.all_cons]
   cases hp:p i with
   |true=>
    simp only [cond_true,Bool.true_and];exact ih (i+1) (by omega)
   |false=>rfl
 rw [List.range_eq_range'];exact key n 0 (by omega)
theorem Ay(h0:0<=n)(h1:n<9223372036854775808):IntKind.wrap .i64 n=n:=wrap_small n h0 h1
theorem A8{n:Nat}:decide ((i:Int)<(n:Int))=decide (i<n):=by
 rw [Bool.eq_iff_iff];simp
theorem Ab{n:Nat}(h:i<n):((0:Int)<=(i:Int)/\(i:Int)<(n:Int)):=by omega
theorem UW{f:X->Option (LO X R)}{st:Nat->X}{n:Nat}{p:Nat->Bool}{Q:R->Prop}{o:LO X R}
  (h1: ∀i,i<n->(p i=true->f (st i)=some (.next (st (i+1))))/\(p i=false->∃r,f (st i)=some (.ret r)/\Q r)) (h2:f (st n)=some o) (ho: ∀y,o≠.next y):
  ((List.range n).all p=true->Ap f (st 0)=some o)/\((List.range n).all p=false->∃r,Ap f (st 0)=some (.ret r)/\Q r):=by
 have key: ∀k i,i+k=n->((List.range' i k).all p=true->Ap f (st i)=some o)/\((List.range' i k).all p=false->∃r,Ap f (st i)=some (.ret r)/\Q r):=by
  intro k
  induction k with
  |zero=>
   intro i hi;obtain rfl:i=n:=by omega
   refine⟨λ_=>?_,(λh=>by cases h)⟩
   rw [Bi,h2];cases o with
   |next y=>exact absurd rfl (ho y)
   |brk id y=>rfl
   |ret r=>rfl
  |succ k ih=>
   intro i hi;rw [List.range'_succ,List.all_cons];obtain⟨g1,g2⟩:=h1 i (by omega)
   cases hp:p i with
   |true=>
    rw [Bool.true_and];have e:Ap f (st i)=Ap f (st (i+1)):=by rw [Bi,g1 hp];rfl
    rw [e];exact ih (i+1) (by omega)
   |false=>
    refine⟨(λh=>by cases h),λ_=>?_⟩
    obtain⟨r,hr,hq⟩:=g2 hp;exact⟨r,by rw [Bi,hr];rfl,hq⟩
 rw [List.range_eq_range'];exact key n 0 (by omega)
theorem UV{f:X->Option (LO X R)}{I:Nat->X->Prop}{Q:LO X R->Prop}{n:Nat}{x:X}(h0:I 0 x)
  (h1: ∀i,i<n->∀x,I i x->(∃y,f x=some (.next y)/\I (i+1) y)\/∃o,f x=some o/\(∀y,o≠.next y)/\Q o)
  (h2: ∀x,I n x->∃o,f x=some o/\(∀y,o≠.next y)/\Q o): ∃o,Ap f x=some o/\Q o:=by
 have fin: ∀x o,f x=some o->(∀y,o≠.next y)->Ap f x=some o:=by
  intro x o h ho;rw [Bi,h];cases o with
  |next y=>exact absurd rfl (ho y)
  |brk id y=>rfl
  |ret r=>rfl
 have key: ∀k i x,i+k=n->I i x->∃o,Ap f x=some o/\Q o:=by
  intro k
  induction k with
  |zero=>
   intro i x hi hx;obtain rfl:i=n:=by omega
   obtain⟨o,ho,hn,hq⟩:=h2 x hx;exact⟨o,fin x o ho hn,hq⟩
  |succ k ih=>
   intro i x hi hx;rcases h1 i (by omega) x hx with⟨y,hy,hI⟩|⟨o,ho,hn,hq⟩
   ·obtain⟨o,ho,hq⟩:=ih (i+1) y (by omega) hI
    refine⟨o,?_,hq⟩;rw [Bi,hy];exact ho
   ·exact⟨o,fin x o ho hn,hq⟩
 exact key n 0 x (by omega) h0
theorem Zf(h0: -9223372036854775808<=n)(h1:n<=9223372036854775807):IntKind.wrap .i64 n=n:=by
 rw [IntKind.wrap_i64];omega
theorem C7{α:Type}(d:α)(q:α->Bool): ∀x:List α,(List.range x.length).all (λi=>q (x.getD i d))=x.all q
 | []=>rfl
 |a::x=>by
  rw [List.length_cons,List.range_succ_eq_map,List.all_cons,List.all_map,List.all_cons];have:=C7 d q x;simp only [List.getD_cons_zero]
  congr 1
def inn(n a:Int):Bool:=decide (0<=a)&&decide (a<n)
theorem YV(h:a<0):inn n a=false:=by simp [inn];omega
theorem YU(h:n<=a):inn n a=false:=by simp [inn];omega
theorem Aaj(h:0<=a)(h':a<n):inn n a=true:=by simp [inn];omega
def wi(n:Int)(x:List Int):Bool:=x.all (inn n)
theorem Ir:inn n a=true↔0<=a/\a<n:=by simp [inn]
theorem Kq{x:List Int}(h:wi n x=true)(hi:i<x.length):0<=x.getD i 0/\x.getD i 0<n:=by
 rw [gDE,gEE hi];exact Ir.1 (aET.1 h _ (List.getElem_mem hi))
theorem Ag{α β:Type}{a:Option α}{v:α}{k:α->Option β}{r:Option β}(h:a=some v)(h2:k v=r):Option.bind a k=r:=by
 rw [h];exact h2
end Go.Ve


namespace Go.Ve.D
open Go Go.Ve
variable{b:Bool}{n:Nat}{p:Prop}{R X α β:Type}
def Tot{α:Type}(Q:α->Prop)(o:Option α):Prop:=∃v,o=some v/\Q v
theorem Aa{Q:α->Prop}{v:α}(h:Q v):Tot Q (some v):=⟨v,rfl,h⟩
theorem Ai{P:α->Prop}{Q:β->Prop}{o:Option α}{k:α->Option β}(h:Tot P o)(hk: ∀v,P v->Tot Q (k v)):Tot Q (Option.bind o k):=by
 obtain⟨v,rfl,hv⟩:=h;exact hk v hv
theorem AP{Q:β->Prop}{o:Option α}{v:α}{k:α->Option β}(h:o=some v)(hk:Tot Q (k v)):Tot Q (Option.bind o k):=by
 rw [h];exact hk
theorem Ad{Q:α->Prop} [Decidable p]{x y:Option α}(h:p)(hx:Tot Q x):Tot Q (if p then x else y):=by rw [if_pos h];exact hx
theorem Au{Q:α->Prop}{x y:Option α}(h1:b=true->Tot Q x)(h2:b=false->Tot Q y):Tot Q (bif b then x else y):=by
 cases b with
 |true=>exact h1 rfl
 |false=>exact h2 rfl
theorem Bs{Q:α->Prop}{x y:Option α}(h:b=true)(hx:Tot Q x):Tot Q (bif b then x else y):=by rw [h];exact hx
theorem Bd{Q:α->Prop}{x y:Option α}(h:b=false)(hy:Tot Q y):Tot Q (bif b then x else y):=by rw [h];exact hy
theorem ltf:decide ((n:Int)<(n:Int))=false:=dF (by omega)
def LoT{X R:Type}(I:X->Prop)(g:Nat->X->Option R)(Q:R->Prop):LO X R->Prop
 | .next x=>I x
 | .brk id x=>Tot Q (g id x)
 | .ret r=>Q r
theorem AC{f:X->Option (LO X R)}{x:X}{n:Nat}{g:Nat->X->Option R}{Q:R->Prop}(I:Nat->X->Prop)(h0:I 0 x)
  (h1: ∀i,i<n->∀x,I i x->Tot (LoT (I (i+1)) g Q) (f x)) (h2: ∀x,I n x->Tot (LoT (λ_=>False) g Q) (f x)):Tot Q (Option.bind (Ap f x) (LO.fin g)):=by
 obtain⟨o,ho,hq⟩:=UV (f:=f) (I:=I) (Q:=λo=>Tot Q (LO.fin g o)) (n:=n) (x:=x) h0 (λi hi x hx=>by
  obtain⟨o,ho,hq⟩:=h1 i hi x hx;cases o with
  |next y=>exact .inl ⟨y,ho,hq⟩
  |brk id y=>exact .inr ⟨_,ho,λy=>by simp,hq⟩
  |ret r=>exact .inr ⟨_,ho,λy=>by simp,_,rfl,hq⟩) (λx hx=>by
  obtain⟨o,ho,hq⟩:=h2 x hx;cases o with
  |next y=>exact hq.elim
  |brk id y=>exact⟨_,ho,λy=>by simp,hq⟩
  |ret r=>exact⟨_,ho,λy=>by simp,_,rfl,hq⟩)
 rw [ho];exact hq
theorem C4{I:X->Prop}{g:Nat->X->Option R}{Q:R->Prop}{o:Option R}(h:Tot Q o):Tot (LoT I g Q) (BO o):=by
 obtain⟨v,rfl,hv⟩:=h;exact⟨_,rfl,hv⟩
theorem DV [Decidable p](h:decide p=true):p:=of_decide_eq_true h
theorem N6 [Decidable p](h:decide p=false): ¬p:=of_decide_eq_false h
end Go.Ve.D

