/- What is handed back, told by a property. -/
import Derived.Test.YteakdlfnmhlifaaLa
import Derived.Test.YteakdlfnmhlifaaTr
set_option linter.all false
namespace Go.Ve.D
open Go Go.Ve
variable{b:Bool}{n:Nat}{p:Prop}{R X α A:Type}
def Tot{α:Type}(Q:α->Prop)(o:Option α):Prop:=∃v,o=some v/\Q v
def As{Q:α->Prop}{v:α}(h:Q v):Tot Q (some v):=⟨v,rfl,h⟩
def D4{P:α->Prop}{Q:A->Prop}{o:Option α}{k:α->Option A}(h:Tot P o)(B:∀v,P v->Tot Q (k v)):Tot Q (Option.bind o k):=by
 obtain⟨v,rfl,hv⟩:=h;exact B v hv
def Cz{Q:A->Prop}{o:Option α}{v:α}{k:α->Option A}(h:o=some v)(B:Tot Q (k v)):Tot Q (Option.bind o k):=by
 rw[h];exact B
def AS{Q:α->Prop} [Decidable p]{x y:Option α}(h:p)(B:Tot Q x):Tot Q (if p then x else y):=by rw[if_pos h];exact B
def Cq{Q:α->Prop}{x y:Option α}(F:b=true->Tot Q x)(B:b=false->Tot Q y):Tot Q (bif b then x else y):=by
 cases b with
 |true=>exact F rfl
 |false=>exact B rfl
def Mj{Q:α->Prop}{x y:Option α}(h:b=true)(B:Tot Q x):Tot Q (bif b then x else y):=by rw[h];exact B
def KT{Q:α->Prop}{x y:Option α}(h:b=false)(B:Tot Q y):Tot Q (bif b then x else y):=by rw[h];exact B
def wr1{i:Nat}(h:i<n)(B:n<=1000000000000):IntKind.wrap .i64 ((i:Int)+1)=((i+1:Nat):Int):=by
 rw[AP (by omega) (by omega)];rfl
def LoT{X R:Type}(I:X->Prop)(g:Nat->X->Option R)(Q:R->Prop):LO X R->Prop
 |.next x=>I x
 |.brk id x=>Tot Q (g id x)
 |.ret r=>Q r
def Dk{f:X->Option (LO X R)}{x:X}{n:Nat}{g:Nat->X->Option R}{Q:R->Prop}(I:Nat->X->Prop)(Y:I 0 x)
  (W:∀i,i<n->∀x,I i x->Tot (LoT (I (i+1)) g Q) (f x)) (U:∀x,I n x->Tot (LoT (λ_=>False) g Q) (f x)):Tot Q (Option.bind (Aq f x) (LO.fin g)):=by
 obtain⟨o,F,B⟩:=NJ (f:=f) (I:=I) (Q:=λo=>Tot Q (LO.fin g o)) (n:=n) (x:=x) Y (λi hi x H=>by
  obtain⟨o,F,B⟩:=W i hi x H;cases o with
  |next y=>exact .inl ⟨y,F,B⟩
  |brk id y=>exact .inr ⟨_,F,λy=>by simp,B⟩
  |ret r=>exact .inr ⟨_,F,λy=>by simp,_,rfl,B⟩) (λx H=>by
  obtain⟨o,F,B⟩:=U x H;cases o with
  |next y=>exact B.elim
  |brk id y=>exact⟨_,F,λy=>by simp,B⟩
  |ret r=>exact⟨_,F,λy=>by simp,_,rfl,B⟩)
 rw[F];exact B
def Ww{I:X->Prop}{g:Nat->X->Option R}{Q:R->Prop}{o:Option R}(h:Tot Q o):Tot (LoT I g Q) (Ck o):=by
 obtain⟨v,rfl,hv⟩:=h;exact⟨_,rfl,hv⟩
def AcX [Decidable p](h:decide p=true):p:=of_decide_eq_true h
def AcY [Decidable p](h:decide p=false):¬p:=of_decide_eq_false h
end Go.Ve.D

