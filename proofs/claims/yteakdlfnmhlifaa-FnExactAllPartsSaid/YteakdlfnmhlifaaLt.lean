/- What is handed back, told by a property. -/
import Derived.Test.YteakdlfnmhlifaaLa
import Derived.Test.YteakdlfnmhlifaaTr
set_option linter.all false
namespace Go.Ve.D
open Go Go.Ve
variable{b:Bool}{i n:Nat}{p:Prop}{R X α e:Type}
def Tot{α:Type}(Q:α->Prop)(o:Option α):Prop:=∃v,o=some v/\Q v
def Aa{Q:α->Prop}{v:α}(h:Q v):Tot Q (some v):=⟨v,rfl,h⟩
def AT{P:α->Prop}{Q:e->Prop}{o:Option α}{k:α->Option e}(h:Tot P o)(A:∀v,P v->Tot Q (k v)):Tot Q (Option.bind o k):=by
 obtain⟨v,rfl,u⟩:=h;exact A v u
def Bu{Q:e->Prop}{o:Option α}{v:α}{k:α->Option e}(h:o=some v)(u:Tot Q (k v)):Tot Q (Option.bind o k):=by
 rw[h];exact u
def Ah{Q:α->Prop} [Decidable p]{x y:Option α}(h:p)(u:Tot Q x):Tot Q (if p then x else y):=by rw[if_pos h];exact u
def AX{Q:α->Prop}{x y:Option α}(A:b=true->Tot Q x)(u:b=false->Tot Q y):Tot Q (bif b then x else y):=by
 cases b with
 |true=>exact A rfl
 |false=>exact u rfl
def BC{Q:α->Prop}{x y:Option α}(h:b=true)(u:Tot Q x):Tot Q (bif b then x else y):=by rw[h];exact u
def Bt{Q:α->Prop}{x y:Option α}(h:b=false)(u:Tot Q y):Tot Q (bif b then x else y):=by rw[h];exact u
def ltt(h:i<n):decide ((i:Int)<(n:Int))=true:=dT (by omega)
def ltf:decide ((n:Int)<(n:Int))=false:=dF (by omega)
def wr1(h:i<n)(u:n<=1000000000000):IntKind.wrap .i64 ((i:Int)+1)=((i+1:Nat):Int):=by
 rw[Aw (by omega) (by omega)];rfl
def ZD{P Q:α->Prop}{o:Option α}(h:Tot P o)(u:∀v,P v->Q v):Tot Q o:=by
 obtain⟨v,B,A⟩:=h;exact⟨v,B,u v A⟩
def LoT{X R:Type}(I:X->Prop)(g:Nat->X->Option R)(Q:R->Prop):LO X R->Prop
 |.next x=>I x
 |.brk id x=>Tot Q (g id x)
 |.ret r=>Q r
def AE{f:X->Option (LO X R)}{x:X}{n:Nat}{g:Nat->X->Option R}{Q:R->Prop}(I:Nat->X->Prop)(H:I 0 x)
  (F:∀i,i<n->∀x,I i x->Tot (LoT (I (i+1)) g Q) (f x)) (E:∀x,I n x->Tot (LoT (λ_=>False) g Q) (f x)):Tot Q (Option.bind (Ap f x) (LO.fin g)):=by
 obtain⟨o,A,u⟩:=NV (f:=f) (I:=I) (Q:=λo=>Tot Q (LO.fin g o)) (n:=n) (x:=x) H (λi hi x B=>by
  obtain⟨o,A,u⟩:=F i hi x B;cases o with
  |next y=>exact .inl ⟨y,A,u⟩
  |brk id y=>exact .inr ⟨_,A,λy=>by simp,u⟩
  |ret r=>exact .inr ⟨_,A,λy=>by simp,_,rfl,u⟩) (λx B=>by
  obtain⟨o,A,u⟩:=E x B;cases o with
  |next y=>exact u.elim
  |brk id y=>exact⟨_,A,λy=>by simp,u⟩
  |ret r=>exact⟨_,A,λy=>by simp,_,rfl,u⟩)
 rw[A];exact u
def DL{I:X->Prop}{g:Nat->X->Option R}{Q:R->Prop}{o:Option R}(h:Tot Q o):Tot (LoT I g Q) (BF o):=by
 obtain⟨v,rfl,u⟩:=h;exact⟨_,rfl,u⟩
def Jp [Decidable p](h:decide p=true):p:=of_decide_eq_true h
def KG [Decidable p](h:decide p=false):¬p:=of_decide_eq_false h
end Go.Ve.D

