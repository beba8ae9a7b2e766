/- What is handed back, told by a property. -/
import Derived.Test.YtojjlnbnneemaaaLa
import Derived.Test.YtojjlnbnneemaaaTr
set_option linter.all false
namespace Go.Ve.D
open Go Go.Ve
variable{b:Bool}{i n:Nat}{p:Prop}{R X α e:Type}
def Tot{α:Type}(Q:α->Prop)(o:Option α):Prop:=∃v,o=some v/\Q v
def Aa{Q:α->Prop}{v:α}(h:Q v):Tot Q (some v):=⟨v,rfl,h⟩
def Ah{P:α->Prop}{Q:e->Prop}{o:Option α}{k:α->Option e}(h:Tot P o)(B:∀v,P v->Tot Q (k v)):Tot Q (Option.bind o k):=by
 obtain⟨v,rfl,A⟩:=h;exact B v A
def AI{Q:e->Prop}{o:Option α}{v:α}{k:α->Option e}(h:o=some v)(A:Tot Q (k v)):Tot Q (Option.bind o k):=by
 rw[h];exact A
def Ab{Q:α->Prop} [Decidable p]{x y:Option α}(h:p)(A:Tot Q x):Tot Q (if p then x else y):=by rw[if_pos h];exact A
def Ak{Q:α->Prop}{x y:Option α}(B:b=true->Tot Q x)(A:b=false->Tot Q y):Tot Q (bif b then x else y):=by
 cases b with
 |true=>exact B rfl
 |false=>exact A rfl
def AY{Q:α->Prop}{x y:Option α}(h:b=true)(A:Tot Q x):Tot Q (bif b then x else y):=by rw[h];exact A
def AH{Q:α->Prop}{x y:Option α}(h:b=false)(A:Tot Q y):Tot Q (bif b then x else y):=by rw[h];exact A
def ltt(h:i<n):decide ((i:Int)<(n:Int))=true:=dT (by omega)
def ltf:decide ((n:Int)<(n:Int))=false:=dF (by omega)
def wr1(h:i<n)(hn:n<=1000000000000):IntKind.wrap .i64 ((i:Int)+1)=((i+1:Nat):Int):=by
 rw[AL (by omega) (by omega)];rfl
def L3{P Q:α->Prop}{o:Option α}(h:Tot P o)(A:∀v,P v->Q v):Tot Q o:=by
 obtain⟨v,E,B⟩:=h;exact⟨v,E,A v B⟩
def LoT{X R:Type}(I:X->Prop)(g:Nat->X->Option R)(Q:R->Prop):LO X R->Prop
 |.next x=>I x
 |.brk id x=>Tot Q (g id x)
 |.ret r=>Q r
def Ao{f:X->Option (LO X R)}{x:X}{n:Nat}{g:Nat->X->Option R}{Q:R->Prop}(I:Nat->X->Prop)(L:I 0 x)
  (J:∀i,i<n->∀x,I i x->Tot (LoT (I (i+1)) g Q) (f x)) (F:∀x,I n x->Tot (LoT (λ_=>False) g Q) (f x)):Tot Q (Option.bind (Ar f x) (LO.fin g)):=by
 obtain⟨o,ho,A⟩:=VX (f:=f) (I:=I) (Q:=λo=>Tot Q (LO.fin g o)) (n:=n) (x:=x) L (λi E x B=>by
  obtain⟨o,ho,A⟩:=J i E x B;cases o with
  |next y=>exact .inl ⟨y,ho,A⟩
  |brk id y=>exact .inr ⟨_,ho,λy=>by simp,A⟩
  |ret r=>exact .inr ⟨_,ho,λy=>by simp,_,rfl,A⟩) (λx B=>by
  obtain⟨o,ho,A⟩:=F x B;cases o with
  |next y=>exact A.elim
  |brk id y=>exact⟨_,ho,λy=>by simp,A⟩
  |ret r=>exact⟨_,ho,λy=>by simp,_,rfl,A⟩)
 rw[ho];exact A
def A4{I:X->Prop}{g:Nat->X->Option R}{Q:R->Prop}{o:Option R}(h:Tot Q o):Tot (LoT I g Q) (BA o):=by
 obtain⟨v,rfl,A⟩:=h;exact⟨_,rfl,A⟩
def Bz [Decidable p](h:decide p=true):p:=of_decide_eq_true h
def DF [Decidable p](h:decide p=false):¬p:=of_decide_eq_false h
end Go.Ve.D

