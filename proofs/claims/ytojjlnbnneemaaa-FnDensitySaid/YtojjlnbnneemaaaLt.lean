/- What is handed back, told by a property. -/
import Derived.Test.YtojjlnbnneemaaaLa
import Derived.Test.YtojjlnbnneemaaaTr
set_option linter.all false
namespace Go.Ve.D
open Go Go.Ve
variable{b:Bool}{n:Nat}{p:Prop}{R X α u:Type}
def Tot{α:Type}(Q:α->Prop)(o:Option α):Prop:=∃v,o=some v/\Q v
def Aa{Q:α->Prop}{v:α}(h:Q v):Tot Q (some v):=⟨v,rfl,h⟩
def Ad{P:α->Prop}{Q:u->Prop}{o:Option α}{k:α->Option u}(h:Tot P o)(B:∀v,P v->Tot Q (k v)):Tot Q (Option.bind o k):=by
 obtain⟨v,rfl,A⟩:=h;exact B v A
def Bh{Q:u->Prop}{o:Option α}{v:α}{k:α->Option u}(h:o=some v)(A:Tot Q (k v)):Tot Q (Option.bind o k):=by
 rw[h];exact A
def Ab{Q:α->Prop} [Decidable p]{x y:Option α}(h:p)(A:Tot Q x):Tot Q (if p then x else y):=by rw[if_pos h];exact A
def An{Q:α->Prop}{x y:Option α}(B:b=true->Tot Q x)(A:b=false->Tot Q y):Tot Q (bif b then x else y):=by
 cases b with
 |true=>exact B rfl
 |false=>exact A rfl
def A5{Q:α->Prop}{x y:Option α}(h:b=true)(A:Tot Q x):Tot Q (bif b then x else y):=by rw[h];exact A
def A8{Q:α->Prop}{x y:Option α}(h:b=false)(A:Tot Q y):Tot Q (bif b then x else y):=by rw[h];exact A
def ltf:decide ((n:Int)<(n:Int))=false:=dF (by omega)
def Yf{P Q:α->Prop}{o:Option α}(h:Tot P o)(A:∀v,P v->Q v):Tot Q o:=by
 obtain⟨v,E,B⟩:=h;exact⟨v,E,A v B⟩
def LoT{X R:Type}(I:X->Prop)(g:Nat->X->Option R)(Q:R->Prop):LO X R->Prop
 |.next x=>I x
 |.brk id x=>Tot Q (g id x)
 |.ret r=>Q r
def Au{f:X->Option (LO X R)}{x:X}{n:Nat}{g:Nat->X->Option R}{Q:R->Prop}(I:Nat->X->Prop)(W:I 0 x)
  (U:∀i,i<n->∀x,I i x->Tot (LoT (I (i+1)) g Q) (f x)) (O:∀x,I n x->Tot (LoT (λ_=>False) g Q) (f x)):Tot Q (Option.bind (A4 f x) (LO.fin g)):=by
 obtain⟨o,B,A⟩:=Jb (f:=f) (I:=I) (Q:=λo=>Tot Q (LO.fin g o)) (n:=n) (x:=x) W (λi J x E=>by
  obtain⟨o,B,A⟩:=U i J x E;cases o with
  |next y=>exact .inl ⟨y,B,A⟩
  |brk id y=>exact .inr ⟨_,B,λy=>by simp,A⟩
  |ret r=>exact .inr ⟨_,B,λy=>by simp,_,rfl,A⟩) (λx E=>by
  obtain⟨o,B,A⟩:=O x E;cases o with
  |next y=>exact A.elim
  |brk id y=>exact⟨_,B,λy=>by simp,A⟩
  |ret r=>exact⟨_,B,λy=>by simp,_,rfl,A⟩)
 rw[B];exact A
def H6{I:X->Prop}{g:Nat->X->Option R}{Q:R->Prop}{o:Option R}(h:Tot Q o):Tot (LoT I g Q) (Ck o):=by
 obtain⟨v,rfl,A⟩:=h;exact⟨_,rfl,A⟩
def B3 [Decidable p](h:decide p=true):p:=of_decide_eq_true h
def JW [Decidable p](h:decide p=false):¬p:=of_decide_eq_false h
end Go.Ve.D

