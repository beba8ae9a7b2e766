/- What is handed back, told by a property. -/
import Derived.Test.YtmmmafnkggaknaaGreatLa
import Derived.Test.YtmmmafnkggaknaaGreatTr
set_option linter.all false
namespace Go.Ve.D
open Go Go.Ve
variable{b:Bool}{n:Nat}{p:Prop}{R X α β:Type}
def Tot{α:Type}(Q:α->Prop)(o:Option α):Prop:=∃v,o=some v/\Q v
def Aa{Q:α->Prop}{v:α}(h:Q v):Tot Q (some v):=⟨v,rfl,h⟩
def Ad{P:α->Prop}{Q:β->Prop}{o:Option α}{k:α->Option β}(h:Tot P o)(u:∀v,P v->Tot Q (k v)):Tot Q (Option.bind o k):=by
 obtain⟨v,rfl,e⟩:=h;exact u v e
def A7{Q:β->Prop}{o:Option α}{v:α}{k:α->Option β}(h:o=some v)(e:Tot Q (k v)):Tot Q (Option.bind o k):=by
 rw[h];exact e
def Ab{Q:α->Prop} [Decidable p]{x y:Option α}(h:p)(e:Tot Q x):Tot Q (if p then x else y):=by rw[if_pos h];exact e
def Ak{Q:α->Prop}{x y:Option α}(u:b=true->Tot Q x)(e:b=false->Tot Q y):Tot Q (bif b then x else y):=by
 cases b with
 |true=>exact u rfl
 |false=>exact e rfl
def AU{Q:α->Prop}{x y:Option α}(h:b=true)(e:Tot Q x):Tot Q (bif b then x else y):=by rw[h];exact e
def AW{Q:α->Prop}{x y:Option α}(h:b=false)(e:Tot Q y):Tot Q (bif b then x else y):=by rw[h];exact e
def ltf:decide ((n:Int)<(n:Int))=false:=dF (by omega)
def WO{P Q:α->Prop}{o:Option α}(h:Tot P o)(e:∀v,P v->Q v):Tot Q o:=by
 obtain⟨v,A,u⟩:=h;exact⟨v,A,e v u⟩
def LoT{X R:Type}(I:X->Prop)(g:Nat->X->Option R)(Q:R->Prop):LO X R->Prop
 |.next x=>I x
 |.brk id x=>Tot Q (g id x)
 |.ret r=>Q r
def As{f:X->Option (LO X R)}{x:X}{n:Nat}{g:Nat->X->Option R}{Q:R->Prop}(I:Nat->X->Prop)(U:I 0 x)
  (J:∀i,i<n->∀x,I i x->Tot (LoT (I (i+1)) g Q) (f x)) (E:∀x,I n x->Tot (LoT (λ_=>False) g Q) (f x)):Tot Q (Option.bind (Aj f x) (LO.fin g)):=by
 obtain⟨o,u,e⟩:=Un (f:=f) (I:=I) (Q:=λo=>Tot Q (LO.fin g o)) (n:=n) (x:=x) U (λi B x A=>by
  obtain⟨o,u,e⟩:=J i B x A;cases o with
  |next y=>exact .inl ⟨y,u,e⟩
  |brk id y=>exact .inr ⟨_,u,λy=>by simp,e⟩
  |ret r=>exact .inr ⟨_,u,λy=>by simp,_,rfl,e⟩) (λx A=>by
  obtain⟨o,u,e⟩:=E x A;cases o with
  |next y=>exact e.elim
  |brk id y=>exact⟨_,u,λy=>by simp,e⟩
  |ret r=>exact⟨_,u,λy=>by simp,_,rfl,e⟩)
 rw[u];exact e
def DZ{I:X->Prop}{g:Nat->X->Option R}{Q:R->Prop}{o:Option R}(h:Tot Q o):Tot (LoT I g Q) (BB o):=by
 obtain⟨v,rfl,e⟩:=h;exact⟨_,rfl,e⟩
def BE [Decidable p](h:decide p=true):p:=of_decide_eq_true h
def IE [Decidable p](h:decide p=false):¬p:=of_decide_eq_false h
end Go.Ve.D

