/- What is handed back, told by a property. -/
import Derived.Test.YtgobokfkomalhaaLa
import Derived.Test.YtgobokfkomalhaaTr
namespace Go.Ve.D
open Go Go.Ve
variable{b:Bool}{n:Nat}{p:Prop}{R X α β:Type}
def Tot{α:Type}(Q:α->Prop)(o:Option α):Prop:=∃v,o=some v/\Q v
theorem Aa{Q:α->Prop}{v:α}(h:Q v):Tot Q (some v):=⟨v,rfl,h⟩
theorem Ah{P:α->Prop}{Q:β->Prop}{o:Option α}{k:α->Option β}(h:Tot P o)(hk: ∀v,P v->Tot Q (k v)):Tot Q (Option.bind o k):=by
 obtain⟨v,rfl,hv⟩:=h;exact hk v hv
theorem AL{Q:β->Prop}{o:Option α}{v:α}{k:α->Option β}(h:o=some v)(hk:Tot Q (k v)):Tot Q (Option.bind o k):=by
 rw [h];exact hk
theorem Ab{Q:α->Prop} [Decidable p]{x y:Option α}(h:p)(hx:Tot Q x):Tot Q (if p then x else y):=by rw [if_pos h];exact hx
theorem Ap{Q:α->Prop}{x y:Option α}(h1:b=true->Tot Q x)(h2:b=false->Tot Q y):Tot Q (bif b then x else y):=by
 cases b with
 |true=>exact h1 rfl
 |false=>exact h2 rfl
theorem Bk{Q:α->Prop}{x y:Option α}(h:b=true)(hx:Tot Q x):Tot Q (bif b then x else y):=by rw [h];exact hx
theorem A8{Q:α->Prop}{x y:Option α}(h:b=false)(hy:Tot Q y):Tot Q (bif b then x else y):=by rw [h];exact hy
theorem ltf:decide ((n:Int)<(n:Int))=false:=dF (by omega)
theorem Pf{P Q:α->Prop}{o:Option α}(h:Tot P o)(hq: ∀v,P v->Q v):Tot Q o:=by
 obtain⟨v,h1,h2⟩:=h;exact⟨v,h1,hq v h2⟩
def LoT{X R:Type}(I:X->Prop)(g:Nat->X->Option R)(Q:R->Prop):LO X R->Prop
 | .next x=>I x
 | .brk id x=>Tot Q (g id x)
 | .ret r=>Q r
theorem AC{f:X->Option (LO X R)}{x:X}{n:Nat}{g:Nat->X->Option R}{Q:R->Prop}(I:Nat->X->Prop)(h0:I 0 x)
  (h1: ∀i,i<n->∀x,I i x->Tot (LoT (I (i+1)) g Q) (f x)) (h2: ∀x,I n x->Tot (LoT (λ_=>False) g Q) (f x)):Tot Q (Option.bind (Aq f x) (LO.fin g)):=by
 obtain⟨o,ho,hq⟩:=UR (f:=f) (I:=I) (Q:=λo=>Tot Q (LO.fin g o)) (n:=n) (x:=x) h0 (λi hi x hx=>by
  obtain⟨o,ho,hq⟩:=h1 i hi x hx;cases o with
  |next y=>exact .inl ⟨y,ho,hq⟩
  |brk id y=>exact .inr ⟨_,ho,λy=>by simp,hq⟩
  |ret r=>exact .inr ⟨_,ho,λy=>by simp,_,rfl,hq⟩) (λx hx=>by
  obtain⟨o,ho,hq⟩:=h2 x hx;cases o with
  |next y=>exact hq.elim
  |brk id y=>exact⟨_,ho,λy=>by simp,hq⟩
  |ret r=>exact⟨_,ho,λy=>by simp,_,rfl,hq⟩)
 rw [ho];exact hq
theorem Ct{I:X->Prop}{g:Nat->X->Option R}{Q:R->Prop}{o:Option R}(h:Tot Q o):Tot (LoT I g Q) (B4 o):=by
 obtain⟨v,rfl,hv⟩:=h;exact⟨_,rfl,hv⟩
theorem CK [Decidable p](h:decide p=true):p:=of_decide_eq_true h
theorem Mf [Decidable p](h:decide p=false): ¬p:=of_decide_eq_false h
end Go.Ve.D

