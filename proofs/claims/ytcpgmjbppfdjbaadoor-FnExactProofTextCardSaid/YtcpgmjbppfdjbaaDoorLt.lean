/- What is handed back, told by a property. -/
import Derived.Test.YtcpgmjbppfdjbaaDoorLa
import Derived.Test.YtcpgmjbppfdjbaaDoorTr
namespace Go.Ve.D
open Go Go.Ve
variable{b:Bool}{i n:Nat}{p:Prop}{R X α β:Type}
def Tot{α:Type}(Q:α->Prop)(o:Option α):Prop:=∃v,o=some v/\Q v
theorem Ae{Q:α->Prop}{v:α}(h:Q v):Tot Q (some v):=⟨v,rfl,h⟩
theorem DZ{P:α->Prop}{Q:β->Prop}{o:Option α}{k:α->Option β}(h:Tot P o)(hk: ∀v,P v->Tot Q (k v)):Tot Q (Option.bind o k):=by
 obtain⟨v,rfl,hv⟩:=h;exact hk v hv
theorem AX{Q:β->Prop}{o:Option α}{v:α}{k:α->Option β}(h:o=some v)(hk:Tot Q (k v)):Tot Q (Option.bind o k):=by
 rw [h];exact hk
theorem AB{Q:α->Prop} [Decidable p]{x y:Option α}(h:p)(hx:Tot Q x):Tot Q (if p then x else y):=by rw [if_pos h];exact hx
theorem Bi{Q:α->Prop}{x y:Option α}(h1:b=true->Tot Q x)(h2:b=false->Tot Q y):Tot Q (bif b then x else y):=by
 cases b with
 |true=>exact h1 rfl
 |false=>exact h2 rfl
theorem DY{Q:α->Prop}{x y:Option α}(h:b=true)(hx:Tot Q x):Tot Q (bif b then x else y):=by rw [h];exact hx
theorem BF{Q:α->Prop}{x y:Option α}(h:b=false)(hy:Tot Q y):Tot Q (bif b then x else y):=by rw [h];exact hy
theorem ltt(h:i<n):decide ((i:Int)<(n:Int))=true:=dT (by omega)
theorem ltf:decide ((n:Int)<(n:Int))=false:=dF (by omega)
theorem wr1(h:i<n)(hn:n<=1000000000000):IntKind.wrap .i64 ((i:Int)+1)=((i+1:Nat):Int):=by
 rw [Zg (by omega) (by omega)];rfl
def LoT{X R:Type}(I:X->Prop)(g:Nat->X->Option R)(Q:R->Prop):LO X R->Prop
 | .next x=>I x
 | .brk id x=>Tot Q (g id x)
 | .ret r=>Q r
theorem Bk{f:X->Option (LO X R)}{x:X}{n:Nat}{g:Nat->X->Option R}{Q:R->Prop}(I:Nat->X->Prop)(h0:I 0 x)
  (h1: ∀i,i<n->∀x,I i x->Tot (LoT (I (i+1)) g Q) (f x)) (h2: ∀x,I n x->Tot (LoT (λ_=>False) g Q) (f x)):Tot Q (Option.bind (A3 f x) (LO.fin g)):=by
 obtain⟨o,ho,hq⟩:=UY (f:=f) (I:=I) (Q:=λo=>Tot Q (LO.fin g o)) (n:=n) (x:=x) h0 (λi hi x hx=>by
  obtain⟨o,ho,hq⟩:=h1 i hi x hx;cases o with
  |next y=>exact .inl ⟨y,ho,hq⟩
  |brk id y=>exact .inr ⟨_,ho,λy=>by simp,hq⟩
  |ret r=>exact .inr ⟨_,ho,λy=>by simp,_,rfl,hq⟩) (λx hx=>by
  obtain⟨o,ho,hq⟩:=h2 x hx;cases o with
  |next y=>exact hq.elim
  |brk id y=>exact⟨_,ho,λy=>by simp,hq⟩
  |ret r=>exact⟨_,ho,λy=>by simp,_,rfl,hq⟩)
 rw [ho];exact hq
theorem I1{I:X->Prop}{g:Nat->X->Option R}{Q:R->Prop}{o:Option R}(h:Tot Q o):Tot (LoT I g Q) (HO o):=by
 obtain⟨v,rfl,hv⟩:=h;exact⟨_,rfl,hv⟩
theorem Ym [Decidable p](h:decide p=true):p:=of_decide_eq_true h
theorem DF [Decidable p](h:decide p=false): ¬p:=of_decide_eq_false h
end Go.Ve.D

