/- The typed machine: trees get other numbers. -/
import Derived.Test.YtojjlnbnneemaaaTt
set_option linter.all false
namespace Go.Ve
variable{l m σ σ':List V}{n:Nat}{π:Nat->Nat}{D:Nat->Prop}{ρ:Nat->Value}{w:World}
def Hd(π:Nat->Nat)(n:Nat):V->V->Prop
 |.many t m f,v'=>v'=.dead\/∃g,v'=.many t m g/\∀k,k<m->Hd π n (f k) (g k)
 |.rs id p off len,v'=>v'=.dead\/∃i,i<n/\π i=id/\v'=.rs i p off len
 |.rp id p i k,v'=>v'=.dead\/∃j,j<n/\π j=id/\v'=.rp j p i k
 |.rm id p,v'=>v'=.dead\/∃j,j<n/\π j=id/\v'=.rm j p
 |v,v'=>v'=.dead\/Sub v v'
def Hd.dead(π:Nat->Nat)(n:Nat)(v:V):Hd π n v .dead:=by cases v<;>exact .inl rfl
theorem Rel.ren{D:Nat->Prop}{w:World}{ρ:Nat->Value}(Z:∀i,i<σ'.length->π i<σ.length)(L:∀i,i<σ'.length->Sub (σ.getD (π i) .dead) (σ'.getD i .dead)):
  ∀{v v':V}{cv:Value},Hd π σ'.length v v'->Rel D w (Am σ ρ w) v cv noF->Rel D w (Am σ' (λi=>ρ (π i)) w) v' cv noF:=by
 intro v
 induction v with
 |many t n f Y=>
  intro v' cv h e;rcases h with rfl|⟨g,rfl,h⟩
  .exact λ_ h=>h
  obtain⟨cs,F,O,hn,e,hd,A⟩:=e;have hF:=λk M=>Bb λb hb=>(A b).2 ⟨k,M,hb⟩
  exact⟨cs,λ_=>noF,O,hn,λk M=>Y k (h k M) (by grind),λ_ _ _ _ _ _ h=>h.elim,λb=>⟨λh=>h.elim,fun⟨_,_,h⟩=>h⟩⟩
 |rs id p off len=>
  intro v' cv h e;rcases h with rfl|⟨i,W,rfl,rfl⟩
  .exact λ_ h=>h
  obtain⟨⟨J,sz,n,f,cn,ha,r⟩,A⟩:=e;obtain⟨U,B⟩:=At.sub' (L i W) ha;exact⟨⟨W,sz,n,U,cn,B,r⟩,A⟩
 |rp id p i k=>
  intro v' cv h e;rcases h with rfl|⟨j,E,rfl,rfl⟩
  .exact λ_ h=>h
  obtain⟨⟨J,s,sz,n,f,b,o,cap,ha,r⟩,A⟩:=e;obtain⟨U,B⟩:=At.sub' (L j E) ha;exact⟨⟨E,s,sz,n,U,b,o,cap,B,r⟩,A⟩
 |rm id p=>
  intro v' cv h e;rcases h with rfl|⟨j,E,rfl,rfl⟩
  .exact λ_ h=>h
  obtain⟨⟨J,l,b,ha,r⟩,A⟩:=e;exact⟨⟨E,l,b,At.subM (L j E) ha,r⟩,A⟩
 |mp own l=>
  intro v' cv h e;rcases h with rfl|h
  .exact λ_ h=>h
  .exact Rel.sub h e
 |c v=>
  intro v' cv h e;rcases h with rfl|h
  .exact λ_ h=>h
  .exact Rel.sub h e
 |dead=>intro v' cv h e;rcases h with rfl|h;exact λ_ h=>h;cases h;exact λ_ h=>h
 |nd s own sz n f _=>
  intro v' cv h e;rcases h with rfl|h
  .exact λ_ h=>h
  .exact Rel.sub h (Rel.nd_R e)
def CR.perm{C:Ctx}{ts ts':List V}{cts:Array Value}{F:Nat->Nat->Prop}(h:CR C σ ts cts w D ρ F)(E:∀i,i<σ'.length->π i<σ.length)(J:∀i j,i<σ'.length->j<σ'.length->π i=π j->i=j)
  (Z:∀i,i<σ'.length->Sub (σ.getD (π i) .dead) (σ'.getD i .dead)) (L:∀i,i<C.m->π i=i) (O:C.m<=σ'.length) (M:ts'.length=ts.length) (ht:∀i,i<ts.length->Hd π σ'.length (ts.getD i .dead) (ts'.getD i .dead)):X1 C σ' ts' cts w:=by
 refine⟨D,λi=>ρ (π i),λi=>if i<σ'.length then F (π i)else noF,⟨λi B=>?_,λi j b U Y W=>?_,λi b A=>?_,h.wr.Dlt,λi b B A=>?_⟩,by rw[h.sz,M],λt ht'=>?_,h.fr,λi b A=>?_,h.D1,h.D2,λi B=>?_,O⟩
 .simp only[B,if_true]
  exact Rel.sub (Z i B) (h.wr.rel (π i) (E i B))
 .split at Y
  .split at W
   .rename_i B hj
    exact h.wr.disj (π i) (π j) b (λe=>U (J i j B hj e)) Y W
   .exact W
  .exact Y.elim
 .split at A
  .exact h.wr.dD _ b A
  .exact A.elim
 .rw[if_neg (by omega)]at A;exact A.elim
 .exact Rel.ren E Z (ht t (by omega)) (h.tm t (by omega))
 .split at A
  .exact h.Fn _ b A
  .exact A.elim
 .rw[L i B];exact h.rt i B
theorem AU.perm{C:Ctx}{N:Nat}{S S':Ms}{a:Act}{w:World}{π:Nat->Nat}(h:AU C N S a w)(B:∀i,i<S'.σ.length->π i<S.σ.length)(e:∀i j,i<S'.σ.length->j<S'.σ.length->π i=π j->i=j)
  (U:∀i,i<S'.σ.length->Sub (S.σ.getD (π i) .dead) (S'.σ.getD i .dead)) (A:∀i,i<C.m->π i=i) (E:C.m<=S'.σ.length) (O:∀i,Hd π S'.σ.length (S.t i) (S'.t i)):AU C N S' a w:=by
 obtain⟨hd,J,D,ρ,F,L⟩:=h;refine⟨hd,λx M=>?_,L.perm B e U A E (by simp) λi W=>?_⟩
 .have:=O x
  rw[J x M]at this;rcases this with h|h
  .omega
  trivial
 grind
theorem ren_nr{v:V}(h:∀id p off len,v≠.rs id p off len)(B:∀id p i k,v≠.rp id p i k)(A:∀t n f,v≠.many t n f)(e:∀id p,v≠.rm id p):Hd π n v v:=by
 cases v with
 |rs=>grind
 |rp=>grind
 |rm=>grind
 |many=>grind
 |_=>exact .inr (Sub.refl _)
def ZV(e:l.length=m.length)(h:∀k,k<l.length->Hd π n (l.getD k .dead) (m.getD k .dead)):Hd π n (Aj l) (Aj m):=by
 unfold Aj;rw[<-e];exact .inr ⟨_,rfl,h⟩
def Abj(e:l.length=m.length)(h:∀k,k<l.length->Hd π n (l.getD k .dead) (m.getD k .dead)):Hd π n (DH l) (DH m):=by
 unfold DH;rw[<-e];exact .inr ⟨_,rfl,h⟩
def ZU{t:Tg}(e:l.length=m.length)(h:∀k,k<l.length->Hd π n (l.getD k .dead) (m.getD k .dead)):Hd π n (pkL t l) (pkL t m):=by
 unfold pkL;rw[<-e];exact .inr ⟨_,rfl,h⟩
end Go.Ve

