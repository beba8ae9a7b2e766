/- The typed machine: trees get other numbers. -/
import Derived.Test.YtdhfaeiafmlhlaaTt
set_option linter.all false
namespace Go.Ve
variable{l m σ σ':List V}{n:Nat}{π:Nat->Nat}{D:Nat->Prop}{ρ:Nat->Value}{w:World}
def B1(π:Nat->Nat)(n:Nat):V->V->Prop
 |.many t m f,v'=>v'=.dead\/∃g,v'=.many t m g/\∀k,k<m->B1 π n (f k) (g k)
 |.rs id p off len,v'=>v'=.dead\/∃i,i<n/\π i=id/\v'=.rs i p off len
 |.rp id p i k,v'=>v'=.dead\/∃j,j<n/\π j=id/\v'=.rp j p i k
 |.rm id p,v'=>v'=.dead\/∃j,j<n/\π j=id/\v'=.rm j p
 |v,v'=>v'=.dead\/Sub v v'
def B1.dead(π:Nat->Nat)(n:Nat)(v:V):B1 π n v .dead:=by cases v<;>exact .inl rfl
theorem Rel.ren{D:Nat->Prop}{w:World}{ρ:Nat->Value}(hπ:∀i,i<σ'.length->π i<σ.length)(O:∀i,i<σ'.length->Sub (σ.getD (π i) .dead) (σ'.getD i .dead)):
  ∀{v v':V}{cv:Value},B1 π σ'.length v v'->Rel D w (Ak σ ρ w) v cv noF->Rel D w (Ak σ' (λi=>ρ (π i)) w) v' cv noF:=by
 intro v
 induction v with
 |many t n f Z=>
  intro v' cv h e;rcases h with rfl|⟨g,rfl,h⟩
  .exact λ_ h=>h
  obtain⟨cs,F,W,hn,e,hd,A⟩:=e;have hF:=λk U=>A6 λb hb=>(A b).2 ⟨k,U,hb⟩
  exact⟨cs,λ_=>noF,W,hn,λk U=>Z k (h k U) (by grind),λ_ _ _ _ _ _ h=>h.elim,λb=>⟨λh=>h.elim,fun⟨_,_,h⟩=>h⟩⟩
 |rs id p off len=>
  intro v' cv h e;rcases h with rfl|⟨i,hi,rfl,rfl⟩
  .exact λ_ h=>h
  obtain⟨⟨E,sz,n,f,cn,J,r⟩,A⟩:=e;obtain⟨Y,B⟩:=At.sub' (O i hi) J;exact⟨⟨hi,sz,n,Y,cn,B,r⟩,A⟩
 |rp id p i k=>
  intro v' cv h e;rcases h with rfl|⟨j,hj,rfl,rfl⟩
  .exact λ_ h=>h
  obtain⟨⟨E,s,sz,n,f,b,o,cap,J,r⟩,A⟩:=e;obtain⟨Y,B⟩:=At.sub' (O j hj) J;exact⟨⟨hj,s,sz,n,Y,b,o,cap,B,r⟩,A⟩
 |rm id p=>
  intro v' cv h e;rcases h with rfl|⟨j,hj,rfl,rfl⟩
  .exact λ_ h=>h
  obtain⟨⟨E,l,b,J,r⟩,A⟩:=e;exact⟨⟨hj,l,b,At.subM (O j hj) J,r⟩,A⟩
 |mp own l=>
  intro v' cv h e;rcases h with rfl|h
  .exact λ_ h=>h
  .exact Rel.sub h e
 |c v=>
  intro v' cv h e;rcases h with rfl|h
  .exact λ_ h=>h
  .exact Rel.sub h e
 |dead=>intro v' cv h e;rcases h with rfl|h;exact λ_ h=>h;cases h;exact λ_ h=>h
 |nd s own sz n f _=>
  intro v' cv h e;rcases h with rfl|h
  .exact λ_ h=>h
  .exact Rel.sub h (Rel.nd_R e)
def CR.perm{C:Ctx}{ts ts':List V}{cts:Array Value}{F:Nat->Nat->Prop}(h:CR C σ ts cts w D ρ F)(B:∀i,i<σ'.length->π i<σ.length)(E:∀i j,i<σ'.length->j<σ'.length->π i=π j->i=j)
  (hs:∀i,i<σ'.length->Sub (σ.getD (π i) .dead) (σ'.getD i .dead)) (J:∀i,i<C.m->π i=i) (U:C.m<=σ'.length) (O:ts'.length=ts.length) (ht:∀i,i<ts.length->B1 π σ'.length (ts.getD i .dead) (ts'.getD i .dead)):Wt C σ' ts' cts w:=by
 refine⟨D,λi=>ρ (π i),λi=>if i<σ'.length then F (π i)else noF,⟨λi hi=>?_,λi j b W Z Y=>?_,λi b A=>?_,h.wr.Dlt,λi b hi A=>?_⟩,by rw[h.sz,O],λt ht'=>?_,h.fr,λi b A=>?_,h.D1,h.D2,λi hi=>?_,U⟩
 .simp only[hi,if_true]
  exact Rel.sub (hs i hi) (h.wr.rel (π i) (B i hi))
 .split at Z
  .split at Y
   .rename_i hi hj
    exact h.wr.disj (π i) (π j) b (λe=>W (E i j hi hj e)) Z Y
   .exact Y
  .exact Z.elim
 .split at A
  .exact h.wr.dD _ b A
  .exact A.elim
 .rw[if_neg (by omega)]at A;exact A.elim
 .exact Rel.ren B hs (ht t (by omega)) (h.tm t (by omega))
 .split at A
  .exact h.Fn _ b A
  .exact A.elim
 .rw[J i hi];exact h.rt i hi
theorem AQ.perm{C:Ctx}{N:Nat}{S S':Ms}{a:Act}{w:World}{π:Nat->Nat}(h:AQ C N S a w)(B:∀i,i<S'.σ.length->π i<S.σ.length)(e:∀i j,i<S'.σ.length->j<S'.σ.length->π i=π j->i=j)
  (Y:∀i,i<S'.σ.length->Sub (S.σ.getD (π i) .dead) (S'.σ.getD i .dead)) (A:∀i,i<C.m->π i=i) (E:C.m<=S'.σ.length) (W:∀i,B1 π S'.σ.length (S.t i) (S'.t i)):AQ C N S' a w:=by
 obtain⟨hd,J,D,ρ,F,O⟩:=h;refine⟨hd,λx U=>?_,O.perm B e Y A E (by simp) λi hi=>?_⟩
 .have:=W x
  rw[J x U]at this;rcases this with h|h
  .omega
  trivial
 grind
theorem ren_nr{v:V}(h:∀id p off len,v≠.rs id p off len)(B:∀id p i k,v≠.rp id p i k)(A:∀t n f,v≠.many t n f)(e:∀id p,v≠.rm id p):B1 π n v v:=by
 cases v with
 |rs=>grind
 |rp=>grind
 |rm=>grind
 |many=>grind
 |_=>exact .inr (Sub.refl _)
def Q2(e:l.length=m.length)(h:∀k,k<l.length->B1 π n (l.getD k .dead) (m.getD k .dead)):B1 π n (Ai l) (Ai m):=by
 unfold Ai;rw[<-e];exact .inr ⟨_,rfl,h⟩
def Xr(e:l.length=m.length)(h:∀k,k<l.length->B1 π n (l.getD k .dead) (m.getD k .dead)):B1 π n (Dw l) (Dw m):=by
 unfold Dw;rw[<-e];exact .inr ⟨_,rfl,h⟩
def Aa0{t:Tg}(e:l.length=m.length)(h:∀k,k<l.length->B1 π n (l.getD k .dead) (m.getD k .dead)):B1 π n (pkL t l) (pkL t m):=by
 unfold pkL;rw[<-e];exact .inr ⟨_,rfl,h⟩
end Go.Ve

