/- The typed machine: trees get other numbers. -/
import Derived.Test.YtmmmafnkggaknaaGreatTt
set_option linter.all false
namespace Go.Ve
variable{l m σ σ':List V}{n:Nat}{π:Nat->Nat}{D:Nat->Prop}{ρ:Nat->Value}{w:World}
def Hf(π:Nat->Nat)(n:Nat):V->V->Prop
 |.many t m f,v'=>v'=.dead\/∃g,v'=.many t m g/\∀k,k<m->Hf π n (f k) (g k)
 |.rs id p off len,v'=>v'=.dead\/∃i,i<n/\π i=id/\v'=.rs i p off len
 |.rp id p i k,v'=>v'=.dead\/∃j,j<n/\π j=id/\v'=.rp j p i k
 |v,v'=>v'=.dead\/Sub v v'
def Hf.dead(π:Nat->Nat)(n:Nat)(v:V):Hf π n v .dead:=by cases v<;>exact .inl rfl
theorem Rel.ren{D:Nat->Prop}{w:World}{ρ:Nat->Value}(hπ:∀i,i<σ'.length->π i<σ.length)(hs:∀i,i<σ'.length->Sub (σ.getD (π i) .dead) (σ'.getD i .dead)):
  ∀{v v':V}{cv:Value},Hf π σ'.length v v'->Rel D w (Au σ ρ w) v cv noF->Rel D w (Au σ' (λi=>ρ (π i)) w) v' cv noF:=by
 intro v
 induction v with
 |many t n f ih=>
  intro v' cv h e;rcases h with rfl|⟨g,rfl,h⟩
  .exact λ_ h=>h
  obtain⟨cs,F,J,hn,e,hd,A⟩:=e;have hF:=λk B=>A6 λb hb=>(A b).2 ⟨k,B,hb⟩
  exact⟨cs,λ_=>noF,J,hn,λk B=>ih k (h k B) (by grind),λ_ _ _ _ _ _ h=>h.elim,λb=>⟨λh=>h.elim,fun⟨_,_,h⟩=>h⟩⟩
 |rs id p off len=>
  intro v' cv h e;rcases h with rfl|⟨i,hi,rfl,rfl⟩
  .exact λ_ h=>h
  obtain⟨⟨E,sz,n,f,cn,U,r⟩,A⟩:=e;obtain⟨W,u⟩:=At.sub' (hs i hi) U;exact⟨⟨hi,sz,n,W,cn,u,r⟩,A⟩
 |rp id p i k=>
  intro v' cv h e;rcases h with rfl|⟨j,Z,rfl,rfl⟩
  .exact λ_ h=>h
  obtain⟨⟨E,s,sz,n,f,b,o,cap,U,r⟩,A⟩:=e;obtain⟨W,u⟩:=At.sub' (hs j Z) U;exact⟨⟨Z,s,sz,n,W,b,o,cap,u,r⟩,A⟩
 |c v=>
  intro v' cv h e;rcases h with rfl|h
  .exact λ_ h=>h
  .exact Rel.sub h e
 |dead=>intro v' cv h e;rcases h with rfl|h;exact λ_ h=>h;cases h;exact λ_ h=>h
 |nd s own sz n f _=>
  intro v' cv h e;rcases h with rfl|h
  .exact λ_ h=>h
  .exact Rel.sub h (Rel.nd_R e)
def CR.perm{C:Ctx}{ts ts':List V}{cts:Array Value}{F:Nat->Nat->Prop}(h:CR C σ ts cts w D ρ F)(B:∀i,i<σ'.length->π i<σ.length)(E:∀i j,i<σ'.length->j<σ'.length->π i=π j->i=j)
  (hs:∀i,i<σ'.length->Sub (σ.getD (π i) .dead) (σ'.getD i .dead)) (J:∀i,i<C.m->π i=i) (W:C.m<=σ'.length) (U:ts'.length=ts.length) (ht:∀i,i<ts.length->Hf π σ'.length (ts.getD i .dead) (ts'.getD i .dead)):Wy C σ' ts' cts w:=by
 refine⟨D,λi=>ρ (π i),λi=>if i<σ'.length then F (π i)else noF,⟨λi A=>?_,λi j b Z h1 h2=>?_,λi b u=>?_,h.wr.Dlt,λi b A u=>?_⟩,by rw[h.sz,U],λt ht'=>?_,h.fr,λi b u=>?_,h.D1,h.D2,λi A=>?_,W⟩
 .simp only[A,if_true]
  exact Rel.sub (hs i A) (h.wr.rel (π i) (B i A))
 .split at h1
  .split at h2
   .rename_i A hj
    exact h.wr.disj (π i) (π j) b (λe=>Z (E i j A hj e)) h1 h2
   .exact h2
  .exact h1.elim
 .split at u
  .exact h.wr.dD _ b u
  .exact u.elim
 .rw[if_neg (by omega)]at u;exact u.elim
 .exact Rel.ren B hs (ht t (by omega)) (h.tm t (by omega))
 .split at u
  .exact h.Fn _ b u
  .exact u.elim
 .rw[J i A];exact h.rt i A
theorem AR.perm{C:Ctx}{N:Nat}{S S':Ms}{a:Act}{w:World}{π:Nat->Nat}(h:AR C N S a w)(A:∀i,i<S'.σ.length->π i<S.σ.length)(e:∀i j,i<S'.σ.length->j<S'.σ.length->π i=π j->i=j)
  (hs:∀i,i<S'.σ.length->Sub (S.σ.getD (π i) .dead) (S'.σ.getD i .dead)) (u:∀i,i<C.m->π i=i) (B:C.m<=S'.σ.length) (W:∀i,Hf π S'.σ.length (S.t i) (S'.t i)):AR C N S' a w:=by
 obtain⟨hd,E,D,ρ,F,J⟩:=h;refine⟨hd,λx U=>?_,J.perm A e hs u B (by simp) λi Z=>?_⟩
 .have:=W x
  rw[E x U]at this;rcases this with h|h
  .omega
  trivial
 grind
theorem ren_nr{v:V}(h:∀id p off len,v≠.rs id p off len)(u:∀id p i k,v≠.rp id p i k)(e:∀t n f,v≠.many t n f):Hf π n v v:=by
 cases v with
 |rs=>grind
 |rp=>grind
 |many=>grind
 |_=>exact .inr (Sub.refl _)
def Yg(e:l.length=m.length)(h:∀k,k<l.length->Hf π n (l.getD k .dead) (m.getD k .dead)):Hf π n (An l) (An m):=by
 unfold An;rw[<-e];exact .inr ⟨_,rfl,h⟩
def Zv(e:l.length=m.length)(h:∀k,k<l.length->Hf π n (l.getD k .dead) (m.getD k .dead)):Hf π n (Do l) (Do m):=by
 unfold Do;rw[<-e];exact .inr ⟨_,rfl,h⟩
def ren_pk{t:Tg}(e:l.length=m.length)(h:∀k,k<l.length->Hf π n (l.getD k .dead) (m.getD k .dead)):Hf π n (pkL t l) (pkL t m):=by
 unfold pkL;rw[<-e];exact .inr ⟨_,rfl,h⟩
end Go.Ve

