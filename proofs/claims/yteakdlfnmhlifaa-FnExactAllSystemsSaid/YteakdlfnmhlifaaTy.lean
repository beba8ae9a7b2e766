/- The typed machine: trees get other numbers. -/
import Derived.Test.YteakdlfnmhlifaaTt
set_option linter.all false
namespace Go.Ve
variable{l m σ σ':List V}{n:Nat}{π:Nat->Nat}{D:Nat->Prop}{ρ:Nat->Value}{w:World}
def BH(π:Nat->Nat)(n:Nat):V->V->Prop
 |.many t m f,v'=>v'=.dead\/∃g,v'=.many t m g/\∀k,k<m->BH π n (f k) (g k)
 |.rs id p off len,v'=>v'=.dead\/∃i,i<n/\π i=id/\v'=.rs i p off len
 |.rp id p i k,v'=>v'=.dead\/∃j,j<n/\π j=id/\v'=.rp j p i k
 |.rm id p,v'=>v'=.dead\/∃j,j<n/\π j=id/\v'=.rm j p
 |v,v'=>v'=.dead\/Sub v v'
def BH.dead(π:Nat->Nat)(n:Nat)(v:V):BH π n v .dead:=by cases v<;>exact .inl rfl
theorem Rel.ren{D:Nat->Prop}{w:World}{ρ:Nat->Value}(hπ:∀i,i<σ'.length->π i<σ.length)(Y:∀i,i<σ'.length->Sub (σ.getD (π i) .dead) (σ'.getD i .dead)):
  ∀{v v':V}{cv:Value},BH π σ'.length v v'->Rel D w (Ae σ ρ w) v cv noF->Rel D w (Ae σ' (λi=>ρ (π i)) w) v' cv noF:=by
 intro v
 induction v with
 |many t n f ih=>
  intro v' cv h A;rcases h with rfl|⟨g,rfl,h⟩
  .exact λ_ h=>h
  obtain⟨cs,F,hcv,hn,A,hd,B⟩:=A;have hF:=λk Z=>A2 λb hb=>(B b).2 ⟨k,Z,hb⟩
  exact⟨cs,λ_=>noF,hcv,hn,λk Z=>ih k (h k Z) (by grind),λ_ _ _ _ _ _ h=>h.elim,λb=>⟨λh=>h.elim,fun⟨_,_,h⟩=>h⟩⟩
 |rs id p off len=>
  intro v' cv h A;rcases h with rfl|⟨i,hi,rfl,rfl⟩
  .exact λ_ h=>h
  obtain⟨⟨U,sz,n,f,cn,W,r⟩,B⟩:=A;obtain⟨f',H⟩:=At.sub' (Y i hi) W;exact⟨⟨hi,sz,n,f',cn,H,r⟩,B⟩
 |rp id p i k=>
  intro v' cv h A;rcases h with rfl|⟨j,hj,rfl,rfl⟩
  .exact λ_ h=>h
  obtain⟨⟨U,s,sz,n,f,b,o,cap,W,r⟩,B⟩:=A;obtain⟨f',H⟩:=At.sub' (Y j hj) W;exact⟨⟨hj,s,sz,n,f',b,o,cap,H,r⟩,B⟩
 |rm id p=>
  intro v' cv h A;rcases h with rfl|⟨j,hj,rfl,rfl⟩
  .exact λ_ h=>h
  obtain⟨⟨U,l,b,W,r⟩,B⟩:=A;exact⟨⟨hj,l,b,At.subM (Y j hj) W,r⟩,B⟩
 |mp own l=>
  intro v' cv h A;rcases h with rfl|h
  .exact λ_ h=>h
  .exact Rel.sub h A
 |c v=>
  intro v' cv h A;rcases h with rfl|h
  .exact λ_ h=>h
  .exact Rel.sub h A
 |dead=>intro v' cv h A;rcases h with rfl|h;exact λ_ h=>h;cases h;exact λ_ h=>h
 |nd s own sz n f _=>
  intro v' cv h A;rcases h with rfl|h
  .exact λ_ h=>h
  .exact Rel.sub h (Rel.nd_R A)
def CR.perm{C:Ctx}{ts ts':List V}{cts:Array Value}{F:Nat->Nat->Prop}(h:CR C σ ts cts w D ρ F)(B:∀i,i<σ'.length->π i<σ.length)(H:∀i j,i<σ'.length->j<σ'.length->π i=π j->i=j)
  (hs:∀i,i<σ'.length->Sub (σ.getD (π i) .dead) (σ'.getD i .dead)) (U:∀i,i<C.m->π i=i) (Y:C.m<=σ'.length) (W:ts'.length=ts.length) (ht:∀i,i<ts.length->BH π σ'.length (ts.getD i .dead) (ts'.getD i .dead)):Wi C σ' ts' cts w:=by
 refine⟨D,λi=>ρ (π i),λi=>if i<σ'.length then F (π i)else noF,⟨λi hi=>?_,λi j b Z h1 h2=>?_,λi b A=>?_,h.wr.Dlt,λi b hi A=>?_⟩,by rw[h.sz,W],λt ht'=>?_,h.fr,λi b A=>?_,h.D1,h.D2,λi hi=>?_,Y⟩
 .simp only[hi,if_true]
  exact Rel.sub (hs i hi) (h.wr.rel (π i) (B i hi))
 .split at h1
  .split at h2
   .rename_i hi hj
    exact h.wr.disj (π i) (π j) b (λe=>Z (H i j hi hj e)) h1 h2
   .exact h2
  .exact h1.elim
 .split at A
  .exact h.wr.dD _ b A
  .exact A.elim
 .rw[if_neg (by omega)]at A;exact A.elim
 .exact Rel.ren B hs (ht t (by omega)) (h.tm t (by omega))
 .split at A
  .exact h.Fn _ b A
  .exact A.elim
 .rw[U i hi];exact h.rt i hi
theorem AA.perm{C:Ctx}{N:Nat}{S S':Ms}{a:Act}{w:World}{π:Nat->Nat}(h:AA C N S a w)(H:∀i,i<S'.σ.length->π i<S.σ.length)(A:∀i j,i<S'.σ.length->j<S'.σ.length->π i=π j->i=j)
  (hs:∀i,i<S'.σ.length->Sub (S.σ.getD (π i) .dead) (S'.σ.getD i .dead)) (B:∀i,i<C.m->π i=i) (U:C.m<=S'.σ.length) (ht:∀i,BH π S'.σ.length (S.t i) (S'.t i)):AA C N S' a w:=by
 obtain⟨hd,W,D,ρ,F,Y⟩:=h;refine⟨hd,λx Z=>?_,Y.perm H A hs B U (by simp) λi hi=>?_⟩
 .have:=ht x
  rw[W x Z]at this;rcases this with h|h
  .omega
  trivial
 grind
theorem ren_nr{v:V}(h:∀id p off len,v≠.rs id p off len)(A:∀id p i k,v≠.rp id p i k)(h3:∀t n f,v≠.many t n f)(h4:∀id p,v≠.rm id p):BH π n v v:=by
 cases v with
 |rs=>grind
 |rp=>grind
 |rm=>grind
 |many=>grind
 |_=>exact .inr (Sub.refl _)
def QW(A:l.length=m.length)(h:∀k,k<l.length->BH π n (l.getD k .dead) (m.getD k .dead)):BH π n (Ah l) (Ah m):=by
 unfold Ah;rw[<-A];exact .inr ⟨_,rfl,h⟩
def Xg(A:l.length=m.length)(h:∀k,k<l.length->BH π n (l.getD k .dead) (m.getD k .dead)):BH π n (Dj l) (Dj m):=by
 unfold Dj;rw[<-A];exact .inr ⟨_,rfl,h⟩
def Xh{t:Tg}(A:l.length=m.length)(h:∀k,k<l.length->BH π n (l.getD k .dead) (m.getD k .dead)):BH π n (pkL t l) (pkL t m):=by
 unfold pkL;rw[<-A];exact .inr ⟨_,rfl,h⟩
end Go.Ve

