/- The typed machine: trees get other numbers. -/
import Derived.Test.YteakdlfnmhlifaaTt
set_option linter.all false
namespace Go.Ve
variable{l m σ σ':List V}{n:Nat}{π:Nat->Nat}{D:Nat->Prop}{ρ:Nat->Value}{w:World}
def BS(π:Nat->Nat)(n:Nat):V->V->Prop
 |.many t m f,v'=>v'=.dead\/∃g,v'=.many t m g/\∀k,k<m->BS π n (f k) (g k)
 |.rs id p off len,v'=>v'=.dead\/∃i,i<n/\π i=id/\v'=.rs i p off len
 |.rp id p i k,v'=>v'=.dead\/∃j,j<n/\π j=id/\v'=.rp j p i k
 |.rm id p,v'=>v'=.dead\/∃j,j<n/\π j=id/\v'=.rm j p
 |v,v'=>v'=.dead\/Sub v v'
def BS.dead(π:Nat->Nat)(n:Nat)(v:V):BS π n v .dead:=by cases v<;>exact .inl rfl
theorem Rel.ren{D:Nat->Prop}{w:World}{ρ:Nat->Value}(Y:∀i,i<σ'.length->π i<σ.length)(H:∀i,i<σ'.length->Sub (σ.getD (π i) .dead) (σ'.getD i .dead)):
  ∀{v v':V}{cv:Value},BS π σ'.length v v'->Rel D w (Ai σ ρ w) v cv noF->Rel D w (Ai σ' (λi=>ρ (π i)) w) v' cv noF:=by
 intro v
 induction v with
 |many t n f W=>
  intro v' cv h e;rcases h with rfl|⟨g,rfl,h⟩
  .exact λ_ h=>h
  obtain⟨cs,F,O,Z,e,hd,u⟩:=e;have hF:=λk J=>A4 λb hb=>(u b).2 ⟨k,J,hb⟩
  exact⟨cs,λ_=>noF,O,Z,λk J=>W k (h k J) (by grind),λ_ _ _ _ _ _ h=>h.elim,λb=>⟨λh=>h.elim,fun⟨_,_,h⟩=>h⟩⟩
 |rs id p off len=>
  intro v' cv h e;rcases h with rfl|⟨i,hi,rfl,rfl⟩
  .exact λ_ h=>h
  obtain⟨⟨B,sz,n,f,cn,E,r⟩,u⟩:=e;obtain⟨U,A⟩:=At.sub' (H i hi) E;exact⟨⟨hi,sz,n,U,cn,A,r⟩,u⟩
 |rp id p i k=>
  intro v' cv h e;rcases h with rfl|⟨j,hj,rfl,rfl⟩
  .exact λ_ h=>h
  obtain⟨⟨B,s,sz,n,f,b,o,cap,E,r⟩,u⟩:=e;obtain⟨U,A⟩:=At.sub' (H j hj) E;exact⟨⟨hj,s,sz,n,U,b,o,cap,A,r⟩,u⟩
 |rm id p=>
  intro v' cv h e;rcases h with rfl|⟨j,hj,rfl,rfl⟩
  .exact λ_ h=>h
  obtain⟨⟨B,l,b,E,r⟩,u⟩:=e;exact⟨⟨hj,l,b,At.subM (H j hj) E,r⟩,u⟩
 |mp own l=>
  intro v' cv h e;rcases h with rfl|h
  .exact λ_ h=>h
  .exact Rel.sub h e
 |c v=>
  intro v' cv h e;rcases h with rfl|h
  .exact λ_ h=>h
  .exact Rel.sub h e
 |dead=>intro v' cv h e;rcases h with rfl|h;exact λ_ h=>h;cases h;exact λ_ h=>h
 |nd s own sz n f _=>
  intro v' cv h e;rcases h with rfl|h
  .exact λ_ h=>h
  .exact Rel.sub h (Rel.nd_R e)
def CR.perm{C:Ctx}{ts ts':List V}{cts:Array Value}{F:Nat->Nat->Prop}(h:CR C σ ts cts w D ρ F)(A:∀i,i<σ'.length->π i<σ.length)(B:∀i j,i<σ'.length->j<σ'.length->π i=π j->i=j)
  (Y:∀i,i<σ'.length->Sub (σ.getD (π i) .dead) (σ'.getD i .dead)) (E:∀i,i<C.m->π i=i) (J:C.m<=σ'.length) (H:ts'.length=ts.length) (ht:∀i,i<ts.length->BS π σ'.length (ts.getD i .dead) (ts'.getD i .dead)):WK C σ' ts' cts w:=by
 refine⟨D,λi=>ρ (π i),λi=>if i<σ'.length then F (π i)else noF,⟨λi hi=>?_,λi j b O W U=>?_,λi b u=>?_,h.wr.Dlt,λi b hi u=>?_⟩,by rw[h.sz,H],λt Z=>?_,h.fr,λi b u=>?_,h.D1,h.D2,λi hi=>?_,J⟩
 .simp only[hi,if_true]
  exact Rel.sub (Y i hi) (h.wr.rel (π i) (A i hi))
 .split at W
  .split at U
   .rename_i hi hj
    exact h.wr.disj (π i) (π j) b (λe=>O (B i j hi hj e)) W U
   .exact U
  .exact W.elim
 .split at u
  .exact h.wr.dD _ b u
  .exact u.elim
 .rw[if_neg (by omega)]at u;exact u.elim
 .exact Rel.ren A Y (ht t (by omega)) (h.tm t (by omega))
 .split at u
  .exact h.Fn _ b u
  .exact u.elim
 .rw[E i hi];exact h.rt i hi
theorem AN.perm{C:Ctx}{N:Nat}{S S':Ms}{a:Act}{w:World}{π:Nat->Nat}(h:AN C N S a w)(A:∀i,i<S'.σ.length->π i<S.σ.length)(e:∀i j,i<S'.σ.length->j<S'.σ.length->π i=π j->i=j)
  (U:∀i,i<S'.σ.length->Sub (S.σ.getD (π i) .dead) (S'.σ.getD i .dead)) (u:∀i,i<C.m->π i=i) (B:C.m<=S'.σ.length) (O:∀i,BS π S'.σ.length (S.t i) (S'.t i)):AN C N S' a w:=by
 obtain⟨hd,E,D,ρ,F,H⟩:=h;refine⟨hd,λx J=>?_,H.perm A e U u B (by simp) λi hi=>?_⟩
 .have:=O x
  rw[E x J]at this;rcases this with h|h
  .omega
  trivial
 grind
theorem ren_nr{v:V}(h:∀id p off len,v≠.rs id p off len)(A:∀id p i k,v≠.rp id p i k)(u:∀t n f,v≠.many t n f)(e:∀id p,v≠.rm id p):BS π n v v:=by
 cases v with
 |rs=>grind
 |rp=>grind
 |rm=>grind
 |many=>grind
 |_=>exact .inr (Sub.refl _)
def Um(e:l.length=m.length)(h:∀k,k<l.length->BS π n (l.getD k .dead) (m.getD k .dead)):BS π n (Ag l) (Ag m):=by
 unfold Ag;rw[<-e];exact .inr ⟨_,rfl,h⟩
def XJ(e:l.length=m.length)(h:∀k,k<l.length->BS π n (l.getD k .dead) (m.getD k .dead)):BS π n (Dq l) (Dq m):=by
 unfold Dq;rw[<-e];exact .inr ⟨_,rfl,h⟩
def XK{t:Tg}(e:l.length=m.length)(h:∀k,k<l.length->BS π n (l.getD k .dead) (m.getD k .dead)):BS π n (pkL t l) (pkL t m):=by
 unfold pkL;rw[<-e];exact .inr ⟨_,rfl,h⟩
end Go.Ve

