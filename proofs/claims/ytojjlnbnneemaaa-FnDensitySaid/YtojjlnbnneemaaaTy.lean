/- The typed machine: trees get other numbers. -/
import Derived.Test.YtojjlnbnneemaaaTt
set_option linter.all false
namespace Go.Ve
variable{l m σ σ':List V}{n:Nat}{π:Nat->Nat}{D:Nat->Prop}{ρ:Nat->Value}{w:World}
def Hj(π:Nat->Nat)(n:Nat):V->V->Prop
 |.many t m f,v'=>v'=.dead\/∃g,v'=.many t m g/\∀k,k<m->Hj π n (f k) (g k)
 |.rs id p off len,v'=>v'=.dead\/∃i,i<n/\π i=id/\v'=.rs i p off len
 |.rp id p i k,v'=>v'=.dead\/∃j,j<n/\π j=id/\v'=.rp j p i k
 |.rm id p,v'=>v'=.dead\/∃j,j<n/\π j=id/\v'=.rm j p
 |v,v'=>v'=.dead\/Sub v v'
def Hj.dead(π:Nat->Nat)(n:Nat)(v:V):Hj π n v .dead:=by cases v<;>exact .inl rfl
theorem Rel.ren{D:Nat->Prop}{w:World}{ρ:Nat->Value}(hπ:∀i,i<σ'.length->π i<σ.length)(U:∀i,i<σ'.length->Sub (σ.getD (π i) .dead) (σ'.getD i .dead)):
  ∀{v v':V}{cv:Value},Hj π σ'.length v v'->Rel D w (Aq σ ρ w) v cv noF->Rel D w (Aq σ' (λi=>ρ (π i)) w) v' cv noF:=by
 intro v
 induction v with
 |many t n f ih=>
  intro v' cv h u;rcases h with rfl|⟨g,rfl,h⟩
  .exact λ_ h=>h
  obtain⟨cs,F,Y,hn,u,hd,A⟩:=u;have hF:=λk W=>A7 λb hb=>(A b).2 ⟨k,W,hb⟩
  exact⟨cs,λ_=>noF,Y,hn,λk W=>ih k (h k W) (by grind),λ_ _ _ _ _ _ h=>h.elim,λb=>⟨λh=>h.elim,fun⟨_,_,h⟩=>h⟩⟩
 |rs id p off len=>
  intro v' cv h u;rcases h with rfl|⟨i,hi,rfl,rfl⟩
  .exact λ_ h=>h
  obtain⟨⟨J,sz,n,f,cn,O,r⟩,A⟩:=u;obtain⟨Z,B⟩:=At.sub' (U i hi) O;exact⟨⟨hi,sz,n,Z,cn,B,r⟩,A⟩
 |rp id p i k=>
  intro v' cv h u;rcases h with rfl|⟨j,E,rfl,rfl⟩
  .exact λ_ h=>h
  obtain⟨⟨J,s,sz,n,f,b,o,cap,O,r⟩,A⟩:=u;obtain⟨Z,B⟩:=At.sub' (U j E) O;exact⟨⟨E,s,sz,n,Z,b,o,cap,B,r⟩,A⟩
 |rm id p=>
  intro v' cv h u;rcases h with rfl|⟨j,E,rfl,rfl⟩
  .exact λ_ h=>h
  obtain⟨⟨J,l,b,O,r⟩,A⟩:=u;exact⟨⟨E,l,b,At.subM (U j E) O,r⟩,A⟩
 |mp own l=>
  intro v' cv h u;rcases h with rfl|h
  .exact λ_ h=>h
  .exact Rel.sub h u
 |c v=>
  intro v' cv h u;rcases h with rfl|h
  .exact λ_ h=>h
  .exact Rel.sub h u
 |dead=>intro v' cv h u;rcases h with rfl|h;exact λ_ h=>h;cases h;exact λ_ h=>h
 |nd s own sz n f _=>
  intro v' cv h u;rcases h with rfl|h
  .exact λ_ h=>h
  .exact Rel.sub h (Rel.nd_R u)
def CR.perm{C:Ctx}{ts ts':List V}{cts:Array Value}{F:Nat->Nat->Prop}(h:CR C σ ts cts w D ρ F)(B:∀i,i<σ'.length->π i<σ.length)(E:∀i j,i<σ'.length->j<σ'.length->π i=π j->i=j)
  (hs:∀i,i<σ'.length->Sub (σ.getD (π i) .dead) (σ'.getD i .dead)) (J:∀i,i<C.m->π i=i) (U:C.m<=σ'.length) (O:ts'.length=ts.length) (ht:∀i,i<ts.length->Hj π σ'.length (ts.getD i .dead) (ts'.getD i .dead)):XX C σ' ts' cts w:=by
 refine⟨D,λi=>ρ (π i),λi=>if i<σ'.length then F (π i)else noF,⟨λi A=>?_,λi j b W Z Y=>?_,λi b u=>?_,h.wr.Dlt,λi b A u=>?_⟩,by rw[h.sz,O],λt ht'=>?_,h.fr,λi b u=>?_,h.D1,h.D2,λi A=>?_,U⟩
 .simp only[A,if_true]
  exact Rel.sub (hs i A) (h.wr.rel (π i) (B i A))
 .split at Z
  .split at Y
   .rename_i A hj
    exact h.wr.disj (π i) (π j) b (λe=>W (E i j A hj e)) Z Y
   .exact Y
  .exact Z.elim
 .split at u
  .exact h.wr.dD _ b u
  .exact u.elim
 .rw[if_neg (by omega)]at u;exact u.elim
 .exact Rel.ren B hs (ht t (by omega)) (h.tm t (by omega))
 .split at u
  .exact h.Fn _ b u
  .exact u.elim
 .rw[J i A];exact h.rt i A
theorem AQ.perm{C:Ctx}{N:Nat}{S S':Ms}{a:Act}{w:World}{π:Nat->Nat}(h:AQ C N S a w)(B:∀i,i<S'.σ.length->π i<S.σ.length)(u:∀i j,i<S'.σ.length->j<S'.σ.length->π i=π j->i=j)
  (Y:∀i,i<S'.σ.length->Sub (S.σ.getD (π i) .dead) (S'.σ.getD i .dead)) (A:∀i,i<C.m->π i=i) (E:C.m<=S'.σ.length) (W:∀i,Hj π S'.σ.length (S.t i) (S'.t i)):AQ C N S' a w:=by
 obtain⟨hd,J,D,ρ,F,O⟩:=h;refine⟨hd,λx U=>?_,O.perm B u Y A E (by simp) λi Z=>?_⟩
 .have:=W x
  rw[J x U]at this;rcases this with h|h
  .omega
  trivial
 grind
theorem ren_nr{v:V}(h:∀id p off len,v≠.rs id p off len)(B:∀id p i k,v≠.rp id p i k)(A:∀t n f,v≠.many t n f)(u:∀id p,v≠.rm id p):Hj π n v v:=by
 cases v with
 |rs=>grind
 |rp=>grind
 |rm=>grind
 |many=>grind
 |_=>exact .inr (Sub.refl _)
def ZL(u:l.length=m.length)(h:∀k,k<l.length->Hj π n (l.getD k .dead) (m.getD k .dead)):Hj π n (Am l) (Am m):=by
 unfold Am;rw[<-u];exact .inr ⟨_,rfl,h⟩
def Aba(u:l.length=m.length)(h:∀k,k<l.length->Hj π n (l.getD k .dead) (m.getD k .dead)):Hj π n (DC l) (DC m):=by
 unfold DC;rw[<-u];exact .inr ⟨_,rfl,h⟩
def ren_pk{t:Tg}(u:l.length=m.length)(h:∀k,k<l.length->Hj π n (l.getD k .dead) (m.getD k .dead)):Hj π n (pkL t l) (pkL t m):=by
 unfold pkL;rw[<-u];exact .inr ⟨_,rfl,h⟩
end Go.Ve

