/- The typed machine: trees get other numbers. -/
import Derived.Test.YtcpgmjbppfdjbaaDoorTt
namespace Go.Ve
variable{l m σ σ':List V}{n:Nat}{π:Nat->Nat}{D:Nat->Prop}{ρ:Nat->Value}{w:World}
def B2(π:Nat->Nat)(n:Nat):V->V->Prop
 | .many t m f,v'=>v'= .dead\/∃g,v'= .many t m g/\∀k,k<m->B2 π n (f k) (g k)
 | .rs id p off len,v'=>v'= .dead\/∃i,i<n/\π i=id/\v'= .rs i p off len
 | .rp id p i k,v'=>v'= .dead\/∃j,j<n/\π j=id/\v'= .rp j p i k
 |v,v'=>v'= .dead\/Sub v v'
theorem B2.dead(π:Nat->Nat)(n:Nat)(v:V):B2 π n v .dead:=by cases v<;>exact .inl rfl
theorem Rel.ren{D:Nat->Prop}{w:World}{ρ:Nat->Value}(hπ: ∀i,i<σ'.length->π i<σ.length)(hs: ∀i,i<σ'.length->Sub (σ.getD (π i) .dead) (σ'.getD i .dead)):
  ∀ {v v':V} {cv:Value},B2 π σ'.length v v'->Rel D w (Ag σ ρ w) v cv noF->Rel D w (Ag σ' (λi=>ρ (π i)) w) v' cv noF:=by
 intro v
 induction v with
 |many t n f ih=>
  intro v' cv h hr;rcases h with rfl|⟨g,rfl,h⟩
  ·exact λ_ h=>h
  obtain⟨cs,F,hcv,hn,hr,hd,hf⟩:=hr;have hF:=λk hk=>AY λb hb=>(hf b).2 ⟨k,hk,hb⟩
  exact⟨cs,λ_=>noF,hcv,hn,λk hk=>ih k (h k hk) (by grind),λ_ _ _ _ _ _ h=>h.elim,λb=>⟨λh=>h.elim,fun⟨_,_,h⟩=>h⟩⟩
 |rs id p off len=>
  intro v' cv h hr;rcases h with rfl|⟨i,hi,rfl,rfl⟩
  ·exact λ_ h=>h
  obtain⟨⟨hid,sz,n,f,cn,ha,r⟩,hf⟩:=hr;obtain⟨f',ha'⟩:=At.sub' (hs i hi) ha;exact⟨⟨hi,sz,n,f',cn,ha',r⟩,hf⟩
 |rp id p i k=>
  intro v' cv h hr;rcases h with rfl|⟨j,hj,rfl,rfl⟩
  ·exact λ_ h=>h
  obtain⟨⟨hid,s,sz,n,f,b,o,cap,ha,r⟩,hf⟩:=hr;obtain⟨f',ha'⟩:=At.sub' (hs j hj) ha;exact⟨⟨hj,s,sz,n,f',b,o,cap,ha',r⟩,hf⟩
 |c v=>
  intro v' cv h hr;rcases h with rfl|h
  ·exact λ_ h=>h
  ·exact Rel.sub h hr
 |dead=>intro v' cv h hr;rcases h with rfl|h;exact λ_ h=>h;cases h;exact λ_ h=>h
 |nd s own sz n f _=>
  intro v' cv h hr;rcases h with rfl|h
  ·exact λ_ h=>h
  ·exact Rel.sub h (Rel.nd_R hr)
theorem CR.perm{C:Ctx}{ts ts':List V}{cts:Array Value}{F:Nat->Nat->Prop}(h:CR C σ ts cts w D ρ F)(hπ: ∀i,i<σ'.length->π i<σ.length)(hinj: ∀i j,i<σ'.length->j<σ'.length->π i=π j->i=j)
  (hs: ∀i,i<σ'.length->Sub (σ.getD (π i) .dead) (σ'.getD i .dead)) (hfix: ∀i,i<C.m->π i=i) (hml:C.m<=σ'.length) (htl:ts'.length=ts.length) (ht: ∀i,i<ts.length->B2 π σ'.length (ts.getD i .dead) (ts'.getD i .dead)):UK C σ' ts' cts w:=by
 refine⟨D,λi=>ρ (π i),λi=>if i<σ'.length then F (π i)else noF,⟨λi hi=>?_,λi j b hij h1 h2=>?_,λi b hb=>?_,h.wr.Dlt,λi b hi hb=>?_⟩,by rw [h.sz,htl],λt ht'=>?_,h.fr,λi b hb=>?_,h.D1,h.D2,λi hi=>?_,hml⟩
 ·simp only [hi,if_true]
  exact Rel.sub (hs i hi) (h.wr.rel (π i) (hπ i hi))
 ·split at h1
  ·split at h2
   ·rename_i hi hj
    exact h.wr.disj (π i) (π j) b (λe=>hij (hinj i j hi hj e)) h1 h2
   ·exact h2
  ·exact h1.elim
 ·split at hb
  ·exact h.wr.dD _ b hb
  ·exact hb.elim
 ·rw [if_neg (by omega)]at hb;exact hb.elim
 ·exact Rel.ren hπ hs (ht t (by omega)) (h.tm t (by omega))
 ·split at hb
  ·exact h.Fn _ b hb
  ·exact hb.elim
 ·rw [hfix i hi];exact h.rt i hi
theorem AI.perm{C:Ctx}{N:Nat}{S S':Ms}{a:Act}{w:World}{π:Nat->Nat}(h:AI C N S a w)(hπ: ∀i,i<S'.σ.length->π i<S.σ.length)(hinj: ∀i j,i<S'.σ.length->j<S'.σ.length->π i=π j->i=j)
  (hs: ∀i,i<S'.σ.length->Sub (S.σ.getD (π i) .dead) (S'.σ.getD i .dead)) (hfix: ∀i,i<C.m->π i=i) (hml:C.m<=S'.σ.length) (ht: ∀i,B2 π S'.σ.length (S.t i) (S'.t i)):AI C N S' a w:=by
 obtain⟨hd,hdd,D,ρ,F,hcr⟩:=h;refine⟨hd,λx hx=>?_,hcr.perm hπ hinj hs hfix hml (by simp) λi hi=>?_⟩
 ·have:=ht x
  rw [hdd x hx]at this;rcases this with h|h
  ·omega
  trivial
 grind
theorem ren_nr{v:V}(h: ∀id p off len,v≠.rs id p off len)(h2: ∀id p i k,v≠.rp id p i k)(h3: ∀t n f,v≠.many t n f):B2 π n v v:=by
 cases v with
 |rs=>grind
 |rp=>grind
 |many=>grind
 |_=>exact .inr (Sub.refl _)
theorem Pw(hl:l.length=m.length)(h: ∀k,k<l.length->B2 π n (l.getD k .dead) (m.getD k .dead)):B2 π n (Ac l) (Ac m):=by
 unfold Ac;rw [<-hl];exact .inr ⟨_,rfl,h⟩
theorem VF(hl:l.length=m.length)(h: ∀k,k<l.length->B2 π n (l.getD k .dead) (m.getD k .dead)):B2 π n (C8 l) (C8 m):=by
 unfold C8;rw [<-hl];exact .inr ⟨_,rfl,h⟩
theorem YO{t:Tg}(hl:l.length=m.length)(h: ∀k,k<l.length->B2 π n (l.getD k .dead) (m.getD k .dead)):B2 π n (pkL t l) (pkL t m):=by
 unfold pkL;rw [<-hl];exact .inr ⟨_,rfl,h⟩
end Go.Ve

