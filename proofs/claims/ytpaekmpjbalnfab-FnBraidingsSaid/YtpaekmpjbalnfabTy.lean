/- The typed machine: trees get other numbers. -/
import Derived.Test.YtpaekmpjbalnfabTt
namespace Go.Ve
def B3(π:Nat->Nat)(n:Nat):V->V->Prop
 | .many t m f,v'=>v'= .dead\/∃g,v'= .many t m g/\∀k,k<m->B3 π n (f k) (g k)
 | .rs id p off len,v'=>v'= .dead\/∃i,i<n/\π i=id/\v'= .rs i p off len
 | .rp id p i k,v'=>v'= .dead\/∃j,j<n/\π j=id/\v'= .rp j p i k
 |v,v'=>v'= .dead\/Sub v v'
theorem B3.dead(π:Nat->Nat)(n:Nat)(v:V):B3 π n v .dead:=by cases v<;>exact .inl rfl
theorem Rel.ren{D:Nat->Prop}{w:World}{σ σ':List V}{ρ:Nat->Value}{π:Nat->Nat}(hπ: ∀i,i<σ'.length->π i<σ.length)(hs: ∀i,i<σ'.length->Sub (σ.getD (π i) .dead) (σ'.getD i .dead)):
  ∀ {v v':V} {cv:Value},B3 π σ'.length v v'->Rel D w (An σ ρ w) v cv noF->Rel D w (An σ' (fun i=>ρ (π i)) w) v' cv noF:=by
 intro v
 induction v with
 |many t n f ih=>
  intro v' cv h hr;rcases h with rfl|⟨g,rfl,h⟩
  ·exact fun _ h=>h
  obtain⟨cs,F,hcv,hn,hr,hd,hf⟩:=hr;have hF: ∀k,k<n->F k=noF:=fun k hk=>Bb fun b hb=>(hf b).2 ⟨k,hk,hb⟩
  exact⟨cs,fun _=>noF,hcv,hn,fun k hk=>ih k (h k hk) (by have:=hr k hk;rw [hF k hk]at this;exact this),fun _ _ _ _ _ _ h=>h.elim,fun b=>⟨fun h=>h.elim,fun⟨_,_,h⟩=>h⟩⟩
 |rs id p off len=>
  intro v' cv h hr;rcases h with rfl|⟨i,hi,rfl,rfl⟩
  ·exact fun _ h=>h
  obtain⟨⟨hid,sz,n,f,cn,ha,r⟩,hf⟩:=hr;obtain⟨f',ha'⟩:=At.sub' (hs i hi) ha;exact⟨⟨hi,sz,n,f',cn,ha',r⟩,hf⟩
 |rp id p i k=>
  intro v' cv h hr;rcases h with rfl|⟨j,hj,rfl,rfl⟩
  ·exact fun _ h=>h
  obtain⟨⟨hid,s,sz,n,f,b,o,cap,ha,r⟩,hf⟩:=hr;obtain⟨f',ha'⟩:=At.sub' (hs j hj) ha;exact⟨⟨hj,s,sz,n,f',b,o,cap,ha',r⟩,hf⟩
 |c v=>
  intro v' cv h hr;rcases h with rfl|h
  ·exact fun _ h=>h
  ·exact Rel.sub h hr
 |dead=>intro v' cv h hr;rcases h with rfl|h;exact fun _ h=>h;cases h;exact fun _ h=>h
 |nd s own sz n f _=>
  intro v' cv h hr;rcases h with rfl|h
  ·exact fun _ h=>h
  ·exact Rel.sub h (show Rel D w (An σ' (fun i=>ρ (π i)) w) (.nd s own sz n f) cv noF from Rel.nd_R hr)
theorem CR.perm{C:Ctx}{σ σ' ts ts':List V}{cts:Array Value}{w:World}{D:Nat->Prop}{ρ:Nat->Value}{F:Nat->Nat->Prop}{π:Nat->Nat}(h:CR C σ ts cts w D ρ F)(hπ: ∀i,i<σ'.length->π i<σ.length)(hinj: ∀i j,i<σ'.length->j<σ'.length->π i=π j->i=j)
  (hs: ∀i,i<σ'.length->Sub (σ.getD (π i) .dead) (σ'.getD i .dead)) (hfix: ∀i,i<C.m->π i=i) (hml:C.m<=σ'.length) (htl:ts'.length=ts.length) (ht: ∀i,i<ts.length->B3 π σ'.length (ts.getD i .dead) (ts'.getD i .dead)):Xg C σ' ts' cts w:=by
 refine⟨D,fun i=>ρ (π i),fun i=>if i<σ'.length then F (π i)else noF,⟨fun i hi=>?_,fun i j b hij h1 h2=>?_,fun i b hb=>?_,h.wr.Dlt,fun i b hi hb=>?_⟩,by rw [h.sz,htl],fun t ht'=>?_,h.fr,fun i b hb=>?_,h.D1,h.D2,fun i hi=>?_,hml⟩
 ·simp only [hi,if_true]
  exact Rel.sub (hs i hi) (h.wr.rel (π i) (hπ i hi))
 ·split at h1
  ·split at h2
   ·rename_i hi hj
    exact h.wr.disj (π i) (π j) b (fun e=>hij (hinj i j hi hj e)) h1 h2
   ·exact h2
  ·exact h1.elim
 ·split at hb
  ·exact h.wr.dD _ b hb
  ·exact hb.elim
 ·rw [if_neg (by omega)]at hb;exact hb.elim
 ·exact Rel.ren hπ hs (ht t (by omega)) (h.tm t (by omega))
 ·split at hb
  ·exact h.Fn _ b hb
  ·exact hb.elim
 ·show ρ (π i)=_
  rw [hfix i hi];exact h.rt i hi
theorem A0.perm{C:Ctx}{N:Nat}{S S':Ms}{a:Act}{w:World}{π:Nat->Nat}(h:A0 C N S a w)(hπ: ∀i,i<S'.σ.length->π i<S.σ.length)(hinj: ∀i j,i<S'.σ.length->j<S'.σ.length->π i=π j->i=j)
  (hs: ∀i,i<S'.σ.length->Sub (S.σ.getD (π i) .dead) (S'.σ.getD i .dead)) (hfix: ∀i,i<C.m->π i=i) (hml:C.m<=S'.σ.length) (ht: ∀i,B3 π S'.σ.length (S.t i) (S'.t i)):A0 C N S' a w:=by
 obtain⟨hd,hdd,D,ρ,F,hcr⟩:=h;refine⟨hd,fun x hx=>?_,hcr.perm hπ hinj hs hfix hml (by simp) fun i hi=>?_⟩
 ·have:=ht x
  rw [hdd x hx]at this;rcases this with h|h
  ·exact h
  ·exact h
 ·have hi:i<N:=by simpa using hi
  rw [AY hi,AY hi];exact ht i
theorem ren_nr{π:Nat->Nat}{n:Nat}{v:V}(h: ∀id p off len,v≠.rs id p off len)(h2: ∀id p i k,v≠.rp id p i k)(h3: ∀t n f,v≠.many t n f):B3 π n v v:=by
 cases v with
 |rs=>exact absurd rfl (h _ _ _ _)
 |rp=>exact absurd rfl (h2 _ _ _ _)
 |many=>exact absurd rfl (h3 _ _ _)
 |_=>exact .inr (Sub.refl _)
theorem PJ{π:Nat->Nat}{n:Nat}{l m:List V}(hl:l.length=m.length)(h: ∀k,k<l.length->B3 π n (l.getD k .dead) (m.getD k .dead)):B3 π n (Ai l) (Ai m):=by
 unfold Ai;rw [<-hl];exact .inr ⟨_,rfl,h⟩
theorem VN{π:Nat->Nat}{n:Nat}{l m:List V}(hl:l.length=m.length)(h: ∀k,k<l.length->B3 π n (l.getD k .dead) (m.getD k .dead)):B3 π n (Df l) (Df m):=by
 unfold Df;rw [<-hl];exact .inr ⟨_,rfl,h⟩
theorem YQ{π:Nat->Nat}{n:Nat}{t:Tg}{l m:List V}(hl:l.length=m.length)(h: ∀k,k<l.length->B3 π n (l.getD k .dead) (m.getD k .dead)):B3 π n (pkL t l) (pkL t m):=by
 unfold pkL;rw [<-hl];exact .inr ⟨_,rfl,h⟩
end Go.Ve

