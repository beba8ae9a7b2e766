/- A store into an owned tree. -/
import Derived.Test.YtcpgmjbppfdjbaaDoorVi
namespace Go.Ve
variable{cts:Array Value}{s:Bool}{C:Ctx}{p:List (Nat×Nat)}{ts σ:List V}{b cap i id k n o off sz:Nat}{F:Nat->Nat->Prop}{f:Nat->Nat->V}{D fp fp1:Nat->Prop}{ρ:Nat->Value}{v:V}{cv x:Value}{w:World}
theorem DJ: ∀ (p r:List (Nat×Nat)) (v x:V),Le p v->upd (p++r) v x=upd p v (upd r (sub p v) x)
 | [],_,_,_,_=>rfl
 |(i,k)::p,r,.nd s o sz n f,x,h=>by
  obtain⟨_,_,_,h⟩:=h;simp [upd,sub];rw [DJ p r _ x h]
 |_::_,_,.c _,_,h=>h.elim
 |_::_,_,.dead,_,h=>h.elim
 |_::_,_,.many ..,_,h=>h.elim
 |_::_,_,.rs ..,_,h=>h.elim
 |_::_,_,.rp ..,_,h=>h.elim
theorem I7: ∀ (p:List (Nat×Nat)) (v x:V),Le p v->sub p (upd p v x)=x
 | [],_,_,_=>rfl
 |(i,k)::p,.nd s o sz n f,x,h=>by
  obtain⟨_,_,_,h⟩:=h;simp [upd,sub,if_true];exact I7 p _ x h
 |_::_,.c _,_,h=>h.elim
 |_::_,.dead,_,h=>h.elim
 |_::_,.many ..,_,h=>h.elim
 |_::_,.rs ..,_,h=>h.elim
 |_::_,.rp ..,_,h=>h.elim
theorem Av{c:Nat}:(w.setCell ⟨b,off,none⟩ x).heap[c]? =if c=b then(w.heap[c]?).map (fun| .cells cs e fz=>.cells (cs.setIfInBounds off x) e fz|o=>o)else w.heap[c]?:=by
 simp [World.setCell,Array.getElem?_modify]
 grind
theorem nd_set(hr:Rel D w noR (.nd s true sz n f) (As s b o n cap) fp1)(hD: ∀c,D c->¬fp1 c)(hi:i<n)(hk:k<sz)
  {x:V} {cx:Value} {g:Nat->Prop} (hx:Rel D (w.setCell ⟨b,o+i*sz+k,none⟩ cx) noR x cx g) (hg: ∀c,g c->¬fp1 c):
  ∃fp2,Rel D (w.setCell ⟨b,o+i*sz+k,none⟩ cx) noR (.nd s true sz n λi' k'=>if i'=i/\k'=k then x else f i' k') (As s b o n cap) fp2/\∀c,fp2 c->fp1 c\/g c:=by
 have hroot:=Rel.root hr;rcases hr with⟨h0,_⟩|⟨b2,o2,cap2,F,hcv,hcap,hmax,hs1,hc,himm,ho⟩
 ·omega
 obtain⟨rfl,rfl,hcc⟩:=Ap hcv;obtain⟨⟨cs,T,hb1,hb2⟩,hbF,hFd,hfp⟩:=ho rfl;refine⟨λc=>c=b\/∃i' k',i'<n/\k'<sz/\(if i'=i/\k'=k then g c else F i' k' c),.inr ⟨b,o,cap2,λi' k' c=>if i'=i/\k'=k then g c else F i' k' c,hcv,hcap,hmax,hs1,λi' k' hi' hk'=>?_,(λh=>by cases h),λ_=>⟨⟨cs.setIfInBounds (o+i*sz+k) cx,T,?_,by simpa using hb2⟩,λi' k' hi' hk'=>?_,λi1 k1 i2 k2 c h1 h2 h3 h4 hne hF1 hF2=>?_,λ_=>Iff.rfl⟩⟩,?_⟩
 ·by_cases he:i'=i/\k'=k
  ·obtain⟨rfl,rfl⟩:=he
   obtain⟨y,hy,_⟩:=hc i' k' hi hk;exact⟨cx,World.cell?_setCell_same _ _ _ hy,by simpa using hx⟩
  ·obtain⟨y,hy,hry⟩:=hc i' k' hi' hk'
   have hne:=O5 (i:=i) hk hk' he;refine⟨y,by rw [World.cell?_setCell_other _ _ _ _ (by intro h;simp at h;try omega)];exact hy,?_⟩
   simp only [he,if_false];refine Rel.mono (λ_ h=>h) (λ_ _ h=>h) _ _ _ (λc hcc=>?_) hry
   rw [Av,if_neg]
   rintro rfl
   rcases hcc with h|h
   ·exact hD c h hroot
   ·exact hbF i' k' hi' hk' h
 ·obtain⟨fz,hz1,hz2⟩:=hb1;exact⟨fz,by rw [Av,if_pos rfl,hz1];rfl,by simpa using hz2⟩
 ·by_cases he:i'=i/\k'=k
  ·simp only [he,and_self,if_true];exact λh=>hg b h hroot
  ·simp only [he,if_false];exact hbF i' k' hi' hk'
 ·by_cases he1:i1=i/\k1=k<;>by_cases he2:i2=i/\k2=k
  ·omega
  ·simp only [he1,and_self,if_true]at hF1
   simp only [he2,if_false]at hF2;exact hg c hF1 ((hfp c).2 (.inr ⟨i2,k2,h3,h4,hF2⟩))
  ·simp only [he2,and_self,if_true]at hF2
   simp only [he1,if_false]at hF1;exact hg c hF2 ((hfp c).2 (.inr ⟨i1,k1,h1,h2,hF1⟩))
  ·simp only [he1,if_false]at hF1
   simp only [he2,if_false]at hF2;exact hFd i1 k1 i2 k2 c h1 h2 h3 h4 hne hF1 hF2
 ·rintro c (rfl|⟨i',k',hi',hk',h⟩)
  ·exact .inl hroot
  ·by_cases he:i'=i/\k'=k
   ·simp only [he,and_self,if_true]at h;exact .inr h
   ·simp only [he,if_false]at h;exact .inl ((hfp c).2 (.inr ⟨i',k',hi',hk',h⟩))
theorem Ki(hr:Rel D w noR v cv fp)(hD: ∀c,D c->¬fp c)(hat:At w p v cv (.nd s true sz n f) (As s b o n cap))(hi:i<n)(hk:k<sz)
  {x:V} {cx:Value} {g:Nat->Prop} (hx:Rel D w noR x cx g) (hg: ∀c,g c->¬fp c):
  ∃fp',Rel D (w.setCell ⟨b,o+i*sz+k,none⟩ cx) noR (upd (p++ [(i,k)]) v x) cv fp'/\(∀c,fp' c->fp c\/g c)/\fp b:=by
 obtain⟨fp1,hr1,hsub,hput⟩:=Dt p v cv fp _ _ hr hD hat;have hb:=hsub b (Rel.root hr1)
 have hx':Rel D (w.setCell ⟨b,o+i*sz+k,none⟩ cx) noR x cx g:=by
  refine Rel.mono (λ_ h=>h) (λ_ _ h=>h) _ _ _ (λc hc=>?_) hx
  rw [Av,if_neg]
  grind
 obtain⟨fp2,hr2,hs2⟩:=nd_set hr1 (λc hc h=>hD c hc (hsub c h)) hi hk hx' (λc hc h=>hg c hc (hsub c h))
 refine⟨λc=>(fp c/\¬fp1 c)\/fp2 c,?_,λc hc=>?_,hb⟩
 ·have e:upd (p++ [(i,k)]) v x=upd p v (.nd s true sz n λi' k'=>if i'=i/\k'=k then x else f i' k'):=by
   rw [DJ p _ v x (At.ok hat),<-At.sub hat];rfl
  rw [e]
  exact hput _ fp2 hr2 (λc hc=>(hs2 c hc).imp id λh=>hg c h) λc hc hn=>by
   rw [Av,if_neg]
   rintro rfl
   exact hn (Rel.root hr1)
 grind
def AK(id:Nat)(p:List (Nat×Nat)):V->V
 | .rs id' q off len=>if id'=id/\AW p q=true then .dead else .rs id' q off len
 | .rp id' q i k=>if id'=id/\AW p q=true then .dead else .rp id' q i k
 | .many t n f=>.many t n λk=>AK id p (f k)
 |v=>v
theorem Ba(id:Nat)(p:List (Nat×Nat)):A2 (AK id p):=⟨λ_=>rfl,rfl,λ_ _ _ _ _=>rfl,λ_ _ _=>rfl⟩
theorem De: ∀ad,ad≠(⟨b,off,none⟩:Addr)->(w.setCell ⟨b,off,none⟩ x).cell? ad=w.cell? ad:=
 λad h=>World.cell?_setCell_other _ _ _ _ (Ne.symm h)
theorem Fr.setCell{w0 w:World}{W:Nat->Prop}(h:Fr w0 w W){b off:Nat}{x:Value}(hb:W b\/w0.heap.size<=b):Fr w0 (w.setCell ⟨b,off,none⟩ x) W:=
 ⟨h.os,h.tape,h.output,by simpa using h.size,λc hc hn=>by
  rw [Av,if_neg]
  ·exact h.block c hc hn
  grind,h.drawn⟩
theorem CR.store_gen(h:CR C σ ts cts w D ρ F){p:List (Nat×Nat)}{s:Bool}{sz n:Nat}{f:Nat->Nat->V}{b o cap i k:Nat}(hid:id<σ.length)
  (hat:At w p (σ.getD id .dead) (ρ id) (.nd s true sz n f) (As s b o n cap)) (hi:i<n) (hk:k<sz) {x:V} {cx:Value} (htree: ∃fp',Rel D (w.setCell ⟨b,o+i*sz+k,none⟩ cx) noR (upd (p++ [(i,k)]) (σ.getD id .dead) x) (ρ id) fp'/\(∀c,fp' c->F id c)/\F id b) {G:V->V} (hG:G=AK id (p++ [(i,k)])\/G=(λv=>v)/\∀s' sz' n' f',f i k≠.nd s' true sz' n' f'):
  ∃F',CR C (σ.set id (upd (p++ [(i,k)]) (σ.getD id .dead) x)) (ts.map G) cts (w.setCell ⟨b,o+i*sz+k,none⟩ cx) D ρ F':=by
 obtain⟨fp',hr',hsub',hb⟩:=htree
 let F':Nat->Nat->Prop:=λj=>if j=id then fp' else F j
 have hF': ∀j c,F' j c->F j c:=by
  intro j c hc;simp only [F']at hc;split at hc
  ·rename_i e;subst e;exact hsub' c hc
  ·exact hc
 have hbD: ∀c,D c->c≠b:=λc hc e=>h.wr.dD id b hb (e▸hc)
 have wr':Bj (σ.set id (upd (p++ [(i,k)]) (σ.getD id .dead) x)) (w.setCell ⟨b,o+i*sz+k,none⟩ cx) D ρ F':=by
  refine⟨λj hj=>?_,λi j c hij h1 h2=>h.wr.disj i j c hij (hF' _ _ h1) (hF' _ _ h2),λj c hc=>h.wr.dD j c (hF' _ _ hc),λc hc=>by simpa [World.setCell]using h.wr.Dlt c hc,λj c hj hc=>h.wr.out j c (by simpa using hj) (hF' _ _ hc)⟩
  by_cases he:j=id
  ·subst he
   rw [Af hid];simpa [F']using hr'
  ·rw [Ad (Ne.symm he)]
   have hj':j<σ.length:=by simpa using hj
   simp only [F',he,if_false];refine Rel.mono (λ_ h=>h) (λ_ _ h=>h) _ _ _ (λc hc=>?_) (h.wr.rel j hj')
   rw [Av,if_neg]
   rintro rfl
   rcases hc with hc|hc
   ·exact hbD c hc rfl
   ·exact h.wr.disj j id c he hc hb
 have key: ∀ (id':Nat) (q:List (Nat×Nat)) (s1:Bool) (sz1 n1:Nat) (f1:Nat->Nat->V) (c:Value),id'<σ.length->At w q (σ.getD id' .dead) (ρ id') (.nd s1 true sz1 n1 f1) c->¬ (id'=id/\AW (p++ [(i,k)]) q=true)->
   ∃f',At (w.setCell ⟨b,o+i*sz+k,none⟩ cx) q ((σ.set id (upd (p++ [(i,k)]) (σ.getD id .dead) x)).getD id' .dead) (ρ id') (.nd s1 true sz1 n1 f') c:=by
  intro id' q s1 sz1 n1 f1 c hid' ha hn;by_cases he:id'=id
  ·subst he
   rw [Af hid];exact At.store hi hk De (λc hc=>by rw [Av,if_neg hc]) p q _ _ _ (h.wr.rel id' hid) hat (by simpa using hn) ha
  ·rw [Ad (Ne.symm he)]
   exact⟨f1,At.same (h.wr.rel id' hid') ha λc hc=>by
    rw [Av,if_neg]
    rintro rfl
    exact h.wr.disj id' id c he hc hb⟩
 have nopre:(∀s' sz' n' f',f i k≠.nd s' true sz' n' f')->∀ (q:List (Nat×Nat)) (s1:Bool) (sz1 n1:Nat) (f1:Nat->Nat->V) (c:Value),At w q (σ.getD id .dead) (ρ id) (.nd s1 true sz1 n1 f1) c->AW (p++ [(i,k)]) q=true->False:=by
  intro hnn q s1 sz1 n1 f1 c ha hpre;rw [Dr hpre,List.append_assoc]at ha;have h1:=At.split ha hat;simp only [List.singleton_append]at h1;obtain⟨_,_,_,_,_,y,_,_,h1⟩:=h1;cases hq:q.drop (p++ [(i,k)]).length with
  |nil=>rw [hq]at h1;exact hnn _ _ _ _ h1.1.symm
  |cons a r=>
   rw [hq]at h1;generalize f i k=v at*;cases v with
   |nd s' o' sz' n' f'=>cases o' with
    |true=>exact hnn _ _ _ _ rfl
    |false=>exact h1.elim
   |_=>exact h1.elim
 have hGm:A2 G:=by
  rcases hG with rfl|⟨rfl,_⟩
  ·exact Ba _ _
  ·exact⟨λ_=>rfl,rfl,λ_ _ _ _ _=>rfl,λ_ _ _=>rfl⟩
 refine⟨F',⟨wr',by simpa using h.sz,λt ht=>?_,h.fr.setCell (h.Fn id b hb),λj c hc=>h.Fn j c (hF' _ _ hc),h.D1,h.D2,h.rt,by simpa using h.ml⟩⟩
 simp at ht;have e1:(ts.map G).getD t .dead=G (ts.getD t .dead):=by simp [ht]
 rw [e1];refine hGm.rel (λc hc=>by rw [Av,if_neg (hbD c hc)]) ?_ ?_ _ _ noF (λ_ h=>h) (h.tm t ht)
 ·rintro id' q off len cv ⟨hid',sz1,n1,f1,cn,ha,hle,hcv⟩
  by_cases hc:id'=id/\AW (p++ [(i,k)]) q=true
  ·rcases hG with rfl|⟨rfl,hnn⟩
   ·simp only [AK,if_pos hc];exact λ_ h=>h
   ·obtain⟨rfl,hc⟩:=hc;exact(nopre hnn q _ _ _ _ _ ha hc).elim
  ·obtain⟨f',ha'⟩:=key id' q true sz1 n1 f1 cn hid' ha hc
   have e2:G (.rs id' q off len)= .rs id' q off len:=by
    rcases hG with rfl|⟨rfl,_⟩
    ·simp only [AK,if_neg hc]
    ·rfl
   rw [e2];exact⟨⟨by simpa using hid',sz1,n1,f',cn,ha',hle,hcv⟩,λ_ h=>h⟩
 ·rintro id' q i' k' cv ⟨hid',s1,sz1,n1,f1,b1,o1,cap1,ha,hi',hk',hcv⟩
  by_cases hc:id'=id/\AW (p++ [(i,k)]) q=true
  ·rcases hG with rfl|⟨rfl,hnn⟩
   ·simp only [AK,if_pos hc];exact λ_ h=>h
   ·obtain⟨rfl,hc⟩:=hc;exact(nopre hnn q _ _ _ _ _ ha hc).elim
  ·obtain⟨f',ha'⟩:=key id' q s1 sz1 n1 f1 _ hid' ha hc
   have e2:G (.rp id' q i' k')= .rp id' q i' k':=by
    rcases hG with rfl|⟨rfl,_⟩
    ·simp only [AK,if_neg hc]
    ·rfl
   rw [e2];exact⟨⟨by simpa using hid',s1,sz1,n1,f',b1,o1,cap1,ha',hi',hk',hcv⟩,λ_ h=>h⟩
theorem CR.store_plain(h:CR C σ ts cts w D ρ F){p:List (Nat×Nat)}{s:Bool}{sz n:Nat}{f:Nat->Nat->V}{b o cap i k:Nat}(hid:id<σ.length)
  (hat:At w p (σ.getD id .dead) (ρ id) (.nd s true sz n f) (As s b o n cap)) (hi:i<n) (hk:k<sz) {x:V} {cx:Value} (hx:Rel D w noR x cx noF) {G:V->V} (hG:G=AK id (p++ [(i,k)])\/G=(λv=>v)/\∀s' sz' n' f',f i k≠.nd s' true sz' n' f'):
  ∃F',CR C (σ.set id (upd (p++ [(i,k)]) (σ.getD id .dead) x)) (ts.map G) cts (w.setCell ⟨b,o+i*sz+k,none⟩ cx) D ρ F':=by
 refine h.store_gen hid hat hi hk ?_ hG;obtain⟨fp',hr',hsub,hb⟩:=Ki (h.wr.rel id hid) (λc hc h'=>h.wr.dD id c h' hc) hat hi hk hx (λc hc=>hc.elim)
 exact⟨fp',hr',λc hc=>(hsub c hc).elim (λh=>h) λh=>h.elim,hb⟩
theorem OM(hr:Rel D w noR (.nd s true sz n f) (As s b o n cap) fp1)(hD: ∀c,D c->¬fp1 c)(hi:i<n)(hk:k<sz)
  {x:V} {cx:Value} (hx: ∀y G,w.cell? ⟨b,o+i*sz+k,none⟩=some y->Rel D w noR (f i k) y G->∃g,Rel D w noR x cx g/\∀c,g c->G c):
  ∃fp2,Rel D (w.setCell ⟨b,o+i*sz+k,none⟩ cx) noR (.nd s true sz n λi' k'=>if i'=i/\k'=k then x else f i' k') (As s b o n cap) fp2/\∀c,fp2 c->fp1 c:=by
 have hroot:=Rel.root hr;rcases hr with⟨h0,_⟩|⟨b2,o2,cap2,F,hcv,hcap,hmax,hs1,hc,himm,ho⟩
 ·omega
 obtain⟨rfl,rfl,hcc⟩:=Ap hcv;obtain⟨⟨cs,T,hb1,hb2⟩,hbF,hFd,hfp⟩:=ho rfl;obtain⟨y0,hy0,hry0⟩:=hc i k hi hk;obtain⟨g,hg1,hg2⟩:=hx y0 _ hy0 hry0
 have heap: ∀c,(D c\/∃i' k',i'<n/\k'<sz/\F i' k' c)->(w.setCell ⟨b,o+i*sz+k,none⟩ cx).heap[c]? =w.heap[c]?:=λc hcc=>by
  rw [Av,if_neg]
  rintro rfl
  rcases hcc with h|⟨i',k',h1,h2,h3⟩
  ·exact hD c h hroot
  ·exact hbF i' k' h1 h2 h3
 have sub: ∀i' k' c,(if i'=i/\k'=k then g c else F i' k' c)->F i' k' c:=by
  intro i' k' c h;by_cases he:i'=i/\k'=k
  ·rw [if_pos he]at h;obtain⟨rfl,rfl⟩:=he;exact hg2 c h
  ·rw [if_neg he]at h;exact h
 refine⟨λc=>c=b\/∃i' k',i'<n/\k'<sz/\(if i'=i/\k'=k then g c else F i' k' c),.inr ⟨b,o,cap2,λi' k' c=>if i'=i/\k'=k then g c else F i' k' c,hcv,hcap,hmax,hs1,λi' k' hi' hk'=>?_,(λh=>by cases h),λ_=>⟨⟨cs.setIfInBounds (o+i*sz+k) cx,T,?_,by simpa using hb2⟩,λi' k' hi' hk' h=>hbF i' k' hi' hk' (sub _ _ _ h),λi1 k1 i2 k2 c h1 h2 h3 h4 hne hF1 hF2=>hFd i1 k1 i2 k2 c h1 h2 h3 h4 hne (sub _ _ _ hF1) (sub _ _ _ hF2),λ_=>Iff.rfl⟩⟩,?_⟩
 ·by_cases he:i'=i/\k'=k
  ·obtain⟨rfl,rfl⟩:=he
   refine⟨cx,World.cell?_setCell_same _ _ _ hy0,?_⟩;simp only [and_self,if_true];exact Rel.mono (λ_ h=>h) (λ_ _ h=>h) _ _ _ (λc hcc=>heap c (hcc.imp id λh=>⟨i',k',hi',hk',hg2 c h⟩)) hg1
  ·obtain⟨y,hy,hry⟩:=hc i' k' hi' hk'
   have hne:=O5 (i:=i) hk hk' he;refine⟨y,by rw [World.cell?_setCell_other _ _ _ _ (by intro h;simp at h;try omega)];exact hy,?_⟩
   simp only [he,if_false];exact Rel.mono (λ_ h=>h) (λ_ _ h=>h) _ _ _ (λc hcc=>heap c (hcc.imp id λh=>⟨i',k',hi',hk',h⟩)) hry
 ·obtain⟨fz,hz1,hz2⟩:=hb1;exact⟨fz,by rw [Av,if_pos rfl,hz1];rfl,by simpa using hz2⟩
 ·rintro c (rfl|⟨i',k',hi',hk',h⟩)
  ·exact hroot
  ·exact(hfp c).2 (.inr ⟨i',k',hi',hk',sub _ _ _ h⟩)
theorem I0(hr:Rel D w noR v cv fp)(hD: ∀c,D c->¬fp c)(hat:At w p v cv (.nd s true sz n f) (As s b o n cap))(hi:i<n)(hk:k<sz)
  {x:V} {cx:Value} (hx: ∀y G,w.cell? ⟨b,o+i*sz+k,none⟩=some y->Rel D w noR (f i k) y G->∃g,Rel D w noR x cx g/\∀c,g c->G c):
  ∃fp',Rel D (w.setCell ⟨b,o+i*sz+k,none⟩ cx) noR (upd (p++ [(i,k)]) v x) cv fp'/\(∀c,fp' c->fp c)/\fp b:=by
 obtain⟨fp1,hr1,hsub,hput⟩:=Dt p v cv fp _ _ hr hD hat;have hb:=hsub b (Rel.root hr1);obtain⟨fp2,hr2,hs2⟩:=OM hr1 (λc hc h=>hD c hc (hsub c h)) hi hk hx
 refine⟨λc=>(fp c/\¬fp1 c)\/fp2 c,?_,λc hc=>?_,hb⟩
 ·have e:upd (p++ [(i,k)]) v x=upd p v (.nd s true sz n λi' k'=>if i'=i/\k'=k then x else f i' k'):=by
   rw [DJ p _ v x (At.ok hat),<-At.sub hat];rfl
  rw [e]
  exact hput _ fp2 hr2 (λc hc=>.inl (hs2 c hc)) λc hc hn=>by
   rw [Av,if_neg]
   rintro rfl
   exact hn (Rel.root hr1)
 grind
theorem Rel.part{len:Nat}{cn cx:Value}{G:Nat->Prop}(hr:Rel D w noR (.nd true true sz n f) cn G)(hle:off+len<=n)
  (hcv:(∃b o cap,cn=As true b o n cap/\cx= .slice (some ⟨b,o+off*sz,none⟩) len (cap-off))\/(len=0/\∃a:Option (Nat×Nat),cx= .slice (a.map λp=>⟨p.1,p.2,none⟩) 0 0/\(off=0->n=0->cx=cn)/\∀p,a=some p->∃o cap,cn=As true p.1 o n cap/\o<=p.2/\p.2<=o+cap*sz)):
  ∃g,Rel D w noR (.nd true true sz len λi k=>f (i+off) k) cx g/\∀c,g c->G c:=by
 rcases hcv with⟨b,o,cap,rfl,rfl⟩|⟨rfl,a,rfl,_,ha⟩
 ·rcases hr with⟨_,_,h0,_⟩|⟨b2,o2,cap2,F,hcv,hcap,hmax,hs1,hc,himm,ho⟩
  ·exact absurd h0 By
  obtain⟨rfl,rfl,hcc⟩:=Ap hcv;obtain rfl:=hcc rfl;obtain⟨⟨cs,T,hb1,hb2⟩,hbF,hFd,hfp⟩:=ho rfl;refine⟨λc=>c=b\/∃i k,i<len/\k<sz/\F (i+off) k c,.inr ⟨b,o+off*sz,cap-off,λi k=>F (i+off) k,rfl,by omega,by omega,(λh=>by cases h),λi k hi hk=>?_,(λh=>by cases h),λ_=>⟨⟨cs,T,hb1,?_⟩,λi k hi hk=>hbF _ _ (by omega) hk,λi1 k1 i2 k2 c h1 h2 h3 h4 hne=>hFd _ _ _ _ c (by omega) h2 (by omega) h4 (by omega),λ_=>Iff.rfl⟩⟩,?_⟩
  ·obtain⟨y,hy,hry⟩:=hc (i+off) k (by omega) hk
   exact⟨y,by rw [<-hy];congr 2;rw [Nat.add_mul];omega,hry⟩
  ·have:o+off*sz+(cap-off)*sz=o+cap*sz:=by rw [Nat.add_assoc,<-Nat.add_mul,Nat.add_sub_of_le (by omega)]
   omega
  ·rintro c (rfl|⟨i,k,hi,hk,h⟩)
   ·exact(hfp c).2 (.inl rfl)
   ·exact(hfp c).2 (.inr ⟨i+off,k,by omega,hk,h⟩)
 ·cases a with
  |none=>exact⟨noF,.inl ⟨rfl,rfl,.inl rfl,λ_ h=>h⟩,λ_ h=>h.elim⟩
  |some p=>
   obtain⟨o,cap,rfl,h1,h2⟩:=ha p rfl;rcases hr with⟨_,_,h0,_⟩|⟨b2,o2,cap2,F,hcv,hcap,hmax,hs1,hc,himm,ho⟩
   ·exact absurd h0 By
   obtain⟨rfl,rfl,hcc⟩:=Ap hcv;obtain rfl:=hcc rfl;obtain⟨⟨cs,T,hb1,hb2⟩,hbF,hFd,hfp⟩:=ho rfl;refine⟨λc=>c=p.1\/∃i k,i<0/\k<sz/\noF c,.inr ⟨p.1,p.2,0,λ_ _=>noF,rfl,Nat.le_refl _,Nat.zero_le _,(λh=>by cases h),λi k hi=>by omega,(λh=>by cases h),λ_=>⟨⟨cs,T,hb1,by omega⟩,λi k hi=>by omega,λi1 k1 i2 k2 c h=>by omega,λ_=>Iff.rfl⟩⟩,?_⟩
   rintro c (rfl|⟨i,k,hi,_⟩)
   ·exact(hfp _).2 (.inl rfl)
   ·omega
theorem CR.store_part(h:CR C σ ts cts w D ρ F){p:List (Nat×Nat)}{s:Bool}{sz n:Nat}{f:Nat->Nat->V}{b o cap i k:Nat}(hid:id<σ.length)
  (hat:At w p (σ.getD id .dead) (ρ id) (.nd s true sz n f) (As s b o n cap)) (hi:i<n) (hk:k<sz) {sz1 n1:Nat} {f1:Nat->Nat->V} (hf:f i k= .nd true true sz1 n1 f1) {off len:Nat} {cx:Value} (hx:Ag σ ρ w (.rs id (p++ [(i,k)]) off len) cx):
  ∃F',CR C (σ.set id (upd (p++ [(i,k)]) (σ.getD id .dead) (.nd true true sz1 len λi k=>f1 (i+off) k))) (ts.map (AK id (p++ [(i,k)]))) cts (w.setCell ⟨b,o+i*sz+k,none⟩ cx) D ρ F':=by
 refine h.store_gen hid hat hi hk ?_ (.inl rfl);refine I0 (h.wr.rel id hid) (λc hc h'=>h.wr.dD id c h' hc) hat hi hk λy G hy hry=>?_
 obtain⟨_,sz2,n2,f2,cn,ha,hle,hcv⟩:=hx;have h1:=At.split ha hat;obtain⟨_,_,b2,o2,cap2,y2,e1,e2,h1⟩:=h1;obtain⟨rfl,rfl,_⟩:=Ap e1;rw [hy]at e2;cases e2;obtain⟨e3,rfl⟩:=h1;rw [hf]at e3 hry;cases e3;exact Rel.part hry hle hcv
def A5(id:Nat)(p:List (Nat×Nat))(j:Nat):V->V
 | .rs id' q off len=>if id'=j then .rs id (p++q) off len else if id'=id/\AW p q=true then .dead else .rs id' q off len
 | .rp id' q i k=>if id'=j then .rp id (p++q) i k else if id'=id/\AW p q=true then .dead else .rp id' q i k
 | .many t n f=>.many t n λk=>A5 id p j (f k)
 |v=>v
theorem Cq(id:Nat)(p:List (Nat×Nat))(j:Nat):A2 (A5 id p j):=⟨λ_=>rfl,rfl,λ_ _ _ _ _=>rfl,λ_ _ _=>rfl⟩
theorem CR.store_move(h:CR C σ ts cts w D ρ F){j:Nat}{p:List (Nat×Nat)}{s:Bool}{sz n:Nat}{f:Nat->Nat->V}{b o cap i k:Nat}(hid:id<σ.length)(hj:j<σ.length)(hij:j≠id)
  (hat:At w p (σ.getD id .dead) (ρ id) (.nd s true sz n f) (As s b o n cap)) (hi:i<n) (hk:k<sz):
  ∃F',CR C ((σ.set id (upd (p++ [(i,k)]) (σ.getD id .dead) (σ.getD j .dead))).set j .dead) (ts.map (A5 id (p++ [(i,k)]) j)) cts (w.setCell ⟨b,o+i*sz+k,none⟩ (ρ j)) D ρ F':=by
 obtain⟨fp',hr',hsub,hb⟩:=Ki (h.wr.rel id hid) (λc hc h'=>h.wr.dD id c h' hc) hat hi hk (h.wr.rel j hj) (λc hc=>h.wr.disj j id c hij hc)
 let F':Nat->Nat->Prop:=λl=>if l=j then noF else if l=id then fp' else F l
 have hF': ∀l c,F' l c->(l=id/\(F id c\/F j c))\/(l≠id/\l≠j/\F l c):=by
  intro l c hc;simp only [F']at hc;split at hc
  ·exact hc.elim
  ·split at hc
   ·rename_i e;subst e;exact .inl ⟨rfl,hsub c hc⟩
   ·exact .inr ⟨by assumption,by assumption,hc⟩
 have hbD: ∀c,D c->c≠b:=λc hc e=>h.wr.dD id b hb (e▸hc)
 have wr':Bj ((σ.set id (upd (p++ [(i,k)]) (σ.getD id .dead) (σ.getD j .dead))).set j .dead) (w.setCell ⟨b,o+i*sz+k,none⟩ (ρ j)) D ρ F':=by
  refine⟨λl hl=>?_,λl m c hlm h1 h2=>?_,λl c hc=>?_,λc hc=>by simpa [World.setCell]using h.wr.Dlt c hc,λl c hl hc=>?_⟩
  ·have hl':l<σ.length:=by simpa using hl
   by_cases he:l=j
   ·subst he
    rw [Af (by simpa using hj)]
    simp only [F',if_true];exact λ_ h=>h
   ·rw [Ad (Ne.symm he)]
    by_cases he2:l=id
    ·subst he2
     rw [Af hid];simpa [F',he]using hr'
    ·rw [Ad (Ne.symm he2)]
     simp only [F',he,he2,if_false];refine Rel.mono (λ_ h=>h) (λ_ _ h=>h) _ _ _ (λc hc=>?_) (h.wr.rel l hl')
     rw [Av,if_neg]
     rintro rfl
     rcases hc with hc|hc
     ·exact hbD c hc rfl
     ·exact h.wr.disj l id c he2 hc hb
  ·rcases hF' _ _ h1 with⟨e1,g1⟩|⟨h1a,h1b,g1⟩<;>rcases hF' _ _ h2 with⟨e2,g2⟩|⟨h2a,h2b,g2⟩
   ·exact hlm (e1.trans e2.symm)
   ·rcases g1 with g1|g1
    ·exact h.wr.disj _ _ c (Ne.symm h2a) g1 g2
    ·exact h.wr.disj _ _ c (Ne.symm h2b) g1 g2
   ·rcases g2 with g2|g2
    ·exact h.wr.disj _ _ c (Ne.symm h1a) g2 g1
    ·exact h.wr.disj _ _ c (Ne.symm h1b) g2 g1
   ·exact h.wr.disj _ _ c hlm g1 g2
  ·rcases hF' _ _ hc with⟨rfl,h1|h1⟩|⟨_,_,h1⟩
   ·exact h.wr.dD _ c h1
   ·exact h.wr.dD _ c h1
   ·exact h.wr.dD _ c h1
  ·have hl':σ.length<=l:=by simpa using hl
   rcases hF' _ _ hc with⟨rfl,_⟩|⟨_,_,h1⟩
   ·omega
   ·exact h.wr.out l c hl' h1
 have hlen:((σ.set id (upd (p++ [(i,k)]) (σ.getD id .dead) (σ.getD j .dead))).set j .dead).length=σ.length:=by simp
 have hgid:((σ.set id (upd (p++ [(i,k)]) (σ.getD id .dead) (σ.getD j .dead))).set j .dead).getD id .dead=upd (p++ [(i,k)]) (σ.getD id .dead) (σ.getD j .dead):=by
  rw [Ad hij,Af hid]
 have hnew:At (w.setCell ⟨b,o+i*sz+k,none⟩ (ρ j)) (p++ [(i,k)]) (upd (p++ [(i,k)]) (σ.getD id .dead) (σ.getD j .dead)) (ρ id) (σ.getD j .dead) (ρ j):=by
  have hpre:AW (p++ [(i,k)]) p=false:=by
   cases hp:AW (p++ [(i,k)]) p with
   |false=>rfl
   |true=>have:=congrArg List.length (Dr hp);simp at this
  obtain⟨f1,ha⟩:=At.store (x:=σ.getD j .dead) hi hk De (λc hc=>by rw [Av,if_neg hc]) p p _ _ _ (h.wr.rel id hid) hat hpre hat (w':=w.setCell ⟨b,o+i*sz+k,none⟩ (ρ j))
  have e:=At.sub ha;rw [DJ p _ _ _ (At.ok hat),I7 p _ _ (At.ok hat),<-At.sub hat]at e;simp only [upd,V.nd.injEq,true_and]at e;obtain⟨y,hy,_⟩: ∃y,w.cell? ⟨b,o+i*sz+k,none⟩=some y/\True:=by
   obtain⟨fp1,hr1,_⟩:=Dt (w':=w) p _ _ _ _ _ (h.wr.rel id hid) (λb hb h'=>h.wr.dD id b h' hb) hat
   rcases hr1 with⟨h0,_⟩|⟨b2,o2,cap2,F2,hcv,_,_,_,hc,_⟩
   ·omega
   obtain⟨rfl,rfl,_⟩:=Ap hcv;obtain⟨y,hy,_⟩:=hc i k hi hk;exact⟨y,hy,trivial⟩
  refine At.app ha ⟨hi,hk,b,o,cap,ρ j,rfl,World.cell?_setCell_same _ _ _ hy,?_,rfl⟩;rw [e];simp
 have key: ∀ (id':Nat) (q:List (Nat×Nat)) (s1:Bool) (sz1 n1:Nat) (f1:Nat->Nat->V) (c:Value),id'<σ.length->At w q (σ.getD id' .dead) (ρ id') (.nd s1 true sz1 n1 f1) c->
   (id'=j->At (w.setCell ⟨b,o+i*sz+k,none⟩ (ρ j)) (p++ [(i,k)]++q) (upd (p++ [(i,k)]) (σ.getD id .dead) (σ.getD j .dead)) (ρ id) (.nd s1 true sz1 n1 f1) c)/\
   (id'≠j->¬ (id'=id/\AW (p++ [(i,k)]) q=true)->∃f',At (w.setCell ⟨b,o+i*sz+k,none⟩ (ρ j)) q (((σ.set id (upd (p++ [(i,k)]) (σ.getD id .dead) (σ.getD j .dead))).set j .dead).getD id' .dead) (ρ id') (.nd s1 true sz1 n1 f') c):=by
  intro id' q s1 sz1 n1 f1 c hid' ha
  have hsame:id'≠id->At (w.setCell ⟨b,o+i*sz+k,none⟩ (ρ j)) q (σ.getD id' .dead) (ρ id') (.nd s1 true sz1 n1 f1) c:=λhe=>At.same (h.wr.rel id' hid') ha λc hc=>by
   rw [Av,if_neg]
   rintro rfl
   exact h.wr.disj id' id c he hc hb
  refine⟨λe=>?_,λhne hn=>?_⟩
  ·subst e
   exact At.app hnew (hsame hij)
  ·rw [Ad (Ne.symm hne)]
   by_cases he:id'=id
   ·subst he
    rw [Af hid];exact At.store hi hk De (λc hc=>by rw [Av,if_neg hc]) p q _ _ _ (h.wr.rel id' hid) hat (by simpa using hn) ha
   ·rw [Ad (Ne.symm he)]
    exact⟨f1,hsame he⟩
 refine⟨F',⟨wr',by simpa using h.sz,λt ht=>?_,h.fr.setCell (h.Fn id b hb),λl c hc=>?_,h.D1,h.D2,h.rt,by simpa using h.ml⟩⟩
 ·simp at ht
  have e1:(ts.map (A5 id (p++ [(i,k)]) j)).getD t .dead=A5 id (p++ [(i,k)]) j (ts.getD t .dead):=by simp [ht]
  rw [e1];refine(Cq _ _ _).rel (λc hc=>by rw [Av,if_neg (hbD c hc)]) ?_ ?_ _ _ noF (λ_ h=>h) (h.tm t ht)
  ·rintro id' q off len cv ⟨hid',sz1,n1,f1,cn,ha,hle,hcv⟩
   obtain⟨k1,k2⟩:=key id' q true sz1 n1 f1 cn hid' ha;simp only [A5];split
   ·rename_i hc
    exact⟨⟨by rw [hlen];exact hid,sz1,n1,f1,cn,by rw [hgid];exact k1 hc,hle,hcv⟩,λ_ h=>h⟩
   ·rename_i hc
    split
    ·exact λ_ h=>h
    ·rename_i hc2
     obtain⟨f',ha'⟩:=k2 hc hc2;exact⟨⟨by rw [hlen];exact hid',sz1,n1,f',cn,ha',hle,hcv⟩,λ_ h=>h⟩
  ·rintro id' q i' k' cv ⟨hid',s1,sz1,n1,f1,b1,o1,cap1,ha,hi',hk',hcv⟩
   obtain⟨k1,k2⟩:=key id' q s1 sz1 n1 f1 _ hid' ha;simp only [A5];split
   ·rename_i hc
    exact⟨⟨by rw [hlen];exact hid,s1,sz1,n1,f1,b1,o1,cap1,by rw [hgid];exact k1 hc,hi',hk',hcv⟩,λ_ h=>h⟩
   ·rename_i hc
    split
    ·exact λ_ h=>h
    ·rename_i hc2
     obtain⟨f',ha'⟩:=k2 hc hc2;exact⟨⟨by rw [hlen];exact hid',s1,sz1,n1,f',b1,o1,cap1,ha',hi',hk',hcv⟩,λ_ h=>h⟩
 ·rcases hF' _ _ hc with⟨rfl,h1|h1⟩|⟨_,_,h1⟩
  ·exact h.Fn _ c h1
  ·exact h.Fn _ c h1
  ·exact h.Fn _ c h1
end Go.Ve

