/- A store into an owned tree. -/
import Derived.Test.YtojjlnbnneemaaaVi
import Derived.Test.YtojjlnbnneemaaaTw
set_option linter.all false
namespace Go.Ve
variable{cts:Array Value}{s:Bool}{C:Ctx}{p:List (Nat×Nat)}{ts σ:List V}{b cap i id k n o off sz:Nat}{F:Nat->Nat->Prop}{f:Nat->Nat->V}{D fp fp1:Nat->Prop}{ρ:Nat->Value}{v:V}{cv x:Value}{w:World}
def D8:∀(p r:List (Nat×Nat)) (v x:V),Kb p v->upd (p++r) v x=upd p v (upd r (sub p v) x)
 |[],_,_,_,_=>rfl
 |(i,k)::p,r,.nd s o sz n f,x,h=>by
  obtain⟨_,_,_,h⟩:=h;simp[upd,sub];rw[D8 p r _ x h]
 |_::_,_,.c _,_,h=>h.elim
 |_::_,_,.dead,_,h=>h.elim
 |_::_,_,.many ..,_,h=>h.elim
 |_::_,_,.rs ..,_,h=>h.elim
 |_::_,_,.rp ..,_,h=>h.elim
 |_::_,_,.rm ..,_,h=>h.elim
 |_::_,_,.mp ..,_,h=>h.elim
def Ji:∀(p:List (Nat×Nat)) (v x:V),Kb p v->sub p (upd p v x)=x
 |[],_,_,_=>rfl
 |(i,k)::p,.nd s o sz n f,x,h=>by
  obtain⟨_,_,_,h⟩:=h;simp[upd,sub,if_true];exact Ji p _ x h
 |_::_,.c _,_,h=>h.elim
 |_::_,.dead,_,h=>h.elim
 |_::_,.many ..,_,h=>h.elim
 |_::_,.rs ..,_,h=>h.elim
 |_::_,.rp ..,_,h=>h.elim
 |_::_,.rm ..,_,h=>h.elim
 |_::_,.mp ..,_,h=>h.elim
theorem Az{c:Nat}:(w.setCell ⟨b,off,none⟩ x).heap[c]? =if c=b then(w.heap[c]?).map (fun|.cells cs e fz=>.cells (cs.setIfInBounds off x) e fz|o=>o)else w.heap[c]?:=by
 simp[World.setCell,Array.getElem?_modify]
 grind
theorem nd_set(hr:Rel D w noR (.nd s true sz n f) (AC s b o n cap) fp1)(hD:∀c,D c->¬fp1 c)(hi:i<n)(hk:k<sz)
  {x:V}{cx:Value}{g:Nat->Prop} (hx:Rel D (w.setCell ⟨b,o+i*sz+k,none⟩ cx) noR x cx g) (hg:∀c,g c->¬fp1 c):
  ∃fp2,Rel D (w.setCell ⟨b,o+i*sz+k,none⟩ cx) noR (.nd s true sz n λi' k'=>if i'=i/\k'=k then x else f i' k') (AC s b o n cap) fp2/\∀c,fp2 c->fp1 c\/g c:=by
 have u:=Rel.root hr;rcases hr with⟨h0,_⟩|⟨b2,o2,cap2,F,hcv,hcap,Z,hs1,hc,himm,ho⟩
 .omega
 obtain⟨rfl,rfl,hcc⟩:=Aw hcv;obtain⟨⟨cs,T,hb1,hb2⟩,hbF,hFd,hfp⟩:=ho rfl;refine⟨λc=>c=b\/∃i' k',i'<n/\k'<sz/\(if i'=i/\k'=k then g c else F i' k' c),.inr ⟨b,o,cap2,λi' k' c=>if i'=i/\k'=k then g c else F i' k' c,hcv,hcap,Z,hs1,λi' k' B A=>?_,(λh=>by cases h),λ_=>⟨⟨cs.setIfInBounds (o+i*sz+k) cx,T,?_,by simpa using hb2⟩,λi' k' B A=>?_,λi1 k1 i2 k2 c h1 h2 h3 h4 Y J E=>?_,λ_=>Iff.rfl⟩⟩,?_⟩
 .by_cases O:i'=i/\k'=k
  .obtain⟨rfl,rfl⟩:=O
   obtain⟨y,hy,_⟩:=hc i' k' hi hk;exact⟨cx,World.cell?_setCell_same _ _ _ hy,by simpa using hx⟩
  .obtain⟨y,hy,hry⟩:=hc i' k' B A
   have Y:=MF (i:=i) hk A O;refine⟨y,by rw[World.cell?_setCell_other _ _ _ _ (by intro h;simp at h;try omega)];exact hy,?_⟩
   simp only[O,if_false];refine Rel.mono (λ_ h=>h) (λ_ _ h=>h) _ _ _ (λc hcc=>?_) hry
   rw[Az,if_neg]
   rintro rfl
   rcases hcc with h|h
   .exact hD c h u
   .exact hbF i' k' B A h
 .obtain⟨fz,hz1,hz2⟩:=hb1;exact⟨fz,by rw[Az,if_pos rfl,hz1];rfl,by simpa using hz2⟩
 .by_cases O:i'=i/\k'=k
  .simp only[O,and_self,if_true];exact λh=>hg b h u
  .simp only[O,if_false];exact hbF i' k' B A
 .by_cases W:i1=i/\k1=k<;>by_cases U:i2=i/\k2=k
  .omega
  .simp only[W,and_self,if_true]at J
   simp only[U,if_false]at E;exact hg c J ((hfp c).2 (.inr ⟨i2,k2,h3,h4,E⟩))
  .simp only[U,and_self,if_true]at E
   simp only[W,if_false]at J;exact hg c E ((hfp c).2 (.inr ⟨i1,k1,h1,h2,J⟩))
  .simp only[W,if_false]at J
   simp only[U,if_false]at E;exact hFd i1 k1 i2 k2 c h1 h2 h3 h4 Y J E
 .rintro c (rfl|⟨i',k',B,A,h⟩)
  .exact .inl u
  .by_cases O:i'=i/\k'=k
   .simp only[O,and_self,if_true]at h;exact .inr h
   .simp only[O,if_false]at h;exact .inl ((hfp c).2 (.inr ⟨i',k',B,A,h⟩))
theorem Kv(hr:Rel D w noR v cv fp)(hD:∀c,D c->¬fp c)(E:At w p v cv (.nd s true sz n f) (AC s b o n cap))(hi:i<n)(hk:k<sz)
  {x:V}{cx:Value}{g:Nat->Prop} (hx:Rel D w noR x cx g) (hg:∀c,g c->¬fp c):
  ∃U,Rel D (w.setCell ⟨b,o+i*sz+k,none⟩ cx) noR (upd (p++[(i,k)]) v x) cv U/\(∀c,U c->fp c\/g c)/\fp b:=by
 obtain⟨fp1,B,u,J⟩:=C9 p v cv fp _ _ hr hD E;have hb:=u b (Rel.root B)
 have W:Rel D (w.setCell ⟨b,o+i*sz+k,none⟩ cx) noR x cx g:=by
  refine Rel.mono (λ_ h=>h) (λ_ _ h=>h) _ _ _ (λc A=>?_) hx
  rw[Az,if_neg]
  grind
 obtain⟨O,Z,Y⟩:=nd_set B (λc A h=>hD c A (u c h)) hi hk W (λc A h=>hg c A (u c h))
 refine⟨λc=>(fp c/\¬fp1 c)\/O c,?_,λc A=>?_,hb⟩
 .have e:upd (p++[(i,k)]) v x=upd p v (.nd s true sz n λi' k'=>if i'=i/\k'=k then x else f i' k'):=by
   rw[D8 p _ v x (At.ok E),<-At.sub E];rfl
  rw[e]
  exact J _ O Z (λc A=>(Y c A).imp id λh=>hg c h) λc A hn=>by
   rw[Az,if_neg]
   rintro rfl
   exact hn (Rel.root B)
 grind
def AJ(id:Nat)(p:List (Nat×Nat)):V->V
 |.rs id' q off len=>if id'=id/\AT p q=true then .dead else .rs id' q off len
 |.rp id' q i k=>if id'=id/\AT p q=true then .dead else .rp id' q i k
 |.rm id' q=>if id'=id/\AT p q=true then .dead else .rm id' q
 |.many t n f=>.many t n λk=>AJ id p (f k)
 |v=>v
def Ba(id:Nat)(p:List (Nat×Nat)):Bb (AJ id p):=⟨λ_=>rfl,rfl,λ_ _ _ _ _=>rfl,λ_ _=>rfl,λ_ _ _=>rfl⟩
def Cs:∀ad,ad≠(⟨b,off,none⟩:Addr)->(w.setCell ⟨b,off,none⟩ x).cell? ad=w.cell? ad:=
 λad h=>World.cell?_setCell_other _ _ _ _ (Ne.symm h)
theorem Fr.setCell{w0 w:World}{W:Nat->Prop}(h:Fr w0 w W){b off:Nat}{x:Value}(B:W b\/w0.heap.size<=b):Fr w0 (w.setCell ⟨b,off,none⟩ x) W:=
 ⟨h.os,h.tape,h.output,by simpa using h.size,λc A u=>by
  rw[Az,if_neg]
  .exact h.block c A u
  grind,h.drawn⟩
theorem CR.store_gen(h:CR C σ ts cts w D ρ F){p:List (Nat×Nat)}{s:Bool}{sz n:Nat}{f:Nat->Nat->V}{b o cap i k:Nat}(hid:id<σ.length)
  (hat:At w p (σ.getD id .dead) (ρ id) (.nd s true sz n f) (AC s b o n cap)) (hi:i<n) (hk:k<sz) {x:V}{cx:Value} (htree:∃fp',Rel D (w.setCell ⟨b,o+i*sz+k,none⟩ cx) noR (upd (p++[(i,k)]) (σ.getD id .dead) x) (ρ id) fp'/\(∀c,fp' c->F id c)/\F id b) {G:V->V} (hG:G=AJ id (p++[(i,k)])\/G=(λv=>v)/\(∀s' U n' W,f i k≠.nd s' true U n' W)/\∀l,f i k≠.mp true l):
  ∃F',CR C (σ.set id (upd (p++[(i,k)]) (σ.getD id .dead) x)) (ts.map G) cts (w.setCell ⟨b,o+i*sz+k,none⟩ cx) D ρ F':=by
 obtain⟨fp',hr',hsub',hb⟩:=htree
 let F':Nat->Nat->Prop:=λj=>if j=id then fp' else F j
 have hF':∀j c,F' j c->F j c:=by
  intro j c u;simp only[F']at u;split at u
  .rename_i e;subst e;exact hsub' c u
  .exact u
 have hbD:∀c,D c->c≠b:=λc u e=>h.wr.dD id b hb (e▸u)
 have wr':Bu (σ.set id (upd (p++[(i,k)]) (σ.getD id .dead) x)) (w.setCell ⟨b,o+i*sz+k,none⟩ cx) D ρ F':=by
  refine⟨λj hj=>?_,λi j c hij O h2=>h.wr.disj i j c hij (hF' _ _ O) (hF' _ _ h2),λj c u=>h.wr.dD j c (hF' _ _ u),λc u=>by simpa [World.setCell]using h.wr.Dlt c u,λj c hj u=>h.wr.out j c (by simpa using hj) (hF' _ _ u)⟩
  by_cases Z:j=id
  .subst Z
   rw[Aj hid];simpa [F']using hr'
  .rw[Ai (Ne.symm Z)]
   have hj':j<σ.length:=by simpa using hj
   simp only[F',Z,if_false];refine Rel.mono (λ_ h=>h) (λ_ _ h=>h) _ _ _ (λc u=>?_) (h.wr.rel j hj')
   rw[Az,if_neg]
   rintro rfl
   rcases u with u|u
   .exact hbD c u rfl
   .exact h.wr.disj j id c Z u hb
 have key:∀(id':Nat) (q:List (Nat×Nat)) (s1:Bool) (B Y:Nat) (f1:Nat->Nat->V) (c:Value),id'<σ.length->At w q (σ.getD id' .dead) (ρ id') (.nd s1 true B Y f1) c->¬ (id'=id/\AT (p++[(i,k)]) q=true)->
   ∃W,At (w.setCell ⟨b,o+i*sz+k,none⟩ cx) q ((σ.set id (upd (p++[(i,k)]) (σ.getD id .dead) x)).getD id' .dead) (ρ id') (.nd s1 true B Y W) c:=by
  intro id' q s1 B Y f1 c A J hn;by_cases Z:id'=id
  .subst Z
   rw[Aj hid];exact At.store hi hk Cs (λc u=>by rw[Az,if_neg u]) p q _ _ _ (h.wr.rel id' hid) hat (by simpa using hn) J
  .rw[Ai (Ne.symm Z)]
   exact⟨f1,At.same (h.wr.rel id' A) J λc u=>by
    rw[Az,if_neg]
    rintro rfl
    exact h.wr.disj id' id c Z u hb⟩
 have keyM:∀(id':Nat) (q:List (Nat×Nat)) (l:List (Value×Value)) (c:Value),id'<σ.length->At w q (σ.getD id' .dead) (ρ id') (.mp true l) c->¬ (id'=id/\AT (p++[(i,k)]) q=true)->
   At (w.setCell ⟨b,o+i*sz+k,none⟩ cx) q ((σ.set id (upd (p++[(i,k)]) (σ.getD id .dead) x)).getD id' .dead) (ρ id') (.mp true l) c:=by
  intro id' q l c A J hn;by_cases Z:id'=id
  .subst Z
   rw[Aj hid];exact At.storeM hi hk Cs (λc u=>by rw[Az,if_neg u]) p q _ _ _ (h.wr.rel id' hid) hat (by simpa using hn) J
  .rw[Ai (Ne.symm Z)]
   exact At.same (h.wr.rel id' A) J λc u=>by
    rw[Az,if_neg]
    rintro rfl
    exact h.wr.disj id' id c Z u hb
 have nopreM:((∀s' U n' W,f i k≠.nd s' true U n' W)/\∀l,f i k≠.mp true l)->∀(q:List (Nat×Nat)) (l:List (Value×Value)) (c:Value),At w q (σ.getD id .dead) (ρ id) (.mp true l) c->AT (p++[(i,k)]) q=true->False:=by
  intro E q l c J hpre;rw[Cv hpre,List.append_assoc]at J;have O:=At.split J hat;simp only[List.singleton_append]at O;obtain⟨_,_,_,_,_,y,_,_,O⟩:=O;cases hq:q.drop (p++[(i,k)]).length with
  |nil=>rw[hq]at O;exact E.2 _ O.1.symm
  |cons a r=>
   rw[hq]at O;generalize f i k=v at*;cases v with
   |nd s' o' U n' W=>cases o' with
    |true=>exact E.1 _ _ _ _ rfl
    |false=>exact O.elim
   |_=>exact O.elim
 have nopre:(∀s' U n' W,f i k≠.nd s' true U n' W)->∀(q:List (Nat×Nat)) (s1:Bool) (B Y:Nat) (f1:Nat->Nat->V) (c:Value),At w q (σ.getD id .dead) (ρ id) (.nd s1 true B Y f1) c->AT (p++[(i,k)]) q=true->False:=by
  intro E q s1 B Y f1 c J hpre;rw[Cv hpre,List.append_assoc]at J;have O:=At.split J hat;simp only[List.singleton_append]at O;obtain⟨_,_,_,_,_,y,_,_,O⟩:=O;cases hq:q.drop (p++[(i,k)]).length with
  |nil=>rw[hq]at O;exact E _ _ _ _ O.1.symm
  |cons a r=>
   rw[hq]at O;generalize f i k=v at*;cases v with
   |nd s' o' U n' W=>cases o' with
    |true=>exact E _ _ _ _ rfl
    |false=>exact O.elim
   |_=>exact O.elim
 have hGm:Bb G:=by
  rcases hG with rfl|⟨rfl,_⟩
  .exact Ba _ _
  .exact⟨λ_=>rfl,rfl,λ_ _ _ _ _=>rfl,λ_ _=>rfl,λ_ _ _=>rfl⟩
 refine⟨F',⟨wr',by simpa using h.sz,λt ht=>?_,h.fr.setCell (h.Fn id b hb),λj c u=>h.Fn j c (hF' _ _ u),h.D1,h.D2,h.rt,by simpa using h.ml⟩⟩
 simp at ht;have e1:(ts.map G).getD t .dead=G (ts.getD t .dead):=by simp[ht]
 rw[e1];refine hGm.rel (λc u=>by rw[Az,if_neg (hbD c u)]) ?_ ?_ ?_ _ _ noF (λ_ h=>h) (h.tm t ht)
 .rintro id' q off len cv ⟨A,B,Y,f1,cn,J,hle,hcv⟩
  by_cases u:id'=id/\AT (p++[(i,k)]) q=true
  .rcases hG with rfl|⟨rfl,E⟩
   .simp only[AJ,if_pos u];exact λ_ h=>h
   .obtain⟨rfl,u⟩:=u;exact(nopre E.1 q _ _ _ _ _ J u).elim
  .obtain⟨W,ha'⟩:=key id' q true B Y f1 cn A J u
   have e2:G (.rs id' q off len)=.rs id' q off len:=by
    rcases hG with rfl|⟨rfl,_⟩
    .simp only[AJ,if_neg u]
    .rfl
   rw[e2];exact⟨⟨by simpa using A,B,Y,W,cn,ha',hle,hcv⟩,λ_ h=>h⟩
 .rintro id' q i' k' cv ⟨A,s1,B,Y,f1,b1,o1,cap1,J,hi',hk',hcv⟩
  by_cases u:id'=id/\AT (p++[(i,k)]) q=true
  .rcases hG with rfl|⟨rfl,E⟩
   .simp only[AJ,if_pos u];exact λ_ h=>h
   .obtain⟨rfl,u⟩:=u;exact(nopre E.1 q _ _ _ _ _ J u).elim
  .obtain⟨W,ha'⟩:=key id' q s1 B Y f1 _ A J u
   have e2:G (.rp id' q i' k')=.rp id' q i' k':=by
    rcases hG with rfl|⟨rfl,_⟩
    .simp only[AJ,if_neg u]
    .rfl
   rw[e2];exact⟨⟨by simpa using A,s1,B,Y,W,b1,o1,cap1,ha',hi',hk',hcv⟩,λ_ h=>h⟩
 .rintro id' q cv ⟨A,l,b1,J,hcv⟩
  by_cases u:id'=id/\AT (p++[(i,k)]) q=true
  .rcases hG with rfl|⟨rfl,E⟩
   .simp only[AJ,if_pos u];exact λ_ h=>h
   .obtain⟨rfl,u⟩:=u;exact(nopreM E q _ _ J u).elim
  .have ha':=keyM id' q l _ A J u
   have e2:G (.rm id' q)=.rm id' q:=by
    rcases hG with rfl|⟨rfl,_⟩
    .simp only[AJ,if_neg u]
    .rfl
   rw[e2];exact⟨⟨by simpa using A,l,b1,ha',hcv⟩,λ_ h=>h⟩
def CR.store_plain(h:CR C σ ts cts w D ρ F){p:List (Nat×Nat)}{s:Bool}{sz n:Nat}{f:Nat->Nat->V}{b o cap i k:Nat}(A:id<σ.length)
  (E:At w p (σ.getD id .dead) (ρ id) (.nd s true sz n f) (AC s b o n cap)) (Y:i<n) (W:k<sz) {x:V}{cx:Value} (hx:Rel D w noR x cx noF) {G:V->V} (hG:G=AJ id (p++[(i,k)])\/G=(λv=>v)/\(∀s' J Z f',f i k≠.nd s' true J Z f')/\∀l,f i k≠.mp true l):
  ∃F',CR C (σ.set id (upd (p++[(i,k)]) (σ.getD id .dead) x)) (ts.map G) cts (w.setCell ⟨b,o+i*sz+k,none⟩ cx) D ρ F':=by
 refine h.store_gen A E Y W ?_ hG;obtain⟨U,O,u,hb⟩:=Kv (h.wr.rel id A) (λc B h'=>h.wr.dD id c h' B) E Y W hx (λc B=>B.elim)
 exact⟨U,O,λc B=>(u c B).elim (λh=>h) λh=>h.elim,hb⟩
theorem Pf(hr:Rel D w noR (.nd s true sz n f) (AC s b o n cap) fp1)(hD:∀c,D c->¬fp1 c)(hi:i<n)(hk:k<sz)
  {x:V}{cx:Value} (hx:∀y G,w.cell? ⟨b,o+i*sz+k,none⟩=some y->Rel D w noR (f i k) y G->∃g,Rel D w noR x cx g/\∀c,g c->G c):
  ∃fp2,Rel D (w.setCell ⟨b,o+i*sz+k,none⟩ cx) noR (.nd s true sz n λi' k'=>if i'=i/\k'=k then x else f i' k') (AC s b o n cap) fp2/\∀c,fp2 c->fp1 c:=by
 have E:=Rel.root hr;rcases hr with⟨h0,_⟩|⟨b2,o2,cap2,F,hcv,hcap,Y,hs1,hc,himm,ho⟩
 .omega
 obtain⟨rfl,rfl,B⟩:=Aw hcv;obtain⟨⟨cs,T,hb1,hb2⟩,hbF,hFd,hfp⟩:=ho rfl;obtain⟨y0,O,U⟩:=hc i k hi hk;obtain⟨g,hg1,Z⟩:=hx y0 _ O U
 have heap:∀c,(D c\/∃i' k',i'<n/\k'<sz/\F i' k' c)->(w.setCell ⟨b,o+i*sz+k,none⟩ cx).heap[c]? =w.heap[c]?:=λc B=>by
  rw[Az,if_neg]
  rintro rfl
  rcases B with h|⟨i',k',h1,h2,h3⟩
  .exact hD c h E
  .exact hbF i' k' h1 h2 h3
 have sub:∀i' k' c,(if i'=i/\k'=k then g c else F i' k' c)->F i' k' c:=by
  intro i' k' c h;by_cases J:i'=i/\k'=k
  .rw[if_pos J]at h;obtain⟨rfl,rfl⟩:=J;exact Z c h
  .rw[if_neg J]at h;exact h
 refine⟨λc=>c=b\/∃i' k',i'<n/\k'<sz/\(if i'=i/\k'=k then g c else F i' k' c),.inr ⟨b,o,cap2,λi' k' c=>if i'=i/\k'=k then g c else F i' k' c,hcv,hcap,Y,hs1,λi' k' A u=>?_,(λh=>by cases h),λ_=>⟨⟨cs.setIfInBounds (o+i*sz+k) cx,T,?_,by simpa using hb2⟩,λi' k' A u h=>hbF i' k' A u (sub _ _ _ h),λi1 k1 i2 k2 c h1 h2 h3 h4 W hF1 hF2=>hFd i1 k1 i2 k2 c h1 h2 h3 h4 W (sub _ _ _ hF1) (sub _ _ _ hF2),λ_=>Iff.rfl⟩⟩,?_⟩
 .by_cases J:i'=i/\k'=k
  .obtain⟨rfl,rfl⟩:=J
   refine⟨cx,World.cell?_setCell_same _ _ _ O,?_⟩;simp only[and_self,if_true];exact Rel.mono (λ_ h=>h) (λ_ _ h=>h) _ _ _ (λc B=>heap c (B.imp id λh=>⟨i',k',A,u,Z c h⟩)) hg1
  .obtain⟨y,hy,hry⟩:=hc i' k' A u
   have W:=MF (i:=i) hk u J;refine⟨y,by rw[World.cell?_setCell_other _ _ _ _ (by intro h;simp at h;try omega)];exact hy,?_⟩
   simp only[J,if_false];exact Rel.mono (λ_ h=>h) (λ_ _ h=>h) _ _ _ (λc B=>heap c (B.imp id λh=>⟨i',k',A,u,h⟩)) hry
 .obtain⟨fz,hz1,hz2⟩:=hb1;exact⟨fz,by rw[Az,if_pos rfl,hz1];rfl,by simpa using hz2⟩
 .rintro c (rfl|⟨i',k',A,u,h⟩)
  .exact E
  .exact(hfp c).2 (.inr ⟨i',k',A,u,sub _ _ _ h⟩)
theorem Ja(hr:Rel D w noR v cv fp)(Z:∀c,D c->¬fp c)(B:At w p v cv (.nd s true sz n f) (AC s b o n cap))(hi:i<n)(hk:k<sz)
  {x:V}{cx:Value} (hx:∀y G,w.cell? ⟨b,o+i*sz+k,none⟩=some y->Rel D w noR (f i k) y G->∃g,Rel D w noR x cx g/\∀c,g c->G c):
  ∃U,Rel D (w.setCell ⟨b,o+i*sz+k,none⟩ cx) noR (upd (p++[(i,k)]) v x) cv U/\(∀c,U c->fp c)/\fp b:=by
 obtain⟨fp1,A,u,E⟩:=C9 p v cv fp _ _ hr Z B;have hb:=u b (Rel.root A);obtain⟨O,Y,W⟩:=Pf A (λc J h=>Z c J (u c h)) hi hk hx
 refine⟨λc=>(fp c/\¬fp1 c)\/O c,?_,λc J=>?_,hb⟩
 .have e:upd (p++[(i,k)]) v x=upd p v (.nd s true sz n λi' k'=>if i'=i/\k'=k then x else f i' k'):=by
   rw[D8 p _ v x (At.ok B),<-At.sub B];rfl
  rw[e]
  exact E _ O Y (λc J=>.inl (W c J)) λc J hn=>by
   rw[Az,if_neg]
   rintro rfl
   exact hn (Rel.root A)
 grind
theorem Rel.part{len:Nat}{cn cx:Value}{G:Nat->Prop}(hr:Rel D w noR (.nd true true sz n f) cn G)(hle:off+len<=n)
  (u:(∃b o cap,cn=AC true b o n cap/\cx=.slice (some ⟨b,o+off*sz,none⟩) len (cap-off))\/(len=0/\∃a:Option (Nat×Nat),cx=.slice (a.map λp=>⟨p.1,p.2,none⟩) 0 0/\(off=0->n=0->cx=cn)/\∀p,a=some p->∃o cap,cn=AC true p.1 o n cap/\o<=p.2/\p.2<=o+cap*sz)):
  ∃g,Rel D w noR (.nd true true sz len λi k=>f (i+off) k) cx g/\∀c,g c->G c:=by
 rcases u with⟨b,o,cap,rfl,rfl⟩|⟨rfl,a,rfl,_,ha⟩
 .rcases hr with⟨_,_,h0,_⟩|⟨b2,o2,Y,F,u,W,E,Z,hc,O,ho⟩
  .exact absurd h0 BQ
  obtain⟨rfl,rfl,A⟩:=Aw u;obtain rfl:=A rfl;obtain⟨⟨cs,T,B,hb2⟩,hbF,hFd,hfp⟩:=ho rfl;refine⟨λc=>c=b\/∃i k,i<len/\k<sz/\F (i+off) k c,.inr ⟨b,o+off*sz,cap-off,λi k=>F (i+off) k,rfl,by omega,by omega,(λh=>by cases h),λi k U J=>?_,(λh=>by cases h),λ_=>⟨⟨cs,T,B,?_⟩,λi k U J=>hbF _ _ (by omega) J,λi1 k1 i2 k2 c h1 h2 h3 h4 hne=>hFd _ _ _ _ c (by omega) h2 (by omega) h4 (by omega),λ_=>Iff.rfl⟩⟩,?_⟩
  .obtain⟨y,hy,hry⟩:=hc (i+off) k (by omega) J
   exact⟨y,by rw[<-hy];congr 2;rw[Nat.add_mul];omega,hry⟩
  .have:o+off*sz+(cap-off)*sz=o+cap*sz:=by rw[Nat.add_assoc,<-Nat.add_mul,Nat.add_sub_of_le (by omega)]
   omega
  .rintro c (rfl|⟨i,k,U,J,h⟩)
   .exact(hfp c).2 (.inl rfl)
   .exact(hfp c).2 (.inr ⟨i+off,k,by omega,J,h⟩)
 .cases a with
  |none=>exact⟨noF,.inl ⟨rfl,rfl,.inl rfl,λ_ h=>h⟩,λ_ h=>h.elim⟩
  |some p=>
   obtain⟨o,cap,rfl,h1,h2⟩:=ha p rfl;rcases hr with⟨_,_,h0,_⟩|⟨b2,o2,Y,F,u,W,E,Z,hc,O,ho⟩
   .exact absurd h0 BQ
   obtain⟨rfl,rfl,A⟩:=Aw u;obtain rfl:=A rfl;obtain⟨⟨cs,T,B,hb2⟩,hbF,hFd,hfp⟩:=ho rfl;refine⟨λc=>c=p.1\/∃i k,i<0/\k<sz/\noF c,.inr ⟨p.1,p.2,0,λ_ _=>noF,rfl,Nat.le_refl _,Nat.zero_le _,(λh=>by cases h),λi k U=>by omega,(λh=>by cases h),λ_=>⟨⟨cs,T,B,by omega⟩,λi k U=>by omega,λi1 k1 i2 k2 c h=>by omega,λ_=>Iff.rfl⟩⟩,?_⟩
   rintro c (rfl|⟨i,k,U,_⟩)
   .exact(hfp _).2 (.inl rfl)
   .omega
def CR.store_part(h:CR C σ ts cts w D ρ F){p:List (Nat×Nat)}{s:Bool}{sz n:Nat}{f:Nat->Nat->V}{b o cap i k:Nat}(E:id<σ.length)
  (u:At w p (σ.getD id .dead) (ρ id) (.nd s true sz n f) (AC s b o n cap)) (Y:i<n) (W:k<sz) {A n1:Nat}{Z:Nat->Nat->V} (hf:f i k=.nd true true A n1 Z) {off len:Nat}{cx:Value} (hx:Aq σ ρ w (.rs id (p++[(i,k)]) off len) cx):
  ∃F',CR C (σ.set id (upd (p++[(i,k)]) (σ.getD id .dead) (.nd true true A len λi k=>Z (i+off) k))) (ts.map (AJ id (p++[(i,k)]))) cts (w.setCell ⟨b,o+i*sz+k,none⟩ cx) D ρ F':=by
 refine h.store_gen E u Y W ?_ (.inl rfl);refine Ja (h.wr.rel id E) (λc hc h'=>h.wr.dD id c h' hc) u Y W λy G hy B=>?_
 obtain⟨_,sz2,n2,f2,cn,ha,J,O⟩:=hx;have U:=At.split ha u;obtain⟨_,_,b2,o2,cap2,y2,e1,e2,U⟩:=U;obtain⟨rfl,rfl,_⟩:=Aw e1;rw[hy]at e2;cases e2;obtain⟨e3,rfl⟩:=U;rw[hf]at e3 B;cases e3;exact Rel.part B J O
def A9(id:Nat)(p:List (Nat×Nat))(j:Nat):V->V
 |.rs id' q off len=>if id'=j then .rs id (p++q) off len else if id'=id/\AT p q=true then .dead else .rs id' q off len
 |.rp id' q i k=>if id'=j then .rp id (p++q) i k else if id'=id/\AT p q=true then .dead else .rp id' q i k
 |.rm id' q=>if id'=j then .rm id (p++q)else if id'=id/\AT p q=true then .dead else .rm id' q
 |.many t n f=>.many t n λk=>A9 id p j (f k)
 |v=>v
def De(id:Nat)(p:List (Nat×Nat))(j:Nat):Bb (A9 id p j):=⟨λ_=>rfl,rfl,λ_ _ _ _ _=>rfl,λ_ _=>rfl,λ_ _ _=>rfl⟩
theorem CR.store_move(h:CR C σ ts cts w D ρ F){j:Nat}{p:List (Nat×Nat)}{s:Bool}{sz n:Nat}{f:Nat->Nat->V}{b o cap i k:Nat}(E:id<σ.length)(hj:j<σ.length)(hij:j≠id)
  (W:At w p (σ.getD id .dead) (ρ id) (.nd s true sz n f) (AC s b o n cap)) (hi:i<n) (hk:k<sz):
  ∃F',CR C ((σ.set id (upd (p++[(i,k)]) (σ.getD id .dead) (σ.getD j .dead))).set j .dead) (ts.map (A9 id (p++[(i,k)]) j)) cts (w.setCell ⟨b,o+i*sz+k,none⟩ (ρ j)) D ρ F':=by
 obtain⟨fp',hr',hsub,hb⟩:=Kv (h.wr.rel id E) (λc u h'=>h.wr.dD id c h' u) W hi hk (h.wr.rel j hj) (λc u=>h.wr.disj j id c hij u)
 let F':Nat->Nat->Prop:=λl=>if l=j then noF else if l=id then fp' else F l
 have hF':∀l c,F' l c->(l=id/\(F id c\/F j c))\/(l≠id/\l≠j/\F l c):=by
  intro l c u;simp only[F']at u;split at u
  .exact u.elim
  .split at u
   .rename_i e;subst e;exact .inl ⟨rfl,hsub c u⟩
   .exact .inr ⟨by assumption,by assumption,u⟩
 have hbD:∀c,D c->c≠b:=λc u e=>h.wr.dD id b hb (e▸u)
 have wr':Bu ((σ.set id (upd (p++[(i,k)]) (σ.getD id .dead) (σ.getD j .dead))).set j .dead) (w.setCell ⟨b,o+i*sz+k,none⟩ (ρ j)) D ρ F':=by
  refine⟨λl hl=>?_,λl m c hlm Z h2=>?_,λl c u=>?_,λc u=>by simpa [World.setCell]using h.wr.Dlt c u,λl c hl u=>?_⟩
  .have hl':l<σ.length:=by simpa using hl
   by_cases Y:l=j
   .subst Y
    rw[Aj (by simpa using hj)]
    simp only[F',if_true];exact λ_ h=>h
   .rw[Ai (Ne.symm Y)]
    by_cases he2:l=id
    .subst he2
     rw[Aj E];simpa [F',Y]using hr'
    .rw[Ai (Ne.symm he2)]
     simp only[F',Y,he2,if_false];refine Rel.mono (λ_ h=>h) (λ_ _ h=>h) _ _ _ (λc u=>?_) (h.wr.rel l hl')
     rw[Az,if_neg]
     rintro rfl
     rcases u with u|u
     .exact hbD c u rfl
     .exact h.wr.disj l id c he2 u hb
  .rcases hF' _ _ Z with⟨e1,g1⟩|⟨h1a,h1b,g1⟩<;>rcases hF' _ _ h2 with⟨e2,g2⟩|⟨h2a,h2b,g2⟩
   .exact hlm (e1.trans e2.symm)
   .rcases g1 with g1|g1
    .exact h.wr.disj _ _ c (Ne.symm h2a) g1 g2
    .exact h.wr.disj _ _ c (Ne.symm h2b) g1 g2
   .rcases g2 with g2|g2
    .exact h.wr.disj _ _ c (Ne.symm h1a) g2 g1
    .exact h.wr.disj _ _ c (Ne.symm h1b) g2 g1
   .exact h.wr.disj _ _ c hlm g1 g2
  .rcases hF' _ _ u with⟨rfl,Z|Z⟩|⟨_,_,Z⟩
   .exact h.wr.dD _ c Z
   .exact h.wr.dD _ c Z
   .exact h.wr.dD _ c Z
  .have hl':σ.length<=l:=by simpa using hl
   rcases hF' _ _ u with⟨rfl,_⟩|⟨_,_,Z⟩
   .omega
   .exact h.wr.out l c hl' Z
 have U:((σ.set id (upd (p++[(i,k)]) (σ.getD id .dead) (σ.getD j .dead))).set j .dead).length=σ.length:=by simp
 have hgid:((σ.set id (upd (p++[(i,k)]) (σ.getD id .dead) (σ.getD j .dead))).set j .dead).getD id .dead=upd (p++[(i,k)]) (σ.getD id .dead) (σ.getD j .dead):=by
  rw[Ai hij,Aj E]
 have hnew:At (w.setCell ⟨b,o+i*sz+k,none⟩ (ρ j)) (p++[(i,k)]) (upd (p++[(i,k)]) (σ.getD id .dead) (σ.getD j .dead)) (ρ id) (σ.getD j .dead) (ρ j):=by
  have hpre:AT (p++[(i,k)]) p=false:=by
   cases hp:AT (p++[(i,k)]) p with
   |false=>rfl
   |true=>have:=congrArg List.length (Cv hp);simp at this
  obtain⟨f1,ha⟩:=At.store (x:=σ.getD j .dead) hi hk Cs (λc u=>by rw[Az,if_neg u]) p p _ _ _ (h.wr.rel id E) W hpre W (w':=w.setCell ⟨b,o+i*sz+k,none⟩ (ρ j))
  have e:=At.sub ha;rw[D8 p _ _ _ (At.ok W),Ji p _ _ (At.ok W),<-At.sub W]at e;simp only[upd,V.nd.injEq,true_and]at e;obtain⟨y,hy,_⟩:∃y,w.cell? ⟨b,o+i*sz+k,none⟩=some y/\True:=by
   obtain⟨fp1,hr1,_⟩:=C9 (w':=w) p _ _ _ _ _ (h.wr.rel id E) (λb hb h'=>h.wr.dD id b h' hb) W
   rcases hr1 with⟨h0,_⟩|⟨b2,o2,cap2,F2,O,_,_,_,u,_⟩
   .omega
   obtain⟨rfl,rfl,_⟩:=Aw O;obtain⟨y,hy,_⟩:=u i k hi hk;exact⟨y,hy,trivial⟩
  refine At.app ha ⟨hi,hk,b,o,cap,ρ j,rfl,World.cell?_setCell_same _ _ _ hy,?_,rfl⟩;rw[e];simp
 have key:∀(id':Nat) (q:List (Nat×Nat)) (s1:Bool) (B n1:Nat) (f1:Nat->Nat->V) (c:Value),id'<σ.length->At w q (σ.getD id' .dead) (ρ id') (.nd s1 true B n1 f1) c->
   (id'=j->At (w.setCell ⟨b,o+i*sz+k,none⟩ (ρ j)) (p++[(i,k)]++q) (upd (p++[(i,k)]) (σ.getD id .dead) (σ.getD j .dead)) (ρ id) (.nd s1 true B n1 f1) c)/\
   (id'≠j->¬ (id'=id/\AT (p++[(i,k)]) q=true)->∃f',At (w.setCell ⟨b,o+i*sz+k,none⟩ (ρ j)) q (((σ.set id (upd (p++[(i,k)]) (σ.getD id .dead) (σ.getD j .dead))).set j .dead).getD id' .dead) (ρ id') (.nd s1 true B n1 f') c):=by
  intro id' q s1 B n1 f1 c A ha
  have J:id'≠id->At (w.setCell ⟨b,o+i*sz+k,none⟩ (ρ j)) q (σ.getD id' .dead) (ρ id') (.nd s1 true B n1 f1) c:=λY=>At.same (h.wr.rel id' A) ha λc u=>by
   rw[Az,if_neg]
   rintro rfl
   exact h.wr.disj id' id c Y u hb
  refine⟨λe=>?_,λhne hn=>?_⟩
  .subst e
   exact At.app hnew (J hij)
  .rw[Ai (Ne.symm hne)]
   by_cases Y:id'=id
   .subst Y
    rw[Aj E];exact At.store hi hk Cs (λc u=>by rw[Az,if_neg u]) p q _ _ _ (h.wr.rel id' E) W (by simpa using hn) ha
   .rw[Ai (Ne.symm Y)]
    exact⟨f1,J Y⟩
 have keyM:∀(id':Nat) (q:List (Nat×Nat)) (l:List (Value×Value)) (c:Value),id'<σ.length->At w q (σ.getD id' .dead) (ρ id') (.mp true l) c->
   (id'=j->At (w.setCell ⟨b,o+i*sz+k,none⟩ (ρ j)) (p++[(i,k)]++q) (upd (p++[(i,k)]) (σ.getD id .dead) (σ.getD j .dead)) (ρ id) (.mp true l) c)/\
   (id'≠j->¬ (id'=id/\AT (p++[(i,k)]) q=true)->At (w.setCell ⟨b,o+i*sz+k,none⟩ (ρ j)) q (((σ.set id (upd (p++[(i,k)]) (σ.getD id .dead) (σ.getD j .dead))).set j .dead).getD id' .dead) (ρ id') (.mp true l) c):=by
  intro id' q l c A ha
  have J:id'≠id->At (w.setCell ⟨b,o+i*sz+k,none⟩ (ρ j)) q (σ.getD id' .dead) (ρ id') (.mp true l) c:=λY=>At.same (h.wr.rel id' A) ha λc u=>by
   rw[Az,if_neg]
   rintro rfl
   exact h.wr.disj id' id c Y u hb
  refine⟨λe=>?_,λhne hn=>?_⟩
  .subst e
   exact At.app hnew (J hij)
  .rw[Ai (Ne.symm hne)]
   by_cases Y:id'=id
   .subst Y
    rw[Aj E];exact At.storeM hi hk Cs (λc u=>by rw[Az,if_neg u]) p q _ _ _ (h.wr.rel id' E) W (by simpa using hn) ha
   .rw[Ai (Ne.symm Y)]
    exact J Y
 refine⟨F',⟨wr',by simpa using h.sz,λt ht=>?_,h.fr.setCell (h.Fn id b hb),λl c u=>?_,h.D1,h.D2,h.rt,by simpa using h.ml⟩⟩
 .simp at ht
  have e1:(ts.map (A9 id (p++[(i,k)]) j)).getD t .dead=A9 id (p++[(i,k)]) j (ts.getD t .dead):=by simp[ht]
  rw[e1];refine(De _ _ _).rel (λc u=>by rw[Az,if_neg (hbD c u)]) ?_ ?_ ?_ _ _ noF (λ_ h=>h) (h.tm t ht)
  .rintro id' q off len cv ⟨A,B,n1,f1,cn,ha,hle,O⟩
   obtain⟨k1,k2⟩:=key id' q true B n1 f1 cn A ha;simp only[A9];split
   .rename_i u
    exact⟨⟨by rw[U];exact E,B,n1,f1,cn,by rw[hgid];exact k1 u,hle,O⟩,λ_ h=>h⟩
   .rename_i u
    split
    .exact λ_ h=>h
    .rename_i hc2
     obtain⟨f',ha'⟩:=k2 u hc2;exact⟨⟨by rw[U];exact A,B,n1,f',cn,ha',hle,O⟩,λ_ h=>h⟩
  .rintro id' q i' k' cv ⟨A,s1,B,n1,f1,b1,o1,cap1,ha,hi',hk',O⟩
   obtain⟨k1,k2⟩:=key id' q s1 B n1 f1 _ A ha;simp only[A9];split
   .rename_i u
    exact⟨⟨by rw[U];exact E,s1,B,n1,f1,b1,o1,cap1,by rw[hgid];exact k1 u,hi',hk',O⟩,λ_ h=>h⟩
   .rename_i u
    split
    .exact λ_ h=>h
    .rename_i hc2
     obtain⟨f',ha'⟩:=k2 u hc2;exact⟨⟨by rw[U];exact A,s1,B,n1,f',b1,o1,cap1,ha',hi',hk',O⟩,λ_ h=>h⟩
  .rintro id' q cv ⟨A,l,b1,ha,O⟩
   obtain⟨k1,k2⟩:=keyM id' q l _ A ha;simp only[A9];split
   .rename_i u
    exact⟨⟨by rw[U];exact E,l,b1,by rw[hgid];exact k1 u,O⟩,λ_ h=>h⟩
   .rename_i u
    split
    .exact λ_ h=>h
    .rename_i hc2
     exact⟨⟨by rw[U];exact A,l,b1,k2 u hc2,O⟩,λ_ h=>h⟩
 .rcases hF' _ _ u with⟨rfl,Z|Z⟩|⟨_,_,Z⟩
  .exact h.Fn _ c Z
  .exact h.Fn _ c Z
  .exact h.Fn _ c Z
end Go.Ve


namespace Go.Ve
def At.cells{w w':World}(A:∀ad x,w.cell? ad=some x->w'.cell? ad=some x):∀(p:List (Nat×Nat)) (v:V) (cv:Value) (u:V) (c1:Value),At w p v cv u c1->At w' p v cv u c1
 |[],_,_,_,_,h=>h
 |(i,k)::p,.nd s true sz n f,cv,u,c1,h=>by
  obtain⟨U,O,b,o,cap,x,J,E,B⟩:=h;exact⟨U,O,b,o,cap,x,J,A _ _ E,At.cells A p _ _ _ _ B⟩
 |_::_,.nd _ false _ _ _,_,_,_,h=>h.elim
 |_::_,.c _,_,_,_,h=>h.elim
 |_::_,.dead,_,_,_,h=>h.elim
 |_::_,.many ..,_,_,_,h=>h.elim
 |_::_,.rs ..,_,_,_,h=>h.elim
 |_::_,.rp ..,_,_,_,h=>h.elim
 |_::_,.rm ..,_,_,_,h=>h.elim
 |_::_,.mp ..,_,_,_,h=>h.elim
def At.put{w:World}{x:V}:∀(p:List (Nat×Nat)) (v:V) (cv:Value) (u:V) (c1:Value),At w p v cv u c1->At w p (upd p v x) cv x c1
 |[],_,_,_,_,h=>⟨rfl,h.2⟩
 |(i,k)::p,.nd s true sz n f,cv,u,c1,h=>by
  obtain⟨U,O,b,o,cap,y,J,E,B⟩:=h;have A:=At.put (x:=x) p _ _ _ _ B;exact⟨U,O,b,o,cap,y,J,E,by simpa using A⟩
 |_::_,.nd _ false _ _ _,_,_,_,h=>h.elim
 |_::_,.c _,_,_,_,h=>h.elim
 |_::_,.dead,_,_,_,h=>h.elim
 |_::_,.many ..,_,_,_,h=>h.elim
 |_::_,.rs ..,_,_,_,h=>h.elim
 |_::_,.rp ..,_,_,_,h=>h.elim
 |_::_,.rm ..,_,_,_,h=>h.elim
 |_::_,.mp ..,_,_,_,h=>h.elim
def YS{w:World}{b:Nat}{B es':Array MapEntry}{c c':Nat}(A:w.heap[b]? =some (.map B c))(ad:Addr)(x:Value)(h:w.cell? ad=some x):({w with heap:=w.heap.setIfInBounds b (.map es' c')}:World).cell? ad=some x:=by
 unfold World.cell? at h⊢;by_cases u:ad.block=b
 .subst u
  simp[A]at h
 .simpa [Array.getElem?_setIfInBounds_ne (Ne.symm u)]using h
theorem CR.map_upd{C:Ctx}{σ ts:List V}{cts:Array Value}{w:World}{D:Nat->Prop}{ρ:Nat->Value}{F:Nat->Nat->Prop}(h:CR C σ ts cts w D ρ F){id:Nat}{p:List (Nat×Nat)}{l:List (Value×Value)}{b:Nat}(Z:id<σ.length)
  (hat:At w p (σ.getD id .dead) (ρ id) (.mp true l) (.map (some b))) (es':Array MapEntry) (c':Nat):
  ∃F',CR C (σ.set id (upd p (σ.getD id .dead) (.mp true (es'.toList.map λe=>(e.key,e.val))))) ts cts {w with heap:=w.heap.setIfInBounds b (.map es' c')} D ρ F':=by
 let l':=es'.toList.map λe=>(e.key,e.val)
 let w':World:={w with heap:=w.heap.setIfInBounds b (.map es' c')}
 obtain⟨fp1,hr1,hsub,hput⟩:=C9 (w':=w') p _ _ _ _ _ (h.wr.rel id Z) (λc A h'=>h.wr.dD id c h' A) hat
 obtain⟨b0,e0,⟨es,c,hb0,_⟩,_,hf1⟩:=hr1;cases e0;have hf1:=hf1 rfl;have hb:F id b:=hsub b ((hf1 b).2 rfl);have hlt:b<w.heap.size:=(Array.getElem?_eq_some_iff.1 hb0).1;have O:∀c,c≠b->w'.heap[c]? =w.heap[c]?:=λc A=>by
  show(w.heap.setIfInBounds b _)[c]? =_;rw[Array.getElem?_setIfInBounds_ne (Ne.symm A)]
 have E:=YS (es':=es') (c':=c') hb0;have hsz:w'.heap.size=w.heap.size:=by show(w.heap.setIfInBounds b _).size=_;simp
 have hr':=hput (.mp true l') (λc=>c=b) ⟨b,rfl,⟨es',c',by show(w.heap.setIfInBounds b _)[b]? =_;simp[hlt],rfl⟩,(λe=>by cases e),λ_ x=>Iff.rfl⟩ (λc A=>.inl ((hf1 c).2 A)) λc _ hn=>O c λe=>hn ((hf1 c).2 e)
 let fp':Nat->Prop:=λc=>(F id c/\¬fp1 c)\/c=b
 let F':Nat->Nat->Prop:=λj=>if j=id then fp' else F j
 have hF':∀j c,F' j c->F j c:=by
  intro j c A;simp only[F']at A;split at A
  .rename_i e;subst e;rcases A with A|rfl
   .exact A.1
   .exact hb
  .exact A
 have hbD:∀c,D c->c≠b:=λc A e=>h.wr.dD id b hb (e▸A)
 have wr':Bu (σ.set id (upd p (σ.getD id .dead) (.mp true l'))) w' D ρ F':=by
  refine⟨λj hj=>?_,λi j c hij Y h2=>h.wr.disj i j c hij (hF' _ _ Y) (hF' _ _ h2),λj c A=>h.wr.dD j c (hF' _ _ A),λc A=>by rw[hsz];exact h.wr.Dlt c A,λj c hj A=>h.wr.out j c (by simpa using hj) (hF' _ _ A)⟩
  by_cases he:j=id
  .subst he
   rw[Aj Z];simpa [F',fp']using hr'
  .rw[Ai (Ne.symm he)]
   have hj':j<σ.length:=by simpa using hj
   simp only[F',he,if_false];refine Rel.mono (λ_ h=>h) (λ_ _ h=>h) _ _ _ (λc A=>?_) (h.wr.rel j hj')
   refine O c ?_
   rintro rfl
   rcases A with A|A
   .exact hbD c A rfl
   .exact h.wr.disj j id c he A hb
 have noP:∀(q:List (Nat×Nat)) (v1:V) (c1:Value),At w q (σ.getD id .dead) (ρ id) v1 c1->AT p q=true->q=p/\v1=.mp true l/\c1=.map (some b):=by
  intro q v1 c1 U B;have e:=Cv B;rw[e]at U;have Y:=At.split U hat;cases hq:q.drop p.length with
  |nil=>rw[hq]at Y e;exact⟨by simpa using e,Y.1,Y.2⟩
  |cons a r=>rw[hq]at Y;exact Y.elim
 have key:∀(id':Nat) (q:List (Nat×Nat)) (s1:Bool) (J n1:Nat) (f1:Nat->Nat->V) (c:Value),id'<σ.length->At w q (σ.getD id' .dead) (ρ id') (.nd s1 true J n1 f1) c->
   ∃f',At w' q ((σ.set id (upd p (σ.getD id .dead) (.mp true l'))).getD id' .dead) (ρ id') (.nd s1 true J n1 f') c:=by
  intro id' q s1 J n1 f1 c u U;by_cases he:id'=id
  .subst he
   rw[Aj Z];cases B:AT p q with
   |true=>have:=(noP q _ _ U B).2.1;cases this
   |false=>
    obtain⟨f',Y⟩:=At.keep (x:=.mp true l') p q _ _ (At.ok hat) B U;exact⟨f',At.cells E _ _ _ _ _ Y⟩
  .rw[Ai (Ne.symm he)]
   exact⟨f1,At.cells E _ _ _ _ _ U⟩
 refine⟨F',⟨wr',h.sz,λt ht=>?_,⟨h.fr.os,h.fr.tape,h.fr.output,by rw[hsz];exact h.fr.size,λc A hn=>(O c λe=>by subst e;rcases h.Fn id c hb with Y|Y;exact hn Y;omega).trans (h.fr.block c A hn),h.fr.drawn⟩,λj c A=>h.Fn j c (hF' _ _ A),h.D1,h.D2,h.rt,by simpa using h.ml⟩⟩
 have hGm:Bb (λv:V=>v):=⟨λ_=>rfl,rfl,λ_ _ _ _ _=>rfl,λ_ _=>rfl,λ_ _ _=>rfl⟩
 refine hGm.rel (λc A=>O c (hbD c A)) ?_ ?_ ?_ _ _ noF (λ_ h=>h) (h.tm t ht)
 .rintro id' q off len cv ⟨u,J,n1,f1,cn,U,hle,W⟩
  obtain⟨f',ha'⟩:=key id' q true J n1 f1 cn u U;exact⟨⟨by simpa using u,J,n1,f',cn,ha',hle,W⟩,λ_ h=>h⟩
 .rintro id' q i' k' cv ⟨u,s1,J,n1,f1,b1,o1,cap1,U,hi',hk',W⟩
  obtain⟨f',ha'⟩:=key id' q s1 J n1 f1 _ u U;exact⟨⟨by simpa using u,s1,J,n1,f',b1,o1,cap1,ha',hi',hk',W⟩,λ_ h=>h⟩
 .rintro id' q cv ⟨u,l1,b1,U,W⟩
  by_cases he:id'=id
  .subst he
   cases B:AT p q with
   |true=>
    obtain⟨rfl,e1,e2⟩:=noP q _ _ U B;cases e2;refine⟨⟨by simpa using u,l',b,?_,rfl⟩,λ_ h=>h⟩
    rw[Aj Z];exact At.cells E _ _ _ _ _ (At.put _ _ _ _ _ hat)
   |false=>
    refine⟨⟨by simpa using u,l1,b1,?_,W⟩,λ_ h=>h⟩
    rw[Aj Z];exact At.cells E _ _ _ _ _ (At.keepM p q _ _ (At.ok hat) B U)
  .refine⟨⟨by simpa using u,l1,b1,?_,W⟩,λ_ h=>h⟩
   rw[Ai (Ne.symm he)];exact At.cells E _ _ _ _ _ U
end Go.Ve

