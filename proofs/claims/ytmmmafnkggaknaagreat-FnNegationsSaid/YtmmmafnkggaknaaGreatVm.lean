/- A store into an owned tree. -/
import Derived.Test.YtmmmafnkggaknaaGreatVi
set_option linter.all false
namespace Go.Ve
variable{cts:Array Value}{s:Bool}{C:Ctx}{p:List (Nat×Nat)}{ts σ:List V}{b cap i id k n o off sz:Nat}{F:Nat->Nat->Prop}{f:Nat->Nat->V}{D fp fp1:Nat->Prop}{ρ:Nat->Value}{v:V}{cv x:Value}{w:World}
def DY:∀(p r:List (Nat×Nat)) (v x:V),KV p v->upd (p++r) v x=upd p v (upd r (sub p v) x)
 |[],_,_,_,_=>rfl
 |(i,k)::p,r,.nd s o sz n f,x,h=>by
  obtain⟨_,_,_,h⟩:=h;simp[upd,sub];rw[DY p r _ x h]
 |_::_,_,.c _,_,h=>h.elim
 |_::_,_,.dead,_,h=>h.elim
 |_::_,_,.many ..,_,h=>h.elim
 |_::_,_,.rs ..,_,h=>h.elim
 |_::_,_,.rp ..,_,h=>h.elim
def Jb:∀(p:List (Nat×Nat)) (v x:V),KV p v->sub p (upd p v x)=x
 |[],_,_,_=>rfl
 |(i,k)::p,.nd s o sz n f,x,h=>by
  obtain⟨_,_,_,h⟩:=h;simp[upd,sub,if_true];exact Jb p _ x h
 |_::_,.c _,_,h=>h.elim
 |_::_,.dead,_,h=>h.elim
 |_::_,.many ..,_,h=>h.elim
 |_::_,.rs ..,_,h=>h.elim
 |_::_,.rp ..,_,h=>h.elim
theorem AF{c:Nat}:(w.setCell ⟨b,off,none⟩ x).heap[c]? =if c=b then(w.heap[c]?).map (fun|.cells cs e fz=>.cells (cs.setIfInBounds off x) e fz|o=>o)else w.heap[c]?:=by
 simp[World.setCell,Array.getElem?_modify]
 grind
theorem nd_set(hr:Rel D w noR (.nd s true sz n f) (AC s b o n cap) fp1)(hD:∀c,D c->¬fp1 c)(hi:i<n)(hk:k<sz)
  {x:V}{cx:Value}{g:Nat->Prop} (hx:Rel D (w.setCell ⟨b,o+i*sz+k,none⟩ cx) noR x cx g) (hg:∀c,g c->¬fp1 c):
  ∃fp2,Rel D (w.setCell ⟨b,o+i*sz+k,none⟩ cx) noR (.nd s true sz n λi' k'=>if i'=i/\k'=k then x else f i' k') (AC s b o n cap) fp2/\∀c,fp2 c->fp1 c\/g c:=by
 have e:=Rel.root hr;rcases hr with⟨h0,_⟩|⟨b2,o2,cap2,F,hcv,hcap,hmax,hs1,hc,himm,ho⟩
 .omega
 obtain⟨rfl,rfl,hcc⟩:=Az hcv;obtain⟨⟨cs,T,hb1,hb2⟩,hbF,hFd,hfp⟩:=ho rfl;refine⟨λc=>c=b\/∃i' k',i'<n/\k'<sz/\(if i'=i/\k'=k then g c else F i' k' c),.inr ⟨b,o,cap2,λi' k' c=>if i'=i/\k'=k then g c else F i' k' c,hcv,hcap,hmax,hs1,λi' k' A u=>?_,(λh=>by cases h),λ_=>⟨⟨cs.setIfInBounds (o+i*sz+k) cx,T,?_,by simpa using hb2⟩,λi' k' A u=>?_,λi1 k1 i2 k2 c h1 h2 h3 h4 Z E B=>?_,λ_=>Iff.rfl⟩⟩,?_⟩
 .by_cases J:i'=i/\k'=k
  .obtain⟨rfl,rfl⟩:=J
   obtain⟨y,hy,_⟩:=hc i' k' hi hk;exact⟨cx,World.cell?_setCell_same _ _ _ hy,by simpa using hx⟩
  .obtain⟨y,hy,hry⟩:=hc i' k' A u
   have Z:=OD (i:=i) hk u J;refine⟨y,by rw[World.cell?_setCell_other _ _ _ _ (by intro h;simp at h;try omega)];exact hy,?_⟩
   simp only[J,if_false];refine Rel.mono (λ_ h=>h) (λ_ _ h=>h) _ _ _ (λc hcc=>?_) hry
   rw[AF,if_neg]
   rintro rfl
   rcases hcc with h|h
   .exact hD c h e
   .exact hbF i' k' A u h
 .obtain⟨fz,hz1,hz2⟩:=hb1;exact⟨fz,by rw[AF,if_pos rfl,hz1];rfl,by simpa using hz2⟩
 .by_cases J:i'=i/\k'=k
  .simp only[J,and_self,if_true];exact λh=>hg b h e
  .simp only[J,if_false];exact hbF i' k' A u
 .by_cases W:i1=i/\k1=k<;>by_cases U:i2=i/\k2=k
  .omega
  .simp only[W,and_self,if_true]at E
   simp only[U,if_false]at B;exact hg c E ((hfp c).2 (.inr ⟨i2,k2,h3,h4,B⟩))
  .simp only[U,and_self,if_true]at B
   simp only[W,if_false]at E;exact hg c B ((hfp c).2 (.inr ⟨i1,k1,h1,h2,E⟩))
  .simp only[W,if_false]at E
   simp only[U,if_false]at B;exact hFd i1 k1 i2 k2 c h1 h2 h3 h4 Z E B
 .rintro c (rfl|⟨i',k',A,u,h⟩)
  .exact .inl e
  .by_cases J:i'=i/\k'=k
   .simp only[J,and_self,if_true]at h;exact .inr h
   .simp only[J,if_false]at h;exact .inl ((hfp c).2 (.inr ⟨i',k',A,u,h⟩))
theorem J6(hr:Rel D w noR v cv fp)(hD:∀c,D c->¬fp c)(E:At w p v cv (.nd s true sz n f) (AC s b o n cap))(hi:i<n)(hk:k<sz)
  {x:V}{cx:Value}{g:Nat->Prop} (hx:Rel D w noR x cx g) (hg:∀c,g c->¬fp c):
  ∃W,Rel D (w.setCell ⟨b,o+i*sz+k,none⟩ cx) noR (upd (p++[(i,k)]) v x) cv W/\(∀c,W c->fp c\/g c)/\fp b:=by
 obtain⟨fp1,B,u,J⟩:=DF p v cv fp _ _ hr hD E;have hb:=u b (Rel.root B)
 have Z:Rel D (w.setCell ⟨b,o+i*sz+k,none⟩ cx) noR x cx g:=by
  refine Rel.mono (λ_ h=>h) (λ_ _ h=>h) _ _ _ (λc A=>?_) hx
  rw[AF,if_neg]
  grind
 obtain⟨U,hr2,hs2⟩:=nd_set B (λc A h=>hD c A (u c h)) hi hk Z (λc A h=>hg c A (u c h))
 refine⟨λc=>(fp c/\¬fp1 c)\/U c,?_,λc A=>?_,hb⟩
 .have e:upd (p++[(i,k)]) v x=upd p v (.nd s true sz n λi' k'=>if i'=i/\k'=k then x else f i' k'):=by
   rw[DY p _ v x (At.ok E),<-At.sub E];rfl
  rw[e]
  exact J _ U hr2 (λc A=>(hs2 c A).imp id λh=>hg c h) λc A hn=>by
   rw[AF,if_neg]
   rintro rfl
   exact hn (Rel.root B)
 grind
def AQ(id:Nat)(p:List (Nat×Nat)):V->V
 |.rs id' q off len=>if id'=id/\A9 p q=true then .dead else .rs id' q off len
 |.rp id' q i k=>if id'=id/\A9 p q=true then .dead else .rp id' q i k
 |.many t n f=>.many t n λk=>AQ id p (f k)
 |v=>v
def Bg(id:Nat)(p:List (Nat×Nat)):Ba (AQ id p):=⟨λ_=>rfl,rfl,λ_ _ _ _ _=>rfl,λ_ _ _=>rfl⟩
def Dr:∀ad,ad≠(⟨b,off,none⟩:Addr)->(w.setCell ⟨b,off,none⟩ x).cell? ad=w.cell? ad:=
 λad h=>World.cell?_setCell_other _ _ _ _ (Ne.symm h)
theorem Fr.setCell{w0 w:World}{W:Nat->Prop}(h:Fr w0 w W){b off:Nat}{x:Value}(A:W b\/w0.heap.size<=b):Fr w0 (w.setCell ⟨b,off,none⟩ x) W:=
 ⟨h.os,h.tape,h.output,by simpa using h.size,λc u e=>by
  rw[AF,if_neg]
  .exact h.block c u e
  grind,h.drawn⟩
theorem CR.store_gen(h:CR C σ ts cts w D ρ F){p:List (Nat×Nat)}{s:Bool}{sz n:Nat}{f:Nat->Nat->V}{b o cap i k:Nat}(hid:id<σ.length)
  (hat:At w p (σ.getD id .dead) (ρ id) (.nd s true sz n f) (AC s b o n cap)) (hi:i<n) (hk:k<sz) {x:V}{cx:Value} (htree:∃fp',Rel D (w.setCell ⟨b,o+i*sz+k,none⟩ cx) noR (upd (p++[(i,k)]) (σ.getD id .dead) x) (ρ id) fp'/\(∀c,fp' c->F id c)/\F id b) {G:V->V} (hG:G=AQ id (p++[(i,k)])\/G=(λv=>v)/\∀s' sz' n' f',f i k≠.nd s' true sz' n' f'):
  ∃F',CR C (σ.set id (upd (p++[(i,k)]) (σ.getD id .dead) x)) (ts.map G) cts (w.setCell ⟨b,o+i*sz+k,none⟩ cx) D ρ F':=by
 obtain⟨fp',hr',hsub',hb⟩:=htree
 let F':Nat->Nat->Prop:=λj=>if j=id then fp' else F j
 have Z:∀j c,F' j c->F j c:=by
  intro j c u;simp only[F']at u;split at u
  .rename_i e;subst e;exact hsub' c u
  .exact u
 have hbD:∀c,D c->c≠b:=λc u e=>h.wr.dD id b hb (e▸u)
 have wr':BG (σ.set id (upd (p++[(i,k)]) (σ.getD id .dead) x)) (w.setCell ⟨b,o+i*sz+k,none⟩ cx) D ρ F':=by
  refine⟨λj hj=>?_,λi j c hij h1 h2=>h.wr.disj i j c hij (Z _ _ h1) (Z _ _ h2),λj c u=>h.wr.dD j c (Z _ _ u),λc u=>by simpa [World.setCell]using h.wr.Dlt c u,λj c hj u=>h.wr.out j c (by simpa using hj) (Z _ _ u)⟩
  by_cases he:j=id
  .subst he
   rw[Aq hid];simpa [F']using hr'
  .rw[Ao (Ne.symm he)]
   have hj':j<σ.length:=by simpa using hj
   simp only[F',he,if_false];refine Rel.mono (λ_ h=>h) (λ_ _ h=>h) _ _ _ (λc u=>?_) (h.wr.rel j hj')
   rw[AF,if_neg]
   rintro rfl
   rcases u with u|u
   .exact hbD c u rfl
   .exact h.wr.disj j id c he u hb
 have key:∀(id':Nat) (q:List (Nat×Nat)) (s1:Bool) (A J:Nat) (f1:Nat->Nat->V) (c:Value),id'<σ.length->At w q (σ.getD id' .dead) (ρ id') (.nd s1 true A J f1) c->¬ (id'=id/\A9 (p++[(i,k)]) q=true)->
   ∃f',At (w.setCell ⟨b,o+i*sz+k,none⟩ cx) q ((σ.set id (upd (p++[(i,k)]) (σ.getD id .dead) x)).getD id' .dead) (ρ id') (.nd s1 true A J f') c:=by
  intro id' q s1 A J f1 c B W hn;by_cases he:id'=id
  .subst he
   rw[Aq hid];exact At.store hi hk Dr (λc u=>by rw[AF,if_neg u]) p q _ _ _ (h.wr.rel id' hid) hat (by simpa using hn) W
  .rw[Ao (Ne.symm he)]
   exact⟨f1,At.same (h.wr.rel id' B) W λc u=>by
    rw[AF,if_neg]
    rintro rfl
    exact h.wr.disj id' id c he u hb⟩
 have U:(∀s' sz' n' f',f i k≠.nd s' true sz' n' f')->∀(q:List (Nat×Nat)) (s1:Bool) (A J:Nat) (f1:Nat->Nat->V) (c:Value),At w q (σ.getD id .dead) (ρ id) (.nd s1 true A J f1) c->A9 (p++[(i,k)]) q=true->False:=by
  intro E q s1 A J f1 c W hpre;rw[DD hpre,List.append_assoc]at W;have h1:=At.split W hat;simp only[List.singleton_append]at h1;obtain⟨_,_,_,_,_,y,_,_,h1⟩:=h1;cases hq:q.drop (p++[(i,k)]).length with
  |nil=>rw[hq]at h1;exact E _ _ _ _ h1.1.symm
  |cons a r=>
   rw[hq]at h1;generalize f i k=v at*;cases v with
   |nd s' o' sz' n' f'=>cases o' with
    |true=>exact E _ _ _ _ rfl
    |false=>exact h1.elim
   |_=>exact h1.elim
 have hGm:Ba G:=by
  rcases hG with rfl|⟨rfl,_⟩
  .exact Bg _ _
  .exact⟨λ_=>rfl,rfl,λ_ _ _ _ _=>rfl,λ_ _ _=>rfl⟩
 refine⟨F',⟨wr',by simpa using h.sz,λt ht=>?_,h.fr.setCell (h.Fn id b hb),λj c u=>h.Fn j c (Z _ _ u),h.D1,h.D2,h.rt,by simpa using h.ml⟩⟩
 simp at ht;have e1:(ts.map G).getD t .dead=G (ts.getD t .dead):=by simp[ht]
 rw[e1];refine hGm.rel (λc u=>by rw[AF,if_neg (hbD c u)]) ?_ ?_ _ _ noF (λ_ h=>h) (h.tm t ht)
 .rintro id' q off len cv ⟨B,A,J,f1,cn,W,hle,hcv⟩
  by_cases u:id'=id/\A9 (p++[(i,k)]) q=true
  .rcases hG with rfl|⟨rfl,E⟩
   .simp only[AQ,if_pos u];exact λ_ h=>h
   .obtain⟨rfl,u⟩:=u;exact(U E q _ _ _ _ _ W u).elim
  .obtain⟨f',ha'⟩:=key id' q true A J f1 cn B W u
   have e2:G (.rs id' q off len)=.rs id' q off len:=by
    rcases hG with rfl|⟨rfl,_⟩
    .simp only[AQ,if_neg u]
    .rfl
   rw[e2];exact⟨⟨by simpa using B,A,J,f',cn,ha',hle,hcv⟩,λ_ h=>h⟩
 .rintro id' q i' k' cv ⟨B,s1,A,J,f1,b1,o1,cap1,W,hi',hk',hcv⟩
  by_cases u:id'=id/\A9 (p++[(i,k)]) q=true
  .rcases hG with rfl|⟨rfl,E⟩
   .simp only[AQ,if_pos u];exact λ_ h=>h
   .obtain⟨rfl,u⟩:=u;exact(U E q _ _ _ _ _ W u).elim
  .obtain⟨f',ha'⟩:=key id' q s1 A J f1 _ B W u
   have e2:G (.rp id' q i' k')=.rp id' q i' k':=by
    rcases hG with rfl|⟨rfl,_⟩
    .simp only[AQ,if_neg u]
    .rfl
   rw[e2];exact⟨⟨by simpa using B,s1,A,J,f',b1,o1,cap1,ha',hi',hk',hcv⟩,λ_ h=>h⟩
def CR.store_plain(h:CR C σ ts cts w D ρ F){p:List (Nat×Nat)}{s:Bool}{sz n:Nat}{f:Nat->Nat->V}{b o cap i k:Nat}(u:id<σ.length)
  (B:At w p (σ.getD id .dead) (ρ id) (.nd s true sz n f) (AC s b o n cap)) (Z:i<n) (W:k<sz) {x:V}{cx:Value} (hx:Rel D w noR x cx noF) {G:V->V} (hG:G=AQ id (p++[(i,k)])\/G=(λv=>v)/\∀s' E n' f',f i k≠.nd s' true E n' f'):
  ∃F',CR C (σ.set id (upd (p++[(i,k)]) (σ.getD id .dead) x)) (ts.map G) cts (w.setCell ⟨b,o+i*sz+k,none⟩ cx) D ρ F':=by
 refine h.store_gen u B Z W ?_ hG;obtain⟨U,J,e,hb⟩:=J6 (h.wr.rel id u) (λc A h'=>h.wr.dD id c h' A) B Z W hx (λc A=>A.elim)
 exact⟨U,J,λc A=>(e c A).elim (λh=>h) λh=>h.elim,hb⟩
theorem Og(hr:Rel D w noR (.nd s true sz n f) (AC s b o n cap) fp1)(hD:∀c,D c->¬fp1 c)(hi:i<n)(hk:k<sz)
  {x:V}{cx:Value} (hx:∀y G,w.cell? ⟨b,o+i*sz+k,none⟩=some y->Rel D w noR (f i k) y G->∃g,Rel D w noR x cx g/\∀c,g c->G c):
  ∃fp2,Rel D (w.setCell ⟨b,o+i*sz+k,none⟩ cx) noR (.nd s true sz n λi' k'=>if i'=i/\k'=k then x else f i' k') (AC s b o n cap) fp2/\∀c,fp2 c->fp1 c:=by
 have B:=Rel.root hr;rcases hr with⟨h0,_⟩|⟨b2,o2,cap2,F,hcv,hcap,Z,hs1,hc,himm,ho⟩
 .omega
 obtain⟨rfl,rfl,A⟩:=Az hcv;obtain⟨⟨cs,T,hb1,hb2⟩,hbF,hFd,hfp⟩:=ho rfl;obtain⟨y0,J,U⟩:=hc i k hi hk;obtain⟨g,hg1,hg2⟩:=hx y0 _ J U
 have heap:∀c,(D c\/∃i' k',i'<n/\k'<sz/\F i' k' c)->(w.setCell ⟨b,o+i*sz+k,none⟩ cx).heap[c]? =w.heap[c]?:=λc A=>by
  rw[AF,if_neg]
  rintro rfl
  rcases A with h|⟨i',k',h1,h2,h3⟩
  .exact hD c h B
  .exact hbF i' k' h1 h2 h3
 have sub:∀i' k' c,(if i'=i/\k'=k then g c else F i' k' c)->F i' k' c:=by
  intro i' k' c h;by_cases E:i'=i/\k'=k
  .rw[if_pos E]at h;obtain⟨rfl,rfl⟩:=E;exact hg2 c h
  .rw[if_neg E]at h;exact h
 refine⟨λc=>c=b\/∃i' k',i'<n/\k'<sz/\(if i'=i/\k'=k then g c else F i' k' c),.inr ⟨b,o,cap2,λi' k' c=>if i'=i/\k'=k then g c else F i' k' c,hcv,hcap,Z,hs1,λi' k' u e=>?_,(λh=>by cases h),λ_=>⟨⟨cs.setIfInBounds (o+i*sz+k) cx,T,?_,by simpa using hb2⟩,λi' k' u e h=>hbF i' k' u e (sub _ _ _ h),λi1 k1 i2 k2 c h1 h2 h3 h4 W hF1 hF2=>hFd i1 k1 i2 k2 c h1 h2 h3 h4 W (sub _ _ _ hF1) (sub _ _ _ hF2),λ_=>Iff.rfl⟩⟩,?_⟩
 .by_cases E:i'=i/\k'=k
  .obtain⟨rfl,rfl⟩:=E
   refine⟨cx,World.cell?_setCell_same _ _ _ J,?_⟩;simp only[and_self,if_true];exact Rel.mono (λ_ h=>h) (λ_ _ h=>h) _ _ _ (λc A=>heap c (A.imp id λh=>⟨i',k',u,e,hg2 c h⟩)) hg1
  .obtain⟨y,hy,hry⟩:=hc i' k' u e
   have W:=OD (i:=i) hk e E;refine⟨y,by rw[World.cell?_setCell_other _ _ _ _ (by intro h;simp at h;try omega)];exact hy,?_⟩
   simp only[E,if_false];exact Rel.mono (λ_ h=>h) (λ_ _ h=>h) _ _ _ (λc A=>heap c (A.imp id λh=>⟨i',k',u,e,h⟩)) hry
 .obtain⟨fz,hz1,hz2⟩:=hb1;exact⟨fz,by rw[AF,if_pos rfl,hz1];rfl,by simpa using hz2⟩
 .rintro c (rfl|⟨i',k',u,e,h⟩)
  .exact B
  .exact(hfp c).2 (.inr ⟨i',k',u,e,sub _ _ _ h⟩)
theorem I4(hr:Rel D w noR v cv fp)(hD:∀c,D c->¬fp c)(B:At w p v cv (.nd s true sz n f) (AC s b o n cap))(hi:i<n)(hk:k<sz)
  {x:V}{cx:Value} (hx:∀y G,w.cell? ⟨b,o+i*sz+k,none⟩=some y->Rel D w noR (f i k) y G->∃g,Rel D w noR x cx g/\∀c,g c->G c):
  ∃W,Rel D (w.setCell ⟨b,o+i*sz+k,none⟩ cx) noR (upd (p++[(i,k)]) v x) cv W/\(∀c,W c->fp c)/\fp b:=by
 obtain⟨fp1,A,u,E⟩:=DF p v cv fp _ _ hr hD B;have hb:=u b (Rel.root A);obtain⟨U,hr2,Z⟩:=Og A (λc J h=>hD c J (u c h)) hi hk hx
 refine⟨λc=>(fp c/\¬fp1 c)\/U c,?_,λc J=>?_,hb⟩
 .have e:upd (p++[(i,k)]) v x=upd p v (.nd s true sz n λi' k'=>if i'=i/\k'=k then x else f i' k'):=by
   rw[DY p _ v x (At.ok B),<-At.sub B];rfl
  rw[e]
  exact E _ U hr2 (λc J=>.inl (Z c J)) λc J hn=>by
   rw[AF,if_neg]
   rintro rfl
   exact hn (Rel.root A)
 grind
theorem Rel.part{len:Nat}{cn cx:Value}{G:Nat->Prop}(hr:Rel D w noR (.nd true true sz n f) cn G)(hle:off+len<=n)
  (e:(∃b o cap,cn=AC true b o n cap/\cx=.slice (some ⟨b,o+off*sz,none⟩) len (cap-off))\/(len=0/\∃a:Option (Nat×Nat),cx=.slice (a.map λp=>⟨p.1,p.2,none⟩) 0 0/\(off=0->n=0->cx=cn)/\∀p,a=some p->∃o cap,cn=AC true p.1 o n cap/\o<=p.2/\p.2<=o+cap*sz)):
  ∃g,Rel D w noR (.nd true true sz len λi k=>f (i+off) k) cx g/\∀c,g c->G c:=by
 rcases e with⟨b,o,cap,rfl,rfl⟩|⟨rfl,a,rfl,_,ha⟩
 .rcases hr with⟨_,_,h0,_⟩|⟨b2,o2,Z,F,e,W,B,hs1,hc,J,ho⟩
  .exact absurd h0 BP
  obtain⟨rfl,rfl,u⟩:=Az e;obtain rfl:=u rfl;obtain⟨⟨cs,T,A,hb2⟩,hbF,hFd,hfp⟩:=ho rfl;refine⟨λc=>c=b\/∃i k,i<len/\k<sz/\F (i+off) k c,.inr ⟨b,o+off*sz,cap-off,λi k=>F (i+off) k,rfl,by omega,by omega,(λh=>by cases h),λi k U E=>?_,(λh=>by cases h),λ_=>⟨⟨cs,T,A,?_⟩,λi k U E=>hbF _ _ (by omega) E,λi1 k1 i2 k2 c h1 h2 h3 h4 hne=>hFd _ _ _ _ c (by omega) h2 (by omega) h4 (by omega),λ_=>Iff.rfl⟩⟩,?_⟩
  .obtain⟨y,hy,hry⟩:=hc (i+off) k (by omega) E
   exact⟨y,by rw[<-hy];congr 2;rw[Nat.add_mul];omega,hry⟩
  .have:o+off*sz+(cap-off)*sz=o+cap*sz:=by rw[Nat.add_assoc,<-Nat.add_mul,Nat.add_sub_of_le (by omega)]
   omega
  .rintro c (rfl|⟨i,k,U,E,h⟩)
   .exact(hfp c).2 (.inl rfl)
   .exact(hfp c).2 (.inr ⟨i+off,k,by omega,E,h⟩)
 .cases a with
  |none=>exact⟨noF,.inl ⟨rfl,rfl,.inl rfl,λ_ h=>h⟩,λ_ h=>h.elim⟩
  |some p=>
   obtain⟨o,cap,rfl,h1,h2⟩:=ha p rfl;rcases hr with⟨_,_,h0,_⟩|⟨b2,o2,Z,F,e,W,B,hs1,hc,J,ho⟩
   .exact absurd h0 BP
   obtain⟨rfl,rfl,u⟩:=Az e;obtain rfl:=u rfl;obtain⟨⟨cs,T,A,hb2⟩,hbF,hFd,hfp⟩:=ho rfl;refine⟨λc=>c=p.1\/∃i k,i<0/\k<sz/\noF c,.inr ⟨p.1,p.2,0,λ_ _=>noF,rfl,Nat.le_refl _,Nat.zero_le _,(λh=>by cases h),λi k U=>by omega,(λh=>by cases h),λ_=>⟨⟨cs,T,A,by omega⟩,λi k U=>by omega,λi1 k1 i2 k2 c h=>by omega,λ_=>Iff.rfl⟩⟩,?_⟩
   rintro c (rfl|⟨i,k,U,_⟩)
   .exact(hfp _).2 (.inl rfl)
   .omega
def CR.store_part(h:CR C σ ts cts w D ρ F){p:List (Nat×Nat)}{s:Bool}{sz n:Nat}{f:Nat->Nat->V}{b o cap i k:Nat}(B:id<σ.length)
  (e:At w p (σ.getD id .dead) (ρ id) (.nd s true sz n f) (AC s b o n cap)) (Z:i<n) (W:k<sz) {u n1:Nat}{f1:Nat->Nat->V} (hf:f i k=.nd true true u n1 f1) {off len:Nat}{cx:Value} (hx:Au σ ρ w (.rs id (p++[(i,k)]) off len) cx):
  ∃F',CR C (σ.set id (upd (p++[(i,k)]) (σ.getD id .dead) (.nd true true u len λi k=>f1 (i+off) k))) (ts.map (AQ id (p++[(i,k)]))) cts (w.setCell ⟨b,o+i*sz+k,none⟩ cx) D ρ F':=by
 refine h.store_gen B e Z W ?_ (.inl rfl);refine I4 (h.wr.rel id B) (λc hc h'=>h.wr.dD id c h' hc) e Z W λy G hy A=>?_
 obtain⟨_,sz2,n2,f2,cn,ha,E,J⟩:=hx;have U:=At.split ha e;obtain⟨_,_,b2,o2,cap2,y2,e1,e2,U⟩:=U;obtain⟨rfl,rfl,_⟩:=Az e1;rw[hy]at e2;cases e2;obtain⟨e3,rfl⟩:=U;rw[hf]at e3 A;cases e3;exact Rel.part A E J
def Bm(id:Nat)(p:List (Nat×Nat))(j:Nat):V->V
 |.rs id' q off len=>if id'=j then .rs id (p++q) off len else if id'=id/\A9 p q=true then .dead else .rs id' q off len
 |.rp id' q i k=>if id'=j then .rp id (p++q) i k else if id'=id/\A9 p q=true then .dead else .rp id' q i k
 |.many t n f=>.many t n λk=>Bm id p j (f k)
 |v=>v
def C3(id:Nat)(p:List (Nat×Nat))(j:Nat):Ba (Bm id p j):=⟨λ_=>rfl,rfl,λ_ _ _ _ _=>rfl,λ_ _ _=>rfl⟩
theorem CR.store_move(h:CR C σ ts cts w D ρ F){j:Nat}{p:List (Nat×Nat)}{s:Bool}{sz n:Nat}{f:Nat->Nat->V}{b o cap i k:Nat}(E:id<σ.length)(hj:j<σ.length)(hij:j≠id)
  (J:At w p (σ.getD id .dead) (ρ id) (.nd s true sz n f) (AC s b o n cap)) (hi:i<n) (hk:k<sz):
  ∃F',CR C ((σ.set id (upd (p++[(i,k)]) (σ.getD id .dead) (σ.getD j .dead))).set j .dead) (ts.map (Bm id (p++[(i,k)]) j)) cts (w.setCell ⟨b,o+i*sz+k,none⟩ (ρ j)) D ρ F':=by
 obtain⟨fp',hr',hsub,hb⟩:=J6 (h.wr.rel id E) (λc u h'=>h.wr.dD id c h' u) J hi hk (h.wr.rel j hj) (λc u=>h.wr.disj j id c hij u)
 let F':Nat->Nat->Prop:=λl=>if l=j then noF else if l=id then fp' else F l
 have hF':∀l c,F' l c->(l=id/\(F id c\/F j c))\/(l≠id/\l≠j/\F l c):=by
  intro l c u;simp only[F']at u;split at u
  .exact u.elim
  .split at u
   .rename_i e;subst e;exact .inl ⟨rfl,hsub c u⟩
   .exact .inr ⟨by assumption,by assumption,u⟩
 have hbD:∀c,D c->c≠b:=λc u e=>h.wr.dD id b hb (e▸u)
 have wr':BG ((σ.set id (upd (p++[(i,k)]) (σ.getD id .dead) (σ.getD j .dead))).set j .dead) (w.setCell ⟨b,o+i*sz+k,none⟩ (ρ j)) D ρ F':=by
  refine⟨λl hl=>?_,λl m c hlm W h2=>?_,λl c u=>?_,λc u=>by simpa [World.setCell]using h.wr.Dlt c u,λl c hl u=>?_⟩
  .have hl':l<σ.length:=by simpa using hl
   by_cases he:l=j
   .subst he
    rw[Aq (by simpa using hj)]
    simp only[F',if_true];exact λ_ h=>h
   .rw[Ao (Ne.symm he)]
    by_cases he2:l=id
    .subst he2
     rw[Aq E];simpa [F',he]using hr'
    .rw[Ao (Ne.symm he2)]
     simp only[F',he,he2,if_false];refine Rel.mono (λ_ h=>h) (λ_ _ h=>h) _ _ _ (λc u=>?_) (h.wr.rel l hl')
     rw[AF,if_neg]
     rintro rfl
     rcases u with u|u
     .exact hbD c u rfl
     .exact h.wr.disj l id c he2 u hb
  .rcases hF' _ _ W with⟨e1,g1⟩|⟨h1a,h1b,g1⟩<;>rcases hF' _ _ h2 with⟨e2,g2⟩|⟨h2a,h2b,g2⟩
   .exact hlm (e1.trans e2.symm)
   .rcases g1 with g1|g1
    .exact h.wr.disj _ _ c (Ne.symm h2a) g1 g2
    .exact h.wr.disj _ _ c (Ne.symm h2b) g1 g2
   .rcases g2 with g2|g2
    .exact h.wr.disj _ _ c (Ne.symm h1a) g2 g1
    .exact h.wr.disj _ _ c (Ne.symm h1b) g2 g1
   .exact h.wr.disj _ _ c hlm g1 g2
  .rcases hF' _ _ u with⟨rfl,W|W⟩|⟨_,_,W⟩
   .exact h.wr.dD _ c W
   .exact h.wr.dD _ c W
   .exact h.wr.dD _ c W
  .have hl':σ.length<=l:=by simpa using hl
   rcases hF' _ _ u with⟨rfl,_⟩|⟨_,_,W⟩
   .omega
   .exact h.wr.out l c hl' W
 have Z:((σ.set id (upd (p++[(i,k)]) (σ.getD id .dead) (σ.getD j .dead))).set j .dead).length=σ.length:=by simp
 have hgid:((σ.set id (upd (p++[(i,k)]) (σ.getD id .dead) (σ.getD j .dead))).set j .dead).getD id .dead=upd (p++[(i,k)]) (σ.getD id .dead) (σ.getD j .dead):=by
  rw[Ao hij,Aq E]
 have hnew:At (w.setCell ⟨b,o+i*sz+k,none⟩ (ρ j)) (p++[(i,k)]) (upd (p++[(i,k)]) (σ.getD id .dead) (σ.getD j .dead)) (ρ id) (σ.getD j .dead) (ρ j):=by
  have hpre:A9 (p++[(i,k)]) p=false:=by
   cases hp:A9 (p++[(i,k)]) p with
   |false=>rfl
   |true=>have:=congrArg List.length (DD hp);simp at this
  obtain⟨f1,ha⟩:=At.store (x:=σ.getD j .dead) hi hk Dr (λc u=>by rw[AF,if_neg u]) p p _ _ _ (h.wr.rel id E) J hpre J (w':=w.setCell ⟨b,o+i*sz+k,none⟩ (ρ j))
  have e:=At.sub ha;rw[DY p _ _ _ (At.ok J),Jb p _ _ (At.ok J),<-At.sub J]at e;simp only[upd,V.nd.injEq,true_and]at e;obtain⟨y,hy,_⟩:∃y,w.cell? ⟨b,o+i*sz+k,none⟩=some y/\True:=by
   obtain⟨fp1,hr1,_⟩:=DF (w':=w) p _ _ _ _ _ (h.wr.rel id E) (λb hb h'=>h.wr.dD id b h' hb) J
   rcases hr1 with⟨h0,_⟩|⟨b2,o2,cap2,F2,U,_,_,_,u,_⟩
   .omega
   obtain⟨rfl,rfl,_⟩:=Az U;obtain⟨y,hy,_⟩:=u i k hi hk;exact⟨y,hy,trivial⟩
  refine At.app ha ⟨hi,hk,b,o,cap,ρ j,rfl,World.cell?_setCell_same _ _ _ hy,?_,rfl⟩;rw[e];simp
 have key:∀(id':Nat) (q:List (Nat×Nat)) (s1:Bool) (A n1:Nat) (f1:Nat->Nat->V) (c:Value),id'<σ.length->At w q (σ.getD id' .dead) (ρ id') (.nd s1 true A n1 f1) c->
   (id'=j->At (w.setCell ⟨b,o+i*sz+k,none⟩ (ρ j)) (p++[(i,k)]++q) (upd (p++[(i,k)]) (σ.getD id .dead) (σ.getD j .dead)) (ρ id) (.nd s1 true A n1 f1) c)/\
   (id'≠j->¬ (id'=id/\A9 (p++[(i,k)]) q=true)->∃f',At (w.setCell ⟨b,o+i*sz+k,none⟩ (ρ j)) q (((σ.set id (upd (p++[(i,k)]) (σ.getD id .dead) (σ.getD j .dead))).set j .dead).getD id' .dead) (ρ id') (.nd s1 true A n1 f') c):=by
  intro id' q s1 A n1 f1 c B ha
  have hsame:id'≠id->At (w.setCell ⟨b,o+i*sz+k,none⟩ (ρ j)) q (σ.getD id' .dead) (ρ id') (.nd s1 true A n1 f1) c:=λhe=>At.same (h.wr.rel id' B) ha λc u=>by
   rw[AF,if_neg]
   rintro rfl
   exact h.wr.disj id' id c he u hb
  refine⟨λe=>?_,λhne hn=>?_⟩
  .subst e
   exact At.app hnew (hsame hij)
  .rw[Ao (Ne.symm hne)]
   by_cases he:id'=id
   .subst he
    rw[Aq E];exact At.store hi hk Dr (λc u=>by rw[AF,if_neg u]) p q _ _ _ (h.wr.rel id' E) J (by simpa using hn) ha
   .rw[Ao (Ne.symm he)]
    exact⟨f1,hsame he⟩
 refine⟨F',⟨wr',by simpa using h.sz,λt ht=>?_,h.fr.setCell (h.Fn id b hb),λl c u=>?_,h.D1,h.D2,h.rt,by simpa using h.ml⟩⟩
 .simp at ht
  have e1:(ts.map (Bm id (p++[(i,k)]) j)).getD t .dead=Bm id (p++[(i,k)]) j (ts.getD t .dead):=by simp[ht]
  rw[e1];refine(C3 _ _ _).rel (λc u=>by rw[AF,if_neg (hbD c u)]) ?_ ?_ _ _ noF (λ_ h=>h) (h.tm t ht)
  .rintro id' q off len cv ⟨B,A,n1,f1,cn,ha,hle,U⟩
   obtain⟨k1,k2⟩:=key id' q true A n1 f1 cn B ha;simp only[Bm];split
   .rename_i u
    exact⟨⟨by rw[Z];exact E,A,n1,f1,cn,by rw[hgid];exact k1 u,hle,U⟩,λ_ h=>h⟩
   .rename_i u
    split
    .exact λ_ h=>h
    .rename_i hc2
     obtain⟨f',ha'⟩:=k2 u hc2;exact⟨⟨by rw[Z];exact B,A,n1,f',cn,ha',hle,U⟩,λ_ h=>h⟩
  .rintro id' q i' k' cv ⟨B,s1,A,n1,f1,b1,o1,cap1,ha,hi',hk',U⟩
   obtain⟨k1,k2⟩:=key id' q s1 A n1 f1 _ B ha;simp only[Bm];split
   .rename_i u
    exact⟨⟨by rw[Z];exact E,s1,A,n1,f1,b1,o1,cap1,by rw[hgid];exact k1 u,hi',hk',U⟩,λ_ h=>h⟩
   .rename_i u
    split
    .exact λ_ h=>h
    .rename_i hc2
     obtain⟨f',ha'⟩:=k2 u hc2;exact⟨⟨by rw[Z];exact B,s1,A,n1,f',b1,o1,cap1,ha',hi',hk',U⟩,λ_ h=>h⟩
 .rcases hF' _ _ u with⟨rfl,W|W⟩|⟨_,_,W⟩
  .exact h.Fn _ c W
  .exact h.Fn _ c W
  .exact h.Fn _ c W
end Go.Ve

