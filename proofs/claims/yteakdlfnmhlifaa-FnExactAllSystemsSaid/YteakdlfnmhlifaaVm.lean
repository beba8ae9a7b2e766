/- A store into an owned tree. -/
import Derived.Test.YteakdlfnmhlifaaVi
import Derived.Test.YteakdlfnmhlifaaTw
set_option linter.all false
namespace Go.Ve
variable{cts:Array Value}{s:Bool}{C:Ctx}{p:List (Nat×Nat)}{ts σ:List V}{b cap i id k n o off sz:Nat}{F:Nat->Nat->Prop}{f:Nat->Nat->V}{D fp fp1:Nat->Prop}{ρ:Nat->Value}{v:V}{cv x:Value}{w:World}
def Hg:∀(p r:List (Nat×Nat)) (v x:V),KP p v->upd (p++r) v x=upd p v (upd r (sub p v) x)
 |[],_,_,_,_=>rfl
 |(i,k)::p,r,.nd s o sz n f,x,h=>by
  obtain⟨_,_,_,h⟩:=h;simp[upd,sub];rw[Hg p r _ x h]
 |_::_,_,.c _,_,h=>h.elim
 |_::_,_,.dead,_,h=>h.elim
 |_::_,_,.many ..,_,h=>h.elim
 |_::_,_,.rs ..,_,h=>h.elim
 |_::_,_,.rp ..,_,h=>h.elim
 |_::_,_,.rm ..,_,h=>h.elim
 |_::_,_,.mp ..,_,h=>h.elim
def JK:∀(p:List (Nat×Nat)) (v x:V),KP p v->sub p (upd p v x)=x
 |[],_,_,_=>rfl
 |(i,k)::p,.nd s o sz n f,x,h=>by
  obtain⟨_,_,_,h⟩:=h;simp[upd,sub,if_true];exact JK p _ x h
 |_::_,.c _,_,h=>h.elim
 |_::_,.dead,_,h=>h.elim
 |_::_,.many ..,_,h=>h.elim
 |_::_,.rs ..,_,h=>h.elim
 |_::_,.rp ..,_,h=>h.elim
 |_::_,.rm ..,_,h=>h.elim
 |_::_,.mp ..,_,h=>h.elim
theorem Au{c:Nat}:(w.setCell ⟨b,off,none⟩ x).heap[c]? =if c=b then(w.heap[c]?).map (fun|.cells cs e fz=>.cells (cs.setIfInBounds off x) e fz|o=>o)else w.heap[c]?:=by
 simp[World.setCell,Array.getElem?_modify]
 grind
theorem nd_set(hr:Rel D w noR (.nd s true sz n f) (Av s b o n cap) fp1)(hD:∀c,D c->¬fp1 c)(hi:i<n)(hk:k<sz)
  {x:V}{cx:Value}{g:Nat->Prop} (hx:Rel D (w.setCell ⟨b,o+i*sz+k,none⟩ cx) noR x cx g) (hg:∀c,g c->¬fp1 c):
  ∃fp2,Rel D (w.setCell ⟨b,o+i*sz+k,none⟩ cx) noR (.nd s true sz n λi' k'=>if i'=i/\k'=k then x else f i' k') (Av s b o n cap) fp2/\∀c,fp2 c->fp1 c\/g c:=by
 have A:=Rel.root hr;rcases hr with⟨h0,_⟩|⟨b2,o2,cap2,F,hcv,hcap,hmax,hs1,hc,himm,ho⟩
 .omega
 obtain⟨rfl,rfl,hcc⟩:=Am hcv;obtain⟨⟨cs,T,hb1,hb2⟩,hbF,hFd,hfp⟩:=ho rfl;refine⟨λc=>c=b\/∃i' k',i'<n/\k'<sz/\(if i'=i/\k'=k then g c else F i' k' c),.inr ⟨b,o,cap2,λi' k' c=>if i'=i/\k'=k then g c else F i' k' c,hcv,hcap,hmax,hs1,λi' k' H B=>?_,(λh=>by cases h),λ_=>⟨⟨cs.setIfInBounds (o+i*sz+k) cx,T,?_,by simpa using hb2⟩,λi' k' H B=>?_,λi1 k1 i2 k2 c h1 h2 h3 h4 hne W U=>?_,λ_=>Iff.rfl⟩⟩,?_⟩
 .by_cases Y:i'=i/\k'=k
  .obtain⟨rfl,rfl⟩:=Y
   obtain⟨y,hy,_⟩:=hc i' k' hi hk;exact⟨cx,World.cell?_setCell_same _ _ _ hy,by simpa using hx⟩
  .obtain⟨y,hy,hry⟩:=hc i' k' H B
   have hne:=Np (i:=i) hk B Y;refine⟨y,by rw[World.cell?_setCell_other _ _ _ _ (by intro h;simp at h;try omega)];exact hy,?_⟩
   simp only[Y,if_false];refine Rel.mono (λ_ h=>h) (λ_ _ h=>h) _ _ _ (λc hcc=>?_) hry
   rw[Au,if_neg]
   rintro rfl
   rcases hcc with h|h
   .exact hD c h A
   .exact hbF i' k' H B h
 .obtain⟨fz,hz1,hz2⟩:=hb1;exact⟨fz,by rw[Au,if_pos rfl,hz1];rfl,by simpa using hz2⟩
 .by_cases Y:i'=i/\k'=k
  .simp only[Y,and_self,if_true];exact λh=>hg b h A
  .simp only[Y,if_false];exact hbF i' k' H B
 .by_cases he1:i1=i/\k1=k<;>by_cases Z:i2=i/\k2=k
  .omega
  .simp only[he1,and_self,if_true]at W
   simp only[Z,if_false]at U;exact hg c W ((hfp c).2 (.inr ⟨i2,k2,h3,h4,U⟩))
  .simp only[Z,and_self,if_true]at U
   simp only[he1,if_false]at W;exact hg c U ((hfp c).2 (.inr ⟨i1,k1,h1,h2,W⟩))
  .simp only[he1,if_false]at W
   simp only[Z,if_false]at U;exact hFd i1 k1 i2 k2 c h1 h2 h3 h4 hne W U
 .rintro c (rfl|⟨i',k',H,B,h⟩)
  .exact .inl A
  .by_cases Y:i'=i/\k'=k
   .simp only[Y,and_self,if_true]at h;exact .inr h
   .simp only[Y,if_false]at h;exact .inl ((hfp c).2 (.inr ⟨i',k',H,B,h⟩))
theorem Lb(hr:Rel D w noR v cv fp)(hD:∀c,D c->¬fp c)(U:At w p v cv (.nd s true sz n f) (Av s b o n cap))(hi:i<n)(hk:k<sz)
  {x:V}{cx:Value}{g:Nat->Prop} (hx:Rel D w noR x cx g) (hg:∀c,g c->¬fp c):
  ∃Z,Rel D (w.setCell ⟨b,o+i*sz+k,none⟩ cx) noR (upd (p++[(i,k)]) v x) cv Z/\(∀c,Z c->fp c\/g c)/\fp b:=by
 obtain⟨fp1,H,A,W⟩:=Ds p v cv fp _ _ hr hD U;have hb:=A b (Rel.root H)
 have hx':Rel D (w.setCell ⟨b,o+i*sz+k,none⟩ cx) noR x cx g:=by
  refine Rel.mono (λ_ h=>h) (λ_ _ h=>h) _ _ _ (λc B=>?_) hx
  rw[Au,if_neg]
  grind
 obtain⟨Y,hr2,hs2⟩:=nd_set H (λc B h=>hD c B (A c h)) hi hk hx' (λc B h=>hg c B (A c h))
 refine⟨λc=>(fp c/\¬fp1 c)\/Y c,?_,λc B=>?_,hb⟩
 .have e:upd (p++[(i,k)]) v x=upd p v (.nd s true sz n λi' k'=>if i'=i/\k'=k then x else f i' k'):=by
   rw[Hg p _ v x (At.ok U),<-At.sub U];rfl
  rw[e]
  exact W _ Y hr2 (λc B=>(hs2 c B).imp id λh=>hg c h) λc B hn=>by
   rw[Au,if_neg]
   rintro rfl
   exact hn (Rel.root H)
 grind
def AF(id:Nat)(p:List (Nat×Nat)):V->V
 |.rs id' q off len=>if id'=id/\AN p q=true then .dead else .rs id' q off len
 |.rp id' q i k=>if id'=id/\AN p q=true then .dead else .rp id' q i k
 |.rm id' q=>if id'=id/\AN p q=true then .dead else .rm id' q
 |.many t n f=>.many t n λk=>AF id p (f k)
 |v=>v
def A5(id:Nat)(p:List (Nat×Nat)):A9 (AF id p):=⟨λ_=>rfl,rfl,λ_ _ _ _ _=>rfl,λ_ _=>rfl,λ_ _ _=>rfl⟩
def Cg:∀ad,ad≠(⟨b,off,none⟩:Addr)->(w.setCell ⟨b,off,none⟩ x).cell? ad=w.cell? ad:=
 λad h=>World.cell?_setCell_other _ _ _ _ (Ne.symm h)
theorem Fr.setCell{w0 w:World}{W:Nat->Prop}(h:Fr w0 w W){b off:Nat}{x:Value}(H:W b\/w0.heap.size<=b):Fr w0 (w.setCell ⟨b,off,none⟩ x) W:=
 ⟨h.os,h.tape,h.output,by simpa using h.size,λc B A=>by
  rw[Au,if_neg]
  .exact h.block c B A
  grind,h.drawn⟩
theorem CR.store_gen(h:CR C σ ts cts w D ρ F){p:List (Nat×Nat)}{s:Bool}{sz n:Nat}{f:Nat->Nat->V}{b o cap i k:Nat}(hid:id<σ.length)
  (hat:At w p (σ.getD id .dead) (ρ id) (.nd s true sz n f) (Av s b o n cap)) (hi:i<n) (hk:k<sz) {x:V}{cx:Value} (htree:∃fp',Rel D (w.setCell ⟨b,o+i*sz+k,none⟩ cx) noR (upd (p++[(i,k)]) (σ.getD id .dead) x) (ρ id) fp'/\(∀c,fp' c->F id c)/\F id b) {G:V->V} (hG:G=AF id (p++[(i,k)])\/G=(λv=>v)/\(∀s' Z n' f',f i k≠.nd s' true Z n' f')/\∀l,f i k≠.mp true l):
  ∃F',CR C (σ.set id (upd (p++[(i,k)]) (σ.getD id .dead) x)) (ts.map G) cts (w.setCell ⟨b,o+i*sz+k,none⟩ cx) D ρ F':=by
 obtain⟨fp',hr',hsub',hb⟩:=htree
 let F':Nat->Nat->Prop:=λj=>if j=id then fp' else F j
 have hF':∀j c,F' j c->F j c:=by
  intro j c A;simp only[F']at A;split at A
  .rename_i e;subst e;exact hsub' c A
  .exact A
 have hbD:∀c,D c->c≠b:=λc A e=>h.wr.dD id b hb (e▸A)
 have wr':Be (σ.set id (upd (p++[(i,k)]) (σ.getD id .dead) x)) (w.setCell ⟨b,o+i*sz+k,none⟩ cx) D ρ F':=by
  refine⟨λj hj=>?_,λi j c hij Y h2=>h.wr.disj i j c hij (hF' _ _ Y) (hF' _ _ h2),λj c A=>h.wr.dD j c (hF' _ _ A),λc A=>by simpa [World.setCell]using h.wr.Dlt c A,λj c hj A=>h.wr.out j c (by simpa using hj) (hF' _ _ A)⟩
  by_cases he:j=id
  .subst he
   rw[Ag hid];simpa [F']using hr'
  .rw[Ad (Ne.symm he)]
   have hj':j<σ.length:=by simpa using hj
   simp only[F',he,if_false];refine Rel.mono (λ_ h=>h) (λ_ _ h=>h) _ _ _ (λc A=>?_) (h.wr.rel j hj')
   rw[Au,if_neg]
   rintro rfl
   rcases A with A|A
   .exact hbD c A rfl
   .exact h.wr.disj j id c he A hb
 have key:∀(id':Nat) (q:List (Nat×Nat)) (s1:Bool) (H n1:Nat) (f1:Nat->Nat->V) (c:Value),id'<σ.length->At w q (σ.getD id' .dead) (ρ id') (.nd s1 true H n1 f1) c->¬ (id'=id/\AN (p++[(i,k)]) q=true)->
   ∃f',At (w.setCell ⟨b,o+i*sz+k,none⟩ cx) q ((σ.set id (upd (p++[(i,k)]) (σ.getD id .dead) x)).getD id' .dead) (ρ id') (.nd s1 true H n1 f') c:=by
  intro id' q s1 H n1 f1 c B W hn;by_cases he:id'=id
  .subst he
   rw[Ag hid];exact At.store hi hk Cg (λc A=>by rw[Au,if_neg A]) p q _ _ _ (h.wr.rel id' hid) hat (by simpa using hn) W
  .rw[Ad (Ne.symm he)]
   exact⟨f1,At.same (h.wr.rel id' B) W λc A=>by
    rw[Au,if_neg]
    rintro rfl
    exact h.wr.disj id' id c he A hb⟩
 have keyM:∀(id':Nat) (q:List (Nat×Nat)) (l:List (Value×Value)) (c:Value),id'<σ.length->At w q (σ.getD id' .dead) (ρ id') (.mp true l) c->¬ (id'=id/\AN (p++[(i,k)]) q=true)->
   At (w.setCell ⟨b,o+i*sz+k,none⟩ cx) q ((σ.set id (upd (p++[(i,k)]) (σ.getD id .dead) x)).getD id' .dead) (ρ id') (.mp true l) c:=by
  intro id' q l c B W hn;by_cases he:id'=id
  .subst he
   rw[Ag hid];exact At.storeM hi hk Cg (λc A=>by rw[Au,if_neg A]) p q _ _ _ (h.wr.rel id' hid) hat (by simpa using hn) W
  .rw[Ad (Ne.symm he)]
   exact At.same (h.wr.rel id' B) W λc A=>by
    rw[Au,if_neg]
    rintro rfl
    exact h.wr.disj id' id c he A hb
 have nopreM:((∀s' Z n' f',f i k≠.nd s' true Z n' f')/\∀l,f i k≠.mp true l)->∀(q:List (Nat×Nat)) (l:List (Value×Value)) (c:Value),At w q (σ.getD id .dead) (ρ id) (.mp true l) c->AN (p++[(i,k)]) q=true->False:=by
  intro U q l c W hpre;rw[CG hpre,List.append_assoc]at W;have Y:=At.split W hat;simp only[List.singleton_append]at Y;obtain⟨_,_,_,_,_,y,_,_,Y⟩:=Y;cases hq:q.drop (p++[(i,k)]).length with
  |nil=>rw[hq]at Y;exact U.2 _ Y.1.symm
  |cons a r=>
   rw[hq]at Y;generalize f i k=v at*;cases v with
   |nd s' o' Z n' f'=>cases o' with
    |true=>exact U.1 _ _ _ _ rfl
    |false=>exact Y.elim
   |_=>exact Y.elim
 have nopre:(∀s' Z n' f',f i k≠.nd s' true Z n' f')->∀(q:List (Nat×Nat)) (s1:Bool) (H n1:Nat) (f1:Nat->Nat->V) (c:Value),At w q (σ.getD id .dead) (ρ id) (.nd s1 true H n1 f1) c->AN (p++[(i,k)]) q=true->False:=by
  intro U q s1 H n1 f1 c W hpre;rw[CG hpre,List.append_assoc]at W;have Y:=At.split W hat;simp only[List.singleton_append]at Y;obtain⟨_,_,_,_,_,y,_,_,Y⟩:=Y;cases hq:q.drop (p++[(i,k)]).length with
  |nil=>rw[hq]at Y;exact U _ _ _ _ Y.1.symm
  |cons a r=>
   rw[hq]at Y;generalize f i k=v at*;cases v with
   |nd s' o' Z n' f'=>cases o' with
    |true=>exact U _ _ _ _ rfl
    |false=>exact Y.elim
   |_=>exact Y.elim
 have hGm:A9 G:=by
  rcases hG with rfl|⟨rfl,_⟩
  .exact A5 _ _
  .exact⟨λ_=>rfl,rfl,λ_ _ _ _ _=>rfl,λ_ _=>rfl,λ_ _ _=>rfl⟩
 refine⟨F',⟨wr',by simpa using h.sz,λt ht=>?_,h.fr.setCell (h.Fn id b hb),λj c A=>h.Fn j c (hF' _ _ A),h.D1,h.D2,h.rt,by simpa using h.ml⟩⟩
 simp at ht;have e1:(ts.map G).getD t .dead=G (ts.getD t .dead):=by simp[ht]
 rw[e1];refine hGm.rel (λc A=>by rw[Au,if_neg (hbD c A)]) ?_ ?_ ?_ _ _ noF (λ_ h=>h) (h.tm t ht)
 .rintro id' q off len cv ⟨B,H,n1,f1,cn,W,hle,hcv⟩
  by_cases A:id'=id/\AN (p++[(i,k)]) q=true
  .rcases hG with rfl|⟨rfl,U⟩
   .simp only[AF,if_pos A];exact λ_ h=>h
   .obtain⟨rfl,A⟩:=A;exact(nopre U.1 q _ _ _ _ _ W A).elim
  .obtain⟨f',ha'⟩:=key id' q true H n1 f1 cn B W A
   have e2:G (.rs id' q off len)=.rs id' q off len:=by
    rcases hG with rfl|⟨rfl,_⟩
    .simp only[AF,if_neg A]
    .rfl
   rw[e2];exact⟨⟨by simpa using B,H,n1,f',cn,ha',hle,hcv⟩,λ_ h=>h⟩
 .rintro id' q i' k' cv ⟨B,s1,H,n1,f1,b1,o1,cap1,W,hi',hk',hcv⟩
  by_cases A:id'=id/\AN (p++[(i,k)]) q=true
  .rcases hG with rfl|⟨rfl,U⟩
   .simp only[AF,if_pos A];exact λ_ h=>h
   .obtain⟨rfl,A⟩:=A;exact(nopre U.1 q _ _ _ _ _ W A).elim
  .obtain⟨f',ha'⟩:=key id' q s1 H n1 f1 _ B W A
   have e2:G (.rp id' q i' k')=.rp id' q i' k':=by
    rcases hG with rfl|⟨rfl,_⟩
    .simp only[AF,if_neg A]
    .rfl
   rw[e2];exact⟨⟨by simpa using B,s1,H,n1,f',b1,o1,cap1,ha',hi',hk',hcv⟩,λ_ h=>h⟩
 .rintro id' q cv ⟨B,l,b1,W,hcv⟩
  by_cases A:id'=id/\AN (p++[(i,k)]) q=true
  .rcases hG with rfl|⟨rfl,U⟩
   .simp only[AF,if_pos A];exact λ_ h=>h
   .obtain⟨rfl,A⟩:=A;exact(nopreM U q _ _ W A).elim
  .have ha':=keyM id' q l _ B W A
   have e2:G (.rm id' q)=.rm id' q:=by
    rcases hG with rfl|⟨rfl,_⟩
    .simp only[AF,if_neg A]
    .rfl
   rw[e2];exact⟨⟨by simpa using B,l,b1,ha',hcv⟩,λ_ h=>h⟩
def CR.store_plain(h:CR C σ ts cts w D ρ F){p:List (Nat×Nat)}{s:Bool}{sz n:Nat}{f:Nat->Nat->V}{b o cap i k:Nat}(B:id<σ.length)
  (U:At w p (σ.getD id .dead) (ρ id) (.nd s true sz n f) (Av s b o n cap)) (hi:i<n) (hk:k<sz) {x:V}{cx:Value} (hx:Rel D w noR x cx noF) {G:V->V} (hG:G=AF id (p++[(i,k)])\/G=(λv=>v)/\(∀s' W n' f',f i k≠.nd s' true W n' f')/\∀l,f i k≠.mp true l):
  ∃F',CR C (σ.set id (upd (p++[(i,k)]) (σ.getD id .dead) x)) (ts.map G) cts (w.setCell ⟨b,o+i*sz+k,none⟩ cx) D ρ F':=by
 refine h.store_gen B U hi hk ?_ hG;obtain⟨Z,Y,A,hb⟩:=Lb (h.wr.rel id B) (λc H h'=>h.wr.dD id c h' H) U hi hk hx (λc H=>H.elim)
 exact⟨Z,Y,λc H=>(A c H).elim (λh=>h) λh=>h.elim,hb⟩
theorem P2(hr:Rel D w noR (.nd s true sz n f) (Av s b o n cap) fp1)(hD:∀c,D c->¬fp1 c)(hi:i<n)(hk:k<sz)
  {x:V}{cx:Value} (hx:∀y G,w.cell? ⟨b,o+i*sz+k,none⟩=some y->Rel D w noR (f i k) y G->∃g,Rel D w noR x cx g/\∀c,g c->G c):
  ∃fp2,Rel D (w.setCell ⟨b,o+i*sz+k,none⟩ cx) noR (.nd s true sz n λi' k'=>if i'=i/\k'=k then x else f i' k') (Av s b o n cap) fp2/\∀c,fp2 c->fp1 c:=by
 have U:=Rel.root hr;rcases hr with⟨h0,_⟩|⟨b2,o2,cap2,F,hcv,hcap,hmax,hs1,hc,himm,ho⟩
 .omega
 obtain⟨rfl,rfl,H⟩:=Am hcv;obtain⟨⟨cs,T,hb1,hb2⟩,hbF,hFd,hfp⟩:=ho rfl;obtain⟨y0,Y,Z⟩:=hc i k hi hk;obtain⟨g,hg1,hg2⟩:=hx y0 _ Y Z
 have heap:∀c,(D c\/∃i' k',i'<n/\k'<sz/\F i' k' c)->(w.setCell ⟨b,o+i*sz+k,none⟩ cx).heap[c]? =w.heap[c]?:=λc H=>by
  rw[Au,if_neg]
  rintro rfl
  rcases H with h|⟨i',k',h1,h2,h3⟩
  .exact hD c h U
  .exact hbF i' k' h1 h2 h3
 have sub:∀i' k' c,(if i'=i/\k'=k then g c else F i' k' c)->F i' k' c:=by
  intro i' k' c h;by_cases W:i'=i/\k'=k
  .rw[if_pos W]at h;obtain⟨rfl,rfl⟩:=W;exact hg2 c h
  .rw[if_neg W]at h;exact h
 refine⟨λc=>c=b\/∃i' k',i'<n/\k'<sz/\(if i'=i/\k'=k then g c else F i' k' c),.inr ⟨b,o,cap2,λi' k' c=>if i'=i/\k'=k then g c else F i' k' c,hcv,hcap,hmax,hs1,λi' k' B A=>?_,(λh=>by cases h),λ_=>⟨⟨cs.setIfInBounds (o+i*sz+k) cx,T,?_,by simpa using hb2⟩,λi' k' B A h=>hbF i' k' B A (sub _ _ _ h),λi1 k1 i2 k2 c h1 h2 h3 h4 hne hF1 hF2=>hFd i1 k1 i2 k2 c h1 h2 h3 h4 hne (sub _ _ _ hF1) (sub _ _ _ hF2),λ_=>Iff.rfl⟩⟩,?_⟩
 .by_cases W:i'=i/\k'=k
  .obtain⟨rfl,rfl⟩:=W
   refine⟨cx,World.cell?_setCell_same _ _ _ Y,?_⟩;simp only[and_self,if_true];exact Rel.mono (λ_ h=>h) (λ_ _ h=>h) _ _ _ (λc H=>heap c (H.imp id λh=>⟨i',k',B,A,hg2 c h⟩)) hg1
  .obtain⟨y,hy,hry⟩:=hc i' k' B A
   have hne:=Np (i:=i) hk A W;refine⟨y,by rw[World.cell?_setCell_other _ _ _ _ (by intro h;simp at h;try omega)];exact hy,?_⟩
   simp only[W,if_false];exact Rel.mono (λ_ h=>h) (λ_ _ h=>h) _ _ _ (λc H=>heap c (H.imp id λh=>⟨i',k',B,A,h⟩)) hry
 .obtain⟨fz,hz1,hz2⟩:=hb1;exact⟨fz,by rw[Au,if_pos rfl,hz1];rfl,by simpa using hz2⟩
 .rintro c (rfl|⟨i',k',B,A,h⟩)
  .exact U
  .exact(hfp c).2 (.inr ⟨i',k',B,A,sub _ _ _ h⟩)
theorem JD(hr:Rel D w noR v cv fp)(hD:∀c,D c->¬fp c)(H:At w p v cv (.nd s true sz n f) (Av s b o n cap))(hi:i<n)(hk:k<sz)
  {x:V}{cx:Value} (hx:∀y G,w.cell? ⟨b,o+i*sz+k,none⟩=some y->Rel D w noR (f i k) y G->∃g,Rel D w noR x cx g/\∀c,g c->G c):
  ∃Z,Rel D (w.setCell ⟨b,o+i*sz+k,none⟩ cx) noR (upd (p++[(i,k)]) v x) cv Z/\(∀c,Z c->fp c)/\fp b:=by
 obtain⟨fp1,B,A,U⟩:=Ds p v cv fp _ _ hr hD H;have hb:=A b (Rel.root B);obtain⟨Y,hr2,hs2⟩:=P2 B (λc W h=>hD c W (A c h)) hi hk hx
 refine⟨λc=>(fp c/\¬fp1 c)\/Y c,?_,λc W=>?_,hb⟩
 .have e:upd (p++[(i,k)]) v x=upd p v (.nd s true sz n λi' k'=>if i'=i/\k'=k then x else f i' k'):=by
   rw[Hg p _ v x (At.ok H),<-At.sub H];rfl
  rw[e]
  exact U _ Y hr2 (λc W=>.inl (hs2 c W)) λc W hn=>by
   rw[Au,if_neg]
   rintro rfl
   exact hn (Rel.root B)
 grind
theorem Rel.part{len:Nat}{cn cx:Value}{G:Nat->Prop}(hr:Rel D w noR (.nd true true sz n f) cn G)(hle:off+len<=n)
  (A:(∃b o cap,cn=Av true b o n cap/\cx=.slice (some ⟨b,o+off*sz,none⟩) len (cap-off))\/(len=0/\∃a:Option (Nat×Nat),cx=.slice (a.map λp=>⟨p.1,p.2,none⟩) 0 0/\(off=0->n=0->cx=cn)/\∀p,a=some p->∃o cap,cn=Av true p.1 o n cap/\o<=p.2/\p.2<=o+cap*sz)):
  ∃g,Rel D w noR (.nd true true sz len λi k=>f (i+off) k) cx g/\∀c,g c->G c:=by
 rcases A with⟨b,o,cap,rfl,rfl⟩|⟨rfl,a,rfl,_,ha⟩
 .rcases hr with⟨_,_,h0,_⟩|⟨b2,o2,cap2,F,A,Z,U,hs1,hc,Y,ho⟩
  .exact absurd h0 BF
  obtain⟨rfl,rfl,B⟩:=Am A;obtain rfl:=B rfl;obtain⟨⟨cs,T,H,hb2⟩,hbF,hFd,hfp⟩:=ho rfl;refine⟨λc=>c=b\/∃i k,i<len/\k<sz/\F (i+off) k c,.inr ⟨b,o+off*sz,cap-off,λi k=>F (i+off) k,rfl,by omega,by omega,(λh=>by cases h),λi k hi W=>?_,(λh=>by cases h),λ_=>⟨⟨cs,T,H,?_⟩,λi k hi W=>hbF _ _ (by omega) W,λi1 k1 i2 k2 c h1 h2 h3 h4 hne=>hFd _ _ _ _ c (by omega) h2 (by omega) h4 (by omega),λ_=>Iff.rfl⟩⟩,?_⟩
  .obtain⟨y,hy,hry⟩:=hc (i+off) k (by omega) W
   exact⟨y,by rw[<-hy];congr 2;rw[Nat.add_mul];omega,hry⟩
  .have:o+off*sz+(cap-off)*sz=o+cap*sz:=by rw[Nat.add_assoc,<-Nat.add_mul,Nat.add_sub_of_le (by omega)]
   omega
  .rintro c (rfl|⟨i,k,hi,W,h⟩)
   .exact(hfp c).2 (.inl rfl)
   .exact(hfp c).2 (.inr ⟨i+off,k,by omega,W,h⟩)
 .cases a with
  |none=>exact⟨noF,.inl ⟨rfl,rfl,.inl rfl,λ_ h=>h⟩,λ_ h=>h.elim⟩
  |some p=>
   obtain⟨o,cap,rfl,h1,h2⟩:=ha p rfl;rcases hr with⟨_,_,h0,_⟩|⟨b2,o2,cap2,F,A,Z,U,hs1,hc,Y,ho⟩
   .exact absurd h0 BF
   obtain⟨rfl,rfl,B⟩:=Am A;obtain rfl:=B rfl;obtain⟨⟨cs,T,H,hb2⟩,hbF,hFd,hfp⟩:=ho rfl;refine⟨λc=>c=p.1\/∃i k,i<0/\k<sz/\noF c,.inr ⟨p.1,p.2,0,λ_ _=>noF,rfl,Nat.le_refl _,Nat.zero_le _,(λh=>by cases h),λi k hi=>by omega,(λh=>by cases h),λ_=>⟨⟨cs,T,H,by omega⟩,λi k hi=>by omega,λi1 k1 i2 k2 c h=>by omega,λ_=>Iff.rfl⟩⟩,?_⟩
   rintro c (rfl|⟨i,k,hi,_⟩)
   .exact(hfp _).2 (.inl rfl)
   .omega
def CR.store_part(h:CR C σ ts cts w D ρ F){p:List (Nat×Nat)}{s:Bool}{sz n:Nat}{f:Nat->Nat->V}{b o cap i k:Nat}(U:id<σ.length)
  (A:At w p (σ.getD id .dead) (ρ id) (.nd s true sz n f) (Av s b o n cap)) (hi:i<n) (hk:k<sz) {B n1:Nat}{f1:Nat->Nat->V} (hf:f i k=.nd true true B n1 f1) {off len:Nat}{cx:Value} (hx:Ae σ ρ w (.rs id (p++[(i,k)]) off len) cx):
  ∃F',CR C (σ.set id (upd (p++[(i,k)]) (σ.getD id .dead) (.nd true true B len λi k=>f1 (i+off) k))) (ts.map (AF id (p++[(i,k)]))) cts (w.setCell ⟨b,o+i*sz+k,none⟩ cx) D ρ F':=by
 refine h.store_gen U A hi hk ?_ (.inl rfl);refine JD (h.wr.rel id U) (λc hc h'=>h.wr.dD id c h' hc) A hi hk λy G hy H=>?_
 obtain⟨_,sz2,n2,f2,cn,ha,W,Y⟩:=hx;have Z:=At.split ha A;obtain⟨_,_,b2,o2,cap2,y2,e1,e2,Z⟩:=Z;obtain⟨rfl,rfl,_⟩:=Am e1;rw[hy]at e2;cases e2;obtain⟨e3,rfl⟩:=Z;rw[hf]at e3 H;cases e3;exact Rel.part H W Y
def AY(id:Nat)(p:List (Nat×Nat))(j:Nat):V->V
 |.rs id' q off len=>if id'=j then .rs id (p++q) off len else if id'=id/\AN p q=true then .dead else .rs id' q off len
 |.rp id' q i k=>if id'=j then .rp id (p++q) i k else if id'=id/\AN p q=true then .dead else .rp id' q i k
 |.rm id' q=>if id'=j then .rm id (p++q)else if id'=id/\AN p q=true then .dead else .rm id' q
 |.many t n f=>.many t n λk=>AY id p j (f k)
 |v=>v
def CE(id:Nat)(p:List (Nat×Nat))(j:Nat):A9 (AY id p j):=⟨λ_=>rfl,rfl,λ_ _ _ _ _=>rfl,λ_ _=>rfl,λ_ _ _=>rfl⟩
theorem CR.store_move(h:CR C σ ts cts w D ρ F){j:Nat}{p:List (Nat×Nat)}{s:Bool}{sz n:Nat}{f:Nat->Nat->V}{b o cap i k:Nat}(U:id<σ.length)(hj:j<σ.length)(hij:j≠id)
  (hat:At w p (σ.getD id .dead) (ρ id) (.nd s true sz n f) (Av s b o n cap)) (hi:i<n) (hk:k<sz):
  ∃F',CR C ((σ.set id (upd (p++[(i,k)]) (σ.getD id .dead) (σ.getD j .dead))).set j .dead) (ts.map (AY id (p++[(i,k)]) j)) cts (w.setCell ⟨b,o+i*sz+k,none⟩ (ρ j)) D ρ F':=by
 obtain⟨fp',hr',hsub,hb⟩:=Lb (h.wr.rel id U) (λc A h'=>h.wr.dD id c h' A) hat hi hk (h.wr.rel j hj) (λc A=>h.wr.disj j id c hij A)
 let F':Nat->Nat->Prop:=λl=>if l=j then noF else if l=id then fp' else F l
 have hF':∀l c,F' l c->(l=id/\(F id c\/F j c))\/(l≠id/\l≠j/\F l c):=by
  intro l c A;simp only[F']at A;split at A
  .exact A.elim
  .split at A
   .rename_i e;subst e;exact .inl ⟨rfl,hsub c A⟩
   .exact .inr ⟨by assumption,by assumption,A⟩
 have hbD:∀c,D c->c≠b:=λc A e=>h.wr.dD id b hb (e▸A)
 have wr':Be ((σ.set id (upd (p++[(i,k)]) (σ.getD id .dead) (σ.getD j .dead))).set j .dead) (w.setCell ⟨b,o+i*sz+k,none⟩ (ρ j)) D ρ F':=by
  refine⟨λl hl=>?_,λl m c hlm h1 h2=>?_,λl c A=>?_,λc A=>by simpa [World.setCell]using h.wr.Dlt c A,λl c hl A=>?_⟩
  .have hl':l<σ.length:=by simpa using hl
   by_cases he:l=j
   .subst he
    rw[Ag (by simpa using hj)]
    simp only[F',if_true];exact λ_ h=>h
   .rw[Ad (Ne.symm he)]
    by_cases he2:l=id
    .subst he2
     rw[Ag U];simpa [F',he]using hr'
    .rw[Ad (Ne.symm he2)]
     simp only[F',he,he2,if_false];refine Rel.mono (λ_ h=>h) (λ_ _ h=>h) _ _ _ (λc A=>?_) (h.wr.rel l hl')
     rw[Au,if_neg]
     rintro rfl
     rcases A with A|A
     .exact hbD c A rfl
     .exact h.wr.disj l id c he2 A hb
  .rcases hF' _ _ h1 with⟨e1,g1⟩|⟨h1a,h1b,g1⟩<;>rcases hF' _ _ h2 with⟨e2,g2⟩|⟨h2a,h2b,g2⟩
   .exact hlm (e1.trans e2.symm)
   .rcases g1 with g1|g1
    .exact h.wr.disj _ _ c (Ne.symm h2a) g1 g2
    .exact h.wr.disj _ _ c (Ne.symm h2b) g1 g2
   .rcases g2 with g2|g2
    .exact h.wr.disj _ _ c (Ne.symm h1a) g2 g1
    .exact h.wr.disj _ _ c (Ne.symm h1b) g2 g1
   .exact h.wr.disj _ _ c hlm g1 g2
  .rcases hF' _ _ A with⟨rfl,h1|h1⟩|⟨_,_,h1⟩
   .exact h.wr.dD _ c h1
   .exact h.wr.dD _ c h1
   .exact h.wr.dD _ c h1
  .have hl':σ.length<=l:=by simpa using hl
   rcases hF' _ _ A with⟨rfl,_⟩|⟨_,_,h1⟩
   .omega
   .exact h.wr.out l c hl' h1
 have Z:((σ.set id (upd (p++[(i,k)]) (σ.getD id .dead) (σ.getD j .dead))).set j .dead).length=σ.length:=by simp
 have hgid:((σ.set id (upd (p++[(i,k)]) (σ.getD id .dead) (σ.getD j .dead))).set j .dead).getD id .dead=upd (p++[(i,k)]) (σ.getD id .dead) (σ.getD j .dead):=by
  rw[Ad hij,Ag U]
 have hnew:At (w.setCell ⟨b,o+i*sz+k,none⟩ (ρ j)) (p++[(i,k)]) (upd (p++[(i,k)]) (σ.getD id .dead) (σ.getD j .dead)) (ρ id) (σ.getD j .dead) (ρ j):=by
  have hpre:AN (p++[(i,k)]) p=false:=by
   cases hp:AN (p++[(i,k)]) p with
   |false=>rfl
   |true=>have:=congrArg List.length (CG hp);simp at this
  obtain⟨f1,ha⟩:=At.store (x:=σ.getD j .dead) hi hk Cg (λc A=>by rw[Au,if_neg A]) p p _ _ _ (h.wr.rel id U) hat hpre hat (w':=w.setCell ⟨b,o+i*sz+k,none⟩ (ρ j))
  have e:=At.sub ha;rw[Hg p _ _ _ (At.ok hat),JK p _ _ (At.ok hat),<-At.sub hat]at e;simp only[upd,V.nd.injEq,true_and]at e;obtain⟨y,hy,_⟩:∃y,w.cell? ⟨b,o+i*sz+k,none⟩=some y/\True:=by
   obtain⟨fp1,hr1,_⟩:=Ds (w':=w) p _ _ _ _ _ (h.wr.rel id U) (λb hb h'=>h.wr.dD id b h' hb) hat
   rcases hr1 with⟨h0,_⟩|⟨b2,o2,cap2,F2,Y,_,_,_,A,_⟩
   .omega
   obtain⟨rfl,rfl,_⟩:=Am Y;obtain⟨y,hy,_⟩:=A i k hi hk;exact⟨y,hy,trivial⟩
  refine At.app ha ⟨hi,hk,b,o,cap,ρ j,rfl,World.cell?_setCell_same _ _ _ hy,?_,rfl⟩;rw[e];simp
 have key:∀(id':Nat) (q:List (Nat×Nat)) (s1:Bool) (H n1:Nat) (f1:Nat->Nat->V) (c:Value),id'<σ.length->At w q (σ.getD id' .dead) (ρ id') (.nd s1 true H n1 f1) c->
   (id'=j->At (w.setCell ⟨b,o+i*sz+k,none⟩ (ρ j)) (p++[(i,k)]++q) (upd (p++[(i,k)]) (σ.getD id .dead) (σ.getD j .dead)) (ρ id) (.nd s1 true H n1 f1) c)/\
   (id'≠j->¬ (id'=id/\AN (p++[(i,k)]) q=true)->∃f',At (w.setCell ⟨b,o+i*sz+k,none⟩ (ρ j)) q (((σ.set id (upd (p++[(i,k)]) (σ.getD id .dead) (σ.getD j .dead))).set j .dead).getD id' .dead) (ρ id') (.nd s1 true H n1 f') c):=by
  intro id' q s1 H n1 f1 c B ha
  have W:id'≠id->At (w.setCell ⟨b,o+i*sz+k,none⟩ (ρ j)) q (σ.getD id' .dead) (ρ id') (.nd s1 true H n1 f1) c:=λhe=>At.same (h.wr.rel id' B) ha λc A=>by
   rw[Au,if_neg]
   rintro rfl
   exact h.wr.disj id' id c he A hb
  refine⟨λe=>?_,λhne hn=>?_⟩
  .subst e
   exact At.app hnew (W hij)
  .rw[Ad (Ne.symm hne)]
   by_cases he:id'=id
   .subst he
    rw[Ag U];exact At.store hi hk Cg (λc A=>by rw[Au,if_neg A]) p q _ _ _ (h.wr.rel id' U) hat (by simpa using hn) ha
   .rw[Ad (Ne.symm he)]
    exact⟨f1,W he⟩
 have keyM:∀(id':Nat) (q:List (Nat×Nat)) (l:List (Value×Value)) (c:Value),id'<σ.length->At w q (σ.getD id' .dead) (ρ id') (.mp true l) c->
   (id'=j->At (w.setCell ⟨b,o+i*sz+k,none⟩ (ρ j)) (p++[(i,k)]++q) (upd (p++[(i,k)]) (σ.getD id .dead) (σ.getD j .dead)) (ρ id) (.mp true l) c)/\
   (id'≠j->¬ (id'=id/\AN (p++[(i,k)]) q=true)->At (w.setCell ⟨b,o+i*sz+k,none⟩ (ρ j)) q (((σ.set id (upd (p++[(i,k)]) (σ.getD id .dead) (σ.getD j .dead))).set j .dead).getD id' .dead) (ρ id') (.mp true l) c):=by
  intro id' q l c B ha
  have W:id'≠id->At (w.setCell ⟨b,o+i*sz+k,none⟩ (ρ j)) q (σ.getD id' .dead) (ρ id') (.mp true l) c:=λhe=>At.same (h.wr.rel id' B) ha λc A=>by
   rw[Au,if_neg]
   rintro rfl
   exact h.wr.disj id' id c he A hb
  refine⟨λe=>?_,λhne hn=>?_⟩
  .subst e
   exact At.app hnew (W hij)
  .rw[Ad (Ne.symm hne)]
   by_cases he:id'=id
   .subst he
    rw[Ag U];exact At.storeM hi hk Cg (λc A=>by rw[Au,if_neg A]) p q _ _ _ (h.wr.rel id' U) hat (by simpa using hn) ha
   .rw[Ad (Ne.symm he)]
    exact W he
 refine⟨F',⟨wr',by simpa using h.sz,λt ht=>?_,h.fr.setCell (h.Fn id b hb),λl c A=>?_,h.D1,h.D2,h.rt,by simpa using h.ml⟩⟩
 .simp at ht
  have e1:(ts.map (AY id (p++[(i,k)]) j)).getD t .dead=AY id (p++[(i,k)]) j (ts.getD t .dead):=by simp[ht]
  rw[e1];refine(CE _ _ _).rel (λc A=>by rw[Au,if_neg (hbD c A)]) ?_ ?_ ?_ _ _ noF (λ_ h=>h) (h.tm t ht)
  .rintro id' q off len cv ⟨B,H,n1,f1,cn,ha,hle,Y⟩
   obtain⟨k1,k2⟩:=key id' q true H n1 f1 cn B ha;simp only[AY];split
   .rename_i A
    exact⟨⟨by rw[Z];exact U,H,n1,f1,cn,by rw[hgid];exact k1 A,hle,Y⟩,λ_ h=>h⟩
   .rename_i A
    split
    .exact λ_ h=>h
    .rename_i hc2
     obtain⟨f',ha'⟩:=k2 A hc2;exact⟨⟨by rw[Z];exact B,H,n1,f',cn,ha',hle,Y⟩,λ_ h=>h⟩
  .rintro id' q i' k' cv ⟨B,s1,H,n1,f1,b1,o1,cap1,ha,hi',hk',Y⟩
   obtain⟨k1,k2⟩:=key id' q s1 H n1 f1 _ B ha;simp only[AY];split
   .rename_i A
    exact⟨⟨by rw[Z];exact U,s1,H,n1,f1,b1,o1,cap1,by rw[hgid];exact k1 A,hi',hk',Y⟩,λ_ h=>h⟩
   .rename_i A
    split
    .exact λ_ h=>h
    .rename_i hc2
     obtain⟨f',ha'⟩:=k2 A hc2;exact⟨⟨by rw[Z];exact B,s1,H,n1,f',b1,o1,cap1,ha',hi',hk',Y⟩,λ_ h=>h⟩
  .rintro id' q cv ⟨B,l,b1,ha,Y⟩
   obtain⟨k1,k2⟩:=keyM id' q l _ B ha;simp only[AY];split
   .rename_i A
    exact⟨⟨by rw[Z];exact U,l,b1,by rw[hgid];exact k1 A,Y⟩,λ_ h=>h⟩
   .rename_i A
    split
    .exact λ_ h=>h
    .rename_i hc2
     exact⟨⟨by rw[Z];exact B,l,b1,k2 A hc2,Y⟩,λ_ h=>h⟩
 .rcases hF' _ _ A with⟨rfl,h1|h1⟩|⟨_,_,h1⟩
  .exact h.Fn _ c h1
  .exact h.Fn _ c h1
  .exact h.Fn _ c h1
end Go.Ve


namespace Go.Ve
def At.cells{w w':World}(B:∀ad x,w.cell? ad=some x->w'.cell? ad=some x):∀(p:List (Nat×Nat)) (v:V) (cv:Value) (A:V) (c1:Value),At w p v cv A c1->At w' p v cv A c1
 |[],_,_,_,_,h=>h
 |(i,k)::p,.nd s true sz n f,cv,A,c1,h=>by
  obtain⟨W,U,b,o,cap,x,h3,h4,H⟩:=h;exact⟨W,U,b,o,cap,x,h3,B _ _ h4,At.cells B p _ _ _ _ H⟩
 |_::_,.nd _ false _ _ _,_,_,_,h=>h.elim
 |_::_,.c _,_,_,_,h=>h.elim
 |_::_,.dead,_,_,_,h=>h.elim
 |_::_,.many ..,_,_,_,h=>h.elim
 |_::_,.rs ..,_,_,_,h=>h.elim
 |_::_,.rp ..,_,_,_,h=>h.elim
 |_::_,.rm ..,_,_,_,h=>h.elim
 |_::_,.mp ..,_,_,_,h=>h.elim
def At.put{w:World}{x:V}:∀(p:List (Nat×Nat)) (v:V) (cv:Value) (A:V) (c1:Value),At w p v cv A c1->At w p (upd p v x) cv x c1
 |[],_,_,_,_,h=>⟨rfl,h.2⟩
 |(i,k)::p,.nd s true sz n f,cv,A,c1,h=>by
  obtain⟨W,U,b,o,cap,y,h3,h4,H⟩:=h;have B:=At.put (x:=x) p _ _ _ _ H;exact⟨W,U,b,o,cap,y,h3,h4,by simpa using B⟩
 |_::_,.nd _ false _ _ _,_,_,_,h=>h.elim
 |_::_,.c _,_,_,_,h=>h.elim
 |_::_,.dead,_,_,_,h=>h.elim
 |_::_,.many ..,_,_,_,h=>h.elim
 |_::_,.rs ..,_,_,_,h=>h.elim
 |_::_,.rp ..,_,_,_,h=>h.elim
 |_::_,.rm ..,_,_,_,h=>h.elim
 |_::_,.mp ..,_,_,_,h=>h.elim
end Go.Ve

