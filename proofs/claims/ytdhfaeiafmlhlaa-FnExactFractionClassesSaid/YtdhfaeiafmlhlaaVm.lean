/- A store into an owned tree. -/
import Derived.Test.YtdhfaeiafmlhlaaVi
import Derived.Test.YtdhfaeiafmlhlaaTw
set_option linter.all false
namespace Go.Ve
variable{cts:Array Value}{s:Bool}{C:Ctx}{p:List (Nat×Nat)}{ts σ:List V}{b cap i id k n o off sz:Nat}{F:Nat->Nat->Prop}{f:Nat->Nat->V}{D fp fp1:Nat->Prop}{ρ:Nat->Value}{v:V}{cv x:Value}{w:World}
def Hj:∀(p r:List (Nat×Nat)) (v x:V),KR p v->upd (p++r) v x=upd p v (upd r (sub p v) x)
 |[],_,_,_,_=>rfl
 |(i,k)::p,r,.nd s o sz n f,x,h=>by
  obtain⟨_,_,_,h⟩:=h;simp[upd,sub];rw[Hj p r _ x h]
 |_::_,_,.c _,_,h=>h.elim
 |_::_,_,.dead,_,h=>h.elim
 |_::_,_,.many ..,_,h=>h.elim
 |_::_,_,.rs ..,_,h=>h.elim
 |_::_,_,.rp ..,_,h=>h.elim
 |_::_,_,.rm ..,_,h=>h.elim
 |_::_,_,.mp ..,_,h=>h.elim
def JL:∀(p:List (Nat×Nat)) (v x:V),KR p v->sub p (upd p v x)=x
 |[],_,_,_=>rfl
 |(i,k)::p,.nd s o sz n f,x,h=>by
  obtain⟨_,_,_,h⟩:=h;simp[upd,sub,if_true];exact JL p _ x h
 |_::_,.c _,_,h=>h.elim
 |_::_,.dead,_,h=>h.elim
 |_::_,.many ..,_,h=>h.elim
 |_::_,.rs ..,_,h=>h.elim
 |_::_,.rp ..,_,h=>h.elim
 |_::_,.rm ..,_,h=>h.elim
 |_::_,.mp ..,_,h=>h.elim
theorem Az{c:Nat}:(w.setCell ⟨b,off,none⟩ x).heap[c]? =if c=b then(w.heap[c]?).map (fun|.cells cs e fz=>.cells (cs.setIfInBounds off x) e fz|o=>o)else w.heap[c]?:=by
 simp[World.setCell,Array.getElem?_modify]
 grind
theorem nd_set(hr:Rel D w noR (.nd s true sz n f) (AA s b o n cap) fp1)(hD:∀c,D c->¬fp1 c)(hi:i<n)(hk:k<sz)
  {x:V}{cx:Value}{g:Nat->Prop} (hx:Rel D (w.setCell ⟨b,o+i*sz+k,none⟩ cx) noR x cx g) (hg:∀c,g c->¬fp1 c):
  ∃fp2,Rel D (w.setCell ⟨b,o+i*sz+k,none⟩ cx) noR (.nd s true sz n λi' k'=>if i'=i/\k'=k then x else f i' k') (AA s b o n cap) fp2/\∀c,fp2 c->fp1 c\/g c:=by
 have e:=Rel.root hr;rcases hr with⟨h0,_⟩|⟨b2,o2,cap2,F,hcv,hcap,Z,hs1,hc,himm,ho⟩
 .omega
 obtain⟨rfl,rfl,hcc⟩:=Av hcv;obtain⟨⟨cs,T,hb1,hb2⟩,hbF,hFd,hfp⟩:=ho rfl;refine⟨λc=>c=b\/∃i' k',i'<n/\k'<sz/\(if i'=i/\k'=k then g c else F i' k' c),.inr ⟨b,o,cap2,λi' k' c=>if i'=i/\k'=k then g c else F i' k' c,hcv,hcap,Z,hs1,λi' k' B A=>?_,(λh=>by cases h),λ_=>⟨⟨cs.setIfInBounds (o+i*sz+k) cx,T,?_,by simpa using hb2⟩,λi' k' B A=>?_,λi1 k1 i2 k2 c h1 h2 h3 h4 Y J E=>?_,λ_=>Iff.rfl⟩⟩,?_⟩
 .by_cases O:i'=i/\k'=k
  .obtain⟨rfl,rfl⟩:=O
   obtain⟨y,hy,_⟩:=hc i' k' hi hk;exact⟨cx,World.cell?_setCell_same _ _ _ hy,by simpa using hx⟩
  .obtain⟨y,hy,hry⟩:=hc i' k' B A
   have Y:=Np (i:=i) hk A O;refine⟨y,by rw[World.cell?_setCell_other _ _ _ _ (by intro h;simp at h;try omega)];exact hy,?_⟩
   simp only[O,if_false];refine Rel.mono (λ_ h=>h) (λ_ _ h=>h) _ _ _ (λc hcc=>?_) hry
   rw[Az,if_neg]
   rintro rfl
   rcases hcc with h|h
   .exact hD c h e
   .exact hbF i' k' B A h
 .obtain⟨fz,hz1,hz2⟩:=hb1;exact⟨fz,by rw[Az,if_pos rfl,hz1];rfl,by simpa using hz2⟩
 .by_cases O:i'=i/\k'=k
  .simp only[O,and_self,if_true];exact λh=>hg b h e
  .simp only[O,if_false];exact hbF i' k' B A
 .by_cases W:i1=i/\k1=k<;>by_cases U:i2=i/\k2=k
  .omega
  .simp only[W,and_self,if_true]at J
   simp only[U,if_false]at E;exact hg c J ((hfp c).2 (.inr ⟨i2,k2,h3,h4,E⟩))
  .simp only[U,and_self,if_true]at E
   simp only[W,if_false]at J;exact hg c E ((hfp c).2 (.inr ⟨i1,k1,h1,h2,J⟩))
  .simp only[W,if_false]at J
   simp only[U,if_false]at E;exact hFd i1 k1 i2 k2 c h1 h2 h3 h4 Y J E
 .rintro c (rfl|⟨i',k',B,A,h⟩)
  .exact .inl e
  .by_cases O:i'=i/\k'=k
   .simp only[O,and_self,if_true]at h;exact .inr h
   .simp only[O,if_false]at h;exact .inl ((hfp c).2 (.inr ⟨i',k',B,A,h⟩))
theorem Lc(hr:Rel D w noR v cv fp)(hD:∀c,D c->¬fp c)(J:At w p v cv (.nd s true sz n f) (AA s b o n cap))(hi:i<n)(hk:k<sz)
  {x:V}{cx:Value}{g:Nat->Prop} (hx:Rel D w noR x cx g) (hg:∀c,g c->¬fp c):
  ∃W,Rel D (w.setCell ⟨b,o+i*sz+k,none⟩ cx) noR (upd (p++[(i,k)]) v x) cv W/\(∀c,W c->fp c\/g c)/\fp b:=by
 obtain⟨fp1,E,A,O⟩:=C7 p v cv fp _ _ hr hD J;have hb:=A b (Rel.root E)
 have Y:Rel D (w.setCell ⟨b,o+i*sz+k,none⟩ cx) noR x cx g:=by
  refine Rel.mono (λ_ h=>h) (λ_ _ h=>h) _ _ _ (λc B=>?_) hx
  rw[Az,if_neg]
  grind
 obtain⟨U,hr2,Z⟩:=nd_set E (λc B h=>hD c B (A c h)) hi hk Y (λc B h=>hg c B (A c h))
 refine⟨λc=>(fp c/\¬fp1 c)\/U c,?_,λc B=>?_,hb⟩
 .have e:upd (p++[(i,k)]) v x=upd p v (.nd s true sz n λi' k'=>if i'=i/\k'=k then x else f i' k'):=by
   rw[Hj p _ v x (At.ok J),<-At.sub J];rfl
  rw[e]
  exact O _ U hr2 (λc B=>(Z c B).imp id λh=>hg c h) λc B hn=>by
   rw[Az,if_neg]
   rintro rfl
   exact hn (Rel.root E)
 grind
def AJ(id:Nat)(p:List (Nat×Nat)):V->V
 |.rs id' q off len=>if id'=id/\AT p q=true then .dead else .rs id' q off len
 |.rp id' q i k=>if id'=id/\AT p q=true then .dead else .rp id' q i k
 |.rm id' q=>if id'=id/\AT p q=true then .dead else .rm id' q
 |.many t n f=>.many t n λk=>AJ id p (f k)
 |v=>v
def Ba(id:Nat)(p:List (Nat×Nat)):Bb (AJ id p):=⟨λ_=>rfl,rfl,λ_ _ _ _ _=>rfl,λ_ _=>rfl,λ_ _ _=>rfl⟩
def Ck:∀ad,ad≠(⟨b,off,none⟩:Addr)->(w.setCell ⟨b,off,none⟩ x).cell? ad=w.cell? ad:=
 λad h=>World.cell?_setCell_other _ _ _ _ (Ne.symm h)
theorem Fr.setCell{w0 w:World}{W:Nat->Prop}(h:Fr w0 w W){b off:Nat}{x:Value}(B:W b\/w0.heap.size<=b):Fr w0 (w.setCell ⟨b,off,none⟩ x) W:=
 ⟨h.os,h.tape,h.output,by simpa using h.size,λc A e=>by
  rw[Az,if_neg]
  .exact h.block c A e
  grind,h.drawn⟩
theorem CR.store_gen(h:CR C σ ts cts w D ρ F){p:List (Nat×Nat)}{s:Bool}{sz n:Nat}{f:Nat->Nat->V}{b o cap i k:Nat}(hid:id<σ.length)
  (hat:At w p (σ.getD id .dead) (ρ id) (.nd s true sz n f) (AA s b o n cap)) (hi:i<n) (hk:k<sz) {x:V}{cx:Value} (htree:∃fp',Rel D (w.setCell ⟨b,o+i*sz+k,none⟩ cx) noR (upd (p++[(i,k)]) (σ.getD id .dead) x) (ρ id) fp'/\(∀c,fp' c->F id c)/\F id b) {G:V->V} (hG:G=AJ id (p++[(i,k)])\/G=(λv=>v)/\(∀s' W n' Y,f i k≠.nd s' true W n' Y)/\∀l,f i k≠.mp true l):
  ∃F',CR C (σ.set id (upd (p++[(i,k)]) (σ.getD id .dead) x)) (ts.map G) cts (w.setCell ⟨b,o+i*sz+k,none⟩ cx) D ρ F':=by
 obtain⟨fp',hr',hsub',hb⟩:=htree
 let F':Nat->Nat->Prop:=λj=>if j=id then fp' else F j
 have hF':∀j c,F' j c->F j c:=by
  intro j c A;simp only[F']at A;split at A
  .rename_i e;subst e;exact hsub' c A
  .exact A
 have hbD:∀c,D c->c≠b:=λc A e=>h.wr.dD id b hb (e▸A)
 have wr':Bl (σ.set id (upd (p++[(i,k)]) (σ.getD id .dead) x)) (w.setCell ⟨b,o+i*sz+k,none⟩ cx) D ρ F':=by
  refine⟨λj hj=>?_,λi j c hij U h2=>h.wr.disj i j c hij (hF' _ _ U) (hF' _ _ h2),λj c A=>h.wr.dD j c (hF' _ _ A),λc A=>by simpa [World.setCell]using h.wr.Dlt c A,λj c hj A=>h.wr.out j c (by simpa using hj) (hF' _ _ A)⟩
  by_cases he:j=id
  .subst he
   rw[Ah hid];simpa [F']using hr'
  .rw[Ag (Ne.symm he)]
   have hj':j<σ.length:=by simpa using hj
   simp only[F',he,if_false];refine Rel.mono (λ_ h=>h) (λ_ _ h=>h) _ _ _ (λc A=>?_) (h.wr.rel j hj')
   rw[Az,if_neg]
   rintro rfl
   rcases A with A|A
   .exact hbD c A rfl
   .exact h.wr.disj j id c he A hb
 have key:∀(id':Nat) (q:List (Nat×Nat)) (s1:Bool) (E Z:Nat) (f1:Nat->Nat->V) (c:Value),id'<σ.length->At w q (σ.getD id' .dead) (ρ id') (.nd s1 true E Z f1) c->¬ (id'=id/\AT (p++[(i,k)]) q=true)->
   ∃Y,At (w.setCell ⟨b,o+i*sz+k,none⟩ cx) q ((σ.set id (upd (p++[(i,k)]) (σ.getD id .dead) x)).getD id' .dead) (ρ id') (.nd s1 true E Z Y) c:=by
  intro id' q s1 E Z f1 c B O hn;by_cases he:id'=id
  .subst he
   rw[Ah hid];exact At.store hi hk Ck (λc A=>by rw[Az,if_neg A]) p q _ _ _ (h.wr.rel id' hid) hat (by simpa using hn) O
  .rw[Ag (Ne.symm he)]
   exact⟨f1,At.same (h.wr.rel id' B) O λc A=>by
    rw[Az,if_neg]
    rintro rfl
    exact h.wr.disj id' id c he A hb⟩
 have keyM:∀(id':Nat) (q:List (Nat×Nat)) (l:List (Value×Value)) (c:Value),id'<σ.length->At w q (σ.getD id' .dead) (ρ id') (.mp true l) c->¬ (id'=id/\AT (p++[(i,k)]) q=true)->
   At (w.setCell ⟨b,o+i*sz+k,none⟩ cx) q ((σ.set id (upd (p++[(i,k)]) (σ.getD id .dead) x)).getD id' .dead) (ρ id') (.mp true l) c:=by
  intro id' q l c B O hn;by_cases he:id'=id
  .subst he
   rw[Ah hid];exact At.storeM hi hk Ck (λc A=>by rw[Az,if_neg A]) p q _ _ _ (h.wr.rel id' hid) hat (by simpa using hn) O
  .rw[Ag (Ne.symm he)]
   exact At.same (h.wr.rel id' B) O λc A=>by
    rw[Az,if_neg]
    rintro rfl
    exact h.wr.disj id' id c he A hb
 have nopreM:((∀s' W n' Y,f i k≠.nd s' true W n' Y)/\∀l,f i k≠.mp true l)->∀(q:List (Nat×Nat)) (l:List (Value×Value)) (c:Value),At w q (σ.getD id .dead) (ρ id) (.mp true l) c->AT (p++[(i,k)]) q=true->False:=by
  intro J q l c O hpre;rw[Cp hpre,List.append_assoc]at O;have U:=At.split O hat;simp only[List.singleton_append]at U;obtain⟨_,_,_,_,_,y,_,_,U⟩:=U;cases hq:q.drop (p++[(i,k)]).length with
  |nil=>rw[hq]at U;exact J.2 _ U.1.symm
  |cons a r=>
   rw[hq]at U;generalize f i k=v at*;cases v with
   |nd s' o' W n' Y=>cases o' with
    |true=>exact J.1 _ _ _ _ rfl
    |false=>exact U.elim
   |_=>exact U.elim
 have nopre:(∀s' W n' Y,f i k≠.nd s' true W n' Y)->∀(q:List (Nat×Nat)) (s1:Bool) (E Z:Nat) (f1:Nat->Nat->V) (c:Value),At w q (σ.getD id .dead) (ρ id) (.nd s1 true E Z f1) c->AT (p++[(i,k)]) q=true->False:=by
  intro J q s1 E Z f1 c O hpre;rw[Cp hpre,List.append_assoc]at O;have U:=At.split O hat;simp only[List.singleton_append]at U;obtain⟨_,_,_,_,_,y,_,_,U⟩:=U;cases hq:q.drop (p++[(i,k)]).length with
  |nil=>rw[hq]at U;exact J _ _ _ _ U.1.symm
  |cons a r=>
   rw[hq]at U;generalize f i k=v at*;cases v with
   |nd s' o' W n' Y=>cases o' with
    |true=>exact J _ _ _ _ rfl
    |false=>exact U.elim
   |_=>exact U.elim
 have hGm:Bb G:=by
  rcases hG with rfl|⟨rfl,_⟩
  .exact Ba _ _
  .exact⟨λ_=>rfl,rfl,λ_ _ _ _ _=>rfl,λ_ _=>rfl,λ_ _ _=>rfl⟩
 refine⟨F',⟨wr',by simpa using h.sz,λt ht=>?_,h.fr.setCell (h.Fn id b hb),λj c A=>h.Fn j c (hF' _ _ A),h.D1,h.D2,h.rt,by simpa using h.ml⟩⟩
 simp at ht;have e1:(ts.map G).getD t .dead=G (ts.getD t .dead):=by simp[ht]
 rw[e1];refine hGm.rel (λc A=>by rw[Az,if_neg (hbD c A)]) ?_ ?_ ?_ _ _ noF (λ_ h=>h) (h.tm t ht)
 .rintro id' q off len cv ⟨B,E,Z,f1,cn,O,hle,hcv⟩
  by_cases A:id'=id/\AT (p++[(i,k)]) q=true
  .rcases hG with rfl|⟨rfl,J⟩
   .simp only[AJ,if_pos A];exact λ_ h=>h
   .obtain⟨rfl,A⟩:=A;exact(nopre J.1 q _ _ _ _ _ O A).elim
  .obtain⟨Y,ha'⟩:=key id' q true E Z f1 cn B O A
   have e2:G (.rs id' q off len)=.rs id' q off len:=by
    rcases hG with rfl|⟨rfl,_⟩
    .simp only[AJ,if_neg A]
    .rfl
   rw[e2];exact⟨⟨by simpa using B,E,Z,Y,cn,ha',hle,hcv⟩,λ_ h=>h⟩
 .rintro id' q i' k' cv ⟨B,s1,E,Z,f1,b1,o1,cap1,O,hi',hk',hcv⟩
  by_cases A:id'=id/\AT (p++[(i,k)]) q=true
  .rcases hG with rfl|⟨rfl,J⟩
   .simp only[AJ,if_pos A];exact λ_ h=>h
   .obtain⟨rfl,A⟩:=A;exact(nopre J.1 q _ _ _ _ _ O A).elim
  .obtain⟨Y,ha'⟩:=key id' q s1 E Z f1 _ B O A
   have e2:G (.rp id' q i' k')=.rp id' q i' k':=by
    rcases hG with rfl|⟨rfl,_⟩
    .simp only[AJ,if_neg A]
    .rfl
   rw[e2];exact⟨⟨by simpa using B,s1,E,Z,Y,b1,o1,cap1,ha',hi',hk',hcv⟩,λ_ h=>h⟩
 .rintro id' q cv ⟨B,l,b1,O,hcv⟩
  by_cases A:id'=id/\AT (p++[(i,k)]) q=true
  .rcases hG with rfl|⟨rfl,J⟩
   .simp only[AJ,if_pos A];exact λ_ h=>h
   .obtain⟨rfl,A⟩:=A;exact(nopreM J q _ _ O A).elim
  .have ha':=keyM id' q l _ B O A
   have e2:G (.rm id' q)=.rm id' q:=by
    rcases hG with rfl|⟨rfl,_⟩
    .simp only[AJ,if_neg A]
    .rfl
   rw[e2];exact⟨⟨by simpa using B,l,b1,ha',hcv⟩,λ_ h=>h⟩
def CR.store_plain(h:CR C σ ts cts w D ρ F){p:List (Nat×Nat)}{s:Bool}{sz n:Nat}{f:Nat->Nat->V}{b o cap i k:Nat}(A:id<σ.length)
  (E:At w p (σ.getD id .dead) (ρ id) (.nd s true sz n f) (AA s b o n cap)) (hi:i<n) (W:k<sz) {x:V}{cx:Value} (Z:Rel D w noR x cx noF) {G:V->V} (hG:G=AJ id (p++[(i,k)])\/G=(λv=>v)/\(∀s' J Y f',f i k≠.nd s' true J Y f')/\∀l,f i k≠.mp true l):
  ∃F',CR C (σ.set id (upd (p++[(i,k)]) (σ.getD id .dead) x)) (ts.map G) cts (w.setCell ⟨b,o+i*sz+k,none⟩ cx) D ρ F':=by
 refine h.store_gen A E hi W ?_ hG;obtain⟨U,O,e,hb⟩:=Lc (h.wr.rel id A) (λc B h'=>h.wr.dD id c h' B) E hi W Z (λc B=>B.elim)
 exact⟨U,O,λc B=>(e c B).elim (λh=>h) λh=>h.elim,hb⟩
theorem P6(hr:Rel D w noR (.nd s true sz n f) (AA s b o n cap) fp1)(hD:∀c,D c->¬fp1 c)(hi:i<n)(hk:k<sz)
  {x:V}{cx:Value} (hx:∀y G,w.cell? ⟨b,o+i*sz+k,none⟩=some y->Rel D w noR (f i k) y G->∃g,Rel D w noR x cx g/\∀c,g c->G c):
  ∃fp2,Rel D (w.setCell ⟨b,o+i*sz+k,none⟩ cx) noR (.nd s true sz n λi' k'=>if i'=i/\k'=k then x else f i' k') (AA s b o n cap) fp2/\∀c,fp2 c->fp1 c:=by
 have E:=Rel.root hr;rcases hr with⟨h0,_⟩|⟨b2,o2,cap2,F,hcv,hcap,Y,hs1,hc,himm,ho⟩
 .omega
 obtain⟨rfl,rfl,B⟩:=Av hcv;obtain⟨⟨cs,T,hb1,hb2⟩,hbF,hFd,hfp⟩:=ho rfl;obtain⟨y0,O,U⟩:=hc i k hi hk;obtain⟨g,hg1,Z⟩:=hx y0 _ O U
 have heap:∀c,(D c\/∃i' k',i'<n/\k'<sz/\F i' k' c)->(w.setCell ⟨b,o+i*sz+k,none⟩ cx).heap[c]? =w.heap[c]?:=λc B=>by
  rw[Az,if_neg]
  rintro rfl
  rcases B with h|⟨i',k',h1,h2,h3⟩
  .exact hD c h E
  .exact hbF i' k' h1 h2 h3
 have sub:∀i' k' c,(if i'=i/\k'=k then g c else F i' k' c)->F i' k' c:=by
  intro i' k' c h;by_cases J:i'=i/\k'=k
  .rw[if_pos J]at h;obtain⟨rfl,rfl⟩:=J;exact Z c h
  .rw[if_neg J]at h;exact h
 refine⟨λc=>c=b\/∃i' k',i'<n/\k'<sz/\(if i'=i/\k'=k then g c else F i' k' c),.inr ⟨b,o,cap2,λi' k' c=>if i'=i/\k'=k then g c else F i' k' c,hcv,hcap,Y,hs1,λi' k' A e=>?_,(λh=>by cases h),λ_=>⟨⟨cs.setIfInBounds (o+i*sz+k) cx,T,?_,by simpa using hb2⟩,λi' k' A e h=>hbF i' k' A e (sub _ _ _ h),λi1 k1 i2 k2 c h1 h2 h3 h4 W hF1 hF2=>hFd i1 k1 i2 k2 c h1 h2 h3 h4 W (sub _ _ _ hF1) (sub _ _ _ hF2),λ_=>Iff.rfl⟩⟩,?_⟩
 .by_cases J:i'=i/\k'=k
  .obtain⟨rfl,rfl⟩:=J
   refine⟨cx,World.cell?_setCell_same _ _ _ O,?_⟩;simp only[and_self,if_true];exact Rel.mono (λ_ h=>h) (λ_ _ h=>h) _ _ _ (λc B=>heap c (B.imp id λh=>⟨i',k',A,e,Z c h⟩)) hg1
  .obtain⟨y,hy,hry⟩:=hc i' k' A e
   have W:=Np (i:=i) hk e J;refine⟨y,by rw[World.cell?_setCell_other _ _ _ _ (by intro h;simp at h;try omega)];exact hy,?_⟩
   simp only[J,if_false];exact Rel.mono (λ_ h=>h) (λ_ _ h=>h) _ _ _ (λc B=>heap c (B.imp id λh=>⟨i',k',A,e,h⟩)) hry
 .obtain⟨fz,hz1,hz2⟩:=hb1;exact⟨fz,by rw[Az,if_pos rfl,hz1];rfl,by simpa using hz2⟩
 .rintro c (rfl|⟨i',k',A,e,h⟩)
  .exact E
  .exact(hfp c).2 (.inr ⟨i',k',A,e,sub _ _ _ h⟩)
theorem JF(hr:Rel D w noR v cv fp)(hD:∀c,D c->¬fp c)(E:At w p v cv (.nd s true sz n f) (AA s b o n cap))(hi:i<n)(hk:k<sz)
  {x:V}{cx:Value} (hx:∀y G,w.cell? ⟨b,o+i*sz+k,none⟩=some y->Rel D w noR (f i k) y G->∃g,Rel D w noR x cx g/\∀c,g c->G c):
  ∃W,Rel D (w.setCell ⟨b,o+i*sz+k,none⟩ cx) noR (upd (p++[(i,k)]) v x) cv W/\(∀c,W c->fp c)/\fp b:=by
 obtain⟨fp1,B,A,J⟩:=C7 p v cv fp _ _ hr hD E;have hb:=A b (Rel.root B);obtain⟨U,Z,Y⟩:=P6 B (λc O h=>hD c O (A c h)) hi hk hx
 refine⟨λc=>(fp c/\¬fp1 c)\/U c,?_,λc O=>?_,hb⟩
 .have e:upd (p++[(i,k)]) v x=upd p v (.nd s true sz n λi' k'=>if i'=i/\k'=k then x else f i' k'):=by
   rw[Hj p _ v x (At.ok E),<-At.sub E];rfl
  rw[e]
  exact J _ U Z (λc O=>.inl (Y c O)) λc O hn=>by
   rw[Az,if_neg]
   rintro rfl
   exact hn (Rel.root B)
 grind
theorem Rel.part{len:Nat}{Y cx:Value}{G:Nat->Prop}(hr:Rel D w noR (.nd true true sz n f) Y G)(hle:off+len<=n)
  (e:(∃b o cap,Y=AA true b o n cap/\cx=.slice (some ⟨b,o+off*sz,none⟩) len (cap-off))\/(len=0/\∃a:Option (Nat×Nat),cx=.slice (a.map λp=>⟨p.1,p.2,none⟩) 0 0/\(off=0->n=0->cx=Y)/\∀p,a=some p->∃o cap,Y=AA true p.1 o n cap/\o<=p.2/\p.2<=o+cap*sz)):
  ∃g,Rel D w noR (.nd true true sz len λi k=>f (i+off) k) cx g/\∀c,g c->G c:=by
 rcases e with⟨b,o,cap,rfl,rfl⟩|⟨rfl,a,rfl,_,ha⟩
 .rcases hr with⟨_,_,h0,_⟩|⟨b2,o2,W,F,e,U,E,Z,hc,O,ho⟩
  .exact absurd h0 BN
  obtain⟨rfl,rfl,A⟩:=Av e;obtain rfl:=A rfl;obtain⟨⟨cs,T,B,hb2⟩,hbF,hFd,hfp⟩:=ho rfl;refine⟨λc=>c=b\/∃i k,i<len/\k<sz/\F (i+off) k c,.inr ⟨b,o+off*sz,cap-off,λi k=>F (i+off) k,rfl,by omega,by omega,(λh=>by cases h),λi k hi J=>?_,(λh=>by cases h),λ_=>⟨⟨cs,T,B,?_⟩,λi k hi J=>hbF _ _ (by omega) J,λi1 k1 i2 k2 c h1 h2 h3 h4 hne=>hFd _ _ _ _ c (by omega) h2 (by omega) h4 (by omega),λ_=>Iff.rfl⟩⟩,?_⟩
  .obtain⟨y,hy,hry⟩:=hc (i+off) k (by omega) J
   exact⟨y,by rw[<-hy];congr 2;rw[Nat.add_mul];omega,hry⟩
  .have:o+off*sz+(cap-off)*sz=o+cap*sz:=by rw[Nat.add_assoc,<-Nat.add_mul,Nat.add_sub_of_le (by omega)]
   omega
  .rintro c (rfl|⟨i,k,hi,J,h⟩)
   .exact(hfp c).2 (.inl rfl)
   .exact(hfp c).2 (.inr ⟨i+off,k,by omega,J,h⟩)
 .cases a with
  |none=>exact⟨noF,.inl ⟨rfl,rfl,.inl rfl,λ_ h=>h⟩,λ_ h=>h.elim⟩
  |some p=>
   obtain⟨o,cap,rfl,h1,h2⟩:=ha p rfl;rcases hr with⟨_,_,h0,_⟩|⟨b2,o2,W,F,e,U,E,Z,hc,O,ho⟩
   .exact absurd h0 BN
   obtain⟨rfl,rfl,A⟩:=Av e;obtain rfl:=A rfl;obtain⟨⟨cs,T,B,hb2⟩,hbF,hFd,hfp⟩:=ho rfl;refine⟨λc=>c=p.1\/∃i k,i<0/\k<sz/\noF c,.inr ⟨p.1,p.2,0,λ_ _=>noF,rfl,Nat.le_refl _,Nat.zero_le _,(λh=>by cases h),λi k hi=>by omega,(λh=>by cases h),λ_=>⟨⟨cs,T,B,by omega⟩,λi k hi=>by omega,λi1 k1 i2 k2 c h=>by omega,λ_=>Iff.rfl⟩⟩,?_⟩
   rintro c (rfl|⟨i,k,hi,_⟩)
   .exact(hfp _).2 (.inl rfl)
   .omega
def CR.store_part(h:CR C σ ts cts w D ρ F){p:List (Nat×Nat)}{s:Bool}{sz n:Nat}{f:Nat->Nat->V}{b o cap i k:Nat}(E:id<σ.length)
  (e:At w p (σ.getD id .dead) (ρ id) (.nd s true sz n f) (AA s b o n cap)) (hi:i<n) (W:k<sz) {A n1:Nat}{Y:Nat->Nat->V} (hf:f i k=.nd true true A n1 Y) {off len:Nat}{cx:Value} (hx:Ak σ ρ w (.rs id (p++[(i,k)]) off len) cx):
  ∃F',CR C (σ.set id (upd (p++[(i,k)]) (σ.getD id .dead) (.nd true true A len λi k=>Y (i+off) k))) (ts.map (AJ id (p++[(i,k)]))) cts (w.setCell ⟨b,o+i*sz+k,none⟩ cx) D ρ F':=by
 refine h.store_gen E e hi W ?_ (.inl rfl);refine JF (h.wr.rel id E) (λc hc h'=>h.wr.dD id c h' hc) e hi W λy G hy B=>?_
 obtain⟨_,sz2,n2,f2,cn,ha,J,O⟩:=hx;have U:=At.split ha e;obtain⟨_,_,b2,o2,cap2,y2,e1,e2,U⟩:=U;obtain⟨rfl,rfl,_⟩:=Av e1;rw[hy]at e2;cases e2;obtain⟨Z,rfl⟩:=U;rw[hf]at Z B;cases Z;exact Rel.part B J O
def A5(id:Nat)(p:List (Nat×Nat))(j:Nat):V->V
 |.rs id' q off len=>if id'=j then .rs id (p++q) off len else if id'=id/\AT p q=true then .dead else .rs id' q off len
 |.rp id' q i k=>if id'=j then .rp id (p++q) i k else if id'=id/\AT p q=true then .dead else .rp id' q i k
 |.rm id' q=>if id'=j then .rm id (p++q)else if id'=id/\AT p q=true then .dead else .rm id' q
 |.many t n f=>.many t n λk=>A5 id p j (f k)
 |v=>v
def CD(id:Nat)(p:List (Nat×Nat))(j:Nat):Bb (A5 id p j):=⟨λ_=>rfl,rfl,λ_ _ _ _ _=>rfl,λ_ _=>rfl,λ_ _ _=>rfl⟩
theorem CR.store_move(h:CR C σ ts cts w D ρ F){j:Nat}{p:List (Nat×Nat)}{s:Bool}{sz n:Nat}{f:Nat->Nat->V}{b o cap i k:Nat}(J:id<σ.length)(hj:j<σ.length)(hij:j≠id)
  (Y:At w p (σ.getD id .dead) (ρ id) (.nd s true sz n f) (AA s b o n cap)) (hi:i<n) (hk:k<sz):
  ∃F',CR C ((σ.set id (upd (p++[(i,k)]) (σ.getD id .dead) (σ.getD j .dead))).set j .dead) (ts.map (A5 id (p++[(i,k)]) j)) cts (w.setCell ⟨b,o+i*sz+k,none⟩ (ρ j)) D ρ F':=by
 obtain⟨fp',hr',hsub,hb⟩:=Lc (h.wr.rel id J) (λc A h'=>h.wr.dD id c h' A) Y hi hk (h.wr.rel j hj) (λc A=>h.wr.disj j id c hij A)
 let F':Nat->Nat->Prop:=λl=>if l=j then noF else if l=id then fp' else F l
 have hF':∀l c,F' l c->(l=id/\(F id c\/F j c))\/(l≠id/\l≠j/\F l c):=by
  intro l c A;simp only[F']at A;split at A
  .exact A.elim
  .split at A
   .rename_i e;subst e;exact .inl ⟨rfl,hsub c A⟩
   .exact .inr ⟨by assumption,by assumption,A⟩
 have hbD:∀c,D c->c≠b:=λc A e=>h.wr.dD id b hb (e▸A)
 have wr':Bl ((σ.set id (upd (p++[(i,k)]) (σ.getD id .dead) (σ.getD j .dead))).set j .dead) (w.setCell ⟨b,o+i*sz+k,none⟩ (ρ j)) D ρ F':=by
  refine⟨λl hl=>?_,λl m c hlm h1 h2=>?_,λl c A=>?_,λc A=>by simpa [World.setCell]using h.wr.Dlt c A,λl c hl A=>?_⟩
  .have hl':l<σ.length:=by simpa using hl
   by_cases Z:l=j
   .subst Z
    rw[Ah (by simpa using hj)]
    simp only[F',if_true];exact λ_ h=>h
   .rw[Ag (Ne.symm Z)]
    by_cases he2:l=id
    .subst he2
     rw[Ah J];simpa [F',Z]using hr'
    .rw[Ag (Ne.symm he2)]
     simp only[F',Z,he2,if_false];refine Rel.mono (λ_ h=>h) (λ_ _ h=>h) _ _ _ (λc A=>?_) (h.wr.rel l hl')
     rw[Az,if_neg]
     rintro rfl
     rcases A with A|A
     .exact hbD c A rfl
     .exact h.wr.disj l id c he2 A hb
  .rcases hF' _ _ h1 with⟨e1,g1⟩|⟨h1a,h1b,g1⟩<;>rcases hF' _ _ h2 with⟨e2,g2⟩|⟨h2a,h2b,g2⟩
   .exact hlm (e1.trans e2.symm)
   .rcases g1 with g1|g1
    .exact h.wr.disj _ _ c (Ne.symm h2a) g1 g2
    .exact h.wr.disj _ _ c (Ne.symm h2b) g1 g2
   .rcases g2 with g2|g2
    .exact h.wr.disj _ _ c (Ne.symm h1a) g2 g1
    .exact h.wr.disj _ _ c (Ne.symm h1b) g2 g1
   .exact h.wr.disj _ _ c hlm g1 g2
  .rcases hF' _ _ A with⟨rfl,h1|h1⟩|⟨_,_,h1⟩
   .exact h.wr.dD _ c h1
   .exact h.wr.dD _ c h1
   .exact h.wr.dD _ c h1
  .have hl':σ.length<=l:=by simpa using hl
   rcases hF' _ _ A with⟨rfl,_⟩|⟨_,_,h1⟩
   .omega
   .exact h.wr.out l c hl' h1
 have W:((σ.set id (upd (p++[(i,k)]) (σ.getD id .dead) (σ.getD j .dead))).set j .dead).length=σ.length:=by simp
 have hgid:((σ.set id (upd (p++[(i,k)]) (σ.getD id .dead) (σ.getD j .dead))).set j .dead).getD id .dead=upd (p++[(i,k)]) (σ.getD id .dead) (σ.getD j .dead):=by
  rw[Ag hij,Ah J]
 have hnew:At (w.setCell ⟨b,o+i*sz+k,none⟩ (ρ j)) (p++[(i,k)]) (upd (p++[(i,k)]) (σ.getD id .dead) (σ.getD j .dead)) (ρ id) (σ.getD j .dead) (ρ j):=by
  have hpre:AT (p++[(i,k)]) p=false:=by
   cases hp:AT (p++[(i,k)]) p with
   |false=>rfl
   |true=>have:=congrArg List.length (Cp hp);simp at this
  obtain⟨f1,ha⟩:=At.store (x:=σ.getD j .dead) hi hk Ck (λc A=>by rw[Az,if_neg A]) p p _ _ _ (h.wr.rel id J) Y hpre Y (w':=w.setCell ⟨b,o+i*sz+k,none⟩ (ρ j))
  have e:=At.sub ha;rw[Hj p _ _ _ (At.ok Y),JL p _ _ (At.ok Y),<-At.sub Y]at e;simp only[upd,V.nd.injEq,true_and]at e;obtain⟨y,hy,_⟩:∃y,w.cell? ⟨b,o+i*sz+k,none⟩=some y/\True:=by
   obtain⟨fp1,hr1,_⟩:=C7 (w':=w) p _ _ _ _ _ (h.wr.rel id J) (λb hb h'=>h.wr.dD id b h' hb) Y
   rcases hr1 with⟨h0,_⟩|⟨b2,o2,cap2,F2,U,_,_,_,A,_⟩
   .omega
   obtain⟨rfl,rfl,_⟩:=Av U;obtain⟨y,hy,_⟩:=A i k hi hk;exact⟨y,hy,trivial⟩
  refine At.app ha ⟨hi,hk,b,o,cap,ρ j,rfl,World.cell?_setCell_same _ _ _ hy,?_,rfl⟩;rw[e];simp
 have key:∀(id':Nat) (q:List (Nat×Nat)) (s1:Bool) (E n1:Nat) (f1:Nat->Nat->V) (c:Value),id'<σ.length->At w q (σ.getD id' .dead) (ρ id') (.nd s1 true E n1 f1) c->
   (id'=j->At (w.setCell ⟨b,o+i*sz+k,none⟩ (ρ j)) (p++[(i,k)]++q) (upd (p++[(i,k)]) (σ.getD id .dead) (σ.getD j .dead)) (ρ id) (.nd s1 true E n1 f1) c)/\
   (id'≠j->¬ (id'=id/\AT (p++[(i,k)]) q=true)->∃f',At (w.setCell ⟨b,o+i*sz+k,none⟩ (ρ j)) q (((σ.set id (upd (p++[(i,k)]) (σ.getD id .dead) (σ.getD j .dead))).set j .dead).getD id' .dead) (ρ id') (.nd s1 true E n1 f') c):=by
  intro id' q s1 E n1 f1 c B ha
  have O:id'≠id->At (w.setCell ⟨b,o+i*sz+k,none⟩ (ρ j)) q (σ.getD id' .dead) (ρ id') (.nd s1 true E n1 f1) c:=λZ=>At.same (h.wr.rel id' B) ha λc A=>by
   rw[Az,if_neg]
   rintro rfl
   exact h.wr.disj id' id c Z A hb
  refine⟨λe=>?_,λhne hn=>?_⟩
  .subst e
   exact At.app hnew (O hij)
  .rw[Ag (Ne.symm hne)]
   by_cases Z:id'=id
   .subst Z
    rw[Ah J];exact At.store hi hk Ck (λc A=>by rw[Az,if_neg A]) p q _ _ _ (h.wr.rel id' J) Y (by simpa using hn) ha
   .rw[Ag (Ne.symm Z)]
    exact⟨f1,O Z⟩
 have keyM:∀(id':Nat) (q:List (Nat×Nat)) (l:List (Value×Value)) (c:Value),id'<σ.length->At w q (σ.getD id' .dead) (ρ id') (.mp true l) c->
   (id'=j->At (w.setCell ⟨b,o+i*sz+k,none⟩ (ρ j)) (p++[(i,k)]++q) (upd (p++[(i,k)]) (σ.getD id .dead) (σ.getD j .dead)) (ρ id) (.mp true l) c)/\
   (id'≠j->¬ (id'=id/\AT (p++[(i,k)]) q=true)->At (w.setCell ⟨b,o+i*sz+k,none⟩ (ρ j)) q (((σ.set id (upd (p++[(i,k)]) (σ.getD id .dead) (σ.getD j .dead))).set j .dead).getD id' .dead) (ρ id') (.mp true l) c):=by
  intro id' q l c B ha
  have O:id'≠id->At (w.setCell ⟨b,o+i*sz+k,none⟩ (ρ j)) q (σ.getD id' .dead) (ρ id') (.mp true l) c:=λZ=>At.same (h.wr.rel id' B) ha λc A=>by
   rw[Az,if_neg]
   rintro rfl
   exact h.wr.disj id' id c Z A hb
  refine⟨λe=>?_,λhne hn=>?_⟩
  .subst e
   exact At.app hnew (O hij)
  .rw[Ag (Ne.symm hne)]
   by_cases Z:id'=id
   .subst Z
    rw[Ah J];exact At.storeM hi hk Ck (λc A=>by rw[Az,if_neg A]) p q _ _ _ (h.wr.rel id' J) Y (by simpa using hn) ha
   .rw[Ag (Ne.symm Z)]
    exact O Z
 refine⟨F',⟨wr',by simpa using h.sz,λt ht=>?_,h.fr.setCell (h.Fn id b hb),λl c A=>?_,h.D1,h.D2,h.rt,by simpa using h.ml⟩⟩
 .simp at ht
  have e1:(ts.map (A5 id (p++[(i,k)]) j)).getD t .dead=A5 id (p++[(i,k)]) j (ts.getD t .dead):=by simp[ht]
  rw[e1];refine(CD _ _ _).rel (λc A=>by rw[Az,if_neg (hbD c A)]) ?_ ?_ ?_ _ _ noF (λ_ h=>h) (h.tm t ht)
  .rintro id' q off len cv ⟨B,E,n1,f1,cn,ha,hle,U⟩
   obtain⟨k1,k2⟩:=key id' q true E n1 f1 cn B ha;simp only[A5];split
   .rename_i A
    exact⟨⟨by rw[W];exact J,E,n1,f1,cn,by rw[hgid];exact k1 A,hle,U⟩,λ_ h=>h⟩
   .rename_i A
    split
    .exact λ_ h=>h
    .rename_i hc2
     obtain⟨f',ha'⟩:=k2 A hc2;exact⟨⟨by rw[W];exact B,E,n1,f',cn,ha',hle,U⟩,λ_ h=>h⟩
  .rintro id' q i' k' cv ⟨B,s1,E,n1,f1,b1,o1,cap1,ha,hi',hk',U⟩
   obtain⟨k1,k2⟩:=key id' q s1 E n1 f1 _ B ha;simp only[A5];split
   .rename_i A
    exact⟨⟨by rw[W];exact J,s1,E,n1,f1,b1,o1,cap1,by rw[hgid];exact k1 A,hi',hk',U⟩,λ_ h=>h⟩
   .rename_i A
    split
    .exact λ_ h=>h
    .rename_i hc2
     obtain⟨f',ha'⟩:=k2 A hc2;exact⟨⟨by rw[W];exact B,s1,E,n1,f',b1,o1,cap1,ha',hi',hk',U⟩,λ_ h=>h⟩
  .rintro id' q cv ⟨B,l,b1,ha,U⟩
   obtain⟨k1,k2⟩:=keyM id' q l _ B ha;simp only[A5];split
   .rename_i A
    exact⟨⟨by rw[W];exact J,l,b1,by rw[hgid];exact k1 A,U⟩,λ_ h=>h⟩
   .rename_i A
    split
    .exact λ_ h=>h
    .rename_i hc2
     exact⟨⟨by rw[W];exact B,l,b1,k2 A hc2,U⟩,λ_ h=>h⟩
 .rcases hF' _ _ A with⟨rfl,h1|h1⟩|⟨_,_,h1⟩
  .exact h.Fn _ c h1
  .exact h.Fn _ c h1
  .exact h.Fn _ c h1
end Go.Ve


namespace Go.Ve
def At.cells{w w':World}(A:∀ad x,w.cell? ad=some x->w'.cell? ad=some x):∀(p:List (Nat×Nat)) (v:V) (cv:Value) (e:V) (c1:Value),At w p v cv e c1->At w' p v cv e c1
 |[],_,_,_,_,h=>h
 |(i,k)::p,.nd s true sz n f,cv,e,c1,h=>by
  obtain⟨U,O,b,o,cap,x,J,E,B⟩:=h;exact⟨U,O,b,o,cap,x,J,A _ _ E,At.cells A p _ _ _ _ B⟩
 |_::_,.nd _ false _ _ _,_,_,_,h=>h.elim
 |_::_,.c _,_,_,_,h=>h.elim
 |_::_,.dead,_,_,_,h=>h.elim
 |_::_,.many ..,_,_,_,h=>h.elim
 |_::_,.rs ..,_,_,_,h=>h.elim
 |_::_,.rp ..,_,_,_,h=>h.elim
 |_::_,.rm ..,_,_,_,h=>h.elim
 |_::_,.mp ..,_,_,_,h=>h.elim
def At.put{w:World}{x:V}:∀(p:List (Nat×Nat)) (v:V) (cv:Value) (e:V) (c1:Value),At w p v cv e c1->At w p (upd p v x) cv x c1
 |[],_,_,_,_,h=>⟨rfl,h.2⟩
 |(i,k)::p,.nd s true sz n f,cv,e,c1,h=>by
  obtain⟨U,O,b,o,cap,y,J,E,B⟩:=h;have A:=At.put (x:=x) p _ _ _ _ B;exact⟨U,O,b,o,cap,y,J,E,by simpa using A⟩
 |_::_,.nd _ false _ _ _,_,_,_,h=>h.elim
 |_::_,.c _,_,_,_,h=>h.elim
 |_::_,.dead,_,_,_,h=>h.elim
 |_::_,.many ..,_,_,_,h=>h.elim
 |_::_,.rs ..,_,_,_,h=>h.elim
 |_::_,.rp ..,_,_,_,h=>h.elim
 |_::_,.rm ..,_,_,_,h=>h.elim
 |_::_,.mp ..,_,_,_,h=>h.elim
def Z0{w:World}{b:Nat}{B es':Array MapEntry}{c c':Nat}(A:w.heap[b]? =some (.map B c))(ad:Addr)(x:Value)(h:w.cell? ad=some x):({w with heap:=w.heap.setIfInBounds b (.map es' c')}:World).cell? ad=some x:=by
 unfold World.cell? at h⊢;by_cases e:ad.block=b
 .subst e
  simp[A]at h
 .simpa [Array.getElem?_setIfInBounds_ne (Ne.symm e)]using h
theorem CR.map_upd{C:Ctx}{σ ts:List V}{cts:Array Value}{w:World}{D:Nat->Prop}{ρ:Nat->Value}{F:Nat->Nat->Prop}(h:CR C σ ts cts w D ρ F){id:Nat}{p:List (Nat×Nat)}{l:List (Value×Value)}{b:Nat}(hid:id<σ.length)
  (hat:At w p (σ.getD id .dead) (ρ id) (.mp true l) (.map (some b))) (es':Array MapEntry) (c':Nat):
  ∃F',CR C (σ.set id (upd p (σ.getD id .dead) (.mp true (es'.toList.map λe=>(e.key,e.val))))) ts cts {w with heap:=w.heap.setIfInBounds b (.map es' c')} D ρ F':=by
 let l':=es'.toList.map λe=>(e.key,e.val)
 let w':World:={w with heap:=w.heap.setIfInBounds b (.map es' c')}
 obtain⟨fp1,hr1,hsub,hput⟩:=C7 (w':=w') p _ _ _ _ _ (h.wr.rel id hid) (λc B h'=>h.wr.dD id c h' B) hat
 obtain⟨b0,e0,⟨es,c,hb0,_⟩,_,hf1⟩:=hr1;cases e0;have hf1:=hf1 rfl;have hb:F id b:=hsub b ((hf1 b).2 rfl);have hlt:b<w.heap.size:=(Array.getElem?_eq_some_iff.1 hb0).1;have U:∀c,c≠b->w'.heap[c]? =w.heap[c]?:=λc B=>by
  show(w.heap.setIfInBounds b _)[c]? =_;rw[Array.getElem?_setIfInBounds_ne (Ne.symm B)]
 have J:=Z0 (es':=es') (c':=c') hb0;have hsz:w'.heap.size=w.heap.size:=by show(w.heap.setIfInBounds b _).size=_;simp
 have hr':=hput (.mp true l') (λc=>c=b) ⟨b,rfl,⟨es',c',by show(w.heap.setIfInBounds b _)[b]? =_;simp[hlt],rfl⟩,(λe=>by cases e),λ_ x=>Iff.rfl⟩ (λc B=>.inl ((hf1 c).2 B)) λc _ hn=>U c λe=>hn ((hf1 c).2 e)
 let fp':Nat->Prop:=λc=>(F id c/\¬fp1 c)\/c=b
 let F':Nat->Nat->Prop:=λj=>if j=id then fp' else F j
 have hF':∀j c,F' j c->F j c:=by
  intro j c B;simp only[F']at B;split at B
  .rename_i e;subst e;rcases B with B|rfl
   .exact B.1
   .exact hb
  .exact B
 have hbD:∀c,D c->c≠b:=λc B e=>h.wr.dD id b hb (e▸B)
 have wr':Bl (σ.set id (upd p (σ.getD id .dead) (.mp true l'))) w' D ρ F':=by
  refine⟨λj hj=>?_,λi j c hij Z h2=>h.wr.disj i j c hij (hF' _ _ Z) (hF' _ _ h2),λj c B=>h.wr.dD j c (hF' _ _ B),λc B=>by rw[hsz];exact h.wr.Dlt c B,λj c hj B=>h.wr.out j c (by simpa using hj) (hF' _ _ B)⟩
  by_cases he:j=id
  .subst he
   rw[Ah hid];simpa [F',fp']using hr'
  .rw[Ag (Ne.symm he)]
   have hj':j<σ.length:=by simpa using hj
   simp only[F',he,if_false];refine Rel.mono (λ_ h=>h) (λ_ _ h=>h) _ _ _ (λc B=>?_) (h.wr.rel j hj')
   refine U c ?_
   rintro rfl
   rcases B with B|B
   .exact hbD c B rfl
   .exact h.wr.disj j id c he B hb
 have noP:∀(q:List (Nat×Nat)) (v1:V) (c1:Value),At w q (σ.getD id .dead) (ρ id) v1 c1->AT p q=true->q=p/\v1=.mp true l/\c1=.map (some b):=by
  intro q v1 c1 W E;have e:=Cp E;rw[e]at W;have Z:=At.split W hat;cases hq:q.drop p.length with
  |nil=>rw[hq]at Z e;exact⟨by simpa using e,Z.1,Z.2⟩
  |cons a r=>rw[hq]at Z;exact Z.elim
 have key:∀(id':Nat) (q:List (Nat×Nat)) (s1:Bool) (O n1:Nat) (f1:Nat->Nat->V) (c:Value),id'<σ.length->At w q (σ.getD id' .dead) (ρ id') (.nd s1 true O n1 f1) c->
   ∃f',At w' q ((σ.set id (upd p (σ.getD id .dead) (.mp true l'))).getD id' .dead) (ρ id') (.nd s1 true O n1 f') c:=by
  intro id' q s1 O n1 f1 c A W;by_cases he:id'=id
  .subst he
   rw[Ah hid];cases E:AT p q with
   |true=>have:=(noP q _ _ W E).2.1;cases this
   |false=>
    obtain⟨f',Z⟩:=At.keep (x:=.mp true l') p q _ _ (At.ok hat) E W;exact⟨f',At.cells J _ _ _ _ _ Z⟩
  .rw[Ag (Ne.symm he)]
   exact⟨f1,At.cells J _ _ _ _ _ W⟩
 refine⟨F',⟨wr',h.sz,λt ht=>?_,⟨h.fr.os,h.fr.tape,h.fr.output,by rw[hsz];exact h.fr.size,λc B hn=>(U c λe=>by subst e;rcases h.Fn id c hb with Z|Z;exact hn Z;omega).trans (h.fr.block c B hn),h.fr.drawn⟩,λj c B=>h.Fn j c (hF' _ _ B),h.D1,h.D2,h.rt,by simpa using h.ml⟩⟩
 have hGm:Bb (λv:V=>v):=⟨λ_=>rfl,rfl,λ_ _ _ _ _=>rfl,λ_ _=>rfl,λ_ _ _=>rfl⟩
 refine hGm.rel (λc B=>U c (hbD c B)) ?_ ?_ ?_ _ _ noF (λ_ h=>h) (h.tm t ht)
 .rintro id' q off len cv ⟨A,O,n1,f1,cn,W,hle,Y⟩
  obtain⟨f',ha'⟩:=key id' q true O n1 f1 cn A W;exact⟨⟨by simpa using A,O,n1,f',cn,ha',hle,Y⟩,λ_ h=>h⟩
 .rintro id' q i' k' cv ⟨A,s1,O,n1,f1,b1,o1,cap1,W,hi',hk',Y⟩
  obtain⟨f',ha'⟩:=key id' q s1 O n1 f1 _ A W;exact⟨⟨by simpa using A,s1,O,n1,f',b1,o1,cap1,ha',hi',hk',Y⟩,λ_ h=>h⟩
 .rintro id' q cv ⟨A,l1,b1,W,Y⟩
  by_cases he:id'=id
  .subst he
   cases E:AT p q with
   |true=>
    obtain⟨rfl,e1,e2⟩:=noP q _ _ W E;cases e2;refine⟨⟨by simpa using A,l',b,?_,rfl⟩,λ_ h=>h⟩
    rw[Ah hid];exact At.cells J _ _ _ _ _ (At.put _ _ _ _ _ hat)
   |false=>
    refine⟨⟨by simpa using A,l1,b1,?_,Y⟩,λ_ h=>h⟩
    rw[Ah hid];exact At.cells J _ _ _ _ _ (At.keepM p q _ _ (At.ok hat) E W)
  .refine⟨⟨by simpa using A,l1,b1,?_,Y⟩,λ_ h=>h⟩
   rw[Ag (Ne.symm he)];exact At.cells J _ _ _ _ _ W
end Go.Ve

