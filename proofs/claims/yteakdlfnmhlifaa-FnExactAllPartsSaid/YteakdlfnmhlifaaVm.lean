/- A store into an owned tree. -/
import Derived.Test.YteakdlfnmhlifaaVi
import Derived.Test.YteakdlfnmhlifaaTw
set_option linter.all false
namespace Go.Ve
variable{cts:Array Value}{s:Bool}{C:Ctx}{p:List (Nat×Nat)}{ts σ:List V}{b cap i id k n o off sz:Nat}{F:Nat->Nat->Prop}{f:Nat->Nat->V}{D fp fp1:Nat->Prop}{ρ:Nat->Value}{v:V}{cv x:Value}{w:World}
def Hv:∀(p r:List (Nat×Nat)) (v x:V),K2 p v->upd (p++r) v x=upd p v (upd r (sub p v) x)
 |[],_,_,_,_=>rfl
 |(i,k)::p,r,.nd s o sz n f,x,h=>by
  obtain⟨_,_,_,h⟩:=h;simp[upd,sub];rw[Hv p r _ x h]
 |_::_,_,.c _,_,h=>h.elim
 |_::_,_,.dead,_,h=>h.elim
 |_::_,_,.many ..,_,h=>h.elim
 |_::_,_,.rs ..,_,h=>h.elim
 |_::_,_,.rp ..,_,h=>h.elim
 |_::_,_,.rm ..,_,h=>h.elim
 |_::_,_,.mp ..,_,h=>h.elim
def JS:∀(p:List (Nat×Nat)) (v x:V),K2 p v->sub p (upd p v x)=x
 |[],_,_,_=>rfl
 |(i,k)::p,.nd s o sz n f,x,h=>by
  obtain⟨_,_,_,h⟩:=h;simp[upd,sub,if_true];exact JS p _ x h
 |_::_,.c _,_,h=>h.elim
 |_::_,.dead,_,h=>h.elim
 |_::_,.many ..,_,h=>h.elim
 |_::_,.rs ..,_,h=>h.elim
 |_::_,.rp ..,_,h=>h.elim
 |_::_,.rm ..,_,h=>h.elim
 |_::_,.mp ..,_,h=>h.elim
theorem Ax{c:Nat}:(w.setCell ⟨b,off,none⟩ x).heap[c]? =if c=b then(w.heap[c]?).map (fun|.cells cs e fz=>.cells (cs.setIfInBounds off x) e fz|o=>o)else w.heap[c]?:=by
 simp[World.setCell,Array.getElem?_modify]
 grind
theorem nd_set(hr:Rel D w noR (.nd s true sz n f) (Ay s b o n cap) fp1)(hD:∀c,D c->¬fp1 c)(hi:i<n)(hk:k<sz)
  {x:V}{cx:Value}{g:Nat->Prop} (hx:Rel D (w.setCell ⟨b,o+i*sz+k,none⟩ cx) noR x cx g) (hg:∀c,g c->¬fp1 c):
  ∃fp2,Rel D (w.setCell ⟨b,o+i*sz+k,none⟩ cx) noR (.nd s true sz n λi' k'=>if i'=i/\k'=k then x else f i' k') (Ay s b o n cap) fp2/\∀c,fp2 c->fp1 c\/g c:=by
 have e:=Rel.root hr;rcases hr with⟨h0,_⟩|⟨b2,o2,cap2,F,Y,hcap,W,hs1,hc,himm,ho⟩
 .omega
 obtain⟨rfl,rfl,Z⟩:=As Y;obtain⟨⟨cs,T,hb1,hb2⟩,hbF,hFd,hfp⟩:=ho rfl;refine⟨λc=>c=b\/∃i' k',i'<n/\k'<sz/\(if i'=i/\k'=k then g c else F i' k' c),.inr ⟨b,o,cap2,λi' k' c=>if i'=i/\k'=k then g c else F i' k' c,Y,hcap,W,hs1,λi' k' A u=>?_,(λh=>by cases h),λ_=>⟨⟨cs.setIfInBounds (o+i*sz+k) cx,T,?_,by simpa using hb2⟩,λi' k' A u=>?_,λi1 k1 i2 k2 c h1 h2 h3 h4 U E B=>?_,λ_=>Iff.rfl⟩⟩,?_⟩
 .by_cases H:i'=i/\k'=k
  .obtain⟨rfl,rfl⟩:=H
   obtain⟨y,hy,_⟩:=hc i' k' hi hk;exact⟨cx,World.cell?_setCell_same _ _ _ hy,by simpa using hx⟩
  .obtain⟨y,hy,hry⟩:=hc i' k' A u
   have U:=NB (i:=i) hk u H;refine⟨y,by rw[World.cell?_setCell_other _ _ _ _ (by intro h;simp at h;try omega)];exact hy,?_⟩
   simp only[H,if_false];refine Rel.mono (λ_ h=>h) (λ_ _ h=>h) _ _ _ (λc Z=>?_) hry
   rw[Ax,if_neg]
   rintro rfl
   rcases Z with h|h
   .exact hD c h e
   .exact hbF i' k' A u h
 .obtain⟨fz,hz1,hz2⟩:=hb1;exact⟨fz,by rw[Ax,if_pos rfl,hz1];rfl,by simpa using hz2⟩
 .by_cases H:i'=i/\k'=k
  .simp only[H,and_self,if_true];exact λh=>hg b h e
  .simp only[H,if_false];exact hbF i' k' A u
 .by_cases O:i1=i/\k1=k<;>by_cases J:i2=i/\k2=k
  .omega
  .simp only[O,and_self,if_true]at E
   simp only[J,if_false]at B;exact hg c E ((hfp c).2 (.inr ⟨i2,k2,h3,h4,B⟩))
  .simp only[J,and_self,if_true]at B
   simp only[O,if_false]at E;exact hg c B ((hfp c).2 (.inr ⟨i1,k1,h1,h2,E⟩))
  .simp only[O,if_false]at E
   simp only[J,if_false]at B;exact hFd i1 k1 i2 k2 c h1 h2 h3 h4 U E B
 .rintro c (rfl|⟨i',k',A,u,h⟩)
  .exact .inl e
  .by_cases H:i'=i/\k'=k
   .simp only[H,and_self,if_true]at h;exact .inr h
   .simp only[H,if_false]at h;exact .inl ((hfp c).2 (.inr ⟨i',k',A,u,h⟩))
theorem Li(hr:Rel D w noR v cv fp)(hD:∀c,D c->¬fp c)(E:At w p v cv (.nd s true sz n f) (Ay s b o n cap))(hi:i<n)(hk:k<sz)
  {x:V}{cx:Value}{g:Nat->Prop} (hx:Rel D w noR x cx g) (Z:∀c,g c->¬fp c):
  ∃O,Rel D (w.setCell ⟨b,o+i*sz+k,none⟩ cx) noR (upd (p++[(i,k)]) v x) cv O/\(∀c,O c->fp c\/g c)/\fp b:=by
 obtain⟨fp1,B,u,H⟩:=Dg p v cv fp _ _ hr hD E;have hb:=u b (Rel.root B)
 have U:Rel D (w.setCell ⟨b,o+i*sz+k,none⟩ cx) noR x cx g:=by
  refine Rel.mono (λ_ h=>h) (λ_ _ h=>h) _ _ _ (λc A=>?_) hx
  rw[Ax,if_neg]
  grind
 obtain⟨J,Y,W⟩:=nd_set B (λc A h=>hD c A (u c h)) hi hk U (λc A h=>Z c A (u c h))
 refine⟨λc=>(fp c/\¬fp1 c)\/J c,?_,λc A=>?_,hb⟩
 .have e:upd (p++[(i,k)]) v x=upd p v (.nd s true sz n λi' k'=>if i'=i/\k'=k then x else f i' k'):=by
   rw[Hv p _ v x (At.ok E),<-At.sub E];rfl
  rw[e]
  exact H _ J Y (λc A=>(W c A).imp id λh=>Z c h) λc A hn=>by
   rw[Ax,if_neg]
   rintro rfl
   exact hn (Rel.root B)
 grind
def AI(id:Nat)(p:List (Nat×Nat)):V->V
 |.rs id' q off len=>if id'=id/\AR p q=true then .dead else .rs id' q off len
 |.rp id' q i k=>if id'=id/\AR p q=true then .dead else .rp id' q i k
 |.rm id' q=>if id'=id/\AR p q=true then .dead else .rm id' q
 |.many t n f=>.many t n λk=>AI id p (f k)
 |v=>v
def Ba(id:Nat)(p:List (Nat×Nat)):Bc (AI id p):=⟨λ_=>rfl,rfl,λ_ _ _ _ _=>rfl,λ_ _=>rfl,λ_ _ _=>rfl⟩
def Cj:∀ad,ad≠(⟨b,off,none⟩:Addr)->(w.setCell ⟨b,off,none⟩ x).cell? ad=w.cell? ad:=
 λad h=>World.cell?_setCell_other _ _ _ _ (Ne.symm h)
theorem Fr.setCell{w0 w:World}{W:Nat->Prop}(h:Fr w0 w W){b off:Nat}{x:Value}(A:W b\/w0.heap.size<=b):Fr w0 (w.setCell ⟨b,off,none⟩ x) W:=
 ⟨h.os,h.tape,h.output,by simpa using h.size,λc u e=>by
  rw[Ax,if_neg]
  .exact h.block c u e
  grind,h.drawn⟩
theorem CR.store_gen(h:CR C σ ts cts w D ρ F){p:List (Nat×Nat)}{s:Bool}{sz n:Nat}{f:Nat->Nat->V}{b o cap i k:Nat}(hid:id<σ.length)
  (hat:At w p (σ.getD id .dead) (ρ id) (.nd s true sz n f) (Ay s b o n cap)) (hi:i<n) (hk:k<sz) {x:V}{cx:Value} (htree:∃fp',Rel D (w.setCell ⟨b,o+i*sz+k,none⟩ cx) noR (upd (p++[(i,k)]) (σ.getD id .dead) x) (ρ id) fp'/\(∀c,fp' c->F id c)/\F id b) {G:V->V} (hG:G=AI id (p++[(i,k)])\/G=(λv=>v)/\(∀s' O n' U,f i k≠.nd s' true O n' U)/\∀l,f i k≠.mp true l):
  ∃F',CR C (σ.set id (upd (p++[(i,k)]) (σ.getD id .dead) x)) (ts.map G) cts (w.setCell ⟨b,o+i*sz+k,none⟩ cx) D ρ F':=by
 obtain⟨fp',hr',hsub',hb⟩:=htree
 let F':Nat->Nat->Prop:=λj=>if j=id then fp' else F j
 have hF':∀j c,F' j c->F j c:=by
  intro j c u;simp only[F']at u;split at u
  .rename_i e;subst e;exact hsub' c u
  .exact u
 have hbD:∀c,D c->c≠b:=λc u e=>h.wr.dD id b hb (e▸u)
 have wr':Bg (σ.set id (upd (p++[(i,k)]) (σ.getD id .dead) x)) (w.setCell ⟨b,o+i*sz+k,none⟩ cx) D ρ F':=by
  refine⟨λj hj=>?_,λi j c hij J h2=>h.wr.disj i j c hij (hF' _ _ J) (hF' _ _ h2),λj c u=>h.wr.dD j c (hF' _ _ u),λc u=>by simpa [World.setCell]using h.wr.Dlt c u,λj c hj u=>h.wr.out j c (by simpa using hj) (hF' _ _ u)⟩
  by_cases Y:j=id
  .subst Y
   rw[Ae hid];simpa [F']using hr'
  .rw[Ad (Ne.symm Y)]
   have hj':j<σ.length:=by simpa using hj
   simp only[F',Y,if_false];refine Rel.mono (λ_ h=>h) (λ_ _ h=>h) _ _ _ (λc u=>?_) (h.wr.rel j hj')
   rw[Ax,if_neg]
   rintro rfl
   rcases u with u|u
   .exact hbD c u rfl
   .exact h.wr.disj j id c Y u hb
 have key:∀(id':Nat) (q:List (Nat×Nat)) (s1:Bool) (B W:Nat) (f1:Nat->Nat->V) (c:Value),id'<σ.length->At w q (σ.getD id' .dead) (ρ id') (.nd s1 true B W f1) c->¬ (id'=id/\AR (p++[(i,k)]) q=true)->
   ∃U,At (w.setCell ⟨b,o+i*sz+k,none⟩ cx) q ((σ.set id (upd (p++[(i,k)]) (σ.getD id .dead) x)).getD id' .dead) (ρ id') (.nd s1 true B W U) c:=by
  intro id' q s1 B W f1 c A H hn;by_cases Y:id'=id
  .subst Y
   rw[Ae hid];exact At.store hi hk Cj (λc u=>by rw[Ax,if_neg u]) p q _ _ _ (h.wr.rel id' hid) hat (by simpa using hn) H
  .rw[Ad (Ne.symm Y)]
   exact⟨f1,At.same (h.wr.rel id' A) H λc u=>by
    rw[Ax,if_neg]
    rintro rfl
    exact h.wr.disj id' id c Y u hb⟩
 have keyM:∀(id':Nat) (q:List (Nat×Nat)) (l:List (Value×Value)) (c:Value),id'<σ.length->At w q (σ.getD id' .dead) (ρ id') (.mp true l) c->¬ (id'=id/\AR (p++[(i,k)]) q=true)->
   At (w.setCell ⟨b,o+i*sz+k,none⟩ cx) q ((σ.set id (upd (p++[(i,k)]) (σ.getD id .dead) x)).getD id' .dead) (ρ id') (.mp true l) c:=by
  intro id' q l c A H hn;by_cases Y:id'=id
  .subst Y
   rw[Ae hid];exact At.storeM hi hk Cj (λc u=>by rw[Ax,if_neg u]) p q _ _ _ (h.wr.rel id' hid) hat (by simpa using hn) H
  .rw[Ad (Ne.symm Y)]
   exact At.same (h.wr.rel id' A) H λc u=>by
    rw[Ax,if_neg]
    rintro rfl
    exact h.wr.disj id' id c Y u hb
 have nopreM:((∀s' O n' U,f i k≠.nd s' true O n' U)/\∀l,f i k≠.mp true l)->∀(q:List (Nat×Nat)) (l:List (Value×Value)) (c:Value),At w q (σ.getD id .dead) (ρ id) (.mp true l) c->AR (p++[(i,k)]) q=true->False:=by
  intro E q l c H hpre;rw[Cq hpre,List.append_assoc]at H;have J:=At.split H hat;simp only[List.singleton_append]at J;obtain⟨_,_,_,_,_,y,_,_,J⟩:=J;cases hq:q.drop (p++[(i,k)]).length with
  |nil=>rw[hq]at J;exact E.2 _ J.1.symm
  |cons a r=>
   rw[hq]at J;generalize f i k=v at*;cases v with
   |nd s' o' O n' U=>cases o' with
    |true=>exact E.1 _ _ _ _ rfl
    |false=>exact J.elim
   |_=>exact J.elim
 have Z:(∀s' O n' U,f i k≠.nd s' true O n' U)->∀(q:List (Nat×Nat)) (s1:Bool) (B W:Nat) (f1:Nat->Nat->V) (c:Value),At w q (σ.getD id .dead) (ρ id) (.nd s1 true B W f1) c->AR (p++[(i,k)]) q=true->False:=by
  intro E q s1 B W f1 c H hpre;rw[Cq hpre,List.append_assoc]at H;have J:=At.split H hat;simp only[List.singleton_append]at J;obtain⟨_,_,_,_,_,y,_,_,J⟩:=J;cases hq:q.drop (p++[(i,k)]).length with
  |nil=>rw[hq]at J;exact E _ _ _ _ J.1.symm
  |cons a r=>
   rw[hq]at J;generalize f i k=v at*;cases v with
   |nd s' o' O n' U=>cases o' with
    |true=>exact E _ _ _ _ rfl
    |false=>exact J.elim
   |_=>exact J.elim
 have hGm:Bc G:=by
  rcases hG with rfl|⟨rfl,_⟩
  .exact Ba _ _
  .exact⟨λ_=>rfl,rfl,λ_ _ _ _ _=>rfl,λ_ _=>rfl,λ_ _ _=>rfl⟩
 refine⟨F',⟨wr',by simpa using h.sz,λt ht=>?_,h.fr.setCell (h.Fn id b hb),λj c u=>h.Fn j c (hF' _ _ u),h.D1,h.D2,h.rt,by simpa using h.ml⟩⟩
 simp at ht;have e1:(ts.map G).getD t .dead=G (ts.getD t .dead):=by simp[ht]
 rw[e1];refine hGm.rel (λc u=>by rw[Ax,if_neg (hbD c u)]) ?_ ?_ ?_ _ _ noF (λ_ h=>h) (h.tm t ht)
 .rintro id' q off len cv ⟨A,B,W,f1,cn,H,hle,hcv⟩
  by_cases u:id'=id/\AR (p++[(i,k)]) q=true
  .rcases hG with rfl|⟨rfl,E⟩
   .simp only[AI,if_pos u];exact λ_ h=>h
   .obtain⟨rfl,u⟩:=u;exact(Z E.1 q _ _ _ _ _ H u).elim
  .obtain⟨U,ha'⟩:=key id' q true B W f1 cn A H u
   have e2:G (.rs id' q off len)=.rs id' q off len:=by
    rcases hG with rfl|⟨rfl,_⟩
    .simp only[AI,if_neg u]
    .rfl
   rw[e2];exact⟨⟨by simpa using A,B,W,U,cn,ha',hle,hcv⟩,λ_ h=>h⟩
 .rintro id' q i' k' cv ⟨A,s1,B,W,f1,b1,o1,cap1,H,hi',hk',hcv⟩
  by_cases u:id'=id/\AR (p++[(i,k)]) q=true
  .rcases hG with rfl|⟨rfl,E⟩
   .simp only[AI,if_pos u];exact λ_ h=>h
   .obtain⟨rfl,u⟩:=u;exact(Z E.1 q _ _ _ _ _ H u).elim
  .obtain⟨U,ha'⟩:=key id' q s1 B W f1 _ A H u
   have e2:G (.rp id' q i' k')=.rp id' q i' k':=by
    rcases hG with rfl|⟨rfl,_⟩
    .simp only[AI,if_neg u]
    .rfl
   rw[e2];exact⟨⟨by simpa using A,s1,B,W,U,b1,o1,cap1,ha',hi',hk',hcv⟩,λ_ h=>h⟩
 .rintro id' q cv ⟨A,l,b1,H,hcv⟩
  by_cases u:id'=id/\AR (p++[(i,k)]) q=true
  .rcases hG with rfl|⟨rfl,E⟩
   .simp only[AI,if_pos u];exact λ_ h=>h
   .obtain⟨rfl,u⟩:=u;exact(nopreM E q _ _ H u).elim
  .have ha':=keyM id' q l _ A H u
   have e2:G (.rm id' q)=.rm id' q:=by
    rcases hG with rfl|⟨rfl,_⟩
    .simp only[AI,if_neg u]
    .rfl
   rw[e2];exact⟨⟨by simpa using A,l,b1,ha',hcv⟩,λ_ h=>h⟩
def CR.store_plain(h:CR C σ ts cts w D ρ F){p:List (Nat×Nat)}{s:Bool}{sz n:Nat}{f:Nat->Nat->V}{b o cap i k:Nat}(u:id<σ.length)
  (B:At w p (σ.getD id .dead) (ρ id) (.nd s true sz n f) (Ay s b o n cap)) (hi:i<n) (O:k<sz) {x:V}{cx:Value} (W:Rel D w noR x cx noF) {G:V->V} (Z:G=AI id (p++[(i,k)])\/G=(λv=>v)/\(∀s' E U f',f i k≠.nd s' true E U f')/\∀l,f i k≠.mp true l):
  ∃F',CR C (σ.set id (upd (p++[(i,k)]) (σ.getD id .dead) x)) (ts.map G) cts (w.setCell ⟨b,o+i*sz+k,none⟩ cx) D ρ F':=by
 refine h.store_gen u B hi O ?_ Z;obtain⟨J,H,e,Y⟩:=Li (h.wr.rel id u) (λc A h'=>h.wr.dD id c h' A) B hi O W (λc A=>A.elim)
 exact⟨J,H,λc A=>(e c A).elim (λh=>h) λh=>h.elim,Y⟩
theorem Qs(hr:Rel D w noR (.nd s true sz n f) (Ay s b o n cap) fp1)(hD:∀c,D c->¬fp1 c)(hi:i<n)(hk:k<sz)
  {x:V}{cx:Value} (hx:∀y G,w.cell? ⟨b,o+i*sz+k,none⟩=some y->Rel D w noR (f i k) y G->∃g,Rel D w noR x cx g/\∀c,g c->G c):
  ∃fp2,Rel D (w.setCell ⟨b,o+i*sz+k,none⟩ cx) noR (.nd s true sz n λi' k'=>if i'=i/\k'=k then x else f i' k') (Ay s b o n cap) fp2/\∀c,fp2 c->fp1 c:=by
 have B:=Rel.root hr;rcases hr with⟨h0,_⟩|⟨b2,o2,cap2,F,Y,Z,U,hs1,hc,himm,ho⟩
 .omega
 obtain⟨rfl,rfl,A⟩:=As Y;obtain⟨⟨cs,T,hb1,hb2⟩,hbF,hFd,hfp⟩:=ho rfl;obtain⟨y0,H,J⟩:=hc i k hi hk;obtain⟨g,hg1,W⟩:=hx y0 _ H J
 have heap:∀c,(D c\/∃i' k',i'<n/\k'<sz/\F i' k' c)->(w.setCell ⟨b,o+i*sz+k,none⟩ cx).heap[c]? =w.heap[c]?:=λc A=>by
  rw[Ax,if_neg]
  rintro rfl
  rcases A with h|⟨i',k',h1,h2,h3⟩
  .exact hD c h B
  .exact hbF i' k' h1 h2 h3
 have sub:∀i' k' c,(if i'=i/\k'=k then g c else F i' k' c)->F i' k' c:=by
  intro i' k' c h;by_cases E:i'=i/\k'=k
  .rw[if_pos E]at h;obtain⟨rfl,rfl⟩:=E;exact W c h
  .rw[if_neg E]at h;exact h
 refine⟨λc=>c=b\/∃i' k',i'<n/\k'<sz/\(if i'=i/\k'=k then g c else F i' k' c),.inr ⟨b,o,cap2,λi' k' c=>if i'=i/\k'=k then g c else F i' k' c,Y,Z,U,hs1,λi' k' u e=>?_,(λh=>by cases h),λ_=>⟨⟨cs.setIfInBounds (o+i*sz+k) cx,T,?_,by simpa using hb2⟩,λi' k' u e h=>hbF i' k' u e (sub _ _ _ h),λi1 k1 i2 k2 c h1 h2 h3 h4 O hF1 hF2=>hFd i1 k1 i2 k2 c h1 h2 h3 h4 O (sub _ _ _ hF1) (sub _ _ _ hF2),λ_=>Iff.rfl⟩⟩,?_⟩
 .by_cases E:i'=i/\k'=k
  .obtain⟨rfl,rfl⟩:=E
   refine⟨cx,World.cell?_setCell_same _ _ _ H,?_⟩;simp only[and_self,if_true];exact Rel.mono (λ_ h=>h) (λ_ _ h=>h) _ _ _ (λc A=>heap c (A.imp id λh=>⟨i',k',u,e,W c h⟩)) hg1
  .obtain⟨y,hy,hry⟩:=hc i' k' u e
   have O:=NB (i:=i) hk e E;refine⟨y,by rw[World.cell?_setCell_other _ _ _ _ (by intro h;simp at h;try omega)];exact hy,?_⟩
   simp only[E,if_false];exact Rel.mono (λ_ h=>h) (λ_ _ h=>h) _ _ _ (λc A=>heap c (A.imp id λh=>⟨i',k',u,e,h⟩)) hry
 .obtain⟨fz,hz1,hz2⟩:=hb1;exact⟨fz,by rw[Ax,if_pos rfl,hz1];rfl,by simpa using hz2⟩
 .rintro c (rfl|⟨i',k',u,e,h⟩)
  .exact B
  .exact(hfp c).2 (.inr ⟨i',k',u,e,sub _ _ _ h⟩)
theorem JL(hr:Rel D w noR v cv fp)(Y:∀c,D c->¬fp c)(B:At w p v cv (.nd s true sz n f) (Ay s b o n cap))(hi:i<n)(hk:k<sz)
  {x:V}{cx:Value} (Z:∀y G,w.cell? ⟨b,o+i*sz+k,none⟩=some y->Rel D w noR (f i k) y G->∃g,Rel D w noR x cx g/\∀c,g c->G c):
  ∃O,Rel D (w.setCell ⟨b,o+i*sz+k,none⟩ cx) noR (upd (p++[(i,k)]) v x) cv O/\(∀c,O c->fp c)/\fp b:=by
 obtain⟨fp1,A,u,E⟩:=Dg p v cv fp _ _ hr Y B;have hb:=u b (Rel.root A);obtain⟨J,W,U⟩:=Qs A (λc H h=>Y c H (u c h)) hi hk Z
 refine⟨λc=>(fp c/\¬fp1 c)\/J c,?_,λc H=>?_,hb⟩
 .have e:upd (p++[(i,k)]) v x=upd p v (.nd s true sz n λi' k'=>if i'=i/\k'=k then x else f i' k'):=by
   rw[Hv p _ v x (At.ok B),<-At.sub B];rfl
  rw[e]
  exact E _ J W (λc H=>.inl (U c H)) λc H hn=>by
   rw[Ax,if_neg]
   rintro rfl
   exact hn (Rel.root A)
 grind
theorem Rel.part{len:Nat}{U cx:Value}{G:Nat->Prop}(hr:Rel D w noR (.nd true true sz n f) U G)(hle:off+len<=n)
  (e:(∃b o cap,U=Ay true b o n cap/\cx=.slice (some ⟨b,o+off*sz,none⟩) len (cap-off))\/(len=0/\∃a:Option (Nat×Nat),cx=.slice (a.map λp=>⟨p.1,p.2,none⟩) 0 0/\(off=0->n=0->cx=U)/\∀p,a=some p->∃o cap,U=Ay true p.1 o n cap/\o<=p.2/\p.2<=o+cap*sz)):
  ∃g,Rel D w noR (.nd true true sz len λi k=>f (i+off) k) cx g/\∀c,g c->G c:=by
 rcases e with⟨b,o,cap,rfl,rfl⟩|⟨rfl,a,rfl,_,ha⟩
 .rcases hr with⟨_,_,h0,_⟩|⟨b2,o2,O,F,e,J,B,W,hc,H,Z⟩
  .exact absurd h0 BP
  obtain⟨rfl,rfl,u⟩:=As e;obtain rfl:=u rfl;obtain⟨⟨cs,T,A,hb2⟩,hbF,hFd,hfp⟩:=Z rfl;refine⟨λc=>c=b\/∃i k,i<len/\k<sz/\F (i+off) k c,.inr ⟨b,o+off*sz,cap-off,λi k=>F (i+off) k,rfl,by omega,by omega,(λh=>by cases h),λi k hi E=>?_,(λh=>by cases h),λ_=>⟨⟨cs,T,A,?_⟩,λi k hi E=>hbF _ _ (by omega) E,λi1 k1 i2 k2 c h1 h2 h3 h4 hne=>hFd _ _ _ _ c (by omega) h2 (by omega) h4 (by omega),λ_=>Iff.rfl⟩⟩,?_⟩
  .obtain⟨y,hy,Y⟩:=hc (i+off) k (by omega) E
   exact⟨y,by rw[<-hy];congr 2;rw[Nat.add_mul];omega,Y⟩
  .have:o+off*sz+(cap-off)*sz=o+cap*sz:=by rw[Nat.add_assoc,<-Nat.add_mul,Nat.add_sub_of_le (by omega)]
   omega
  .rintro c (rfl|⟨i,k,hi,E,h⟩)
   .exact(hfp c).2 (.inl rfl)
   .exact(hfp c).2 (.inr ⟨i+off,k,by omega,E,h⟩)
 .cases a with
  |none=>exact⟨noF,.inl ⟨rfl,rfl,.inl rfl,λ_ h=>h⟩,λ_ h=>h.elim⟩
  |some p=>
   obtain⟨o,cap,rfl,h1,h2⟩:=ha p rfl;rcases hr with⟨_,_,h0,_⟩|⟨b2,o2,O,F,e,J,B,W,hc,H,Z⟩
   .exact absurd h0 BP
   obtain⟨rfl,rfl,u⟩:=As e;obtain rfl:=u rfl;obtain⟨⟨cs,T,A,hb2⟩,hbF,hFd,hfp⟩:=Z rfl;refine⟨λc=>c=p.1\/∃i k,i<0/\k<sz/\noF c,.inr ⟨p.1,p.2,0,λ_ _=>noF,rfl,Nat.le_refl _,Nat.zero_le _,(λh=>by cases h),λi k hi=>by omega,(λh=>by cases h),λ_=>⟨⟨cs,T,A,by omega⟩,λi k hi=>by omega,λi1 k1 i2 k2 c h=>by omega,λ_=>Iff.rfl⟩⟩,?_⟩
   rintro c (rfl|⟨i,k,hi,_⟩)
   .exact(hfp _).2 (.inl rfl)
   .omega
def CR.store_part(h:CR C σ ts cts w D ρ F){p:List (Nat×Nat)}{s:Bool}{sz n:Nat}{f:Nat->Nat->V}{b o cap i k:Nat}(B:id<σ.length)
  (e:At w p (σ.getD id .dead) (ρ id) (.nd s true sz n f) (Ay s b o n cap)) (hi:i<n) (O:k<sz) {u n1:Nat}{U:Nat->Nat->V} (hf:f i k=.nd true true u n1 U) {off len:Nat}{cx:Value} (hx:Ai σ ρ w (.rs id (p++[(i,k)]) off len) cx):
  ∃F',CR C (σ.set id (upd (p++[(i,k)]) (σ.getD id .dead) (.nd true true u len λi k=>U (i+off) k))) (ts.map (AI id (p++[(i,k)]))) cts (w.setCell ⟨b,o+i*sz+k,none⟩ cx) D ρ F':=by
 refine h.store_gen B e hi O ?_ (.inl rfl);refine JL (h.wr.rel id B) (λc hc h'=>h.wr.dD id c h' hc) e hi O λy G hy A=>?_
 obtain⟨_,sz2,n2,f2,cn,ha,E,H⟩:=hx;have J:=At.split ha e;obtain⟨_,_,b2,o2,Z,y2,e1,Y,J⟩:=J;obtain⟨rfl,rfl,_⟩:=As e1;rw[hy]at Y;cases Y;obtain⟨W,rfl⟩:=J;rw[hf]at W A;cases W;exact Rel.part A E H
def A2(id:Nat)(p:List (Nat×Nat))(j:Nat):V->V
 |.rs id' q off len=>if id'=j then .rs id (p++q) off len else if id'=id/\AR p q=true then .dead else .rs id' q off len
 |.rp id' q i k=>if id'=j then .rp id (p++q) i k else if id'=id/\AR p q=true then .dead else .rp id' q i k
 |.rm id' q=>if id'=j then .rm id (p++q)else if id'=id/\AR p q=true then .dead else .rm id' q
 |.many t n f=>.many t n λk=>A2 id p j (f k)
 |v=>v
def CL(id:Nat)(p:List (Nat×Nat))(j:Nat):Bc (A2 id p j):=⟨λ_=>rfl,rfl,λ_ _ _ _ _=>rfl,λ_ _=>rfl,λ_ _ _=>rfl⟩
theorem CR.store_move(h:CR C σ ts cts w D ρ F){j:Nat}{p:List (Nat×Nat)}{s:Bool}{sz n:Nat}{f:Nat->Nat->V}{b o cap i k:Nat}(E:id<σ.length)(hj:j<σ.length)(hij:j≠id)
  (U:At w p (σ.getD id .dead) (ρ id) (.nd s true sz n f) (Ay s b o n cap)) (hi:i<n) (hk:k<sz):
  ∃F',CR C ((σ.set id (upd (p++[(i,k)]) (σ.getD id .dead) (σ.getD j .dead))).set j .dead) (ts.map (A2 id (p++[(i,k)]) j)) cts (w.setCell ⟨b,o+i*sz+k,none⟩ (ρ j)) D ρ F':=by
 obtain⟨fp',hr',hsub,hb⟩:=Li (h.wr.rel id E) (λc u h'=>h.wr.dD id c h' u) U hi hk (h.wr.rel j hj) (λc u=>h.wr.disj j id c hij u)
 let F':Nat->Nat->Prop:=λl=>if l=j then noF else if l=id then fp' else F l
 have hF':∀l c,F' l c->(l=id/\(F id c\/F j c))\/(l≠id/\l≠j/\F l c):=by
  intro l c u;simp only[F']at u;split at u
  .exact u.elim
  .split at u
   .rename_i e;subst e;exact .inl ⟨rfl,hsub c u⟩
   .exact .inr ⟨by assumption,by assumption,u⟩
 have hbD:∀c,D c->c≠b:=λc u e=>h.wr.dD id b hb (e▸u)
 have wr':Bg ((σ.set id (upd (p++[(i,k)]) (σ.getD id .dead) (σ.getD j .dead))).set j .dead) (w.setCell ⟨b,o+i*sz+k,none⟩ (ρ j)) D ρ F':=by
  refine⟨λl hl=>?_,λl m c hlm Y h2=>?_,λl c u=>?_,λc u=>by simpa [World.setCell]using h.wr.Dlt c u,λl c hl u=>?_⟩
  .have hl':l<σ.length:=by simpa using hl
   by_cases W:l=j
   .subst W
    rw[Ae (by simpa using hj)]
    simp only[F',if_true];exact λ_ h=>h
   .rw[Ad (Ne.symm W)]
    by_cases he2:l=id
    .subst he2
     rw[Ae E];simpa [F',W]using hr'
    .rw[Ad (Ne.symm he2)]
     simp only[F',W,he2,if_false];refine Rel.mono (λ_ h=>h) (λ_ _ h=>h) _ _ _ (λc u=>?_) (h.wr.rel l hl')
     rw[Ax,if_neg]
     rintro rfl
     rcases u with u|u
     .exact hbD c u rfl
     .exact h.wr.disj l id c he2 u hb
  .rcases hF' _ _ Y with⟨e1,g1⟩|⟨h1a,h1b,g1⟩<;>rcases hF' _ _ h2 with⟨e2,g2⟩|⟨h2a,h2b,g2⟩
   .exact hlm (e1.trans e2.symm)
   .rcases g1 with g1|g1
    .exact h.wr.disj _ _ c (Ne.symm h2a) g1 g2
    .exact h.wr.disj _ _ c (Ne.symm h2b) g1 g2
   .rcases g2 with g2|g2
    .exact h.wr.disj _ _ c (Ne.symm h1a) g2 g1
    .exact h.wr.disj _ _ c (Ne.symm h1b) g2 g1
   .exact h.wr.disj _ _ c hlm g1 g2
  .rcases hF' _ _ u with⟨rfl,Y|Y⟩|⟨_,_,Y⟩
   .exact h.wr.dD _ c Y
   .exact h.wr.dD _ c Y
   .exact h.wr.dD _ c Y
  .have hl':σ.length<=l:=by simpa using hl
   rcases hF' _ _ u with⟨rfl,_⟩|⟨_,_,Y⟩
   .omega
   .exact h.wr.out l c hl' Y
 have O:((σ.set id (upd (p++[(i,k)]) (σ.getD id .dead) (σ.getD j .dead))).set j .dead).length=σ.length:=by simp
 have hgid:((σ.set id (upd (p++[(i,k)]) (σ.getD id .dead) (σ.getD j .dead))).set j .dead).getD id .dead=upd (p++[(i,k)]) (σ.getD id .dead) (σ.getD j .dead):=by
  rw[Ad hij,Ae E]
 have hnew:At (w.setCell ⟨b,o+i*sz+k,none⟩ (ρ j)) (p++[(i,k)]) (upd (p++[(i,k)]) (σ.getD id .dead) (σ.getD j .dead)) (ρ id) (σ.getD j .dead) (ρ j):=by
  have hpre:AR (p++[(i,k)]) p=false:=by
   cases hp:AR (p++[(i,k)]) p with
   |false=>rfl
   |true=>have:=congrArg List.length (Cq hp);simp at this
  obtain⟨f1,Z⟩:=At.store (x:=σ.getD j .dead) hi hk Cj (λc u=>by rw[Ax,if_neg u]) p p _ _ _ (h.wr.rel id E) U hpre U (w':=w.setCell ⟨b,o+i*sz+k,none⟩ (ρ j))
  have e:=At.sub Z;rw[Hv p _ _ _ (At.ok U),JS p _ _ (At.ok U),<-At.sub U]at e;simp only[upd,V.nd.injEq,true_and]at e;obtain⟨y,hy,_⟩:∃y,w.cell? ⟨b,o+i*sz+k,none⟩=some y/\True:=by
   obtain⟨fp1,hr1,_⟩:=Dg (w':=w) p _ _ _ _ _ (h.wr.rel id E) (λb hb h'=>h.wr.dD id b h' hb) U
   rcases hr1 with⟨h0,_⟩|⟨b2,o2,cap2,F2,J,_,_,_,u,_⟩
   .omega
   obtain⟨rfl,rfl,_⟩:=As J;obtain⟨y,hy,_⟩:=u i k hi hk;exact⟨y,hy,trivial⟩
  refine At.app Z ⟨hi,hk,b,o,cap,ρ j,rfl,World.cell?_setCell_same _ _ _ hy,?_,rfl⟩;rw[e];simp
 have key:∀(id':Nat) (q:List (Nat×Nat)) (s1:Bool) (B n1:Nat) (f1:Nat->Nat->V) (c:Value),id'<σ.length->At w q (σ.getD id' .dead) (ρ id') (.nd s1 true B n1 f1) c->
   (id'=j->At (w.setCell ⟨b,o+i*sz+k,none⟩ (ρ j)) (p++[(i,k)]++q) (upd (p++[(i,k)]) (σ.getD id .dead) (σ.getD j .dead)) (ρ id) (.nd s1 true B n1 f1) c)/\
   (id'≠j->¬ (id'=id/\AR (p++[(i,k)]) q=true)->∃f',At (w.setCell ⟨b,o+i*sz+k,none⟩ (ρ j)) q (((σ.set id (upd (p++[(i,k)]) (σ.getD id .dead) (σ.getD j .dead))).set j .dead).getD id' .dead) (ρ id') (.nd s1 true B n1 f') c):=by
  intro id' q s1 B n1 f1 c A Z
  have H:id'≠id->At (w.setCell ⟨b,o+i*sz+k,none⟩ (ρ j)) q (σ.getD id' .dead) (ρ id') (.nd s1 true B n1 f1) c:=λW=>At.same (h.wr.rel id' A) Z λc u=>by
   rw[Ax,if_neg]
   rintro rfl
   exact h.wr.disj id' id c W u hb
  refine⟨λe=>?_,λhne hn=>?_⟩
  .subst e
   exact At.app hnew (H hij)
  .rw[Ad (Ne.symm hne)]
   by_cases W:id'=id
   .subst W
    rw[Ae E];exact At.store hi hk Cj (λc u=>by rw[Ax,if_neg u]) p q _ _ _ (h.wr.rel id' E) U (by simpa using hn) Z
   .rw[Ad (Ne.symm W)]
    exact⟨f1,H W⟩
 have keyM:∀(id':Nat) (q:List (Nat×Nat)) (l:List (Value×Value)) (c:Value),id'<σ.length->At w q (σ.getD id' .dead) (ρ id') (.mp true l) c->
   (id'=j->At (w.setCell ⟨b,o+i*sz+k,none⟩ (ρ j)) (p++[(i,k)]++q) (upd (p++[(i,k)]) (σ.getD id .dead) (σ.getD j .dead)) (ρ id) (.mp true l) c)/\
   (id'≠j->¬ (id'=id/\AR (p++[(i,k)]) q=true)->At (w.setCell ⟨b,o+i*sz+k,none⟩ (ρ j)) q (((σ.set id (upd (p++[(i,k)]) (σ.getD id .dead) (σ.getD j .dead))).set j .dead).getD id' .dead) (ρ id') (.mp true l) c):=by
  intro id' q l c A Z
  have H:id'≠id->At (w.setCell ⟨b,o+i*sz+k,none⟩ (ρ j)) q (σ.getD id' .dead) (ρ id') (.mp true l) c:=λW=>At.same (h.wr.rel id' A) Z λc u=>by
   rw[Ax,if_neg]
   rintro rfl
   exact h.wr.disj id' id c W u hb
  refine⟨λe=>?_,λhne hn=>?_⟩
  .subst e
   exact At.app hnew (H hij)
  .rw[Ad (Ne.symm hne)]
   by_cases W:id'=id
   .subst W
    rw[Ae E];exact At.storeM hi hk Cj (λc u=>by rw[Ax,if_neg u]) p q _ _ _ (h.wr.rel id' E) U (by simpa using hn) Z
   .rw[Ad (Ne.symm W)]
    exact H W
 refine⟨F',⟨wr',by simpa using h.sz,λt ht=>?_,h.fr.setCell (h.Fn id b hb),λl c u=>?_,h.D1,h.D2,h.rt,by simpa using h.ml⟩⟩
 .simp at ht
  have e1:(ts.map (A2 id (p++[(i,k)]) j)).getD t .dead=A2 id (p++[(i,k)]) j (ts.getD t .dead):=by simp[ht]
  rw[e1];refine(CL _ _ _).rel (λc u=>by rw[Ax,if_neg (hbD c u)]) ?_ ?_ ?_ _ _ noF (λ_ h=>h) (h.tm t ht)
  .rintro id' q off len cv ⟨A,B,n1,f1,cn,Z,hle,J⟩
   obtain⟨k1,k2⟩:=key id' q true B n1 f1 cn A Z;simp only[A2];split
   .rename_i u
    exact⟨⟨by rw[O];exact E,B,n1,f1,cn,by rw[hgid];exact k1 u,hle,J⟩,λ_ h=>h⟩
   .rename_i u
    split
    .exact λ_ h=>h
    .rename_i hc2
     obtain⟨f',ha'⟩:=k2 u hc2;exact⟨⟨by rw[O];exact A,B,n1,f',cn,ha',hle,J⟩,λ_ h=>h⟩
  .rintro id' q i' k' cv ⟨A,s1,B,n1,f1,b1,o1,cap1,Z,hi',hk',J⟩
   obtain⟨k1,k2⟩:=key id' q s1 B n1 f1 _ A Z;simp only[A2];split
   .rename_i u
    exact⟨⟨by rw[O];exact E,s1,B,n1,f1,b1,o1,cap1,by rw[hgid];exact k1 u,hi',hk',J⟩,λ_ h=>h⟩
   .rename_i u
    split
    .exact λ_ h=>h
    .rename_i hc2
     obtain⟨f',ha'⟩:=k2 u hc2;exact⟨⟨by rw[O];exact A,s1,B,n1,f',b1,o1,cap1,ha',hi',hk',J⟩,λ_ h=>h⟩
  .rintro id' q cv ⟨A,l,b1,Z,J⟩
   obtain⟨k1,k2⟩:=keyM id' q l _ A Z;simp only[A2];split
   .rename_i u
    exact⟨⟨by rw[O];exact E,l,b1,by rw[hgid];exact k1 u,J⟩,λ_ h=>h⟩
   .rename_i u
    split
    .exact λ_ h=>h
    .rename_i hc2
     exact⟨⟨by rw[O];exact A,l,b1,k2 u hc2,J⟩,λ_ h=>h⟩
 .rcases hF' _ _ u with⟨rfl,Y|Y⟩|⟨_,_,Y⟩
  .exact h.Fn _ c Y
  .exact h.Fn _ c Y
  .exact h.Fn _ c Y
end Go.Ve


namespace Go.Ve
def At.cells{w w':World}(u:∀ad x,w.cell? ad=some x->w'.cell? ad=some x):∀(p:List (Nat×Nat)) (v:V) (cv:Value) (e:V) (c1:Value),At w p v cv e c1->At w' p v cv e c1
 |[],_,_,_,_,h=>h
 |(i,k)::p,.nd s true sz n f,cv,e,c1,h=>by
  obtain⟨J,H,b,o,cap,x,E,B,A⟩:=h;exact⟨J,H,b,o,cap,x,E,u _ _ B,At.cells u p _ _ _ _ A⟩
 |_::_,.nd _ false _ _ _,_,_,_,h=>h.elim
 |_::_,.c _,_,_,_,h=>h.elim
 |_::_,.dead,_,_,_,h=>h.elim
 |_::_,.many ..,_,_,_,h=>h.elim
 |_::_,.rs ..,_,_,_,h=>h.elim
 |_::_,.rp ..,_,_,_,h=>h.elim
 |_::_,.rm ..,_,_,_,h=>h.elim
 |_::_,.mp ..,_,_,_,h=>h.elim
def At.put{w:World}{x:V}:∀(p:List (Nat×Nat)) (v:V) (cv:Value) (e:V) (c1:Value),At w p v cv e c1->At w p (upd p v x) cv x c1
 |[],_,_,_,_,h=>⟨rfl,h.2⟩
 |(i,k)::p,.nd s true sz n f,cv,e,c1,h=>by
  obtain⟨J,H,b,o,cap,y,E,B,A⟩:=h;have u:=At.put (x:=x) p _ _ _ _ A;exact⟨J,H,b,o,cap,y,E,B,by simpa using u⟩
 |_::_,.nd _ false _ _ _,_,_,_,h=>h.elim
 |_::_,.c _,_,_,_,h=>h.elim
 |_::_,.dead,_,_,_,h=>h.elim
 |_::_,.many ..,_,_,_,h=>h.elim
 |_::_,.rs ..,_,_,_,h=>h.elim
 |_::_,.rp ..,_,_,_,h=>h.elim
 |_::_,.rm ..,_,_,_,h=>h.elim
 |_::_,.mp ..,_,_,_,h=>h.elim
def Aal{w:World}{b:Nat}{A es':Array MapEntry}{c c':Nat}(u:w.heap[b]? =some (.map A c))(ad:Addr)(x:Value)(h:w.cell? ad=some x):({w with heap:=w.heap.setIfInBounds b (.map es' c')}:World).cell? ad=some x:=by
 unfold World.cell? at h⊢;by_cases e:ad.block=b
 .subst e
  simp[u]at h
 .simpa [Array.getElem?_setIfInBounds_ne (Ne.symm e)]using h
theorem CR.map_upd{C:Ctx}{σ ts:List V}{cts:Array Value}{w:World}{D:Nat->Prop}{ρ:Nat->Value}{F:Nat->Nat->Prop}(h:CR C σ ts cts w D ρ F){id:Nat}{p:List (Nat×Nat)}{l:List (Value×Value)}{b:Nat}(Y:id<σ.length)
  (hat:At w p (σ.getD id .dead) (ρ id) (.mp true l) (.map (some b))) (es':Array MapEntry) (c':Nat):
  ∃F',CR C (σ.set id (upd p (σ.getD id .dead) (.mp true (es'.toList.map λe=>(e.key,e.val))))) ts cts {w with heap:=w.heap.setIfInBounds b (.map es' c')} D ρ F':=by
 let l':=es'.toList.map λe=>(e.key,e.val)
 let w':World:={w with heap:=w.heap.setIfInBounds b (.map es' c')}
 obtain⟨fp1,hr1,hsub,hput⟩:=Dg (w':=w') p _ _ _ _ _ (h.wr.rel id Y) (λc A h'=>h.wr.dD id c h' A) hat
 obtain⟨b0,e0,⟨es,c,hb0,_⟩,_,Z⟩:=hr1;cases e0;have Z:=Z rfl;have hb:F id b:=hsub b ((Z b).2 rfl);have hlt:b<w.heap.size:=(Array.getElem?_eq_some_iff.1 hb0).1;have J:∀c,c≠b->w'.heap[c]? =w.heap[c]?:=λc A=>by
  show(w.heap.setIfInBounds b _)[c]? =_;rw[Array.getElem?_setIfInBounds_ne (Ne.symm A)]
 have E:=Aal (es':=es') (c':=c') hb0;have hsz:w'.heap.size=w.heap.size:=by show(w.heap.setIfInBounds b _).size=_;simp
 have hr':=hput (.mp true l') (λc=>c=b) ⟨b,rfl,⟨es',c',by show(w.heap.setIfInBounds b _)[b]? =_;simp[hlt],rfl⟩,(λe=>by cases e),λ_ x=>Iff.rfl⟩ (λc A=>.inl ((Z c).2 A)) λc _ hn=>J c λe=>hn ((Z c).2 e)
 let fp':Nat->Prop:=λc=>(F id c/\¬fp1 c)\/c=b
 let F':Nat->Nat->Prop:=λj=>if j=id then fp' else F j
 have hF':∀j c,F' j c->F j c:=by
  intro j c A;simp only[F']at A;split at A
  .rename_i e;subst e;rcases A with A|rfl
   .exact A.1
   .exact hb
  .exact A
 have hbD:∀c,D c->c≠b:=λc A e=>h.wr.dD id b hb (e▸A)
 have wr':Bg (σ.set id (upd p (σ.getD id .dead) (.mp true l'))) w' D ρ F':=by
  refine⟨λj hj=>?_,λi j c hij W h2=>h.wr.disj i j c hij (hF' _ _ W) (hF' _ _ h2),λj c A=>h.wr.dD j c (hF' _ _ A),λc A=>by rw[hsz];exact h.wr.Dlt c A,λj c hj A=>h.wr.out j c (by simpa using hj) (hF' _ _ A)⟩
  by_cases he:j=id
  .subst he
   rw[Ae Y];simpa [F',fp']using hr'
  .rw[Ad (Ne.symm he)]
   have hj':j<σ.length:=by simpa using hj
   simp only[F',he,if_false];refine Rel.mono (λ_ h=>h) (λ_ _ h=>h) _ _ _ (λc A=>?_) (h.wr.rel j hj')
   refine J c ?_
   rintro rfl
   rcases A with A|A
   .exact hbD c A rfl
   .exact h.wr.disj j id c he A hb
 have noP:∀(q:List (Nat×Nat)) (v1:V) (c1:Value),At w q (σ.getD id .dead) (ρ id) v1 c1->AR p q=true->q=p/\v1=.mp true l/\c1=.map (some b):=by
  intro q v1 c1 O B;have e:=Cq B;rw[e]at O;have W:=At.split O hat;cases hq:q.drop p.length with
  |nil=>rw[hq]at W e;exact⟨by simpa using e,W.1,W.2⟩
  |cons a r=>rw[hq]at W;exact W.elim
 have key:∀(id':Nat) (q:List (Nat×Nat)) (s1:Bool) (H n1:Nat) (f1:Nat->Nat->V) (c:Value),id'<σ.length->At w q (σ.getD id' .dead) (ρ id') (.nd s1 true H n1 f1) c->
   ∃f',At w' q ((σ.set id (upd p (σ.getD id .dead) (.mp true l'))).getD id' .dead) (ρ id') (.nd s1 true H n1 f') c:=by
  intro id' q s1 H n1 f1 c u O;by_cases he:id'=id
  .subst he
   rw[Ae Y];cases B:AR p q with
   |true=>have:=(noP q _ _ O B).2.1;cases this
   |false=>
    obtain⟨f',W⟩:=At.keep (x:=.mp true l') p q _ _ (At.ok hat) B O;exact⟨f',At.cells E _ _ _ _ _ W⟩
  .rw[Ad (Ne.symm he)]
   exact⟨f1,At.cells E _ _ _ _ _ O⟩
 refine⟨F',⟨wr',h.sz,λt ht=>?_,⟨h.fr.os,h.fr.tape,h.fr.output,by rw[hsz];exact h.fr.size,λc A hn=>(J c λe=>by subst e;rcases h.Fn id c hb with W|W;exact hn W;omega).trans (h.fr.block c A hn),h.fr.drawn⟩,λj c A=>h.Fn j c (hF' _ _ A),h.D1,h.D2,h.rt,by simpa using h.ml⟩⟩
 have hGm:Bc (λv:V=>v):=⟨λ_=>rfl,rfl,λ_ _ _ _ _=>rfl,λ_ _=>rfl,λ_ _ _=>rfl⟩
 refine hGm.rel (λc A=>J c (hbD c A)) ?_ ?_ ?_ _ _ noF (λ_ h=>h) (h.tm t ht)
 .rintro id' q off len cv ⟨u,H,n1,f1,cn,O,hle,U⟩
  obtain⟨f',ha'⟩:=key id' q true H n1 f1 cn u O;exact⟨⟨by simpa using u,H,n1,f',cn,ha',hle,U⟩,λ_ h=>h⟩
 .rintro id' q i' k' cv ⟨u,s1,H,n1,f1,b1,o1,cap1,O,hi',hk',U⟩
  obtain⟨f',ha'⟩:=key id' q s1 H n1 f1 _ u O;exact⟨⟨by simpa using u,s1,H,n1,f',b1,o1,cap1,ha',hi',hk',U⟩,λ_ h=>h⟩
 .rintro id' q cv ⟨u,l1,b1,O,U⟩
  by_cases he:id'=id
  .subst he
   cases B:AR p q with
   |true=>
    obtain⟨rfl,e1,e2⟩:=noP q _ _ O B;cases e2;refine⟨⟨by simpa using u,l',b,?_,rfl⟩,λ_ h=>h⟩
    rw[Ae Y];exact At.cells E _ _ _ _ _ (At.put _ _ _ _ _ hat)
   |false=>
    refine⟨⟨by simpa using u,l1,b1,?_,U⟩,λ_ h=>h⟩
    rw[Ae Y];exact At.cells E _ _ _ _ _ (At.keepM p q _ _ (At.ok hat) B O)
  .refine⟨⟨by simpa using u,l1,b1,?_,U⟩,λ_ h=>h⟩
   rw[Ad (Ne.symm he)];exact At.cells E _ _ _ _ _ O
end Go.Ve

