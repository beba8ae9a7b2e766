/- A store into an owned tree. -/
import Derived.Test.YtojjlnbnneemaaaVi
import Derived.Test.YtojjlnbnneemaaaTw
set_option linter.all false
namespace Go.Ve
variable{cts:Array Value}{s:Bool}{C:Ctx}{p:List (Nat×Nat)}{ts σ:List V}{b cap i id k n o off sz:Nat}{F:Nat->Nat->Prop}{f:Nat->Nat->V}{D fp fp1:Nat->Prop}{ρ:Nat->Value}{v:V}{cv x:Value}{w:World}
def Hq:∀(p r:List (Nat×Nat)) (v x:V),KG p v->upd (p++r) v x=upd p v (upd r (sub p v) x)
 |[],_,_,_,_=>rfl
 |(i,k)::p,r,.nd s o sz n f,x,h=>by
  obtain⟨_,_,_,h⟩:=h;simp[upd,sub];rw[Hq p r _ x h]
 |_::_,_,.c _,_,h=>h.elim
 |_::_,_,.dead,_,h=>h.elim
 |_::_,_,.many ..,_,h=>h.elim
 |_::_,_,.rs ..,_,h=>h.elim
 |_::_,_,.rp ..,_,h=>h.elim
 |_::_,_,.rm ..,_,h=>h.elim
 |_::_,_,.mp ..,_,h=>h.elim
def JI:∀(p:List (Nat×Nat)) (v x:V),KG p v->sub p (upd p v x)=x
 |[],_,_,_=>rfl
 |(i,k)::p,.nd s o sz n f,x,h=>by
  obtain⟨_,_,_,h⟩:=h;simp[upd,sub,if_true];exact JI p _ x h
 |_::_,.c _,_,h=>h.elim
 |_::_,.dead,_,h=>h.elim
 |_::_,.many ..,_,h=>h.elim
 |_::_,.rs ..,_,h=>h.elim
 |_::_,.rp ..,_,h=>h.elim
 |_::_,.rm ..,_,h=>h.elim
 |_::_,.mp ..,_,h=>h.elim
theorem AC{c:Nat}:(w.setCell ⟨b,off,none⟩ x).heap[c]? =if c=b then(w.heap[c]?).map (fun|.cells cs e fz=>.cells (cs.setIfInBounds off x) e fz|o=>o)else w.heap[c]?:=by
 simp[World.setCell,Array.getElem?_modify]
 grind
theorem nd_set(hr:Rel D w noR (.nd s true sz n f) (AD s b o n cap) fp1)(hD:∀c,D c->¬fp1 c)(hi:i<n)(hk:k<sz)
  {x:V}{cx:Value}{g:Nat->Prop} (hx:Rel D (w.setCell ⟨b,o+i*sz+k,none⟩ cx) noR x cx g) (hg:∀c,g c->¬fp1 c):
  ∃fp2,Rel D (w.setCell ⟨b,o+i*sz+k,none⟩ cx) noR (.nd s true sz n λi' k'=>if i'=i/\k'=k then x else f i' k') (AD s b o n cap) fp2/\∀c,fp2 c->fp1 c\/g c:=by
 have e:=Rel.root hr;rcases hr with⟨h0,_⟩|⟨b2,o2,cap2,F,Y,hcap,W,hs1,hc,himm,ho⟩
 .omega
 obtain⟨rfl,rfl,Z⟩:=Az Y;obtain⟨⟨cs,T,hb1,hb2⟩,hbF,hFd,hfp⟩:=ho rfl;refine⟨λc=>c=b\/∃i' k',i'<n/\k'<sz/\(if i'=i/\k'=k then g c else F i' k' c),.inr ⟨b,o,cap2,λi' k' c=>if i'=i/\k'=k then g c else F i' k' c,Y,hcap,W,hs1,λi' k' B A=>?_,(λh=>by cases h),λ_=>⟨⟨cs.setIfInBounds (o+i*sz+k) cx,T,?_,by simpa using hb2⟩,λi' k' B A=>?_,λi1 k1 i2 k2 c h1 h2 h3 h4 U J E=>?_,λ_=>Iff.rfl⟩⟩,?_⟩
 .by_cases L:i'=i/\k'=k
  .obtain⟨rfl,rfl⟩:=L
   obtain⟨y,hy,_⟩:=hc i' k' hi hk;exact⟨cx,World.cell?_setCell_same _ _ _ hy,by simpa using hx⟩
  .obtain⟨y,hy,hry⟩:=hc i' k' B A
   have U:=M6 (i:=i) hk A L;refine⟨y,by rw[World.cell?_setCell_other _ _ _ _ (by intro h;simp at h;try omega)];exact hy,?_⟩
   simp only[L,if_false];refine Rel.mono (λ_ h=>h) (λ_ _ h=>h) _ _ _ (λc Z=>?_) hry
   rw[AC,if_neg]
   rintro rfl
   rcases Z with h|h
   .exact hD c h e
   .exact hbF i' k' B A h
 .obtain⟨fz,hz1,hz2⟩:=hb1;exact⟨fz,by rw[AC,if_pos rfl,hz1];rfl,by simpa using hz2⟩
 .by_cases L:i'=i/\k'=k
  .simp only[L,and_self,if_true];exact λh=>hg b h e
  .simp only[L,if_false];exact hbF i' k' B A
 .by_cases O:i1=i/\k1=k<;>by_cases M:i2=i/\k2=k
  .omega
  .simp only[O,and_self,if_true]at J
   simp only[M,if_false]at E;exact hg c J ((hfp c).2 (.inr ⟨i2,k2,h3,h4,E⟩))
  .simp only[M,and_self,if_true]at E
   simp only[O,if_false]at J;exact hg c E ((hfp c).2 (.inr ⟨i1,k1,h1,h2,J⟩))
  .simp only[O,if_false]at J
   simp only[M,if_false]at E;exact hFd i1 k1 i2 k2 c h1 h2 h3 h4 U J E
 .rintro c (rfl|⟨i',k',B,A,h⟩)
  .exact .inl e
  .by_cases L:i'=i/\k'=k
   .simp only[L,and_self,if_true]at h;exact .inr h
   .simp only[L,if_false]at h;exact .inl ((hfp c).2 (.inr ⟨i',k',B,A,h⟩))
theorem K3(hr:Rel D w noR v cv fp)(hD:∀c,D c->¬fp c)(J:At w p v cv (.nd s true sz n f) (AD s b o n cap))(hi:i<n)(hk:k<sz)
  {x:V}{cx:Value}{g:Nat->Prop} (hx:Rel D w noR x cx g) (Z:∀c,g c->¬fp c):
  ∃O,Rel D (w.setCell ⟨b,o+i*sz+k,none⟩ cx) noR (upd (p++[(i,k)]) v x) cv O/\(∀c,O c->fp c\/g c)/\fp b:=by
 obtain⟨fp1,E,A,L⟩:=Dg p v cv fp _ _ hr hD J;have hb:=A b (Rel.root E)
 have U:Rel D (w.setCell ⟨b,o+i*sz+k,none⟩ cx) noR x cx g:=by
  refine Rel.mono (λ_ h=>h) (λ_ _ h=>h) _ _ _ (λc B=>?_) hx
  rw[AC,if_neg]
  grind
 obtain⟨M,Y,W⟩:=nd_set E (λc B h=>hD c B (A c h)) hi hk U (λc B h=>Z c B (A c h))
 refine⟨λc=>(fp c/\¬fp1 c)\/M c,?_,λc B=>?_,hb⟩
 .have e:upd (p++[(i,k)]) v x=upd p v (.nd s true sz n λi' k'=>if i'=i/\k'=k then x else f i' k'):=by
   rw[Hq p _ v x (At.ok J),<-At.sub J];rfl
  rw[e]
  exact L _ M Y (λc B=>(W c B).imp id λh=>Z c h) λc B hn=>by
   rw[AC,if_neg]
   rintro rfl
   exact hn (Rel.root E)
 grind
def AP(id:Nat)(p:List (Nat×Nat)):V->V
 |.rs id' q off len=>if id'=id/\A1 p q=true then .dead else .rs id' q off len
 |.rp id' q i k=>if id'=id/\A1 p q=true then .dead else .rp id' q i k
 |.rm id' q=>if id'=id/\A1 p q=true then .dead else .rm id' q
 |.many t n f=>.many t n λk=>AP id p (f k)
 |v=>v
def Be(id:Nat)(p:List (Nat×Nat)):Bg (AP id p):=⟨λ_=>rfl,rfl,λ_ _ _ _ _=>rfl,λ_ _=>rfl,λ_ _ _=>rfl⟩
def Cp:∀ad,ad≠(⟨b,off,none⟩:Addr)->(w.setCell ⟨b,off,none⟩ x).cell? ad=w.cell? ad:=
 λad h=>World.cell?_setCell_other _ _ _ _ (Ne.symm h)
theorem Fr.setCell{w0 w:World}{W:Nat->Prop}(h:Fr w0 w W){b off:Nat}{x:Value}(A:W b\/w0.heap.size<=b):Fr w0 (w.setCell ⟨b,off,none⟩ x) W:=
 ⟨h.os,h.tape,h.output,by simpa using h.size,λc e hn=>by
  rw[AC,if_neg]
  .exact h.block c e hn
  grind,h.drawn⟩
theorem CR.store_gen(h:CR C σ ts cts w D ρ F){p:List (Nat×Nat)}{s:Bool}{sz n:Nat}{f:Nat->Nat->V}{b o cap i k:Nat}(hid:id<σ.length)
  (hat:At w p (σ.getD id .dead) (ρ id) (.nd s true sz n f) (AD s b o n cap)) (hi:i<n) (hk:k<sz) {x:V}{cx:Value} (htree:∃fp',Rel D (w.setCell ⟨b,o+i*sz+k,none⟩ cx) noR (upd (p++[(i,k)]) (σ.getD id .dead) x) (ρ id) fp'/\(∀c,fp' c->F id c)/\F id b) {G:V->V} (hG:G=AP id (p++[(i,k)])\/G=(λv=>v)/\(∀s' M n' O,f i k≠.nd s' true M n' O)/\∀l,f i k≠.mp true l):
  ∃F',CR C (σ.set id (upd (p++[(i,k)]) (σ.getD id .dead) x)) (ts.map G) cts (w.setCell ⟨b,o+i*sz+k,none⟩ cx) D ρ F':=by
 obtain⟨fp',hr',hsub',hb⟩:=htree
 let F':Nat->Nat->Prop:=λj=>if j=id then fp' else F j
 have hF':∀j c,F' j c->F j c:=by
  intro j c A;simp only[F']at A;split at A
  .rename_i e;subst e;exact hsub' c A
  .exact A
 have hbD:∀c,D c->c≠b:=λc A e=>h.wr.dD id b hb (e▸A)
 have wr':Bs (σ.set id (upd (p++[(i,k)]) (σ.getD id .dead) x)) (w.setCell ⟨b,o+i*sz+k,none⟩ cx) D ρ F':=by
  refine⟨λj hj=>?_,λi j c hij L h2=>h.wr.disj i j c hij (hF' _ _ L) (hF' _ _ h2),λj c A=>h.wr.dD j c (hF' _ _ A),λc A=>by simpa [World.setCell]using h.wr.Dlt c A,λj c hj A=>h.wr.out j c (by simpa using hj) (hF' _ _ A)⟩
  by_cases W:j=id
  .subst W
   rw[Ag hid];simpa [F']using hr'
  .rw[Af (Ne.symm W)]
   have hj':j<σ.length:=by simpa using hj
   simp only[F',W,if_false];refine Rel.mono (λ_ h=>h) (λ_ _ h=>h) _ _ _ (λc A=>?_) (h.wr.rel j hj')
   rw[AC,if_neg]
   rintro rfl
   rcases A with A|A
   .exact hbD c A rfl
   .exact h.wr.disj j id c W A hb
 have key:∀(id':Nat) (q:List (Nat×Nat)) (s1:Bool) (E U:Nat) (f1:Nat->Nat->V) (c:Value),id'<σ.length->At w q (σ.getD id' .dead) (ρ id') (.nd s1 true E U f1) c->¬ (id'=id/\A1 (p++[(i,k)]) q=true)->
   ∃O,At (w.setCell ⟨b,o+i*sz+k,none⟩ cx) q ((σ.set id (upd (p++[(i,k)]) (σ.getD id .dead) x)).getD id' .dead) (ρ id') (.nd s1 true E U O) c:=by
  intro id' q s1 E U f1 c B ha hn;by_cases W:id'=id
  .subst W
   rw[Ag hid];exact At.store hi hk Cp (λc A=>by rw[AC,if_neg A]) p q _ _ _ (h.wr.rel id' hid) hat (by simpa using hn) ha
  .rw[Af (Ne.symm W)]
   exact⟨f1,At.same (h.wr.rel id' B) ha λc A=>by
    rw[AC,if_neg]
    rintro rfl
    exact h.wr.disj id' id c W A hb⟩
 have keyM:∀(id':Nat) (q:List (Nat×Nat)) (l:List (Value×Value)) (c:Value),id'<σ.length->At w q (σ.getD id' .dead) (ρ id') (.mp true l) c->¬ (id'=id/\A1 (p++[(i,k)]) q=true)->
   At (w.setCell ⟨b,o+i*sz+k,none⟩ cx) q ((σ.set id (upd (p++[(i,k)]) (σ.getD id .dead) x)).getD id' .dead) (ρ id') (.mp true l) c:=by
  intro id' q l c B ha hn;by_cases W:id'=id
  .subst W
   rw[Ag hid];exact At.storeM hi hk Cp (λc A=>by rw[AC,if_neg A]) p q _ _ _ (h.wr.rel id' hid) hat (by simpa using hn) ha
  .rw[Af (Ne.symm W)]
   exact At.same (h.wr.rel id' B) ha λc A=>by
    rw[AC,if_neg]
    rintro rfl
    exact h.wr.disj id' id c W A hb
 have nopreM:((∀s' M n' O,f i k≠.nd s' true M n' O)/\∀l,f i k≠.mp true l)->∀(q:List (Nat×Nat)) (l:List (Value×Value)) (c:Value),At w q (σ.getD id .dead) (ρ id) (.mp true l) c->A1 (p++[(i,k)]) q=true->False:=by
  intro J q l c ha Z;rw[Cu Z,List.append_assoc]at ha;have L:=At.split ha hat;simp only[List.singleton_append]at L;obtain⟨_,_,_,_,_,y,_,_,L⟩:=L;cases hq:q.drop (p++[(i,k)]).length with
  |nil=>rw[hq]at L;exact J.2 _ L.1.symm
  |cons a r=>
   rw[hq]at L;generalize f i k=v at*;cases v with
   |nd s' o' M n' O=>cases o' with
    |true=>exact J.1 _ _ _ _ rfl
    |false=>exact L.elim
   |_=>exact L.elim
 have Y:(∀s' M n' O,f i k≠.nd s' true M n' O)->∀(q:List (Nat×Nat)) (s1:Bool) (E U:Nat) (f1:Nat->Nat->V) (c:Value),At w q (σ.getD id .dead) (ρ id) (.nd s1 true E U f1) c->A1 (p++[(i,k)]) q=true->False:=by
  intro J q s1 E U f1 c ha Z;rw[Cu Z,List.append_assoc]at ha;have L:=At.split ha hat;simp only[List.singleton_append]at L;obtain⟨_,_,_,_,_,y,_,_,L⟩:=L;cases hq:q.drop (p++[(i,k)]).length with
  |nil=>rw[hq]at L;exact J _ _ _ _ L.1.symm
  |cons a r=>
   rw[hq]at L;generalize f i k=v at*;cases v with
   |nd s' o' M n' O=>cases o' with
    |true=>exact J _ _ _ _ rfl
    |false=>exact L.elim
   |_=>exact L.elim
 have hGm:Bg G:=by
  rcases hG with rfl|⟨rfl,_⟩
  .exact Be _ _
  .exact⟨λ_=>rfl,rfl,λ_ _ _ _ _=>rfl,λ_ _=>rfl,λ_ _ _=>rfl⟩
 refine⟨F',⟨wr',by simpa using h.sz,λt ht=>?_,h.fr.setCell (h.Fn id b hb),λj c A=>h.Fn j c (hF' _ _ A),h.D1,h.D2,h.rt,by simpa using h.ml⟩⟩
 simp at ht;have e1:(ts.map G).getD t .dead=G (ts.getD t .dead):=by simp[ht]
 rw[e1];refine hGm.rel (λc A=>by rw[AC,if_neg (hbD c A)]) ?_ ?_ ?_ _ _ noF (λ_ h=>h) (h.tm t ht)
 .rintro id' q off len cv ⟨B,E,U,f1,cn,ha,hle,hcv⟩
  by_cases A:id'=id/\A1 (p++[(i,k)]) q=true
  .rcases hG with rfl|⟨rfl,J⟩
   .simp only[AP,if_pos A];exact λ_ h=>h
   .obtain⟨rfl,A⟩:=A;exact(Y J.1 q _ _ _ _ _ ha A).elim
  .obtain⟨O,ha'⟩:=key id' q true E U f1 cn B ha A
   have e2:G (.rs id' q off len)=.rs id' q off len:=by
    rcases hG with rfl|⟨rfl,_⟩
    .simp only[AP,if_neg A]
    .rfl
   rw[e2];exact⟨⟨by simpa using B,E,U,O,cn,ha',hle,hcv⟩,λ_ h=>h⟩
 .rintro id' q i' k' cv ⟨B,s1,E,U,f1,b1,o1,cap1,ha,hi',hk',hcv⟩
  by_cases A:id'=id/\A1 (p++[(i,k)]) q=true
  .rcases hG with rfl|⟨rfl,J⟩
   .simp only[AP,if_pos A];exact λ_ h=>h
   .obtain⟨rfl,A⟩:=A;exact(Y J.1 q _ _ _ _ _ ha A).elim
  .obtain⟨O,ha'⟩:=key id' q s1 E U f1 _ B ha A
   have e2:G (.rp id' q i' k')=.rp id' q i' k':=by
    rcases hG with rfl|⟨rfl,_⟩
    .simp only[AP,if_neg A]
    .rfl
   rw[e2];exact⟨⟨by simpa using B,s1,E,U,O,b1,o1,cap1,ha',hi',hk',hcv⟩,λ_ h=>h⟩
 .rintro id' q cv ⟨B,l,b1,ha,hcv⟩
  by_cases A:id'=id/\A1 (p++[(i,k)]) q=true
  .rcases hG with rfl|⟨rfl,J⟩
   .simp only[AP,if_pos A];exact λ_ h=>h
   .obtain⟨rfl,A⟩:=A;exact(nopreM J q _ _ ha A).elim
  .have ha':=keyM id' q l _ B ha A
   have e2:G (.rm id' q)=.rm id' q:=by
    rcases hG with rfl|⟨rfl,_⟩
    .simp only[AP,if_neg A]
    .rfl
   rw[e2];exact⟨⟨by simpa using B,l,b1,ha',hcv⟩,λ_ h=>h⟩
def CR.store_plain(h:CR C σ ts cts w D ρ F){p:List (Nat×Nat)}{s:Bool}{sz n:Nat}{f:Nat->Nat->V}{b o cap i k:Nat}(A:id<σ.length)
  (E:At w p (σ.getD id .dead) (ρ id) (.nd s true sz n f) (AD s b o n cap)) (U:i<n) (O:k<sz) {x:V}{cx:Value} (Y:Rel D w noR x cx noF) {G:V->V} (hG:G=AP id (p++[(i,k)])\/G=(λv=>v)/\(∀s' J W f',f i k≠.nd s' true J W f')/\∀l,f i k≠.mp true l):
  ∃F',CR C (σ.set id (upd (p++[(i,k)]) (σ.getD id .dead) x)) (ts.map G) cts (w.setCell ⟨b,o+i*sz+k,none⟩ cx) D ρ F':=by
 refine h.store_gen A E U O ?_ hG;obtain⟨M,L,e,Z⟩:=K3 (h.wr.rel id A) (λc B h'=>h.wr.dD id c h' B) E U O Y (λc B=>B.elim)
 exact⟨M,L,λc B=>(e c B).elim (λh=>h) λh=>h.elim,Z⟩
theorem PN(hr:Rel D w noR (.nd s true sz n f) (AD s b o n cap) fp1)(hD:∀c,D c->¬fp1 c)(hi:i<n)(hk:k<sz)
  {x:V}{cx:Value} (hx:∀y G,w.cell? ⟨b,o+i*sz+k,none⟩=some y->Rel D w noR (f i k) y G->∃g,Rel D w noR x cx g/\∀c,g c->G c):
  ∃fp2,Rel D (w.setCell ⟨b,o+i*sz+k,none⟩ cx) noR (.nd s true sz n λi' k'=>if i'=i/\k'=k then x else f i' k') (AD s b o n cap) fp2/\∀c,fp2 c->fp1 c:=by
 have E:=Rel.root hr;rcases hr with⟨h0,_⟩|⟨b2,o2,cap2,F,Y,Z,U,hs1,hc,himm,ho⟩
 .omega
 obtain⟨rfl,rfl,B⟩:=Az Y;obtain⟨⟨cs,T,hb1,hb2⟩,hbF,hFd,hfp⟩:=ho rfl;obtain⟨y0,L,M⟩:=hc i k hi hk;obtain⟨g,hg1,W⟩:=hx y0 _ L M
 have heap:∀c,(D c\/∃i' k',i'<n/\k'<sz/\F i' k' c)->(w.setCell ⟨b,o+i*sz+k,none⟩ cx).heap[c]? =w.heap[c]?:=λc B=>by
  rw[AC,if_neg]
  rintro rfl
  rcases B with h|⟨i',k',h1,h2,h3⟩
  .exact hD c h E
  .exact hbF i' k' h1 h2 h3
 have sub:∀i' k' c,(if i'=i/\k'=k then g c else F i' k' c)->F i' k' c:=by
  intro i' k' c h;by_cases J:i'=i/\k'=k
  .rw[if_pos J]at h;obtain⟨rfl,rfl⟩:=J;exact W c h
  .rw[if_neg J]at h;exact h
 refine⟨λc=>c=b\/∃i' k',i'<n/\k'<sz/\(if i'=i/\k'=k then g c else F i' k' c),.inr ⟨b,o,cap2,λi' k' c=>if i'=i/\k'=k then g c else F i' k' c,Y,Z,U,hs1,λi' k' A e=>?_,(λh=>by cases h),λ_=>⟨⟨cs.setIfInBounds (o+i*sz+k) cx,T,?_,by simpa using hb2⟩,λi' k' A e h=>hbF i' k' A e (sub _ _ _ h),λi1 k1 i2 k2 c h1 h2 h3 h4 O hF1 hF2=>hFd i1 k1 i2 k2 c h1 h2 h3 h4 O (sub _ _ _ hF1) (sub _ _ _ hF2),λ_=>Iff.rfl⟩⟩,?_⟩
 .by_cases J:i'=i/\k'=k
  .obtain⟨rfl,rfl⟩:=J
   refine⟨cx,World.cell?_setCell_same _ _ _ L,?_⟩;simp only[and_self,if_true];exact Rel.mono (λ_ h=>h) (λ_ _ h=>h) _ _ _ (λc B=>heap c (B.imp id λh=>⟨i',k',A,e,W c h⟩)) hg1
  .obtain⟨y,hy,hry⟩:=hc i' k' A e
   have O:=M6 (i:=i) hk e J;refine⟨y,by rw[World.cell?_setCell_other _ _ _ _ (by intro h;simp at h;try omega)];exact hy,?_⟩
   simp only[J,if_false];exact Rel.mono (λ_ h=>h) (λ_ _ h=>h) _ _ _ (λc B=>heap c (B.imp id λh=>⟨i',k',A,e,h⟩)) hry
 .obtain⟨fz,hz1,hz2⟩:=hb1;exact⟨fz,by rw[AC,if_pos rfl,hz1];rfl,by simpa using hz2⟩
 .rintro c (rfl|⟨i',k',A,e,h⟩)
  .exact E
  .exact(hfp c).2 (.inr ⟨i',k',A,e,sub _ _ _ h⟩)
theorem JD(hr:Rel D w noR v cv fp)(Y:∀c,D c->¬fp c)(E:At w p v cv (.nd s true sz n f) (AD s b o n cap))(hi:i<n)(hk:k<sz)
  {x:V}{cx:Value} (Z:∀y G,w.cell? ⟨b,o+i*sz+k,none⟩=some y->Rel D w noR (f i k) y G->∃g,Rel D w noR x cx g/\∀c,g c->G c):
  ∃O,Rel D (w.setCell ⟨b,o+i*sz+k,none⟩ cx) noR (upd (p++[(i,k)]) v x) cv O/\(∀c,O c->fp c)/\fp b:=by
 obtain⟨fp1,B,A,J⟩:=Dg p v cv fp _ _ hr Y E;have hb:=A b (Rel.root B);obtain⟨M,W,U⟩:=PN B (λc L h=>Y c L (A c h)) hi hk Z
 refine⟨λc=>(fp c/\¬fp1 c)\/M c,?_,λc L=>?_,hb⟩
 .have e:upd (p++[(i,k)]) v x=upd p v (.nd s true sz n λi' k'=>if i'=i/\k'=k then x else f i' k'):=by
   rw[Hq p _ v x (At.ok E),<-At.sub E];rfl
  rw[e]
  exact J _ M W (λc L=>.inl (U c L)) λc L hn=>by
   rw[AC,if_neg]
   rintro rfl
   exact hn (Rel.root B)
 grind
theorem Rel.part{len:Nat}{W cx:Value}{G:Nat->Prop}(hr:Rel D w noR (.nd true true sz n f) W G)(hle:off+len<=n)
  (e:(∃b o cap,W=AD true b o n cap/\cx=.slice (some ⟨b,o+off*sz,none⟩) len (cap-off))\/(len=0/\∃a:Option (Nat×Nat),cx=.slice (a.map λp=>⟨p.1,p.2,none⟩) 0 0/\(off=0->n=0->cx=W)/\∀p,a=some p->∃o cap,W=AD true p.1 o n cap/\o<=p.2/\p.2<=o+cap*sz)):
  ∃g,Rel D w noR (.nd true true sz len λi k=>f (i+off) k) cx g/\∀c,g c->G c:=by
 rcases e with⟨b,o,cap,rfl,rfl⟩|⟨rfl,a,rfl,_,ha⟩
 .rcases hr with⟨_,_,h0,_⟩|⟨b2,o2,U,F,e,O,E,Y,hc,L,ho⟩
  .exact absurd h0 BQ
  obtain⟨rfl,rfl,A⟩:=Az e;obtain rfl:=A rfl;obtain⟨⟨cs,T,B,hb2⟩,hbF,hFd,hfp⟩:=ho rfl;refine⟨λc=>c=b\/∃i k,i<len/\k<sz/\F (i+off) k c,.inr ⟨b,o+off*sz,cap-off,λi k=>F (i+off) k,rfl,by omega,by omega,(λh=>by cases h),λi k M J=>?_,(λh=>by cases h),λ_=>⟨⟨cs,T,B,?_⟩,λi k M J=>hbF _ _ (by omega) J,λi1 k1 i2 k2 c h1 h2 h3 h4 hne=>hFd _ _ _ _ c (by omega) h2 (by omega) h4 (by omega),λ_=>Iff.rfl⟩⟩,?_⟩
  .obtain⟨y,hy,Z⟩:=hc (i+off) k (by omega) J
   exact⟨y,by rw[<-hy];congr 2;rw[Nat.add_mul];omega,Z⟩
  .have:o+off*sz+(cap-off)*sz=o+cap*sz:=by rw[Nat.add_assoc,<-Nat.add_mul,Nat.add_sub_of_le (by omega)]
   omega
  .rintro c (rfl|⟨i,k,M,J,h⟩)
   .exact(hfp c).2 (.inl rfl)
   .exact(hfp c).2 (.inr ⟨i+off,k,by omega,J,h⟩)
 .cases a with
  |none=>exact⟨noF,.inl ⟨rfl,rfl,.inl rfl,λ_ h=>h⟩,λ_ h=>h.elim⟩
  |some p=>
   obtain⟨o,cap,rfl,h1,h2⟩:=ha p rfl;rcases hr with⟨_,_,h0,_⟩|⟨b2,o2,U,F,e,O,E,Y,hc,L,ho⟩
   .exact absurd h0 BQ
   obtain⟨rfl,rfl,A⟩:=Az e;obtain rfl:=A rfl;obtain⟨⟨cs,T,B,hb2⟩,hbF,hFd,hfp⟩:=ho rfl;refine⟨λc=>c=p.1\/∃i k,i<0/\k<sz/\noF c,.inr ⟨p.1,p.2,0,λ_ _=>noF,rfl,Nat.le_refl _,Nat.zero_le _,(λh=>by cases h),λi k M=>by omega,(λh=>by cases h),λ_=>⟨⟨cs,T,B,by omega⟩,λi k M=>by omega,λi1 k1 i2 k2 c h=>by omega,λ_=>Iff.rfl⟩⟩,?_⟩
   rintro c (rfl|⟨i,k,M,_⟩)
   .exact(hfp _).2 (.inl rfl)
   .omega
def CR.store_part(h:CR C σ ts cts w D ρ F){p:List (Nat×Nat)}{s:Bool}{sz n:Nat}{f:Nat->Nat->V}{b o cap i k:Nat}(E:id<σ.length)
  (e:At w p (σ.getD id .dead) (ρ id) (.nd s true sz n f) (AD s b o n cap)) (U:i<n) (O:k<sz) {A n1:Nat}{W:Nat->Nat->V} (hf:f i k=.nd true true A n1 W) {off len:Nat}{cx:Value} (hx:Am σ ρ w (.rs id (p++[(i,k)]) off len) cx):
  ∃F',CR C (σ.set id (upd (p++[(i,k)]) (σ.getD id .dead) (.nd true true A len λi k=>W (i+off) k))) (ts.map (AP id (p++[(i,k)]))) cts (w.setCell ⟨b,o+i*sz+k,none⟩ cx) D ρ F':=by
 refine h.store_gen E e U O ?_ (.inl rfl);refine JD (h.wr.rel id E) (λc hc h'=>h.wr.dD id c h' hc) e U O λy G hy B=>?_
 obtain⟨_,sz2,n2,f2,cn,ha,J,L⟩:=hx;have M:=At.split ha e;obtain⟨_,_,b2,o2,cap2,y2,e1,Z,M⟩:=M;obtain⟨rfl,rfl,_⟩:=Az e1;rw[hy]at Z;cases Z;obtain⟨Y,rfl⟩:=M;rw[hf]at Y B;cases Y;exact Rel.part B J L
def Bc(id:Nat)(p:List (Nat×Nat))(j:Nat):V->V
 |.rs id' q off len=>if id'=j then .rs id (p++q) off len else if id'=id/\A1 p q=true then .dead else .rs id' q off len
 |.rp id' q i k=>if id'=j then .rp id (p++q) i k else if id'=id/\A1 p q=true then .dead else .rp id' q i k
 |.rm id' q=>if id'=j then .rm id (p++q)else if id'=id/\A1 p q=true then .dead else .rm id' q
 |.many t n f=>.many t n λk=>Bc id p j (f k)
 |v=>v
def Dl(id:Nat)(p:List (Nat×Nat))(j:Nat):Bg (Bc id p j):=⟨λ_=>rfl,rfl,λ_ _ _ _ _=>rfl,λ_ _=>rfl,λ_ _ _=>rfl⟩
theorem CR.store_move(h:CR C σ ts cts w D ρ F){j:Nat}{p:List (Nat×Nat)}{s:Bool}{sz n:Nat}{f:Nat->Nat->V}{b o cap i k:Nat}(J:id<σ.length)(hj:j<σ.length)(hij:j≠id)
  (U:At w p (σ.getD id .dead) (ρ id) (.nd s true sz n f) (AD s b o n cap)) (hi:i<n) (hk:k<sz):
  ∃F',CR C ((σ.set id (upd (p++[(i,k)]) (σ.getD id .dead) (σ.getD j .dead))).set j .dead) (ts.map (Bc id (p++[(i,k)]) j)) cts (w.setCell ⟨b,o+i*sz+k,none⟩ (ρ j)) D ρ F':=by
 obtain⟨fp',hr',hsub,hb⟩:=K3 (h.wr.rel id J) (λc A h'=>h.wr.dD id c h' A) U hi hk (h.wr.rel j hj) (λc A=>h.wr.disj j id c hij A)
 let F':Nat->Nat->Prop:=λl=>if l=j then noF else if l=id then fp' else F l
 have hF':∀l c,F' l c->(l=id/\(F id c\/F j c))\/(l≠id/\l≠j/\F l c):=by
  intro l c A;simp only[F']at A;split at A
  .exact A.elim
  .split at A
   .rename_i e;subst e;exact .inl ⟨rfl,hsub c A⟩
   .exact .inr ⟨by assumption,by assumption,A⟩
 have hbD:∀c,D c->c≠b:=λc A e=>h.wr.dD id b hb (e▸A)
 have wr':Bs ((σ.set id (upd (p++[(i,k)]) (σ.getD id .dead) (σ.getD j .dead))).set j .dead) (w.setCell ⟨b,o+i*sz+k,none⟩ (ρ j)) D ρ F':=by
  refine⟨λl hl=>?_,λl m c hlm Y h2=>?_,λl c A=>?_,λc A=>by simpa [World.setCell]using h.wr.Dlt c A,λl c hl A=>?_⟩
  .have hl':l<σ.length:=by simpa using hl
   by_cases W:l=j
   .subst W
    rw[Ag (by simpa using hj)]
    simp only[F',if_true];exact λ_ h=>h
   .rw[Af (Ne.symm W)]
    by_cases he2:l=id
    .subst he2
     rw[Ag J];simpa [F',W]using hr'
    .rw[Af (Ne.symm he2)]
     simp only[F',W,he2,if_false];refine Rel.mono (λ_ h=>h) (λ_ _ h=>h) _ _ _ (λc A=>?_) (h.wr.rel l hl')
     rw[AC,if_neg]
     rintro rfl
     rcases A with A|A
     .exact hbD c A rfl
     .exact h.wr.disj l id c he2 A hb
  .rcases hF' _ _ Y with⟨e1,g1⟩|⟨h1a,h1b,g1⟩<;>rcases hF' _ _ h2 with⟨e2,g2⟩|⟨h2a,h2b,g2⟩
   .exact hlm (e1.trans e2.symm)
   .rcases g1 with g1|g1
    .exact h.wr.disj _ _ c (Ne.symm h2a) g1 g2
    .exact h.wr.disj _ _ c (Ne.symm h2b) g1 g2
   .rcases g2 with g2|g2
    .exact h.wr.disj _ _ c (Ne.symm h1a) g2 g1
    .exact h.wr.disj _ _ c (Ne.symm h1b) g2 g1
   .exact h.wr.disj _ _ c hlm g1 g2
  .rcases hF' _ _ A with⟨rfl,Y|Y⟩|⟨_,_,Y⟩
   .exact h.wr.dD _ c Y
   .exact h.wr.dD _ c Y
   .exact h.wr.dD _ c Y
  .have hl':σ.length<=l:=by simpa using hl
   rcases hF' _ _ A with⟨rfl,_⟩|⟨_,_,Y⟩
   .omega
   .exact h.wr.out l c hl' Y
 have O:((σ.set id (upd (p++[(i,k)]) (σ.getD id .dead) (σ.getD j .dead))).set j .dead).length=σ.length:=by simp
 have hgid:((σ.set id (upd (p++[(i,k)]) (σ.getD id .dead) (σ.getD j .dead))).set j .dead).getD id .dead=upd (p++[(i,k)]) (σ.getD id .dead) (σ.getD j .dead):=by
  rw[Af hij,Ag J]
 have hnew:At (w.setCell ⟨b,o+i*sz+k,none⟩ (ρ j)) (p++[(i,k)]) (upd (p++[(i,k)]) (σ.getD id .dead) (σ.getD j .dead)) (ρ id) (σ.getD j .dead) (ρ j):=by
  have hpre:A1 (p++[(i,k)]) p=false:=by
   cases hp:A1 (p++[(i,k)]) p with
   |false=>rfl
   |true=>have:=congrArg List.length (Cu hp);simp at this
  obtain⟨f1,ha⟩:=At.store (x:=σ.getD j .dead) hi hk Cp (λc A=>by rw[AC,if_neg A]) p p _ _ _ (h.wr.rel id J) U hpre U (w':=w.setCell ⟨b,o+i*sz+k,none⟩ (ρ j))
  have e:=At.sub ha;rw[Hq p _ _ _ (At.ok U),JI p _ _ (At.ok U),<-At.sub U]at e;simp only[upd,V.nd.injEq,true_and]at e;obtain⟨y,hy,_⟩:∃y,w.cell? ⟨b,o+i*sz+k,none⟩=some y/\True:=by
   obtain⟨fp1,hr1,_⟩:=Dg (w':=w) p _ _ _ _ _ (h.wr.rel id J) (λb hb h'=>h.wr.dD id b h' hb) U
   rcases hr1 with⟨h0,_⟩|⟨b2,o2,cap2,F2,M,_,_,_,A,_⟩
   .omega
   obtain⟨rfl,rfl,_⟩:=Az M;obtain⟨y,hy,_⟩:=A i k hi hk;exact⟨y,hy,trivial⟩
  refine At.app ha ⟨hi,hk,b,o,cap,ρ j,rfl,World.cell?_setCell_same _ _ _ hy,?_,rfl⟩;rw[e];simp
 have key:∀(id':Nat) (q:List (Nat×Nat)) (s1:Bool) (E Z:Nat) (f1:Nat->Nat->V) (c:Value),id'<σ.length->At w q (σ.getD id' .dead) (ρ id') (.nd s1 true E Z f1) c->
   (id'=j->At (w.setCell ⟨b,o+i*sz+k,none⟩ (ρ j)) (p++[(i,k)]++q) (upd (p++[(i,k)]) (σ.getD id .dead) (σ.getD j .dead)) (ρ id) (.nd s1 true E Z f1) c)/\
   (id'≠j->¬ (id'=id/\A1 (p++[(i,k)]) q=true)->∃f',At (w.setCell ⟨b,o+i*sz+k,none⟩ (ρ j)) q (((σ.set id (upd (p++[(i,k)]) (σ.getD id .dead) (σ.getD j .dead))).set j .dead).getD id' .dead) (ρ id') (.nd s1 true E Z f') c):=by
  intro id' q s1 E Z f1 c B ha
  have L:id'≠id->At (w.setCell ⟨b,o+i*sz+k,none⟩ (ρ j)) q (σ.getD id' .dead) (ρ id') (.nd s1 true E Z f1) c:=λW=>At.same (h.wr.rel id' B) ha λc A=>by
   rw[AC,if_neg]
   rintro rfl
   exact h.wr.disj id' id c W A hb
  refine⟨λe=>?_,λhne hn=>?_⟩
  .subst e
   exact At.app hnew (L hij)
  .rw[Af (Ne.symm hne)]
   by_cases W:id'=id
   .subst W
    rw[Ag J];exact At.store hi hk Cp (λc A=>by rw[AC,if_neg A]) p q _ _ _ (h.wr.rel id' J) U (by simpa using hn) ha
   .rw[Af (Ne.symm W)]
    exact⟨f1,L W⟩
 have keyM:∀(id':Nat) (q:List (Nat×Nat)) (l:List (Value×Value)) (c:Value),id'<σ.length->At w q (σ.getD id' .dead) (ρ id') (.mp true l) c->
   (id'=j->At (w.setCell ⟨b,o+i*sz+k,none⟩ (ρ j)) (p++[(i,k)]++q) (upd (p++[(i,k)]) (σ.getD id .dead) (σ.getD j .dead)) (ρ id) (.mp true l) c)/\
   (id'≠j->¬ (id'=id/\A1 (p++[(i,k)]) q=true)->At (w.setCell ⟨b,o+i*sz+k,none⟩ (ρ j)) q (((σ.set id (upd (p++[(i,k)]) (σ.getD id .dead) (σ.getD j .dead))).set j .dead).getD id' .dead) (ρ id') (.mp true l) c):=by
  intro id' q l c B ha
  have L:id'≠id->At (w.setCell ⟨b,o+i*sz+k,none⟩ (ρ j)) q (σ.getD id' .dead) (ρ id') (.mp true l) c:=λW=>At.same (h.wr.rel id' B) ha λc A=>by
   rw[AC,if_neg]
   rintro rfl
   exact h.wr.disj id' id c W A hb
  refine⟨λe=>?_,λhne hn=>?_⟩
  .subst e
   exact At.app hnew (L hij)
  .rw[Af (Ne.symm hne)]
   by_cases W:id'=id
   .subst W
    rw[Ag J];exact At.storeM hi hk Cp (λc A=>by rw[AC,if_neg A]) p q _ _ _ (h.wr.rel id' J) U (by simpa using hn) ha
   .rw[Af (Ne.symm W)]
    exact L W
 refine⟨F',⟨wr',by simpa using h.sz,λt ht=>?_,h.fr.setCell (h.Fn id b hb),λl c A=>?_,h.D1,h.D2,h.rt,by simpa using h.ml⟩⟩
 .simp at ht
  have e1:(ts.map (Bc id (p++[(i,k)]) j)).getD t .dead=Bc id (p++[(i,k)]) j (ts.getD t .dead):=by simp[ht]
  rw[e1];refine(Dl _ _ _).rel (λc A=>by rw[AC,if_neg (hbD c A)]) ?_ ?_ ?_ _ _ noF (λ_ h=>h) (h.tm t ht)
  .rintro id' q off len cv ⟨B,E,Z,f1,cn,ha,hle,M⟩
   obtain⟨k1,k2⟩:=key id' q true E Z f1 cn B ha;simp only[Bc];split
   .rename_i A
    exact⟨⟨by rw[O];exact J,E,Z,f1,cn,by rw[hgid];exact k1 A,hle,M⟩,λ_ h=>h⟩
   .rename_i A
    split
    .exact λ_ h=>h
    .rename_i hc2
     obtain⟨f',ha'⟩:=k2 A hc2;exact⟨⟨by rw[O];exact B,E,Z,f',cn,ha',hle,M⟩,λ_ h=>h⟩
  .rintro id' q i' k' cv ⟨B,s1,E,Z,f1,b1,o1,cap1,ha,hi',hk',M⟩
   obtain⟨k1,k2⟩:=key id' q s1 E Z f1 _ B ha;simp only[Bc];split
   .rename_i A
    exact⟨⟨by rw[O];exact J,s1,E,Z,f1,b1,o1,cap1,by rw[hgid];exact k1 A,hi',hk',M⟩,λ_ h=>h⟩
   .rename_i A
    split
    .exact λ_ h=>h
    .rename_i hc2
     obtain⟨f',ha'⟩:=k2 A hc2;exact⟨⟨by rw[O];exact B,s1,E,Z,f',b1,o1,cap1,ha',hi',hk',M⟩,λ_ h=>h⟩
  .rintro id' q cv ⟨B,l,b1,ha,M⟩
   obtain⟨k1,k2⟩:=keyM id' q l _ B ha;simp only[Bc];split
   .rename_i A
    exact⟨⟨by rw[O];exact J,l,b1,by rw[hgid];exact k1 A,M⟩,λ_ h=>h⟩
   .rename_i A
    split
    .exact λ_ h=>h
    .rename_i hc2
     exact⟨⟨by rw[O];exact B,l,b1,k2 A hc2,M⟩,λ_ h=>h⟩
 .rcases hF' _ _ A with⟨rfl,Y|Y⟩|⟨_,_,Y⟩
  .exact h.Fn _ c Y
  .exact h.Fn _ c Y
  .exact h.Fn _ c Y
end Go.Ve


namespace Go.Ve
def At.cells{w w':World}(A:∀ad x,w.cell? ad=some x->w'.cell? ad=some x):∀(p:List (Nat×Nat)) (v:V) (cv:Value) (e:V) (c1:Value),At w p v cv e c1->At w' p v cv e c1
 |[],_,_,_,_,h=>h
 |(i,k)::p,.nd s true sz n f,cv,e,c1,h=>by
  obtain⟨M,L,b,o,cap,x,J,E,B⟩:=h;exact⟨M,L,b,o,cap,x,J,A _ _ E,At.cells A p _ _ _ _ B⟩
 |_::_,.nd _ false _ _ _,_,_,_,h=>h.elim
 |_::_,.c _,_,_,_,h=>h.elim
 |_::_,.dead,_,_,_,h=>h.elim
 |_::_,.many ..,_,_,_,h=>h.elim
 |_::_,.rs ..,_,_,_,h=>h.elim
 |_::_,.rp ..,_,_,_,h=>h.elim
 |_::_,.rm ..,_,_,_,h=>h.elim
 |_::_,.mp ..,_,_,_,h=>h.elim
def At.put{w:World}{x:V}:∀(p:List (Nat×Nat)) (v:V) (cv:Value) (e:V) (c1:Value),At w p v cv e c1->At w p (upd p v x) cv x c1
 |[],_,_,_,_,h=>⟨rfl,h.2⟩
 |(i,k)::p,.nd s true sz n f,cv,e,c1,h=>by
  obtain⟨M,L,b,o,cap,y,J,E,B⟩:=h;have A:=At.put (x:=x) p _ _ _ _ B;exact⟨M,L,b,o,cap,y,J,E,by simpa using A⟩
 |_::_,.nd _ false _ _ _,_,_,_,h=>h.elim
 |_::_,.c _,_,_,_,h=>h.elim
 |_::_,.dead,_,_,_,h=>h.elim
 |_::_,.many ..,_,_,_,h=>h.elim
 |_::_,.rs ..,_,_,_,h=>h.elim
 |_::_,.rp ..,_,_,_,h=>h.elim
 |_::_,.rm ..,_,_,_,h=>h.elim
 |_::_,.mp ..,_,_,_,h=>h.elim
def YX{w:World}{b:Nat}{B es':Array MapEntry}{c c':Nat}(A:w.heap[b]? =some (.map B c))(ad:Addr)(x:Value)(h:w.cell? ad=some x):({w with heap:=w.heap.setIfInBounds b (.map es' c')}:World).cell? ad=some x:=by
 unfold World.cell? at h⊢;by_cases e:ad.block=b
 .subst e
  simp[A]at h
 .simpa [Array.getElem?_setIfInBounds_ne (Ne.symm e)]using h
theorem CR.map_upd{C:Ctx}{σ ts:List V}{cts:Array Value}{w:World}{D:Nat->Prop}{ρ:Nat->Value}{F:Nat->Nat->Prop}(h:CR C σ ts cts w D ρ F){id:Nat}{p:List (Nat×Nat)}{l:List (Value×Value)}{b:Nat}(W:id<σ.length)
  (Z:At w p (σ.getD id .dead) (ρ id) (.mp true l) (.map (some b))) (es':Array MapEntry) (c':Nat):
  ∃F',CR C (σ.set id (upd p (σ.getD id .dead) (.mp true (es'.toList.map λe=>(e.key,e.val))))) ts cts {w with heap:=w.heap.setIfInBounds b (.map es' c')} D ρ F':=by
 let l':=es'.toList.map λe=>(e.key,e.val)
 let w':World:={w with heap:=w.heap.setIfInBounds b (.map es' c')}
 obtain⟨fp1,hr1,hsub,hput⟩:=Dg (w':=w') p _ _ _ _ _ (h.wr.rel id W) (λc B h'=>h.wr.dD id c h' B) Z
 obtain⟨b0,e0,⟨es,c,hb0,_⟩,_,Y⟩:=hr1;cases e0;have Y:=Y rfl;have hb:F id b:=hsub b ((Y b).2 rfl);have hlt:b<w.heap.size:=(Array.getElem?_eq_some_iff.1 hb0).1;have M:∀c,c≠b->w'.heap[c]? =w.heap[c]?:=λc B=>by
  show(w.heap.setIfInBounds b _)[c]? =_;rw[Array.getElem?_setIfInBounds_ne (Ne.symm B)]
 have J:=YX (es':=es') (c':=c') hb0;have hsz:w'.heap.size=w.heap.size:=by show(w.heap.setIfInBounds b _).size=_;simp
 have hr':=hput (.mp true l') (λc=>c=b) ⟨b,rfl,⟨es',c',by show(w.heap.setIfInBounds b _)[b]? =_;simp[hlt],rfl⟩,(λe=>by cases e),λ_ x=>Iff.rfl⟩ (λc B=>.inl ((Y c).2 B)) λc _ hn=>M c λe=>hn ((Y c).2 e)
 let fp':Nat->Prop:=λc=>(F id c/\¬fp1 c)\/c=b
 let F':Nat->Nat->Prop:=λj=>if j=id then fp' else F j
 have hF':∀j c,F' j c->F j c:=by
  intro j c B;simp only[F']at B;split at B
  .rename_i e;subst e;rcases B with B|rfl
   .exact B.1
   .exact hb
  .exact B
 have hbD:∀c,D c->c≠b:=λc B e=>h.wr.dD id b hb (e▸B)
 have wr':Bs (σ.set id (upd p (σ.getD id .dead) (.mp true l'))) w' D ρ F':=by
  refine⟨λj hj=>?_,λi j c hij U h2=>h.wr.disj i j c hij (hF' _ _ U) (hF' _ _ h2),λj c B=>h.wr.dD j c (hF' _ _ B),λc B=>by rw[hsz];exact h.wr.Dlt c B,λj c hj B=>h.wr.out j c (by simpa using hj) (hF' _ _ B)⟩
  by_cases he:j=id
  .subst he
   rw[Ag W];simpa [F',fp']using hr'
  .rw[Af (Ne.symm he)]
   have hj':j<σ.length:=by simpa using hj
   simp only[F',he,if_false];refine Rel.mono (λ_ h=>h) (λ_ _ h=>h) _ _ _ (λc B=>?_) (h.wr.rel j hj')
   refine M c ?_
   rintro rfl
   rcases B with B|B
   .exact hbD c B rfl
   .exact h.wr.disj j id c he B hb
 have noP:∀(q:List (Nat×Nat)) (v1:V) (c1:Value),At w q (σ.getD id .dead) (ρ id) v1 c1->A1 p q=true->q=p/\v1=.mp true l/\c1=.map (some b):=by
  intro q v1 c1 ha E;have e:=Cu E;rw[e]at ha;have U:=At.split ha Z;cases hq:q.drop p.length with
  |nil=>rw[hq]at U e;exact⟨by simpa using e,U.1,U.2⟩
  |cons a r=>rw[hq]at U;exact U.elim
 have key:∀(id':Nat) (q:List (Nat×Nat)) (s1:Bool) (L n1:Nat) (f1:Nat->Nat->V) (c:Value),id'<σ.length->At w q (σ.getD id' .dead) (ρ id') (.nd s1 true L n1 f1) c->
   ∃f',At w' q ((σ.set id (upd p (σ.getD id .dead) (.mp true l'))).getD id' .dead) (ρ id') (.nd s1 true L n1 f') c:=by
  intro id' q s1 L n1 f1 c A ha;by_cases he:id'=id
  .subst he
   rw[Ag W];cases E:A1 p q with
   |true=>have:=(noP q _ _ ha E).2.1;cases this
   |false=>
    obtain⟨f',U⟩:=At.keep (x:=.mp true l') p q _ _ (At.ok Z) E ha;exact⟨f',At.cells J _ _ _ _ _ U⟩
  .rw[Af (Ne.symm he)]
   exact⟨f1,At.cells J _ _ _ _ _ ha⟩
 refine⟨F',⟨wr',h.sz,λt ht=>?_,⟨h.fr.os,h.fr.tape,h.fr.output,by rw[hsz];exact h.fr.size,λc B hn=>(M c λe=>by subst e;rcases h.Fn id c hb with U|U;exact hn U;omega).trans (h.fr.block c B hn),h.fr.drawn⟩,λj c B=>h.Fn j c (hF' _ _ B),h.D1,h.D2,h.rt,by simpa using h.ml⟩⟩
 have hGm:Bg (λv:V=>v):=⟨λ_=>rfl,rfl,λ_ _ _ _ _=>rfl,λ_ _=>rfl,λ_ _ _=>rfl⟩
 refine hGm.rel (λc B=>M c (hbD c B)) ?_ ?_ ?_ _ _ noF (λ_ h=>h) (h.tm t ht)
 .rintro id' q off len cv ⟨A,L,n1,f1,cn,ha,hle,O⟩
  obtain⟨f',ha'⟩:=key id' q true L n1 f1 cn A ha;exact⟨⟨by simpa using A,L,n1,f',cn,ha',hle,O⟩,λ_ h=>h⟩
 .rintro id' q i' k' cv ⟨A,s1,L,n1,f1,b1,o1,cap1,ha,hi',hk',O⟩
  obtain⟨f',ha'⟩:=key id' q s1 L n1 f1 _ A ha;exact⟨⟨by simpa using A,s1,L,n1,f',b1,o1,cap1,ha',hi',hk',O⟩,λ_ h=>h⟩
 .rintro id' q cv ⟨A,l1,b1,ha,O⟩
  by_cases he:id'=id
  .subst he
   cases E:A1 p q with
   |true=>
    obtain⟨rfl,e1,e2⟩:=noP q _ _ ha E;cases e2;refine⟨⟨by simpa using A,l',b,?_,rfl⟩,λ_ h=>h⟩
    rw[Ag W];exact At.cells J _ _ _ _ _ (At.put _ _ _ _ _ Z)
   |false=>
    refine⟨⟨by simpa using A,l1,b1,?_,O⟩,λ_ h=>h⟩
    rw[Ag W];exact At.cells J _ _ _ _ _ (At.keepM p q _ _ (At.ok Z) E ha)
  .refine⟨⟨by simpa using A,l1,b1,?_,O⟩,λ_ h=>h⟩
   rw[Af (Ne.symm he)];exact At.cells J _ _ _ _ _ ha
end Go.Ve

