/- Draws: set functors whose elements are glued. -/
import Derived.Test.YtojjlnbnneemaaaDrk
open Nat(le_refl not_lt_zero zero_le)
open List(length_set length_append replicate)
open Go.IntKind(wrap)
set_option linter.all false
namespace Go.Ve.D
open Go Go.Ve
noncomputable section
variable{r:LI}{cl:LL}{n y:Nat}{s:Nat->Nat}
def sm:Nat->(Nat->Nat)->Nat
 |0,_=>0
 |k+1,g=>sm k g+g k
def sm_le{u g:Nat->Nat}:∀{n:Nat},(∀x,x<n->u x<=g x)->sm n u<=sm n g
 |0,_=>le_refl _
 |k+1,h=>Nat.add_le_add (sm_le λx A=>h x (Nat.lt_succ_of_lt A)) (h k (Nat.lt_succ_self k))
def sm_lt{u g:Nat->Nat}:∀{n y:Nat},(∀x,x<n->u x<=g x)->y<n->u y<g y->sm n u<sm n g
 |0,_,_,hy,_=>absurd hy (not_lt_zero _)
 |k+1,y,h,hy,hl=>by
  have A:∀x,x<k->u x<=g x:=λx B=>h x (Nat.lt_succ_of_lt B)
  have E:=h k (Nat.lt_succ_self k);show sm k u+u k<sm k g+g k;by_cases e:y=k
  .subst e
   have:=sm_le A;omega
  .have:=sm_lt A (by omega:y<k) hl
   omega
def Oo(n:Nat)(s:Nat->Nat)(cl:LL):Prop:=cl.length=n/\∀x,x<n->(cl.getD x []).length=s x/\∀i,i<s x->∃q:Nat,(cl.getD x []).getD i 0=(q:Int)/\q<s x
def muC(n:Nat)(s:Nat->Nat)(cl:LL):Nat:=sm n λx=>clN (s x) (cl.getD x [])
def Oo.put(h:Oo n s cl)(E:y<n)(A:r.length=s y)(B:∀i,i<s y->∃q:Nat,r.getD i 0=(q:Int)/\q<s y):Oo n s (cl.set y r):=by
 refine⟨by rw[length_set];exact h.1,λx u=>?_⟩
 by_cases e:x=y
 .subst e
  rw[KE (by rw[h.1];exact u)]
  exact⟨A,B⟩
 .rw[Jk e];exact h.2 x u
def mu_put(h:cl.length=n)(u:y<n)(A:clN (s y) r<clN (s y) (cl.getD y [])):muC n s (cl.set y r)<muC n s cl:=by
 refine sm_lt (y:=y) (λx B=>?_) u (by rw[KE (by rw[h];exact u)];exact A)
 by_cases e:x=y
 .subst e;rw[KE (by rw[h];exact B)];exact Nat.le_of_lt A
 .rw[Jk e];exact le_refl _
def glue1{S U W:Int}{pl:LI}(h:Oo n s cl)(hy:y<n)(hpl:pl=cl.getD y [])(hS:S=(s y:Int))(hs:s y<=8000){u v:Nat}(hu:u<s y)(hv:v<s y)(hU:U=(u:Int))(hW:W=(v:Int))(hne:(cl.getD y []).getD u 0≠(cl.getD y []).getD v 0){R:Type}{k:LI->Option R}{Q:R->Prop}
  (O:∀r,Oo n s (cl.set y r)->muC n s (cl.set y r)<muC n s cl->Tot Q (k r)):Tot Q ((G163 pl).bind λv6=>if(v6.length+((U::(W::[]))::([]:LL)).length)<=5864062014805 then(G88 (S,v6++((U::(W::[]))::[]))).bind k else none):=by
 subst hpl hU hW;obtain⟨hl,hq⟩:=h.2 y hy;refine Ad (p163 (x:=cl.getD y []) (by omega)) λL hL=>Ab (by show L.length+1<=_;omega) ?_
 obtain⟨hL1,Y⟩:=hL;rw[hS];have E:∀k,k<L.length->(L++[[(u:Int),(v:Int)]]).getD k []=L.getD k []:=λk O=>AE O
 have B:(L++[[(u:Int),(v:Int)]]).getD L.length []=[(u:Int),(v:Int)]:=BO;have A:(L++[[(u:Int),(v:Int)]]).length=L.length+1:=by rw[length_append];rfl
 have hp:Dv (s y) (L++[[(u:Int),(v:Int)]]):=by
  refine⟨by rw[A];omega,λk O=>?_⟩
  rw[A]at O;by_cases e:k<L.length
  .obtain⟨q,Z,h2,_,_⟩:=Y k (by omega)
   rw[E k e,Z];exact⟨le_refl _,q,k,rfl,rfl,by omega,by omega⟩
  .obtain rfl:k=L.length:=by omega
   rw[B];exact⟨le_refl _,u,v,rfl,rfl,hu,hv⟩
 refine Ad (p88 (n:=s y) (ps:=L++[[(u:Int),(v:Int)]]) (by omega) hp) λr hr=>?_
 obtain⟨r1,r2,r3⟩:=hr
 have key:∀i,i<s y->∃q:Nat,(L.getD i []=[(q:Int),(i:Int)]/\(cl.getD y []).getD q 0=(cl.getD y []).getD i 0/\∀k,k<q->(cl.getD y []).getD k 0≠(cl.getD y []).getD i 0)/\r.getD q 0=r.getD i 0:=by
  intro i hi;obtain⟨q,Z,_,h3,h4⟩:=Y i (by omega)
  refine⟨q,⟨Z,h3,h4⟩,?_⟩;have:=r3 i (by rw[A];omega)
  rw[E i (by omega),Z]at this
  exact this
 have J:∀i j,i<s y->j<s y->(cl.getD y []).getD i 0=(cl.getD y []).getD j 0->r.getD i 0=r.getD j 0:=by
  intro i j hi hj he;obtain⟨q,⟨_,a2,a3⟩,a4⟩:=key i hi;obtain⟨q',⟨_,b2,b3⟩,b4⟩:=key j hj;have:q=q':=by
   rcases Nat.lt_trichotomy q q' with e|e|e
   .exact absurd (a2.trans he) (b3 q e)
   .exact e
   .exact absurd (b2.trans he.symm) (a3 q' e)
  rw[<-a4,<-b4,this]
 have huv:r.getD u 0=r.getD v 0:=by
  have:=r3 L.length (by rw[A];omega)
  rw[B]at this;exact this
 exact O r (h.put hy r1 r2) (mu_put h.1 hy (clN_lt J hu hv hne huv))
def andT{b:Bool}{p:Prop}{o:Option Bool}(u:b=true->Tot (λr:Bool=>r=true->p) o):Tot (λr:Bool=>r=true->p) (bif b then o else some false):=An u λ_=>Aa λh=>by cases h
theorem p151{c:Ca}{m:Nat}{f:Sf}{ps:LLL}(hc:Sp c n m)(hn:n<=1000)(hm:m<=1000)(hf:Fre c n m f)(hpl:ps.length=n)(hps:∀x,x<n->∀s:Nat,f.2.2.2.2.2.1.getD x 0=(s:Int)->Dv s (ps.getD x [])):
  Tot (λg:Sf=>(g.1,g.2.1,g.2.2.1,g.2.2.2.1,g.2.2.2.2.1)=c/\g.2.2.2.2.2.1.length=n/\g.2.2.2.2.2.2.length=m/\∀a,a<m->(g.2.2.2.2.2.2.getD a []).length<=8000) (G151 (f,ps)):=by
 obtain⟨f1,B,W,f4,f5,S,A⟩:=f;obtain⟨hsh,hlS,hlA,hsz,hac⟩:=hf;have hsh:(f1,B,W,f4,f5)=c:=hsh;subst hsh;have hlS:S.length=n:=hlS;have hlA:A.length=m:=hlA;obtain⟨s,hs⟩:∃s:Nat->Nat,s=λx=>(S.getD x 0).toNat:=⟨_,rfl⟩
 have hS:∀x,x<n->S.getD x 0=(s x:Int)/\s x<=8000:=λx hx=>by
  obtain⟨t,h1,h2⟩:=hsz x hx;have h1:S.getD x 0=(t:Int):=h1;rw[hs];show S.getD x 0=(((S.getD x 0).toNat:Nat):Int)/\(S.getD x 0).toNat<=8000;rw[h1];exact⟨rfl,h2⟩
 have hlf:B.length=m:=hc.lf;have hlt:W.length=m:=hc.lt
 have hend:∀a,a<m->∃x y:Nat,x<n/\y<n/\B.getD a 0=(x:Int)/\W.getD a 0=(y:Int)/\(A.getD a []).length=s x/\∀e,e<s x->∃d:Nat,(A.getD a []).getD e 0=(d:Int)/\d<s y:=λa ha=>by
  obtain⟨x,hx,Y⟩:=hc.fr a ha;obtain⟨y,hy,hty⟩:=hc.to a ha;obtain⟨h1,h2⟩:=hac a x y (s x) (s y) ha Y hty (hS x hx).1 (hS y hy).1;exact⟨x,y,hx,hy,Y,hty,h1,h2⟩
 have J:∀{a:Int}{x:Nat},a=(x:Int)->a.toNat=x:=λh=>by omega
 delta G151 mA mB lw an l2 g2 k4 k5 k6 k7 k8 lt gd li l0 q4 q9 wz sc nx bk cp
 refine Au (n:=n) (λi v=>v.1=(i:Int)/\v.2.length=i/\∀x,x<i->(v.2.getD x []).length=s x/\∀j,j<s x->∃q:Nat,(v.2.getD x []).getD j 0=(q:Int)/\q<s x) ⟨rfl,rfl,λx h=>absurd h (not_lt_zero x)⟩ (λi hi v O=>?_) λv O=>?_
 .obtain⟨U,cl⟩:=v
  obtain⟨(rfl:U=(i:Int)),(h1:cl.length=i),(h2:∀x,x<i->(cl.getD x []).length=s x/\∀j,j<s x->∃q:Nat,(cl.getD x []).getD j 0=(q:Int)/\q<s x)⟩:=O;have iS:(0:Int)<=(i:Int)/\(i:Int)<(S.length:Int):=by rw[hlS];omega
  have iP:(0:Int)<=(i:Int)/\(i:Int)<(ps.length:Int):=by rw[hpl];omega
  refine A5 (by show decide ((i:Int)<(S.length:Int))=true;rw[hlS];exact ltD hi) (Ab iS (Ab iP (Ad (P:=Aaz (s i) (ps.getD i [])) ?_ λr hr=>Ab (by show cl.length+1<=_;omega) (Aa ⟨wrD hi (by omega),by show(cl++[_]).length=i+1;rw[length_append,h1];rfl,λx hx=>?_⟩))))
  .show Tot _ (G88 (S.getD i 0,ps.getD i []))
   rw[(hS i hi).1];exact p88 (by have:=(hS i hi).2;omega) (hps i hi (s i) (hS i hi).1)
  .show((cl++[r]).getD x []).length=s x/\∀j,j<s x->∃q:Nat,((cl++[r]).getD x []).getD j 0=_/\_
   by_cases e:x=i
   .subst e
    have:(cl++[r]).getD x []=r:=by rw[<-h1];exact BO
    rw[this];exact⟨hr.1,hr.2.1⟩
   .rw[AE (by omega)];exact h2 x (by omega)
 obtain⟨U,cl0⟩:=v;obtain⟨(h0:U=(n:Int)),hcl0⟩:=O;subst h0;have hcl0:Oo n s cl0:=hcl0;refine A8 (by show decide ((n:Int)<(S.length:Int))=false;rw[hlS];exact ltf) (Aa (Ab rfl ?_))
 refine Da (I:=λv=>Oo n s v.2.2.2.2.2.2.2.2) (λv=>bif v.1 then muC n s v.2.2.2.2.2.2.2.2+1 else 0) hcl0 (λv O=>?_)
 obtain⟨more,z1,z2,z3,z4,z5,z6,z7,cl⟩:=v;have hcl:Oo n s cl:=O;refine An (λhmore=>?_) λhmore=>Aa (Ab rfl ?_)
 .have hmore:more=true:=hmore
  subst hmore;refine Au (n:=m) (λa v=>v.2.1=(a:Int)/\Oo n s v.2.2.2.2.2.2.2.2.2/\muC n s v.2.2.2.2.2.2.2.2.2<=muC n s cl/\(v.1=true->muC n s v.2.2.2.2.2.2.2.2.2<muC n s cl)) ⟨rfl,hcl,le_refl _,λh=>by cases h⟩ (λa ha v O=>?_) λv O=>?_
  .obtain⟨mo,U,z1,z2,z3,z4,z5,z6,z7,cl2⟩:=v
   obtain⟨(rfl:U=(a:Int)),hJ2⟩:=O;obtain⟨x,y,hx,hy,Y,hty,hal,hae⟩:=hend a ha;have iF:(0:Int)<=(a:Int)/\(a:Int)<(B.length:Int):=by rw[hlf];omega
   have iT:(0:Int)<=(a:Int)/\(a:Int)<(W.length:Int):=by rw[hlt];omega
   have iA:(0:Int)<=(a:Int)/\(a:Int)<(A.length:Int):=by rw[hlA];omega
   refine A5 (by show decide ((a:Int)<(A.length:Int))=true;rw[hlA];exact ltD ha) (Ab iF (Ab iT ?_))
   refine Au (n:=s x) (λd v=>v.2.1=(d:Int)/\Oo n s v.2.2.2.2.2.2.2.2.2/\muC n s v.2.2.2.2.2.2.2.2.2<=muC n s cl/\(v.1=true->muC n s v.2.2.2.2.2.2.2.2.2<muC n s cl)) ⟨rfl,hJ2⟩ (λd hd v O=>?_) λv O=>?_
   .obtain⟨mo,U,z1,z2,z3,z4,z5,z6,z7,cl3⟩:=v
    obtain⟨(rfl:U=(d:Int)),hJ3⟩:=O;have hJ3:Oo n s cl3/\_:=hJ3;have iX:(0:Int)<=B.getD a 0/\B.getD a 0<(cl3.length:Int):=by rw[Y,hJ3.1.1];omega
    have eX:cl3.getD (B.getD a 0).toNat []=cl3.getD x []:=by rw[J Y]
    refine Ab iX (A5 (by show decide ((d:Int)<((cl3.getD (B.getD a 0).toNat []).length:Int))=true;rw[eX,(hJ3.1.2 x hx).1];exact ltD hd) ?_)
    refine Au (n:=d) (λe v=>v.2.1=(e:Int)/\Oo n s v.2.2.2.2.2.2.2.2.2/\muC n s v.2.2.2.2.2.2.2.2.2<=muC n s cl/\(v.1=true->muC n s v.2.2.2.2.2.2.2.2.2<muC n s cl)) ⟨rfl,hJ3⟩ (λe he v O=>?_) λv O=>?_
    .obtain⟨mo,U,z1,z2,z3,z4,z5,z6,z7,E⟩:=v
     obtain⟨(rfl:U=(e:Int)),(hJ4:Oo n s E/\muC n s E<=muC n s cl/\(mo=true->muC n s E<muC n s cl))⟩:=O;have hX:=hJ4.1.2 x hx;have hY:=hJ4.1.2 y hy;have iX:(0:Int)<=B.getD a 0/\B.getD a 0<(E.length:Int):=by rw[Y,hJ4.1.1];omega
     have iY:(0:Int)<=W.getD a 0/\W.getD a 0<(E.length:Int):=by rw[hty,hJ4.1.1];omega
     have iSY:(0:Int)<=W.getD a 0/\W.getD a 0<(S.length:Int):=by rw[hty,hlS];omega
     have eX:E.getD (B.getD a 0).toNat []=E.getD x []:=by rw[J Y]
     have eY:E.getD (W.getD a 0).toNat []=E.getD y []:=by rw[J hty]
     have iXd:(0:Int)<=(d:Int)/\(d:Int)<((E.getD (B.getD a 0).toNat []).length:Int):=by rw[eX,hX.1];omega
     have iXe:(0:Int)<=(e:Int)/\(e:Int)<((E.getD (B.getD a 0).toNat []).length:Int):=by rw[eX,hX.1];omega
     have iAd:(0:Int)<=(d:Int)/\(d:Int)<((A.getD a []).length:Int):=by rw[hal];omega
     have iAe:(0:Int)<=(e:Int)/\(e:Int)<((A.getD a []).length:Int):=by rw[hal];omega
     obtain⟨u,hu,hus⟩:=hae d hd;obtain⟨w,hw,hws⟩:=hae e (by omega)
     have iYu:(0:Int)<=(A.getD a []).getD d 0/\(A.getD a []).getD d 0<((E.getD (W.getD a 0).toNat []).length:Int):=by rw[eY,hY.1,hu];omega
     have iYw:(0:Int)<=(A.getD a []).getD e 0/\(A.getD a []).getD e 0<((E.getD (W.getD a 0).toNat []).length:Int):=by rw[eY,hY.1,hw];omega
     refine A5 (ltD he) (Ab iA (Ab iAd (Ab iA (Ab iAe (Ab iX (Ab iXd (Ab iX (Ab iXe ?_))))))));refine Ad (P:=λb:Bool=>b=true->(E.getD y []).getD u 0≠(E.getD y []).getD w 0) (andT λ_=>Ab iY (Ab iYu (Ab iY (Ab iYw (Aa λh he=>?_))))) λb hb=>An (λhbt=>?_) λ_=>Aa ⟨wrD he (by have:=(hS x hx).2;omega),hJ4⟩
     .have h:(!decide ((E.getD (W.getD a 0).toNat []).getD ((A.getD a []).getD d 0).toNat 0=(E.getD (W.getD a 0).toNat []).getD ((A.getD a []).getD e 0).toNat 0))=true:=h
      rw[eY,J hu,J hw,dT he]at h;cases h
     .refine Ab iSY (Ab iY (glue1 hJ4.1 hy eY (by show S.getD (W.getD a 0).toNat 0=_;rw[J hty];exact(hS y hy).1) (hS y hy).2 hus hws hu hw (hb hbt) λr hr hmu=>Ab iY (Aa ⟨wrD he (by have:=(hS x hx).2;omega),?_⟩)))
      show Oo n s (E.set (W.getD a 0).toNat r)/\muC n s (E.set (W.getD a 0).toNat r)<=_/\(true=true->muC n s (E.set (W.getD a 0).toNat r)<_);rw[J hty];have:=hJ4.2.1;exact⟨hr,by omega,λ_=>by omega⟩
    .obtain⟨mo,U,z1,z2,z3,z4,z5,z6,z7,E⟩:=v
     obtain⟨(h0:U=(d:Int)),hJ4⟩:=O;subst h0;exact A8 ltf (Aa (Ab rfl (Aa ⟨wrD hd (by have:=(hS x hx).2;omega),hJ4⟩)))
   .obtain⟨mo,U,z1,z2,z3,z4,z5,z6,z7,cl3⟩:=v
    obtain⟨(h0:U=(s x:Int)),hJ3⟩:=O;subst h0;have hJ3':Oo n s cl3/\_:=hJ3;have iX:(0:Int)<=B.getD a 0/\B.getD a 0<(cl3.length:Int):=by rw[Y,hJ3'.1.1];omega
    have eX:cl3.getD (B.getD a 0).toNat []=cl3.getD x []:=by rw[J Y]
    exact Ab iX (A8 (by show decide ((s x:Int)<((cl3.getD (B.getD a 0).toNat []).length:Int))=false;rw[eX,(hJ3'.1.2 x hx).1];exact ltf) (Aa (Ab rfl (Aa ⟨wrD ha (by omega),hJ3⟩))))
  .obtain⟨mo,U,z1,z2,z3,z4,z5,z6,z7,cl2⟩:=v
   obtain⟨(h0:U=(m:Int)),(hJ2:Oo n s cl2/\muC n s cl2<=muC n s cl/\(mo=true->muC n s cl2<muC n s cl))⟩:=O;subst h0;refine A8 (by show decide ((m:Int)<(A.length:Int))=false;rw[hlA];exact ltf) (Aa (Ab rfl (Aa ⟨hJ2.1,?_⟩)))
   show(bif mo then muC n s cl2+1 else 0)<muC n s cl+1;cases mo with
   |true=>have:=hJ2.2.2 rfl;show muC n s cl2+1<_;omega
   |false=>exact Nat.succ_pos _
 have hcl:Oo n s cl:=hcl;refine Bh (Acq hc hn hm) ?_;refine Au (n:=n) (λi v=>v.1=(i:Int)/\v.2.2.2.2.2.2.2.2.1=cl/\(v.2.2.2.2.2.2.2.2.2.1,v.2.2.2.2.2.2.2.2.2.2.1,v.2.2.2.2.2.2.2.2.2.2.2.1,v.2.2.2.2.2.2.2.2.2.2.2.2.1,v.2.2.2.2.2.2.2.2.2.2.2.2.2.1)=(f1,B,W,f4,f5)/\v.2.2.2.2.2.2.2.2.2.2.2.2.2.2.2=[]/\v.2.2.2.2.2.2.2.2.2.2.2.2.2.2.1.length=i/\∀j,j<i->∃t:Nat,v.2.2.2.2.2.2.2.2.2.2.2.2.2.2.1.getD j 0=(t:Int)/\t<=8000/\∀e,e<s j->(cl.getD j []).getD e 0<(t:Int)) ⟨rfl,rfl,rfl,rfl,rfl,λj h=>absurd h (not_lt_zero j)⟩ (λi hi v O=>?_) λv O=>?_
 .obtain⟨U,z1,z2,z3,z4,z5,z6,z7,Z,g1,g2,g3,g4,g5,S',A'⟩:=v
  obtain⟨(rfl:U=(i:Int)),(h1:Z=cl),(h2:(g1,g2,g3,g4,g5)=(f1,B,W,f4,f5)),(h3:A'=[]),(h4:S'.length=i),(h5:∀j,j<i->∃t:Nat,S'.getD j 0=(t:Int)/\t<=8000/\∀e,e<s j->(cl.getD j []).getD e 0<(t:Int))⟩:=O;subst h1 h3;have iC:(0:Int)<=(i:Int)/\(i:Int)<(Z.length:Int):=by rw[hcl.1];omega
  have hi2:=hcl.2 i hi;have hsi:=(hS i hi).2;refine A5 (by show decide ((i:Int)<(Z.length:Int))=true;rw[hcl.1];exact ltD hi) ?_
  refine Au (n:=s i) (λe v=>v.2=(e:Int)/\∃t:Nat,v.1=(t:Int)/\t<=s i/\∀k,k<e->(Z.getD i []).getD k 0<(t:Int)) ⟨rfl,0,rfl,zero_le _,λk h=>absurd h (not_lt_zero k)⟩ (λe he v O=>?_) λv O=>?_
  .obtain⟨U,v2⟩:=v
   obtain⟨(q1:v2=(e:Int)),t,(q2:U=(t:Int)),q3,q4⟩:=O;subst q1 q2;obtain⟨q,hq,hqs⟩:=hi2.2 e he;have iE:(0:Int)<=(e:Int)/\(e:Int)<((Z.getD i []).length:Int):=by rw[hi2.1];omega
   refine Ab iC (A5 (by show decide ((e:Int)<((Z.getD i []).length:Int))=true;rw[hi2.1];exact ltD he) (Ab iC (Ab iE (Aa ⟨wrD he (by omega),max t (q+1),?_,by omega,λk hk=>?_⟩))))
   .show Z1 (t:Int) (wrap .i64 ((Z.getD i []).getD e 0+1))=_
    rw[hq,Ah (by omega) (by omega)]
    unfold Z1;omega
   .by_cases e':k=e
    .subst e';rw[hq];omega
    .have:=q4 k (by omega);omega
  .obtain⟨U,v2⟩:=v
   obtain⟨(q1:v2=(s i:Int)),t,(q2:U=(t:Int)),q3,q4⟩:=O;subst q1 q2;refine Ab iC (A8 (by show decide ((s i:Int)<((Z.getD i []).length:Int))=false;rw[hi2.1];exact ltf) (Aa (Ab rfl (Ab (by show S'.length+1<=_;omega) (Aa ⟨wrD hi (by omega),rfl,h2,rfl,by show(S'++[_]).length=i+1;rw[length_append,h4];rfl,λj hj=>?_⟩)))))
   show ∃t':Nat,(S'++[(t:Int)]).getD j 0=_/\_;by_cases e':j=i
   .subst e'
    exact⟨t,by rw[<-h4];exact BO,by omega,q4⟩
   .rw[AE (by omega)];exact h5 j (by omega)
 obtain⟨U,z1,z2,z3,z4,z5,z6,z7,Z,g1,g2,g3,g4,g5,S',A'⟩:=v;obtain⟨(h0:U=(n:Int)),(h1:Z=cl),(h2:(g1,g2,g3,g4,g5)=(f1,B,W,f4,f5)),(h3:A'=[]),(h4:S'.length=n),(h5:∀j,j<n->∃t:Nat,S'.getD j 0=(t:Int)/\t<=8000/\∀e,e<s j->(cl.getD j []).getD e 0<(t:Int))⟩:=O;subst h0 h1 h3;refine A8 (by show decide ((n:Int)<(Z.length:Int))=false;rw[hcl.1];exact ltf) (Aa (Ab rfl ?_))
 refine Au (n:=m) (λa v=>v.1=(a:Int)/\v.2.2.2.2.2.2.2.2.1=Z/\(v.2.2.2.2.2.2.2.2.2.1,v.2.2.2.2.2.2.2.2.2.2.1,v.2.2.2.2.2.2.2.2.2.2.2.1,v.2.2.2.2.2.2.2.2.2.2.2.2.1,v.2.2.2.2.2.2.2.2.2.2.2.2.2.1)=(f1,B,W,f4,f5)/\v.2.2.2.2.2.2.2.2.2.2.2.2.2.2.1=S'/\v.2.2.2.2.2.2.2.2.2.2.2.2.2.2.2.length=a/\∀b,b<a->(v.2.2.2.2.2.2.2.2.2.2.2.2.2.2.2.getD b []).length<=8000) ⟨rfl,rfl,h2,rfl,rfl,λj h=>absurd h (not_lt_zero j)⟩ (λa ha v O=>?_) λv O=>?_
 .obtain⟨U,y1,y2,y3,y4,y5,y6,y7,c2,k1,k2,k3,k4,k5,S2,A2⟩:=v
  obtain⟨(rfl:U=(a:Int)),(q1:c2=Z),(q2:(k1,k2,k3,k4,k5)=(f1,B,W,f4,f5)),(q3:S2=S'),(q4:A2.length=a),(q5:∀b,b<a->(A2.getD b []).length<=8000)⟩:=O;subst q1 q3;obtain⟨x,y,hx,hy,Y,hty,hal,hae⟩:=hend a ha;obtain⟨t,ht,ht8,hte⟩:=h5 x hx;have hX:=hcl.2 x hx;have hY:=hcl.2 y hy;have iF:(0:Int)<=(a:Int)/\(a:Int)<(B.length:Int):=by rw[hlf];omega
  have iT:(0:Int)<=(a:Int)/\(a:Int)<(W.length:Int):=by rw[hlt];omega
  have iA:(0:Int)<=(a:Int)/\(a:Int)<(A.length:Int):=by rw[hlA];omega
  have iSX:(0:Int)<=B.getD a 0/\B.getD a 0<(S2.length:Int):=by rw[Y,h4];omega
  have iX:(0:Int)<=B.getD a 0/\B.getD a 0<(c2.length:Int):=by rw[Y,hcl.1];omega
  have iY:(0:Int)<=W.getD a 0/\W.getD a 0<(c2.length:Int):=by rw[hty,hcl.1];omega
  have eX:c2.getD (B.getD a 0).toNat []=c2.getD x []:=by rw[J Y]
  have eY:c2.getD (W.getD a 0).toNat []=c2.getD y []:=by rw[J hty]
  have eS:S2.getD (B.getD a 0).toNat 0=(t:Int):=by rw[J Y];exact ht
  refine A5 (by show decide ((a:Int)<(A.length:Int))=true;rw[hlA];exact ltD ha) (Ab iF (Ab iT (Ab iSX (Ab ?_ ?_))))
  .show(0:Int)<=S2.getD (B.getD a 0).toNat 0/\S2.getD (B.getD a 0).toNat 0<=S2.getD (B.getD a 0).toNat 0/\8*S2.getD (B.getD a 0).toNat 0<=_/\S2.getD (B.getD a 0).toNat 0<=_
   rw[eS];omega
  refine Au (n:=s x) (λe v=>v.1=(e:Int)/\v.2.2.2.2.2.2.2.2.1=c2/\(v.2.2.2.2.2.2.2.2.2.1,v.2.2.2.2.2.2.2.2.2.2.1,v.2.2.2.2.2.2.2.2.2.2.2.1,v.2.2.2.2.2.2.2.2.2.2.2.2.1,v.2.2.2.2.2.2.2.2.2.2.2.2.2.1)=(f1,B,W,f4,f5)/\v.2.2.2.2.2.2.2.2.2.2.2.2.2.2.1=S2/\v.2.2.2.2.2.2.2.2.2.2.2.2.2.2.2.1=A2/\v.2.2.2.2.2.2.2.2.2.2.2.2.2.2.2.2.length=t) ⟨rfl,rfl,q2,rfl,rfl,by show(replicate (S2.getD (B.getD a 0).toNat 0).toNat (0:Int)).length=t;rw[List.length_replicate,eS];exact tNC t⟩ (λe he v O=>?_) λv O=>?_
  .obtain⟨U,y1,y2,y3,y4,y5,y6,y7,c3,k1,k2,k3,k4,k5,S3,A3,l⟩:=v
   obtain⟨(r1:U=(e:Int)),(r2:c3=c2),(r3:(k1,k2,k3,k4,k5)=(f1,B,W,f4,f5)),(r4:S3=S2),(r5:A3=A2),(r6:l.length=t)⟩:=O;subst r1 r2 r4 r5;obtain⟨d,hd,hds⟩:=hae e he;obtain⟨q,hq,hqs⟩:=hX.2 e he;have hqt:=hte e he;have iE:(0:Int)<=(e:Int)/\(e:Int)<((c3.getD (B.getD a 0).toNat []).length:Int):=by rw[eX,hX.1];omega
   have iAe:(0:Int)<=(e:Int)/\(e:Int)<((A.getD a []).length:Int):=by rw[hal];omega
   have iD:(0:Int)<=(A.getD a []).getD e 0/\(A.getD a []).getD e 0<((c3.getD (W.getD a 0).toNat []).length:Int):=by rw[eY,hY.1,hd];omega
   have iL:(0:Int)<=(c3.getD (B.getD a 0).toNat []).getD e 0/\(c3.getD (B.getD a 0).toNat []).getD e 0<(l.length:Int):=by rw[eX,r6,hq];rw[hq]at hqt;omega
   refine Ab iX (A5 (by show decide ((e:Int)<((c3.getD (B.getD a 0).toNat []).length:Int))=true;rw[eX,hX.1];exact ltD he) (Ab iX (Ab iE (Ab iY (Ab iA (Ab iAe (Ab iD (Ab iL (Aa ⟨wrD he (by have:=(hS x hx).2;omega),rfl,r3,rfl,rfl,by show(l.set _ _).length=t;rw[length_set];exact r6⟩)))))))))
  .obtain⟨U,y1,y2,y3,y4,y5,y6,y7,c3,k1,k2,k3,k4,k5,S3,A3,l⟩:=v
   obtain⟨(r1:U=(s x:Int)),(r2:c3=c2),(r3:(k1,k2,k3,k4,k5)=(f1,B,W,f4,f5)),(r4:S3=S2),(r5:A3=A2),(r6:l.length=t)⟩:=O;subst r1 r2 r4 r5;refine Ab iX (A8 (by show decide ((s x:Int)<((c3.getD (B.getD a 0).toNat []).length:Int))=false;rw[eX,hX.1];exact ltf) (Aa (Ab rfl (Ab trivial (Ab (by show A3.length+1<=_;omega) (Aa ⟨wrD ha (by omega),rfl,r3,rfl,by show(A3++[_]).length=a+1;rw[length_append,q4];rfl,λb hb=>?_⟩))))))
   show((A3++[l]).getD b []).length<=8000;by_cases e':b=a
   .subst e'
    have:(A3++[l]).getD b []=l:=by rw[<-q4];exact BO
    rw[this];omega
   .rw[AE (by omega)];exact q5 b (by omega)
 .obtain⟨U,y1,y2,y3,y4,y5,y6,y7,c2,k1,k2,k3,k4,k5,S2,A2⟩:=v
  obtain⟨(r0:U=(m:Int)),(q1:c2=Z),(q2:(k1,k2,k3,k4,k5)=(f1,B,W,f4,f5)),(q3:S2=S'),(q4:A2.length=m),(q5:∀b,b<m->(A2.getD b []).length<=8000)⟩:=O;subst r0 q1 q3;exact A8 (by show decide ((m:Int)<(A.length:Int))=false;rw[hlA];exact ltf) (Aa (Ab rfl (Aa ⟨q2,h4,q4,q5⟩)))
end
end Go.Ve.D


namespace Go.Ve.D
open Go Go.Ve
noncomputable section
variable{c:Ca}{k m n:Nat}{g:Sf}{s:Src}
def GS(c:Ca)(n m:Nat)(g:Sf):Prop:=(g.1,g.2.1,g.2.2.1,g.2.2.2.1,g.2.2.2.2.1)=c/\g.2.2.2.2.2.1.length=n/\g.2.2.2.2.2.2.length=m/\∀a,a<m->(g.2.2.2.2.2.2.getD a []).length<=8000
def okSD(g:Sf):Prop:=okD (g.1,g.2.1,g.2.2.1,g.2.2.2.1,g.2.2.2.2.1)/\g.2.2.2.2.2.1.length<=2001/\g.2.2.2.2.2.2.length<=2001/\∀y∈g.2.2.2.2.2.2,y.length<=8000
def p73(O:Sp c n m)(hn:n<=1000)(hm:m<=1000)(hk:k<=16):Tot (GS c n m) (G73 (c,(k:Int))):=by
 have E:=O.ob
 delta G73 mA mB lw k4 k5 k8 lt q4 q9 sc nx bk cp
 refine Bh (Acq O hn hm) ?_;refine Au (n:=n) (λi v=>v.1=(i:Int)/\(v.2.2.2.2.2.2.2.2.1,v.2.2.2.2.2.2.2.2.2.1,v.2.2.2.2.2.2.2.2.2.2.1,v.2.2.2.2.2.2.2.2.2.2.2.1,v.2.2.2.2.2.2.2.2.2.2.2.2.1)=c/\v.2.2.2.2.2.2.2.2.2.2.2.2.2.1.length=i/\v.2.2.2.2.2.2.2.2.2.2.2.2.2.2=[]) ⟨rfl,rfl,rfl,rfl⟩ (λi hi v B=>?_) λv B=>?_
 .obtain⟨u,z1,z2,z3,z4,z5,z6,z7,f1,f2,f3,f4,f5,S,A⟩:=v
  obtain⟨(rfl:u=(i:Int)),(h1:(f1,f2,f3,f4,f5)=c),(Z:S.length=i),(Y:A=[])⟩:=B;exact A5 (by show decide ((i:Int)<c.1)=true;rw[E];exact ltD hi) (Ab (by show S.length+1<=_;omega) (Aa ⟨wrD hi (by omega),h1,by show(S++[_]).length=i+1;rw[length_append,Z];rfl,Y⟩))
 obtain⟨u,z1,z2,z3,z4,z5,z6,z7,f1,f2,f3,f4,f5,S,A⟩:=v;obtain⟨(h0:u=(n:Int)),(h1:(f1,f2,f3,f4,f5)=c),(Z:S.length=n),(Y:A=[])⟩:=B;subst h0 Y;refine A8 (by show decide ((n:Int)<c.1)=false;rw[E];exact ltf) (Aa (Ab rfl ?_))
 refine Au (n:=m) (λa v=>v.1=(a:Int)/\(v.2.2.2.2.2.2.2.2.1,v.2.2.2.2.2.2.2.2.2.1,v.2.2.2.2.2.2.2.2.2.2.1,v.2.2.2.2.2.2.2.2.2.2.2.1,v.2.2.2.2.2.2.2.2.2.2.2.2.1)=c/\v.2.2.2.2.2.2.2.2.2.2.2.2.2.1=S/\v.2.2.2.2.2.2.2.2.2.2.2.2.2.2.length=a/\∀b,b<a->(v.2.2.2.2.2.2.2.2.2.2.2.2.2.2.getD b []).length<=8000) ⟨rfl,h1,rfl,rfl,λb h=>absurd h (not_lt_zero b)⟩ (λa ha v B=>?_) λv B=>?_
 .obtain⟨u,y1,y2,y3,y4,y5,y6,y7,k1,k2,k3,k4,k5,S2,A2⟩:=v
  obtain⟨(rfl:u=(a:Int)),(W:(k1,k2,k3,k4,k5)=c),(U:S2=S),(J:A2.length=a),(q4:∀b,b<a->(A2.getD b []).length<=8000)⟩:=B;refine A5 (by show decide ((a:Int)<(c.2.1.length:Int))=true;rw[O.lf];exact ltD ha) ?_
  refine Au (n:=k) (λe v=>v.1=(e:Int)/\v.2.length=e) ⟨rfl,rfl⟩ (λe he v B=>?_) λv B=>?_
  .obtain⟨u,l⟩:=v
   obtain⟨(rfl:u=(e:Int)),(r1:l.length=e)⟩:=B;exact A5 (ltD he) (Ab (by show l.length+1<=_;omega) (Aa ⟨wrD he (by omega),by show(l++[_]).length=e+1;rw[length_append,r1];rfl⟩))
  .obtain⟨u,l⟩:=v
   obtain⟨(r0:u=(k:Int)),(r1:l.length=k)⟩:=B;subst r0;refine A8 ltf (Aa (Ab rfl (Ab trivial (Ab (by show A2.length+1<=_;omega) (Aa ⟨wrD ha (by omega),W,U,by show(A2++[_]).length=a+1;rw[length_append,J];rfl,λb hb=>?_⟩)))))
   show((A2++[l]).getD b []).length<=8000;by_cases e':b=a
   .subst e'
    have:(A2++[l]).getD b []=l:=by rw[<-J];exact BO
    rw[this];omega
   .rw[AE (by omega)];exact q4 b (by omega)
 .obtain⟨u,y1,y2,y3,y4,y5,y6,y7,k1,k2,k3,k4,k5,S2,A2⟩:=v
  obtain⟨(r0:u=(m:Int)),(W:(k1,k2,k3,k4,k5)=c),(U:S2=S),(J:A2.length=m),(q4:∀b,b<m->(A2.getD b []).length<=8000)⟩:=B;subst r0 U;exact A8 (by show decide ((m:Int)<(c.2.1.length:Int))=false;rw[O.lf];exact ltf) (Aa (Ab rfl (Aa ⟨W,Z,J,q4⟩)))
theorem p123(hc:Sp c n m)(hn:n<=1000)(hm:m<=1000){z:Int}(hz:0<=z/\z<=1000)(hs:OkS s):Tot (λr=>GS c n m r.1/\OkS r.2) (G123 (c,z) s):=by
 have hob:=hc.ob
 delta G123 mA mB lw an k3 k6 k7 k8 lt gd li l0 q4 q9 wz sc nx bk cp
 refine Au (n:=6) (λi v=>v.1=(i:Int)/\OkS (v.2.1,v.2.2.1,v.2.2.2.1)) ⟨rfl,hs⟩ (λi hi v E=>?_) λv E=>?_
 .obtain⟨u,s1,s2,s3,z1,z2,z3,z4,z5,z6,z7⟩:=v
  obtain⟨(rfl:u=(i:Int)),(hs1:OkS (s1,s2,s3))⟩:=E;refine A5 (by show decide ((i:Int)<6)=true;exact dT (by omega)) (Ad (p38 hs1) λu hv1=>?_)
  obtain⟨k0,t1,t2,t3⟩:=u;obtain⟨⟨m0,m1,_⟩,ht⟩:=hv1;have m0:0<=k0:=m0;have m1:k0<4:=m1 (by decide)
  have ht:OkS (t1,t2,t3):=ht;refine Da (I:=λv=>∃j:Nat,v.1=(j:Int)/\OkS (v.2.1,v.2.2.1,v.2.2.2.1)/\v.2.2.2.2.2.2.2.2.2.2.2.length+j<=3) (λv=>v.1.toNat) ⟨k0.toNat,by show k0=_;omega,ht,by show 0+k0.toNat<=3;omega⟩ (λv E=>?_)
  obtain⟨u,a1,a2,a3,y1,y2,y3,y4,y5,y6,y7,ob⟩:=v;obtain⟨j,(rfl:u=(j:Int)),(ha:OkS (a1,a2,a3)),(hlo:ob.length+j<=3)⟩:=E;refine Ad (P:=λb:Bool=>b=true->0<j) (An (λh=>Aa λ_=>by have:=B3 h;omega) λ_=>Aa λh=>by cases h) λv3 h3=>An (λhb=>?_) λ_=>Aa (Ab rfl ?_)
  .have hj:=h3 hb
   refine Ad (p38 ha) λv4 Z=>Ab (by show ob.length+1<=_;omega) (Aa ⟨⟨j-1,?_,Z.2,?_⟩,?_⟩)
   .show wrap .i64 ((j:Int)-1)=_
    rw[Ah (by omega) (by omega)];omega
   .show(ob++[_]).length+(j-1)<=3
    rw[length_append];show ob.length+1+(j-1)<=3;omega
   .show(wrap .i64 ((j:Int)-1)).toNat<(j:Int).toNat
    rw[Ah (by omega) (by omega)];omega
  refine Ad (p150 hc hn hm (ob:=ob) (by omega)) λf hf=>Ab (by show(0:Int)<=c.1/\c.1<=c.1/\24*c.1<=_/\c.1<=_;omega) (Ad (p38 ha) λv4 Z=>?_)
  obtain⟨f1,f2,f3,f4,f5,S,A⟩:=f;have hlS:S.length=n:=hf.ls;have hsz:∀x,x<n->∃s:Nat,S.getD x 0=(s:Int)/\s<=8000:=hf.sz;obtain⟨k1,u1,u2,u3⟩:=v4;obtain⟨⟨m2,m3,_⟩,hu⟩:=Z;have m2:0<=k1:=m2;have m3:k1<4:=m3 (by decide)
  have hu:OkS (u1,u2,u3):=hu
  refine Da (I:=λv=>∃j:Nat,v.1=(j:Int)/\j<=3/\OkS (v.2.1,v.2.2.1,v.2.2.2.1)/\(v.2.2.2.2.2.2.2.2.2.2.2.1,v.2.2.2.2.2.2.2.2.2.2.2.2.1,v.2.2.2.2.2.2.2.2.2.2.2.2.2.1,v.2.2.2.2.2.2.2.2.2.2.2.2.2.2.1,v.2.2.2.2.2.2.2.2.2.2.2.2.2.2.2.1,v.2.2.2.2.2.2.2.2.2.2.2.2.2.2.2.2.1,v.2.2.2.2.2.2.2.2.2.2.2.2.2.2.2.2.2.1)=(f1,f2,f3,f4,f5,S,A)/\v.2.2.2.2.2.2.2.2.2.2.2.2.2.2.2.2.2.2.length=n/\∀x,x<n->((v.2.2.2.2.2.2.2.2.2.2.2.2.2.2.2.2.2.2.getD x []).length+j<=3)/\∀s:Nat,S.getD x 0=(s:Int)->Dv s (v.2.2.2.2.2.2.2.2.2.2.2.2.2.2.2.2.2.2.getD x [])) (λv=>v.1.toNat)
   ⟨k1.toNat,by show k1=_;omega,by omega,hu,rfl,by show(replicate c.1.toNat ([]:LL)).length=n;rw[List.length_replicate,hob];exact tNC n,λx W=>?_⟩ (λv E=>?_)
  .have e:(replicate c.1.toNat ([]:LL)).getD x []=[]:=by rw[hob,tNC];simp[W]
   show((replicate c.1.toNat ([]:LL)).getD x []).length+_<=3/\∀s:Nat,_->Dv s ((replicate c.1.toNat ([]:LL)).getD x []);rw[e];exact⟨by show 0+k1.toNat<=3;omega,λs _=>⟨zero_le _,λk h=>absurd h (not_lt_zero k)⟩⟩
  obtain⟨u,b1,b2,b3,x1,x2,x3,x4,x5,x6,x7,g1,g2,g3,g4,g5,S2,A2,ps⟩:=v;obtain⟨J,(rfl:u=(J:Int)),hj3,(hb:OkS (b1,b2,b3)),(hg:(g1,g2,g3,g4,g5,S2,A2)=(f1,f2,f3,f4,f5,S,A)),(O:ps.length=n),(B:∀x,x<n->((ps.getD x []).length+J<=3)/\∀s:Nat,S.getD x 0=(s:Int)->Dv s (ps.getD x []))⟩:=E;cases hg;refine Ad (P:=λb:Bool=>b=true->0<J/\0<c.1) (An (λh=>Aa λh'=>⟨by have:=B3 h;omega,B3 h'⟩) λ_=>Aa λh=>by cases h) λv6 h6=>An (λhbt=>?_) λ_=>Aa (Ab rfl ?_)
  .obtain⟨hj,hc0⟩:=h6 hbt
   have back:∀{ps':LLL}{q1 q2 q3:_},OkS (q1,q2,q3)->ps'.length=n->(∀x,x<n->((ps'.getD x []).length+(J-1)<=3)/\∀s:Nat,S.getD x 0=(s:Int)->Dv s (ps'.getD x []))->(∃j:Nat,(wrap .i64 ((J:Int)-1))=(j:Int)/\j<=3/\OkS (q1,q2,q3)/\(f1,f2,f3,f4,f5,S,A)=(f1,f2,f3,f4,f5,S,A)/\ps'.length=n/\∀x,x<n->((ps'.getD x []).length+j<=3)/\∀s:Nat,S.getD x 0=(s:Int)->Dv s (ps'.getD x []))/\(wrap .i64 ((J:Int)-1)).toNat<(J:Int).toNat:=λh1 h2 h3=>by
    have e:wrap .i64 ((J:Int)-1)=((J-1:Nat):Int):=by rw[Ah (by omega) (by omega)];omega
    exact⟨⟨J-1,e,by omega,h1,rfl,h2,h3⟩,by rw[e];omega⟩
   refine Ad (p38 (z:=c.1) hb) λv7 Y=>?_
   obtain⟨x,W,hxn⟩:=CA (n:=n) Y hob (by omega)
   obtain⟨w,w1,w2,w3⟩:=v7;have W:w=(x:Int):=W;subst W;obtain⟨sx,hsx,hs8⟩:=hsz x hxn;have iS:(0:Int)<=(x:Int)/\(x:Int)<(S.length:Int):=by rw[hlS];omega
   have iP:(0:Int)<=(x:Int)/\(x:Int)<(ps.length:Int):=by rw[O];omega
   refine Ab iS (An (λh1=>?_) λ_=>Aa (back (ps':=ps) Y.2 O λy hy=>⟨by have:=(B y hy).1;omega,(B y hy).2⟩))
   have h1:(1:Int)<S.getD x 0:=B3 h1;refine Ab iP (Ab iS (Ad (p38 (z:=S.getD x 0) Y.2) λv8 hv8=>Ab iS (Ad (p38 (z:=S.getD x 0) hv8.2) λv9 hv9=>?_)))
   obtain⟨p,hp,hpn⟩:=CA (n:=sx) hv8 hsx (by omega)
   obtain⟨q,hq,hqn⟩:=CA (n:=sx) hv9 hsx (by omega)
   have hpx:=B x hxn;refine Ab ⟨⟨iP,⟨le_refl _,le_refl _⟩,trivial⟩,by show(ps.getD x []).length+1<=_;omega⟩ (Aa (back hv9.2 ?_ λy hy=>?_))
   .show(ps.set x _).length=n
    rw[length_set];exact O
   .show((ps.set x (ps.getD x []++[[v8.1,v9.1]])).getD y []).length+_<=3/\∀s:Nat,_->Dv s ((ps.set x (ps.getD x []++[[v8.1,v9.1]])).getD y [])
    by_cases e:y=x
    .subst e
     rw[KE (by omega)]
     refine⟨by rw[length_append];show(ps.getD y []).length+1+_<=3;omega,λs' hs'=>?_⟩
     obtain rfl:s'=sx:=by have:=hs'.symm.trans hsx;omega
     obtain⟨g1,g2⟩:=hpx.2 s' hs';refine⟨by rw[length_append];show(ps.getD y []).length+1<=_;omega,λk U=>?_⟩
     rw[length_append]at U;have U:k<(ps.getD y []).length+1:=U;by_cases e':k<(ps.getD y []).length
     .rw[AE e'];exact g2 k e'
     .obtain rfl:k=(ps.getD y []).length:=by omega
      rw[BO];exact⟨le_refl _,p,q,hp,hq,hpn,hqn⟩
    .rw[Jk e]
     exact⟨by have:=(B y hy).1;omega,(B y hy).2⟩
  refine Ad (p151 hc hn hm hf O λx W=>(B x W).2) λg hg=>?_
  refine Au (n:=g.2.2.2.2.2.1.length) (λk v=>v.2=(k:Int)) rfl (λk U v E=>?_) λv E=>?_
  .obtain⟨u,v2⟩:=v
   obtain rfl:v2=(k:Int):=E;exact A5 (ltD U) (Ad (P:=λ_=>True) (An (λ_=>Ab (Ac U) (Aa trivial)) λ_=>Aa trivial) λv8 _=>Aa (wrD U (by have:=hg.2.1;omega)))
  .obtain⟨u,v2⟩:=v
   obtain rfl:v2=(g.2.2.2.2.2.1.length:Int):=E;exact A8 ltf (Aa (Ab rfl (An (λ_=>H6 (Aa ⟨hg,hb⟩)) λ_=>Aa ⟨wrD hi (by omega),hb⟩)))
 .obtain⟨u,s1,s2,s3,z1,z2,z3,z4,z5,z6,z7⟩:=v
  obtain⟨(h0:u=((6:Nat):Int)),(hs1:OkS (s1,s2,s3))⟩:=E;subst h0;refine A8 (show decide (((6:Nat):Int)<6)=false by decide) (Aa (Ab rfl (Ad (p38 hs1) λu hv1=>?_)))
  have e:wrap .i64 (WO z 2+1)=WO z 2+1:=by
   unfold WO;split<;>rw[Ah (by omega) (by omega)]
  obtain⟨⟨q0,q1,_⟩,hs2⟩:=hv1;rw[e]at q1;have hpos:0<WO z 2+1/\WO z 2+1<=3:=by unfold WO;split<;>omega
  have:=q1 hpos.1;obtain⟨k,U⟩:∃k:Nat,u.1=(k:Int):=⟨u.1.toNat,by omega⟩
  refine Ad (P:=GS c n m) ?_ λg hg=>Aa ⟨hg,hs2⟩
  show Tot _ (G73 (c,u.1));rw[U];exact p73 hc hn hm (by omega)
def p152(W:Sp c n m)(J:n<=1000)(O:m<=1000)(U:GS c n m g):G152 g=some g:=by
 obtain⟨f1,f2,f3,Z,f5,S,A⟩:=g;obtain⟨u,E,B,Y⟩:=U;have u:(f1,f2,f3,Z,f5)=c:=u;subst u;have E:S.length=n:=E;have B:A.length=m:=B
 delta G152 k4 q4
 exact Ao (Acq W J O) (Ao (X2 (x:=S) (by omega)) (Ao (p50 (x:=A) (by omega) λi hi=>Nat.le_trans (Y i (by omega)) (by decide)) rfl))
theorem GS.ok(J:Sp c n m)(A:n<=1000)(B:m<=1000)(E:GS c n m g):okSD g:=by
 obtain⟨U,Z,Y,O⟩:=E;refine⟨by rw[U];exact J.okD A B,by omega,by omega,λy u=>?_⟩
 obtain⟨k,W,e⟩:=Lo [] u;rw[<-e];exact O k (by omega)
def rowsS{t:LL}{r:LI}(h:∀y∈t,y.length<=8000)(A:r.length<=8000):∀y∈t.set k r,y.length<=8000:=λy u=>by
 rcases List.mem_or_eq_of_mem_set u with h'|h'
 .exact h y h'
 .rw[h'];exact A
theorem p124(hc:Sp c n m)(hn:n<=1000)(hm:m<=1000)(hg:GS c n m g)(hs:OkS s):Tot (λr=>okSD r.1/\OkS r.2) (G124 g s):=by
 have hok:=hg.ok hc hn hm;have ho:=p152 hc hn hm hg;obtain⟨f1,f2,f3,Z,f5,S,A⟩:=g;obtain⟨h1,h2,Y,h4⟩:=hg;have h1:(f1,f2,f3,Z,f5)=c:=h1;subst h1;have h2:S.length=n:=h2;have Y:A.length=m:=Y;obtain⟨k1,k2,k3,k4⟩:=hok;have k1:okD (f1,f2,f3,Z,f5):=k1;have k4:∀y∈A,y.length<=8000:=k4
 delta G124 mB ln an k4 k5 k6 lt gd li q4 wz cp
 refine Bh ho (Ad (p38 hs) λv1 E=>?_)
 have row:Tot (λr:Sf×Bx=>okSD r.1/\OkS r.2) ((G38 (A.length:Int) v1.2).bind λu=>Option.bind (bif decide (0<(A.length:Int))then if 0<=u.1/\u.1<(A.length:Int)then some (decide (0<((A.getD u.1.toNat []).length:Int)))else none else some false) (fun(v3:Bool)=>bif v3 then if 0<=u.1/\u.1<(A.length:Int)then if 0<=u.1/\u.1<(A.length:Int)then(G38 ((A.getD u.1.toNat []).length:Int) u.2).bind λO=>(G38 4 O.2).bind λv5=>(G38 8 v5.2).bind λv6=>if(7:Int)≠0 then if 0<=O.1/\O.1<((A.getD u.1.toNat []).length:Int)then some ((f1,f2,f3,Z,f5,S,A.set u.1.toNat ((A.getD u.1.toNat []).set O.1.toNat (wrap .i64 (v5.1-(wrap .i64 (Int.tdiv v6.1 7)))))),v6.2)else none else none else none else none else some ((f1,f2,f3,Z,f5,S,A),u.2))):=by
  refine Ad (p38 E.2) λu B=>?_
  obtain⟨⟨q0,q1,_⟩,hs2⟩:=B;refine Ad (P:=λb:Bool=>b=true->(0<=u.1/\u.1<(A.length:Int))/\0<((A.getD u.1.toNat []).length:Int)) (An (λe=>?_) λ_=>Aa λh=>by cases h) λv3 Y=>An (λe=>?_) λ_=>Aa ⟨⟨k1,k2,k3,k4⟩,hs2⟩
  .have U:0<=u.1/\u.1<(A.length:Int):=⟨q0,q1 (B3 e)⟩
   exact Ab U (Aa λh=>⟨U,B3 h⟩)
  .obtain⟨U,W⟩:=Y e
   refine Ab U (Ab U (Ad (p38 hs2) λO J=>Ad (p38 J.2) λv5 hv5=>Ad (p38 hv5.2) λv6 hv6=>Ab (by decide) (Ab ⟨J.1.1,J.1.2.1 W⟩ (Aa ⟨⟨k1,k2,?_,rowsS k4 ?_⟩,hv6.2⟩))))
   .show(A.set _ _).length<=2001
    rw[length_set];omega
   .rw[length_set]
    exact k4 _ (CB (by omega))
 refine An (λ_=>?_) λ_=>An (λ_=>An (λe=>?_) λ_=>Aa ⟨⟨k1,k2,k3,k4⟩,E.2⟩) λ_=>An (λe=>A5 e row) λ_=>An (λe=>row) λ_=>An (λ_=>Ab trivial (Ab (by show A.length+1<=_;omega) (Aa ⟨⟨k1,k2,?_,λy hy=>?_⟩,E.2⟩))) λ_=>Aa ⟨⟨k1,k2,k3,k4⟩,E.2⟩
 .exact Ad (p153 hc hn hm E.2) λu B=>Aa ⟨⟨B.1,k2,k3,k4⟩,B.2⟩
 .have e:(0:Int)<(S.length:Int):=B3 e
  refine Ad (p38 E.2) λu B=>Ad (p127 B.2 (by show 0<5;omega)) λv3 hv3=>Ab ⟨B.1.1,B.1.2.1 e⟩ (Aa ⟨⟨k1,?_,k3,k4⟩,hv3⟩)
  show(S.set _ _).length<=2001;rw[length_set];omega
 .show(A++[_]).length<=2001
  rw[length_append];show A.length+1<=2001;omega
 .rcases List.mem_append.1 hy with h|h
  .exact k4 y h
  .rw[List.mem_singleton.1 h];exact zero_le _
def p72(E:OkS s):Tot (λr=>okD r.1/\OkS r.2) (G72 () s):=by
 unfold G72;exact Ad (p38 E) λv0 A=>An (λ_=>Ad (p125 (by decide) (by decide) A.2) λB u=>Aa u) λ_=>Ad (p125 (by decide) (by decide) A.2) λB u=>Aa u
end
end Go.Ve.D

