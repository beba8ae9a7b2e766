/- Draws: set functors whose elements are glued. -/
import Derived.Test.YtmmmafnkggaknaaGreatDrk
set_option linter.all false
namespace Go.Ve.D
open Go Go.Ve
noncomputable section
variable{r:LI}{n y:Nat}{s:Nat->Nat}
def sm:Nat->(Nat->Nat)->Nat
 |0,_=>0
 |k+1,g=>sm k g+g k
def sm_le{e g:Nat->Nat}:∀{n:Nat},(∀x,x<n->e x<=g x)->sm n e<=sm n g
 |0,_=>Nat.le_refl _
 |k+1,h=>Nat.add_le_add (sm_le λx u=>h x (Nat.lt_succ_of_lt u)) (h k (Nat.lt_succ_self k))
def sm_lt{u g:Nat->Nat}:∀{n y:Nat},(∀x,x<n->u x<=g x)->y<n->u y<g y->sm n u<sm n g
 |0,_,_,hy,_=>absurd hy (Nat.not_lt_zero _)
 |k+1,y,h,hy,hl=>by
  have A:∀x,x<k->u x<=g x:=λx B=>h x (Nat.lt_succ_of_lt B)
  have E:=h k (Nat.lt_succ_self k);show sm k u+u k<sm k g+g k;by_cases e:y=k
  .subst e
   have:=sm_le A;omega
  .have:=sm_lt A (by omega:y<k) hl
   omega
def NE(n:Nat)(s:Nat->Nat)(cl:LL):Prop:=cl.length=n/\∀x,x<n->(cl.getD x []).length=s x/\∀i,i<s x->∃q:Nat,(cl.getD x []).getD i 0=(q:Int)/\q<s x
def muC(n:Nat)(s:Nat->Nat)(cl:LL):Nat:=sm n λx=>clN (s x) (cl.getD x [])
def NE.put{cl:LL}(h:NE n s cl)(E:y<n)(A:r.length=s y)(B:∀i,i<s y->∃q:Nat,r.getD i 0=(q:Int)/\q<s y):NE n s (cl.set y r):=by
 refine⟨by rw[List.length_set];exact h.1,λx u=>?_⟩
 by_cases e:x=y
 .subst e
  rw[Hk (by rw[h.1];exact u)]
  exact⟨A,B⟩
 .rw[Dq e];exact h.2 x u
def mu_put{cl:LL}(h:cl.length=n)(u:y<n)(A:clN (s y) r<clN (s y) (cl.getD y [])):muC n s (cl.set y r)<muC n s cl:=by
 refine sm_lt (y:=y) (λx B=>?_) u (by rw[Hk (by rw[h];exact u)];exact A)
 by_cases e:x=y
 .subst e;rw[Hk (by rw[h];exact B)];exact Nat.le_of_lt A
 .rw[Dq e];exact Nat.le_refl _
def glue1{cl:LL}{S U W:Int}{pl:LI}(h:NE n s cl)(hy:y<n)(hpl:pl=cl.getD y [])(hS:S=(s y:Int))(hs:s y<=8000){u v:Nat}(hu:u<s y)(hv:v<s y)(hU:U=(u:Int))(hW:W=(v:Int))(hne:(cl.getD y []).getD u 0≠(cl.getD y []).getD v 0){R:Type}{k:LI->Option R}{Q:R->Prop}
  (hk:∀r,NE n s (cl.set y r)->muC n s (cl.set y r)<muC n s cl->Tot Q (k r)):Tot Q ((G140 pl).bind λv6=>if(v6.length+((U::(W::[]))::([]:LL)).length)<=5864062014805 then(G139 (S,v6++((U::(W::[]))::[]))).bind k else none):=by
 subst hpl hU hW;obtain⟨hl,hq⟩:=h.2 y hy;refine Ad (p140 (x:=cl.getD y []) (by omega)) λL hL=>Ab (by show L.length+1<=_;omega) ?_
 obtain⟨hL1,hL2⟩:=hL;rw[hS];have E:∀k,k<L.length->(L++[[(u:Int),(v:Int)]]).getD k []=L.getD k []:=λk hk=>AD hk
 have B:(L++[[(u:Int),(v:Int)]]).getD L.length []=[(u:Int),(v:Int)]:=Br;have A:(L++[[(u:Int),(v:Int)]]).length=L.length+1:=by rw[List.length_append];rfl
 have hp:Dj (s y) (L++[[(u:Int),(v:Int)]]):=by
  refine⟨by rw[A];omega,λk hk=>?_⟩
  rw[A]at hk;by_cases e:k<L.length
  .obtain⟨q,h1,h2,_,_⟩:=hL2 k (by omega)
   rw[E k e,h1];exact⟨Nat.le_refl _,q,k,rfl,rfl,by omega,by omega⟩
  .obtain rfl:k=L.length:=by omega
   rw[B];exact⟨Nat.le_refl _,u,v,rfl,rfl,hu,hv⟩
 refine Ad (p139 (n:=s y) (ps:=L++[[(u:Int),(v:Int)]]) (by omega) hp) λr hr=>?_
 obtain⟨r1,r2,r3⟩:=hr
 have Z:∀i,i<s y->∃q:Nat,(L.getD i []=[(q:Int),(i:Int)]/\(cl.getD y []).getD q 0=(cl.getD y []).getD i 0/\∀k,k<q->(cl.getD y []).getD k 0≠(cl.getD y []).getD i 0)/\r.getD q 0=r.getD i 0:=by
  intro i hi;obtain⟨q,h1,_,h3,h4⟩:=hL2 i (by omega)
  refine⟨q,⟨h1,h3,h4⟩,?_⟩;have:=r3 i (by rw[A];omega)
  rw[E i (by omega),h1]at this
  exact this
 have J:∀i j,i<s y->j<s y->(cl.getD y []).getD i 0=(cl.getD y []).getD j 0->r.getD i 0=r.getD j 0:=by
  intro i j hi hj he;obtain⟨q,⟨_,a2,a3⟩,a4⟩:=Z i hi;obtain⟨q',⟨_,b2,b3⟩,b4⟩:=Z j hj;have:q=q':=by
   rcases Nat.lt_trichotomy q q' with e|e|e
   .exact absurd (a2.trans he) (b3 q e)
   .exact e
   .exact absurd (b2.trans he.symm) (a3 q' e)
  rw[<-a4,<-b4,this]
 have huv:r.getD u 0=r.getD v 0:=by
  have:=r3 L.length (by rw[A];omega)
  rw[B]at this;exact this
 exact hk r (h.put hy r1 r2) (mu_put h.1 hy (clN_lt J hu hv hne huv))
def andT{b:Bool}{p:Prop}{o:Option Bool}(e:b=true->Tot (λr:Bool=>r=true->p) o):Tot (λr:Bool=>r=true->p) (bif b then o else some false):=Ak e λ_=>Aa λh=>by cases h
theorem p114{c:Ca}{m:Nat}{f:Sf}{ps:LLL}(hc:Sp c n m)(hn:n<=1000)(hm:m<=1000)(hf:Fre c n m f)(hpl:ps.length=n)(hps:∀x,x<n->∀s:Nat,f.2.2.2.2.2.1.getD x 0=(s:Int)->Dj s (ps.getD x [])):
  Tot (λg:Sf=>(g.1,g.2.1,g.2.2.1,g.2.2.2.1,g.2.2.2.2.1)=c/\g.2.2.2.2.2.1.length=n/\g.2.2.2.2.2.2.length=m/\∀a,a<m->(g.2.2.2.2.2.2.getD a []).length<=8000) (G114 (f,ps)):=by
 obtain⟨f1,B,f3,f4,f5,S,A⟩:=f;obtain⟨hsh,hlS,hlA,hsz,hac⟩:=hf;have hsh:(f1,B,f3,f4,f5)=c:=hsh;subst hsh;have hlS:S.length=n:=hlS;have hlA:A.length=m:=hlA;obtain⟨s,hs⟩:∃s:Nat->Nat,s=λx=>(S.getD x 0).toNat:=⟨_,rfl⟩
 have hS:∀x,x<n->S.getD x 0=(s x:Int)/\s x<=8000:=λx hx=>by
  obtain⟨t,h1,h2⟩:=hsz x hx;have h1:S.getD x 0=(t:Int):=h1;rw[hs];show S.getD x 0=(((S.getD x 0).toNat:Nat):Int)/\(S.getD x 0).toNat<=8000;rw[h1];exact⟨rfl,h2⟩
 have hlf:B.length=m:=hc.lf;have hlt:f3.length=m:=hc.lt
 have hend:∀a,a<m->∃x y:Nat,x<n/\y<n/\B.getD a 0=(x:Int)/\f3.getD a 0=(y:Int)/\(A.getD a []).length=s x/\∀e,e<s x->∃d:Nat,(A.getD a []).getD e 0=(d:Int)/\d<s y:=λa ha=>by
  obtain⟨x,hx,Z⟩:=hc.fr a ha;obtain⟨y,hy,hty⟩:=hc.to a ha;obtain⟨h1,h2⟩:=hac a x y (s x) (s y) ha Z hty (hS x hx).1 (hS y hy).1;exact⟨x,y,hx,hy,Z,hty,h1,h2⟩
 have J:∀{a:Int}{x:Nat},a=(x:Int)->a.toNat=x:=λh=>by omega
 unfold G114;refine As (n:=n) (λi v=>v.1=(i:Int)/\v.2.length=i/\∀x,x<i->(v.2.getD x []).length=s x/\∀j,j<s x->∃q:Nat,(v.2.getD x []).getD j 0=(q:Int)/\q<s x) ⟨rfl,rfl,λx h=>absurd h (Nat.not_lt_zero x)⟩ (λi hi v U=>?_) λv U=>?_
 .obtain⟨W,cl⟩:=v
  obtain⟨(rfl:W=(i:Int)),(h1:cl.length=i),(h2:∀x,x<i->(cl.getD x []).length=s x/\∀j,j<s x->∃q:Nat,(cl.getD x []).getD j 0=(q:Int)/\q<s x)⟩:=U;have iS:(0:Int)<=(i:Int)/\(i:Int)<(S.length:Int):=by rw[hlS];omega
  have iP:(0:Int)<=(i:Int)/\(i:Int)<(ps.length:Int):=by rw[hpl];omega
  refine AU (by show decide ((i:Int)<(S.length:Int))=true;rw[hlS];exact ltD hi) (Ab iS (Ab iP (Ad (P:=YR (s i) (ps.getD i [])) ?_ λr hr=>Ab (by show cl.length+1<=_;omega) (Aa ⟨wrD hi (by omega),by show(cl++[_]).length=i+1;rw[List.length_append,h1];rfl,λx hx=>?_⟩))))
  .show Tot _ (G139 (S.getD i 0,ps.getD i []))
   rw[(hS i hi).1];exact p139 (by have:=(hS i hi).2;omega) (hps i hi (s i) (hS i hi).1)
  .show((cl++[r]).getD x []).length=s x/\∀j,j<s x->∃q:Nat,((cl++[r]).getD x []).getD j 0=_/\_
   by_cases e:x=i
   .subst e
    have:(cl++[r]).getD x []=r:=by rw[<-h1];exact Br
    rw[this];exact⟨hr.1,hr.2.1⟩
   .rw[AD (by omega)];exact h2 x (by omega)
 obtain⟨W,cl0⟩:=v;obtain⟨(h0:W=(n:Int)),hcl0⟩:=U;subst h0;have hcl0:NE n s cl0:=hcl0;refine AW (by show decide ((n:Int)<(S.length:Int))=false;rw[hlS];exact ltf) (Aa (Ab rfl ?_))
 refine CA (I:=λv=>NE n s v.2.2.2.2.2.2.2.2) (λv=>bif v.1 then muC n s v.2.2.2.2.2.2.2.2+1 else 0) hcl0 (λv U=>?_)
 obtain⟨more,z1,z2,z3,z4,z5,z6,z7,cl⟩:=v;have hcl:NE n s cl:=U;refine Ak (λhmore=>?_) λhmore=>Aa (Ab rfl ?_)
 .have hmore:more=true:=hmore
  subst hmore;refine As (n:=m) (λa v=>v.2.1=(a:Int)/\NE n s v.2.2.2.2.2.2.2.2.2/\muC n s v.2.2.2.2.2.2.2.2.2<=muC n s cl/\(v.1=true->muC n s v.2.2.2.2.2.2.2.2.2<muC n s cl)) ⟨rfl,hcl,Nat.le_refl _,λh=>by cases h⟩ (λa ha v U=>?_) λv U=>?_
  .obtain⟨mo,W,z1,z2,z3,z4,z5,z6,z7,cl2⟩:=v
   obtain⟨(rfl:W=(a:Int)),hJ2⟩:=U;obtain⟨x,y,hx,hy,Z,hty,hal,hae⟩:=hend a ha;have iF:(0:Int)<=(a:Int)/\(a:Int)<(B.length:Int):=by rw[hlf];omega
   have iT:(0:Int)<=(a:Int)/\(a:Int)<(f3.length:Int):=by rw[hlt];omega
   have iA:(0:Int)<=(a:Int)/\(a:Int)<(A.length:Int):=by rw[hlA];omega
   refine AU (by show decide ((a:Int)<(A.length:Int))=true;rw[hlA];exact ltD ha) (Ab iF (Ab iT ?_))
   refine As (n:=s x) (λd v=>v.2.1=(d:Int)/\NE n s v.2.2.2.2.2.2.2.2.2/\muC n s v.2.2.2.2.2.2.2.2.2<=muC n s cl/\(v.1=true->muC n s v.2.2.2.2.2.2.2.2.2<muC n s cl)) ⟨rfl,hJ2⟩ (λd hd v U=>?_) λv U=>?_
   .obtain⟨mo,W,z1,z2,z3,z4,z5,z6,z7,cl3⟩:=v
    obtain⟨(rfl:W=(d:Int)),hJ3⟩:=U;have hJ3:NE n s cl3/\_:=hJ3;have iX:(0:Int)<=B.getD a 0/\B.getD a 0<(cl3.length:Int):=by rw[Z,hJ3.1.1];omega
    have eX:cl3.getD (B.getD a 0).toNat []=cl3.getD x []:=by rw[J Z]
    refine Ab iX (AU (by show decide ((d:Int)<((cl3.getD (B.getD a 0).toNat []).length:Int))=true;rw[eX,(hJ3.1.2 x hx).1];exact ltD hd) ?_)
    refine As (n:=d) (λe v=>v.2.1=(e:Int)/\NE n s v.2.2.2.2.2.2.2.2.2/\muC n s v.2.2.2.2.2.2.2.2.2<=muC n s cl/\(v.1=true->muC n s v.2.2.2.2.2.2.2.2.2<muC n s cl)) ⟨rfl,hJ3⟩ (λe he v U=>?_) λv U=>?_
    .obtain⟨mo,W,z1,z2,z3,z4,z5,z6,z7,E⟩:=v
     obtain⟨(rfl:W=(e:Int)),(hJ4:NE n s E/\muC n s E<=muC n s cl/\(mo=true->muC n s E<muC n s cl))⟩:=U;have hX:=hJ4.1.2 x hx;have hY:=hJ4.1.2 y hy;have iX:(0:Int)<=B.getD a 0/\B.getD a 0<(E.length:Int):=by rw[Z,hJ4.1.1];omega
     have iY:(0:Int)<=f3.getD a 0/\f3.getD a 0<(E.length:Int):=by rw[hty,hJ4.1.1];omega
     have iSY:(0:Int)<=f3.getD a 0/\f3.getD a 0<(S.length:Int):=by rw[hty,hlS];omega
     have eX:E.getD (B.getD a 0).toNat []=E.getD x []:=by rw[J Z]
     have eY:E.getD (f3.getD a 0).toNat []=E.getD y []:=by rw[J hty]
     have iXd:(0:Int)<=(d:Int)/\(d:Int)<((E.getD (B.getD a 0).toNat []).length:Int):=by rw[eX,hX.1];omega
     have iXe:(0:Int)<=(e:Int)/\(e:Int)<((E.getD (B.getD a 0).toNat []).length:Int):=by rw[eX,hX.1];omega
     have iAd:(0:Int)<=(d:Int)/\(d:Int)<((A.getD a []).length:Int):=by rw[hal];omega
     have iAe:(0:Int)<=(e:Int)/\(e:Int)<((A.getD a []).length:Int):=by rw[hal];omega
     obtain⟨u,hu,hus⟩:=hae d hd;obtain⟨w,hw,hws⟩:=hae e (by omega)
     have iYu:(0:Int)<=(A.getD a []).getD d 0/\(A.getD a []).getD d 0<((E.getD (f3.getD a 0).toNat []).length:Int):=by rw[eY,hY.1,hu];omega
     have iYw:(0:Int)<=(A.getD a []).getD e 0/\(A.getD a []).getD e 0<((E.getD (f3.getD a 0).toNat []).length:Int):=by rw[eY,hY.1,hw];omega
     refine AU (ltD he) (Ab iA (Ab iAd (Ab iA (Ab iAe (Ab iX (Ab iXd (Ab iX (Ab iXe ?_))))))));refine Ad (P:=λb:Bool=>b=true->(E.getD y []).getD u 0≠(E.getD y []).getD w 0) (andT λ_=>Ab iY (Ab iYu (Ab iY (Ab iYw (Aa λh he=>?_))))) λb hb=>Ak (λhbt=>?_) λ_=>Aa ⟨wrD he (by have:=(hS x hx).2;omega),hJ4⟩
     .have h:(!decide ((E.getD (f3.getD a 0).toNat []).getD ((A.getD a []).getD d 0).toNat 0=(E.getD (f3.getD a 0).toNat []).getD ((A.getD a []).getD e 0).toNat 0))=true:=h
      rw[eY,J hu,J hw,dT he]at h;cases h
     .refine Ab iSY (Ab iY (glue1 hJ4.1 hy eY (by show S.getD (f3.getD a 0).toNat 0=_;rw[J hty];exact(hS y hy).1) (hS y hy).2 hus hws hu hw (hb hbt) λr hr hmu=>Ab iY (Aa ⟨wrD he (by have:=(hS x hx).2;omega),?_⟩)))
      show NE n s (E.set (f3.getD a 0).toNat r)/\muC n s (E.set (f3.getD a 0).toNat r)<=_/\(true=true->muC n s (E.set (f3.getD a 0).toNat r)<_);rw[J hty];have:=hJ4.2.1;exact⟨hr,by omega,λ_=>by omega⟩
    .obtain⟨mo,W,z1,z2,z3,z4,z5,z6,z7,E⟩:=v
     obtain⟨(h0:W=(d:Int)),hJ4⟩:=U;subst h0;exact AW ltf (Aa (Ab rfl (Aa ⟨wrD hd (by have:=(hS x hx).2;omega),hJ4⟩)))
   .obtain⟨mo,W,z1,z2,z3,z4,z5,z6,z7,cl3⟩:=v
    obtain⟨(h0:W=(s x:Int)),hJ3⟩:=U;subst h0;have hJ3':NE n s cl3/\_:=hJ3;have iX:(0:Int)<=B.getD a 0/\B.getD a 0<(cl3.length:Int):=by rw[Z,hJ3'.1.1];omega
    have eX:cl3.getD (B.getD a 0).toNat []=cl3.getD x []:=by rw[J Z]
    exact Ab iX (AW (by show decide ((s x:Int)<((cl3.getD (B.getD a 0).toNat []).length:Int))=false;rw[eX,(hJ3'.1.2 x hx).1];exact ltf) (Aa (Ab rfl (Aa ⟨wrD ha (by omega),hJ3⟩))))
  .obtain⟨mo,W,z1,z2,z3,z4,z5,z6,z7,cl2⟩:=v
   obtain⟨(h0:W=(m:Int)),(hJ2:NE n s cl2/\muC n s cl2<=muC n s cl/\(mo=true->muC n s cl2<muC n s cl))⟩:=U;subst h0;refine AW (by show decide ((m:Int)<(A.length:Int))=false;rw[hlA];exact ltf) (Aa (Ab rfl (Aa ⟨hJ2.1,?_⟩)))
   show(bif mo then muC n s cl2+1 else 0)<muC n s cl+1;cases mo with
   |true=>have:=hJ2.2.2 rfl;show muC n s cl2+1<_;omega
   |false=>exact Nat.succ_pos _
 have hcl:NE n s cl:=hcl;refine A7 (AaD hc hn hm) ?_;refine As (n:=n) (λi v=>v.1=(i:Int)/\v.2.2.2.2.2.2.2.2.1=cl/\(v.2.2.2.2.2.2.2.2.2.1,v.2.2.2.2.2.2.2.2.2.2.1,v.2.2.2.2.2.2.2.2.2.2.2.1,v.2.2.2.2.2.2.2.2.2.2.2.2.1,v.2.2.2.2.2.2.2.2.2.2.2.2.2.1)=(f1,B,f3,f4,f5)/\v.2.2.2.2.2.2.2.2.2.2.2.2.2.2.2=[]/\v.2.2.2.2.2.2.2.2.2.2.2.2.2.2.1.length=i/\∀j,j<i->∃t:Nat,v.2.2.2.2.2.2.2.2.2.2.2.2.2.2.1.getD j 0=(t:Int)/\t<=8000/\∀e,e<s j->(cl.getD j []).getD e 0<(t:Int)) ⟨rfl,rfl,rfl,rfl,rfl,λj h=>absurd h (Nat.not_lt_zero j)⟩ (λi hi v U=>?_) λv U=>?_
 .obtain⟨W,z1,z2,z3,z4,z5,z6,z7,cl',g1,g2,g3,g4,g5,S',A'⟩:=v
  obtain⟨(rfl:W=(i:Int)),(h1:cl'=cl),(h2:(g1,g2,g3,g4,g5)=(f1,B,f3,f4,f5)),(h3:A'=[]),(h4:S'.length=i),(h5:∀j,j<i->∃t:Nat,S'.getD j 0=(t:Int)/\t<=8000/\∀e,e<s j->(cl.getD j []).getD e 0<(t:Int))⟩:=U;subst h1 h3;have iC:(0:Int)<=(i:Int)/\(i:Int)<(cl'.length:Int):=by rw[hcl.1];omega
  have hi2:=hcl.2 i hi;have hsi:=(hS i hi).2;refine AU (by show decide ((i:Int)<(cl'.length:Int))=true;rw[hcl.1];exact ltD hi) ?_
  refine As (n:=s i) (λe v=>v.2=(e:Int)/\∃t:Nat,v.1=(t:Int)/\t<=s i/\∀k,k<e->(cl'.getD i []).getD k 0<(t:Int)) ⟨rfl,0,rfl,Nat.zero_le _,λk h=>absurd h (Nat.not_lt_zero k)⟩ (λe he v U=>?_) λv U=>?_
  .obtain⟨W,v2⟩:=v
   obtain⟨(q1:v2=(e:Int)),t,(q2:W=(t:Int)),q3,q4⟩:=U;subst q1 q2;obtain⟨q,hq,hqs⟩:=hi2.2 e he;have iE:(0:Int)<=(e:Int)/\(e:Int)<((cl'.getD i []).length:Int):=by rw[hi2.1];omega
   refine Ab iC (AU (by show decide ((e:Int)<((cl'.getD i []).length:Int))=true;rw[hi2.1];exact ltD he) (Ab iC (Ab iE (Aa ⟨wrD he (by omega),max t (q+1),?_,by omega,λk hk=>?_⟩))))
   .show maxI (t:Int) (IntKind.wrap .i64 ((cl'.getD i []).getD e 0+1))=_
    rw[hq,Ah (by omega) (by omega)]
    unfold maxI;omega
   .by_cases e':k=e
    .subst e';rw[hq];omega
    .have:=q4 k (by omega);omega
  .obtain⟨W,v2⟩:=v
   obtain⟨(q1:v2=(s i:Int)),t,(q2:W=(t:Int)),q3,q4⟩:=U;subst q1 q2;refine Ab iC (AW (by show decide ((s i:Int)<((cl'.getD i []).length:Int))=false;rw[hi2.1];exact ltf) (Aa (Ab rfl (Ab (by show S'.length+1<=_;omega) (Aa ⟨wrD hi (by omega),rfl,h2,rfl,by show(S'++[_]).length=i+1;rw[List.length_append,h4];rfl,λj hj=>?_⟩)))))
   show ∃t':Nat,(S'++[(t:Int)]).getD j 0=_/\_;by_cases e':j=i
   .subst e'
    exact⟨t,by rw[<-h4];exact Br,by omega,q4⟩
   .rw[AD (by omega)];exact h5 j (by omega)
 obtain⟨W,z1,z2,z3,z4,z5,z6,z7,cl',g1,g2,g3,g4,g5,S',A'⟩:=v;obtain⟨(h0:W=(n:Int)),(h1:cl'=cl),(h2:(g1,g2,g3,g4,g5)=(f1,B,f3,f4,f5)),(h3:A'=[]),(h4:S'.length=n),(h5:∀j,j<n->∃t:Nat,S'.getD j 0=(t:Int)/\t<=8000/\∀e,e<s j->(cl.getD j []).getD e 0<(t:Int))⟩:=U;subst h0 h1 h3;refine AW (by show decide ((n:Int)<(cl'.length:Int))=false;rw[hcl.1];exact ltf) (Aa (Ab rfl ?_))
 refine As (n:=m) (λa v=>v.1=(a:Int)/\v.2.2.2.2.2.2.2.2.1=cl'/\(v.2.2.2.2.2.2.2.2.2.1,v.2.2.2.2.2.2.2.2.2.2.1,v.2.2.2.2.2.2.2.2.2.2.2.1,v.2.2.2.2.2.2.2.2.2.2.2.2.1,v.2.2.2.2.2.2.2.2.2.2.2.2.2.1)=(f1,B,f3,f4,f5)/\v.2.2.2.2.2.2.2.2.2.2.2.2.2.2.1=S'/\v.2.2.2.2.2.2.2.2.2.2.2.2.2.2.2.length=a/\∀b,b<a->(v.2.2.2.2.2.2.2.2.2.2.2.2.2.2.2.getD b []).length<=8000) ⟨rfl,rfl,h2,rfl,rfl,λj h=>absurd h (Nat.not_lt_zero j)⟩ (λa ha v U=>?_) λv U=>?_
 .obtain⟨W,y1,y2,y3,y4,y5,y6,y7,c2,k1,k2,k3,k4,k5,S2,A2⟩:=v
  obtain⟨(rfl:W=(a:Int)),(q1:c2=cl'),(q2:(k1,k2,k3,k4,k5)=(f1,B,f3,f4,f5)),(q3:S2=S'),(q4:A2.length=a),(q5:∀b,b<a->(A2.getD b []).length<=8000)⟩:=U;subst q1 q3;obtain⟨x,y,hx,hy,Z,hty,hal,hae⟩:=hend a ha;obtain⟨t,ht,ht8,hte⟩:=h5 x hx;have hX:=hcl.2 x hx;have hY:=hcl.2 y hy;have iF:(0:Int)<=(a:Int)/\(a:Int)<(B.length:Int):=by rw[hlf];omega
  have iT:(0:Int)<=(a:Int)/\(a:Int)<(f3.length:Int):=by rw[hlt];omega
  have iA:(0:Int)<=(a:Int)/\(a:Int)<(A.length:Int):=by rw[hlA];omega
  have iSX:(0:Int)<=B.getD a 0/\B.getD a 0<(S2.length:Int):=by rw[Z,h4];omega
  have iX:(0:Int)<=B.getD a 0/\B.getD a 0<(c2.length:Int):=by rw[Z,hcl.1];omega
  have iY:(0:Int)<=f3.getD a 0/\f3.getD a 0<(c2.length:Int):=by rw[hty,hcl.1];omega
  have eX:c2.getD (B.getD a 0).toNat []=c2.getD x []:=by rw[J Z]
  have eY:c2.getD (f3.getD a 0).toNat []=c2.getD y []:=by rw[J hty]
  have eS:S2.getD (B.getD a 0).toNat 0=(t:Int):=by rw[J Z];exact ht
  refine AU (by show decide ((a:Int)<(A.length:Int))=true;rw[hlA];exact ltD ha) (Ab iF (Ab iT (Ab iSX (Ab ?_ ?_))))
  .show(0:Int)<=S2.getD (B.getD a 0).toNat 0/\S2.getD (B.getD a 0).toNat 0<=S2.getD (B.getD a 0).toNat 0/\8*S2.getD (B.getD a 0).toNat 0<=_/\S2.getD (B.getD a 0).toNat 0<=_
   rw[eS];omega
  refine As (n:=s x) (λe v=>v.1=(e:Int)/\v.2.2.2.2.2.2.2.2.1=c2/\(v.2.2.2.2.2.2.2.2.2.1,v.2.2.2.2.2.2.2.2.2.2.1,v.2.2.2.2.2.2.2.2.2.2.2.1,v.2.2.2.2.2.2.2.2.2.2.2.2.1,v.2.2.2.2.2.2.2.2.2.2.2.2.2.1)=(f1,B,f3,f4,f5)/\v.2.2.2.2.2.2.2.2.2.2.2.2.2.2.1=S2/\v.2.2.2.2.2.2.2.2.2.2.2.2.2.2.2.1=A2/\v.2.2.2.2.2.2.2.2.2.2.2.2.2.2.2.2.length=t) ⟨rfl,rfl,q2,rfl,rfl,by show(List.replicate (S2.getD (B.getD a 0).toNat 0).toNat (0:Int)).length=t;rw[List.length_replicate,eS];exact tNC t⟩ (λe he v U=>?_) λv U=>?_
  .obtain⟨W,y1,y2,y3,y4,y5,y6,y7,c3,k1,k2,k3,k4,k5,S3,A3,l⟩:=v
   obtain⟨(r1:W=(e:Int)),(r2:c3=c2),(r3:(k1,k2,k3,k4,k5)=(f1,B,f3,f4,f5)),(r4:S3=S2),(r5:A3=A2),(r6:l.length=t)⟩:=U;subst r1 r2 r4 r5;obtain⟨d,hd,hds⟩:=hae e he;obtain⟨q,hq,hqs⟩:=hX.2 e he;have hqt:=hte e he;have iE:(0:Int)<=(e:Int)/\(e:Int)<((c3.getD (B.getD a 0).toNat []).length:Int):=by rw[eX,hX.1];omega
   have iAe:(0:Int)<=(e:Int)/\(e:Int)<((A.getD a []).length:Int):=by rw[hal];omega
   have iD:(0:Int)<=(A.getD a []).getD e 0/\(A.getD a []).getD e 0<((c3.getD (f3.getD a 0).toNat []).length:Int):=by rw[eY,hY.1,hd];omega
   have iL:(0:Int)<=(c3.getD (B.getD a 0).toNat []).getD e 0/\(c3.getD (B.getD a 0).toNat []).getD e 0<(l.length:Int):=by rw[eX,r6,hq];rw[hq]at hqt;omega
   refine Ab iX (AU (by show decide ((e:Int)<((c3.getD (B.getD a 0).toNat []).length:Int))=true;rw[eX,hX.1];exact ltD he) (Ab iX (Ab iE (Ab iY (Ab iA (Ab iAe (Ab iD (Ab iL (Aa ⟨wrD he (by have:=(hS x hx).2;omega),rfl,r3,rfl,rfl,by show(l.set _ _).length=t;rw[List.length_set];exact r6⟩)))))))))
  .obtain⟨W,y1,y2,y3,y4,y5,y6,y7,c3,k1,k2,k3,k4,k5,S3,A3,l⟩:=v
   obtain⟨(r1:W=(s x:Int)),(r2:c3=c2),(r3:(k1,k2,k3,k4,k5)=(f1,B,f3,f4,f5)),(r4:S3=S2),(r5:A3=A2),(r6:l.length=t)⟩:=U;subst r1 r2 r4 r5;refine Ab iX (AW (by show decide ((s x:Int)<((c3.getD (B.getD a 0).toNat []).length:Int))=false;rw[eX,hX.1];exact ltf) (Aa (Ab rfl (Ab trivial (Ab (by show A3.length+1<=_;omega) (Aa ⟨wrD ha (by omega),rfl,r3,rfl,by show(A3++[_]).length=a+1;rw[List.length_append,q4];rfl,λb hb=>?_⟩))))))
   show((A3++[l]).getD b []).length<=8000;by_cases e':b=a
   .subst e'
    have:(A3++[l]).getD b []=l:=by rw[<-q4];exact Br
    rw[this];omega
   .rw[AD (by omega)];exact q5 b (by omega)
 .obtain⟨W,y1,y2,y3,y4,y5,y6,y7,c2,k1,k2,k3,k4,k5,S2,A2⟩:=v
  obtain⟨(r0:W=(m:Int)),(q1:c2=cl'),(q2:(k1,k2,k3,k4,k5)=(f1,B,f3,f4,f5)),(q3:S2=S'),(q4:A2.length=m),(q5:∀b,b<m->(A2.getD b []).length<=8000)⟩:=U;subst r0 q1 q3;exact AW (by show decide ((m:Int)<(A.length:Int))=false;rw[hlA];exact ltf) (Aa (Ab rfl (Aa ⟨q2,h4,q4,q5⟩)))
end
end Go.Ve.D


namespace Go.Ve.D
open Go Go.Ve
noncomputable section
variable{c:Ca}{k m n:Nat}{g:Sf}{s:Src}
def GS(c:Ca)(n m:Nat)(g:Sf):Prop:=(g.1,g.2.1,g.2.2.1,g.2.2.2.1,g.2.2.2.2.1)=c/\g.2.2.2.2.2.1.length=n/\g.2.2.2.2.2.2.length=m/\∀a,a<m->(g.2.2.2.2.2.2.getD a []).length<=8000
def ZI(g:Sf):Prop:=okD (g.1,g.2.1,g.2.2.1,g.2.2.2.1,g.2.2.2.2.1)/\g.2.2.2.2.2.1.length<=2001/\g.2.2.2.2.2.2.length<=2001/\∀y∈g.2.2.2.2.2.2,y.length<=8000
def p115(U:Sp c n m)(hn:n<=1000)(hm:m<=1000)(hk:k<=8):Tot (GS c n m) (G115 (c,(k:Int))):=by
 have E:=U.ob;unfold G115;refine A7 (AaD U hn hm) ?_;refine As (n:=n) (λi v=>v.1=(i:Int)/\(v.2.2.2.2.2.2.2.2.1,v.2.2.2.2.2.2.2.2.2.1,v.2.2.2.2.2.2.2.2.2.2.1,v.2.2.2.2.2.2.2.2.2.2.2.1,v.2.2.2.2.2.2.2.2.2.2.2.2.1)=c/\v.2.2.2.2.2.2.2.2.2.2.2.2.2.1.length=i/\v.2.2.2.2.2.2.2.2.2.2.2.2.2.2=[]) ⟨rfl,rfl,rfl,rfl⟩ (λi hi v B=>?_) λv B=>?_
 .obtain⟨u,z1,z2,z3,z4,z5,z6,z7,f1,f2,f3,f4,f5,S,A⟩:=v
  obtain⟨(rfl:u=(i:Int)),(h1:(f1,f2,f3,f4,f5)=c),(h2:S.length=i),(h3:A=[])⟩:=B;exact AU (by show decide ((i:Int)<c.1)=true;rw[E];exact ltD hi) (Ab (by show S.length+1<=_;omega) (Aa ⟨wrD hi (by omega),h1,by show(S++[_]).length=i+1;rw[List.length_append,h2];rfl,h3⟩))
 obtain⟨u,z1,z2,z3,z4,z5,z6,z7,f1,f2,f3,f4,f5,S,A⟩:=v;obtain⟨(h0:u=(n:Int)),(h1:(f1,f2,f3,f4,f5)=c),(h2:S.length=n),(h3:A=[])⟩:=B;subst h0 h3;refine AW (by show decide ((n:Int)<c.1)=false;rw[E];exact ltf) (Aa (Ab rfl ?_))
 refine As (n:=m) (λa v=>v.1=(a:Int)/\(v.2.2.2.2.2.2.2.2.1,v.2.2.2.2.2.2.2.2.2.1,v.2.2.2.2.2.2.2.2.2.2.1,v.2.2.2.2.2.2.2.2.2.2.2.1,v.2.2.2.2.2.2.2.2.2.2.2.2.1)=c/\v.2.2.2.2.2.2.2.2.2.2.2.2.2.1=S/\v.2.2.2.2.2.2.2.2.2.2.2.2.2.2.length=a/\∀b,b<a->(v.2.2.2.2.2.2.2.2.2.2.2.2.2.2.getD b []).length<=8000) ⟨rfl,h1,rfl,rfl,λb h=>absurd h (Nat.not_lt_zero b)⟩ (λa ha v B=>?_) λv B=>?_
 .obtain⟨u,y1,y2,y3,y4,y5,y6,y7,k1,k2,k3,k4,k5,S2,A2⟩:=v
  obtain⟨(rfl:u=(a:Int)),(q1:(k1,k2,k3,k4,k5)=c),(q2:S2=S),(J:A2.length=a),(Z:∀b,b<a->(A2.getD b []).length<=8000)⟩:=B;refine AU (by show decide ((a:Int)<(c.2.1.length:Int))=true;rw[U.lf];exact ltD ha) ?_
  refine As (n:=k) (λe v=>v.1=(e:Int)/\v.2.length=e) ⟨rfl,rfl⟩ (λe he v B=>?_) λv B=>?_
  .obtain⟨u,l⟩:=v
   obtain⟨(rfl:u=(e:Int)),(r1:l.length=e)⟩:=B;exact AU (ltD he) (Ab (by show l.length+1<=_;omega) (Aa ⟨wrD he (by omega),by show(l++[_]).length=e+1;rw[List.length_append,r1];rfl⟩))
  .obtain⟨u,l⟩:=v
   obtain⟨(W:u=(k:Int)),(r1:l.length=k)⟩:=B;subst W;refine AW ltf (Aa (Ab rfl (Ab trivial (Ab (by show A2.length+1<=_;omega) (Aa ⟨wrD ha (by omega),q1,q2,by show(A2++[_]).length=a+1;rw[List.length_append,J];rfl,λb hb=>?_⟩)))))
   show((A2++[l]).getD b []).length<=8000;by_cases e':b=a
   .subst e'
    have:(A2++[l]).getD b []=l:=by rw[<-J];exact Br
    rw[this];omega
   .rw[AD (by omega)];exact Z b (by omega)
 .obtain⟨u,y1,y2,y3,y4,y5,y6,y7,k1,k2,k3,k4,k5,S2,A2⟩:=v
  obtain⟨(W:u=(m:Int)),(q1:(k1,k2,k3,k4,k5)=c),(q2:S2=S),(J:A2.length=m),(Z:∀b,b<m->(A2.getD b []).length<=8000)⟩:=B;subst W q2;exact AW (by show decide ((m:Int)<(c.2.1.length:Int))=false;rw[U.lf];exact ltf) (Aa (Ab rfl (Aa ⟨q1,h2,J,Z⟩)))
theorem p69(hc:Sp c n m)(hn:n<=1000)(hm:m<=1000){z:Int}(hz:0<=z/\z<=1000)(hs:OkS s):Tot (λr=>GS c n m r.1/\OkS r.2) (G69 (c,z) s):=by
 have hob:=hc.ob;unfold G69;refine As (n:=6) (λi v=>v.1=(i:Int)/\OkS (v.2.1,v.2.2.1,v.2.2.2.1)) ⟨rfl,hs⟩ (λi hi v E=>?_) λv E=>?_
 .obtain⟨u,s1,s2,s3,z1,z2,z3,z4,z5,z6,z7⟩:=v
  obtain⟨(rfl:u=(i:Int)),(hs1:OkS (s1,s2,s3))⟩:=E;refine AU (by show decide ((i:Int)<6)=true;exact dT (by omega)) (Ad (p63 hs1) λu hv1=>?_)
  obtain⟨k0,t1,t2,t3⟩:=u;obtain⟨⟨m0,m1,_⟩,ht⟩:=hv1;have m0:0<=k0:=m0;have m1:k0<4:=m1 (by decide)
  have ht:OkS (t1,t2,t3):=ht;refine CA (I:=λv=>∃j:Nat,v.1=(j:Int)/\OkS (v.2.1,v.2.2.1,v.2.2.2.1)/\v.2.2.2.2.2.2.2.2.2.2.2.length+j<=3) (λv=>v.1.toNat) ⟨k0.toNat,by show k0=_;omega,ht,by show 0+k0.toNat<=3;omega⟩ (λv E=>?_)
  obtain⟨u,a1,a2,a3,y1,y2,y3,y4,y5,y6,y7,ob⟩:=v;obtain⟨j,(rfl:u=(j:Int)),(ha:OkS (a1,a2,a3)),(hlo:ob.length+j<=3)⟩:=E;refine Ad (P:=λb:Bool=>b=true->0<j) (Ak (λh=>Aa λ_=>by have:=BE h;omega) λ_=>Aa λh=>by cases h) λv3 h3=>Ak (λhb=>?_) λ_=>Aa (Ab rfl ?_)
  .have hj:=h3 hb
   refine Ad (p63 ha) λv4 hv4=>Ab (by show ob.length+1<=_;omega) (Aa ⟨⟨j-1,?_,hv4.2,?_⟩,?_⟩)
   .show IntKind.wrap .i64 ((j:Int)-1)=_
    rw[Ah (by omega) (by omega)];omega
   .show(ob++[_]).length+(j-1)<=3
    rw[List.length_append];show ob.length+1+(j-1)<=3;omega
   .show(IntKind.wrap .i64 ((j:Int)-1)).toNat<(j:Int).toNat
    rw[Ah (by omega) (by omega)];omega
  refine Ad (p113 hc hn hm (ob:=ob) (by omega)) λf hf=>Ab (by show(0:Int)<=c.1/\c.1<=c.1/\24*c.1<=_/\c.1<=_;omega) (Ad (p63 ha) λv4 hv4=>?_)
  obtain⟨f1,f2,f3,f4,f5,S,A⟩:=f;have hlS:S.length=n:=hf.ls;have hsz:∀x,x<n->∃s:Nat,S.getD x 0=(s:Int)/\s<=8000:=hf.sz;obtain⟨k1,u1,u2,u3⟩:=v4;obtain⟨⟨m2,m3,_⟩,hu⟩:=hv4;have m2:0<=k1:=m2;have m3:k1<4:=m3 (by decide)
  have hu:OkS (u1,u2,u3):=hu
  refine CA (I:=λv=>∃j:Nat,v.1=(j:Int)/\j<=3/\OkS (v.2.1,v.2.2.1,v.2.2.2.1)/\(v.2.2.2.2.2.2.2.2.2.2.2.1,v.2.2.2.2.2.2.2.2.2.2.2.2.1,v.2.2.2.2.2.2.2.2.2.2.2.2.2.1,v.2.2.2.2.2.2.2.2.2.2.2.2.2.2.1,v.2.2.2.2.2.2.2.2.2.2.2.2.2.2.2.1,v.2.2.2.2.2.2.2.2.2.2.2.2.2.2.2.2.1,v.2.2.2.2.2.2.2.2.2.2.2.2.2.2.2.2.2.1)=(f1,f2,f3,f4,f5,S,A)/\v.2.2.2.2.2.2.2.2.2.2.2.2.2.2.2.2.2.2.length=n/\∀x,x<n->((v.2.2.2.2.2.2.2.2.2.2.2.2.2.2.2.2.2.2.getD x []).length+j<=3)/\∀s:Nat,S.getD x 0=(s:Int)->Dj s (v.2.2.2.2.2.2.2.2.2.2.2.2.2.2.2.2.2.2.getD x [])) (λv=>v.1.toNat)
   ⟨k1.toNat,by show k1=_;omega,by omega,hu,rfl,by show(List.replicate c.1.toNat ([]:LL)).length=n;rw[List.length_replicate,hob];exact tNC n,λx Z=>?_⟩ (λv E=>?_)
  .have e:(List.replicate c.1.toNat ([]:LL)).getD x []=[]:=by rw[hob,tNC];simp[Z]
   show((List.replicate c.1.toNat ([]:LL)).getD x []).length+_<=3/\∀s:Nat,_->Dj s ((List.replicate c.1.toNat ([]:LL)).getD x []);rw[e];exact⟨by show 0+k1.toNat<=3;omega,λs _=>⟨Nat.zero_le _,λk h=>absurd h (Nat.not_lt_zero k)⟩⟩
  obtain⟨u,b1,b2,b3,x1,x2,x3,x4,x5,x6,x7,g1,g2,g3,g4,g5,S2,A2,ps⟩:=v;obtain⟨J,(rfl:u=(J:Int)),hj3,(hb:OkS (b1,b2,b3)),(hg:(g1,g2,g3,g4,g5,S2,A2)=(f1,f2,f3,f4,f5,S,A)),(U:ps.length=n),(B:∀x,x<n->((ps.getD x []).length+J<=3)/\∀s:Nat,S.getD x 0=(s:Int)->Dj s (ps.getD x []))⟩:=E;cases hg;refine Ad (P:=λb:Bool=>b=true->0<J/\0<c.1) (Ak (λh=>Aa λh'=>⟨by have:=BE h;omega,BE h'⟩) λ_=>Aa λh=>by cases h) λv6 h6=>Ak (λhbt=>?_) λ_=>Aa (Ab rfl ?_)
  .obtain⟨hj,hc0⟩:=h6 hbt
   have back:∀{ps':LLL}{q1 q2 q3:_},OkS (q1,q2,q3)->ps'.length=n->(∀x,x<n->((ps'.getD x []).length+(J-1)<=3)/\∀s:Nat,S.getD x 0=(s:Int)->Dj s (ps'.getD x []))->(∃j:Nat,(IntKind.wrap .i64 ((J:Int)-1))=(j:Int)/\j<=3/\OkS (q1,q2,q3)/\(f1,f2,f3,f4,f5,S,A)=(f1,f2,f3,f4,f5,S,A)/\ps'.length=n/\∀x,x<n->((ps'.getD x []).length+j<=3)/\∀s:Nat,S.getD x 0=(s:Int)->Dj s (ps'.getD x []))/\(IntKind.wrap .i64 ((J:Int)-1)).toNat<(J:Int).toNat:=λh1 h2 h3=>by
    have e:IntKind.wrap .i64 ((J:Int)-1)=((J-1:Nat):Int):=by rw[Ah (by omega) (by omega)];omega
    exact⟨⟨J-1,e,by omega,h1,rfl,h2,h3⟩,by rw[e];omega⟩
   refine Ad (p63 (z:=c.1) hb) λv7 hv7=>?_
   obtain⟨x,Z,hxn⟩:=BO (n:=n) hv7 hob (by omega)
   obtain⟨w,w1,w2,w3⟩:=v7;have Z:w=(x:Int):=Z;subst Z;obtain⟨sx,hsx,hs8⟩:=hsz x hxn;have iS:(0:Int)<=(x:Int)/\(x:Int)<(S.length:Int):=by rw[hlS];omega
   have iP:(0:Int)<=(x:Int)/\(x:Int)<(ps.length:Int):=by rw[U];omega
   refine Ab iS (Ak (λh1=>?_) λ_=>Aa (back (ps':=ps) hv7.2 U λy hy=>⟨by have:=(B y hy).1;omega,(B y hy).2⟩))
   have h1:(1:Int)<S.getD x 0:=BE h1;refine Ab iP (Ab iS (Ad (p63 (z:=S.getD x 0) hv7.2) λv8 hv8=>Ab iS (Ad (p63 (z:=S.getD x 0) hv8.2) λv9 hv9=>?_)))
   obtain⟨p,hp,hpn⟩:=BO (n:=sx) hv8 hsx (by omega)
   obtain⟨q,hq,hqn⟩:=BO (n:=sx) hv9 hsx (by omega)
   have hpx:=B x hxn;refine Ab ⟨⟨iP,⟨Nat.le_refl _,Nat.le_refl _⟩,trivial⟩,by show(ps.getD x []).length+1<=_;omega⟩ (Aa (back hv9.2 ?_ λy hy=>?_))
   .show(ps.set x _).length=n
    rw[List.length_set];exact U
   .show((ps.set x (ps.getD x []++[[v8.1,v9.1]])).getD y []).length+_<=3/\∀s:Nat,_->Dj s ((ps.set x (ps.getD x []++[[v8.1,v9.1]])).getD y [])
    by_cases e:y=x
    .subst e
     rw[Hk (by omega)]
     refine⟨by rw[List.length_append];show(ps.getD y []).length+1+_<=3;omega,λs' hs'=>?_⟩
     obtain rfl:s'=sx:=by have:=hs'.symm.trans hsx;omega
     obtain⟨g1,g2⟩:=hpx.2 s' hs';refine⟨by rw[List.length_append];show(ps.getD y []).length+1<=_;omega,λk W=>?_⟩
     rw[List.length_append]at W;have W:k<(ps.getD y []).length+1:=W;by_cases e':k<(ps.getD y []).length
     .rw[AD e'];exact g2 k e'
     .obtain rfl:k=(ps.getD y []).length:=by omega
      rw[Br];exact⟨Nat.le_refl _,p,q,hp,hq,hpn,hqn⟩
    .rw[Dq e]
     exact⟨by have:=(B y hy).1;omega,(B y hy).2⟩
  refine Ad (p114 hc hn hm hf U λx Z=>(B x Z).2) λg hg=>?_
  refine As (n:=g.2.2.2.2.2.1.length) (λk v=>v.2=(k:Int)) rfl (λk W v E=>?_) λv E=>?_
  .obtain⟨u,v2⟩:=v
   obtain rfl:v2=(k:Int):=E;exact AU (ltD W) (Ad (P:=λ_=>True) (Ak (λ_=>Ab (Ac W) (Aa trivial)) λ_=>Aa trivial) λv8 _=>Aa (wrD W (by have:=hg.2.1;omega)))
  .obtain⟨u,v2⟩:=v
   obtain rfl:v2=(g.2.2.2.2.2.1.length:Int):=E;exact AW ltf (Aa (Ab rfl (Ak (λ_=>DZ (Aa ⟨hg,hb⟩)) λ_=>Aa ⟨wrD hi (by omega),hb⟩)))
 .obtain⟨u,s1,s2,s3,z1,z2,z3,z4,z5,z6,z7⟩:=v
  obtain⟨(h0:u=((6:Nat):Int)),(hs1:OkS (s1,s2,s3))⟩:=E;subst h0;refine AW (show decide (((6:Nat):Int)<6)=false by decide) (Aa (Ab rfl (Ad (p63 hs1) λu hv1=>?_)))
  have e:IntKind.wrap .i64 (Yr z 2+1)=Yr z 2+1:=by
   unfold Yr;split<;>rw[Ah (by omega) (by omega)]
  obtain⟨⟨q0,q1,_⟩,hs2⟩:=hv1;rw[e]at q1;have hpos:0<Yr z 2+1/\Yr z 2+1<=3:=by unfold Yr;split<;>omega
  have:=q1 hpos.1;obtain⟨k,W⟩:∃k:Nat,u.1=(k:Int):=⟨u.1.toNat,by omega⟩
  refine Ad (P:=GS c n m) ?_ λg hg=>Aa ⟨hg,hs2⟩
  show Tot _ (G115 (c,u.1));rw[W];exact p115 hc hn hm (by omega)
def p126(W:Sp c n m)(E:n<=1000)(J:m<=1000)(U:GS c n m g):G126 g=some g:=by
 obtain⟨f1,f2,f3,f4,f5,S,A⟩:=g;obtain⟨e,B,u,Z⟩:=U;have e:(f1,f2,f3,f4,f5)=c:=e;subst e;have B:S.length=n:=B;have u:A.length=m:=u;unfold G126;exact Ae (AaD W E J) (Ae (WC (x:=S) (by omega)) (Ae (p133 (x:=A) (by omega) λi hi=>Nat.le_trans (Z i (by omega)) (by decide)) rfl))
theorem GS.ok(J:Sp c n m)(A:n<=1000)(B:m<=1000)(E:GS c n m g):ZI g:=by
 obtain⟨W,h2,h3,U⟩:=E;refine⟨by rw[W];exact J.okD A B,by omega,by omega,λy u=>?_⟩
 obtain⟨k,Z,e⟩:=JN [] u;rw[<-e];exact U k (by omega)
def rowsS{t:LL}{r:LI}(h:∀y∈t,y.length<=8000)(u:r.length<=8000):∀y∈t.set k r,y.length<=8000:=λy e=>by
 rcases List.mem_or_eq_of_mem_set e with h'|h'
 .exact h y h'
 .rw[h'];exact u
theorem p86(hc:Sp c n m)(hn:n<=1000)(hm:m<=1000)(hg:GS c n m g)(hs:OkS s):Tot (λr=>ZI r.1/\OkS r.2) (G86 g s):=by
 have hok:=hg.ok hc hn hm;have ho:=p126 hc hn hm hg;obtain⟨f1,f2,f3,f4,f5,S,A⟩:=g;obtain⟨h1,h2,h3,h4⟩:=hg;have h1:(f1,f2,f3,f4,f5)=c:=h1;subst h1;have h2:S.length=n:=h2;have h3:A.length=m:=h3;obtain⟨k1,k2,k3,k4⟩:=hok;have k1:okD (f1,f2,f3,f4,f5):=k1;have k4:∀y∈A,y.length<=8000:=k4;unfold G86;refine A7 ho (Ad (p63 hs) λv1 E=>?_)
 have row:Tot (λr:Sf×Bx=>ZI r.1/\OkS r.2) ((G63 (A.length:Int) v1.2).bind λu=>Option.bind (bif decide (0<(A.length:Int))then if 0<=u.1/\u.1<(A.length:Int)then some (decide (0<((A.getD u.1.toNat []).length:Int)))else none else some false) (fun(v3:Bool)=>bif v3 then if 0<=u.1/\u.1<(A.length:Int)then if 0<=u.1/\u.1<(A.length:Int)then(G63 ((A.getD u.1.toNat []).length:Int) u.2).bind λU=>(G63 4 U.2).bind λv5=>(G63 8 v5.2).bind λv6=>if(7:Int)≠0 then if 0<=U.1/\U.1<((A.getD u.1.toNat []).length:Int)then some ((f1,f2,f3,f4,f5,S,A.set u.1.toNat ((A.getD u.1.toNat []).set U.1.toNat (IntKind.wrap .i64 (v5.1-(IntKind.wrap .i64 (Int.tdiv v6.1 7)))))),v6.2)else none else none else none else none else some ((f1,f2,f3,f4,f5,S,A),u.2))):=by
  refine Ad (p63 E.2) λu B=>?_
  obtain⟨⟨q0,q1,_⟩,hs2⟩:=B;refine Ad (P:=λb:Bool=>b=true->(0<=u.1/\u.1<(A.length:Int))/\0<((A.getD u.1.toNat []).length:Int)) (Ak (λe=>?_) λ_=>Aa λh=>by cases h) λv3 h3=>Ak (λe=>?_) λ_=>Aa ⟨⟨k1,k2,k3,k4⟩,hs2⟩
  .have W:0<=u.1/\u.1<(A.length:Int):=⟨q0,q1 (BE e)⟩
   exact Ab W (Aa λh=>⟨W,BE h⟩)
  .obtain⟨W,Z⟩:=h3 e
   refine Ab W (Ab W (Ad (p63 hs2) λU J=>Ad (p63 J.2) λv5 hv5=>Ad (p63 hv5.2) λv6 hv6=>Ab (by decide) (Ab ⟨J.1.1,J.1.2.1 Z⟩ (Aa ⟨⟨k1,k2,?_,rowsS k4 ?_⟩,hv6.2⟩))))
   .show(A.set _ _).length<=2001
    rw[List.length_set];omega
   .rw[List.length_set]
    exact k4 _ (Cu (by omega))
 refine Ak (λ_=>?_) λ_=>Ak (λ_=>Ak (λe=>?_) λ_=>Aa ⟨⟨k1,k2,k3,k4⟩,E.2⟩) λ_=>Ak (λe=>AU e row) λ_=>Ak (λe=>row) λ_=>Ak (λ_=>Ab trivial (Ab (by show A.length+1<=_;omega) (Aa ⟨⟨k1,k2,?_,λy hy=>?_⟩,E.2⟩))) λ_=>Aa ⟨⟨k1,k2,k3,k4⟩,E.2⟩
 .exact Ad (p102 hc hn hm E.2) λu B=>Aa ⟨⟨B.1,k2,k3,k4⟩,B.2⟩
 .have e:(0:Int)<(S.length:Int):=BE e
  refine Ad (p63 E.2) λu B=>Ad (p72 B.2 (by show 0<5;omega)) λv3 hv3=>Ab ⟨B.1.1,B.1.2.1 e⟩ (Aa ⟨⟨k1,?_,k3,k4⟩,hv3⟩)
  show(S.set _ _).length<=2001;rw[List.length_set];omega
 .show(A++[_]).length<=2001
  rw[List.length_append];show A.length+1<=2001;omega
 .rcases List.mem_append.1 hy with h|h
  .exact k4 y h
  .rw[List.mem_singleton.1 h];exact Nat.zero_le _
def p49(hs:OkS s):Tot (λr=>okD r.1/\OkS r.2) (G49 () s):=by
 unfold G49;exact Ad (p63 hs) λv0 u=>Ak (λ_=>Ad (p87 (by decide) (by decide) u.2) λA e=>Aa e) λ_=>Ad (p87 (by decide) (by decide) u.2) λA e=>Aa e
end
end Go.Ve.D

