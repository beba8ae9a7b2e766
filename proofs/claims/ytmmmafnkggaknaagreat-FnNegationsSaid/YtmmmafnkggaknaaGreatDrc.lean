/- The category of a reflexive and transitive relation. -/
import Derived.Test.YtmmmafnkggaknaaGreatDra
set_option linter.all false
namespace Go.Ve.D
open Go Go.Ve
noncomputable section
variable{fr:LI}{a b n:Nat}{α:Type}
def At(fr to:LI)(q:Int)(a b:Nat):Prop:=∃k:Nat,q=k/\k<fr.length/\fr.getD k 0=(a:Int)/\to.getD k 0=(b:Int)
theorem Wi{to:LI}{q u w:Int}(J:to.length=fr.length)(h:At fr to q a b):At (fr++[u]) (to++[w]) q a b:=by
 obtain⟨k,E,B,A,e⟩:=h;exact⟨k,E,by rw[List.length_append];omega,by rw[AD B];exact A,by rw[AD (by omega)];exact e⟩
def at_new{to:LI}(e:to.length=fr.length):At (fr++[(a:Int)]) (to++[(b:Int)]) (fr.length:Int) a b:=
 ⟨fr.length,rfl,by simp,Di,by rw[<-e];exact Di⟩
def Ar(x:LL)(n:Nat)(fr to:LI):Prop:=∀k,k<fr.length->∃a b:Nat,a<n/\b<n/\fr.getD k 0=(a:Int)/\to.getD k 0=(b:Int)/\one x a b
theorem Aas{x:LL}{to:LI}(A:to.length=fr.length)(h:Ar x n fr to)(E:a<n)(B:b<n)(J:one x a b):Ar x n (fr++[(a:Int)]) (to++[(b:Int)]):=by
 intro k u;by_cases e:k=fr.length
 .subst e;exact⟨a,b,E,B,Di,by rw[<-A];exact Di,J⟩
 .have u:k<fr.length:=by rw[List.length_append]at u;simp at u;omega
  obtain⟨W,U,h⟩:=h k u;exact⟨W,U,by rw[AD u,AD (by omega)];exact h⟩
def A4{x:List α}{a:α}(h:x.length=n):(x++[a]).length=n+1:=by rw[List.length_append,h];rfl
def Bp{P:Nat->α->Prop}{x:List α}{a d:α}(u:x.length=n)(h:∀k,k<n->P k (x.getD k d))(A:P n a):∀k,k<n+1->P k ((x++[a]).getD k d):=by
 intro k B;by_cases e:k=n
 .subst e;rw[<-u,Di];rw[u];exact A
 .rw[AD (by omega)];exact h k (by omega)
theorem p120(hn:n<=1000){x:LL}(h:Tr n x):Tot (λc=>∃m,m<=n*n/\Sp c n m) (G120 x):=by
 obtain⟨hsq,hrf,htr⟩:=h;have hxl:=hsq.1;have nn:n*n<=1000000:=Nat.mul_le_mul hn hn;unfold G120;rw[hxl];refine As (n:=n) (λi v=>v.1=(i:Int)/\v.2.2.2.2.2.2.2.1=(n:Int)/\(v.2.2.2.2.2.2.2.2.2.1.length=v.2.2.2.2.2.2.2.2.1.length/\v.2.2.2.2.2.2.2.2.1.length<=i*n/\Ar x n v.2.2.2.2.2.2.2.2.1 v.2.2.2.2.2.2.2.2.2.1)/\(v.2.2.2.2.2.2.1.length=i/\∀a,a<i->(v.2.2.2.2.2.2.1.getD a []).length=n/\∀b,b<n->one x a b->At v.2.2.2.2.2.2.2.2.1 v.2.2.2.2.2.2.2.2.2.1 (en v.2.2.2.2.2.2.1 a b) a b)/\v.2.2.2.2.2.2.2.2.2.2=([],[])) ⟨rfl,rfl,⟨rfl,Nat.zero_le _,λk hk=>absurd hk (Nat.not_lt_zero _)⟩,⟨rfl,λa ha=>absurd ha (Nat.not_lt_zero _)⟩,rfl⟩ (λi hi v hv=>?_) λv hv=>?_
 .obtain⟨_,o1,o2,o3,o4,o5,nu,_,fr,to,ic⟩:=v
  obtain⟨(rfl:_=(i:Int)),(rfl:_=(n:Int)),⟨(hl:to.length=fr.length),(hb:fr.length<=i*n),(ha:Ar x n fr to)⟩,⟨(hnl:nu.length=i),(hnu:∀a,a<i->(nu.getD a []).length=n/\∀b,b<n->one x a b->At fr to (en nu a b) a b)⟩,(rfl:ic=([],[]))⟩:=hv;have hin:i*n<=n*n:=Nat.mul_le_mul_right _ (by omega)
  have hin2:(i+1)*n<=n*n:=Nat.mul_le_mul_right _ (by omega)
  rw[Nat.succ_mul]at hin2;refine AU (ltD hi) (As (n:=n) (λj v=>v.1=(j:Int)/\v.2.2.2.2.2.2.2.1=(n:Int)/\(v.2.2.2.2.2.2.2.2.2.1.length=v.2.2.2.2.2.2.2.2.1.length/\v.2.2.2.2.2.2.2.2.1.length<=i*n+j/\Ar x n v.2.2.2.2.2.2.2.2.1 v.2.2.2.2.2.2.2.2.2.1)/\v.2.2.2.2.2.2.1=nu/\(∀a,a<i->∀b,b<n->one x a b->At v.2.2.2.2.2.2.2.2.1 v.2.2.2.2.2.2.2.2.2.1 (en nu a b) a b)/\v.2.2.2.2.2.2.2.2.2.2.1=[]/\v.2.2.2.2.2.2.2.2.2.2.2.1=[]/\v.2.2.2.2.2.2.2.2.2.2.2.2.length=j/\∀b,b<j->one x i b->At v.2.2.2.2.2.2.2.2.1 v.2.2.2.2.2.2.2.2.2.1 (v.2.2.2.2.2.2.2.2.2.2.2.2.getD b 0) i b) ⟨rfl,rfl,⟨hl,hb,ha⟩,rfl,λa h=>(hnu a h).2,rfl,rfl,rfl,λb hb=>absurd hb (Nat.not_lt_zero _)⟩ (λj hj v hv=>?_) λv hv=>?_)
  .obtain⟨_,o1,o2,o3,o4,o5,J,_,fr,to,W,cml,row⟩:=v
   obtain⟨(rfl:_=(j:Int)),(rfl:_=(n:Int)),⟨(hl:to.length=fr.length),(hb:fr.length<=i*n+j),(ha:Ar x n fr to)⟩,(rfl:J=nu),(hnu:∀a,a<i->∀b,b<n->one x a b->At fr to (en J a b) a b),(rfl:W=[]),(rfl:cml=[]),(Z:row.length=j),(U:∀b,b<j->one x i b->At fr to (row.getD b 0) i b)⟩:=hv;refine AU (ltD hj) (Ab (by show row.length+1<=_;omega) (Ab (Ac hi) (Ab (Kc hsq hi hj) (Ak (λe=>?_) λe=>?_))))
   .have e:one x i j:=BE (p:=en x i j=1) e
    refine Ab (by show fr.length+1<=_;omega) (Ab (by show to.length+1<=_;omega) (Aa ⟨wrD hj (by omega),rfl,⟨?_,?_,Aas hl ha hi hj e⟩,rfl,λa h1 b h2 h3=>Wi hl (hnu a h1 b h2 h3),rfl,rfl,A4 Z,Bp (P:=λb (q:Int)=>one x i b->At (fr++[(i:Int)]) (to++[(j:Int)]) q i b) Z (λb h1 h2=>Wi hl (U b h1 h2)) λ_=>at_new hl⟩))
    .show(to++[_]).length=(fr++[_]).length
     rw[List.length_append,List.length_append,hl];rfl
    .show(fr++[_]).length<=_
     rw[List.length_append];show fr.length+1<=_;omega
   .have e:¬one x i j:=IE (p:=en x i j=1) e
    exact Aa ⟨wrD hj (by omega),rfl,⟨hl,by show fr.length<=i*n+(j+1);omega,ha⟩,rfl,hnu,rfl,rfl,A4 Z,Bp (P:=λb (q:Int)=>one x i b->At fr to q i b) Z U λh=>absurd h e⟩
  .obtain⟨_,o1,o2,o3,o4,o5,J,_,fr,to,W,cml,row⟩:=v
   obtain⟨(rfl:_=(n:Int)),(rfl:_=(n:Int)),⟨(hl:to.length=fr.length),(hb:fr.length<=i*n+n),(ha:Ar x n fr to)⟩,(rfl:J=nu),(hnu2:∀a,a<i->∀b,b<n->one x a b->At fr to (en J a b) a b),(rfl:W=[]),(rfl:cml=[]),(Z:row.length=n),(U:∀b,b<n->one x i b->At fr to (row.getD b 0) i b)⟩:=hv;refine AW ltf (Aa (Ab rfl (Ab trivial (Ab (by show J.length+1<=_;omega) (Aa ⟨wrD hi (by omega),rfl,⟨hl,by show fr.length<=(i+1)*n;rw[Nat.succ_mul];exact hb,ha⟩,⟨A4 hnl,?_⟩,rfl⟩)))))
   exact Bp (P:=λa (r:LI)=>r.length=n/\∀b,b<n->one x a b->At fr to (r.getD b 0) a b) hnl (λa h=>⟨(hnu a h).1,hnu2 a h⟩) ⟨Z,U⟩
 .obtain⟨_,o1,o2,o3,o4,o5,nu,_,fr,to,ic⟩:=v
  obtain⟨(rfl:_=(n:Int)),(rfl:_=(n:Int)),⟨(hl:to.length=fr.length),(hb:fr.length<=n*n),(ha:Ar x n fr to)⟩,⟨(hnl:nu.length=n),(hnu:∀a,a<n->(nu.getD a []).length=n/\∀b,b<n->one x a b->At fr to (en nu a b) a b)⟩,(rfl:ic=([],[]))⟩:=hv;have hnq:Sq n nu:=⟨hnl,λa h=>(hnu a h).1⟩
  refine AW ltf (Aa (Ab rfl (As (n:=n) (λi v=>v.1=(i:Int)/\v.2.2.2.2.2.2.1=nu/\v.2.2.2.2.2.2.2.1=(n:Int)/\v.2.2.2.2.2.2.2.2.1=fr/\v.2.2.2.2.2.2.2.2.2.1=to/\(v.2.2.2.2.2.2.2.2.2.2.1.length=i/\∀a,a<i->∃f:Nat,f<fr.length/\v.2.2.2.2.2.2.2.2.2.2.1.getD a 0=(f:Int))/\v.2.2.2.2.2.2.2.2.2.2.2=[]) ⟨rfl,rfl,rfl,rfl,rfl,⟨rfl,λa h=>absurd h (Nat.not_lt_zero _)⟩,rfl⟩ (λi hi v hv=>?_) λv hv=>?_)))
  .obtain⟨_,o1,o2,o3,o4,o5,J,_,B,E,W,cml⟩:=v
   obtain⟨(rfl:_=(i:Int)),(rfl:J=nu),(rfl:_=(n:Int)),(rfl:B=fr),(rfl:E=to),⟨(hil:W.length=i),(hid:∀a,a<i->∃f:Nat,f<B.length/\W.getD a 0=(f:Int))⟩,(rfl:cml=[])⟩:=hv;obtain⟨k,hk,hk2,_⟩:=(hnu i hi).2 i hi (hrf i hi);refine AU (ltD hi) (Ab (UO hnq hi) (Ab (Kc hnq hi hi) (Ab (by show W.length+1<=_;omega) (Aa ⟨wrD hi (by omega),rfl,rfl,rfl,rfl,⟨A4 hil,?_⟩,rfl⟩))))
   exact Bp (P:=λ_ q=>∃f:Nat,f<B.length/\q=(f:Int)) hil hid ⟨k,hk2,hk⟩
  .obtain⟨_,o1,o2,o3,o4,o5,J,_,B,E,W,cml⟩:=v
   obtain⟨(rfl:_=(n:Int)),(rfl:J=nu),(rfl:_=(n:Int)),(rfl:B=fr),(rfl:E=to),⟨(hil:W.length=n),(hid:∀a,a<n->∃f:Nat,f<B.length/\W.getD a 0=(f:Int))⟩,(rfl:cml=[])⟩:=hv;generalize hm:B.length=m at*
   have ent:∀f g,f<m->g<m->E.getD f 0=B.getD g 0->∃a b:Nat,a<n/\b<n/\B.getD f 0=(a:Int)/\E.getD g 0=(b:Int)/\∃k:Nat,en J a b=(k:Int)/\k<m/\B.getD k 0=(a:Int)/\E.getD k 0=(b:Int):=by
    intro f g hf hg he;obtain⟨a,b,h1,h2,h3,h4,h5⟩:=ha f (by omega)
    obtain⟨a',b',k1,k2,k3,k4,k5⟩:=ha g (by omega)
    have:b=a':=by omega
    subst this;obtain⟨k,j1,j2,j3,j4⟩:=(hnu a h1).2 b' k2 (htr a b' b h1 k2 h2 h5 k5);exact⟨a,b',h1,k2,h3,k4,k,j1,by omega,j3,j4⟩
   have P1:∀f,f<m->(0:Int)<=(f:Int)/\(f:Int)<(B.length:Int):=λf h=>by omega
   have P2:∀f,f<m->(0:Int)<=(f:Int)/\(f:Int)<(E.length:Int):=λf h=>by omega
   refine AW ltf (Aa (Ab rfl (As (n:=m) (λf v=>v.1=(f:Int)/\v.2.2.2.2.2.2.1=J/\v.2.2.2.2.2.2.2.1=(n:Int)/\v.2.2.2.2.2.2.2.2.1=B/\v.2.2.2.2.2.2.2.2.2.1=E/\v.2.2.2.2.2.2.2.2.2.2.1=W/\v.2.2.2.2.2.2.2.2.2.2.2.length=f/\∀k,k<f->(v.2.2.2.2.2.2.2.2.2.2.2.getD k []).length=m/\∀g,g<m->(E.getD k 0=B.getD g 0->∃h:Nat,h<m/\(v.2.2.2.2.2.2.2.2.2.2.2.getD k []).getD g 0=h/\B.getD h 0=B.getD k 0/\E.getD h 0=E.getD g 0)/\(E.getD k 0≠B.getD g 0->(v.2.2.2.2.2.2.2.2.2.2.2.getD k []).getD g 0<0)) ⟨rfl,rfl,rfl,rfl,rfl,rfl,rfl,λk h=>absurd h (Nat.not_lt_zero _)⟩ (λf hf v hv=>?_) λv hv=>?_)))
   .obtain⟨_,o1,o2,o3,o4,o5,nu'',_,u,A,idl',cml⟩:=v
    obtain⟨(rfl:_=(f:Int)),(rfl:nu''=J),(rfl:_=(n:Int)),(rfl:u=B),(rfl:A=E),(rfl:idl'=W),(hcl:cml.length=f),hcm⟩:=hv;refine AU (by show decide ((f:Int)<(u.length:Int))=true;rw[hm];exact ltD hf) (As (n:=m) (λg v=>v.1=(g:Int)/\v.2.length=g/\∀k,k<g->(A.getD f 0=u.getD k 0->∃h:Nat,h<m/\v.2.getD k 0=h/\u.getD h 0=u.getD f 0/\A.getD h 0=A.getD k 0)/\(A.getD f 0≠u.getD k 0->v.2.getD k 0<0)) ⟨rfl,rfl,λk h=>absurd h (Nat.not_lt_zero _)⟩ (λg hg v hv=>?_) λv hv=>?_)
    .obtain⟨_,row⟩:=v
     obtain⟨(rfl:_=(g:Int)),(Z:row.length=g),U⟩:=hv;refine AU (by show decide ((g:Int)<(u.length:Int))=true;rw[hm];exact ltD hg) (Ab (P2 f hf) (Ab (P1 g hg) (Ak (λe=>?_) λe=>?_)))
     .have e:A.getD f 0=u.getD g 0:=BE e
      obtain⟨a,b,h1,h2,h3,h4,k,h5,h6,h7,h8⟩:=ent f g hf hg e;refine Ab (P1 f hf) (Ab ?_ (Ab (P2 g hg) (Ab ?_ (Ab (by show row.length+1<=_;omega) (Aa ⟨wrD hg (by omega),A4 Z,Bp (P:=λk (q:Int)=>(A.getD f 0=u.getD k 0->∃h:Nat,h<m/\q=h/\u.getD h 0=u.getD f 0/\A.getD h 0=A.getD k 0)/\(A.getD f 0≠u.getD k 0->q<0)) Z U ⟨λ_=>⟨k,h6,?_,by rw[h7,h3],by rw[h8,h4]⟩,λh=>absurd e h⟩⟩)))))
      .show(0:Int)<=u.getD f 0/\u.getD f 0<(nu''.length:Int)
       rw[h3,hnl];omega
      .show(0:Int)<=A.getD g 0/\A.getD g 0<((nu''.getD (u.getD f 0).toNat []).length:Int)
       rw[h3,h4,show((a:Int)).toNat=a from rfl,(hnu a h1).1];omega
      .show(nu''.getD (u.getD f 0).toNat []).getD (A.getD g 0).toNat 0=_
       rw[h3,h4];exact h5
     .have e:¬A.getD f 0=u.getD g 0:=IE e
      exact Ab (by show row.length+1<=_;omega) (Aa ⟨wrD hg (by omega),A4 Z,Bp (P:=λk (q:Int)=>(A.getD f 0=u.getD k 0->∃h:Nat,h<m/\q=h/\u.getD h 0=u.getD f 0/\A.getD h 0=A.getD k 0)/\(A.getD f 0≠u.getD k 0->q<0)) Z U ⟨λh=>absurd h e,λ_=>by decide⟩⟩)
    .obtain⟨_,row⟩:=v
     obtain⟨(rfl:_=(m:Int)),(Z:row.length=m),U⟩:=hv;exact AW (by show decide ((m:Int)<(u.length:Int))=false;rw[hm];exact ltf) (Aa (Ab rfl (Ab trivial (Ab (by show cml.length+1<=_;omega) (Aa ⟨wrD hf (by omega),rfl,rfl,rfl,rfl,rfl,A4 hcl,Bp (P:=λk (r:LI)=>r.length=m/\∀g,g<m->(A.getD k 0=u.getD g 0->∃h:Nat,h<m/\r.getD g 0=h/\u.getD h 0=u.getD k 0/\A.getD h 0=A.getD g 0)/\(A.getD k 0≠u.getD g 0->r.getD g 0<0)) hcl hcm ⟨Z,U⟩⟩)))))
   .obtain⟨_,o1,o2,o3,o4,o5,nu'',_,u,A,idl',cml⟩:=v
    obtain⟨(rfl:_=(m:Int)),(rfl:nu''=J),(rfl:_=(n:Int)),(rfl:u=B),(rfl:A=E),(rfl:idl'=W),(hcl:cml.length=m),hcm⟩:=hv;refine AW (by show decide ((m:Int)<(u.length:Int))=false;rw[hm];exact ltf) (Aa (Ab rfl (Aa ⟨m,hb,rfl,hm,by show A.length=m;omega,hil,hcl,λf hf=>(hcm f hf).1,λf hf=>?_,λf hf=>?_,hid,λf g hf hg=>((hcm f hf).2 g hg).1,λf g hf hg=>((hcm f hf).2 g hg).2⟩)))
    .obtain⟨a,b,h1,h2,h3,h4,h5⟩:=ha f (by omega)
     exact⟨a,h1,h3⟩
    .obtain⟨a,b,h1,h2,h3,h4,h5⟩:=ha f (by omega)
     exact⟨b,h2,h4⟩
end
end Go.Ve.D


namespace Go.Ve.D
open Go Go.Ve
noncomputable section
variable{c d:Ca}{i k m m2 n n2:Nat}{α:Type}
def itD{X R:Type}{f:X->Option (LO X R)}{st:Nat->X}{o:LO X R}{x:X}(B:x=st 0)(A:∀i,i<n->f (st i)=some (.next (st (i+1))))(u:f (st n)=some o)(e:∀y,o≠.next y):Aj f x=some o:=by
 subst B;exact CZ A u e
def ifD{p:Prop} [Decidable p]{x y r:α}(h:p)(e:x=r):(if p then x else y)=r:=by rw[if_pos h];exact e
def LP{x y r:α}(h:i<n)(e:x=r):(bif decide ((i:Int)<(n:Int))then x else y)=r:=by rw[ltD h];exact e
def LS{x y r:α}(e:y=r):(bif decide ((n:Int)<(n:Int))then x else y)=r:=by rw[ltf];exact e
def mapD(d:α)(x:List α):(List.range x.length).map (λi=>x.getD i d)=x:=by
 apply List.ext_getElem?;intro j;by_cases e:j<x.length<;>simp[e]
def L7{F:Nat->α}{d:α}(e:i<n):((List.range n).map F).getD i d=F i:=by simp[e]
def mapS{F F':Nat->α}(A:i<n)(h:∀k,k<n->k≠i->F' k=F k):((List.range n).map F).set i (F' i)=(List.range n).map F':=by
 apply List.ext_getElem?;intro k;by_cases u:k<n
 .by_cases e:k=i
  .subst e;simp[u]
  .rw[List.getElem?_set_ne (Ne.symm e)];simp[u,h k u e]
 .simp[u]
def C4{F:Nat->α}:((List.range n).map F).length=n:=by simp
def Xp{F:Nat->α}:(List.range n).map F++[F n]=(List.range (n+1)).map F:=by simp[List.range_succ]
def Vz{x:List α}{F:Nat->α}:(x++(List.range n).map F)++[F n]=x++(List.range (n+1)).map F:=by rw[List.append_assoc,Xp]
def VU{x y:List α}{d:α}(h:x.length=n):(x++y).getD (n+k) d=y.getD k d:=by
 subst h;rw[gDE,gAR (by omega),gDE]
 congr 2;omega
def WC{x:LI}(h:x.length<=1048576):G132 x=some x:=by
 unfold G132;exact ifD (by show 0+x.length<=_;omega) rfl
theorem p133{x:LL}(h:x.length<=1048576)(u:∀i,i<x.length->(x.getD i []).length<=1048576):G133 x=some x:=by
 unfold G133;refine Ae (itD (st:=λi:Nat=>((i:Int),(List.range i).map λi=>x.getD i [])) (n:=x.length) (o:=.brk 0 ((x.length:Int),(List.range x.length).map λi=>x.getD i [])) rfl (λi e=>?_) (LS rfl) (λy=>by simp)) (by show some ((List.range x.length).map λi=>x.getD i [])=_;rw[mapD])
 refine LP e (ifD (Ac e) (Ae (WC (u i e)) (ifD trivial (ifD (by rw[C4];show i+1<=_;omega) ?_))))
 show some (LO.next (IntKind.wrap .i64 ((i:Int)+1),(List.range i).map (λi=>x.getD i [])++[x.getD i []]))=_
 rw[Xp (F:=λi=>x.getD i []),wrD e h]
theorem AaD(h:Sp c n m)(u:n<=1000)(A:m<=1000):G104 c=some c:=by
 unfold G104;refine Ae (WC (by rw[h.lf];omega)) (Ae (WC (by rw[h.lt];omega)) (Ae (WC (by rw[h.li];omega)) (Ae (p133 (by rw[h.lc];omega) λi e=>?_) rfl)))
 rw[h.lr i (by rw[h.lc]at e;exact e)];omega
def upC(m:Nat)(h:Int):Int:=if 0<=h then IntKind.wrap .i64 (h+(m:Int))else h
def cmR(m2 f g:Nat)(r:LI)(k:Nat):LI:=r++(List.range (if k<f then m2 else if k=f then g else 0)).map λ_=>(-1:Int)
def cmB(d:Ca)(m m2 f:Nat):LI:=((List.range m).map λ_=>(-1:Int))++(List.range m2).map λg=>upC m (aC d f g)
def Ja(c d:Ca)(n m n2 m2:Nat):Ca:=(IntKind.wrap .i64 (c.1+d.1),(c.2.1++(List.range m2).map λf=>IntKind.wrap .i64 (aF d f+c.1)),(c.2.2.1++(List.range m2).map λf=>IntKind.wrap .i64 (aT d f+c.1)),(c.2.2.2.1++(List.range n2).map λy=>IntKind.wrap .i64 (aI d y+(m:Int))),
 ((List.range m).map λk=>cmR m2 m 0 (c.2.2.2.2.getD k []) k)++(List.range m2).map λf=>cmB d m m2 f)
theorem p117'(B:Sp c n m)(hd:Sp d n2 m2)(b1:n<=1000)(b2:m<=1000)(b3:n2<=1000)(b4:m2<=1000):G117 (c,d)=some (Ja c d n m n2 m2):=by
 have e1:=B.lf;have e2:=hd.lf;have e3:=hd.lt;have e4:=hd.ob;have e5:=hd.li;have e6:=B.lc;have e7:=hd.lc;have e8:=B.li;have e9:=B.lt;unfold G117;refine Ae (AaD B b1 b2) ?_
 dsimp only
 rw[e1,e2,e4]
 refine Ae (itD (st:=λy:Nat=>((y:Int),((0:Int),(([]:LI),(([]:LI),(([]:LI),(([]:LL),(IntKind.wrap .i64 (c.1+(n2:Int)),(c.2.1,(c.2.2.1,(c.2.2.2.1++(List.range y).map (λy=>IntKind.wrap .i64 (aI d y+(m:Int))),c.2.2.2.2))))))))))) (n:=n2) (o:=.brk 0 ((n2:Int),((0:Int),(([]:LI),(([]:LI),(([]:LI),(([]:LL),(IntKind.wrap .i64 (c.1+(n2:Int)),(c.2.1,(c.2.2.1,(c.2.2.2.1++(List.range n2).map (λy=>IntKind.wrap .i64 (aI d y+(m:Int))),c.2.2.2.2)))))))))))
  ?_ (λy hy=>?_) (LS rfl) (λy=>by simp)) (ifD rfl ?_)
 .show((0:Int),_)=_
  rw[List.range_zero,List.map_nil,List.append_nil];rfl
 .refine LP hy (ifD (by show(0:Int)<=(y:Int)/\(y:Int)<(d.2.2.2.1.length:Int);omega) (ifD (by show(_++_:LI).length+1<=17592186044416;rw[List.length_append,C4];omega) ?_))
  show some (LO.next (IntKind.wrap .i64 ((y:Int)+1),(_,(_,(_,(_,(_,(_,(_,(_,((c.2.2.2.1++(List.range y).map (λy=>IntKind.wrap .i64 (aI d y+(m:Int))))++[IntKind.wrap .i64 (aI d y+(m:Int))],_)))))))))))=_
  rw[Vz (F:=λy=>IntKind.wrap .i64 (aI d y+(m:Int))),wrD hy (by omega)]
 dsimp only
 refine Ae (itD (st:=λf:Nat=>((f:Int),((0:Int),(([]:LI),(([]:LI),(([]:LI),(([]:LL),(IntKind.wrap .i64 (c.1+(n2:Int)),(c.2.1,(c.2.2.1,(c.2.2.2.1++(List.range n2).map (λy=>IntKind.wrap .i64 (aI d y+(m:Int))),(List.range m).map λk=>cmR m2 f 0 (c.2.2.2.2.getD k []) k))))))))))) (n:=m) (o:=.brk 2 ((m:Int),((0:Int),(([]:LI),(([]:LI),(([]:LI),(([]:LL),(IntKind.wrap .i64 (c.1+(n2:Int)),(c.2.1,(c.2.2.1,(c.2.2.2.1++(List.range n2).map (λy=>IntKind.wrap .i64 (aI d y+(m:Int))),(List.range m).map λk=>cmR m2 m 0 (c.2.2.2.2.getD k []) k)))))))))))
  ?_ (λf e=>?_) (by rw[C4];exact LS rfl) (λy=>by simp)) (ifD rfl ?_)
 .have:c.2.2.2.2=(List.range m).map λk=>cmR m2 0 0 (c.2.2.2.2.getD k []) k:=by
   conv=>lhs;rw[<-mapD [] c.2.2.2.2,e6]
   refine List.map_congr_left λk hk=>?_
   show _=_++(List.range (if k<0 then m2 else if k=0 then 0 else 0)).map _
   rw[if_neg (by omega),ite_self,List.range_zero,List.map_nil,List.append_nil]
  show((0:Int),((0:Int),(([]:LI),(([]:LI),(([]:LI),(([]:LL),(_,(_,(_,(_,c.2.2.2.2))))))))))=_
  conv=>lhs;rw[this]
  rfl
 .rw[C4]
  refine LP e (Ae (itD (st:=λg:Nat=>((g:Int),((0:Int),(([]:LI),(([]:LI),(([]:LI),(([]:LL),(IntKind.wrap .i64 (c.1+(n2:Int)),(c.2.1,(c.2.2.1,(c.2.2.2.1++(List.range n2).map (λy=>IntKind.wrap .i64 (aI d y+(m:Int))),(List.range m).map λk=>cmR m2 f g (c.2.2.2.2.getD k []) k))))))))))) (n:=m2) (o:=.brk 4 ((m2:Int),((0:Int),(([]:LI),(([]:LI),(([]:LI),(([]:LL),(IntKind.wrap .i64 (c.1+(n2:Int)),(c.2.1,(c.2.2.1,(c.2.2.2.1++(List.range n2).map (λy=>IntKind.wrap .i64 (aI d y+(m:Int))),(List.range m).map λk=>cmR m2 f m2 (c.2.2.2.2.getD k []) k)))))))))))
   rfl (λg A=>?_) (LS rfl) (λy=>by simp)) (ifD rfl ?_))
  .have U:(0:Int)<=(f:Int)/\(f:Int)<(((List.range m).map λk=>cmR m2 f g (c.2.2.2.2.getD k []) k).length:Int):=by rw[C4];exact Ac e
   have W:((List.range m).map λk=>cmR m2 f g (c.2.2.2.2.getD k []) k).getD f []=cmR m2 f g (c.2.2.2.2.getD f []) f:=L7 e
   have hnx:cmR m2 f g (c.2.2.2.2.getD f []) f++[(-1:Int)]=cmR m2 f (g+1) (c.2.2.2.2.getD f []) f:=by
    unfold cmR;rw[if_neg (by omega),if_pos rfl,if_neg (by omega),if_pos rfl]
    exact Vz (F:=λ_=>(-1:Int))
   refine LP A (ifD U (ifD ⟨⟨U,⟨⟨Nat.le_refl _,Nat.le_refl _⟩,⟨Nat.le_refl _,Nat.le_refl _⟩,trivial⟩⟩,?_⟩ ?_))
   .show(((List.range m).map λk=>cmR m2 f g (c.2.2.2.2.getD k []) k).getD f []).length+1<=_
    rw[W];unfold cmR;rw[List.length_append,C4,if_neg (by omega),if_pos rfl,B.lr f e];omega
   .show some (LO.next (IntKind.wrap .i64 ((g:Int)+1),((0:Int),(([]:LI),(([]:LI),(([]:LI),(([]:LL),(_,(_,(_,(_,((List.range m).map λk=>cmR m2 f g (c.2.2.2.2.getD k []) k).set f (((List.range m).map λk=>cmR m2 f g (c.2.2.2.2.getD k []) k).getD f []++[(-1:Int)]))))))))))))=_
    rw[W,hnx,mapS (F':=λk=>cmR m2 f (g+1) (c.2.2.2.2.getD k []) k) e (λk _ J=>by unfold cmR;rw[if_neg J,if_neg J]),wrD A (by omega)]
  .show some (LO.next (IntKind.wrap .i64 ((f:Int)+1),((0:Int),(([]:LI),(([]:LI),(([]:LI),(([]:LL),(_,(_,(_,(_,(List.range m).map λk=>cmR m2 f m2 (c.2.2.2.2.getD k []) k)))))))))))=some (LO.next (_,((0:Int),(([]:LI),(([]:LI),(([]:LI),(([]:LL),(_,(_,(_,(_,(List.range m).map _)))))))))))
   rw[wrD e (by omega),List.map_congr_left (g:=λk=>cmR m2 (f+1) 0 (c.2.2.2.2.getD k []) k) λk hk=>?_]
   unfold cmR;by_cases h1:k<f
   .rw[if_pos h1,if_pos (by omega)]
   .by_cases h2:k=f
    .rw[if_neg h1,if_pos h2,if_pos (by omega)]
    .rw[if_neg h1,if_neg h2,if_neg (by omega),ite_self]
 dsimp only
 refine Ae (itD (st:=λf:Nat=>((f:Int),((0:Int),(([]:LI),(([]:LI),(([]:LI),(([]:LL),(IntKind.wrap .i64 (c.1+(n2:Int)),(c.2.1++(List.range f).map (λf=>IntKind.wrap .i64 (aF d f+c.1)),(c.2.2.1++(List.range f).map (λf=>IntKind.wrap .i64 (aT d f+c.1)),(c.2.2.2.1++(List.range n2).map (λy=>IntKind.wrap .i64 (aI d y+(m:Int))),((List.range m).map λk=>cmR m2 m 0 (c.2.2.2.2.getD k []) k)++(List.range f).map λf=>cmB d m m2 f))))))))))) (n:=m2) (o:=.brk 6 ((m2:Int),((0:Int),(([]:LI),(([]:LI),(([]:LI),(([]:LL),(IntKind.wrap .i64 (c.1+(n2:Int)),(c.2.1++(List.range m2).map (λf=>IntKind.wrap .i64 (aF d f+c.1)),(c.2.2.1++(List.range m2).map (λf=>IntKind.wrap .i64 (aT d f+c.1)),(c.2.2.2.1++(List.range n2).map (λy=>IntKind.wrap .i64 (aI d y+(m:Int))),((List.range m).map λk=>cmR m2 m 0 (c.2.2.2.2.getD k []) k)++(List.range m2).map λf=>cmB d m m2 f)))))))))))
  ?_ (λf e=>?_) (LS rfl) (λy=>by simp)) (ifD rfl ?_)
 .simp only[List.range_zero,List.map_nil,List.append_nil];rfl
 .have i1:(0:Int)<=(f:Int)/\(f:Int)<(d.2.1.length:Int):=by omega
  have i2:(0:Int)<=(f:Int)/\(f:Int)<(d.2.2.1.length:Int):=by omega
  have i3:(0:Int)<=(f:Int)/\(f:Int)<(d.2.2.2.2.length:Int):=by omega
  refine LP e (ifD (Ac e) (ifD ?_ (ifD i2 (ifD ?_ ?_))))
  .show(_++_:LI).length+1<=17592186044416
   rw[List.length_append,C4];omega
  .show(_++_:LI).length+1<=17592186044416
   rw[List.length_append,C4];omega
  refine Ae (itD (st:=λg:Nat=>((g:Int),(List.range g).map λ_=>(-1:Int))) (n:=m) (o:=.brk 8 ((m:Int),(List.range m).map λ_=>(-1:Int))) rfl (λg A=>LP A (ifD (by rw[C4];show g+1<=_;omega) ?_)) (LS rfl) (λy=>by simp)) (ifD rfl ?_)
  .show some (LO.next (IntKind.wrap .i64 ((g:Int)+1),(List.range g).map (λ_=>(-1:Int))++[(-1:Int)]))=_
   rw[Xp (F:=λ_=>(-1:Int)),wrD A (by omega)]
  refine Ae (itD (st:=λg:Nat=>((g:Int),((List.range m).map λ_=>(-1:Int))++(List.range g).map λg=>upC m (aC d f g))) (n:=m2) (o:=.brk 10 ((m2:Int),cmB d m m2 f)) ?_ (λg A=>?_) (LS rfl) (λy=>by simp)) (ifD rfl (ifD trivial (ifD ?_ ?_)))
  .rw[List.range_zero,List.map_nil,List.append_nil];rfl
  .have i4:(0:Int)<=(g:Int)/\(g:Int)<((d.2.2.2.2.getD f []).length:Int):=by rw[hd.lr f e];omega
   have u:(((List.range m).map λ_=>(-1:Int))++(List.range g).map λg=>upC m (aC d f g)).length+1<=17592186044416:=by
    rw[List.length_append,C4,C4];omega
   have E:∀v,v=upC m (aC d f g)->some (LO.next (R:=LO (Int×Int×LI×LI×LI×LL×Ca) Ca) (IntKind.wrap .i64 ((g:Int)+1),(((List.range m).map λ_=>(-1:Int))++(List.range g).map λg=>upC m (aC d f g))++[v]))=some (LO.next (((g+1:Nat):Int),((List.range m).map λ_=>(-1:Int))++(List.range (g+1)).map λg=>upC m (aC d f g))):=λv hv=>by
    rw[hv,Vz (F:=λg=>upC m (aC d f g)),wrD A (by omega)]
   refine LP A (ifD i3 (ifD i4 ?_));show(bif decide (0<=aC d f g)then _ else _)=_;by_cases Z:0<=aC d f g
   .rw[dT Z]
    exact ifD u (E _ (by unfold upC;rw[if_pos Z];rfl))
   .rw[dF Z]
    exact ifD u (E _ (by unfold upC;rw[if_neg Z];rfl))
  .show(_++_:LL).length+1<=5864062014805
   rw[List.length_append,C4,C4];omega
  .show some (LO.next (IntKind.wrap .i64 ((f:Int)+1),(_,(_,(_,(_,(_,(_,((c.2.1++(List.range f).map (λf=>IntKind.wrap .i64 (aF d f+c.1)))++[IntKind.wrap .i64 (aF d f+c.1)],((c.2.2.1++(List.range f).map (λf=>IntKind.wrap .i64 (aT d f+c.1)))++[IntKind.wrap .i64 (aT d f+c.1)],(_,(((List.range m).map λk=>cmR m2 m 0 (c.2.2.2.2.getD k []) k)++(List.range f).map λf=>cmB d m m2 f)++[cmB d m m2 f])))))))))))=_
   rw[Vz (F:=λf=>IntKind.wrap .i64 (aF d f+c.1)),Vz (F:=λf=>IntKind.wrap .i64 (aT d f+c.1)),Vz (F:=λf=>cmB d m m2 f),wrD e (by omega)]
 .unfold Ja;rw[e4]
def Dk(h:k<m+m2):k<m\/∃k',k'<m2/\k=m+k':=by
 by_cases e:k<m
 .exact .inl e
 .exact .inr ⟨k-m,by omega,by omega⟩
theorem UN(B:Sp c n m)(hd:Sp d n2 m2)(b1:n<=1000)(b2:m<=1000)(b3:n2<=1000)(b4:m2<=1000):Sp (Ja c d n m n2 m2) (n+n2) (m+m2):=by
 have F1:∀f,f<m->aF (Ja c d n m n2 m2) f=aF c f:=λf u=>AD (by rw[B.lf];exact u)
 have T1:∀f,f<m->aT (Ja c d n m n2 m2) f=aT c f:=λf u=>AD (by rw[B.lt];exact u)
 have F2:∀f x:Nat,f<m2->aF d f=x->x<n2->aF (Ja c d n m n2 m2) (m+f)=((n+x:Nat):Int):=λf x u e E=>by
  show(_++_:LI).getD _ _=_;rw[VU B.lf,L7 u,e,B.ob,Ah (by omega) (by omega)];omega
 have T2:∀f x:Nat,f<m2->aT d f=x->x<n2->aT (Ja c d n m n2 m2) (m+f)=((n+x:Nat):Int):=λf x u e E=>by
  show(_++_:LI).getD _ _=_;rw[VU B.lt,L7 u,e,B.ob,Ah (by omega) (by omega)];omega
 have rA:∀f,f<m->(Ja c d n m n2 m2).2.2.2.2.getD f []=c.2.2.2.2.getD f []++(List.range m2).map λ_=>(-1:Int):=λf u=>by
  show(_++_:LL).getD _ _=_;rw[AD (by rw[C4];exact u),L7 u]
  unfold cmR;rw[if_pos u]
 have rB:∀f,f<m2->(Ja c d n m n2 m2).2.2.2.2.getD (m+f) []=cmB d m m2 f:=λf u=>by
  show(_++_:LL).getD _ _=_;rw[VU C4,L7 u]
 have C11:∀f g,f<m->g<m->aC (Ja c d n m n2 m2) f g=aC c f g:=λf g u J=>by
  show((Ja c d n m n2 m2).2.2.2.2.getD f []).getD g 0=_;rw[rA f u,AD (by rw[B.lr f u];exact J)];rfl
 have C12:∀f g,f<m->g<m2->aC (Ja c d n m n2 m2) f (m+g)= -1:=λf g u J=>by
  show((Ja c d n m n2 m2).2.2.2.2.getD f []).getD (m+g) 0=_;rw[rA f u,VU (B.lr f u),L7 J]
 have C21:∀f g,f<m2->g<m->aC (Ja c d n m n2 m2) (m+f) g= -1:=λf g u J=>by
  show((Ja c d n m n2 m2).2.2.2.2.getD (m+f) []).getD g 0=_;rw[rB f u];unfold cmB;rw[AD (by rw[C4];exact J),L7 J]
 have C22:∀f g,f<m2->g<m2->aC (Ja c d n m n2 m2) (m+f) (m+g)=upC m (aC d f g):=λf g u J=>by
  show((Ja c d n m n2 m2).2.2.2.2.getD (m+f) []).getD (m+g) 0=_;rw[rB f u];unfold cmB;rw[VU C4,L7 J]
 refine⟨?_,?_,?_,?_,?_,λf u=>?_,λf u=>?_,λf u=>?_,λx E=>?_,λf g u J U=>?_,λf g u J U=>?_⟩
 .show IntKind.wrap .i64 (c.1+d.1)=_
  rw[B.ob,hd.ob,Ah (by omega) (by omega)];omega
 .show(_++_:LI).length=_
  rw[List.length_append,C4,B.lf]
 .show(_++_:LI).length=_
  rw[List.length_append,C4,B.lt]
 .show(_++_:LI).length=_
  rw[List.length_append,C4,B.li]
 .show(_++_:LL).length=_
  rw[List.length_append,C4,C4]
 .rcases Dk u with h|⟨f,h,rfl⟩
  .rw[rA f h,List.length_append,C4,B.lr f h]
  .rw[rB f h];unfold cmB;rw[List.length_append,C4,C4]
 .rcases Dk u with h|⟨f,h,rfl⟩
  .obtain⟨x,E,e⟩:=B.fr f h
   exact⟨x,by omega,by rw[F1 f h,e]⟩
  .obtain⟨x,E,e⟩:=hd.fr f h
   exact⟨n+x,by omega,F2 f x h e E⟩
 .rcases Dk u with h|⟨f,h,rfl⟩
  .obtain⟨x,E,e⟩:=B.to f h
   exact⟨x,by omega,by rw[T1 f h,e]⟩
  .obtain⟨x,E,e⟩:=hd.to f h
   exact⟨n+x,by omega,T2 f x h e E⟩
 .rcases Dk E with h|⟨x,h,rfl⟩
  .obtain⟨f,u,e⟩:=B.ix x h
   exact⟨f,by omega,(AD (by rw[B.li];exact h)).trans e⟩
  .obtain⟨f,u,e⟩:=hd.ix x h
   refine⟨m+f,by omega,?_⟩
   show(_++_:LI).getD _ _=_;rw[VU B.li,L7 h,e,Ah (by omega) (by omega)];omega
 .rcases Dk u with h|⟨f,h,rfl⟩<;>rcases Dk J with A|⟨g,A,rfl⟩
  .rw[T1 f h,F1 g A]at U
   obtain⟨k,h1,h2,h3,h4⟩:=B.cp f g h A U;exact⟨k,by omega,by rw[C11 f g h A,h2],by rw[F1 k h1,F1 f h,h3],by rw[T1 k h1,T1 g A,h4]⟩
  .obtain⟨x,E,e⟩:=B.to f h
   obtain⟨y,Z,W⟩:=hd.fr g A;rw[T1 f h,F2 g y A W Z,e]at U;omega
  .obtain⟨x,E,e⟩:=hd.to f h
   obtain⟨y,Z,W⟩:=B.fr g A;rw[F1 g A,T2 f x h e E,W]at U;omega
  .obtain⟨x,E,e⟩:=hd.to f h
   obtain⟨y,Z,W⟩:=hd.fr g A;obtain⟨x0,hx0,e0⟩:=hd.fr f h;obtain⟨y0,hy0,e0'⟩:=hd.to g A;rw[F2 g y A W Z,T2 f x h e E]at U;obtain⟨k,h1,h2,h3,h4⟩:=hd.cp f g h A (by rw[e,W];omega)
   refine⟨m+k,by omega,?_,by rw[F2 f x0 h e0 hx0,F2 k x0 h1 (h3.trans e0) hx0],by rw[T2 g y0 A e0' hy0,T2 k y0 h1 (h4.trans e0') hy0]⟩
   rw[C22 f g h A,h2];unfold upC;rw[if_pos (by omega),Ah (by omega) (by omega)];omega
 .rcases Dk u with h|⟨f,h,rfl⟩<;>rcases Dk J with A|⟨g,A,rfl⟩
  .rw[T1 f h,F1 g A]at U
   rw[C11 f g h A];exact B.cn f g h A U
  .rw[C12 f g h A];decide
  .rw[C21 f g h A];decide
  .obtain⟨x,E,e⟩:=hd.to f h
   obtain⟨y,Z,W⟩:=hd.fr g A;rw[F2 g y A W Z,T2 f x h e E]at U;have:=hd.cn f g h A (by rw[e,W];omega)
   rw[C22 f g h A];unfold upC;rw[if_neg (by omega)];exact this
def p117(e:Sp c n m)(hd:Sp d n2 m2)(E:n<=1000)(B:m<=1000)(A:n2<=1000)(u:m2<=1000):Tot (λr=>Sp r (n+n2) (m+m2)) (G117 (c,d)):=
 ⟨_,p117' e hd E B A u,UN e hd E B A u⟩
end
end Go.Ve.D

