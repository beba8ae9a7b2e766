/- The category of a reflexive and transitive relation. -/
import Derived.Test.YtojjlnbnneemaaaDra
open List(length_append range range_zero map_nil append_nil)
open Nat(not_lt_zero le_refl)
open Go.IntKind(wrap)
set_option linter.all false
namespace Go.Ve.D
open Go Go.Ve
noncomputable section
variable{fr to:LI}{a b n:Nat}{α:Type}
def At(fr to:LI)(q:Int)(a b:Nat):Prop:=∃k:Nat,q=k/\k<fr.length/\fr.getD k 0=(a:Int)/\to.getD k 0=(b:Int)
theorem XF{q u w:Int}(O:to.length=fr.length)(h:At fr to q a b):At (fr++[u]) (to++[w]) q a b:=by
 obtain⟨k,J,E,B,A⟩:=h;exact⟨k,J,by rw[length_append];omega,by rw[AE E];exact B,by rw[AE (by omega)];exact A⟩
def at_new(u:to.length=fr.length):At (fr++[(a:Int)]) (to++[(b:Int)]) (fr.length:Int) a b:=
 ⟨fr.length,rfl,by simp,Dt,by rw[<-u];exact Dt⟩
def Ar(x:LL)(n:Nat)(fr to:LI):Prop:=∀k,k<fr.length->∃a b:Nat,a<n/\b<n/\fr.getD k 0=(a:Int)/\to.getD k 0=(b:Int)/\one x a b
theorem Ace{x:LL}(A:to.length=fr.length)(h:Ar x n fr to)(E:a<n)(B:b<n)(J:one x a b):Ar x n (fr++[(a:Int)]) (to++[(b:Int)]):=by
 intro k u;by_cases e:k=fr.length
 .subst e;exact⟨a,b,E,B,Dt,by rw[<-A];exact Dt,J⟩
 .have u:k<fr.length:=by rw[length_append]at u;simp at u;omega
  obtain⟨U,O,h⟩:=h k u;exact⟨U,O,by rw[AE u,AE (by omega)];exact h⟩
def A6{x:List α}{a:α}(h:x.length=n):(x++[a]).length=n+1:=by rw[length_append,h];rfl
def Bt{P:Nat->α->Prop}{x:List α}{a d:α}(u:x.length=n)(h:∀k,k<n->P k (x.getD k d))(A:P n a):∀k,k<n+1->P k ((x++[a]).getD k d):=by
 intro k B;by_cases e:k=n
 .subst e;rw[<-u,Dt];rw[u];exact A
 .rw[AE (by omega)];exact h k (by omega)
theorem p48(hn:n<=1000){x:LL}(h:Tr n x):Tot (λc=>∃m,m<=n*n/\Sp c n m) (G48 x):=by
 obtain⟨hsq,hrf,htr⟩:=h;have hxl:=hsq.1;have nn:n*n<=1000000:=Nat.mul_le_mul hn hn
 delta G48 mA mB ln lw l2 g2 k3 k4 k5 k7 k8 lt gd li l0 q4 q9 sc nx bk cp
 rw[hxl];refine Au (n:=n) (λi v=>v.1=(i:Int)/\v.2.2.2.2.2.2.2.1=(n:Int)/\(v.2.2.2.2.2.2.2.2.2.1.length=v.2.2.2.2.2.2.2.2.1.length/\v.2.2.2.2.2.2.2.2.1.length<=i*n/\Ar x n v.2.2.2.2.2.2.2.2.1 v.2.2.2.2.2.2.2.2.2.1)/\(v.2.2.2.2.2.2.1.length=i/\∀a,a<i->(v.2.2.2.2.2.2.1.getD a []).length=n/\∀b,b<n->one x a b->At v.2.2.2.2.2.2.2.2.1 v.2.2.2.2.2.2.2.2.2.1 (en v.2.2.2.2.2.2.1 a b) a b)/\v.2.2.2.2.2.2.2.2.2.2=([],[])) ⟨rfl,rfl,⟨rfl,Nat.zero_le _,λk hk=>absurd hk (not_lt_zero _)⟩,⟨rfl,λa ha=>absurd ha (not_lt_zero _)⟩,rfl⟩ (λi hi v hv=>?_) λv hv=>?_
 .obtain⟨_,o1,o2,o3,o4,o5,nu,_,fr,to,ic⟩:=v
  obtain⟨(rfl:_=(i:Int)),(rfl:_=(n:Int)),⟨(hl:to.length=fr.length),(hb:fr.length<=i*n),(ha:Ar x n fr to)⟩,⟨(hnl:nu.length=i),(Z:∀a,a<i->(nu.getD a []).length=n/\∀b,b<n->one x a b->At fr to (en nu a b) a b)⟩,(rfl:ic=([],[]))⟩:=hv;have hin:i*n<=n*n:=Nat.mul_le_mul_right _ (by omega)
  have hin2:(i+1)*n<=n*n:=Nat.mul_le_mul_right _ (by omega)
  rw[Nat.succ_mul]at hin2;refine A5 (ltD hi) (Au (n:=n) (λj v=>v.1=(j:Int)/\v.2.2.2.2.2.2.2.1=(n:Int)/\(v.2.2.2.2.2.2.2.2.2.1.length=v.2.2.2.2.2.2.2.2.1.length/\v.2.2.2.2.2.2.2.2.1.length<=i*n+j/\Ar x n v.2.2.2.2.2.2.2.2.1 v.2.2.2.2.2.2.2.2.2.1)/\v.2.2.2.2.2.2.1=nu/\(∀a,a<i->∀b,b<n->one x a b->At v.2.2.2.2.2.2.2.2.1 v.2.2.2.2.2.2.2.2.2.1 (en nu a b) a b)/\v.2.2.2.2.2.2.2.2.2.2.1=[]/\v.2.2.2.2.2.2.2.2.2.2.2.1=[]/\v.2.2.2.2.2.2.2.2.2.2.2.2.length=j/\∀b,b<j->one x i b->At v.2.2.2.2.2.2.2.2.1 v.2.2.2.2.2.2.2.2.2.1 (v.2.2.2.2.2.2.2.2.2.2.2.2.getD b 0) i b) ⟨rfl,rfl,⟨hl,hb,ha⟩,rfl,λa h=>(Z a h).2,rfl,rfl,rfl,λb hb=>absurd hb (not_lt_zero _)⟩ (λj hj v hv=>?_) λv hv=>?_)
  .obtain⟨_,o1,o2,o3,o4,o5,J,_,fr,to,U,Y,row⟩:=v
   obtain⟨(rfl:_=(j:Int)),(rfl:_=(n:Int)),⟨(hl:to.length=fr.length),(hb:fr.length<=i*n+j),(ha:Ar x n fr to)⟩,(rfl:J=nu),(Z:∀a,a<i->∀b,b<n->one x a b->At fr to (en J a b) a b),(rfl:U=[]),(rfl:Y=[]),(W:row.length=j),(O:∀b,b<j->one x i b->At fr to (row.getD b 0) i b)⟩:=hv;refine A5 (ltD hj) (Ab (by show row.length+1<=_;omega) (Ab (Ac hi) (Ab (KC hsq hi hj) (An (λe=>?_) λe=>?_))))
   .have e:one x i j:=B3 (p:=en x i j=1) e
    refine Ab (by show fr.length+1<=_;omega) (Ab (by show to.length+1<=_;omega) (Aa ⟨wrD hj (by omega),rfl,⟨?_,?_,Ace hl ha hi hj e⟩,rfl,λa h1 b h2 h3=>XF hl (Z a h1 b h2 h3),rfl,rfl,A6 W,Bt (P:=λb (q:Int)=>one x i b->At (fr++[(i:Int)]) (to++[(j:Int)]) q i b) W (λb h1 h2=>XF hl (O b h1 h2)) λ_=>at_new hl⟩))
    .show(to++[_]).length=(fr++[_]).length
     rw[length_append,length_append,hl];rfl
    .show(fr++[_]).length<=_
     rw[length_append];show fr.length+1<=_;omega
   .have e:¬one x i j:=JW (p:=en x i j=1) e
    exact Aa ⟨wrD hj (by omega),rfl,⟨hl,by show fr.length<=i*n+(j+1);omega,ha⟩,rfl,Z,rfl,rfl,A6 W,Bt (P:=λb (q:Int)=>one x i b->At fr to q i b) W O λh=>absurd h e⟩
  .obtain⟨_,o1,o2,o3,o4,o5,J,_,fr,to,U,Y,row⟩:=v
   obtain⟨(rfl:_=(n:Int)),(rfl:_=(n:Int)),⟨(hl:to.length=fr.length),(hb:fr.length<=i*n+n),(ha:Ar x n fr to)⟩,(rfl:J=nu),(hnu2:∀a,a<i->∀b,b<n->one x a b->At fr to (en J a b) a b),(rfl:U=[]),(rfl:Y=[]),(W:row.length=n),(O:∀b,b<n->one x i b->At fr to (row.getD b 0) i b)⟩:=hv;refine A8 ltf (Aa (Ab rfl (Ab trivial (Ab (by show J.length+1<=_;omega) (Aa ⟨wrD hi (by omega),rfl,⟨hl,by show fr.length<=(i+1)*n;rw[Nat.succ_mul];exact hb,ha⟩,⟨A6 hnl,?_⟩,rfl⟩)))))
   exact Bt (P:=λa (r:LI)=>r.length=n/\∀b,b<n->one x a b->At fr to (r.getD b 0) a b) hnl (λa h=>⟨(Z a h).1,hnu2 a h⟩) ⟨W,O⟩
 .obtain⟨_,o1,o2,o3,o4,o5,nu,_,fr,to,ic⟩:=v
  obtain⟨(rfl:_=(n:Int)),(rfl:_=(n:Int)),⟨(hl:to.length=fr.length),(hb:fr.length<=n*n),(ha:Ar x n fr to)⟩,⟨(hnl:nu.length=n),(Z:∀a,a<n->(nu.getD a []).length=n/\∀b,b<n->one x a b->At fr to (en nu a b) a b)⟩,(rfl:ic=([],[]))⟩:=hv;have hnq:Sq n nu:=⟨hnl,λa h=>(Z a h).1⟩
  refine A8 ltf (Aa (Ab rfl (Au (n:=n) (λi v=>v.1=(i:Int)/\v.2.2.2.2.2.2.1=nu/\v.2.2.2.2.2.2.2.1=(n:Int)/\v.2.2.2.2.2.2.2.2.1=fr/\v.2.2.2.2.2.2.2.2.2.1=to/\(v.2.2.2.2.2.2.2.2.2.2.1.length=i/\∀a,a<i->∃f:Nat,f<fr.length/\v.2.2.2.2.2.2.2.2.2.2.1.getD a 0=(f:Int))/\v.2.2.2.2.2.2.2.2.2.2.2=[]) ⟨rfl,rfl,rfl,rfl,rfl,⟨rfl,λa h=>absurd h (not_lt_zero _)⟩,rfl⟩ (λi hi v hv=>?_) λv hv=>?_)))
  .obtain⟨_,o1,o2,o3,o4,o5,J,_,B,E,U,Y⟩:=v
   obtain⟨(rfl:_=(i:Int)),(rfl:J=nu),(rfl:_=(n:Int)),(rfl:B=fr),(rfl:E=to),⟨(hil:U.length=i),(hid:∀a,a<i->∃f:Nat,f<B.length/\U.getD a 0=(f:Int))⟩,(rfl:Y=[])⟩:=hv;obtain⟨k,hk,hk2,_⟩:=(Z i hi).2 i hi (hrf i hi);refine A5 (ltD hi) (Ab (VX hnq hi) (Ab (KC hnq hi hi) (Ab (by show U.length+1<=_;omega) (Aa ⟨wrD hi (by omega),rfl,rfl,rfl,rfl,⟨A6 hil,?_⟩,rfl⟩))))
   exact Bt (P:=λ_ q=>∃f:Nat,f<B.length/\q=(f:Int)) hil hid ⟨k,hk2,hk⟩
  .obtain⟨_,o1,o2,o3,o4,o5,J,_,B,E,U,Y⟩:=v
   obtain⟨(rfl:_=(n:Int)),(rfl:J=nu),(rfl:_=(n:Int)),(rfl:B=fr),(rfl:E=to),⟨(hil:U.length=n),(hid:∀a,a<n->∃f:Nat,f<B.length/\U.getD a 0=(f:Int))⟩,(rfl:Y=[])⟩:=hv;generalize hm:B.length=m at*
   have ent:∀f g,f<m->g<m->E.getD f 0=B.getD g 0->∃a b:Nat,a<n/\b<n/\B.getD f 0=(a:Int)/\E.getD g 0=(b:Int)/\∃k:Nat,en J a b=(k:Int)/\k<m/\B.getD k 0=(a:Int)/\E.getD k 0=(b:Int):=by
    intro f g hf hg he;obtain⟨a,b,h1,h2,h3,h4,h5⟩:=ha f (by omega)
    obtain⟨a',b',k1,k2,k3,k4,k5⟩:=ha g (by omega)
    have:b=a':=by omega
    subst this;obtain⟨k,j1,j2,j3,j4⟩:=(Z a h1).2 b' k2 (htr a b' b h1 k2 h2 h5 k5);exact⟨a,b',h1,k2,h3,k4,k,j1,by omega,j3,j4⟩
   have P1:∀f,f<m->(0:Int)<=(f:Int)/\(f:Int)<(B.length:Int):=λf h=>by omega
   have P2:∀f,f<m->(0:Int)<=(f:Int)/\(f:Int)<(E.length:Int):=λf h=>by omega
   refine A8 ltf (Aa (Ab rfl (Au (n:=m) (λf v=>v.1=(f:Int)/\v.2.2.2.2.2.2.1=J/\v.2.2.2.2.2.2.2.1=(n:Int)/\v.2.2.2.2.2.2.2.2.1=B/\v.2.2.2.2.2.2.2.2.2.1=E/\v.2.2.2.2.2.2.2.2.2.2.1=U/\v.2.2.2.2.2.2.2.2.2.2.2.length=f/\∀k,k<f->(v.2.2.2.2.2.2.2.2.2.2.2.getD k []).length=m/\∀g,g<m->(E.getD k 0=B.getD g 0->∃h:Nat,h<m/\(v.2.2.2.2.2.2.2.2.2.2.2.getD k []).getD g 0=h/\B.getD h 0=B.getD k 0/\E.getD h 0=E.getD g 0)/\(E.getD k 0≠B.getD g 0->(v.2.2.2.2.2.2.2.2.2.2.2.getD k []).getD g 0<0)) ⟨rfl,rfl,rfl,rfl,rfl,rfl,rfl,λk h=>absurd h (not_lt_zero _)⟩ (λf hf v hv=>?_) λv hv=>?_)))
   .obtain⟨_,o1,o2,o3,o4,o5,nu'',_,u,A,idl',Y⟩:=v
    obtain⟨(rfl:_=(f:Int)),(rfl:nu''=J),(rfl:_=(n:Int)),(rfl:u=B),(rfl:A=E),(rfl:idl'=U),(hcl:Y.length=f),hcm⟩:=hv;refine A5 (by show decide ((f:Int)<(u.length:Int))=true;rw[hm];exact ltD hf) (Au (n:=m) (λg v=>v.1=(g:Int)/\v.2.length=g/\∀k,k<g->(A.getD f 0=u.getD k 0->∃h:Nat,h<m/\v.2.getD k 0=h/\u.getD h 0=u.getD f 0/\A.getD h 0=A.getD k 0)/\(A.getD f 0≠u.getD k 0->v.2.getD k 0<0)) ⟨rfl,rfl,λk h=>absurd h (not_lt_zero _)⟩ (λg hg v hv=>?_) λv hv=>?_)
    .obtain⟨_,row⟩:=v
     obtain⟨(rfl:_=(g:Int)),(W:row.length=g),O⟩:=hv;refine A5 (by show decide ((g:Int)<(u.length:Int))=true;rw[hm];exact ltD hg) (Ab (P2 f hf) (Ab (P1 g hg) (An (λe=>?_) λe=>?_)))
     .have e:A.getD f 0=u.getD g 0:=B3 e
      obtain⟨a,b,h1,h2,h3,h4,k,h5,h6,h7,h8⟩:=ent f g hf hg e;refine Ab (P1 f hf) (Ab ?_ (Ab (P2 g hg) (Ab ?_ (Ab (by show row.length+1<=_;omega) (Aa ⟨wrD hg (by omega),A6 W,Bt (P:=λk (q:Int)=>(A.getD f 0=u.getD k 0->∃h:Nat,h<m/\q=h/\u.getD h 0=u.getD f 0/\A.getD h 0=A.getD k 0)/\(A.getD f 0≠u.getD k 0->q<0)) W O ⟨λ_=>⟨k,h6,?_,by rw[h7,h3],by rw[h8,h4]⟩,λh=>absurd e h⟩⟩)))))
      .show(0:Int)<=u.getD f 0/\u.getD f 0<(nu''.length:Int)
       rw[h3,hnl];omega
      .show(0:Int)<=A.getD g 0/\A.getD g 0<((nu''.getD (u.getD f 0).toNat []).length:Int)
       rw[h3,h4,show((a:Int)).toNat=a from rfl,(Z a h1).1];omega
      .show(nu''.getD (u.getD f 0).toNat []).getD (A.getD g 0).toNat 0=_
       rw[h3,h4];exact h5
     .have e:¬A.getD f 0=u.getD g 0:=JW e
      exact Ab (by show row.length+1<=_;omega) (Aa ⟨wrD hg (by omega),A6 W,Bt (P:=λk (q:Int)=>(A.getD f 0=u.getD k 0->∃h:Nat,h<m/\q=h/\u.getD h 0=u.getD f 0/\A.getD h 0=A.getD k 0)/\(A.getD f 0≠u.getD k 0->q<0)) W O ⟨λh=>absurd h e,λ_=>by decide⟩⟩)
    .obtain⟨_,row⟩:=v
     obtain⟨(rfl:_=(m:Int)),(W:row.length=m),O⟩:=hv;exact A8 (by show decide ((m:Int)<(u.length:Int))=false;rw[hm];exact ltf) (Aa (Ab rfl (Ab trivial (Ab (by show Y.length+1<=_;omega) (Aa ⟨wrD hf (by omega),rfl,rfl,rfl,rfl,rfl,A6 hcl,Bt (P:=λk (r:LI)=>r.length=m/\∀g,g<m->(A.getD k 0=u.getD g 0->∃h:Nat,h<m/\r.getD g 0=h/\u.getD h 0=u.getD k 0/\A.getD h 0=A.getD g 0)/\(A.getD k 0≠u.getD g 0->r.getD g 0<0)) hcl hcm ⟨W,O⟩⟩)))))
   .obtain⟨_,o1,o2,o3,o4,o5,nu'',_,u,A,idl',Y⟩:=v
    obtain⟨(rfl:_=(m:Int)),(rfl:nu''=J),(rfl:_=(n:Int)),(rfl:u=B),(rfl:A=E),(rfl:idl'=U),(hcl:Y.length=m),hcm⟩:=hv;refine A8 (by show decide ((m:Int)<(u.length:Int))=false;rw[hm];exact ltf) (Aa (Ab rfl (Aa ⟨m,hb,rfl,hm,by show A.length=m;omega,hil,hcl,λf hf=>(hcm f hf).1,λf hf=>?_,λf hf=>?_,hid,λf g hf hg=>((hcm f hf).2 g hg).1,λf g hf hg=>((hcm f hf).2 g hg).2⟩)))
    .obtain⟨a,b,h1,h2,h3,h4,h5⟩:=ha f (by omega)
     exact⟨a,h1,h3⟩
    .obtain⟨a,b,h1,h2,h3,h4,h5⟩:=ha f (by omega)
     exact⟨b,h2,h4⟩
end
end Go.Ve.D


namespace Go.Ve.D
open Go Go.Ve
noncomputable section
variable{c d:Ca}{i k m m2 n n2:Nat}{α:Type}
def itD{X R:Type}{f:X->Option (LO X R)}{st:Nat->X}{o:LO X R}{x:X}(E:x=st 0)(B:∀i,i<n->f (st i)=some (.next (st (i+1))))(A:f (st n)=some o)(u:∀y,o≠.next y):A4 f x=some o:=by
 subst E;exact AG B A u
def ifD{p:Prop} [Decidable p]{x y r:α}(h:p)(u:x=r):(if p then x else y)=r:=by rw[if_pos h];exact u
def MC{x y r:α}(h:i<n)(u:x=r):(bif decide ((i:Int)<(n:Int))then x else y)=r:=by rw[ltD h];exact u
def MD{x y r:α}(u:y=r):(bif decide ((n:Int)<(n:Int))then x else y)=r:=by rw[ltf];exact u
def mapD(d:α)(x:List α):(range x.length).map (λi=>x.getD i d)=x:=by
 apply List.ext_getElem?;intro j;by_cases u:j<x.length<;>simp[u]
def MU{F:Nat->α}{d:α}(u:i<n):((range n).map F).getD i d=F i:=by simp[u]
def mapS{F F':Nat->α}(A:i<n)(h:∀k,k<n->k≠i->F' k=F k):((range n).map F).set i (F' i)=(range n).map F':=by
 apply List.ext_getElem?;intro k;by_cases u:k<n
 .by_cases e:k=i
  .subst e;simp[u]
  .rw[List.getElem?_set_ne (Ne.symm e)];simp[u,h k u e]
 .simp[u]
def Df{F:Nat->α}:((range n).map F).length=n:=by simp
def YT{F:Nat->α}:(range n).map F++[F n]=(range (n+1)).map F:=by simp[List.range_succ]
def WR{x:List α}{F:Nat->α}:(x++(range n).map F)++[F n]=x++(range (n+1)).map F:=by rw[List.append_assoc,YT]
def Xk{x y:List α}{d:α}(h:x.length=n):(x++y).getD (n+k) d=y.getD k d:=by
 subst h;rw[gDE,gAR (by omega),gDE]
 congr 2;omega
def X2{x:LI}(h:x.length<=1048576):G100 x=some x:=by
 delta G100 mA cp
 exact ifD (by show 0+x.length<=_;omega) rfl
theorem p50{x:LL}(h:x.length<=1048576)(A:∀i,i<x.length->(x.getD i []).length<=1048576):G50 x=some x:=by
 delta G50 mB lw lt gd li sc nx bk cp
 refine Ao (itD (st:=λi:Nat=>((i:Int),(range i).map λi=>x.getD i [])) (n:=x.length) (o:=.brk 0 ((x.length:Int),(range x.length).map λi=>x.getD i [])) rfl (λi u=>?_) (MD rfl) (λy=>by simp)) (by show some ((range x.length).map λi=>x.getD i [])=_;rw[mapD])
 refine MC u (ifD (Ac u) (Ao (X2 (A i u)) (ifD trivial (ifD (by rw[Df];show i+1<=_;omega) ?_))))
 show some (LO.next (wrap .i64 ((i:Int)+1),(range i).map (λi=>x.getD i [])++[x.getD i []]))=_
 rw[YT (F:=λi=>x.getD i []),wrD u h]
theorem Acq(h:Sp c n m)(A:n<=1000)(B:m<=1000):G126 c=some c:=by
 delta G126 q4
 refine Ao (X2 (by rw[h.lf];omega)) (Ao (X2 (by rw[h.lt];omega)) (Ao (X2 (by rw[h.li];omega)) (Ao (p50 (by rw[h.lc];omega) λi u=>?_) rfl)))
 rw[h.lr i (by rw[h.lc]at u;exact u)];omega
def upC(m:Nat)(h:Int):Int:=if 0<=h then wrap .i64 (h+(m:Int))else h
def cmR(m2 f g:Nat)(r:LI)(k:Nat):LI:=r++(range (if k<f then m2 else if k=f then g else 0)).map λ_=>(-1:Int)
def cmB(d:Ca)(m m2 f:Nat):LI:=((range m).map λ_=>(-1:Int))++(range m2).map λg=>upC m (aC d f g)
def Jh(c d:Ca)(n m n2 m2:Nat):Ca:=(wrap .i64 (c.1+d.1),(c.2.1++(range m2).map λf=>wrap .i64 (aF d f+c.1)),(c.2.2.1++(range m2).map λf=>wrap .i64 (aT d f+c.1)),(c.2.2.2.1++(range n2).map λy=>wrap .i64 (aI d y+(m:Int))),
 ((range m).map λk=>cmR m2 m 0 (c.2.2.2.2.getD k []) k)++(range m2).map λf=>cmB d m m2 f)
theorem p165'(E:Sp c n m)(hd:Sp d n2 m2)(b1:n<=1000)(b2:m<=1000)(b3:n2<=1000)(b4:m2<=1000):G165 (c,d)=some (Jh c d n m n2 m2):=by
 have e1:=E.lf;have e2:=hd.lf;have e3:=hd.lt;have e4:=hd.ob;have e5:=hd.li;have e6:=E.lc;have e7:=hd.lc;have e8:=E.li;have e9:=E.lt
 delta G165 mA mB ln lw l2 g2 k6 k8 lt gd li l0 q4 q9 wz sc nx bk cp
 refine Ao (Acq E b1 b2) ?_
 dsimp only
 rw[e1,e2,e4]
 refine Ao (itD (st:=λy:Nat=>((y:Int),((0:Int),(([]:LI),(([]:LI),(([]:LI),(([]:LL),(wrap .i64 (c.1+(n2:Int)),(c.2.1,(c.2.2.1,(c.2.2.2.1++(range y).map (λy=>wrap .i64 (aI d y+(m:Int))),c.2.2.2.2))))))))))) (n:=n2) (o:=.brk 0 ((n2:Int),((0:Int),(([]:LI),(([]:LI),(([]:LI),(([]:LL),(wrap .i64 (c.1+(n2:Int)),(c.2.1,(c.2.2.1,(c.2.2.2.1++(range n2).map (λy=>wrap .i64 (aI d y+(m:Int))),c.2.2.2.2)))))))))))
  ?_ (λy hy=>?_) (MD rfl) (λy=>by simp)) (ifD rfl ?_)
 .show((0:Int),_)=_
  rw[range_zero,map_nil,append_nil];rfl
 .refine MC hy (ifD (by show(0:Int)<=(y:Int)/\(y:Int)<(d.2.2.2.1.length:Int);omega) (ifD (by show(_++_:LI).length+1<=17592186044416;rw[length_append,Df];omega) ?_))
  show some (LO.next (wrap .i64 ((y:Int)+1),(_,(_,(_,(_,(_,(_,(_,(_,((c.2.2.2.1++(range y).map (λy=>wrap .i64 (aI d y+(m:Int))))++[wrap .i64 (aI d y+(m:Int))],_)))))))))))=_
  rw[WR (F:=λy=>wrap .i64 (aI d y+(m:Int))),wrD hy (by omega)]
 dsimp only
 refine Ao (itD (st:=λf:Nat=>((f:Int),((0:Int),(([]:LI),(([]:LI),(([]:LI),(([]:LL),(wrap .i64 (c.1+(n2:Int)),(c.2.1,(c.2.2.1,(c.2.2.2.1++(range n2).map (λy=>wrap .i64 (aI d y+(m:Int))),(range m).map λk=>cmR m2 f 0 (c.2.2.2.2.getD k []) k))))))))))) (n:=m) (o:=.brk 2 ((m:Int),((0:Int),(([]:LI),(([]:LI),(([]:LI),(([]:LL),(wrap .i64 (c.1+(n2:Int)),(c.2.1,(c.2.2.1,(c.2.2.2.1++(range n2).map (λy=>wrap .i64 (aI d y+(m:Int))),(range m).map λk=>cmR m2 m 0 (c.2.2.2.2.getD k []) k)))))))))))
  ?_ (λf u=>?_) (by rw[Df];exact MD rfl) (λy=>by simp)) (ifD rfl ?_)
 .have:c.2.2.2.2=(range m).map λk=>cmR m2 0 0 (c.2.2.2.2.getD k []) k:=by
   conv=>lhs;rw[<-mapD [] c.2.2.2.2,e6]
   refine List.map_congr_left λk hk=>?_
   show _=_++(range (if k<0 then m2 else if k=0 then 0 else 0)).map _
   rw[if_neg (by omega),ite_self,range_zero,map_nil,append_nil]
  show((0:Int),((0:Int),(([]:LI),(([]:LI),(([]:LI),(([]:LL),(_,(_,(_,(_,c.2.2.2.2))))))))))=_
  conv=>lhs;rw[this]
  rfl
 .rw[Df]
  refine MC u (Ao (itD (st:=λg:Nat=>((g:Int),((0:Int),(([]:LI),(([]:LI),(([]:LI),(([]:LL),(wrap .i64 (c.1+(n2:Int)),(c.2.1,(c.2.2.1,(c.2.2.2.1++(range n2).map (λy=>wrap .i64 (aI d y+(m:Int))),(range m).map λk=>cmR m2 f g (c.2.2.2.2.getD k []) k))))))))))) (n:=m2) (o:=.brk 4 ((m2:Int),((0:Int),(([]:LI),(([]:LI),(([]:LI),(([]:LL),(wrap .i64 (c.1+(n2:Int)),(c.2.1,(c.2.2.1,(c.2.2.2.1++(range n2).map (λy=>wrap .i64 (aI d y+(m:Int))),(range m).map λk=>cmR m2 f m2 (c.2.2.2.2.getD k []) k)))))))))))
   rfl (λg B=>?_) (MD rfl) (λy=>by simp)) (ifD rfl ?_))
  .have U:(0:Int)<=(f:Int)/\(f:Int)<(((range m).map λk=>cmR m2 f g (c.2.2.2.2.getD k []) k).length:Int):=by rw[Df];exact Ac u
   have W:((range m).map λk=>cmR m2 f g (c.2.2.2.2.getD k []) k).getD f []=cmR m2 f g (c.2.2.2.2.getD f []) f:=MU u
   have Z:cmR m2 f g (c.2.2.2.2.getD f []) f++[(-1:Int)]=cmR m2 f (g+1) (c.2.2.2.2.getD f []) f:=by
    unfold cmR;rw[if_neg (by omega),if_pos rfl,if_neg (by omega),if_pos rfl]
    exact WR (F:=λ_=>(-1:Int))
   refine MC B (ifD U (ifD ⟨⟨U,⟨⟨le_refl _,le_refl _⟩,⟨le_refl _,le_refl _⟩,trivial⟩⟩,?_⟩ ?_))
   .show(((range m).map λk=>cmR m2 f g (c.2.2.2.2.getD k []) k).getD f []).length+1<=_
    rw[W];unfold cmR;rw[length_append,Df,if_neg (by omega),if_pos rfl,E.lr f u];omega
   .show some (LO.next (wrap .i64 ((g:Int)+1),((0:Int),(([]:LI),(([]:LI),(([]:LI),(([]:LL),(_,(_,(_,(_,((range m).map λk=>cmR m2 f g (c.2.2.2.2.getD k []) k).set f (((range m).map λk=>cmR m2 f g (c.2.2.2.2.getD k []) k).getD f []++[(-1:Int)]))))))))))))=_
    rw[W,Z,mapS (F':=λk=>cmR m2 f (g+1) (c.2.2.2.2.getD k []) k) u (λk _ O=>by unfold cmR;rw[if_neg O,if_neg O]),wrD B (by omega)]
  .show some (LO.next (wrap .i64 ((f:Int)+1),((0:Int),(([]:LI),(([]:LI),(([]:LI),(([]:LL),(_,(_,(_,(_,(range m).map λk=>cmR m2 f m2 (c.2.2.2.2.getD k []) k)))))))))))=some (LO.next (_,((0:Int),(([]:LI),(([]:LI),(([]:LI),(([]:LL),(_,(_,(_,(_,(range m).map _)))))))))))
   rw[wrD u (by omega),List.map_congr_left (g:=λk=>cmR m2 (f+1) 0 (c.2.2.2.2.getD k []) k) λk hk=>?_]
   unfold cmR;by_cases h1:k<f
   .rw[if_pos h1,if_pos (by omega)]
   .by_cases h2:k=f
    .rw[if_neg h1,if_pos h2,if_pos (by omega)]
    .rw[if_neg h1,if_neg h2,if_neg (by omega),ite_self]
 dsimp only
 refine Ao (itD (st:=λf:Nat=>((f:Int),((0:Int),(([]:LI),(([]:LI),(([]:LI),(([]:LL),(wrap .i64 (c.1+(n2:Int)),(c.2.1++(range f).map (λf=>wrap .i64 (aF d f+c.1)),(c.2.2.1++(range f).map (λf=>wrap .i64 (aT d f+c.1)),(c.2.2.2.1++(range n2).map (λy=>wrap .i64 (aI d y+(m:Int))),((range m).map λk=>cmR m2 m 0 (c.2.2.2.2.getD k []) k)++(range f).map λf=>cmB d m m2 f))))))))))) (n:=m2) (o:=.brk 6 ((m2:Int),((0:Int),(([]:LI),(([]:LI),(([]:LI),(([]:LL),(wrap .i64 (c.1+(n2:Int)),(c.2.1++(range m2).map (λf=>wrap .i64 (aF d f+c.1)),(c.2.2.1++(range m2).map (λf=>wrap .i64 (aT d f+c.1)),(c.2.2.2.1++(range n2).map (λy=>wrap .i64 (aI d y+(m:Int))),((range m).map λk=>cmR m2 m 0 (c.2.2.2.2.getD k []) k)++(range m2).map λf=>cmB d m m2 f)))))))))))
  ?_ (λf u=>?_) (MD rfl) (λy=>by simp)) (ifD rfl ?_)
 .simp only[range_zero,map_nil,append_nil];rfl
 .have i1:(0:Int)<=(f:Int)/\(f:Int)<(d.2.1.length:Int):=by omega
  have i2:(0:Int)<=(f:Int)/\(f:Int)<(d.2.2.1.length:Int):=by omega
  have i3:(0:Int)<=(f:Int)/\(f:Int)<(d.2.2.2.2.length:Int):=by omega
  refine MC u (ifD (Ac u) (ifD ?_ (ifD i2 (ifD ?_ ?_))))
  .show(_++_:LI).length+1<=17592186044416
   rw[length_append,Df];omega
  .show(_++_:LI).length+1<=17592186044416
   rw[length_append,Df];omega
  refine Ao (itD (st:=λg:Nat=>((g:Int),(range g).map λ_=>(-1:Int))) (n:=m) (o:=.brk 8 ((m:Int),(range m).map λ_=>(-1:Int))) rfl (λg B=>MC B (ifD (by rw[Df];show g+1<=_;omega) ?_)) (MD rfl) (λy=>by simp)) (ifD rfl ?_)
  .show some (LO.next (wrap .i64 ((g:Int)+1),(range g).map (λ_=>(-1:Int))++[(-1:Int)]))=_
   rw[YT (F:=λ_=>(-1:Int)),wrD B (by omega)]
  refine Ao (itD (st:=λg:Nat=>((g:Int),((range m).map λ_=>(-1:Int))++(range g).map λg=>upC m (aC d f g))) (n:=m2) (o:=.brk 10 ((m2:Int),cmB d m m2 f)) ?_ (λg B=>?_) (MD rfl) (λy=>by simp)) (ifD rfl (ifD trivial (ifD ?_ ?_)))
  .rw[range_zero,map_nil,append_nil];rfl
  .have i4:(0:Int)<=(g:Int)/\(g:Int)<((d.2.2.2.2.getD f []).length:Int):=by rw[hd.lr f u];omega
   have A:(((range m).map λ_=>(-1:Int))++(range g).map λg=>upC m (aC d f g)).length+1<=17592186044416:=by
    rw[length_append,Df,Df];omega
   have J:∀v,v=upC m (aC d f g)->some (LO.next (R:=LO (Int×Int×LI×LI×LI×LL×Ca) Ca) (wrap .i64 ((g:Int)+1),(((range m).map λ_=>(-1:Int))++(range g).map λg=>upC m (aC d f g))++[v]))=some (LO.next (((g+1:Nat):Int),((range m).map λ_=>(-1:Int))++(range (g+1)).map λg=>upC m (aC d f g))):=λv hv=>by
    rw[hv,WR (F:=λg=>upC m (aC d f g)),wrD B (by omega)]
   refine MC B (ifD i3 (ifD i4 ?_));show(bif decide (0<=aC d f g)then _ else _)=_;by_cases Y:0<=aC d f g
   .rw[dT Y]
    exact ifD A (J _ (by unfold upC;rw[if_pos Y];rfl))
   .rw[dF Y]
    exact ifD A (J _ (by unfold upC;rw[if_neg Y];rfl))
  .show(_++_:LL).length+1<=5864062014805
   rw[length_append,Df,Df];omega
  .show some (LO.next (wrap .i64 ((f:Int)+1),(_,(_,(_,(_,(_,(_,((c.2.1++(range f).map (λf=>wrap .i64 (aF d f+c.1)))++[wrap .i64 (aF d f+c.1)],((c.2.2.1++(range f).map (λf=>wrap .i64 (aT d f+c.1)))++[wrap .i64 (aT d f+c.1)],(_,(((range m).map λk=>cmR m2 m 0 (c.2.2.2.2.getD k []) k)++(range f).map λf=>cmB d m m2 f)++[cmB d m m2 f])))))))))))=_
   rw[WR (F:=λf=>wrap .i64 (aF d f+c.1)),WR (F:=λf=>wrap .i64 (aT d f+c.1)),WR (F:=λf=>cmB d m m2 f),wrD u (by omega)]
 .unfold Jh;rw[e4]
def Dw(h:k<m+m2):k<m\/∃k',k'<m2/\k=m+k':=by
 by_cases u:k<m
 .exact .inl u
 .exact .inr ⟨k-m,by omega,by omega⟩
theorem VW(B:Sp c n m)(hd:Sp d n2 m2)(b1:n<=1000)(b2:m<=1000)(b3:n2<=1000)(b4:m2<=1000):Sp (Jh c d n m n2 m2) (n+n2) (m+m2):=by
 have F1:∀f,f<m->aF (Jh c d n m n2 m2) f=aF c f:=λf u=>AE (by rw[B.lf];exact u)
 have T1:∀f,f<m->aT (Jh c d n m n2 m2) f=aT c f:=λf u=>AE (by rw[B.lt];exact u)
 have F2:∀f x:Nat,f<m2->aF d f=x->x<n2->aF (Jh c d n m n2 m2) (m+f)=((n+x:Nat):Int):=λf x u e E=>by
  show(_++_:LI).getD _ _=_;rw[Xk B.lf,MU u,e,B.ob,Ah (by omega) (by omega)];omega
 have T2:∀f x:Nat,f<m2->aT d f=x->x<n2->aT (Jh c d n m n2 m2) (m+f)=((n+x:Nat):Int):=λf x u e E=>by
  show(_++_:LI).getD _ _=_;rw[Xk B.lt,MU u,e,B.ob,Ah (by omega) (by omega)];omega
 have rA:∀f,f<m->(Jh c d n m n2 m2).2.2.2.2.getD f []=c.2.2.2.2.getD f []++(range m2).map λ_=>(-1:Int):=λf u=>by
  show(_++_:LL).getD _ _=_;rw[AE (by rw[Df];exact u),MU u]
  unfold cmR;rw[if_pos u]
 have rB:∀f,f<m2->(Jh c d n m n2 m2).2.2.2.2.getD (m+f) []=cmB d m m2 f:=λf u=>by
  show(_++_:LL).getD _ _=_;rw[Xk Df,MU u]
 have C11:∀f g,f<m->g<m->aC (Jh c d n m n2 m2) f g=aC c f g:=λf g u J=>by
  show((Jh c d n m n2 m2).2.2.2.2.getD f []).getD g 0=_;rw[rA f u,AE (by rw[B.lr f u];exact J)];rfl
 have C12:∀f g,f<m->g<m2->aC (Jh c d n m n2 m2) f (m+g)= -1:=λf g u J=>by
  show((Jh c d n m n2 m2).2.2.2.2.getD f []).getD (m+g) 0=_;rw[rA f u,Xk (B.lr f u),MU J]
 have C21:∀f g,f<m2->g<m->aC (Jh c d n m n2 m2) (m+f) g= -1:=λf g u J=>by
  show((Jh c d n m n2 m2).2.2.2.2.getD (m+f) []).getD g 0=_;rw[rB f u];unfold cmB;rw[AE (by rw[Df];exact J),MU J]
 have C22:∀f g,f<m2->g<m2->aC (Jh c d n m n2 m2) (m+f) (m+g)=upC m (aC d f g):=λf g u J=>by
  show((Jh c d n m n2 m2).2.2.2.2.getD (m+f) []).getD (m+g) 0=_;rw[rB f u];unfold cmB;rw[Xk Df,MU J]
 refine⟨?_,?_,?_,?_,?_,λf u=>?_,λf u=>?_,λf u=>?_,λx E=>?_,λf g u J O=>?_,λf g u J O=>?_⟩
 .show wrap .i64 (c.1+d.1)=_
  rw[B.ob,hd.ob,Ah (by omega) (by omega)];omega
 .show(_++_:LI).length=_
  rw[length_append,Df,B.lf]
 .show(_++_:LI).length=_
  rw[length_append,Df,B.lt]
 .show(_++_:LI).length=_
  rw[length_append,Df,B.li]
 .show(_++_:LL).length=_
  rw[length_append,Df,Df]
 .rcases Dw u with h|⟨f,h,rfl⟩
  .rw[rA f h,length_append,Df,B.lr f h]
  .rw[rB f h];unfold cmB;rw[length_append,Df,Df]
 .rcases Dw u with h|⟨f,h,rfl⟩
  .obtain⟨x,E,e⟩:=B.fr f h
   exact⟨x,by omega,by rw[F1 f h,e]⟩
  .obtain⟨x,E,e⟩:=hd.fr f h
   exact⟨n+x,by omega,F2 f x h e E⟩
 .rcases Dw u with h|⟨f,h,rfl⟩
  .obtain⟨x,E,e⟩:=B.to f h
   exact⟨x,by omega,by rw[T1 f h,e]⟩
  .obtain⟨x,E,e⟩:=hd.to f h
   exact⟨n+x,by omega,T2 f x h e E⟩
 .rcases Dw E with h|⟨x,h,rfl⟩
  .obtain⟨f,u,e⟩:=B.ix x h
   exact⟨f,by omega,(AE (by rw[B.li];exact h)).trans e⟩
  .obtain⟨f,u,e⟩:=hd.ix x h
   refine⟨m+f,by omega,?_⟩
   show(_++_:LI).getD _ _=_;rw[Xk B.li,MU h,e,Ah (by omega) (by omega)];omega
 .rcases Dw u with h|⟨f,h,rfl⟩<;>rcases Dw J with A|⟨g,A,rfl⟩
  .rw[T1 f h,F1 g A]at O
   obtain⟨k,h1,h2,h3,h4⟩:=B.cp f g h A O;exact⟨k,by omega,by rw[C11 f g h A,h2],by rw[F1 k h1,F1 f h,h3],by rw[T1 k h1,T1 g A,h4]⟩
  .obtain⟨x,E,e⟩:=B.to f h
   obtain⟨y,W,U⟩:=hd.fr g A;rw[T1 f h,F2 g y A U W,e]at O;omega
  .obtain⟨x,E,e⟩:=hd.to f h
   obtain⟨y,W,U⟩:=B.fr g A;rw[F1 g A,T2 f x h e E,U]at O;omega
  .obtain⟨x,E,e⟩:=hd.to f h
   obtain⟨y,W,U⟩:=hd.fr g A;obtain⟨x0,Z,e0⟩:=hd.fr f h;obtain⟨y0,Y,e0'⟩:=hd.to g A;rw[F2 g y A U W,T2 f x h e E]at O;obtain⟨k,h1,h2,h3,h4⟩:=hd.cp f g h A (by rw[e,U];omega)
   refine⟨m+k,by omega,?_,by rw[F2 f x0 h e0 Z,F2 k x0 h1 (h3.trans e0) Z],by rw[T2 g y0 A e0' Y,T2 k y0 h1 (h4.trans e0') Y]⟩
   rw[C22 f g h A,h2];unfold upC;rw[if_pos (by omega),Ah (by omega) (by omega)];omega
 .rcases Dw u with h|⟨f,h,rfl⟩<;>rcases Dw J with A|⟨g,A,rfl⟩
  .rw[T1 f h,F1 g A]at O
   rw[C11 f g h A];exact B.cn f g h A O
  .rw[C12 f g h A];decide
  .rw[C21 f g h A];decide
  .obtain⟨x,E,e⟩:=hd.to f h
   obtain⟨y,W,U⟩:=hd.fr g A;rw[F2 g y A U W,T2 f x h e E]at O;have:=hd.cn f g h A (by rw[e,U];omega)
   rw[C22 f g h A];unfold upC;rw[if_neg (by omega)];exact this
def p165(u:Sp c n m)(hd:Sp d n2 m2)(J:n<=1000)(E:m<=1000)(B:n2<=1000)(A:m2<=1000):Tot (λr=>Sp r (n+n2) (m+m2)) (G165 (c,d)):=
 ⟨_,p165' u hd J E B A,VW u hd J E B A⟩
end
end Go.Ve.D

