/- The category of a reflexive and transitive relation. -/
import Derived.Test.YtgobokfkomalhaaDra
namespace Go.Ve.D
open Go Go.Ve
noncomputable section
variable{fr to:LI}{a b n:Nat}{α:Type}
def At(fr to:LI)(q:Int)(a b:Nat):Prop:=∃k:Nat,q=k/\k<fr.length/\fr.getD k 0=(a:Int)/\to.getD k 0=(b:Int)
theorem WK{q u w:Int}(hl:to.length=fr.length)(h:At fr to q a b):At (fr++ [u]) (to++ [w]) q a b:=by
 obtain⟨k,h1,h2,h3,h4⟩:=h;exact⟨k,h1,by rw [List.length_append];omega,by rw [A7 h2];exact h3,by rw [A7 (by omega)];exact h4⟩
theorem at_new(hl:to.length=fr.length):At (fr++ [(a:Int)]) (to++ [(b:Int)]) (fr.length:Int) a b:=
 ⟨fr.length,rfl,by simp,Dq,by rw [<-hl];exact Dq⟩
def Ar(x:LL)(n:Nat)(fr to:LI):Prop:=∀k,k<fr.length->∃a b:Nat,a<n/\b<n/\fr.getD k 0=(a:Int)/\to.getD k 0=(b:Int)/\one x a b
theorem Aay{x:LL}(hl:to.length=fr.length)(h:Ar x n fr to)(ha:a<n)(hb:b<n)(h1:one x a b):Ar x n (fr++ [(a:Int)]) (to++ [(b:Int)]):=by
 intro k hk;by_cases e:k=fr.length
 ·subst e;exact⟨a,b,ha,hb,Dq,by rw [<-hl];exact Dq,h1⟩
 ·have hk:k<fr.length:=by rw [List.length_append]at hk;simp at hk;omega
  obtain⟨a',b',h⟩:=h k hk;exact⟨a',b',by rw [A7 hk,A7 (by omega)];exact h⟩
theorem Ba{x:List α}{a:α}(h:x.length=n):(x++ [a]).length=n+1:=by rw [List.length_append,h];rfl
theorem Bw{P:Nat->α->Prop}{x:List α}{a d:α}(hl:x.length=n)(h: ∀k,k<n->P k (x.getD k d))(ha:P n a): ∀k,k<n+1->P k ((x++ [a]).getD k d):=by
 intro k hk;by_cases e:k=n
 ·subst e;rw [<-hl,Dq];rw [hl];exact ha
 ·rw [A7 (by omega)];exact h k (by omega)
theorem p96(hn:n<=1000){x:LL}(h:Tr n x):Tot (λc=>∃m,m<=n*n/\Sp c n m) (G96 x):=by
 obtain⟨hsq,hrf,htr⟩:=h;have hxl:=hsq.1;have nn:n*n<=1000000:=Nat.mul_le_mul hn hn;unfold G96;rw [hxl];refine AC (n:=n) (λi v=>v.1=(i:Int)/\v.2.2.2.2.2.2.2.1=(n:Int)/\(v.2.2.2.2.2.2.2.2.2.1.length=v.2.2.2.2.2.2.2.2.1.length/\v.2.2.2.2.2.2.2.2.1.length<=i*n/\Ar x n v.2.2.2.2.2.2.2.2.1 v.2.2.2.2.2.2.2.2.2.1)/\(v.2.2.2.2.2.2.1.length=i/\∀a,a<i->(v.2.2.2.2.2.2.1.getD a []).length=n/\∀b,b<n->one x a b->At v.2.2.2.2.2.2.2.2.1 v.2.2.2.2.2.2.2.2.2.1 (en v.2.2.2.2.2.2.1 a b) a b)/\v.2.2.2.2.2.2.2.2.2.2=([],[])) ⟨rfl,rfl,⟨rfl,Nat.zero_le _,λk hk=>absurd hk (Nat.not_lt_zero _)⟩,⟨rfl,λa ha=>absurd ha (Nat.not_lt_zero _)⟩,rfl⟩ (λi hi v hv=>?_) λv hv=>?_
 ·obtain⟨_,o1,o2,o3,o4,o5,nu,_,fr,to,ic⟩:=v
  obtain⟨(rfl:_=(i:Int)),(rfl:_=(n:Int)),⟨(hl:to.length=fr.length),(hb:fr.length<=i*n),(ha:Ar x n fr to)⟩,⟨(hnl:nu.length=i),(hnu: ∀a,a<i->(nu.getD a []).length=n/\∀b,b<n->one x a b->At fr to (en nu a b) a b)⟩,(rfl:ic=([],[]))⟩:=hv;have hin:i*n<=n*n:=Nat.mul_le_mul_right _ (by omega)
  have hin2:(i+1)*n<=n*n:=Nat.mul_le_mul_right _ (by omega)
  rw [Nat.succ_mul]at hin2;refine Bk (ltD hi) (AC (n:=n) (λj v=>v.1=(j:Int)/\v.2.2.2.2.2.2.2.1=(n:Int)/\(v.2.2.2.2.2.2.2.2.2.1.length=v.2.2.2.2.2.2.2.2.1.length/\v.2.2.2.2.2.2.2.2.1.length<=i*n+j/\Ar x n v.2.2.2.2.2.2.2.2.1 v.2.2.2.2.2.2.2.2.2.1)/\v.2.2.2.2.2.2.1=nu/\(∀a,a<i->∀b,b<n->one x a b->At v.2.2.2.2.2.2.2.2.1 v.2.2.2.2.2.2.2.2.2.1 (en nu a b) a b)/\v.2.2.2.2.2.2.2.2.2.2.1= []/\v.2.2.2.2.2.2.2.2.2.2.2.1= []/\v.2.2.2.2.2.2.2.2.2.2.2.2.length=j/\∀b,b<j->one x i b->At v.2.2.2.2.2.2.2.2.1 v.2.2.2.2.2.2.2.2.2.1 (v.2.2.2.2.2.2.2.2.2.2.2.2.getD b 0) i b) ⟨rfl,rfl,⟨hl,hb,ha⟩,rfl,λa h=>(hnu a h).2,rfl,rfl,rfl,λb hb=>absurd hb (Nat.not_lt_zero _)⟩ (λj hj v hv=>?_) λv hv=>?_)
  ·obtain⟨_,o1,o2,o3,o4,o5,nu',_,fr,to,idl,cml,row⟩:=v
   obtain⟨(rfl:_=(j:Int)),(rfl:_=(n:Int)),⟨(hl:to.length=fr.length),(hb:fr.length<=i*n+j),(ha:Ar x n fr to)⟩,(rfl:nu'=nu),(hnu: ∀a,a<i->∀b,b<n->one x a b->At fr to (en nu' a b) a b),(rfl:idl= []),(rfl:cml= []),(hrl:row.length=j),(hrow: ∀b,b<j->one x i b->At fr to (row.getD b 0) i b)⟩:=hv;refine Bk (ltD hj) (Ab (by show row.length+1<=_;omega) (Ab (Ad hi) (Ab (Ku hsq hi hj) (Ap (λe=>?_) λe=>?_))))
   ·have e:one x i j:=CK (p:=en x i j=1) e
    refine Ab (by show fr.length+1<=_;omega) (Ab (by show to.length+1<=_;omega) (Aa ⟨wrD hj (by omega),rfl,⟨?_,?_,Aay hl ha hi hj e⟩,rfl,λa h1 b h2 h3=>WK hl (hnu a h1 b h2 h3),rfl,rfl,Ba hrl,Bw (P:=λb (q:Int)=>one x i b->At (fr++ [(i:Int)]) (to++ [(j:Int)]) q i b) hrl (λb h1 h2=>WK hl (hrow b h1 h2)) λ_=>at_new hl⟩))
    ·show(to++ [_]).length=(fr++ [_]).length
     rw [List.length_append,List.length_append,hl];rfl
    ·show(fr++ [_]).length<=_
     rw [List.length_append];show fr.length+1<=_;omega
   ·have e: ¬one x i j:=Mf (p:=en x i j=1) e
    exact Aa ⟨wrD hj (by omega),rfl,⟨hl,by show fr.length<=i*n+(j+1);omega,ha⟩,rfl,hnu,rfl,rfl,Ba hrl,Bw (P:=λb (q:Int)=>one x i b->At fr to q i b) hrl hrow λh=>absurd h e⟩
  ·obtain⟨_,o1,o2,o3,o4,o5,nu',_,fr,to,idl,cml,row⟩:=v
   obtain⟨(rfl:_=(n:Int)),(rfl:_=(n:Int)),⟨(hl:to.length=fr.length),(hb:fr.length<=i*n+n),(ha:Ar x n fr to)⟩,(rfl:nu'=nu),(hnu2: ∀a,a<i->∀b,b<n->one x a b->At fr to (en nu' a b) a b),(rfl:idl= []),(rfl:cml= []),(hrl:row.length=n),(hrow: ∀b,b<n->one x i b->At fr to (row.getD b 0) i b)⟩:=hv;refine A8 ltf (Aa (Ab rfl (Ab trivial (Ab (by show nu'.length+1<=_;omega) (Aa ⟨wrD hi (by omega),rfl,⟨hl,by show fr.length<=(i+1)*n;rw [Nat.succ_mul];exact hb,ha⟩,⟨Ba hnl,?_⟩,rfl⟩)))))
   exact Bw (P:=λa (r:LI)=>r.length=n/\∀b,b<n->one x a b->At fr to (r.getD b 0) a b) hnl (λa h=>⟨(hnu a h).1,hnu2 a h⟩) ⟨hrl,hrow⟩
 ·obtain⟨_,o1,o2,o3,o4,o5,nu,_,fr,to,ic⟩:=v
  obtain⟨(rfl:_=(n:Int)),(rfl:_=(n:Int)),⟨(hl:to.length=fr.length),(hb:fr.length<=n*n),(ha:Ar x n fr to)⟩,⟨(hnl:nu.length=n),(hnu: ∀a,a<n->(nu.getD a []).length=n/\∀b,b<n->one x a b->At fr to (en nu a b) a b)⟩,(rfl:ic=([],[]))⟩:=hv;have hnq:Sq n nu:=⟨hnl,λa h=>(hnu a h).1⟩
  refine A8 ltf (Aa (Ab rfl (AC (n:=n) (λi v=>v.1=(i:Int)/\v.2.2.2.2.2.2.1=nu/\v.2.2.2.2.2.2.2.1=(n:Int)/\v.2.2.2.2.2.2.2.2.1=fr/\v.2.2.2.2.2.2.2.2.2.1=to/\(v.2.2.2.2.2.2.2.2.2.2.1.length=i/\∀a,a<i->∃f:Nat,f<fr.length/\v.2.2.2.2.2.2.2.2.2.2.1.getD a 0=(f:Int))/\v.2.2.2.2.2.2.2.2.2.2.2= []) ⟨rfl,rfl,rfl,rfl,rfl,⟨rfl,λa h=>absurd h (Nat.not_lt_zero _)⟩,rfl⟩ (λi hi v hv=>?_) λv hv=>?_)))
  ·obtain⟨_,o1,o2,o3,o4,o5,nu',_,fr',to',idl,cml⟩:=v
   obtain⟨(rfl:_=(i:Int)),(rfl:nu'=nu),(rfl:_=(n:Int)),(rfl:fr'=fr),(rfl:to'=to),⟨(hil:idl.length=i),(hid: ∀a,a<i->∃f:Nat,f<fr'.length/\idl.getD a 0=(f:Int))⟩,(rfl:cml= [])⟩:=hv;obtain⟨k,hk,hk2,_⟩:=(hnu i hi).2 i hi (hrf i hi);refine Bk (ltD hi) (Ab (Vh hnq hi) (Ab (Ku hnq hi hi) (Ab (by show idl.length+1<=_;omega) (Aa ⟨wrD hi (by omega),rfl,rfl,rfl,rfl,⟨Ba hil,?_⟩,rfl⟩))))
   exact Bw (P:=λ_ q=>∃f:Nat,f<fr'.length/\q=(f:Int)) hil hid ⟨k,hk2,hk⟩
  ·obtain⟨_,o1,o2,o3,o4,o5,nu',_,fr',to',idl,cml⟩:=v
   obtain⟨(rfl:_=(n:Int)),(rfl:nu'=nu),(rfl:_=(n:Int)),(rfl:fr'=fr),(rfl:to'=to),⟨(hil:idl.length=n),(hid: ∀a,a<n->∃f:Nat,f<fr'.length/\idl.getD a 0=(f:Int))⟩,(rfl:cml= [])⟩:=hv;generalize hm:fr'.length=m at*
   have ent: ∀f g,f<m->g<m->to'.getD f 0=fr'.getD g 0->∃a b:Nat,a<n/\b<n/\fr'.getD f 0=(a:Int)/\to'.getD g 0=(b:Int)/\∃k:Nat,en nu' a b=(k:Int)/\k<m/\fr'.getD k 0=(a:Int)/\to'.getD k 0=(b:Int):=by
    intro f g hf hg he;obtain⟨a,b,h1,h2,h3,h4,h5⟩:=ha f (by omega)
    obtain⟨a',b',k1,k2,k3,k4,k5⟩:=ha g (by omega)
    have:b=a':=by omega
    subst this;obtain⟨k,j1,j2,j3,j4⟩:=(hnu a h1).2 b' k2 (htr a b' b h1 k2 h2 h5 k5);exact⟨a,b',h1,k2,h3,k4,k,j1,by omega,j3,j4⟩
   have P1: ∀f,f<m->(0:Int)<=(f:Int)/\(f:Int)<(fr'.length:Int):=λf h=>by omega
   have P2: ∀f,f<m->(0:Int)<=(f:Int)/\(f:Int)<(to'.length:Int):=λf h=>by omega
   refine A8 ltf (Aa (Ab rfl (AC (n:=m) (λf v=>v.1=(f:Int)/\v.2.2.2.2.2.2.1=nu'/\v.2.2.2.2.2.2.2.1=(n:Int)/\v.2.2.2.2.2.2.2.2.1=fr'/\v.2.2.2.2.2.2.2.2.2.1=to'/\v.2.2.2.2.2.2.2.2.2.2.1=idl/\v.2.2.2.2.2.2.2.2.2.2.2.length=f/\∀k,k<f->(v.2.2.2.2.2.2.2.2.2.2.2.getD k []).length=m/\∀g,g<m->(to'.getD k 0=fr'.getD g 0->∃h:Nat,h<m/\(v.2.2.2.2.2.2.2.2.2.2.2.getD k []).getD g 0=h/\fr'.getD h 0=fr'.getD k 0/\to'.getD h 0=to'.getD g 0)/\(to'.getD k 0≠fr'.getD g 0->(v.2.2.2.2.2.2.2.2.2.2.2.getD k []).getD g 0<0)) ⟨rfl,rfl,rfl,rfl,rfl,rfl,rfl,λk h=>absurd h (Nat.not_lt_zero _)⟩ (λf hf v hv=>?_) λv hv=>?_)))
   ·obtain⟨_,o1,o2,o3,o4,o5,nu'',_,fr'',to'',idl',cml⟩:=v
    obtain⟨(rfl:_=(f:Int)),(rfl:nu''=nu'),(rfl:_=(n:Int)),(rfl:fr''=fr'),(rfl:to''=to'),(rfl:idl'=idl),(hcl:cml.length=f),hcm⟩:=hv;refine Bk (by show decide ((f:Int)<(fr''.length:Int))=true;rw [hm];exact ltD hf) (AC (n:=m) (λg v=>v.1=(g:Int)/\v.2.length=g/\∀k,k<g->(to''.getD f 0=fr''.getD k 0->∃h:Nat,h<m/\v.2.getD k 0=h/\fr''.getD h 0=fr''.getD f 0/\to''.getD h 0=to''.getD k 0)/\(to''.getD f 0≠fr''.getD k 0->v.2.getD k 0<0)) ⟨rfl,rfl,λk h=>absurd h (Nat.not_lt_zero _)⟩ (λg hg v hv=>?_) λv hv=>?_)
    ·obtain⟨_,row⟩:=v
     obtain⟨(rfl:_=(g:Int)),(hrl:row.length=g),hrow⟩:=hv;refine Bk (by show decide ((g:Int)<(fr''.length:Int))=true;rw [hm];exact ltD hg) (Ab (P2 f hf) (Ab (P1 g hg) (Ap (λe=>?_) λe=>?_)))
     ·have e:to''.getD f 0=fr''.getD g 0:=CK e
      obtain⟨a,b,h1,h2,h3,h4,k,h5,h6,h7,h8⟩:=ent f g hf hg e;refine Ab (P1 f hf) (Ab ?_ (Ab (P2 g hg) (Ab ?_ (Ab (by show row.length+1<=_;omega) (Aa ⟨wrD hg (by omega),Ba hrl,Bw (P:=λk (q:Int)=>(to''.getD f 0=fr''.getD k 0->∃h:Nat,h<m/\q=h/\fr''.getD h 0=fr''.getD f 0/\to''.getD h 0=to''.getD k 0)/\(to''.getD f 0≠fr''.getD k 0->q<0)) hrl hrow ⟨λ_=>⟨k,h6,?_,by rw [h7,h3],by rw [h8,h4]⟩,λh=>absurd e h⟩⟩)))))
      ·show(0:Int)<=fr''.getD f 0/\fr''.getD f 0<(nu''.length:Int)
       rw [h3,hnl];omega
      ·show(0:Int)<=to''.getD g 0/\to''.getD g 0<((nu''.getD (fr''.getD f 0).toNat []).length:Int)
       rw [h3,h4,show((a:Int)).toNat=a from rfl,(hnu a h1).1];omega
      ·show(nu''.getD (fr''.getD f 0).toNat []).getD (to''.getD g 0).toNat 0=_
       rw [h3,h4];exact h5
     ·have e: ¬to''.getD f 0=fr''.getD g 0:=Mf e
      exact Ab (by show row.length+1<=_;omega) (Aa ⟨wrD hg (by omega),Ba hrl,Bw (P:=λk (q:Int)=>(to''.getD f 0=fr''.getD k 0->∃h:Nat,h<m/\q=h/\fr''.getD h 0=fr''.getD f 0/\to''.getD h 0=to''.getD k 0)/\(to''.getD f 0≠fr''.getD k 0->q<0)) hrl hrow ⟨λh=>absurd h e,λ_=>by decide⟩⟩)
    ·obtain⟨_,row⟩:=v
     obtain⟨(rfl:_=(m:Int)),(hrl:row.length=m),hrow⟩:=hv;exact A8 (by show decide ((m:Int)<(fr''.length:Int))=false;rw [hm];exact ltf) (Aa (Ab rfl (Ab trivial (Ab (by show cml.length+1<=_;omega) (Aa ⟨wrD hf (by omega),rfl,rfl,rfl,rfl,rfl,Ba hcl,Bw (P:=λk (r:LI)=>r.length=m/\∀g,g<m->(to''.getD k 0=fr''.getD g 0->∃h:Nat,h<m/\r.getD g 0=h/\fr''.getD h 0=fr''.getD k 0/\to''.getD h 0=to''.getD g 0)/\(to''.getD k 0≠fr''.getD g 0->r.getD g 0<0)) hcl hcm ⟨hrl,hrow⟩⟩)))))
   ·obtain⟨_,o1,o2,o3,o4,o5,nu'',_,fr'',to'',idl',cml⟩:=v
    obtain⟨(rfl:_=(m:Int)),(rfl:nu''=nu'),(rfl:_=(n:Int)),(rfl:fr''=fr'),(rfl:to''=to'),(rfl:idl'=idl),(hcl:cml.length=m),hcm⟩:=hv;refine A8 (by show decide ((m:Int)<(fr''.length:Int))=false;rw [hm];exact ltf) (Aa (Ab rfl (Aa ⟨m,hb,rfl,hm,by show to''.length=m;omega,hil,hcl,λf hf=>(hcm f hf).1,λf hf=>?_,λf hf=>?_,hid,λf g hf hg=>((hcm f hf).2 g hg).1,λf g hf hg=>((hcm f hf).2 g hg).2⟩)))
    ·obtain⟨a,b,h1,h2,h3,h4,h5⟩:=ha f (by omega)
     exact⟨a,h1,h3⟩
    ·obtain⟨a,b,h1,h2,h3,h4,h5⟩:=ha f (by omega)
     exact⟨b,h2,h4⟩
end
end Go.Ve.D


namespace Go.Ve.D
open Go Go.Ve
noncomputable section
variable{c d:Ca}{i k m m2 n n2:Nat}{α:Type}
theorem itD{X R:Type}{f:X->Option (LO X R)}{st:Nat->X}{o:LO X R}{x:X}(h0:x=st 0)(h1: ∀i,i<n->f (st i)=some (.next (st (i+1))))(h2:f (st n)=some o)(ho: ∀y,o≠.next y):Aq f x=some o:=by
 subst h0;exact H4 h1 h2 ho
theorem ifD{p:Prop} [Decidable p]{x y r:α}(h:p)(hx:x=r):(if p then x else y)=r:=by rw [if_pos h];exact hx
theorem Ml{x y r:α}(h:i<n)(hx:x=r):(bif decide ((i:Int)<(n:Int))then x else y)=r:=by rw [ltD h];exact hx
theorem Mm{x y r:α}(hy:y=r):(bif decide ((n:Int)<(n:Int))then x else y)=r:=by rw [ltf];exact hy
theorem mapD(d:α)(x:List α):(List.range x.length).map (λi=>x.getD i d)=x:=by
 apply List.ext_getElem?;intro j;by_cases hj:j<x.length<;>simp [hj]
theorem MB{F:Nat->α}{d:α}(hi:i<n):((List.range n).map F).getD i d=F i:=by simp [hi]
theorem mapS{F F':Nat->α}(hi:i<n)(h: ∀k,k<n->k≠i->F' k=F k):((List.range n).map F).set i (F' i)=(List.range n).map F':=by
 apply List.ext_getElem?;intro k;by_cases hk:k<n
 ·by_cases e:k=i
  ·subst e;simp [hk]
  ·rw [List.getElem?_set_ne (Ne.symm e)];simp [hk,h k hk e]
 ·simp [hk]
theorem C6{F:Nat->α}:((List.range n).map F).length=n:=by simp
theorem XO{F:Nat->α}:(List.range n).map F++ [F n]=(List.range (n+1)).map F:=by simp [List.range_succ]
theorem V3{x:List α}{F:Nat->α}:(x++(List.range n).map F)++ [F n]=x++(List.range (n+1)).map F:=by rw [List.append_assoc,XO]
theorem Wp{x y:List α}{d:α}(h:x.length=n):(x++y).getD (n+k) d=y.getD k d:=by
 subst h;rw [gDE,gAR (by omega),gDE]
 congr 2;omega
theorem p98{x:LI}(h:x.length<=1048576):G98 x=some x:=by
 unfold G98;exact ifD (by show 0+x.length<=_;omega) rfl
theorem p113{x:LL}(h:x.length<=1048576)(hx: ∀i,i<x.length->(x.getD i []).length<=1048576):G113 x=some x:=by
 unfold G113;refine Ai (itD (st:=λi:Nat=>((i:Int),(List.range i).map λi=>x.getD i [])) (n:=x.length) (o:=.brk 0 ((x.length:Int),(List.range x.length).map λi=>x.getD i [])) rfl (λi hi=>?_) (Mm rfl) (λy=>by simp)) (by show some ((List.range x.length).map λi=>x.getD i [])=_;rw [mapD])
 refine Ml hi (ifD (Ad hi) (Ai (p98 (hx i hi)) (ifD trivial (ifD (by rw [C6];show i+1<=_;omega) ?_))))
 show some (LO.next (IntKind.wrap .i64 ((i:Int)+1),(List.range i).map (λi=>x.getD i [])++ [x.getD i []]))=_
 rw [XO (F:=λi=>x.getD i []),wrD hi h]
theorem p106(h:Sp c n m)(hn:n<=1000)(hm:m<=1000):G106 c=some c:=by
 unfold G106;refine Ai (p98 (by rw [h.lf];omega)) (Ai (p98 (by rw [h.lt];omega)) (Ai (p98 (by rw [h.li];omega)) (Ai (p113 (by rw [h.lc];omega) λi hi=>?_) rfl)))
 rw [h.lr i (by rw [h.lc]at hi;exact hi)];omega
def upC(m:Nat)(h:Int):Int:=if 0<=h then IntKind.wrap .i64 (h+(m:Int))else h
def cmR(m2 f g:Nat)(r:LI)(k:Nat):LI:=r++(List.range (if k<f then m2 else if k=f then g else 0)).map λ_=>(-1:Int)
def cmB(d:Ca)(m m2 f:Nat):LI:=((List.range m).map λ_=>(-1:Int))++(List.range m2).map λg=>upC m (aC d f g)
def Ji(c d:Ca)(n m n2 m2:Nat):Ca:=(IntKind.wrap .i64 (c.1+d.1),(c.2.1++(List.range m2).map λf=>IntKind.wrap .i64 (aF d f+c.1)),(c.2.2.1++(List.range m2).map λf=>IntKind.wrap .i64 (aT d f+c.1)),(c.2.2.2.1++(List.range n2).map λy=>IntKind.wrap .i64 (aI d y+(m:Int))),
 ((List.range m).map λk=>cmR m2 m 0 (c.2.2.2.2.getD k []) k)++(List.range m2).map λf=>cmB d m m2 f)
theorem p103'(hc:Sp c n m)(hd:Sp d n2 m2)(b1:n<=1000)(b2:m<=1000)(b3:n2<=1000)(b4:m2<=1000):G103 (c,d)=some (Ji c d n m n2 m2):=by
 have e1:=hc.lf;have e2:=hd.lf;have e3:=hd.lt;have e4:=hd.ob;have e5:=hd.li;have e6:=hc.lc;have e7:=hd.lc;have e8:=hc.li;have e9:=hc.lt;unfold G103;refine Ai (p106 hc b1 b2) ?_
 dsimp only
 rw [e1,e2,e4]
 refine Ai (itD (st:=λy:Nat=>((y:Int),((0:Int),(([]:LI),(([]:LI),(([]:LI),(([]:LL),(IntKind.wrap .i64 (c.1+(n2:Int)),(c.2.1,(c.2.2.1,(c.2.2.2.1++(List.range y).map (λy=>IntKind.wrap .i64 (aI d y+(m:Int))),c.2.2.2.2))))))))))) (n:=n2) (o:=.brk 0 ((n2:Int),((0:Int),(([]:LI),(([]:LI),(([]:LI),(([]:LL),(IntKind.wrap .i64 (c.1+(n2:Int)),(c.2.1,(c.2.2.1,(c.2.2.2.1++(List.range n2).map (λy=>IntKind.wrap .i64 (aI d y+(m:Int))),c.2.2.2.2)))))))))))
  ?_ (λy hy=>?_) (Mm rfl) (λy=>by simp)) (ifD rfl ?_)
 ·show((0:Int),_)=_
  rw [List.range_zero,List.map_nil,List.append_nil];rfl
 ·refine Ml hy (ifD (by show(0:Int)<=(y:Int)/\(y:Int)<(d.2.2.2.1.length:Int);omega) (ifD (by show(_++_:LI).length+1<=17592186044416;rw [List.length_append,C6];omega) ?_))
  show some (LO.next (IntKind.wrap .i64 ((y:Int)+1),(_,(_,(_,(_,(_,(_,(_,(_,((c.2.2.2.1++(List.range y).map (λy=>IntKind.wrap .i64 (aI d y+(m:Int))))++ [IntKind.wrap .i64 (aI d y+(m:Int))],_)))))))))))=_
  rw [V3 (F:=λy=>IntKind.wrap .i64 (aI d y+(m:Int))),wrD hy (by omega)]
 dsimp only
 refine Ai (itD (st:=λf:Nat=>((f:Int),((0:Int),(([]:LI),(([]:LI),(([]:LI),(([]:LL),(IntKind.wrap .i64 (c.1+(n2:Int)),(c.2.1,(c.2.2.1,(c.2.2.2.1++(List.range n2).map (λy=>IntKind.wrap .i64 (aI d y+(m:Int))),(List.range m).map λk=>cmR m2 f 0 (c.2.2.2.2.getD k []) k))))))))))) (n:=m) (o:=.brk 2 ((m:Int),((0:Int),(([]:LI),(([]:LI),(([]:LI),(([]:LL),(IntKind.wrap .i64 (c.1+(n2:Int)),(c.2.1,(c.2.2.1,(c.2.2.2.1++(List.range n2).map (λy=>IntKind.wrap .i64 (aI d y+(m:Int))),(List.range m).map λk=>cmR m2 m 0 (c.2.2.2.2.getD k []) k)))))))))))
  ?_ (λf hf=>?_) (by rw [C6];exact Mm rfl) (λy=>by simp)) (ifD rfl ?_)
 ·have:c.2.2.2.2=(List.range m).map λk=>cmR m2 0 0 (c.2.2.2.2.getD k []) k:=by
   conv=>lhs;rw [<-mapD [] c.2.2.2.2,e6]
   refine List.map_congr_left λk hk=>?_
   show _=_++(List.range (if k<0 then m2 else if k=0 then 0 else 0)).map _
   rw [if_neg (by omega),ite_self,List.range_zero,List.map_nil,List.append_nil]
  show((0:Int),((0:Int),(([]:LI),(([]:LI),(([]:LI),(([]:LL),(_,(_,(_,(_,c.2.2.2.2))))))))))=_
  conv=>lhs;rw [this]
  rfl
 ·rw [C6]
  refine Ml hf (Ai (itD (st:=λg:Nat=>((g:Int),((0:Int),(([]:LI),(([]:LI),(([]:LI),(([]:LL),(IntKind.wrap .i64 (c.1+(n2:Int)),(c.2.1,(c.2.2.1,(c.2.2.2.1++(List.range n2).map (λy=>IntKind.wrap .i64 (aI d y+(m:Int))),(List.range m).map λk=>cmR m2 f g (c.2.2.2.2.getD k []) k))))))))))) (n:=m2) (o:=.brk 4 ((m2:Int),((0:Int),(([]:LI),(([]:LI),(([]:LI),(([]:LL),(IntKind.wrap .i64 (c.1+(n2:Int)),(c.2.1,(c.2.2.1,(c.2.2.2.1++(List.range n2).map (λy=>IntKind.wrap .i64 (aI d y+(m:Int))),(List.range m).map λk=>cmR m2 f m2 (c.2.2.2.2.getD k []) k)))))))))))
   rfl (λg hg=>?_) (Mm rfl) (λy=>by simp)) (ifD rfl ?_))
  ·have hin:(0:Int)<=(f:Int)/\(f:Int)<(((List.range m).map λk=>cmR m2 f g (c.2.2.2.2.getD k []) k).length:Int):=by rw [C6];exact Ad hf
   have hgt:((List.range m).map λk=>cmR m2 f g (c.2.2.2.2.getD k []) k).getD f []=cmR m2 f g (c.2.2.2.2.getD f []) f:=MB hf
   have hnx:cmR m2 f g (c.2.2.2.2.getD f []) f++ [(-1:Int)]=cmR m2 f (g+1) (c.2.2.2.2.getD f []) f:=by
    unfold cmR;rw [if_neg (by omega),if_pos rfl,if_neg (by omega),if_pos rfl]
    exact V3 (F:=λ_=>(-1:Int))
   refine Ml hg (ifD hin (ifD ⟨⟨hin,⟨⟨Nat.le_refl _,Nat.le_refl _⟩,⟨Nat.le_refl _,Nat.le_refl _⟩,trivial⟩⟩,?_⟩ ?_))
   ·show(((List.range m).map λk=>cmR m2 f g (c.2.2.2.2.getD k []) k).getD f []).length+1<=_
    rw [hgt];unfold cmR;rw [List.length_append,C6,if_neg (by omega),if_pos rfl,hc.lr f hf];omega
   ·show some (LO.next (IntKind.wrap .i64 ((g:Int)+1),((0:Int),(([]:LI),(([]:LI),(([]:LI),(([]:LL),(_,(_,(_,(_,((List.range m).map λk=>cmR m2 f g (c.2.2.2.2.getD k []) k).set f (((List.range m).map λk=>cmR m2 f g (c.2.2.2.2.getD k []) k).getD f []++ [(-1:Int)]))))))))))))=_
    rw [hgt,hnx,mapS (F':=λk=>cmR m2 f (g+1) (c.2.2.2.2.getD k []) k) hf (λk _ hne=>by unfold cmR;rw [if_neg hne,if_neg hne]),wrD hg (by omega)]
  ·show some (LO.next (IntKind.wrap .i64 ((f:Int)+1),((0:Int),(([]:LI),(([]:LI),(([]:LI),(([]:LL),(_,(_,(_,(_,(List.range m).map λk=>cmR m2 f m2 (c.2.2.2.2.getD k []) k)))))))))))=some (LO.next (_,((0:Int),(([]:LI),(([]:LI),(([]:LI),(([]:LL),(_,(_,(_,(_,(List.range m).map _)))))))))))
   rw [wrD hf (by omega),List.map_congr_left (g:=λk=>cmR m2 (f+1) 0 (c.2.2.2.2.getD k []) k) λk hk=>?_]
   unfold cmR;by_cases h1:k<f
   ·rw [if_pos h1,if_pos (by omega)]
   ·by_cases h2:k=f
    ·rw [if_neg h1,if_pos h2,if_pos (by omega)]
    ·rw [if_neg h1,if_neg h2,if_neg (by omega),ite_self]
 dsimp only
 refine Ai (itD (st:=λf:Nat=>((f:Int),((0:Int),(([]:LI),(([]:LI),(([]:LI),(([]:LL),(IntKind.wrap .i64 (c.1+(n2:Int)),(c.2.1++(List.range f).map (λf=>IntKind.wrap .i64 (aF d f+c.1)),(c.2.2.1++(List.range f).map (λf=>IntKind.wrap .i64 (aT d f+c.1)),(c.2.2.2.1++(List.range n2).map (λy=>IntKind.wrap .i64 (aI d y+(m:Int))),((List.range m).map λk=>cmR m2 m 0 (c.2.2.2.2.getD k []) k)++(List.range f).map λf=>cmB d m m2 f))))))))))) (n:=m2) (o:=.brk 6 ((m2:Int),((0:Int),(([]:LI),(([]:LI),(([]:LI),(([]:LL),(IntKind.wrap .i64 (c.1+(n2:Int)),(c.2.1++(List.range m2).map (λf=>IntKind.wrap .i64 (aF d f+c.1)),(c.2.2.1++(List.range m2).map (λf=>IntKind.wrap .i64 (aT d f+c.1)),(c.2.2.2.1++(List.range n2).map (λy=>IntKind.wrap .i64 (aI d y+(m:Int))),((List.range m).map λk=>cmR m2 m 0 (c.2.2.2.2.getD k []) k)++(List.range m2).map λf=>cmB d m m2 f)))))))))))
  ?_ (λf hf=>?_) (Mm rfl) (λy=>by simp)) (ifD rfl ?_)
 ·simp only [List.range_zero,List.map_nil,List.append_nil];rfl
 ·have i1:(0:Int)<=(f:Int)/\(f:Int)<(d.2.1.length:Int):=by omega
  have i2:(0:Int)<=(f:Int)/\(f:Int)<(d.2.2.1.length:Int):=by omega
  have i3:(0:Int)<=(f:Int)/\(f:Int)<(d.2.2.2.2.length:Int):=by omega
  refine Ml hf (ifD (Ad hf) (ifD ?_ (ifD i2 (ifD ?_ ?_))))
  ·show(_++_:LI).length+1<=17592186044416
   rw [List.length_append,C6];omega
  ·show(_++_:LI).length+1<=17592186044416
   rw [List.length_append,C6];omega
  refine Ai (itD (st:=λg:Nat=>((g:Int),(List.range g).map λ_=>(-1:Int))) (n:=m) (o:=.brk 8 ((m:Int),(List.range m).map λ_=>(-1:Int))) rfl (λg hg=>Ml hg (ifD (by rw [C6];show g+1<=_;omega) ?_)) (Mm rfl) (λy=>by simp)) (ifD rfl ?_)
  ·show some (LO.next (IntKind.wrap .i64 ((g:Int)+1),(List.range g).map (λ_=>(-1:Int))++ [(-1:Int)]))=_
   rw [XO (F:=λ_=>(-1:Int)),wrD hg (by omega)]
  refine Ai (itD (st:=λg:Nat=>((g:Int),((List.range m).map λ_=>(-1:Int))++(List.range g).map λg=>upC m (aC d f g))) (n:=m2) (o:=.brk 10 ((m2:Int),cmB d m m2 f)) ?_ (λg hg=>?_) (Mm rfl) (λy=>by simp)) (ifD rfl (ifD trivial (ifD ?_ ?_)))
  ·rw [List.range_zero,List.map_nil,List.append_nil];rfl
  ·have i4:(0:Int)<=(g:Int)/\(g:Int)<((d.2.2.2.2.getD f []).length:Int):=by rw [hd.lr f hf];omega
   have hlen:(((List.range m).map λ_=>(-1:Int))++(List.range g).map λg=>upC m (aC d f g)).length+1<=17592186044416:=by
    rw [List.length_append,C6,C6];omega
   have hst: ∀v,v=upC m (aC d f g)->some (LO.next (R:=LO (Int×Int×LI×LI×LI×LL×Ca) Ca) (IntKind.wrap .i64 ((g:Int)+1),(((List.range m).map λ_=>(-1:Int))++(List.range g).map λg=>upC m (aC d f g))++ [v]))=some (LO.next (((g+1:Nat):Int),((List.range m).map λ_=>(-1:Int))++(List.range (g+1)).map λg=>upC m (aC d f g))):=λv hv=>by
    rw [hv,V3 (F:=λg=>upC m (aC d f g)),wrD hg (by omega)]
   refine Ml hg (ifD i3 (ifD i4 ?_));show(bif decide (0<=aC d f g)then _ else _)=_;by_cases h0:0<=aC d f g
   ·rw [dT h0]
    exact ifD hlen (hst _ (by unfold upC;rw [if_pos h0];rfl))
   ·rw [dF h0]
    exact ifD hlen (hst _ (by unfold upC;rw [if_neg h0];rfl))
  ·show(_++_:LL).length+1<=5864062014805
   rw [List.length_append,C6,C6];omega
  ·show some (LO.next (IntKind.wrap .i64 ((f:Int)+1),(_,(_,(_,(_,(_,(_,((c.2.1++(List.range f).map (λf=>IntKind.wrap .i64 (aF d f+c.1)))++ [IntKind.wrap .i64 (aF d f+c.1)],((c.2.2.1++(List.range f).map (λf=>IntKind.wrap .i64 (aT d f+c.1)))++ [IntKind.wrap .i64 (aT d f+c.1)],(_,(((List.range m).map λk=>cmR m2 m 0 (c.2.2.2.2.getD k []) k)++(List.range f).map λf=>cmB d m m2 f)++ [cmB d m m2 f])))))))))))=_
   rw [V3 (F:=λf=>IntKind.wrap .i64 (aF d f+c.1)),V3 (F:=λf=>IntKind.wrap .i64 (aT d f+c.1)),V3 (F:=λf=>cmB d m m2 f),wrD hf (by omega)]
 ·unfold Ji;rw [e4]
theorem Dr(h:k<m+m2):k<m\/∃k',k'<m2/\k=m+k':=by
 by_cases h1:k<m
 ·exact .inl h1
 ·exact .inr ⟨k-m,by omega,by omega⟩
theorem Vg(hc:Sp c n m)(hd:Sp d n2 m2)(b1:n<=1000)(b2:m<=1000)(b3:n2<=1000)(b4:m2<=1000):Sp (Ji c d n m n2 m2) (n+n2) (m+m2):=by
 have F1: ∀f,f<m->aF (Ji c d n m n2 m2) f=aF c f:=λf hf=>A7 (by rw [hc.lf];exact hf)
 have T1: ∀f,f<m->aT (Ji c d n m n2 m2) f=aT c f:=λf hf=>A7 (by rw [hc.lt];exact hf)
 have F2: ∀f x:Nat,f<m2->aF d f=x->x<n2->aF (Ji c d n m n2 m2) (m+f)=((n+x:Nat):Int):=λf x hf e hx=>by
  show(_++_:LI).getD _ _=_;rw [Wp hc.lf,MB hf,e,hc.ob,Ay (by omega) (by omega)];omega
 have T2: ∀f x:Nat,f<m2->aT d f=x->x<n2->aT (Ji c d n m n2 m2) (m+f)=((n+x:Nat):Int):=λf x hf e hx=>by
  show(_++_:LI).getD _ _=_;rw [Wp hc.lt,MB hf,e,hc.ob,Ay (by omega) (by omega)];omega
 have rA: ∀f,f<m->(Ji c d n m n2 m2).2.2.2.2.getD f []=c.2.2.2.2.getD f []++(List.range m2).map λ_=>(-1:Int):=λf hf=>by
  show(_++_:LL).getD _ _=_;rw [A7 (by rw [C6];exact hf),MB hf]
  unfold cmR;rw [if_pos hf]
 have rB: ∀f,f<m2->(Ji c d n m n2 m2).2.2.2.2.getD (m+f) []=cmB d m m2 f:=λf hf=>by
  show(_++_:LL).getD _ _=_;rw [Wp C6,MB hf]
 have C11: ∀f g,f<m->g<m->aC (Ji c d n m n2 m2) f g=aC c f g:=λf g hf hg=>by
  show((Ji c d n m n2 m2).2.2.2.2.getD f []).getD g 0=_;rw [rA f hf,A7 (by rw [hc.lr f hf];exact hg)];rfl
 have C12: ∀f g,f<m->g<m2->aC (Ji c d n m n2 m2) f (m+g)= -1:=λf g hf hg=>by
  show((Ji c d n m n2 m2).2.2.2.2.getD f []).getD (m+g) 0=_;rw [rA f hf,Wp (hc.lr f hf),MB hg]
 have C21: ∀f g,f<m2->g<m->aC (Ji c d n m n2 m2) (m+f) g= -1:=λf g hf hg=>by
  show((Ji c d n m n2 m2).2.2.2.2.getD (m+f) []).getD g 0=_;rw [rB f hf];unfold cmB;rw [A7 (by rw [C6];exact hg),MB hg]
 have C22: ∀f g,f<m2->g<m2->aC (Ji c d n m n2 m2) (m+f) (m+g)=upC m (aC d f g):=λf g hf hg=>by
  show((Ji c d n m n2 m2).2.2.2.2.getD (m+f) []).getD (m+g) 0=_;rw [rB f hf];unfold cmB;rw [Wp C6,MB hg]
 refine⟨?_,?_,?_,?_,?_,λf hf=>?_,λf hf=>?_,λf hf=>?_,λx hx=>?_,λf g hf hg he=>?_,λf g hf hg he=>?_⟩
 ·show IntKind.wrap .i64 (c.1+d.1)=_
  rw [hc.ob,hd.ob,Ay (by omega) (by omega)];omega
 ·show(_++_:LI).length=_
  rw [List.length_append,C6,hc.lf]
 ·show(_++_:LI).length=_
  rw [List.length_append,C6,hc.lt]
 ·show(_++_:LI).length=_
  rw [List.length_append,C6,hc.li]
 ·show(_++_:LL).length=_
  rw [List.length_append,C6,C6]
 ·rcases Dr hf with h|⟨f,h,rfl⟩
  ·rw [rA f h,List.length_append,C6,hc.lr f h]
  ·rw [rB f h];unfold cmB;rw [List.length_append,C6,C6]
 ·rcases Dr hf with h|⟨f,h,rfl⟩
  ·obtain⟨x,hx,e⟩:=hc.fr f h
   exact⟨x,by omega,by rw [F1 f h,e]⟩
  ·obtain⟨x,hx,e⟩:=hd.fr f h
   exact⟨n+x,by omega,F2 f x h e hx⟩
 ·rcases Dr hf with h|⟨f,h,rfl⟩
  ·obtain⟨x,hx,e⟩:=hc.to f h
   exact⟨x,by omega,by rw [T1 f h,e]⟩
  ·obtain⟨x,hx,e⟩:=hd.to f h
   exact⟨n+x,by omega,T2 f x h e hx⟩
 ·rcases Dr hx with h|⟨x,h,rfl⟩
  ·obtain⟨f,hf,e⟩:=hc.ix x h
   exact⟨f,by omega,(A7 (by rw [hc.li];exact h)).trans e⟩
  ·obtain⟨f,hf,e⟩:=hd.ix x h
   refine⟨m+f,by omega,?_⟩
   show(_++_:LI).getD _ _=_;rw [Wp hc.li,MB h,e,Ay (by omega) (by omega)];omega
 ·rcases Dr hf with h|⟨f,h,rfl⟩<;>rcases Dr hg with h'|⟨g,h',rfl⟩
  ·rw [T1 f h,F1 g h']at he
   obtain⟨k,h1,h2,h3,h4⟩:=hc.cp f g h h' he;exact⟨k,by omega,by rw [C11 f g h h',h2],by rw [F1 k h1,F1 f h,h3],by rw [T1 k h1,T1 g h',h4]⟩
  ·obtain⟨x,hx,e⟩:=hc.to f h
   obtain⟨y,hy,e'⟩:=hd.fr g h';rw [T1 f h,F2 g y h' e' hy,e]at he;omega
  ·obtain⟨x,hx,e⟩:=hd.to f h
   obtain⟨y,hy,e'⟩:=hc.fr g h';rw [F1 g h',T2 f x h e hx,e']at he;omega
  ·obtain⟨x,hx,e⟩:=hd.to f h
   obtain⟨y,hy,e'⟩:=hd.fr g h';obtain⟨x0,hx0,e0⟩:=hd.fr f h;obtain⟨y0,hy0,e0'⟩:=hd.to g h';rw [F2 g y h' e' hy,T2 f x h e hx]at he;obtain⟨k,h1,h2,h3,h4⟩:=hd.cp f g h h' (by rw [e,e'];omega)
   refine⟨m+k,by omega,?_,by rw [F2 f x0 h e0 hx0,F2 k x0 h1 (h3.trans e0) hx0],by rw [T2 g y0 h' e0' hy0,T2 k y0 h1 (h4.trans e0') hy0]⟩
   rw [C22 f g h h',h2];unfold upC;rw [if_pos (by omega),Ay (by omega) (by omega)];omega
 ·rcases Dr hf with h|⟨f,h,rfl⟩<;>rcases Dr hg with h'|⟨g,h',rfl⟩
  ·rw [T1 f h,F1 g h']at he
   rw [C11 f g h h'];exact hc.cn f g h h' he
  ·rw [C12 f g h h'];decide
  ·rw [C21 f g h h'];decide
  ·obtain⟨x,hx,e⟩:=hd.to f h
   obtain⟨y,hy,e'⟩:=hd.fr g h';rw [F2 g y h' e' hy,T2 f x h e hx]at he;have:=hd.cn f g h h' (by rw [e,e'];omega)
   rw [C22 f g h h'];unfold upC;rw [if_neg (by omega)];exact this
theorem p103(hc:Sp c n m)(hd:Sp d n2 m2)(b1:n<=1000)(b2:m<=1000)(b3:n2<=1000)(b4:m2<=1000):Tot (λr=>Sp r (n+n2) (m+m2)) (G103 (c,d)):=
 ⟨_,p103' hc hd b1 b2 b3 b4,Vg hc hd b1 b2 b3 b4⟩
end
end Go.Ve.D

