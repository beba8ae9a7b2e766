/- Draws: set functors on a category, parts of them. -/
import Derived.Test.YtmmmafnkggaknaaGreatDrm
import Derived.Test.YtmmmafnkggaknaaGreatYob
import Derived.Test.YtmmmafnkggaknaaGreatYqa
set_option linter.all false
namespace Go.Ve.D
open Go Go.Ve
noncomputable section
variable{c:Ca}{x:LI}{m n:Nat}{f:Sf}{s:Src}
theorem UP{c:Cat}(J:HF c=true):Sp c c.1.toNat (ar c)/\c.1.toNat<=8/\ar c<=40:=by
 have h:=IR J;obtain⟨a1,a2,a3,a4,a5,a6,a7,a8⟩:=h.hd;refine⟨⟨by omega,rfl,a3,by omega,a6,h.row,λf e=>?_,λf e=>?_,λx Z=>?_,λf g e B E=>?_,λf g e B E=>?_⟩,by omega,a2⟩
 .obtain⟨A,u⟩:=h.fr f e
  exact⟨(c.2.1.getD f 0).toNat,by omega,by show c.2.1.getD f 0=_;omega⟩
 .obtain⟨A,u⟩:=h.to f e
  exact⟨(c.2.2.1.getD f 0).toNat,by omega,by show c.2.2.1.getD f 0=_;omega⟩
 .obtain⟨A,u⟩:=h.id (x:Int) (by omega) (by omega)
  rw[tNC]at A u;exact⟨(c.2.2.2.1.getD x 0).toNat,by show _<c.2.1.length;omega,by show c.2.2.2.1.getD x 0=_;omega⟩
 .obtain⟨A,u,W,U⟩:=h.pos f g e B (dT E)
  exact⟨(T c f g).toNat,by show _<c.2.1.length;omega,by show T c f g=_;omega,W,U⟩
 .have:=h.neg f g e B (dF E)
  show T c f g<0;rw[this];decide
def fre_of{f:SF}(h:FS f):Fre (shS f) f.1.toNat (ar (shS f)) f/\∀x,x<f.1.toNat->∃s:Nat,(szF f).getD x 0=(s:Int)/\s<=16:=by
 have hsp:=(UP h.cat).1;have h0:0<=f.1:=h.sh.hd.1.1;have hl:(szF f).length=f.1.toNat:=by have:=h.l1;omega
 have u:∀x,x<f.1.toNat->∃s:Nat,(szF f).getD x 0=(s:Int)/\s<=16:=λx A=>by
  obtain⟨b1,b2⟩:=Zh h.l1 h.w (x:=(x:Int)) ⟨by omega,by omega⟩
  have e:sz f (x:Int)=(szF f).getD x 0:=by unfold sz;rw[tNC]
  rw[e]at b1 b2;exact⟨((szF f).getD x 0).toNat,by omega,by omega⟩
 refine⟨⟨rfl,hl,h.l2,λx A=>?_,λa x y s t U A Z hs ht=>?_⟩,u⟩
 .obtain⟨s,h1,h2⟩:=u x A
  exact⟨s,h1,by omega⟩
 .have W:=h.al a U
  have J:=h.aw a U;have E:fT (shS f) a=(x:Int):=A;have B:tT (shS f) a=(y:Int):=Z;rw[E]at W;rw[B]at J;have s1:sz f (x:Int)=(s:Int):=by unfold sz;rw[tNC];exact hs
  have t1:sz f (y:Int)=(t:Int):=by unfold sz;rw[tNC];exact ht
  rw[s1]at W;rw[t1]at J;have el:(act f a).length=s:=by omega
  refine⟨el,λe he=>?_⟩
  obtain⟨g1,g2⟩:=Cx J (i:=e) (by omega)
  exact⟨((act f a).getD e 0).toNat,by show(act f a).getD e 0=_;omega,by omega⟩
theorem Ym(h:okD c):okC c:=by
 obtain⟨a,b,d,e,f⟩:=h;exact⟨by omega,by omega,by omega,by omega,λy u=>by have:=f y u;omega⟩
def Yl(h:ZI f):okS f:=by
 obtain⟨a,b,d,e⟩:=h;exact⟨Ym a,by show f.2.2.2.2.2.1.length<=_;omega,by show f.2.2.2.2.2.2.length<=_;omega,λy u=>by have:=e y u;omega⟩
def p48(B:okD c){z:Int}(J:0<=z/\z<=1000)(hs:OkS s):Tot (λr=>ZI r.1/\OkS r.2) (G48 (c,z) s):=by
 unfold G48;refine A7 (p79 (Ym B)) (Ak (λ_=>Aa ⟨⟨B,Nat.zero_le _,Nat.zero_le _,λy U=>by cases U⟩,hs⟩) λe=>?_)
 have e:HF c=true:=by rw[Bool.not_eq_false']at e;exact e
 obtain⟨u,hn,hm⟩:=UP e;exact Ad (p69 u (by omega) (by omega) J hs) λv1 A=>Ad (p63 A.2) λv2 E=>Ak (λ_=>Ad (p86 u (by omega) (by omega) A.1 E.2) λZ W=>Aa W) λ_=>Aa ⟨A.1.ok u (by omega) (by omega),E.2⟩
def p127(hc:Sp c n m)(hn:n<=1000)(hm:m<=1000)(hf:Fre c n m f){x e s:Nat}(hx:x<n)(hs:f.2.2.2.2.2.1.getD x 0=(s:Int))(he:e<s):Tot (λL:LLB=>L.length=n/\∀y t:Nat,y<n->f.2.2.2.2.2.1.getD y 0=(t:Int)->(L.getD y []).length=t) (G127 (f,(x:Int),(e:Int))):=by
 obtain⟨f1,f2,f3,f4,f5,S,A⟩:=f;obtain⟨hsh,hlS,B,E,hac⟩:=hf;have hsh:(f1,f2,f3,f4,f5)=c:=hsh;subst hsh;have hlS:S.length=n:=hlS;have B:A.length=m:=B;have hob:f1=(n:Int):=hc.ob;have hlf:f2.length=m:=hc.lf;have hlt:f3.length=m:=hc.lt;have hs:S.getD x 0=(s:Int):=hs;have E:∀x,x<n->∃s:Nat,S.getD x 0=(s:Int)/\s<=8000:=E;have hac:∀a x y s t:Nat,a<m->f2.getD a 0=(x:Int)->f3.getD a 0=(y:Int)->S.getD x 0=(s:Int)->S.getD y 0=(t:Int)->(A.getD a []).length=s/\∀e,e<s->∃d:Nat,(A.getD a []).getD e 0=(d:Int)/\d<t:=hac;unfold G127;refine As (n:=n) (λi v=>v.1=(i:Int)/\v.2.length=i/\∀y t:Nat,y<i->S.getD y 0=(t:Int)->(v.2.getD y []).length=t) ⟨rfl,rfl,λy t h=>absurd h (Nat.not_lt_zero y)⟩ (λi hi v W=>?_) λv W=>?_
 .obtain⟨J,L⟩:=v
  obtain⟨(rfl:J=(i:Int)),(h1:L.length=i),(h2:∀y t:Nat,y<i->S.getD y 0=(t:Int)->(L.getD y []).length=t)⟩:=W;obtain⟨t,ht,ht8⟩:=E i hi;refine AU (by show decide ((i:Int)<f1)=true;rw[hob];exact ltD hi) (Ab (by show(0:Int)<=(i:Int)/\(i:Int)<(S.length:Int);omega) (Ab (by show(0:Int)<=S.getD i 0/\S.getD i 0<=S.getD i 0/\1*S.getD i 0<=_/\S.getD i 0<=_;rw[ht];omega) (Ab trivial (Ab (by show L.length+1<=_;omega) (Aa ⟨wrD hi (by omega),by show(L++[_]).length=i+1;rw[List.length_append,h1];rfl,λy U hy u=>?_⟩)))))
  show((L++[List.replicate (S.getD i 0).toNat false]).getD y []).length=U;by_cases e':y=i
  .subst e'
   have:(L++[List.replicate (S.getD y 0).toNat false]).getD y []=List.replicate (S.getD y 0).toNat false:=by rw[<-h1];exact Br
   rw[this,List.length_replicate,u];exact tNC U
  .rw[AD (by omega)];exact h2 y U (by omega) u
 obtain⟨J,L⟩:=v;obtain⟨(h0:J=(n:Int)),(h1:L.length=n),(h2:∀y t:Nat,y<n->S.getD y 0=(t:Int)->(L.getD y []).length=t)⟩:=W;subst h0;refine AW (by show decide ((n:Int)<f1)=false;rw[hob];exact ltf) (Aa (Ab rfl ?_))
 refine As (n:=m) (λa v=>v.1=(a:Int)/\v.2.length=n/\∀y t:Nat,y<n->S.getD y 0=(t:Int)->(v.2.getD y []).length=t) ⟨rfl,h1,h2⟩ (λa ha v W=>?_) λv W=>?_
 .obtain⟨J,M⟩:=v
  obtain⟨(rfl:J=(a:Int)),(q1:M.length=n),(q2:∀y t:Nat,y<n->S.getD y 0=(t:Int)->(M.getD y []).length=t)⟩:=W;have iF:(0:Int)<=(a:Int)/\(a:Int)<(f2.length:Int):=by rw[hlf];omega
  have iT:(0:Int)<=(a:Int)/\(a:Int)<(f3.length:Int):=by rw[hlt];omega
  have iA:(0:Int)<=(a:Int)/\(a:Int)<(A.length:Int):=by rw[B];omega
  refine AU (by show decide ((a:Int)<(A.length:Int))=true;rw[B];exact ltD ha) (Ab iF (Ak (λhfx=>?_) λ_=>Aa ⟨wrD ha (by omega),q1,q2⟩))
  have hfx:f2.getD a 0=(x:Int):=BE hfx;obtain⟨y,hy,Z⟩:=hc.to a ha;have Z:f3.getD a 0=(y:Int):=Z;obtain⟨t,ht,_⟩:=E y hy;obtain⟨g1,g2⟩:=hac a x y s t ha hfx Z hs ht;obtain⟨d,hd,hdt⟩:=g2 e he;have ey:(f3.getD a 0).toNat=y:=by omega
  have hMy:=q2 y t hy ht;refine Ab iT (Ab (by show(0:Int)<=f3.getD a 0/\f3.getD a 0<(M.length:Int);omega) (Ab iA (Ab (by show(0:Int)<=(e:Int)/\(e:Int)<((A.getD a []).length:Int);omega) (Ab ?_ (Aa ⟨wrD ha (by omega),?_,λz U hz u=>?_⟩)))))
  .show(0:Int)<=(A.getD a []).getD e 0/\(A.getD a []).getD e 0<((M.getD (f3.getD a 0).toNat []).length:Int)
   rw[ey,hd];omega
  .show(M.set _ _).length=n
   rw[List.length_set];exact q1
  .show((M.set (f3.getD a 0).toNat ((M.getD (f3.getD a 0).toNat []).set _ true)).getD z []).length=U
   rw[ey];by_cases e':z=y
   .subst e'
    rw[Hk (by omega),List.length_set];exact q2 z U hz u
   .rw[Dq e'];exact q2 z U hz u
 .obtain⟨J,M⟩:=v
  obtain⟨(r0:J=(m:Int)),(q1:M.length=n),(q2:∀y t:Nat,y<n->S.getD y 0=(t:Int)->(M.getD y []).length=t)⟩:=W;subst r0;exact AW (by show decide ((m:Int)<(A.length:Int))=false;rw[B];exact ltf) (Aa (Ab rfl (Aa ⟨q1,q2⟩)))
theorem p98t{v:Int}(B:x.length<=1048576):Tot (λ_:Bool=>True) (G98 (x,v)):=by
 unfold G98;refine As (n:=x.length) (λi u=>u=(i:Int)) rfl (λi A u e=>?_) λu e=>?_
 .obtain rfl:=e
  exact AU (ltD A) (Ab (Ac A) (Ak (λ_=>DZ (Aa trivial)) λ_=>Aa (wrD A B)))
 .obtain rfl:=e
  exact AW ltf (Aa (Ab rfl (Aa trivial)))
def PO(n k:Nat)(L:LL):Prop:=L.length=n/\∀y,y<n->(L.getD y []).length<=k
theorem p88(hc:Sp c n m)(hn:n<=1000)(hm:m<=1000)(hf:Fre c n m f)(hs:OkS s):Tot (λr=>PO n 8000 r.1/\OkS r.2) (G88 f s):=by
 have hob:f.1=(n:Int):=by have:=hc.ob;rw[<-hf.sh]at this;exact this
 have U:=hf.ls;unfold G88;refine As (n:=n) (λi v=>v.1=(i:Int)/\v.2.length=i/\∀y,y<i->(v.2.getD y []).length<=8000) ⟨rfl,rfl,λy h=>absurd h (Nat.not_lt_zero y)⟩ (λi hi v B=>?_) λv B=>?_
 .obtain⟨u,L⟩:=v
  obtain⟨(rfl:u=(i:Int)),(h1:L.length=i),(h2:∀y,y<i->(L.getD y []).length<=8000)⟩:=B;refine AU (by show decide ((i:Int)<(f.2.2.2.2.2.1.length:Int))=true;rw[U];exact ltD hi) (Ab trivial (Ab (by show L.length+1<=_;omega) (Aa ⟨wrD hi (by omega),by show(L++[_]).length=i+1;rw[List.length_append,h1];rfl,λy hy=>?_⟩)))
  show((L++[[]]).getD y []).length<=8000;by_cases e':y=i
  .subst e'
   have:(L++[([]:LI)]).getD y []=[]:=by rw[<-h1];exact Br
   rw[this];exact Nat.zero_le _
  .rw[AD (by omega)];exact h2 y (by omega)
 obtain⟨u,L0⟩:=v;obtain⟨(h0:u=(n:Int)),(hL0:PO n 8000 L0)⟩:=B;subst h0;refine AW (by show decide ((n:Int)<(f.2.2.2.2.2.1.length:Int))=false;rw[U];exact ltf) (Aa (Ab rfl (Ad (p63 hs) λu hv1=>?_)))
 obtain⟨k0,s1,s2,s3⟩:=u;obtain⟨⟨n0,n1,_⟩,J⟩:=hv1;have n0:0<=k0:=n0;have n1:k0<4:=n1 (by decide)
 have J:OkS (s1,s2,s3):=J;refine CA (I:=λv=>∃j:Nat,v.1=(j:Int)/\j<=3/\OkS (v.2.1,v.2.2.1,v.2.2.2.1)/\PO n 8000 v.2.2.2.2.2) (λv=>v.1.toNat) ⟨k0.toNat,by show k0=_;omega,by omega,J,hL0⟩ (λv B=>?_)
 obtain⟨u,a1,a2,a3,X,L⟩:=v;obtain⟨j,(rfl:u=(j:Int)),hj3,(ha:OkS (a1,a2,a3)),(hL:PO n 8000 L)⟩:=B;refine Ad (P:=λb:Bool=>b=true->0<j/\0<f.1) (Ak (λh=>Aa λh'=>⟨by have:=BE h;omega,BE h'⟩) λ_=>Aa λh=>by cases h) λv3 h3=>Ak (λhb=>?_) λ_=>Aa (Ab rfl (Aa ⟨hL,ha⟩))
 obtain⟨hj,hf0⟩:=h3 hb;have dec:IntKind.wrap .i64 ((j:Int)-1)=((j-1:Nat):Int):=by rw[Ah (by omega) (by omega)];omega
 refine Ad (p63 (z:=f.1) ha) λv4 E=>?_
 obtain⟨x,hx,hxn⟩:=BO (n:=n) E hob (by omega)
 obtain⟨w,w1,w2,w3⟩:=v4;have hx:w=(x:Int):=hx;subst hx;obtain⟨sx,hsx,hs8⟩:=hf.sz x hxn;have iS:(0:Int)<=(x:Int)/\(x:Int)<(f.2.2.2.2.2.1.length:Int):=by rw[U];omega
 refine Ab iS (Ak (λ_=>Aa ⟨⟨j-1,dec,by omega,E.2,hL⟩,?_⟩) λhne=>Ab iS (Ad (p63 (z:=f.2.2.2.2.2.1.getD x 0) E.2) λv5 hv5=>?_))
 .show(IntKind.wrap .i64 ((j:Int)-1)).toNat<(j:Int).toNat
  rw[dec];omega
 have hne:¬f.2.2.2.2.2.1.getD x 0=0:=IE hne;obtain⟨e,he,hes⟩:=BO (n:=sx) hv5 hsx (by omega)
 refine Ad (P:=λL:LLB=>L.length=n/\∀y t:Nat,y<n->f.2.2.2.2.2.1.getD y 0=(t:Int)->(L.getD y []).length=t) ?_ λM hM=>?_
 .show Tot _ (G127 (f,(x:Int),v5.1))
  rw[he];exact p127 hc hn hm hf hxn hsx hes
 refine As (n:=n) (λy v=>v.1=(y:Int)/\OkS (v.2.1,v.2.2.1,v.2.2.2.1)/\PO n 8000 v.2.2.2.2.2.1/\v.2.2.2.2.2.2=M) ⟨rfl,hv5.2,hL,rfl⟩ (λy hy v B=>?_) λv B=>?_
 .obtain⟨u,b1,b2,b3,X',L',M'⟩:=v
  obtain⟨(rfl:u=(y:Int)),(W:OkS (b1,b2,b3)),(A:PO n 8000 L'),(Z:M'=M)⟩:=B;subst Z;obtain⟨t,ht,ht8⟩:=hf.sz y hy;have hMy:=hM.2 y t hy ht;have iM:(0:Int)<=(y:Int)/\(y:Int)<(M'.length:Int):=by rw[hM.1];omega
  have iL:(0:Int)<=(y:Int)/\(y:Int)<(L'.length:Int):=by rw[A.1];omega
  refine AU (by show decide ((y:Int)<(M'.length:Int))=true;rw[hM.1];exact ltD hy) ?_
  refine As (n:=t) (λe v=>v.1=(e:Int)/\v.2.length<=e) ⟨rfl,Nat.le_refl _⟩ (λe he v B=>?_) λv B=>?_
  .obtain⟨u,l⟩:=v
   obtain⟨(rfl:u=(e:Int)),(hl:l.length<=e)⟩:=B;refine Ab iM (AU (by show decide ((e:Int)<((M'.getD y []).length:Int))=true;rw[hMy];exact ltD he) (Ab iM (Ab (by show(0:Int)<=(e:Int)/\(e:Int)<((M'.getD y []).length:Int);omega) (Ad (P:=λ_=>True) (Ak (λ_=>Aa trivial) λ_=>Ab iL (Ad (p98t (x:=L'.getD y []) (by have:=A.2 y hy;omega)) λv9 _=>Aa trivial)) λv9 _=>Ak (λ_=>Ab (by show l.length+1<=_;omega) (Aa ⟨wrD he (by omega),by show(l++[_]).length<=e+1;rw[List.length_append];show l.length+1<=e+1;omega⟩)) λ_=>Aa ⟨wrD he (by omega),by show l.length<=e+1;omega⟩))))
  .obtain⟨u,l⟩:=v
   obtain⟨(r0:u=(t:Int)),(hl:l.length<=t)⟩:=B;subst r0;refine Ab iM (AW (by show decide ((t:Int)<((M'.getD y []).length:Int))=false;rw[hMy];exact ltf) (Aa (Ab rfl (Ab iL (Aa ⟨wrD hy (by omega),W,⟨by show(L'.set _ _).length=n;rw[List.length_set];exact A.1,λz hz=>?_⟩,rfl⟩)))))
   show((L'.set y l).getD z []).length<=8000;by_cases e':z=y
   .subst e';rw[Hk (by rw[A.1];exact hz)];omega
   .rw[Dq e'];exact A.2 z hz
 .obtain⟨u,b1,b2,b3,X',L',M'⟩:=v
  obtain⟨(r0:u=(n:Int)),(W:OkS (b1,b2,b3)),(A:PO n 8000 L'),(Z:M'=M)⟩:=B;subst r0 Z;refine AW (by show decide ((n:Int)<(M'.length:Int))=false;rw[hM.1];exact ltf) (Aa (Ab rfl (Aa ⟨⟨j-1,dec,by omega,W,A⟩,?_⟩)))
  show(IntKind.wrap .i64 ((j:Int)-1)).toNat<(j:Int).toNat;rw[dec];omega
abbrev okP(p:LL):Prop:=p.length<=1048576/\∀y∈p,y.length<=1048576
theorem p50(hf:ZI f)(hs:OkS s):Tot (λr=>(r.1.length<=8/\∀y∈r.1,y.length<=8001)/\OkS r.2) (G50 f s):=by
 unfold G50;refine A7 (p55 (Yl hf)) (Ak (λ_=>Aa ⟨⟨Nat.zero_le _,λy J=>by cases J⟩,hs⟩) λe=>?_)
 have e:Dp f=true:=by rw[Bool.not_eq_false']at e;exact e
 have hF:=BD e;obtain⟨hsp,hn,hm⟩:=UP hF.cat;obtain⟨B,_⟩:=fre_of hF;have hn':(shS f).1.toNat<=8:=hn;refine Ad (p88 hsp (by omega) (by omega) B hs) λu h1=>Ad (p63 h1.2) λv2 Z=>?_
 obtain⟨⟨hp1,U⟩,_⟩:=h1
 have po:∀{L:LL},L.length=u.1.length->(∀y,y<(shS f).1.toNat->(L.getD y []).length<=8001)->L.length<=8/\∀y∈L,y.length<=8001:=fun{L} h1 Z=>by
  refine⟨by omega,λy J=>?_⟩
  obtain⟨k,hk,ek⟩:=JN [] J;rw[<-ek];exact Z k (by omega)
 refine Ad (P:=λb:Bool=>b=true->0<(u.1.length:Int)) (Ak (λ_=>Aa λh=>BE h) λ_=>Aa λh=>by cases h) λv3 h3=>Ak (λhb=>?_) λ_=>Aa ⟨po rfl λy J=>Nat.le_succ_of_le (U y J),Z.2⟩
 have hp0:u.1.length=f.1.toNat:=hp1;refine Ad (p63 (z:=(u.1.length:Int)) Z.2) λv4 h4=>?_
 obtain⟨x,hx,hxn⟩:=BO (n:=u.1.length) h4 rfl (by have:=h3 hb;omega)
 obtain⟨w,w4⟩:=v4;have hx:w=(x:Int):=hx;subst hx;have E:(0:Int)<=(x:Int)/\(x:Int)<(u.1.length:Int):=by omega
 have iS:(0:Int)<=(x:Int)/\(x:Int)<(f.2.2.2.2.2.1.length:Int):=by rw[B.ls];omega
 have hrow:=U x (by omega)
 have put:∀l:LI,l.length<=8001->(u.1.set x l).length<=8/\∀y∈u.1.set x l,y.length<=8001:=λl hl=>po (by rw[List.length_set]) λy J=>by
  by_cases e':y=x
  .subst e';rw[Hk hxn];exact hl
  .rw[Dq e'];exact Nat.le_succ_of_le (U y J)
 have app:∀a:Int,(u.1.getD x []++[a]).length<=8001:=λa=>by rw[List.length_append];show _+1<=_;omega
 have le1:(u.1.getD x []).length+1<=17592186044416:=by omega
 have gg:(((0:Nat)<=0/\(0:Nat)<=0))/\((x<=x/\x<=x)/\True):=⟨⟨Nat.le_refl _,Nat.le_refl _⟩,⟨Nat.le_refl _,Nat.le_refl _⟩,trivial⟩;refine Ab E (Ak (λA=>?_) λ_=>Ab E (Ab iS (Ad (p36 h4.2) λv5 W=>Ab ⟨⟨E,gg⟩,le1⟩ (Aa ⟨put _ (app _),W⟩))))
 have A:0<(((u.1.getD x []).length:Nat):Int):=BE A;refine Ad (p63 h4.2) λv5 W=>Ak (λ_=>?_) λ_=>Ab E (Ab iS (Ad (p36 W.2) λv6 h6=>Ab ⟨⟨E,gg⟩,le1⟩ (Aa ⟨put _ (app _),h6⟩)))
 refine Ab E (Ab ⟨by decide,by show(1:Int)<=(((u.1.getD x []).length:Nat):Int);omega,Int.le_refl _⟩ (Ab E (Ab gg (Aa ⟨put _ ?_,W.2⟩))))
 rw[List.length_map,List.length_range];show(((u.1.getD x []).length:Nat):Int).toNat-(1:Int).toNat<=8001;omega
def p23(hs:OkS s):Tot (λr=>ZI r.1.1/\(r.1.2.1.length<=8/\∀y∈r.1.2.1,y.length<=8001)/\OkS r.2) (G23 () s):=by
 unfold G23;exact Ad (p49 hs) λv0 A=>Ad (p48 A.1 (by decide) A.2) λU e=>Ad (p50 e.1 e.2) λJ u=>Ad (p50 e.1 u.2) λE B=>Aa ⟨e.1,u.1,B.2⟩
def p6(E:Vs x):∃(f:Sf) (P:LL),okS f/\okP P/\G6 x=some (f,P):=by
 have:Tot (λr:Sf×LL=>okS r.1/\okP r.2) (G6 x):=by
  unfold G6;exact Ad (p24 E) λv0 U=>Ad (p23 U) λA u=>Aa ⟨Yl u.1,by have:=u.2.1.1;show A.1.2.1.length<=_;omega,λy B=>by have:=u.2.1.2 y B;omega⟩
 obtain⟨⟨f,P⟩,e,u,J⟩:=this;exact⟨f,P,u,J,e⟩
end
end Go.Ve.D


namespace Go.Ve.D
open Go Go.Ve
noncomputable section
variable{P:List (List Int)}{f:SF}
def law_no(h:(Dp f&&Bo f P)=false):Xm f P=(([]:List (List Int)),(1:Int)):=by unfold Xm;rw[h];rfl
def ZY(h:(Dp f&&Bo f P)=true):Xm f P=(neg f P,(0:Int)):=by unfold Xm;rw[h];rfl
def ZP(u:Dp f=true)(P:List (List Int)):meet f P (neg f P)=mkP f nn:=CF λY A D B=>by
 show(hs P Y D&&hs (mkP f (ng f (hs P))) Y D)=false;rw[Ou A B];cases e:ng f (hs P) Y D with
 |false=>rw[Bool.and_false]
 |true=>rw[Pj u A B e];rfl
def VK(P:List (List Int)):Z0 f P (neg f P)=mkP f λY D=>hs P Y D||ng f (hs P) Y D:=CF λY e D u=>by
 show(hs P Y D||hs (mkP f (ng f (hs P))) Y D)=_;rw[Ou e u]
def no_row{Y:Nat}:((mkP f nn).getD Y [])=[]:=by
 by_cases h:Y<f.2.2.2.2.2.1.length
 .rw[Ku h]
  unfold mkR;rw[List.filter_eq_nil_iff.2 λa _=>by simp[nn]];rfl
 .rw[gDE,List.getElem?_eq_none (by unfold mkP;rw[List.length_map,List.length_range];omega)];rfl
theorem law3{x:List Int}(hx:Vs x):G3 x=some true:=by
 obtain⟨f,P,E,B,e6⟩:=p6 hx;have B:okL P:=B;unfold G3;refine Ae (a:=G5 x) (v:=false) (congrArg some (dF (by have:=hx.1;omega))) ?_
 refine Ae (a:=G6 x) e6 (Ae (a:=G7 (f,P)) (p7 E B) (Ae (a:=G8 (f,P)) (p8 E B) ?_));cases hb:Dp f&&Bo f P with
 |false=>
  rw[law_no hb];exact Ae (v:=false) (Ae (a:=G9 (([]:List (List Int)),[])) (p9 ⟨Nat.zero_le _,λy hy=>by cases hy⟩) rfl) rfl
 |true=>
  rw[ZY hb];rw[bAE]at hb;obtain⟨u,U⟩:=hb;have A:=BD u;have hc:=Aap A U;have hPL:=MY B U;have Z:PL f (neg f P):=DT A _;have W:Bo f (neg f P)=true:=Ll A (XU u _);have h2:Bo f (mkP f (ng f (ng f (hs P))))=true:=Ll A (XU u _);refine Ae (v:=false) (Ae (a:=G9 (neg f P,neg f P)) (p9 Z.o) rfl) ?_;have e5:G7 (f,neg f P)=some (mkP f (ng f (ng f (hs P))),0):=by rw[p7t E Z.o u W];rw[show neg f P=mkP f (ng f (hs P))from rfl,Pk A]
  have e5b:G7 (f,mkP f (ng f (ng f (hs P))))=some (neg f P,0):=by
   rw[p7t E (DT A _).o u h2,Pk A]
   congr 2
   exact CF λY _ D J=>nnn u hc J
  have e10:G10 (f,(P,neg f P))=some (mkP f nn,0):=by rw[p10 E B Z.o u U W,ZP u]
  have cJ:cl f λY D=>hs P Y D||ng f (hs P) Y D:=cl_or hc (XU u _)
  have e11:G11 (f,(P,neg f P))=some (mkP f (λY D=>hs P Y D||ng f (hs P) Y D),0):=by rw[p11 E B Z.o u U W,VK]
  have e12:G12 (f,mkP f λY D=>hs P Y D||ng f (hs P) Y D)=some (true,0):=by
   rw[p12 E u cJ,(wh_mk A).2 λY _ D J=>dense u (hs P) J]
  have e13:G13 (f,P)=some (wh f (mkP f λY D=>hs P Y D||ng f (hs P) Y D),0):=by rw[p13 E B u U,VK]
  have e14:G14 (f,(P,mkP f (ng f (ng f (hs P)))))=some (true,0):=by
   refine p14 E B (DT A _).o u U h2 λY hY e he=>?_
   have hY:Y<f.2.2.2.2.2.1.length:=by have:=hPL.l;omega
   obtain⟨n,Z,_,hsn⟩:=A.size hY;have hw:=(DO U).w Y (by rw[hPL.l];exact hY)
   rw[Z]at hw;obtain⟨g1,g2⟩:=Cx hw he;have eD:(P.getD Y []).getD e 0=((((P.getD Y []).getD e 0).toNat:Nat):Int):=by omega
   have J:((P.getD Y []).getD e 0).toNat<(sz f (Y:Int)).toNat:=by omega
   have:((mkP f (ng f (ng f (hs P)))).getD Y []).contains ((((P.getD Y []).getD e 0).toNat:Nat):Int)=_:=Ou (q:=ng f (ng f (hs P))) hY J;rw[<-eD]at this;rw[this];refine Xx u hc J ?_;unfold hs;rw[<-eD];exact List.contains_iff_mem.2 (DE 0 he)
  refine Ae (a:=G7 (f,neg f P)) e5 (Ae (a:=G7 (f,mkP f (ng f (ng f (hs P))))) e5b (Ae (a:=G10 (f,(P,neg f P))) e10 (Ae (a:=G11 (f,(P,neg f P))) e11 (Ae (a:=G12 (f,mkP f λY D=>hs P Y D||ng f (hs P) Y D)) e12 (Ae (a:=G13 (f,P)) e13 (Ae (a:=G14 (f,(P,mkP f (ng f (ng f (hs P)))))) e14 ?_))))))
  have hl:(mkP f nn).length<=1048576:=(DT A nn).o.1;refine Ae (Cf (st:=λi:Nat=>(true,(i:Int))) (n:=(mkP f nn).length) (o:=.brk 0 (true,((mkP f nn).length:Int))) rfl (λi hi=>?_) ?_ (λy=>by simp)) ?_
  .simp only[Am,hi,decide_true,cond_true,Ac hi,and_self,if_true,tNC,no_row,Option.bind_some,List.length_nil]
   rw[Ah (by omega) (by omega)];rfl
  .simp only[Am,Nat.lt_irrefl,decide_false,cond_false]
  refine fin4 (β:=Unit) ?_;show(if 0=0 then _ else none)=_
  rw[if_pos rfl];refine Ae (v:=false) (Ae (a:=G9 (neg f P,neg f P)) (p9 Z.o) rfl) (Ae (v:=false) rfl (Ae (v:=false) rfl (Ae (v:=false) rfl ?_)));cases hw:wh f (mkP f λY D=>hs P Y D||ng f (hs P) Y D)with
  |false=>rfl
  |true=>
   have e:mkP f (ng f (ng f (hs P)))=P:=by
    refine Eq.trans (CF λY hY D J=>compl u hc hY J ((wh_mk A).1 hw Y hY D J)) (ZD A U)
   rw[e];exact Ae (a:=Option.bind (G9 (P,P)) _) (Ae (a:=G9 (P,P)) (p9 B) rfl) rfl
def u8_in{n:Int}(h:(Lit.int .u8 n).wf=true):0<=n/\n<=255:=by
 have h:(decide (IntKind.u8.min<=n)&&decide (n<=IntKind.u8.max))=true:=h;rw[bAE,decide_eq_true_eq,decide_eq_true_eq]at h;have u:IntKind.u8.min=0:=by decide
 have e:IntKind.u8.max=255:=by decide
 omega
theorem p3(x:List Int)(h:okT (PT S3.ps) x):G3 x=some true:=by
 have h:x.length<=maxLen/\∀n∈x,(Lit.int .u8 n).wf=true:=h;by_cases e:x.length<=4096
 .exact law3 ⟨e,λb u=>u8_in (h.2 b u)⟩
 .unfold G3
  exact Ae (v:=true) (congrArg some (dT (by omega))) rfl
end
end Go.Ve.D

