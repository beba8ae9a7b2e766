/- Orbits. -/
import Derived.Test.YteakdlfnmhlifaaAda
open List(range range_succ)
set_option linter.all false
namespace Go.Ve.D
open Go Go.Ve
variable{d e x y:Nat}{f:SF}
def g2(f:SF)(x e k y d:Nat):Bool:=(range k).any λa=>decide (fT (shS f) a=(x:Int))&&gQ f e y d (a:Int)
def YQ{k:Nat}:g2 f x e (k+1) y d=(g2 f x e k y d||(decide (fT (shS f) k=(x:Int))&&gQ f e y d (k:Int))):=by
 unfold g2;rw[range_succ,List.any_append];simp
def AbD:gen f x e y d=g2 f x e (ar (shS f)) y d:=any_fm
theorem p110(U:FS f)(hl:f.2.2.2.2.2.1.length<=1048576)(hm:f.2.1.length<=1048576)(he:(e:Int)<sz f (x:Int)):Tot (λr=>r=bm f (gen f x e)) (G110 (f,((x:Int),(e:Int)))):=by
 unfold G110;have l1:((f.2.2.2.2.2.1.length:Nat):Int)=f.1:=U.l1;have l2:f.2.2.2.2.2.2.length=ar (shS f):=U.l2;have lf:f.2.1.length=ar (shS f):=rfl;refine AE (n:=f.2.2.2.2.2.1.length) (λi v=>v.1=(i:Int)/\v.2=(range i).map λx=>(range (nx f x)).map λ_=>false) ⟨rfl,rfl⟩ (λi hi v B=>?_) λv B=>?_
 .obtain⟨k,u⟩:=v
  obtain⟨(O:k=_),(J:u=_)⟩:=B;subst O J;obtain⟨n,hn,hn16,E⟩:=U.size hi;have Z:nx f i=n:=E;have en:f.2.2.2.2.2.1.getD ((i:Int)).toNat 0=(n:Int):=by rw[tNC];exact hn
  refine BC (by show decide ((i:Int)<f.1)=true;rw[<-l1];exact ltt hi) (Ah (by show(0:Int)<=(i:Int)/\(i:Int)<((f.2.2.2.2.2.1.length:Nat):Int);omega) (Ah ?_ (Ah trivial (Ah ?_ (Aa ⟨wr1 hi (by omega),?_⟩)))))
  .show 0<=f.2.2.2.2.2.1.getD ((i:Int)).toNat 0/\(f.2.2.2.2.2.1.getD ((i:Int)).toNat 0<=f.2.2.2.2.2.1.getD ((i:Int)).toNat 0/\(1*f.2.2.2.2.2.1.getD ((i:Int)).toNat 0<=281474976710656/\f.2.2.2.2.2.1.getD ((i:Int)).toNat 0<=9223372036854775807))
   rw[en];omega
  .show((range i).map λx=>(range (nx f x)).map λ_=>false).length+1<=_
   rw[List.length_map,List.length_range];omega
  .show((range i).map λx=>(range (nx f x)).map λ_=>false)++[List.replicate (f.2.2.2.2.2.1.getD ((i:Int)).toNat 0).toNat false]=_
   have:List.replicate (f.2.2.2.2.2.1.getD ((i:Int)).toNat 0).toNat false=(range (nx f i)).map λ_=>false:=by
    rw[en,tNC,Z,List.map_const',List.length_range]
   rw[this];exact Oc
 .obtain⟨k,u⟩:=v
  obtain⟨(O:k=_),(J:u=_)⟩:=B;subst O J;refine Bt (by show decide (((f.2.2.2.2.2.1.length:Nat):Int)<f.1)=false;rw[<-l1];exact ltf) (Aa (Ah rfl ?_))
  refine AE (n:=ar (shS f)) (λk v=>v.1=(k:Int)/\v.2=bm f (g2 f x e k)) ⟨rfl,rfl⟩ (λa ha v B=>?_) λv B=>?_
  .obtain⟨k,A⟩:=v
   obtain⟨(O:k=_),(J:A=_)⟩:=B;subst O J;obtain⟨b1,b2,b3,X,Y,hX,hY,hXl,F,hXs,hYw⟩:=U.ends ha;have W:((a:Int)).toNat=a:=tNC a;have ham:a<1048576:=by omega
   refine BC (by show decide ((a:Int)<((f.2.2.2.2.2.2.length:Nat):Int))=true;rw[l2];exact ltt ha) (Ah (by show(0:Int)<=(a:Int)/\(a:Int)<((f.2.1.length:Nat):Int);omega) (AX (λh=>?_) λh=>?_))
   .have h:decide (f.2.1.getD ((a:Int)).toNat 0=(x:Int))=true:=h
    rw[W]at h;have h:=Jp h;have hq:fT (shS f) a=(x:Int):=h;have hal:=U.al a ha;rw[hq]at hal;have hel:e<(act f a).length:=by omega
    obtain⟨w1,w2⟩:=Hq hYw (i:=e) hel;obtain⟨n,hn,hn16,E⟩:=U.size F;have Z:nx f Y=n:=E;obtain⟨D,hD⟩:∃D:Nat,(act f a).getD e 0=(D:Int):=⟨((act f a).getD e 0).toNat,by omega⟩
    have hDn:D<nx f Y:=by rw[hn,hD]at w2;omega
    have eY:f.2.2.1.getD ((a:Int)).toNat 0=(Y:Int):=by rw[W];exact hY
    have eD:(f.2.2.2.2.2.2.getD ((a:Int)).toNat []).getD ((e:Int)).toNat 0=(D:Int):=by rw[W,tNC];exact hD
    have rY:(((bm f (g2 f x e a)).getD Y []).length:Nat)=nx f Y:=by rw[C7 F];simp
    refine Ah (by show(0:Int)<=(a:Int)/\(a:Int)<((f.2.2.1.length:Nat):Int);omega) (Ah ?_ (Ah (by show(0:Int)<=(a:Int)/\(a:Int)<((f.2.2.2.2.2.2.length:Nat):Int);omega) (Ah ?_ (Ah ?_ (Aa ⟨wr1 ha (by omega),?_⟩)))))
    .show 0<=f.2.2.1.getD ((a:Int)).toNat 0/\f.2.2.1.getD ((a:Int)).toNat 0<(((bm f (g2 f x e a)).length:Nat):Int)
     rw[eY,Cy];omega
    .show(0:Int)<=(e:Int)/\(e:Int)<(((f.2.2.2.2.2.2.getD ((a:Int)).toNat []).length:Nat):Int)
     rw[W];have:f.2.2.2.2.2.2.getD a []=act f a:=rfl;rw[this];omega
    .show 0<=(f.2.2.2.2.2.2.getD ((a:Int)).toNat []).getD ((e:Int)).toNat 0/\(f.2.2.2.2.2.2.getD ((a:Int)).toNat []).getD ((e:Int)).toNat 0<((((bm f (g2 f x e a)).getD (f.2.2.1.getD ((a:Int)).toNat 0).toNat []).length:Nat):Int)
     rw[eD,eY,tNC,rY];omega
    .show(bm f (g2 f x e a)).set (f.2.2.1.getD ((a:Int)).toNat 0).toNat (((bm f (g2 f x e a)).getD (f.2.2.1.getD ((a:Int)).toNat 0).toNat []).set ((f.2.2.2.2.2.2.getD ((a:Int)).toNat []).getD ((e:Int)).toNat 0).toNat true)=bm f (g2 f x e (a+1))
     rw[eD,eY,tNC,tNC,C7 F];refine Eq.trans set2 (BN λy hy d hd=>?_)
     rw[YQ,dT hq,Bool.true_and]
     have hg:gQ f e y d (a:Int)=(decide (Y=y)&&decide (D=d)):=by
      unfold gQ;rw[W];have H:f.2.2.1.getD a 0=(Y:Int):=hY;have h2:(f.2.2.2.2.2.2.getD a []).getD e 0=(D:Int):=hD;rw[H,h2]
      congr 1<;>(rw[decide_eq_decide];omega)
     rw[hg];by_cases H:y=Y<;>by_cases h2:d=D
     .subst H h2;simp
     .have:¬D=d:=λh=>h2 h.symm
      simp[h2,this]
     .have:¬Y=y:=λh=>H h.symm
      simp[H,this]
     .have:¬Y=y:=λh=>H h.symm
      simp[H,this]
   .have h:decide (f.2.1.getD ((a:Int)).toNat 0=(x:Int))=false:=h
    rw[W]at h;have hq:¬fT (shS f) a=(x:Int):=KG h;refine Aa ⟨wr1 ha (by omega),BN λy hy d hd=>?_⟩
    rw[YQ,dF hq];simp
  .obtain⟨k,A⟩:=v
   obtain⟨(O:k=_),(J:A=_)⟩:=B;subst O J;refine Bt (by show decide ((ar (shS f):Int)<((f.2.2.2.2.2.2.length:Nat):Int))=false;rw[l2];exact ltf) (Aa (Ah rfl (Aa (BN λy hy d hd=>AbD.symm))))
end Go.Ve.D


namespace Go.Ve.D
open Go Go.Ve
theorem p66{f:SF}(U:FS f)(hl:f.2.2.2.2.2.1.length<=1048576)(hm:f.2.1.length<=1048576){x0 e0:Nat}(he0:(e0:Int)<sz f (x0:Int)):Tot (λr=>r=pL f (gen f x0 e0)) (G66 (f,[[(x0:Int),(e0:Int)]])):=by
 unfold G66;refine AT (p63 hl) λv0 h0=>?_
 subst h0;obtain⟨S,hS⟩:∃S:Nat->Nat->Bool,S=λ_ _=>false:=⟨_,rfl⟩
 obtain⟨T,hT⟩:∃T:Nat->Nat->Bool,T=gen f x0 e0:=⟨_,rfl⟩;rw[<-hS,<-hT];refine Bu (v:=bm f S) (by rw[<-AdB];exact p108 U (AcJ U) (VY U hl)) ?_
 refine AE (n:=1) (λi v=>v.1=(i:Int)/\(i=0->v.2=bm f S)/\(i=1->v.2=bm f T)) ⟨rfl,λ_=>rfl,λh=>by omega⟩ (λi hi v u=>?_) λv u=>?_
 .obtain rfl:i=0:=by omega
  obtain⟨k,A0⟩:=v;obtain⟨(E:k=_),hM0,_⟩:=u;have H:A0=bm f S:=hM0 rfl;subst E;subst H;refine BC (show decide ((0:Int)<1)=true by decide) (Ah (show(0:Int)<=0/\(0:Int)<1 by decide) (Ah (show(0:Int)<=0/\(0:Int)<2 by decide) (Ah (show(0:Int)<=0/\(0:Int)<1 by decide) (Ah (show(0:Int)<=1/\(1:Int)<2 by decide) (AT (p110 U hl hm he0) λB0 hB=>?_)))))
  rw[<-hT]at hB;subst hB;refine AE (n:=f.2.2.2.2.2.1.length) (λi v=>v.1=(i:Int)/\v.2.1=bm f (mxQ S T i 0)/\v.2.2=bm f T) ⟨rfl,BN λx F e W=>by simp[mxQ],rfl⟩ (λx F v u=>?_) λv u=>?_
  .obtain⟨k,A,B⟩:=v
   obtain⟨(E:k=_),(O:A=_),(J:B=_)⟩:=u;subst E O J;have hn16:=Abp U F;refine BC (by show decide ((x:Int)<(((bm f T).length:Nat):Int))=true;rw[Cy];exact ltt F) (AE (n:=nx f x) (λj v=>v.1=(j:Int)/\v.2.1=bm f (mxQ S T x j)/\v.2.2=bm f T) ⟨rfl,rfl,rfl⟩ (λe W v u=>?_) λv u=>?_)
   .obtain⟨k,A,B⟩:=v
    obtain⟨(E:k=_),(O:A=_),(J:B=_)⟩:=u;subst E O J;have Z:((x:Int)).toNat=x:=tNC x;have ee:((e:Int)).toNat=e:=tNC e;have g1:(0:Int)<=(x:Int)/\(x:Int)<(((bm f (mxQ S T x e)).length:Nat):Int):=by rw[Cy];omega
    have g2:(0:Int)<=(x:Int)/\(x:Int)<(((bm f T).length:Nat):Int):=by rw[Cy];omega
    have r1:(((bm f (mxQ S T x e)).getD ((x:Int)).toNat []).length:Nat)=nx f x:=by rw[Z,C7 F];simp
    have r2:(((bm f T).getD ((x:Int)).toNat []).length:Nat)=nx f x:=by rw[Z,C7 F];simp
    have g3:(0:Int)<=(e:Int)/\(e:Int)<((((bm f (mxQ S T x e)).getD ((x:Int)).toNat []).length:Nat):Int):=by rw[r1];omega
    have g4:(0:Int)<=(e:Int)/\(e:Int)<((((bm f T).getD ((x:Int)).toNat []).length:Nat):Int):=by rw[r2];omega
    have v1:((bm f (mxQ S T x e)).getD ((x:Int)).toNat []).getD ((e:Int)).toNat false=S x e:=by
     rw[Z,ee,Pw F W];simp[mxQ]
    have v2:((bm f T).getD ((x:Int)).toNat []).getD ((e:Int)).toNat false=T x e:=by rw[Z,ee,Pw F W]
    refine Ah g2 (BC (by show decide ((e:Int)<((((bm f T).getD ((x:Int)).toNat []).length:Nat):Int))=true;rw[r2];exact ltt W) (Ah g1 (Ah g1 (Ah g3 (AT (P:=λb=>b=(S x e||T x e)) (AX (λh=>Aa ?_) λh=>Ah g2 (Ah g4 (Aa ?_))) λb hb=>Ah g3 (Aa ⟨wr1 W (by omega),?_,rfl⟩))))))
    .have h:((bm f (mxQ S T x e)).getD ((x:Int)).toNat []).getD ((e:Int)).toNat false=true:=h
     rw[v1]at h;rw[h];rfl
    .have h:((bm f (mxQ S T x e)).getD ((x:Int)).toNat []).getD ((e:Int)).toNat false=false:=h
     rw[v1]at h;show((bm f T).getD ((x:Int)).toNat []).getD ((e:Int)).toNat false=_;rw[v2,h];rfl
    .show(bm f (mxQ S T x e)).set ((x:Int)).toNat (((bm f (mxQ S T x e)).getD ((x:Int)).toNat []).set ((e:Int)).toNat b)=bm f (mxQ S T x (e+1))
     rw[Z,ee,C7 F,hb];refine Eq.trans set2 (BN λy hy d hd=>?_)
     by_cases Y:y=x
     .subst Y
      by_cases h2:d=e
      .subst h2;simp[mxQ]
      .have:decide (d<e+1)=decide (d<e):=by rw[decide_eq_decide];omega
       simp[mxQ,h2,this]
     .simp[mxQ,Y]
   .obtain⟨k,A,B⟩:=v
    obtain⟨(E:k=_),(O:A=_),(J:B=_)⟩:=u;subst E O J;have g1:(0:Int)<=(x:Int)/\(x:Int)<(((bm f T).length:Nat):Int):=by rw[Cy];omega
    have r1:(((bm f T).getD ((x:Int)).toNat []).length:Nat)=nx f x:=by rw[tNC,C7 F];simp
    refine Ah g1 (Bt (by show decide ((nx f x:Int)<((((bm f T).getD ((x:Int)).toNat []).length:Nat):Int))=false;rw[r1];exact ltf) (Aa (Ah rfl (Aa ⟨wr1 F (by omega),?_,rfl⟩))))
    refine BN λy hy d hd=>?_
    by_cases Y:y=x
    .subst Y;simp[mxQ,hd]
    .have:decide (y<x+1)=decide (y<x):=by rw[decide_eq_decide];omega
     simp[mxQ,Y,this]
  .obtain⟨k,A,B⟩:=v
   obtain⟨(E:k=_),(O:A=_),(J:B=_)⟩:=u;subst E O J;have e4:bm f (mxQ S T f.2.2.2.2.2.1.length 0)=bm f T:=BN λy hy d hd=>by simp[mxQ,hy,hS]
   exact Bt (by show decide ((f.2.2.2.2.2.1.length:Int)<(((bm f T).length:Nat):Int))=false;rw[Cy];exact ltf) (Aa (Ah rfl (Aa ⟨rfl,λh=>by omega,λ_=>e4⟩)))
 .obtain⟨k,A0⟩:=v
  obtain⟨(E:k=_),_,hM⟩:=u;have H:A0=bm f T:=hM rfl;subst E;subst H;refine Bt (show decide ((1:Int)<1)=false by decide) (Aa (Ah rfl (Bu (v:=pL f T) ?_ (Aa rfl))))
  show G109 (bm f T)=_;rw[p109 (by rw[Cy];exact hl) (λi hi=>?_),Vf]
  rw[Cy]at hi;rw[C7 hi];have:=Abp U hi;simp;omega
end Go.Ve.D


namespace Go.Ve.D
open Go Go.Ve
variable{L:LLL}{q:List (List Int)}{i:Nat}{f:SF}
def p77{p:List (List Int)}(A:Qp p)(u:Qp q):G77 (p,q)=some (decide (q=p)):=by
 unfold G77;show Option.bind (G78 (q,p)) _=_;rw[p78 u A];show some (decide (AV q p=0))=_
 congr 1
 rw[decide_eq_decide];exact⟨DB q p,λh=>by rw[h];exact IT p⟩
def Jn{k:Nat}(u:k<L.length):L.getD k []∈L:=by
 rw[gDE,gEE u];exact List.getElem_mem _
theorem Yn(h:¬ ∃k,k<L.length/\L.getD k []=q):¬q∈L:=λA=>by
 obtain⟨k,u,e⟩:=List.getElem_of_mem A;refine h ⟨k,u,?_⟩;rw[gDE,gEE u];exact e
theorem p10076(J:L.length<=1000000)(F:∀p∈L,Qp p)(E:Qp q):Tot (λb=>b=true↔q∈L) (G10076 (L,q)):=by
 unfold G10076;refine AT (P:=λv:Int=>0<=v↔q∈L) ?_ λv u=>Aa (by rw[decide_eq_true_iff];exact u)
 unfold G10120;refine AE (n:=L.length) (λi v=>v=(i:Int)/\∀k,k<i->L.getD k []≠q) ⟨rfl,λk A=>by omega⟩ (λi hi v u=>?_) λv u=>?_
 .obtain⟨rfl,B⟩:=u
  refine BC (ltt hi) (Ah ⟨by omega,by show(i:Int)<((L.length:Nat):Int);omega⟩ (Bu (v:=decide (q=L.getD i [])) ?_ (AX (λe=>DL (Aa ?_)) λe=>Aa ⟨wr1 hi (by omega),?_⟩)))
  .show G77 (L.getD ((i:Int)).toNat [],q)=_
   rw[tNC];exact p77 (F _ (Jn hi)) E
  .have e:decide (q=L.getD i [])=true:=e
   have e:=Jp e;exact⟨λ_=>by rw[e];exact Jn hi,λ_=>by show(0:Int)<=(i:Int);omega⟩
  .have e:decide (q=L.getD i [])=false:=e
   have e:=KG e;intro k A;by_cases h:k=i
   .rw[h];exact λH=>e H.symm
   .exact B k (by omega)
 .obtain⟨rfl,B⟩:=u
  refine Bt ltf (Aa (Ah rfl (Aa ⟨λh=>absurd h (by omega),λh=>absurd h (Yn fun⟨k,A,e⟩=>B k A e)⟩)))
theorem p67(F:L.length<=1000000)(E:∀p∈L,okL p):Tot (λb=>b=true↔q∈L) (G67 (L,q)):=by
 unfold G67;refine AE (n:=L.length) (λi v=>v=(i:Int)/\∀k,k<i->L.getD k []≠q) ⟨rfl,λk A=>by omega⟩ (λi hi v u=>?_) λv u=>?_
 .obtain⟨rfl,B⟩:=u
  refine BC (ltt hi) (Ah ⟨by omega,by show(i:Int)<((L.length:Nat):Int);omega⟩ (Bu (v:=decide (L.getD i []=q)) ?_ (AX (λe=>DL (Aa ?_)) λe=>Aa ⟨wr1 hi (by omega),?_⟩)))
  .show G111 (L.getD ((i:Int)).toNat [],q)=_
   rw[tNC];exact p111 (E _ (Jn hi)).1 (E _ (Jn hi)).2
  .have e:decide (L.getD i []=q)=true:=e
   have e:=Jp e;exact⟨λ_=>by rw[<-e];exact Jn hi,λ_=>rfl⟩
  .have e:decide (L.getD i []=q)=false:=e
   have e:=KG e;intro k A;by_cases h:k=i
   .rw[h];exact e
   .exact B k (by omega)
 .obtain⟨rfl,B⟩:=u
  refine Bt ltf (Aa (Ah rfl (Aa ⟨λh=>(by cases h),λh=>absurd h (Yn fun⟨k,A,e⟩=>B k A e)⟩)))
def prR(f:SF)(i j:Nat):List (Nat×Nat):=((range i).flatMap λx=>(range (nx f x)).map λe=>(x,e))++(range j).map λe=>(i,e)
def pr2(p:Nat×Nat):List Int:=[(p.1:Int),(p.2:Int)]
def prs(f:SF):List (Nat×Nat):=prR f f.2.2.2.2.2.1.length 0
def Uz{j:Nat}:prR f i (j+1)=prR f i j++[(i,j)]:=by
 unfold prR;rw[range_succ,List.map_append,List.append_assoc];rfl
def Qi:prR f (i+1) 0=prR f i (nx f i):=by
 unfold prR;rw[range_succ,List.flatMap_append];simp
theorem Qj(A:FS f):∀i j,i<=f.2.2.2.2.2.1.length->j<=16->(prR f i j).length<=i*16+j:=by
 have u:∀i j,(prR f i j).length=(prR f i 0).length+j:=λi j=>by
  unfold prR;simp
 intro i
 induction i with
 |zero=>intro j _ _;rw[u];simp[prR]
 |succ i B=>
  intro j hi _;rw[u,Qi];have:=B (nx f i) (by omega) (Abp A (by omega))
  have:=Abp A (x:=i) (by omega)
  omega
theorem p73(O:FS f)(Y:f.2.2.2.2.2.1.length<=1048576):Tot (λr=>r=(prs f).map pr2) (G73 f):=by
 unfold G73;refine AE (n:=f.2.2.2.2.2.1.length) (λi v=>v.1=(i:Int)/\v.2=(prR f i 0).map pr2) ⟨rfl,rfl⟩ (λi hi v A=>?_) λv A=>?_
 .obtain⟨k,u⟩:=v
  obtain⟨(E:k=_),(B:u=_)⟩:=A;subst E B;obtain⟨n,W,J,H⟩:=O.size hi;have F:nx f i=n:=H;have U:f.2.2.2.2.2.1.getD ((i:Int)).toNat 0=(n:Int):=by rw[tNC];exact W
  refine BC (ltt hi) (Ah (by show(0:Int)<=(i:Int)/\(i:Int)<((f.2.2.2.2.2.1.length:Nat):Int);omega) (AE (n:=n) (λj v=>v.1=(j:Int)/\v.2=(prR f i j).map pr2) ⟨rfl,rfl⟩ (λj hj v A=>?_) λv A=>?_))
  .obtain⟨k,u⟩:=v
   obtain⟨(E:k=_),(B:u=_)⟩:=A;subst E B;have Z:=Qj O i j (by omega) (by omega)
   refine BC (by show decide ((j:Int)<f.2.2.2.2.2.1.getD ((i:Int)).toNat 0)=true;rw[U];exact ltt hj) (Ah trivial (Ah (by show((prR f i j).map pr2).length+1<=_;rw[List.length_map];omega) (Aa ⟨wr1 hj (by omega),?_⟩)))
   show(prR f i j).map pr2++[[(i:Int),(j:Int)]]=_;rw[Uz,List.map_append];rfl
  .obtain⟨k,u⟩:=v
   obtain⟨(E:k=_),(B:u=_)⟩:=A;subst E B;refine Bt (by show decide ((n:Int)<f.2.2.2.2.2.1.getD ((i:Int)).toNat 0)=false;rw[U];exact ltf) (Aa (Ah rfl (Aa ⟨wr1 hi (by omega),?_⟩)))
   rw[Qi,F]
 .obtain⟨k,u⟩:=v
  obtain⟨(E:k=_),(B:u=_)⟩:=A;subst E B;exact Bt ltf (Aa (Ah rfl (Aa rfl)))
end Go.Ve.D

