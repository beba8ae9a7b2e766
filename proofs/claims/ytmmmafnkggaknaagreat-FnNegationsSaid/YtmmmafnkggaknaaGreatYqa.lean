/- Parts that a law of their elements gives: the program's meet, join, implication and nothing. -/
import Derived.Test.YtmmmafnkggaknaaGreatYob
set_option linter.all false
namespace Go.Ve.D
open Go Go.Ve
noncomputable section
variable{P Q:List (List Int)}{D Y:Nat}{p q:Nat->Nat->Bool}{f:SF}
def hs(P:List (List Int))(Y D:Nat):Bool:=(P.getD Y []).contains (D:Int)
def mkR(f:SF)(q:Nat->Nat->Bool)(Y:Nat):List Int:=((List.range (sz f (Y:Int)).toNat).filter (q Y)).map fun(e:Nat)=>(e:Int)
def mkP(f:SF)(q:Nat->Nat->Bool):List (List Int):=(List.range f.2.2.2.2.2.1.length).map (mkR f q)
def to(f:SF)(a:Nat):Nat:=(tT (shS f) a).toNat
def ac(f:SF)(a D:Nat):Nat:=((act f a).getD D 0).toNat
def imA(f:SF)(p q:Nat->Nat->Bool)(D a:Nat):Bool:=!p (to f a) (ac f a D)||q (to f a) (ac f a D)
def imp(f:SF)(p q:Nat->Nat->Bool)(Y D:Nat):Bool:=(List.range (ar (shS f))).all λa=>!decide (fT (shS f) a=(Y:Int))||imA f p q D a
structure PL(f:SF)(P:List (List Int)):Prop where
 l:P.length=f.2.2.2.2.2.1.length
 o:okL P
def p61(u:okL P)(e:Y<P.length):G61 (P,((Y:Int),(D:Int)))=some (hs P Y D):=by
 unfold G61;simp only[Ac e,and_self,if_true,tNC,p92 (Pu u.2 Y),Option.bind_some];rfl
theorem p93(hf:FS f)(hP:PL f P)(hQ:PL f Q)(hD:(D:Int)<f.2.2.2.2.2.1.getD Y 0):G93 ((Y:Int),((D:Int),(f,(P,Q))))=some (imp f (hs P) (hs Q) Y D):=by
 have hm:ar (shS f)<=40:=hf.sh.hd.2.1;unfold G93;simp only;refine Ae (a:=G75 _) (p75 (c:=shS f) (show ar (shS f)<=1048576 by omega) (Y:Int)) ?_
 have W:(Vp (shS f) (Y:Int)).length<=ar (shS f):=Yy;have e0:imp f (hs P) (hs Q) Y D=(List.range (Vp (shS f) (Y:Int)).length).all (λi=>imA f (hs P) (hs Q) D ((Vp (shS f) (Y:Int)).getD i 0).toNat):=(ZG (q:=λa=>imA f (hs P) (hs Q) D a.toNat)).symm
 rw[e0]
 have hw:∀i,i<(Vp (shS f) (Y:Int)).length->∃a:Nat,a<ar (shS f)/\fT (shS f) a=(Y:Int)/\(Vp (shS f) (Y:Int)).getD i 0=(a:Int):=λi e=>by
  obtain⟨a,h1,h2,h3⟩:=Yz e;exact⟨a,h1,of_decide_eq_true h2,h3⟩
 generalize Vp (shS f) (Y:Int)=w at*;refine Q8 (n:=w.length) (p:=λi=>imA f (hs P) (hs Q) D (w.getD i 0).toNat) (bad:=λr:Bool=>r=false) (id:=0) (Post:=λb (o:Option Bool)=>o=some b) (λi e=>?_) ?_ rfl (λr hr=>by rw[hr])
 .obtain⟨a,ha,B,ea⟩:=hw i e
  obtain⟨i1,i2,i3,X,Z,x1,U,x2,J,x3,z3⟩:=hf.ends ha;have hX:X=Y:=by
   have:f.2.1.getD a 0=(Y:Int):=B;omega
  subst hX;have A:D<(act f a).length:=by omega
  have u:D<(f.2.2.2.2.2.2.getD a []).length:=A;obtain⟨g1,g2⟩:=Cx z3 A;obtain⟨d,hd⟩:∃d:Nat,(act f a).getD D 0=(d:Int):=⟨((act f a).getD D 0).toNat,by omega⟩
  have E:(f.2.2.2.2.2.2.getD a []).getD D 0=(d:Int):=hd;have e1:=p61 hP.o (Y:=Z) (D:=d) (by rw[hP.l];exact J)
  have e2:=p61 hQ.o (Y:=Z) (D:=d) (by rw[hQ.l];exact J)
  have et:to f a=Z:=by unfold to;show(f.2.2.1.getD a 0).toNat=Z;rw[U];exact tNC Z
  have ed:ac f a D=d:=by unfold ac;rw[hd];exact tNC d
  simp only[Am,e,decide_true,cond_true,Ac e,ea,Ac i2,Ac i3,U,Ac u,E,and_self,if_true,tNC,e1,e2,Option.bind_some,imA,et,ed];rw[Ah (by omega) (by omega)]
  cases hs P Z d with
  |false=>exact Cn rfl
  |true=>
   cases hs Q Z d with
   |true=>exact Cn rfl
   |false=>exact Co ⟨_,rfl,rfl⟩
 .simp only[Am,Nat.lt_irrefl,decide_false,cond_false]
theorem Pc(U:FS f){call:Int->Int->Option Bool}(h:∀Y,Y<f.2.2.2.2.2.1.length->∀D:Nat,(D:Int)<f.2.2.2.2.2.1.getD Y 0->call (Y:Int) (D:Int)=some (q Y D)){r:Option (List (List Int))}
  (hG:r=(Option.bind (Aj (fun(v0:(Int×((List (List Int))×(List (List Int)))))=>(bif(decide (v0.1<((f.2.2.2.2.2.1.length:Nat):Int)))then(if(((0:Int)<=v0.1)/\(v0.1<((f.2.2.2.2.2.1.length:Nat):Int)))then(Option.bind (Aj (fun(u:(Int×(List Int)))=>(bif(decide (u.1<(f.2.2.2.2.2.1.getD (v0.1).toNat (0:Int))))then(Option.bind (call v0.1 u.1) (fun(v2:Bool)=>(bif v2 then(if((u.2.length+(u.1::([]:(List Int))).length)<=17592186044416)then(some (LO.next ((IntKind.wrap .i64 (u.1+(1:Int))),(u.2++(u.1::([]:(List Int)))))))else none)else(some (LO.next ((IntKind.wrap .i64 (u.1+(1:Int))),u.2))))))else(some (LO.brk 2 (u.1,u.2))))) ((0:Int),([]:(List Int)))) (LO.fin λi1 (u:(Int×(List Int)))=>(if i1=2 then(if True then(if((v0.2.2.length+(u.2::([]:(List (List Int)))).length)<=5864062014805)then(some (LO.next ((IntKind.wrap .i64 (v0.1+(1:Int))),(v0.2.1,(v0.2.2++(u.2::([]:(List (List Int)))))))))else none)else none)else none)))else none)else(some (LO.brk 0 (v0.1,(v0.2.1,v0.2.2)))))) ((0:Int),(([]:(List (List Int))),([]:(List (List Int)))))) (LO.fin λi0 (v0:(Int×((List (List Int))×(List (List Int)))))=>(if i0=0 then(some v0.2.2)else none)))):r=some (mkP f q):=by
 have h1:(f.2.2.2.2.2.1.length:Int)=f.1:=U.l1;have J:f.1<=8:=U.sh.hd.1.2;rw[hG];refine Ae (CZ (st:=λi:Nat=>((i:Int),(([]:List (List Int)),(List.range i).map (mkR f q)))) (n:=f.2.2.2.2.2.1.length) (o:=.brk 0 (((f.2.2.2.2.2.1.length:Nat):Int),(([]:List (List Int)),mkP f q))) (λi B=>?_) ?_ (λy=>by simp)) rfl
 .obtain⟨n,J,Z,E⟩:=U.size B
  have e1:=fun(D:Nat) (W:D<n)=>h i B D (by rw[J];omega)
  simp only[Am,B,decide_true,cond_true,Ac B,and_self,if_true,tNC,J];refine Ae (VX (n:=n) (q:=q i) (g:=fun(e:Nat)=>(e:Int)) (id:=2) (λD W A ha=>?_) λA=>?_) ?_
  .have e:=e1 D W
   simp only[Am,W,decide_true,cond_true,e,Option.bind_some,List.length_cons,List.length_nil];rw[Ah (by omega) (by omega),if_pos (show A.length+(0+1)<=17592186044416 by omega)]
   cases q i D<;>rfl
  .simp only[Am,Nat.lt_irrefl,decide_false,cond_false]
  .show(if 2=2 then _ else none)=_
   rw[if_pos rfl];simp only[List.length_map,List.length_range,List.length_cons,List.length_nil];rw[if_pos (show i+(0+1)<=5864062014805 by omega),Ah (by omega) (by omega),List.range_succ,List.map_append]
   have e8:((List.range n).filter (q i)).map (fun(e:Nat)=>(e:Int))=mkR f q i:=by unfold mkR;rw[E]
   rw[e8];rfl
 .simp only[Am,Nat.lt_irrefl,decide_false,cond_false]
  rfl
theorem DT(u:FS f)(q:Nat->Nat->Bool):PL f (mkP f q):=by
 have W:(f.2.2.2.2.2.1.length:Int)=f.1:=u.l1;have U:f.1<=8:=u.sh.hd.1.2;have E:(mkP f q).length=f.2.2.2.2.2.1.length:=by unfold mkP;rw[List.length_map,List.length_range]
 refine⟨E,by omega,λy B=>?_⟩
 obtain⟨Y,J,rfl⟩:=List.mem_map.1 B;obtain⟨n,_,A,e⟩:=u.size (List.mem_range.1 J);unfold mkR;rw[e];have:=Yy (m:=n) (q:=q Y);omega
def CF(h:∀Y,Y<f.2.2.2.2.2.1.length->∀D,D<(sz f (Y:Int)).toNat->p Y D=q Y D):mkP f p=mkP f q:=by
 unfold mkP;refine List.map_congr_left λY e=>?_
 unfold mkR;rw[List.filter_congr λD u=>h Y (List.mem_range.1 e) D (List.mem_range.1 u)]
def Ou(u:Y<f.2.2.2.2.2.1.length)(B:D<(sz f (Y:Int)).toNat):hs (mkP f q) Y D=q Y D:=by
 unfold hs mkP;rw[XF u,Bool.eq_iff_iff,List.contains_iff_mem];unfold mkR;refine⟨λh=>?_,λh=>List.mem_map.2 ⟨D,List.mem_filter.2 ⟨List.mem_range.2 B,h⟩,rfl⟩⟩
 obtain⟨E,A,e⟩:=List.mem_map.1 h;have e:E=D:=by omega
 subst e;exact(List.mem_filter.1 A).2
def nn(_ _:Nat):Bool:=false
def neg(f:SF)(P:List (List Int)):List (List Int):=mkP f (imp f (hs P) nn)
def meet(f:SF)(P Q:List (List Int)):List (List Int):=mkP f λY D=>hs P Y D&&hs Q Y D
def Z0(f:SF)(P Q:List (List Int)):List (List Int):=mkP f λY D=>hs P Y D||hs Q Y D
def p60(u:okL P)(e:okL Q)(B:Y<P.length)(A:Y<Q.length):G60 ((Y:Int),((D:Int),(P,Q)))=some (hs P Y D&&hs Q Y D):=by
 unfold G60;simp only[p61 u B,p61 e A,Option.bind_some];cases hs P Y D<;>rfl
def p62(u:okL P)(e:okL Q)(B:Y<P.length)(A:Y<Q.length):G62 ((Y:Int),((D:Int),(P,Q)))=some (hs P Y D||hs Q Y D):=by
 unfold G62;simp only[p61 u B,p61 e A,Option.bind_some];cases hs P Y D<;>rfl
theorem p31(B:FS f)(A:PL f P)(u:PL f Q):G31 (f,(P,Q))=some (meet f P Q):=
 Ae (a:=G10059 (f,(P,Q))) (Pc B (call:=λa b=>G60 (a,(b,(P,Q)))) (λY e D _=>p60 A.o u.o (by rw[A.l];exact e) (by rw[u.l];exact e)) rfl) rfl
theorem p32(B:FS f)(A:PL f P)(u:PL f Q):G32 (f,(P,Q))=some (Z0 f P Q):=
 Ae (a:=G20059 (f,(P,Q))) (Pc B (call:=λa b=>G62 (a,(b,(P,Q)))) (λY e D _=>p62 A.o u.o (by rw[A.l];exact e) (by rw[u.l];exact e)) rfl) rfl
theorem p54(e:FS f):G54 f=some (mkP f nn):=
 Ae (a:=G40059 (f,())) (Pc e (call:=λa b=>G94 (a,b)) (λY u D _=>rfl) rfl) rfl
theorem p53(e:FS f)(A:PL f P)(u:PL f Q):G53 (f,(P,Q))=some (mkP f (imp f (hs P) (hs Q))):=
 Ae (a:=G30059 (f,(f,(P,Q)))) (Pc e (call:=λa b=>G93 (a,(b,(f,(P,Q))))) (λY _ D B=>p93 e A u B) rfl) rfl
theorem FS.dst(W:FS f){a:Nat}(ha:a<ar (shS f))(U:fT (shS f) a=(Y:Int))(hD:D<(sz f (Y:Int)).toNat):to f a<f.2.2.2.2.2.1.length/\ac f a D<(sz f (to f a:Int)).toNat/\(act f a).getD D 0=(ac f a D:Int)/\tT (shS f) a=(to f a:Int):=by
 obtain⟨i1,i2,i3,X,Z,x1,B,x2,A,E,u⟩:=W.ends ha;have hX:X=Y:=by
  have:f.2.1.getD a 0=(Y:Int):=U;omega
 subst hX;have hs:sz f (X:Int)=((act f a).length:Int):=by unfold sz;rw[tNC];exact E
 have e:tT (shS f) a=(Z:Int):=B;have et:to f a=Z:=by unfold to;rw[e];exact tNC Z
 have J:sz f (Z:Int)=f.2.2.2.2.2.1.getD Z 0:=by unfold sz;rw[tNC];rfl
 obtain⟨g1,g2⟩:=Cx u (i:=D) (by omega)
 rw[et,J];unfold ac;exact⟨A,by omega,by omega,e⟩
def Jw(B:FS f){u e:Nat->Nat->Bool}(h:∀Y,Y<f.2.2.2.2.2.1.length->∀D,D<(sz f (Y:Int)).toNat->p Y D=u Y D/\q Y D=e Y D)(J:D<(sz f (Y:Int)).toNat):imp f p q Y D=imp f u e Y D:=by
 unfold imp;refine QZ λa E=>?_
 by_cases A:fT (shS f) a=(Y:Int)
 .obtain⟨g1,g2,_⟩:=B.dst E A J
  obtain⟨W,U⟩:=h _ g1 _ g2;unfold imA;rw[W,U]
 .rw[dF A];rfl
theorem p26(e:FS f)(B:PL f P):G26 (f,P)=some (neg f P):=by
 refine Ae (a:=G54 f) (p54 e) (Ae (a:=G53 (f,(P,mkP f nn))) (p53 e B (DT e _)) ?_);show some _=some _
 congr 1
 exact CF λY _ D u=>Jw e (λY A D u=>⟨rfl,Ou A u⟩) u
end
end Go.Ve.D


namespace Go.Ve.D
open Go Go.Ve
noncomputable section
variable{P Q p:List (List Int)}{w:List Int}{i n:Nat}{q:Nat->Bool}{f:SF}
def Wb{d:Int}:d∈(((List.range n).filter q).map fun(i:Nat)=>(i:Int))↔ ∃f,f<n/\q f=true/\d=(f:Int):=by
 simp only[List.mem_map,List.mem_filter,List.mem_range];exact⟨fun⟨f,⟨A,u⟩,e⟩=>⟨f,A,u,e.symm⟩,fun⟨f,A,u,e⟩=>⟨f,⟨A,u⟩,e.symm⟩⟩
theorem cls_wi:wi n (((List.range n).filter q).map fun(i:Nat)=>(i:Int))=true:=by
 unfold wi;rw[aET];intro d hd;obtain⟨f,e,_,rfl⟩:=Wb.1 hd;exact Z6 (by omega) (by omega)
theorem Wa:OY (((List.range n).filter q).map fun(i:Nat)=>(i:Int))=true:=by
 have e:(((List.range n).filter q).map fun(i:Nat)=>(i:Int)).Pairwise (· < ·):=by
  rw[List.pairwise_map];refine(List.Pairwise.filter _ List.pairwise_lt_range).imp λh=>by omega
 generalize ((List.range n).filter q).map (fun(i:Nat)=>(i:Int))=x at e
 unfold OY;rw[aET];intro i u;have u:=List.mem_range.1 u;have A:=List.pairwise_iff_getElem.1 e i (i+1) (by omega) (by omega) (by omega)
 rw[gDE,gEE (by omega),gDE,gEE (by omega)]
 show(!decide (x[i+1]<=x[i]))=true;rw[dF (by omega)];rfl
def Ku{q:Nat->Nat->Bool}(e:i<f.2.2.2.2.2.1.length):(mkP f q).getD i []=mkR f q i:=XF e
theorem pt_mk(A:FS f)(q:Nat->Nat->Bool):PT2 f (mkP f q):=by
 have E:=(DT A q).l;refine⟨E,λi u=>?_⟩
 have u:i<f.2.2.2.2.2.1.length:=by omega
 obtain⟨n,B,_,e⟩:=A.size u;rw[Ku u,B];unfold mkR;rw[e];exact cls_wi
def nx(g:SF)(x:Nat):Nat:=(sz g (x:Int)).toNat
def O(f:SF)(P Q:List (List Int))(a x d:Nat):Bool:=(List.range a).all λb=>!decide (fT (shS f) b=(x:Int))||imA f (hs P) (hs Q) d b
def Oc(f:SF)(P Q:List (List Int))(a:Nat):List (List Bool):=(List.range f.2.2.2.2.2.1.length).map λx=>(List.range (nx f x)).map (O f P Q a x)
def qA(f:SF)(P Q:List (List Int))(a X d x e:Nat):Bool:=O f P Q a x e&&(!(decide (x=X)&&decide (e<d))||imA f (hs P) (hs Q) e a)
def O_succ{a x d:Nat}:O f P Q (a+1) x d=(O f P Q a x d&&(!decide (fT (shS f) a=(x:Int))||imA f (hs P) (hs Q) d a)):=by
 unfold O;rw[List.range_succ,List.all_append];simp
def VO:(inL f p).length=f.2.2.2.2.2.1.length:=by simp[inL]
def Nh(e:i<f.2.2.2.2.2.1.length):(inL f p).getD i []=mkN (sz f (i:Int)).toNat (p.getD i []):=XF e
def Oh:(mkN n w).length=n:=by simp[mkN]
def Vx{e:Nat}(u:e<n):(mkN n w).getD e false=w.contains (e:Int):=XF u
def fin4{α β R:Type}{k:Nat}{v:α}{g:Nat->α->Option R}{o:Option R}(h:g k v=o):LO.fin g (LO.brk k v:LO α R)=o:=h
def p57a{F:Int×List (List Bool)×List (List Bool)×List (List Bool)×List Bool->Option (LO (Int×List (List Bool)×List (List Bool)×List (List Bool)×List Bool) (LO (Int×List (List Bool)×List (List Bool)×List (List Bool)) (List (List Int))))}{IN A B:List (List Bool)}(U:n<=16)
  (J:F=λu=>(bif(decide (u.1<((u.2.2.2.2.length:Nat):Int)))then(if(((0:Int)<=u.1)/\(u.1<((u.2.2.2.2.length:Nat):Int)))then(some (LO.next ((IntKind.wrap .i64 (u.1+(1:Int))),(u.2.1,(u.2.2.1,(u.2.2.2.1,(u.2.2.2.2.set (u.1).toNat true)))))))else none)else(some (LO.brk 2 (u.1,(u.2.1,(u.2.2.1,(u.2.2.2.1,u.2.2.2.2)))))))):
  Aj F ((0:Int),(IN,(A,(B,List.replicate n false))))=some (.brk 2 ((n:Int),(IN,(A,(B,(List.range n).map λ_=>true))))):=by
 subst J;refine Cf (st:=λd:Nat=>((d:Int),(IN,(A,(B,(List.range n).map λe=>decide (e<d)))))) (n:=n) (by simp[List.map_const']) (λd hd=>?_) ?_ (λy=>by simp)
 .simp only[Am,List.length_map,List.length_range,hd,decide_true,cond_true,Ac hd,and_self,if_true,tNC]
  rw[Ah (by omega) (by omega),NZ]
  have e:((List.range n).map λe=>if e=d then true else decide (e<d))=(List.range n).map λe=>decide (e<d+1):=List.map_congr_left λe _=>by
   by_cases h:e=d
   .subst h;simp
   .rw[if_neg h,Bool.eq_iff_iff];simp only[decide_eq_true_eq];omega
  rw[e];rfl
 .have e:((List.range n).map λe=>decide (e<n))=(List.range n).map λ_=>true:=List.map_congr_left λe E=>dT (List.mem_range.1 E)
  simp only[Am,List.length_map,List.length_range,Nat.lt_irrefl,decide_false,cond_false,e]
theorem p57(J:FS f)(hP:PT2 f P)(hQ:PT2 f Q)(hPo:okL P)(hQo:okL Q):G57 (f,(P,Q))=some (mkd (Oc f P Q (ar (shS f)))):=by
 have hlen:f.2.2.2.2.2.1.length<=1048576:=by have:=hPo.1;have:=hP.l;omega
 have l2:f.2.2.2.2.2.2.length=ar (shS f):=J.l2;have hm:ar (shS f)<=40:=J.sh.hd.2.1;refine Ae (a:=G99 (f,P)) (p99 J hP hPo) (Ae (a:=G99 (f,Q)) (p99 J hQ hQo) ?_);simp only;refine Ae (Cf (st:=λi:Nat=>((i:Int),(inL f P,(inL f Q,(List.range i).map λx=>(List.range (nx f x)).map (O f P Q 0 x))))) (n:=f.2.2.2.2.2.1.length) (o:=.brk 0 (((f.2.2.2.2.2.1.length:Nat):Int),(inL f P,(inL f Q,Oc f P Q 0)))) rfl (λi U=>?_) ?_ (λy=>by simp)) ?_
 .obtain⟨n,hn,B,A⟩:=J.size U
  have hsn':nx f i=n:=A;have er:((inL f P).getD i []).length=n:=by rw[Nh U,Oh,A]
  have hG:(0:Int)<=(n:Int)/\((n:Int)<=(n:Int)/\((1:Int)*(n:Int)<=(281474976710656:Int)/\(n:Int)<=(9223372036854775807:Int))):=by omega
  simp only[Am,VO,U,decide_true,cond_true,Ac U,er,hG,and_self,if_true,tNC];refine Ae (p57a B rfl) ?_;refine fin4 (β:=Unit) ?_;show(if 2=2 then _ else none)=_
  rw[if_pos rfl];simp only[List.length_map,List.length_range,List.length_cons,List.length_nil];rw[if_pos (show i+(0+1)<=5864062014805 by omega),Ah (by omega) (by omega),List.range_succ,List.map_append]
  have e9:((List.range n).map λ_=>true)=(List.range (nx f i)).map (O f P Q 0 i):=by rw[hsn'];rfl
  rw[e9];rfl
 .simp only[Am,VO,Nat.lt_irrefl,decide_false,cond_false]
  rfl
 refine fin4 (β:=Unit) ?_;show(if 0=0 then _ else none)=_
 rw[if_pos rfl];refine Ae (Cf (st:=λa:Nat=>((a:Int),(inL f P,(inL f Q,Oc f P Q a)))) (n:=ar (shS f)) (o:=.brk 4 (((ar (shS f):Nat):Int),(inL f P,(inL f Q,Oc f P Q (ar (shS f)))))) rfl (λa ha=>?_) ?_ (λy=>by simp)) ?_
 .obtain⟨i1,i2,i3,X,Z,x1,z1,x2,W,x3,z3⟩:=J.ends ha
  obtain⟨n,hn,B,A⟩:=J.size x2;obtain⟨nz,hnz,hnz16,u⟩:=J.size W;have hal:(act f a).length=n:=by omega
  have hal':(f.2.2.2.2.2.2.getD a []).length=n:=hal;have eX:fT (shS f) a=(X:Int):=x1;have eZ:tT (shS f) a=(Z:Int):=z1;have et:to f a=Z:=by unfold to;rw[eZ];exact tNC Z
  simp only[Am,i3,decide_true,cond_true,Ac i1,Ac i2,Ac i3,x1,z1,and_self,if_true,tNC];refine Ae (Cf (st:=λd:Nat=>((d:Int),(inL f P,(inL f Q,(List.range f.2.2.2.2.2.1.length).map λx=>(List.range (nx f x)).map (qA f P Q a X d x))))) (n:=n) (o:=.brk 6 ((n:Int),(inL f P,(inL f Q,Oc f P Q (a+1))))) ?_ (λd hd=>?_) ?_ (λy=>by simp)) ?_
  .have e:((List.range f.2.2.2.2.2.1.length).map λx=>(List.range (nx f x)).map (qA f P Q a X 0 x))=Oc f P Q a:=Ia λx _ e _=>by simp[qA]
   show(((0:Nat):Int),(inL f P,(inL f Q,(List.range f.2.2.2.2.2.1.length).map λx=>(List.range (nx f x)).map (qA f P Q a X 0 x))))=_
   rw[e];rfl
  .obtain⟨k,hk⟩:∃k:Nat,(act f a).getD d 0=(k:Int)/\k<nz:=by
    obtain⟨g1,g2⟩:=Cx z3 (i:=d) (by omega)
    exact⟨((act f a).getD d 0).toNat,by omega,by omega⟩
   obtain⟨hk,E⟩:=hk;have hk':(f.2.2.2.2.2.2.getD a []).getD d 0=(k:Int):=hk;have ed:ac f a d=k:=by unfold ac;rw[hk];exact tNC k
   have hd':d<(f.2.2.2.2.2.2.getD a []).length:=by omega
   have hdn:d<nx f X:=by show d<(sz f (X:Int)).toNat;omega
   have kP:k<((inL f P).getD Z []).length:=by rw[Nh W,Oh,u];exact E
   have kQ:k<((inL f Q).getD Z []).length:=by rw[Nh W,Oh,u];exact E
   have gP:((inL f P).getD Z []).getD k false=hs P Z k:=by rw[Nh W,u,Vx E];rfl
   have gQ:((inL f Q).getD Z []).getD k false=hs Q Z k:=by rw[Nh W,u,Vx E];rfl
   have hq:qA f P Q a X d X d=O f P Q a X d:=by simp[qA]
   simp only[Am,hd',decide_true,cond_true,Ac hd',hk',List.length_map,List.length_range,VO,XF x2,Ac x2,Ac W,Ac hdn,Ac kP,Ac kQ,gP,gQ,XF hdn,hq,and_self,if_true,tNC]
   have eb:(bif O f P Q a X d then(bif !hs P Z k then some true else some (hs Q Z k))else some false)=some (O f P Q a X d&&imA f (hs P) (hs Q) d a):=by
    unfold imA;rw[et,ed];cases O f P Q a X d<;>cases hs P Z k<;>rfl
   rw[eb,Option.bind_some,Ah (by omega) (by omega),set2]
   have e6:((List.range f.2.2.2.2.2.1.length).map λx=>(List.range (nx f x)).map λe=>if x=X/\e=d then O f P Q a X d&&imA f (hs P) (hs Q) d a else qA f P Q a X d x e)=(List.range f.2.2.2.2.2.1.length).map λx=>(List.range (nx f x)).map (qA f P Q a X (d+1) x):=Ia λx _ e _=>by
    by_cases hx:x=X
    .subst hx
     by_cases he:e=d
     .subst he;simp[qA]
     .have:decide (e<d+1)=decide (e<d):=by rw[Bool.eq_iff_iff];simp only[decide_eq_true_eq];omega
      rw[if_neg λh=>he h.2];simp[qA,this]
    .rw[if_neg λh=>hx h.1];simp[qA,hx]
   rw[e6];rfl
  .have e:((List.range f.2.2.2.2.2.1.length).map λx=>(List.range (nx f x)).map (qA f P Q a X n x))=Oc f P Q (a+1):=Ia λx _ e he=>by
    rw[O_succ,eX];unfold qA;by_cases hx:x=X
    .subst hx
     have:e<n:=by have:nx f x=n:=A;omega
     rw[dT (rfl:x=x),dT this,dT (rfl:(x:Int)=(x:Int))];rfl
    .rw[dF hx,dF (show ¬ ((X:Int)=(x:Int)) by omega)]
     rfl
   simp only[Am,hal',Ac i3,and_self,if_true,tNC,Nat.lt_irrefl,decide_false,cond_false,e]
  .refine fin4 (β:=Unit) ?_
   show(if 6=6 then _ else none)=_
   rw[if_pos rfl,Ah (by omega) (by omega)]
   rfl
 .have e:decide (((ar (shS f):Nat):Int)<((f.2.2.2.2.2.2.length:Nat):Int))=false:=by rw[Am];exact dF (by omega)
  simp only[e,cond_false]
 refine fin4 (β:=Unit) ?_;show(if 4=4 then _ else none)=_
 rw[if_pos rfl];have hol:(Oc f P Q (ar (shS f))).length=f.2.2.2.2.2.1.length:=by simp[Oc]
 refine Ae (p100 (x:=Oc f P Q (ar (shS f))) (by omega) λi U=>?_) rfl
 have U:i<f.2.2.2.2.2.1.length:=by omega
 have er:(Oc f P Q (ar (shS f))).getD i []=(List.range (nx f i)).map (O f P Q (ar (shS f)) i):=XF U;rw[er,List.length_map,List.length_range];obtain⟨n,hn,B,A⟩:=J.size U;show nx f i<=_;have:nx f i=n:=A;omega
theorem out_eq:mkd (Oc f P Q (ar (shS f)))=mkP f (imp f (hs P) (hs Q)):=by
 unfold mkd mkP;have u:(Oc f P Q (ar (shS f))).length=f.2.2.2.2.2.1.length:=by simp[Oc]
 rw[u];refine List.map_congr_left λi A=>?_
 have E:(Oc f P Q (ar (shS f))).getD i []=(List.range (nx f i)).map (O f P Q (ar (shS f)) i):=XF (List.mem_range.1 A);rw[E,List.length_map,List.length_range];unfold mkR
 congr 1
 refine List.filter_congr λe B=>?_
 exact XF (List.mem_range.1 B)
theorem p58(A:FS f):G58 f=some (mkP f nn):=by
 have U:(f.2.2.2.2.2.1.length:Int)=f.1:=A.l1;have E:f.1<=8:=A.sh.hd.1.2;unfold G58;refine Ae (Ow (n:=f.2.2.2.2.2.1.length) (g:=mkR f nn) (id:=0) (λi B u J=>?_) λu=>?_) rfl
 .simp only[Am,B,decide_true,cond_true,if_true,List.length_cons,List.length_nil]
  rw[Ah (by omega) (by omega),if_pos (show u.length+(0+1)<=5864062014805 by omega)]
  have e:mkR f nn i=[]:=by unfold mkR;rw[List.filter_eq_nil_iff.2 λa _=>by simp[nn]];rfl
  rw[e];rfl
 .simp only[Am,Nat.lt_irrefl,decide_false,cond_false]
theorem p28(e:FS f)(E:PT2 f P)(u:okL P):G28 (f,P)=some (neg f P):=by
 refine Ae (a:=G58 f) (p58 e) (Ae (a:=G57 (f,(P,mkP f nn))) (p57 e E (pt_mk e _) u (DT e _).o) ?_);show some _=some _;rw[out_eq]
 congr 1
 exact CF λY _ D A=>Jw e (λY B D A=>⟨rfl,Ou B A⟩) A
def p27(e:okS f)(u:okL P):G27 (f,P)=some (Dp f&&Bo f P):=by
 refine Ae (a:=G55 f) (p55 e) ?_;cases h:Dp f with
 |false=>rfl
 |true=>exact Ae (a:=Option.bind (G56 (f,P)) _) (Ae (p56 (BD h) u) rfl) rfl
end
end Go.Ve.D


namespace Go.Ve.D
open Go Go.Ve
noncomputable section
variable{P:List (List Int)}{x:List Int}{D Y:Nat}{p q:Nat->Nat->Bool}{f:SF}
def Yj:∀{x y:List Int},x.Pairwise (· < ·)->y.Pairwise (· < ·)->(∀a,a∈x↔a∈y)->x=y
 |[],[],_,_,_=>rfl
 |[],b::y,_,_,h=>absurd ((h b).2 (List.mem_cons_self ..)) (by simp)
 |a::x,[],_,_,h=>absurd ((h a).1 (List.mem_cons_self ..)) (by simp)
 |a::x,b::y,hx,hy,h=>by
  obtain⟨A,J⟩:=List.pairwise_cons.1 hx;obtain⟨u,E⟩:=List.pairwise_cons.1 hy;have e:a=b:=by
   rcases List.mem_cons.1 ((h a).1 (List.mem_cons_self ..))with e|e
   .exact e
   .rcases List.mem_cons.1 ((h b).2 (List.mem_cons_self ..))with e'|e'
    .exact e'.symm
    .have:=u a e;have:=A b e';omega
  subst e
  congr 1
  refine Yj J E λc=>⟨λB=>?_,λB=>?_⟩
  .rcases List.mem_cons.1 ((h c).1 (mCM _ B))with e|e
   .have:=A c B;omega
   .exact e
  .rcases List.mem_cons.1 ((h c).2 (mCM _ B))with e|e
   .have:=u c B;omega
   .exact e
theorem Yd(h:OY x=true):x.Pairwise (· < ·):=by
 have U:∀i,i+1<x.length->x.getD i 0<x.getD (i+1) 0:=λi A=>by
  have:=aET.1 h i (List.mem_range.2 (by omega))
  rw[Bool.not_eq_true',decide_eq_false_iff_not]at this;omega
 have J:∀j i,i<j->j<x.length->x.getD i 0<x.getD j 0:=λj=>by
  induction j with
  |zero=>intro i A;omega
  |succ j E=>
   intro i A u;have a:=U j u;by_cases e:i=j
   .subst e;exact a
   .have:=E i (by omega) (by omega);omega
 refine List.pairwise_iff_getElem.2 λi j A u B=>?_
 have:=J j i B u;rwa [gDE,gEE A,gDE,gEE u]at this
def row_eq{n:Nat}(h:OY x=true)(A:wi n x=true):(((List.range n).filter fun(e:Nat)=>x.contains (e:Int)).map fun(e:Nat)=>(e:Int))=x:=by
 refine Yj (Yd Wa) (Yd h) λa=>?_
 rw[Wb];refine⟨fun⟨e,_,E,B⟩=>by rw[B];exact List.contains_iff_mem.1 E,λu=>?_⟩
 obtain⟨g1,g2⟩:=Ie.1 (aET.1 A a u);exact⟨a.toNat,by omega,by rw[Int.toNat_of_nonneg g1];exact List.contains_iff_mem.2 u,by omega⟩
theorem ZD(E:FS f)(h:Bo f P=true):mkP f (hs P)=P:=by
 have A:=DO h;unfold Bo at h;rw[bAE,bAE]at h;have Z:=A.l;refine List.ext_getElem (by rw[(DT E _).l,Z]) λi h1 J=>?_
 have B:i<f.2.2.2.2.2.1.length:=by omega
 obtain⟨n,W,_,u⟩:=E.size B;have e:=aET.1 h.2.1 i (List.mem_range.2 J);unfold Lk at e;rw[bAE]at e;have U:wi n (P.getD i [])=true:=by rw[<-W];exact e.2
 have e1:(mkP f (hs P))[i]=mkR f (hs P) i:=by
  have:=Ku (q:=hs P) B;rwa [gDE,gEE h1]at this
 have e2:P.getD i []=P[i]:=by rw[gDE,gEE J];rfl
 rw[e1,<-e2];unfold mkR;rw[u];exact row_eq e.1 U
def cl(f:SF)(p:Nat->Nat->Bool):Prop:=∀a Y D,a<ar (shS f)->fT (shS f) a=((Y:Nat):Int)->D<(sz f (Y:Int)).toNat->p Y D=true->p (to f a) (ac f a D)=true
theorem Aap(U:FS f)(h:Bo f P=true):cl f (hs P):=λa Y D B u W E=>by
 obtain⟨g1,g2,Z,g4⟩:=U.dst B u W;unfold Bo at h;rw[bAE,bAE]at h;have J:=List.contains_iff_mem.1 E;obtain⟨k,A,ek⟩:=List.getElem_of_mem J;have:=aET.1 (aET.1 h.2.2 a (List.mem_range.2 B)) k (List.mem_range.2 (by rw[u,tNC];exact A))
 unfold Dw at this;have e:(P.getD Y []).getD k 0=(D:Int):=by rw[gDE,gEE A];exact ek
 rw[u,tNC,e,tNC,Z]at this;exact this
theorem Ll(A:FS f)(h:cl f q):Bo f (mkP f q)=true:=by
 have hl:=(DT A q).l;unfold Bo;rw[bAE,bAE];refine⟨dT (by show((mkP f q).length:Int)=(f.2.2.2.2.2.1.length:Int);omega),aET.2 λi E=>?_,aET.2 λa e=>aET.2 λk u=>?_⟩
 .have E:=List.mem_range.1 E
  unfold Lk;rw[bAE];refine⟨?_,(pt_mk A q).w i E⟩;rw[Ku (by omega)]
  exact Wa
 .have e:=List.mem_range.1 e
  have u:=List.mem_range.1 u;obtain⟨i1,i2,i3,X,Z,x1,z1,W,z2,x3,z3⟩:=A.ends e;have B:fT (shS f) a=(X:Int):=x1;unfold Dw;rw[B,tNC,Ku W]at u⊢;obtain⟨D,U,hq,J⟩:=Yz (m:=(sz f (X:Int)).toNat) (q:=q X) u;have J:(mkR f q X).getD k 0=(D:Int):=J;obtain⟨g1,g2,g3,g4⟩:=A.dst e B U;rw[J,tNC,g3];have:=Ou (q:=q) g1 g2;rw[h a X D e B U hq]at this;exact this
def idF(hs:Dp f=true)(hY:Y<f.2.2.2.2.2.1.length):∃a,a<ar (shS f)/\fT (shS f) a=(Y:Int)/\to f a=Y/\∀D,D<(sz f (Y:Int)).toNat->ac f a D=D:=by
 have h:=BD hs;have h1:(f.2.2.2.2.2.1.length:Int)=f.1:=h.l1;obtain⟨a1,a2,a3,a4,a5,a6,a7,a8⟩:=h.sh.hd;have Z:((f.2.2.2.1.length:Nat):Int)=f.1:=by first|exact a6|exact a4|exact a5|exact a7
 have u:Y<f.2.2.2.1.length:=by omega
 obtain⟨a,J,E,W⟩:=h.ida u;have e:=h.sp;unfold DR at e;rw[bAE,bAE]at e;have A:=aET.1 e.2.1 Y (List.mem_range.2 u);unfold Q7 at A;rw[bAE,decide_eq_true_eq,decide_eq_true_eq]at A;have B:tT (shS f) (AaH f Y).toNat=(Y:Int):=A.2;rw[E,tNC]at B;refine⟨a,J,W,by unfold to;rw[B];exact tNC Y,λD U=>?_⟩
 unfold Dp at hs;rw[bAE,bAE]at hs;have:=of_decide_eq_true (aET.1 (aET.1 hs.2.1 Y (List.mem_range.2 u)) D (List.mem_range.2 U));rw[E,tNC]at this;unfold ac;rw[this];exact tNC D
def coF(hs:Dp f=true){a b:Nat}(B:a<ar (shS f))(A:b<ar (shS f))(u:fT (shS f) a=(Y:Int))(E:tT (shS f) a=fT (shS f) b):∃t,t<ar (shS f)/\fT (shS f) t=(Y:Int)/\to f t=to f b/\∀D,D<(sz f (Y:Int)).toNat->ac f t D=ac f b (ac f a D):=by
 have h:=BD hs;have e:mt (shS f) a b=true:=dT E;obtain⟨t1,t2,t3,t4⟩:=h.sh.pos a b B A e;have t2:T (shS f) a b<(ar (shS f):Int):=t2;refine⟨(T (shS f) a b).toNat,by omega,?_,?_,λD J=>?_⟩
 .show(shS f).2.1.getD (T (shS f) a b).toNat 0=_
  rw[t3];exact u
 .unfold to;show((shS f).2.2.1.getD (T (shS f) a b).toNat 0).toNat=_
  rw[t4];rfl
 .unfold Dp at hs
  rw[bAE,bAE]at hs;have:=aET.1 (aET.1 hs.2.2 a (List.mem_range.2 B)) b (List.mem_range.2 A);unfold coB at this;rw[e]at this;have:=of_decide_eq_true (aET.1 this D (List.mem_range.2 (by rw[u];exact J)))
  unfold ac;rw[this]
abbrev ng(f:SF)(p:Nat->Nat->Bool):Nat->Nat->Bool:=imp f p nn
def Hx:ng f p Y D=true↔ ∀a,a<ar (shS f)->fT (shS f) a=(Y:Int)->p (to f a) (ac f a D)=false:=by
 unfold ng imp;rw[aET];refine⟨λh a A u=>?_,λh a A=>?_⟩
 .have:=h a (List.mem_range.2 A)
  rw[dT u]at this;unfold imA nn at this;cases e:p (to f a) (ac f a D)with
  |false=>rfl
  |true=>rw[e]at this;exact absurd this (by decide)
 .by_cases u:fT (shS f) a=(Y:Int)
  .unfold imA;rw[h a (List.mem_range.1 A) u];cases decide (fT (shS f) a=(Y:Int))<;>rfl
  .rw[dF u];rfl
theorem XU(hs:Dp f=true)(p:Nat->Nat->Bool):cl f (ng f p):=λa Y D A u B h=>by
 obtain⟨g1,g2,g3,U⟩:=(BD hs).dst A u B;refine Hx.2 λb J e=>?_
 obtain⟨t,E,e1,Z,W⟩:=coF hs A J u (by rw[U,e])
 have:=Hx.1 h t E e1;rwa [Z,W D B]at this
def Pj(hs:Dp f=true)(u:Y<f.2.2.2.2.2.1.length)(A:D<(sz f (Y:Int)).toNat)(h:ng f p Y D=true):p Y D=false:=by
 obtain⟨a,e,J,E,B⟩:=idF hs u;have:=Hx.1 h a e J;rwa [E,B D A]at this
def Xx(hs:Dp f=true)(E:cl f p)(B:D<(sz f (Y:Int)).toNat)(h:p Y D=true):ng f (ng f p) Y D=true:=Hx.2 λa A u=>by
 obtain⟨g1,g2,_⟩:=(BD hs).dst A u B;cases e:ng f p (to f a) (ac f a D)with
 |false=>rfl
 |true=>
  have:=Pj hs g1 g2 e;rw[E a Y D A u B h]at this;cases this
def nnn(hs:Dp f=true)(E:cl f p)(B:D<(sz f (Y:Int)).toNat):ng f (ng f (ng f p)) Y D=ng f p Y D:=by
 rw[Bool.eq_iff_iff];refine⟨λh=>Hx.2 λa A u=>?_,λh=>Xx hs (XU hs p) B h⟩
 obtain⟨g1,g2,_⟩:=(BD hs).dst A u B;cases e:p (to f a) (ac f a D)with
 |false=>rfl
 |true=>
  have:=Hx.1 h a A u;rw[Xx hs E g2 e]at this;cases this
def dense(hs:Dp f=true)(p:Nat->Nat->Bool)(U:D<(sz f (Y:Int)).toNat):ng f (ng f λY D=>p Y D||ng f p Y D) Y D=true:=Hx.2 λa J B=>by
 obtain⟨g1,g2,_⟩:=(BD hs).dst J B U;cases e:ng f (λY D=>p Y D||ng f p Y D) (to f a) (ac f a D)with
 |false=>rfl
 |true=>
  have u:=Pj hs g1 g2 e;have u:(p (to f a) (ac f a D)||ng f p (to f a) (ac f a D))=false:=u;rw[Bool.or_eq_false_iff]at u
  have:ng f p (to f a) (ac f a D)=true:=Hx.2 λb E A=>by
   have:=Hx.1 e b E A;rw[Bool.or_eq_false_iff]at this;exact this.1
  rw[u.2]at this;cases this
def compl(hs:Dp f=true)(A:cl f p)(B:Y<f.2.2.2.2.2.1.length)(u:D<(sz f (Y:Int)).toNat)(h:(p Y D||ng f p Y D)=true):ng f (ng f p) Y D=p Y D:=by
 cases e:p Y D with
 |true=>exact Xx hs A u e
 |false=>
  rw[e,Bool.false_or]at h;cases E:ng f (ng f p) Y D with
  |false=>rfl
  |true=>
   have:=Pj hs B u E;rw[h]at this;cases this
theorem Pk(u:FS f)(q:Nat->Nat->Bool):neg f (mkP f q)=mkP f (ng f q):=CF λY _ D e=>Jw u (λY A D e=>⟨Ou A e,rfl⟩) e
def cl_or(E:cl f p)(B:cl f q):cl f λY D=>p Y D||q Y D:=λa Y D u e A h=>by
 rw[Bool.or_eq_true]at h⊢;exact h.imp (E a Y D u e A) (B a Y D u e A)
end
end Go.Ve.D


namespace Go.Ve.D
open Go Go.Ve
noncomputable section
variable{P Q:List (List Int)}{q:Nat->Nat->Bool}{f:SF}
def all_at{α:Type}{L:List α}{p:α->Bool}(d:α):L.all p=(List.range L.length).all λi=>p (L.getD i d):=by
 rw[Bool.eq_iff_iff,aET,aET];refine⟨λH i B=>H _ (DE d (List.mem_range.1 B)),λH y A=>?_⟩
 obtain⟨k,u,e⟩:=List.getElem_of_mem A;have:=H k (List.mem_range.2 u);rw[gDE,gEE u]at this;rw[<-e];exact this
theorem p25(B:okS f){L:List (List (List Int))}(J:L.length<=1048576)(E:∀P∈L,okL P):G25 (f,L)=some (Dp f&&L.all (Bo f)):=by
 unfold G25;refine Ae (a:=G51 f) (p51 B) ?_;cases h:Dp f with
 |false=>rfl
 |true=>
  show Option.bind _ _=some (L.all (Bo f));rw[all_at []];refine Q8 (n:=L.length) (p:=λi=>Bo f (L.getD i [])) (bad:=λr:Bool=>r=false) (id:=0) (Post:=λb (o:Option Bool)=>o=some b) (λi u=>?_) ?_ rfl (λr A=>by rw[A])
  .have e:=p52 (BD h) (E _ (DE [] u))
   simp only[Am,u,decide_true,cond_true,Ac u,and_self,if_true,tNC,e,Option.bind_some];rw[Ah (by omega) (by omega)]
   cases Bo f (L.getD i [])with
   |true=>exact Cn rfl
   |false=>exact Co ⟨_,rfl,rfl⟩
  .simp only[Am,Nat.lt_irrefl,decide_false,cond_false]
def p25a(u:okS f)(A:okL P):G25 (f,[P])=some (Dp f&&Bo f P):=by
 rw[p25 u (by show 1<=_;omega) λy e=>by rw[List.mem_singleton.1 e];exact A]
 simp
def p25b(A:okS f)(E:okL P)(B:okL Q)(hs:Dp f=true)(U:Bo f P=true)(J:Bo f Q=true):G25 (f,[P,Q])=some true:=by
 rw[p25 A (by show 2<=_;omega) λy u=>by
  rcases List.mem_cons.1 u with e|e
  .rw[e];exact E
  .rw[List.mem_singleton.1 e];exact B]
 simp[hs,U,J]
def MY(e:okL P)(h:Bo f P=true):PL f P:=⟨(DO h).l,e⟩
def Xm(f:SF)(P:List (List Int)):List (List Int)×Int:=bif Dp f&&Bo f P then(neg f P,0)else([],1)
def p7(u:okS f)(e:okL P):G7 (f,P)=some (Xm f P):=by
 refine Ae (a:=G25 (f,[P])) (p25a u e) ?_;unfold Xm;cases h:Dp f&&Bo f P with
 |false=>rfl
 |true=>
  rw[bAE]at h;exact Ae (a:=G26 (f,P)) (p26 (BD h.1) (MY e h.2)) rfl
def p8(u:okS f)(e:okL P):G8 (f,P)=some (Xm f P):=by
 refine Ae (a:=G27 (f,P)) (p27 u e) ?_;unfold Xm;cases h:Dp f&&Bo f P with
 |false=>rfl
 |true=>
  rw[bAE]at h;exact Ae (a:=G28 (f,P)) (p28 (BD h.1) (DO h.2) e) rfl
def p7t(e:okS f)(u:okL P)(hs:Dp f=true)(h:Bo f P=true):G7 (f,P)=some (neg f P,0):=by
 rw[p7 e u];unfold Xm;rw[hs,h];rfl
def p10(E:okS f)(u:okL P)(e:okL Q)(hs:Dp f=true)(B:Bo f P=true)(A:Bo f Q=true):G10 (f,(P,Q))=some (meet f P Q,0):=
 Ae (a:=G10030 (f,(P,(Q,())))) (Ae (a:=G25 (f,[P,Q])) (p25b E u e hs B A) (Ae (a:=G31 (f,(P,Q))) (p31 (BD hs) (MY u B) (MY e A)) rfl)) rfl
def p11(E:okS f)(u:okL P)(e:okL Q)(hs:Dp f=true)(B:Bo f P=true)(A:Bo f Q=true):G11 (f,(P,Q))=some (Z0 f P Q,0):=
 Ae (a:=G20030 (f,(P,(Q,())))) (Ae (a:=G25 (f,[P,Q])) (p25b E u e hs B A) (Ae (a:=G32 (f,(P,Q))) (p32 (BD hs) (MY u B) (MY e A)) rfl)) rfl
def wh(f:SF)(P:List (List Int)):Bool:=(List.range P.length).all λY=>decide ((((P.getD Y []).length:Nat):Int)=f.2.2.2.2.2.1.getD Y 0)
theorem p33(A:PL f P):G33 (f,P)=some (wh f P):=by
 have E:=A.l;have J:=A.o.1;unfold G33 wh;refine Q8 (n:=P.length) (p:=λY=>decide ((((P.getD Y []).length:Nat):Int)=f.2.2.2.2.2.1.getD Y 0)) (bad:=λr:Bool=>r=false) (id:=0) (Post:=λb (o:Option Bool)=>o=some b) (λi u=>?_) ?_ rfl (λr B=>by rw[B])
 .have e:i<f.2.2.2.2.2.1.length:=by omega
  simp only[Am,u,decide_true,cond_true,Ac u,Ac e,and_self,if_true,tNC];rw[Ah (by omega) (by omega)]
  cases decide ((((P.getD i []).length:Nat):Int)=f.2.2.2.2.2.1.getD i 0)with
  |true=>exact Cn rfl
  |false=>exact Co ⟨_,rfl,rfl⟩
 .simp only[Am,Nat.lt_irrefl,decide_false,cond_false]
theorem wh_mk(B:FS f):wh f (mkP f q)=true↔ ∀Y,Y<f.2.2.2.2.2.1.length->∀D,D<(sz f (Y:Int)).toNat->q Y D=true:=by
 have W:=(DT B q).l
 have u:∀Y,Y<f.2.2.2.2.2.1.length->(decide (((((mkP f q).getD Y []).length:Nat):Int)=f.2.2.2.2.2.1.getD Y 0)=true↔ ∀D,D<(sz f (Y:Int)).toNat->q Y D=true):=λY e=>by
  obtain⟨n,E,_,A⟩:=B.size e;rw[Ku e,E,decide_eq_true_eq];unfold mkR;rw[A,List.length_map];refine⟨λh D U=>?_,λh=>?_⟩
  .have h:((List.range n).filter (q Y)).length=(List.range n).length:=by rw[List.length_range];omega
   exact List.length_filter_eq_length_iff.1 h D (List.mem_range.2 U)
  .rw[List.filter_eq_self.2 λa J=>h a (List.mem_range.1 J),List.length_range]
 unfold wh;rw[aET];exact⟨λh Y e=>(u Y e).1 (h Y (List.mem_range.2 (by omega))),λh Y e=>(u Y (by have:=List.mem_range.1 e;omega)).2 (h Y (by have:=List.mem_range.1 e;omega))⟩
def p12(u:okS f)(hs:Dp f=true)(h:cl f q):G12 (f,mkP f q)=some (wh f (mkP f (ng f (ng f q))),0):=by
 have e:=BD hs;refine Ae (a:=G25 (f,[mkP f q])) (p25a u (DT e q).o) ?_;rw[hs,Ll e h];refine Ae (a:=G26 (f,mkP f q)) (p26 e (DT e q)) ?_;rw[Pk e];refine Ae (a:=G26 (f,mkP f (ng f q))) (p26 e (DT e _)) ?_;rw[Pk e];exact Ae (a:=G33 (f,mkP f (ng f (ng f q)))) (p33 (DT e _)) rfl
def p13(A:okS f)(u:okL P)(hs:Dp f=true)(h:Bo f P=true):G13 (f,P)=some (wh f (Z0 f P (neg f P)),0):=by
 have e:=BD hs;refine Ae (a:=G25 (f,[P])) (p25a A u) ?_;rw[hs,h];refine Ae (a:=G26 (f,P)) (p26 e (MY u h)) (Ae (a:=G32 (f,(P,neg f P))) (p32 e (MY u h) (DT e _)) (Ae (a:=G33 (f,Z0 f P (neg f P))) (p33 (DT e _)) rfl))
theorem p34(E:okL P)(J:okL Q)(W:P.length=Q.length)(h:∀Y,Y<P.length->∀e,e<(P.getD Y []).length->(Q.getD Y []).contains ((P.getD Y []).getD e 0)=true):G34 (P,Q)=some true:=by
 have h1:=E.1;unfold G34;refine Ae (Cf (st:=λi:Nat=>(i:Int)) (n:=P.length) (o:=.brk 0 (P.length:Int)) rfl (λY A=>?_) ?_ (λy=>by simp)) rfl
 .have Z:=Pu E.2 Y
  have B:Y<Q.length:=by omega
  simp only[Am,A,decide_true,cond_true,Ac A,and_self,if_true,tNC];refine Ae (Cf (st:=λi:Nat=>(i:Int)) (n:=(P.getD Y []).length) (o:=.brk 2 ((P.getD Y []).length:Int)) rfl (λe u=>?_) ?_ (λy=>by simp)) ?_
  .have U:G61 (Q,((Y:Int),(P.getD Y []).getD e 0))=some true:=by
    unfold G61;simp only[Ac B,and_self,if_true,tNC,p92 (Pu J.2 Y),Option.bind_some,h Y A e u]
   simp only[Am,u,decide_true,cond_true,Ac u,and_self,if_true,tNC,U,Option.bind_some,Bool.not_true,cond_false];rw[Ah (by omega) (by omega)];rfl
  .simp only[Am,Nat.lt_irrefl,decide_false,cond_false]
  .show(if 2=2 then _ else none)=_
   rw[if_pos rfl,Ah (by omega) (by omega)];rfl
 .simp only[Am,Nat.lt_irrefl,decide_false,cond_false]
def p14(J:okS f)(A:okL P)(u:okL Q)(hs:Dp f=true)(E:Bo f P=true)(B:Bo f Q=true)(h:∀Y,Y<P.length->∀e,e<(P.getD Y []).length->(Q.getD Y []).contains ((P.getD Y []).getD e 0)=true):G14 (f,(P,Q))=some (true,0):=
 Ae (a:=G25 (f,[P,Q])) (p25b J A u hs E B) (Ae (a:=G34 (P,Q)) (p34 A u (by rw[(DO E).l,(DO B).l]) h) rfl)
theorem p29{x:List Int}(u:x.length<=1048576):G29 (x,x)=some true:=by
 unfold G29;rw[show(!decide (((x.length:Nat):Int)=((x.length:Nat):Int)))=false by simp]
 refine Ae (Cf (st:=λi:Nat=>(i:Int)) (n:=x.length) (o:=.brk 0 (x.length:Int)) rfl (λi e=>?_) ?_ (λy=>by simp)) rfl
 .simp only[Am,e,decide_true,cond_true,Ac e,and_self,if_true,Bool.not_true,cond_false]
  rw[Ah (by omega) (by omega)];rfl
 .simp only[Am,Nat.lt_irrefl,decide_false,cond_false]
theorem p9(A:okL P):G9 (P,P)=some true:=by
 have B:=A.1;unfold G9;rw[show(!decide (((P.length:Nat):Int)=((P.length:Nat):Int)))=false by simp]
 refine Ae (Cf (st:=λi:Nat=>(i:Int)) (n:=P.length) (o:=.brk 0 (P.length:Int)) rfl (λi u=>?_) ?_ (λy=>by simp)) rfl
 .have e:=p29 (Pu A.2 i)
  simp only[Am,u,decide_true,cond_true,Ac u,and_self,if_true,tNC,e,Option.bind_some,Bool.not_true,cond_false];rw[Ah (by omega) (by omega)];rfl
 .simp only[Am,Nat.lt_irrefl,decide_false,cond_false]
end
end Go.Ve.D

