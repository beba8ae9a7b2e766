/- Copies, equalities, sizes: what they compute. -/
import Derived.Test.YtojjlnbnneemaaaUom
import Derived.Test.YtojjlnbnneemaaaLa
import Derived.Test.YtojjlnbnneemaaaTr
import Derived.Test.YtojjlnbnneemaaaLt
set_option linter.all false
namespace Go.Ve.D
open Go Go.Ve
variable{a:Int}{x:List Int}{n:Nat}
def okC(c:Int×List Int×List Int×List Int×List (List Int)):Prop:=c.2.1.length<=1048576/\c.2.2.1.length<=1048576/\c.2.2.2.1.length<=1048576/\c.2.2.2.2.length<=1048576/\∀y∈c.2.2.2.2,y.length<=1048576
open Go Go.Ve
open Go Go.Ve
def p76(a l h:Int):G76 (a,(l,h))=some (decide (l<=a)&&decide (a<=h)):=by
 unfold G76;by_cases e:l<=a<;>simp[e]
def p76'(a n:Int)(hn:0<=n/\n<=9223372036854775807):G76 (a,((0:Int),IntKind.wrap .i64 (n-1)))=some (inn n a):=by
 rw[p76,AaG (by omega) (by omega)]
 unfold inn
 congr 2
 rw[Bool.eq_iff_iff];simp;omega
theorem p140{n:Int}(F:x.length<=1048576):G140 (n,x)=some (wi n x):=by
 unfold G140
 have h:=Di (R:=Bool) (f:=(fun(v0:Int)=>(bif(decide (v0<((x.length:Nat):Int)))then(if(((0:Int)<=v0)/\(v0<((x.length:Nat):Int)))then(Option.bind (bif(decide ((x.getD (v0).toNat (0:Int))<(0:Int)))then(some true)else(if(((0:Int)<=v0)/\(v0<((x.length:Nat):Int)))then(some (decide (n<=(x.getD (v0).toNat (0:Int)))))else none)) (fun(E:Bool)=>(bif E then(BA (some false))else(some (LO.next (IntKind.wrap .i64 (v0+(1:Int))))))))else none)else(some (LO.brk 0 v0)))))
  (st:=λi=>(i:Int)) (n:=x.length) (p:=λi=>inn n (x.getD i 0)) (r:=false) (o:=.brk 0 (x.length:Int)) (λi B=>by
   simp only[A3,B,decide_true,cond_true,An B,if_true,tNC,and_self];rw[AL (by omega) (by omega)]
   by_cases e:x.getD i 0<0
   .have:inn n (x.getD i 0)=false:=inn_f1 e
    simp only[e,decide_true,cond_true,Option.bind_some,this,cond_false];rfl
   .by_cases A:n<=x.getD i 0
    .have:inn n (x.getD i 0)=false:=inn_f2 A
     simp only[e,A,decide_false,decide_true,cond_true,cond_false,Option.bind_some,this];rfl
    .have:inn n (x.getD i 0)=true:=inn_t (by omega) (by omega)
     simp only[e,A,decide_false,cond_true,cond_false,Option.bind_some,this];rfl) (by simp) (λy=>by simp)
 rw[Nd 0 (inn n) x]at h;refine Cf h ?_;show _=some (wi n x);unfold wi;cases x.all (inn n)<;>rfl
theorem p93{n:Int}(hn:0<=n/\n<=9223372036854775807)(B:x.length<=1048576):G93 (x,n)=some (wi n x):=by
 unfold G93
 have h:=Di (R:=Bool) (f:=(fun(v0:Int)=>(bif(decide (v0<((x.length:Nat):Int)))then(if(((0:Int)<=v0)/\(v0<((x.length:Nat):Int)))then(Option.bind (G76 ((x.getD (v0).toNat (0:Int)),((0:Int),(IntKind.wrap .i64 (n-(1:Int)))))) (fun(A:Bool)=>(bif(!A)then(BA (some false))else(some (LO.next (IntKind.wrap .i64 (v0+(1:Int))))))))else none)else(some (LO.brk 0 v0)))))
  (st:=λi=>(i:Int)) (n:=x.length) (p:=λi=>inn n (x.getD i 0)) (r:=false) (o:=.brk 0 (x.length:Int)) (λi e=>by
   simp only[A3,e,decide_true,cond_true,An e,if_true,tNC,and_self,p76' _ _ hn,Option.bind_some];rw[AL (by omega) (by omega)]
   cases inn n (x.getD i 0)<;>rfl) (by simp) (λy=>by simp)
 rw[Nd 0 (inn n) x]at h;refine Cf h ?_;show _=some (wi n x);unfold wi;cases x.all (inn n)<;>rfl
open Go Go.Ve
abbrev Cat:=Int×List Int×List Int×List Int×List (List Int)
variable{c:Cat}
def Cw(c:Cat)(f g:Nat):Bool:=
 bif !decide (c.2.2.1.getD f 0=c.2.1.getD g 0)then decide ((c.2.2.2.2.getD f []).getD g 0= -1)
 else inn c.2.1.length ((c.2.2.2.2.getD f []).getD g 0)&&(decide (c.2.1.getD ((c.2.2.2.2.getD f []).getD g 0).toNat 0=c.2.1.getD f 0)&&decide (c.2.2.1.getD ((c.2.2.2.2.getD f []).getD g 0).toNat 0=c.2.2.1.getD g 0))
def Iw(c:Cat)(f:Nat):Bool:=decide ((c.2.2.2.2.getD f []).length=c.2.1.length)&&(List.range c.2.1.length).all (Cw c f)
def Xo(c:Cat)(i:Nat):Bool:=decide (c.2.1.getD (c.2.2.2.1.getD i 0).toNat 0=i)&&decide (c.2.2.1.getD (c.2.2.2.1.getD i 0).toNat 0=i)
def Kg(c:Cat):Prop:=(0<=c.1/\c.1<=8)/\c.2.1.length<=40/\c.2.2.1.length=c.2.1.length/\wi c.1 c.2.1=true/\wi c.1 c.2.2.1=true/\c.2.2.2.2.length=c.2.1.length/\(c.2.2.2.1.length:Int)=c.1/\wi c.2.1.length c.2.2.2.1=true
instance(c:Cat):Decidable (Kg c):=by unfold Kg;infer_instance
def HJ(c:Cat):Bool:=decide (Kg c)&&((List.range c.2.2.2.1.length).all (Xo c)&&(List.range c.2.1.length).all (Iw c))
theorem p143i(h:Kg c)(F:Int->Option (LO Int Bool))(U:F=(fun(e:Int)=>(bif(decide (e<c.1))then(if(((0:Int)<=e)/\(e<((c.2.2.2.1.length:Nat):Int)))then(if(((0:Int)<=(c.2.2.2.1.getD (e).toNat (0:Int)))/\((c.2.2.2.1.getD (e).toNat (0:Int))<((c.2.1.length:Nat):Int)))then(Option.bind (bif(!decide ((c.2.1.getD ((c.2.2.2.1.getD (e).toNat (0:Int))).toNat (0:Int))=e))then(some true)else(if(((0:Int)<=e)/\(e<((c.2.2.2.1.length:Nat):Int)))then(if(((0:Int)<=(c.2.2.2.1.getD (e).toNat (0:Int)))/\((c.2.2.2.1.getD (e).toNat (0:Int))<((c.2.2.1.length:Nat):Int)))then(some (!decide ((c.2.2.1.getD ((c.2.2.2.1.getD (e).toNat (0:Int))).toNat (0:Int))=e)))else none)else none)) (fun(O:Bool)=>(bif O then(BA (some false))else(some (LO.next (IntKind.wrap .i64 (e+(1:Int))))))))else none)else none)else(some (LO.brk 0 e))))):
  Ar F 0=some (bif(List.range c.2.2.2.1.length).all (Xo c)then .brk 0 c.1 else .ret false):=by
 obtain⟨a1,a2,a3,a4,a5,a6,a7,a8⟩:=h;subst U;refine Di (st:=λi=>(i:Int)) (λi J=>?_) (by simp[a7]) (λy=>by simp)
 have A:((i:Int)<c.1):=by omega
 have L:=IZ a8 J;have B:0<=c.2.2.2.1.getD i 0/\c.2.2.2.1.getD i 0<(c.2.2.1.length:Int):=by rw[a3];exact L
 simp only[A,decide_true,cond_true,An J,if_true,tNC,and_self,L,B];rw[AL (by omega) (by omega)]
 unfold Xo;by_cases E:c.2.1.getD (c.2.2.2.1.getD i 0).toNat 0=(i:Int)
 .by_cases M:c.2.2.1.getD (c.2.2.2.1.getD i 0).toNat 0=(i:Int)
  .simp only[E,M,decide_true,Bool.not_true,cond_false,cond_true,Option.bind_some,Bool.and_self];rfl
  .simp only[E,M,decide_true,decide_false,Bool.not_true,Bool.not_false,cond_false,cond_true,Option.bind_some,Bool.and_false];rfl
 .simp only[E,decide_false,Bool.not_false,cond_false,cond_true,Option.bind_some,Bool.false_and];rfl
open Go Go.Ve
def DQ(h:¬Kg c):HJ c=false:=by simp[HJ,h]
open Go Go.Ve
def p89(c:Cat):G89 c=some (c.2.1.length:Int):=rfl
def p58(A:0<=a/\a<(c.2.1.length:Int))(e:0<=a/\a<(c.2.2.1.length:Int)):G58 (c,a)=some (c.2.1.getD a.toNat 0,c.2.2.1.getD a.toNat 0):=by
 unfold G58;simp only[A,e,and_self,if_true]
theorem p114(h:okC c):G114 c=some (HJ c):=by
 obtain⟨h1,h2,h3,h4,h5⟩:=h;unfold G114;simp only[p89,p76 c.1 0 8,Option.bind_some];by_cases c1:0<=c.1/\c.1<=8
 case neg=>
  have e:(decide (0<=c.1)&&decide (c.1<=8))=false:=by simp;omega
  simp only[e,Bool.not_false,cond_true,Option.bind_some,DQ λh=>c1 h.1]
 have U:(decide (0<=c.1)&&decide (c.1<=8))=true:=by simp[c1]
 have B:0<=c.1/\c.1<=9223372036854775807:=by omega
 have Y:(0:Int)<=(c.2.1.length:Int)/\(c.2.1.length:Int)<=9223372036854775807:=by omega
 simp only[U,Bool.not_true,cond_false,Option.bind_some,p93 B h1,p93 B h2,p93 Y h3];by_cases c2:(40:Int)<(c.2.1.length:Int)
 case pos=>simp only[c2,decide_true,cond_true,Option.bind_some,DQ (c:=c) λh=>absurd h.2.1 (by omega)]
 simp only[c2,decide_false,cond_false,Option.bind_some];by_cases c4:(c.2.2.1.length:Int)=(c.2.1.length:Int)
 case neg=>simp only[c4,decide_false,Bool.not_false,cond_true,Option.bind_some,DQ λh=>c4 (by rw[h.2.2.1])]
 simp only[dT c4,Bool.not_true,cond_false,Option.bind_some];cases c3:wi c.1 c.2.1 with
 |false=>simp only[Bool.not_false,cond_true,Option.bind_some,DQ λh=>by have:=h.2.2.2.1;rw[c3]at this;cases this]
 |true=>
 simp only[Bool.not_true,cond_false,Option.bind_some];cases c5:wi c.1 c.2.2.1 with
 |false=>simp only[Bool.not_false,cond_true,Option.bind_some,DQ λh=>by have:=h.2.2.2.2.1;rw[c5]at this;cases this]
 |true=>
 simp only[Bool.not_true,cond_false,Option.bind_some];by_cases c7:(c.2.2.2.1.length:Int)=c.1
 case neg=>simp only[c7,decide_false,Bool.not_false,cond_true,Option.bind_some,DQ λh=>c7 h.2.2.2.2.2.2.1]
 simp only[dT c7,Bool.not_true,cond_false];cases c8:wi c.2.1.length c.2.2.2.1 with
 |false=>simp only[Bool.not_false,cond_true,Option.bind_some,DQ λh=>by have:=h.2.2.2.2.2.2.2;rw[c8]at this;cases this]
 |true=>
 simp only[Bool.not_true,cond_false,Option.bind_some];by_cases c6:(c.2.2.2.2.length:Int)=(c.2.1.length:Int)
 case neg=>simp only[c6,decide_false,Bool.not_false,cond_true,Option.bind_some,DQ λh=>c6 (by rw[h.2.2.2.2.2.1])]
 simp only[dT c6,Bool.not_true,cond_false,Option.bind_some];have hh:Kg c:=⟨c1,by omega,by omega,c3,c5,by omega,c7,c8⟩
 have hs:HJ c=((List.range c.2.2.2.1.length).all (Xo c)&&(List.range c.2.1.length).all (Iw c)):=by simp[HJ,hh]
 rw[hs];obtain⟨a1,a2,a3,a4,a5,a6,a7,a8⟩:=hh;refine Cf (v:=bif(List.range c.2.2.2.1.length).all (Xo c)then .brk 0 (c.2.2.2.1.length:Int)else .ret false) (Di (st:=λi=>(i:Int)) (λi M=>?_) (by simp) (λy=>by simp)) ?_
 .have J:=IZ a8 M
  have W:0<=c.2.2.2.1.getD i 0/\c.2.2.2.1.getD i 0<(c.2.2.1.length:Int):=by rw[a3];exact J
  simp only[A3,M,decide_true,cond_true,An M,if_true,tNC,and_self,p58 J W,Option.bind_some,Bool.and_true];rw[AL (by omega) (by omega)]
  show(bif !Xo c i then _ else _)=_;cases Xo c i<;>rfl
 cases M:(List.range c.2.2.2.1.length).all (Xo c)with
 |false=>rfl
 |true=>
 simp only[cond_true,Bool.true_and];show(if 0=0 then _ else _)=_
 rw[if_pos rfl];refine Cf (v:=bif(List.range c.2.1.length).all (Iw c)then .brk 2 (c.2.1.length:Int)else .ret false) (Di (st:=λi=>(i:Int)) (λf hf=>?_) (by simp[a6]) (λy=>by simp)) (by cases (List.range c.2.1.length).all (Iw c)<;>rfl)
 have A:f<c.2.2.2.2.length:=by omega
 simp only[A3,A,decide_true,cond_true,An A,if_true,tNC,and_self];by_cases d1:((c.2.2.2.2.getD f []).length:Int)=(c.2.1.length:Int)
 case neg=>
  have:Iw c f=false:=by unfold Iw;simp only[show ¬ (c.2.2.2.2.getD f []).length=c.2.1.length by omega,decide_false,Bool.false_and]
  simp only[d1,decide_false,Bool.not_false,cond_true,this,cond_false];rfl
 have d2:(c.2.2.2.2.getD f []).length=c.2.1.length:=by omega
 have hr:Iw c f=(List.range c.2.1.length).all (Cw c f):=by unfold Iw;simp only[d2,decide_true,Bool.true_and]
 simp only[dT d1,Bool.not_true,cond_false];rw[hr]
 refine Cf (v:=bif(List.range c.2.1.length).all (Cw c f)then .brk 4 (c.2.1.length:Int)else .ret (.ret false)) (Di (st:=λi=>(i:Int)) (λg J=>?_) (by simp only[dF (show ¬ ((c.2.1.length:Int)<((c.2.2.2.2.getD f []).length:Int)) by omega),cond_false]) (λy=>by simp)) (by
  cases (List.range c.2.1.length).all (Cw c f)with
  |false=>rfl
  |true=>
   show(if 4=4 then some (LO.next (IntKind.wrap .i64 ((f:Int)+1)))else none)=_
   rw[if_pos rfl,AL (by omega) (by omega)];rfl)
 have L:f<c.2.2.1.length:=by omega
 have F:g<c.2.2.1.length:=by omega
 have E:g<(c.2.2.2.2.getD f []).length:=by omega
 simp only[A3,hf,J,L,F,E,decide_true,cond_true,An hf,An J,An A,An L,An F,An E,if_true,tNC,and_self,p76' _ _ Y,Option.bind_some];rw[AL (show(0:Int)<=(g:Int)+1 by omega) (by omega)]
 unfold Cw;obtain⟨k,Z⟩:∃k,k=(c.2.2.2.2.getD f []).getD g 0:=⟨_,rfl⟩;simp only[<-Z];clear Z;by_cases U:c.2.2.1.getD f 0=c.2.1.getD g 0
 case neg=>
  simp only[U,decide_false,Bool.not_false,cond_true];by_cases O:k= -1
  .simp only[O,decide_true,Bool.not_true,cond_false,cond_true];rfl
  .simp only[O,decide_false,Bool.not_false,cond_false,cond_true];rfl
 simp only[U,decide_true,Bool.not_true,cond_false];cases O:inn c.2.1.length k with
 |false=>simp only[Bool.not_false,cond_true,Option.bind_some,Bool.false_and,cond_false];rfl
 |true=>
 have e5:=DE.1 O;have e6:0<=k/\k<(c.2.2.1.length:Int):=by omega
 simp only[Bool.not_true,cond_false,p58 e5 e6,Option.bind_some,Bool.true_and,Bool.and_true];cases (decide (c.2.1.getD k.toNat 0=c.2.1.getD f 0)&&decide (c.2.2.1.getD k.toNat 0=c.2.2.1.getD g 0))<;>rfl
open Go Go.Ve
def T(c:Cat)(f g:Nat):Int:=(c.2.2.2.2.getD f []).getD g 0
def idn(c:Cat)(x:Int):Nat:=(c.2.2.2.1.getD x.toNat 0).toNat
def K2(c:Cat)(f:Nat):Bool:=decide (T c (idn c (c.2.1.getD f 0)) f=(f:Int))&&decide (T c f (idn c (c.2.2.1.getD f 0))=(f:Int))
def mt(c:Cat)(f g:Nat):Bool:=decide (c.2.2.1.getD f 0=c.2.1.getD g 0)
def Kz(c:Cat)(f g h:Nat):Bool:=bif mt c g h then decide (T c (T c f g).toNat h=T c f (T c g h).toNat)else true
def MM(c:Cat):Bool:=(List.range c.2.1.length).all (K2 c)&&(List.range c.2.1.length).all λf=>(List.range c.2.1.length).all λg=>bif mt c f g then(List.range c.2.1.length).all λh=>Kz c f g h else true
structure Sh(c:Cat):Prop where
 hd:Kg c
 id:∀x:Int,0<=x->x<c.1->(0<=c.2.2.2.1.getD x.toNat 0/\c.2.2.2.1.getD x.toNat 0<(c.2.1.length:Int))
 fr:∀f,f<c.2.1.length->0<=c.2.1.getD f 0/\c.2.1.getD f 0<c.1
 to:∀f,f<c.2.1.length->0<=c.2.2.1.getD f 0/\c.2.2.1.getD f 0<c.1
 row:∀f,f<c.2.1.length->(c.2.2.2.2.getD f []).length=c.2.1.length
 neg:∀f g,f<c.2.1.length->g<c.2.1.length->mt c f g=false->T c f g= -1
 pos:∀f g,f<c.2.1.length->g<c.2.1.length->mt c f g=true->0<=T c f g/\T c f g<(c.2.1.length:Int)/\c.2.1.getD (T c f g).toNat 0=c.2.1.getD f 0/\c.2.2.1.getD (T c f g).toNat 0=c.2.2.1.getD g 0
theorem sh_of(h:HJ c=true):Sh c:=by
 unfold HJ at h;simp only[bAE,decide_eq_true_eq]at h;obtain⟨J,O,L⟩:=h;have B:∀f,f<c.2.1.length->Iw c f=true:=λf e=>aET.1 L f (List.mem_range.2 e)
 have A:∀f g,f<c.2.1.length->g<c.2.1.length->Cw c f g=true:=λf g e F=>by
  have:=B f e;unfold Iw at this;rw[bAE]at this;exact aET.1 this.2 g (List.mem_range.2 F)
 have M:=J;obtain⟨a1,a2,a3,a4,a5,a6,a7,a8⟩:=J;refine⟨M,λx W U=>IZ a8 (by omega),λf e=>IZ a4 e,λf e=>IZ a5 (by omega),λf e=>?_,λf g e F E=>?_,λf g e F E=>?_⟩
 .have:=B f e
  unfold Iw at this;rw[bAE]at this;exact of_decide_eq_true this.1
 .have:=A f g e F
  unfold Cw at this;unfold mt at E;rw[E]at this;exact of_decide_eq_true this
 .have:=A f g e F
  unfold Cw at this;unfold mt at E;rw[E]at this;simp only[Bool.not_true,cond_false,bAE,decide_eq_true_eq]at this;exact⟨(DE.1 this.1).1,(DE.1 this.1).2,this.2.1,this.2.2⟩
def Hg{X R S:Type}{f:X->Option (LO X R)}{st:Nat->X}{n:Nat}{p:Nat->Bool}{Q:R->Prop}{o:LO X R}{k:LO X R->Option S}{Post:Option S->Prop}
  (J:∀i,i<n->(p i=true->f (st i)=some (.next (st (i+1))))/\(p i=false->∃r,f (st i)=some (.ret r)/\Q r)) (F:f (st n)=some o) (ho:∀y,o≠.next y)
  (E:(List.range n).all p=true->Post (k o)) (B:(List.range n).all p=false->∀r,Q r->Post (k (.ret r))):Post (Option.bind (Ar f (st 0)) k):=by
 obtain⟨g1,g2⟩:=VY J F ho;cases h:(List.range n).all p with
 |true=>rw[g1 h];exact E h
 |false=>obtain⟨r,e,A⟩:=g2 h;rw[e];exact B h r A
def inN(h:0<=a/\a<(n:Int)):a.toNat<n:=by omega
def p82(h:Sh c){f g:Int}(e:0<=f/\f<(c.2.1.length:Int))(A:0<=g/\g<(c.2.1.length:Int)):G82 (c,(f,g))=some (T c f.toNat g.toNat):=by
 unfold G82;have J:c.2.2.2.2.length=c.2.1.length:=h.hd.2.2.2.2.2.1;have F:=h.row f.toNat (inN e);have E:0<=f/\f<(c.2.2.2.2.length:Int):=by rw[J];exact e
 have B:0<=g/\g<((c.2.2.2.2.getD f.toNat []).length:Int):=by rw[F];exact A
 simp only[E,B,and_self,if_true];rfl
theorem p115(h:Sh c):∃r,G115 c=some r/\(decide (r.1=0)=MM c):=by
 have hh:=h.hd;obtain⟨a1,a2,a3,a4,a5,a6,a7,a8⟩:=hh;unfold G115;simp only[p89,Option.bind_some];refine Hg (Post:=fun(z:Option (Int×Int×Int×Int))=>∃r,z=some r/\(decide (r.1=0)=MM c)) (st:=λi=>(i:Int)) (n:=c.2.1.length) (p:=K2 c) (Q:=fun(r:Int×Int×Int×Int)=>r.1≠0) (o:=.brk 0 (c.2.1.length:Int)) (λf e=>?_) (by simp) (λy=>by simp) (λW=>?_) (λW r F=>?_)
 .have U:=h.fr f e
  have J:=h.to f e;have hi1:=h.id _ U.1 U.2;have hi2:=h.id _ J.1 J.2;have hfi:0<=c.2.1.getD f 0/\c.2.1.getD f 0<(c.2.2.2.1.length:Int):=by omega
  have Z:0<=c.2.2.1.getD f 0/\c.2.2.1.getD f 0<(c.2.2.2.1.length:Int):=by omega
  have O:f<c.2.2.1.length:=by omega
  simp only[A3,e,O,decide_true,cond_true,An e,An O,if_true,tNC,and_self,hfi,Z,p82 h hi1 (An e),p82 h (An e) hi2,Option.bind_some];rw[AL (by omega) (by omega)]
  show(K2 c f=true->_)/\_;unfold K2 idn;by_cases b1:T c (c.2.2.2.1.getD (c.2.1.getD f 0).toNat 0).toNat f=(f:Int)
  .by_cases b2:T c f (c.2.2.2.1.getD (c.2.2.1.getD f 0).toNat 0).toNat=(f:Int)
   .simp only[b1,b2,decide_true,Bool.not_true,cond_false,Option.bind_some,Bool.and_self]
    exact⟨λ_=>rfl,(λh=>by cases h)⟩
   .simp only[b1,b2,decide_true,decide_false,Bool.not_true,Bool.not_false,cond_false,cond_true,Option.bind_some,Bool.and_false]
    exact⟨(λh=>by cases h),λ_=>⟨_,rfl,by simp⟩⟩
  .simp only[b1,decide_false,Bool.not_false,cond_true,Option.bind_some,Bool.false_and]
   exact⟨(λh=>by cases h),λ_=>⟨_,rfl,by simp⟩⟩
 .show ∃r,(if 0=0 then _ else none)=some r/\_
  rw[if_pos rfl];refine Hg (Post:=fun(z:Option (Int×Int×Int×Int))=>∃r,z=some r/\(decide (r.1=0)=MM c)) (st:=λi=>(i:Int)) (n:=c.2.1.length) (p:=λf=>(List.range c.2.1.length).all λg=>bif mt c f g then(List.range c.2.1.length).all λh=>Kz c f g h else true) (Q:=fun(r:Int×Int×Int×Int)=>r.1≠0) (o:=.brk 2 (c.2.1.length:Int)) (λf e=>?_) (by simp) (λy=>by simp) (λY=>?_) (λY r F=>?_)
  .simp only[A3,e,decide_true,cond_true]
   refine Hg (Post:=fun(z:Option (LO Int (Int×Int×Int×Int)))=>(((List.range c.2.1.length).all λg=>bif mt c f g then(List.range c.2.1.length).all λh=>Kz c f g h else true)=true->z=some (.next ((f+1:Nat):Int)))/\(((List.range c.2.1.length).all λg=>bif mt c f g then(List.range c.2.1.length).all λh=>Kz c f g h else true)=false->∃r,z=some (.ret r)/\r.1≠0))
    (st:=λi=>(i:Int)) (n:=c.2.1.length) (p:=λg=>bif mt c f g then(List.range c.2.1.length).all λh=>Kz c f g h else true) (Q:=fun(r:LO Int (Int×Int×Int×Int))=>∃r',r=.ret r'/\r'.1≠0) (o:=.brk 4 (c.2.1.length:Int)) (λg A=>?_) (by simp) (λy=>by simp) (λB=>?_) (λB r F=>?_)
   .simp only[A3,A,decide_true,cond_true,p82 h (An e) (An A),tNC,Option.bind_some]
    rw[AL (show(0:Int)<=(g:Int)+1 by omega) (by omega)]
    cases hm:mt c f g with
    |false=>
     have:=h.neg f g e A hm;simp only[this,show((-1:Int)<0) by decide,decide_true,cond_true,cond_false]
     exact⟨λ_=>rfl,(λh=>by cases h)⟩
    |true=>
     obtain⟨q1,q2,q3,q4⟩:=h.pos f g e A hm;simp only[show ¬ (T c f g<0) by omega,decide_false,cond_false,cond_true]
     refine Hg (Post:=fun(z:Option (LO Int (LO Int (Int×Int×Int×Int))))=>(((List.range c.2.1.length).all λh=>Kz c f g h)=true->z=some (.next ((g+1:Nat):Int)))/\(((List.range c.2.1.length).all λh=>Kz c f g h)=false->∃r,z=some (.ret r)/\∃r',r=.ret r'/\r'.1≠0))
      (st:=λi=>(i:Int)) (n:=c.2.1.length) (p:=λh=>Kz c f g h) (Q:=fun(r:LO Int (LO Int (Int×Int×Int×Int)))=>∃r',r=.ret (.ret r')/\r'.1≠0) (o:=.brk 6 (c.2.1.length:Int)) (λk M=>?_) (by simp) (λy=>by simp) (λB=>?_) (λB r F=>?_)
     .simp only[A3,M,decide_true,cond_true,p82 h (An A) (An M),tNC,Option.bind_some]
      rw[AL (show(0:Int)<=(k:Int)+1 by omega) (by omega)]
      unfold Kz;cases L:mt c g k with
      |false=>
       have:=h.neg g k A M L;simp only[this,show ¬ ((0:Int)<=-1) by decide,decide_false,cond_false,Option.bind_some]
       exact⟨λ_=>rfl,(λh=>by cases h)⟩
      |true=>
       obtain⟨w1,w2,w3,w4⟩:=h.pos g k A M L;simp only[w1,decide_true,cond_true,p82 h (An e) (An A),p82 h ⟨q1,q2⟩ (An M),p82 h (An e) ⟨w1,w2⟩,tNC,Option.bind_some];by_cases b:T c (T c f g).toNat k=T c f (T c g k).toNat
       .simp only[b,decide_true,Bool.not_true,cond_false]
        exact⟨λ_=>rfl,(λh=>by cases h)⟩
       .simp only[b,decide_false,Bool.not_false,cond_true]
        exact⟨(λh=>by cases h),λ_=>⟨_,rfl,_,rfl,by simp⟩⟩
     .refine⟨λ_=>?_,(λh=>by rw[B]at h;cases h)⟩
      show(if 6=6 then some (LO.next ((g:Int)+1))else none)=_
      rw[if_pos rfl];rfl
     .obtain⟨r',rfl,E⟩:=F
      exact⟨(λh=>by rw[B]at h;cases h),λ_=>⟨_,rfl,r',rfl,E⟩⟩
   .refine⟨λ_=>?_,(λh=>by rw[B]at h;cases h)⟩
    show(if 4=4 then some (LO.next (IntKind.wrap .i64 ((f:Int)+1)))else none)=_
    rw[if_pos rfl,AL (by omega) (by omega)];rfl
   .obtain⟨r',rfl,E⟩:=F
    exact⟨(λh=>by rw[B]at h;cases h),λ_=>⟨r',rfl,E⟩⟩
  .exact⟨_,rfl,by unfold MM;rw[W,Y];rfl⟩
  .exact⟨r,rfl,by unfold MM;rw[W,Y];simpa using F⟩
 .exact⟨r,rfl,by unfold MM;rw[W];simpa using F⟩
open Go Go.Ve
open Go Go.Ve
def H5(c:Cat):Bool:=HJ c&&MM c
def p65(h:okC c):G65 c=some (H5 c):=by
 unfold G65;simp only[p114 h,Option.bind_some];unfold H5;cases e:HJ c with
 |false=>rfl
 |true=>
  obtain⟨r,A,B⟩:=p115 (sh_of e);simp only[A,Option.bind_some,B,Bool.not_true,cond_false,Bool.true_and]
abbrev Qry:=List Int×List (Int×Int)×List (Int×Int)×List Int
def qHead(c:Cat)(q:Qry):Prop:=q.1.length<=4/\wi c.1 q.1=true/\q.2.1.length<=6/\q.2.2.1.length=q.2.1.length/\q.2.2.2.length<=4/\wi q.1.length q.2.2.2=true
instance(c:Cat)(q:Qry):Decidable (qHead c q):=by unfold qHead;infer_instance
open Go Go.Ve
open Go Go.Ve
end Go.Ve.D


namespace Go.Ve.D
open Go Go.Ve
variable{i n:Nat}{α:Type}
def Nu{x:List α}(d:α)(e:i<x.length):x.take i++[x.getD i d]=x.take (i+1):=by
 rw[List.take_add_one];simp[e]
def Yp(x:List α):x.take x.length=x:=List.take_length
def Dp{x:List α}(d:α)(e:i<x.length):x.getD i d∈x:=by
 rw[gDE,gEE e];exact List.getElem_mem e
abbrev Fun:=Int×List Int×List Int×List Int×List (List Int)×Int×List Int×List Int×List Int×List (List Int)×List Int×List Int
def srcF(f:Fun):Cat:=(f.1,(f.2.1,(f.2.2.1,(f.2.2.2.1,f.2.2.2.2.1))))
def tgtF(f:Fun):Cat:=(f.2.2.2.2.2.1,(f.2.2.2.2.2.2.1,(f.2.2.2.2.2.2.2.1,(f.2.2.2.2.2.2.2.2.1,f.2.2.2.2.2.2.2.2.2.1))))
def okF(f:Fun):Prop:=okC (srcF f)/\okC (tgtF f)/\f.2.2.2.2.2.2.2.2.2.2.1.length<=1048576/\f.2.2.2.2.2.2.2.2.2.2.2.length<=1048576
def IJ(n:Nat):List Int:=(List.range n).map fun(i:Nat)=>(i:Int)
def YT:(IJ n).length=n:=by simp[IJ]
def Jr(e:i<n):(IJ n).getD i 0=(i:Int):=by simp[IJ,e]
end Go.Ve.D


namespace Go.Ve.D
open Go Go.Ve
def Q1{c:Cat}(h:H5 c=true):Sh c:=by
 unfold H5 at h;rw[bAE]at h;exact sh_of h.1
def Aac{α R:Type}{f:(Int×List α)->Option (LO (Int×List α) R)}{n:Nat}{q:Nat->Bool}{g:Nat->α}{id:Nat}
  (F:∀i,i<n->∀e:List α,e.length<=i->f ((i:Int),e)=some (.next (((i+1:Nat):Int),bif q i then e++[g i]else e)))
  (E:∀e:List α,f ((n:Int),e)=some (.brk id ((n:Int),e))):
  Ar f ((0:Int),[])=some (.brk id ((n:Int),((List.range n).filter q).map g)):=by
 have key:∀i,(((List.range i).filter q).map g).length<=i:=λi=>by
  rw[List.length_map];have:=List.length_filter_le q (List.range i);rwa [List.length_range]at this
 refine K4 (st:=λi:Nat=>((i:Int),((List.range i).filter q).map g)) (n:=n) (λi B=>?_) (E _) (λy=>by simp)
 rw[F i B _ (key i),List.range_succ,List.filter_append,List.map_append]
 congr 3
 cases A:q i<;>simp[A]
def fT(c:Cat)(f:Nat):Int:=c.2.1.getD f 0
def tT(c:Cat)(f:Nat):Int:=c.2.2.1.getD f 0
def ar(c:Cat):Nat:=c.2.1.length
def KT(c:Cat)(x y:Int):List Int:=((List.range (ar c)).filter λf=>decide (fT c f=x)&&decide (tT c f=y)).map fun(f:Nat)=>(f:Int)
def risB(x:List Int):Bool:=(List.range (x.length-1)).all λi=>!decide (x.getD (i+1) 0<=x.getD i 0)
def arrC(c:Cat)(w:List Int):Int:=bif !H5 c then 1 else bif !wi (ar c) w then 2 else 0
def Acr(c:Cat)(w:List Int):Int:=bif decide (arrC c w=0)&& !risB w then 5 else arrC c w
end Go.Ve.D


namespace Go.Ve.D
open Go Go.Ve
def MR(c:Cat)(f:Nat):Bool:=decide (c.2.2.2.1.getD (fT c f).toNat 0=(f:Int))
def VA{n:Nat}{p q:Nat->Bool}(h:∀i,i<n->p i=q i):(List.range n).all p=(List.range n).all q:=by
 rw[Bool.eq_iff_iff,aET,aET];exact⟨λH i e=>by rw[<-h i (List.mem_range.1 e)];exact H i e,λH i e=>by rw[h i (List.mem_range.1 e)];exact H i e⟩
end Go.Ve.D


namespace Go.Ve.D
open Go Go.Ve
def hit(c:Cat)(w:List Int)(f v:Nat)(b a:Int):Bool:=w.contains b&&decide (T c b.toNat f=T c a.toNat v)
def sqS(c:Cat)(w:List Int)(f v:Nat)(s:Nat):Bool:=(KT c (s:Int) (fT c f)).any λb=>(KT c (s:Int) (fT c v)).any λa=>hit c w f v b a
def sq(c:Cat)(w:List Int)(f v:Nat):Bool:=(List.range c.1.toNat).any (sqS c w f v)
end Go.Ve.D


namespace Go.Ve.D
open Go Go.Ve
variable{m:Nat}{q:Nat->Bool}
def J2(c:Cat)(x:Int):List Int:=((List.range (ar c)).filter λf=>decide (fT c f=x)).map fun(f:Nat)=>(f:Int)
theorem p121{c:Cat}(B:c.2.1.length<=1048576)(x:Int):G121 (c,x)=some (J2 c x):=by
 obtain⟨c1,c2,c3,c4,c5⟩:=c;unfold G121;simp only at B⊢;refine Cf (v:=.brk 0 ((c2.length:Int),J2 (c1,(c2,(c3,(c4,c5)))) x)) (Aac (λi A e ha=>?_) λe=>?_) rfl
 .simp only[A3,A,decide_true,cond_true,An A,if_true,and_self,tNC,List.length_cons,List.length_nil]
  rw[AL (by omega) (by omega),if_pos (show e.length+(0+1)<=17592186044416 by omega)]
  show _=some (LO.next (((i+1:Nat):Int),bif decide (c2.getD i 0=x)then e++[(i:Int)]else e))
  cases decide (c2.getD i 0=x)<;>rfl
 .simp only[A3,Nat.lt_irrefl,decide_false,cond_false]
def Aae{i:Nat}(B:i<(((List.range m).filter q).map fun(f:Nat)=>(f:Int)).length):∃f:Nat,f<m/\q f=true/\(((List.range m).filter q).map fun(f:Nat)=>(f:Int)).getD i 0=(f:Int):=by
 have A:=Dp (0:Int) B;obtain⟨f,E,e⟩:=List.mem_map.1 A;obtain⟨J,F⟩:=List.mem_filter.1 E;exact⟨f,List.mem_range.1 J,F,e.symm⟩
def Aad:(((List.range m).filter q).map fun(f:Nat)=>(f:Int)).length<=m:=by
 rw[List.length_map];have:=List.length_filter_le q (List.range m);rwa [List.length_range]at this
end Go.Ve.D

