/- Copies, equalities, sizes: what they compute. -/
import Derived.Test.YteakdlfnmhlifaaUsl
import Derived.Test.YteakdlfnmhlifaaLa
import Derived.Test.YteakdlfnmhlifaaTr
open Go.IntKind(wrap)
open Option(bind_some)
open List(range mem_range)
set_option linter.all false
namespace Go.Ve.D
open Go Go.Ve
variable{a n:Int}{x:List Int}
def okC(c:Int×List Int×List Int×List Int×List (List Int)):Prop:=c.2.1.length<=1048576/\c.2.2.1.length<=1048576/\c.2.2.2.1.length<=1048576/\c.2.2.2.2.length<=1048576/\∀y∈c.2.2.2.2,y.length<=1048576
open Go Go.Ve
open Go Go.Ve
def p106(a l h:Int):G106 (a,(l,h))=some (decide (l<=a)&&decide (a<=h)):=by
 unfold G106;by_cases A:l<=a<;>simp[A]
def p146(a l h:Int):G146 (a,(l,h))=some (decide (l<=a)&&decide (a<=h)):=by
 unfold G146;by_cases A:l<=a<;>simp[A]
def p146'(a n:Int)(A:0<=n/\n<=9223372036854775807):G146 (a,((0:Int),wrap .i64 (n-1)))=some (inn n a):=by
 rw[p146,Ij (by omega) (by omega)]
 unfold inn
 congr 2
 rw[Bool.eq_iff_iff];simp;omega
theorem p107(H:x.length<=1048576):G107 (n,x)=some (wi n x):=by
 unfold G107
 have h:=BM (R:=Bool) (f:=(fun(v0:Int)=>(bif(decide (v0<((x.length:Nat):Int)))then(if(((0:Int)<=v0)/\(v0<((x.length:Nat):Int)))then(Option.bind (bif(decide ((x.getD (v0).toNat (0:Int))<(0:Int)))then(some true)else(if(((0:Int)<=v0)/\(v0<((x.length:Nat):Int)))then(some (decide (n<=(x.getD (v0).toNat (0:Int)))))else none)) (fun(F:Bool)=>(bif F then(Ck (some false))else(some (LO.next (wrap .i64 (v0+(1:Int))))))))else none)else(some (LO.brk 0 v0)))))
  (st:=λi=>(i:Int)) (n:=x.length) (p:=λi=>inn n (x.getD i 0)) (r:=false) (o:=.brk 0 (x.length:Int)) (λi hi=>by
   simp only[AQ,hi,decide_true,cond_true,Ab hi,if_true,tNC,and_self];rw[AP (by omega) (by omega)]
   by_cases A:x.getD i 0<0
   .have:inn n (x.getD i 0)=false:=Aa7 A
    simp only[A,decide_true,cond_true,bind_some,this,cond_false];rfl
   .by_cases B:n<=x.getD i 0
    .have:inn n (x.getD i 0)=false:=Aa6 B
     simp only[A,B,decide_false,decide_true,cond_true,cond_false,bind_some,this];rfl
    .have:inn n (x.getD i 0)=true:=ZY (by omega) (by omega)
     simp only[A,B,decide_false,cond_true,cond_false,bind_some,this];rfl) (by simp) (λy=>by simp)
 rw[Dv 0 (inn n) x]at h;refine Af h ?_;show _=some (wi n x);unfold wi;cases x.all (inn n)<;>rfl
theorem p112(B:0<=n/\n<=9223372036854775807)(F:x.length<=1048576):G112 (x,n)=some (wi n x):=by
 unfold G112
 have h:=BM (R:=Bool) (f:=(fun(v0:Int)=>(bif(decide (v0<((x.length:Nat):Int)))then(if(((0:Int)<=v0)/\(v0<((x.length:Nat):Int)))then(Option.bind (G146 ((x.getD (v0).toNat (0:Int)),((0:Int),(wrap .i64 (n-(1:Int)))))) (fun(A:Bool)=>(bif(!A)then(Ck (some false))else(some (LO.next (wrap .i64 (v0+(1:Int))))))))else none)else(some (LO.brk 0 v0)))))
  (st:=λi=>(i:Int)) (n:=x.length) (p:=λi=>inn n (x.getD i 0)) (r:=false) (o:=.brk 0 (x.length:Int)) (λi hi=>by
   simp only[AQ,hi,decide_true,cond_true,Ab hi,if_true,tNC,and_self,p146' _ _ B,bind_some];rw[AP (by omega) (by omega)]
   cases inn n (x.getD i 0)<;>rfl) (by simp) (λy=>by simp)
 rw[Dv 0 (inn n) x]at h;refine Af h ?_;show _=some (wi n x);unfold wi;cases x.all (inn n)<;>rfl
def p144{m:Int}(A:x.length<=1048576):G144 (x,(m,n))=some (decide ((x.length:Int)=m)&&wi n x):=by
 unfold G144;simp only[p107 A,bind_some];by_cases h:(x.length:Int)=m<;>simp[h]
open Go Go.Ve
abbrev Cat:=Int×List Int×List Int×List Int×List (List Int)
variable{c:Cat}
def BU(c:Cat)(f g:Nat):Bool:=
 bif !decide (c.2.2.1.getD f 0=c.2.1.getD g 0)then decide ((c.2.2.2.2.getD f []).getD g 0= -1)
 else inn c.2.1.length ((c.2.2.2.2.getD f []).getD g 0)&&(decide (c.2.1.getD ((c.2.2.2.2.getD f []).getD g 0).toNat 0=c.2.1.getD f 0)&&decide (c.2.2.1.getD ((c.2.2.2.2.getD f []).getD g 0).toNat 0=c.2.2.1.getD g 0))
def Dx(c:Cat)(f:Nat):Bool:=decide ((c.2.2.2.2.getD f []).length=c.2.1.length)&&(range c.2.1.length).all (BU c f)
def X7(c:Cat)(i:Nat):Bool:=decide (c.2.1.getD (c.2.2.2.1.getD i 0).toNat 0=i)&&decide (c.2.2.1.getD (c.2.2.2.1.getD i 0).toNat 0=i)
def I5(c:Cat):Prop:=(0<=c.1/\c.1<=8)/\c.2.1.length<=40/\c.2.2.1.length=c.2.1.length/\wi c.1 c.2.1=true/\wi c.1 c.2.2.1=true/\c.2.2.2.2.length=c.2.1.length/\(c.2.2.2.1.length:Int)=c.1/\wi c.2.1.length c.2.2.2.1=true
instance(c:Cat):Decidable (I5 c):=by unfold I5;infer_instance
def HA(c:Cat):Bool:=decide (I5 c)&&((range c.2.2.2.1.length).all (X7 c)&&(range c.2.1.length).all (Dx c))
theorem p88i(h:I5 c)(F:Int->Option (LO Int Bool))(hF:F=(fun(A:Int)=>(bif(decide (A<c.1))then(if(((0:Int)<=A)/\(A<((c.2.2.2.1.length:Nat):Int)))then(if(((0:Int)<=(c.2.2.2.1.getD (A).toNat (0:Int)))/\((c.2.2.2.1.getD (A).toNat (0:Int))<((c.2.1.length:Nat):Int)))then(Option.bind (bif(!decide ((c.2.1.getD ((c.2.2.2.1.getD (A).toNat (0:Int))).toNat (0:Int))=A))then(some true)else(if(((0:Int)<=A)/\(A<((c.2.2.2.1.length:Nat):Int)))then(if(((0:Int)<=(c.2.2.2.1.getD (A).toNat (0:Int)))/\((c.2.2.2.1.getD (A).toNat (0:Int))<((c.2.2.1.length:Nat):Int)))then(some (!decide ((c.2.2.1.getD ((c.2.2.2.1.getD (A).toNat (0:Int))).toNat (0:Int))=A)))else none)else none)) (fun(Z:Bool)=>(bif Z then(Ck (some false))else(some (LO.next (wrap .i64 (A+(1:Int))))))))else none)else none)else(some (LO.brk 0 A))))):
  Aq F 0=some (bif(range c.2.2.2.1.length).all (X7 c)then .brk 0 c.1 else .ret false):=by
 obtain⟨a1,a2,a3,a4,a5,a6,a7,a8⟩:=h;subst hF;refine BM (st:=λi=>(i:Int)) (λi hi=>?_) (by simp[a7]) (λy=>by simp)
 have B:((i:Int)<c.1):=by omega
 have W:=JA a8 hi;have H:0<=c.2.2.2.1.getD i 0/\c.2.2.2.1.getD i 0<(c.2.2.1.length:Int):=by rw[a3];exact W
 simp only[B,decide_true,cond_true,Ab hi,if_true,tNC,and_self,W,H];rw[AP (by omega) (by omega)]
 unfold X7;by_cases U:c.2.1.getD (c.2.2.2.1.getD i 0).toNat 0=(i:Int)
 .by_cases Y:c.2.2.1.getD (c.2.2.2.1.getD i 0).toNat 0=(i:Int)
  .simp only[U,Y,decide_true,Bool.not_true,cond_false,cond_true,bind_some,Bool.and_self];rfl
  .simp only[U,Y,decide_true,decide_false,Bool.not_true,Bool.not_false,cond_false,cond_true,bind_some,Bool.and_false];rfl
 .simp only[U,decide_false,Bool.not_false,cond_false,cond_true,bind_some,Bool.false_and];rfl
open Go Go.Ve
def Bv(h:¬I5 c):HA c=false:=by simp[HA,h]
theorem p88(h:okC c):G88 c=some (HA c):=by
 obtain⟨h1,h2,h3,h4,h5⟩:=h;unfold G88;simp only[p106,p144 h1,p144 h2,p107 h3,bind_some,decide_true,Bool.true_and];by_cases c1:0<=c.1/\c.1<=8
 case neg=>
  have e:(decide (0<=c.1)&&decide (c.1<=8))=false:=by simp;omega
  simp only[e,Bool.not_false,cond_true,bind_some,Bv λh=>c1 h.1]
 have W:(decide (0<=c.1)&&decide (c.1<=8))=true:=by simp[c1]
 simp only[W,Bool.not_true,cond_false,bind_some];by_cases c2:(40:Int)<(c.2.1.length:Int)
 case pos=>simp only[c2,decide_true,cond_true,bind_some,Bv (c:=c) λh=>absurd h.2.1 (by omega)]
 simp only[c2,decide_false,cond_false];cases c3:wi c.1 c.2.1 with
 |false=>simp only[Bool.not_false,cond_true,bind_some,Bv λh=>by have:=h.2.2.2.1;rw[c3]at this;cases this]
 |true=>
 simp only[Bool.not_true,cond_false,bind_some];by_cases c4:(c.2.2.1.length:Int)=(c.2.1.length:Int)
 case neg=>simp only[c4,decide_false,Bool.false_and,Bool.not_false,cond_true,bind_some,Bv λh=>c4 (by rw[h.2.2.1])]
 simp only[dT c4,Bool.true_and];cases c5:wi c.1 c.2.2.1 with
 |false=>simp only[Bool.not_false,cond_true,bind_some,Bv λh=>by have:=h.2.2.2.2.1;rw[c5]at this;cases this]
 |true=>
 simp only[Bool.not_true,cond_false,bind_some];by_cases c6:(c.2.2.2.2.length:Int)=(c.2.1.length:Int)
 case neg=>simp only[c6,decide_false,Bool.not_false,cond_true,bind_some,Bv λh=>c6 (by rw[h.2.2.2.2.2.1])]
 simp only[dT c6,Bool.not_true,cond_false];by_cases c7:(c.2.2.2.1.length:Int)=c.1
 case neg=>simp only[c7,decide_false,Bool.not_false,cond_true,bind_some,Bv λh=>c7 h.2.2.2.2.2.2.1]
 simp only[dT c7,Bool.not_true,cond_false];cases c8:wi c.2.1.length c.2.2.2.1 with
 |false=>simp only[Bool.not_false,cond_true,bind_some,Bv λh=>by have:=h.2.2.2.2.2.2.2;rw[c8]at this;cases this]
 |true=>
 simp only[Bool.not_true,cond_false,bind_some];have Y:I5 c:=⟨c1,by omega,by omega,c3,c5,by omega,c7,c8⟩
 have hs:HA c=((range c.2.2.2.1.length).all (X7 c)&&(range c.2.1.length).all (Dx c)):=by simp[HA,Y]
 rw[hs];have g:=p88i Y _ rfl;refine Af g ?_;cases hi:(range c.2.2.2.1.length).all (X7 c)with
 |false=>rfl
 |true=>
 simp only[cond_true,Bool.true_and];obtain⟨a1,a2,a3,a4,a5,a6,a7,a8⟩:=Y;show(if 0=0 then _ else _)=_
 rw[if_pos rfl];refine Af (v:=bif(range c.2.1.length).all (Dx c)then .brk 2 (c.2.1.length:Int)else .ret false) (BM (st:=λi=>(i:Int)) (λf U=>?_) (by simp) (λy=>by simp)) (by cases (range c.2.1.length).all (Dx c)<;>rfl)
 have A:f<c.2.2.2.2.length:=by omega
 simp only[AQ,U,A,decide_true,cond_true,Ab U,Ab A,if_true,tNC,and_self];by_cases d1:((c.2.2.2.2.getD f []).length:Int)=(c.2.1.length:Int)
 case neg=>
  have:Dx c f=false:=by unfold Dx;simp only[show ¬ (c.2.2.2.2.getD f []).length=c.2.1.length by omega,decide_false,Bool.false_and]
  simp only[d1,decide_false,Bool.not_false,cond_true,this,cond_false];rfl
 have d2:(c.2.2.2.2.getD f []).length=c.2.1.length:=by omega
 have hr:Dx c f=(range c.2.1.length).all (BU c f):=by unfold Dx;simp only[d2,decide_true,Bool.true_and]
 simp only[dT d1,Bool.not_true,cond_false];rw[hr]
 refine Af (v:=bif(range c.2.1.length).all (BU c f)then .brk 4 (c.2.1.length:Int)else .ret (.ret false)) (BM (st:=λi=>(i:Int)) (λg hg=>?_) (by simp) (λy=>by simp)) (by
  cases (range c.2.1.length).all (BU c f)with
  |false=>rfl
  |true=>
   show(if 4=4 then some (LO.next (wrap .i64 ((f:Int)+1)))else none)=_
   rw[if_pos rfl,AP (by omega) (by omega)];rfl)
 have H:f<c.2.2.1.length:=by omega
 have F:g<c.2.2.1.length:=by omega
 have Z:(g:Int)<((c.2.2.2.2.getD f []).length:Int):=by omega
 simp only[AQ,U,hg,H,F,Z,decide_true,cond_true,Ab U,Ab hg,Ab A,Ab H,Ab F,if_true,tNC,and_self];rw[AP (show(0:Int)<=(g:Int)+1 by omega) (by omega)]
 unfold BU;obtain⟨k,hk⟩:∃k,k=(c.2.2.2.2.getD f []).getD g 0:=⟨_,rfl⟩;simp only[<-hk];clear hk;by_cases W:c.2.2.1.getD f 0=c.2.1.getD g 0
 case neg=>
  simp only[W,decide_false,Bool.not_false,cond_true];by_cases B:k= -1
  .simp only[B,decide_true,Bool.not_true,cond_false,cond_true];rfl
  .simp only[B,decide_false,Bool.not_false,cond_false,cond_true];rfl
 simp only[W,decide_true,Bool.not_true,cond_false];by_cases B:k<0
 case pos=>simp only[B,decide_true,cond_true,bind_some,Aa7 B,Bool.false_and,cond_false];rfl
 simp only[B,decide_false,cond_false,bind_some];by_cases e3:(c.2.1.length:Int)<=k
 case pos=>simp only[e3,decide_true,cond_true,bind_some,Aa6 e3,Bool.false_and,cond_false];rfl
 have e4:inn c.2.1.length k=true:=ZY (by omega) (by omega)
 have e5:0<=k/\k<(c.2.1.length:Int):=by omega
 have e6:0<=k/\k<(c.2.2.1.length:Int):=by omega
 simp only[e3,decide_false,cond_false,bind_some,e4,e5,e6,and_self,if_true,Bool.true_and];by_cases e7:c.2.1.getD k.toNat 0=c.2.1.getD f 0
 case neg=>simp only[e7,decide_false,Bool.not_false,cond_true,cond_false,bind_some,Bool.false_and];rfl
 simp only[e7,decide_true,Bool.not_true,cond_false,Bool.true_and];by_cases e8:c.2.2.1.getD k.toNat 0=c.2.2.1.getD g 0
 .simp only[e8,decide_true,Bool.not_true,cond_false,cond_true,bind_some];rfl
 .simp only[e8,decide_false,Bool.not_false,cond_false,cond_true,bind_some];rfl
open Go Go.Ve
def p99(c:Cat):G99 c=some (c.2.1.length:Int):=rfl
def p147(B:0<=a/\a<(c.2.1.length:Int))(A:0<=a/\a<(c.2.2.1.length:Int)):G147 (c,a)=some (c.2.1.getD a.toNat 0,c.2.2.1.getD a.toNat 0):=by
 unfold G147;simp only[B,A,and_self,if_true]
theorem p97(h:okC c):G97 c=some (HA c):=by
 obtain⟨h1,h2,h3,h4,h5⟩:=h;unfold G97;simp only[p99,p146 c.1 0 8,bind_some];by_cases c1:0<=c.1/\c.1<=8
 case neg=>
  have e:(decide (0<=c.1)&&decide (c.1<=8))=false:=by simp;omega
  simp only[e,Bool.not_false,cond_true,bind_some,Bv λh=>c1 h.1]
 have Z:(decide (0<=c.1)&&decide (c.1<=8))=true:=by simp[c1]
 have B:0<=c.1/\c.1<=9223372036854775807:=by omega
 have hm:(0:Int)<=(c.2.1.length:Int)/\(c.2.1.length:Int)<=9223372036854775807:=by omega
 simp only[Z,Bool.not_true,cond_false,bind_some,p112 B h1,p112 B h2,p112 hm h3];by_cases c2:(40:Int)<(c.2.1.length:Int)
 case pos=>simp only[c2,decide_true,cond_true,bind_some,Bv (c:=c) λh=>absurd h.2.1 (by omega)]
 simp only[c2,decide_false,cond_false,bind_some];by_cases c4:(c.2.2.1.length:Int)=(c.2.1.length:Int)
 case neg=>simp only[c4,decide_false,Bool.not_false,cond_true,bind_some,Bv λh=>c4 (by rw[h.2.2.1])]
 simp only[dT c4,Bool.not_true,cond_false,bind_some];cases c3:wi c.1 c.2.1 with
 |false=>simp only[Bool.not_false,cond_true,bind_some,Bv λh=>by have:=h.2.2.2.1;rw[c3]at this;cases this]
 |true=>
 simp only[Bool.not_true,cond_false,bind_some];cases c5:wi c.1 c.2.2.1 with
 |false=>simp only[Bool.not_false,cond_true,bind_some,Bv λh=>by have:=h.2.2.2.2.1;rw[c5]at this;cases this]
 |true=>
 simp only[Bool.not_true,cond_false,bind_some];by_cases c7:(c.2.2.2.1.length:Int)=c.1
 case neg=>simp only[c7,decide_false,Bool.not_false,cond_true,bind_some,Bv λh=>c7 h.2.2.2.2.2.2.1]
 simp only[dT c7,Bool.not_true,cond_false];cases c8:wi c.2.1.length c.2.2.2.1 with
 |false=>simp only[Bool.not_false,cond_true,bind_some,Bv λh=>by have:=h.2.2.2.2.2.2.2;rw[c8]at this;cases this]
 |true=>
 simp only[Bool.not_true,cond_false,bind_some];by_cases c6:(c.2.2.2.2.length:Int)=(c.2.1.length:Int)
 case neg=>simp only[c6,decide_false,Bool.not_false,cond_true,bind_some,Bv λh=>c6 (by rw[h.2.2.2.2.2.1])]
 simp only[dT c6,Bool.not_true,cond_false,bind_some];have hh:I5 c:=⟨c1,by omega,by omega,c3,c5,by omega,c7,c8⟩
 have hs:HA c=((range c.2.2.2.1.length).all (X7 c)&&(range c.2.1.length).all (Dx c)):=by simp[HA,hh]
 rw[hs];obtain⟨a1,a2,a3,a4,a5,a6,a7,a8⟩:=hh;refine Af (v:=bif(range c.2.2.2.1.length).all (X7 c)then .brk 0 (c.2.2.2.1.length:Int)else .ret false) (BM (st:=λi=>(i:Int)) (λi hi=>?_) (by simp) (λy=>by simp)) ?_
 .have U:=JA a8 hi
  have hg':0<=c.2.2.2.1.getD i 0/\c.2.2.2.1.getD i 0<(c.2.2.1.length:Int):=by rw[a3];exact U
  simp only[AQ,hi,decide_true,cond_true,Ab hi,if_true,tNC,and_self,p147 U hg',bind_some,Bool.and_true];rw[AP (by omega) (by omega)]
  show(bif !X7 c i then _ else _)=_;cases X7 c i<;>rfl
 cases hi:(range c.2.2.2.1.length).all (X7 c)with
 |false=>rfl
 |true=>
 simp only[cond_true,Bool.true_and];show(if 0=0 then _ else _)=_
 rw[if_pos rfl];refine Af (v:=bif(range c.2.1.length).all (Dx c)then .brk 2 (c.2.1.length:Int)else .ret false) (BM (st:=λi=>(i:Int)) (λf hf=>?_) (by simp[a6]) (λy=>by simp)) (by cases (range c.2.1.length).all (Dx c)<;>rfl)
 have A:f<c.2.2.2.2.length:=by omega
 simp only[AQ,A,decide_true,cond_true,Ab A,if_true,tNC,and_self];by_cases d1:((c.2.2.2.2.getD f []).length:Int)=(c.2.1.length:Int)
 case neg=>
  have:Dx c f=false:=by unfold Dx;simp only[show ¬ (c.2.2.2.2.getD f []).length=c.2.1.length by omega,decide_false,Bool.false_and]
  simp only[d1,decide_false,Bool.not_false,cond_true,this,cond_false];rfl
 have d2:(c.2.2.2.2.getD f []).length=c.2.1.length:=by omega
 have hr:Dx c f=(range c.2.1.length).all (BU c f):=by unfold Dx;simp only[d2,decide_true,Bool.true_and]
 simp only[dT d1,Bool.not_true,cond_false];rw[hr]
 refine Af (v:=bif(range c.2.1.length).all (BU c f)then .brk 4 (c.2.1.length:Int)else .ret (.ret false)) (BM (st:=λi=>(i:Int)) (λg U=>?_) (by simp only[dF (show ¬ ((c.2.1.length:Int)<((c.2.2.2.2.getD f []).length:Int)) by omega),cond_false]) (λy=>by simp)) (by
  cases (range c.2.1.length).all (BU c f)with
  |false=>rfl
  |true=>
   show(if 4=4 then some (LO.next (wrap .i64 ((f:Int)+1)))else none)=_
   rw[if_pos rfl,AP (by omega) (by omega)];rfl)
 have W:f<c.2.2.1.length:=by omega
 have H:g<c.2.2.1.length:=by omega
 have F:g<(c.2.2.2.2.getD f []).length:=by omega
 simp only[AQ,hf,U,W,H,F,decide_true,cond_true,Ab hf,Ab U,Ab A,Ab W,Ab H,Ab F,if_true,tNC,and_self,p146' _ _ hm,bind_some];rw[AP (show(0:Int)<=(g:Int)+1 by omega) (by omega)]
 unfold BU;obtain⟨k,hk⟩:∃k,k=(c.2.2.2.2.getD f []).getD g 0:=⟨_,rfl⟩;simp only[<-hk];clear hk;by_cases Z:c.2.2.1.getD f 0=c.2.1.getD g 0
 case neg=>
  simp only[Z,decide_false,Bool.not_false,cond_true];by_cases Y:k= -1
  .simp only[Y,decide_true,Bool.not_true,cond_false,cond_true];rfl
  .simp only[Y,decide_false,Bool.not_false,cond_false,cond_true];rfl
 simp only[Z,decide_true,Bool.not_true,cond_false];cases Y:inn c.2.1.length k with
 |false=>simp only[Bool.not_false,cond_true,bind_some,Bool.false_and,cond_false];rfl
 |true=>
 have e5:=Kg.1 Y;have e6:0<=k/\k<(c.2.2.1.length:Int):=by omega
 simp only[Bool.not_true,cond_false,p147 e5 e6,bind_some,Bool.true_and,Bool.and_true];cases (decide (c.2.1.getD k.toNat 0=c.2.1.getD f 0)&&decide (c.2.2.1.getD k.toNat 0=c.2.2.1.getD g 0))<;>rfl
open Go Go.Ve
def T(c:Cat)(f g:Nat):Int:=(c.2.2.2.2.getD f []).getD g 0
def idn(c:Cat)(x:Int):Nat:=(c.2.2.2.1.getD x.toNat 0).toNat
def Hu(c:Cat)(f:Nat):Bool:=decide (T c (idn c (c.2.1.getD f 0)) f=(f:Int))&&decide (T c f (idn c (c.2.2.1.getD f 0))=(f:Int))
def mt(c:Cat)(f g:Nat):Bool:=decide (c.2.2.1.getD f 0=c.2.1.getD g 0)
def Du(c:Cat)(f g h:Nat):Bool:=bif mt c g h then decide (T c (T c f g).toNat h=T c f (T c g h).toNat)else true
def HU(c:Cat):Bool:=(range c.2.1.length).all (Hu c)&&(range c.2.1.length).all λf=>(range c.2.1.length).all λg=>bif mt c f g then(range c.2.1.length).all λh=>Du c f g h else true
structure Sh(c:Cat):Prop where
 hd:I5 c
 id:∀x:Int,0<=x->x<c.1->(0<=c.2.2.2.1.getD x.toNat 0/\c.2.2.2.1.getD x.toNat 0<(c.2.1.length:Int))
 fr:∀f,f<c.2.1.length->0<=c.2.1.getD f 0/\c.2.1.getD f 0<c.1
 to:∀f,f<c.2.1.length->0<=c.2.2.1.getD f 0/\c.2.2.1.getD f 0<c.1
 row:∀f,f<c.2.1.length->(c.2.2.2.2.getD f []).length=c.2.1.length
 neg:∀f g,f<c.2.1.length->g<c.2.1.length->mt c f g=false->T c f g= -1
 pos:∀f g,f<c.2.1.length->g<c.2.1.length->mt c f g=true->0<=T c f g/\T c f g<(c.2.1.length:Int)/\c.2.1.getD (T c f g).toNat 0=c.2.1.getD f 0/\c.2.2.1.getD (T c f g).toNat 0=c.2.2.1.getD g 0
theorem AbX(h:HA c=true):Sh c:=by
 unfold HA at h;simp only[bAE,decide_eq_true_eq]at h;obtain⟨U,hi,W⟩:=h;have F:∀f,f<c.2.1.length->Dx c f=true:=λf A=>aET.1 W f (mem_range.2 A)
 have B:∀f g,f<c.2.1.length->g<c.2.1.length->BU c f g=true:=λf g A H=>by
  have:=F f A;unfold Dx at this;rw[bAE]at this;exact aET.1 this.2 g (mem_range.2 H)
 have Y:=U;obtain⟨a1,a2,a3,a4,a5,a6,a7,a8⟩:=U;refine⟨Y,λx h1 Z=>JA a8 (by omega),λf A=>JA a4 A,λf A=>JA a5 (by omega),λf A=>?_,λf g A H hm=>?_,λf g A H hm=>?_⟩
 .have:=F f A
  unfold Dx at this;rw[bAE]at this;exact of_decide_eq_true this.1
 .have:=B f g A H
  unfold BU at this;unfold mt at hm;rw[hm]at this;exact of_decide_eq_true this
 .have:=B f g A H
  unfold BU at this;unfold mt at hm;rw[hm]at this;simp only[Bool.not_true,cond_false,bAE,decide_eq_true_eq]at this;exact⟨(Kg.1 this.1).1,(Kg.1 this.1).2,this.2.1,this.2.2⟩
def Cw{X R S:Type}{f:X->Option (LO X R)}{st:Nat->X}{n:Nat}{p:Nat->Bool}{Q:R->Prop}{o:LO X R}{k:LO X R->Option S}{Post:Option S->Prop}
  (Y:∀i,i<n->(p i=true->f (st i)=some (.next (st (i+1))))/\(p i=false->∃r,f (st i)=some (.ret r)/\Q r)) (W:f (st n)=some o) (F:∀y,o≠.next y)
  (U:(range n).all p=true->Post (k o)) (H:(range n).all p=false->∀r,Q r->Post (k (.ret r))):Post (Option.bind (Aq f (st 0)) k):=by
 obtain⟨g1,g2⟩:=Wz Y W F;cases h:(range n).all p with
 |true=>rw[g1 h];exact U h
 |false=>obtain⟨r,A,B⟩:=g2 h;rw[A];exact H h r B
def inN{n:Nat}(h:0<=a/\a<(n:Int)):a.toNat<n:=by omega
def Uc(h:Sh c){f g:Int}(A:0<=f/\f<(c.2.1.length:Int))(B:0<=g/\g<(c.2.1.length:Int)):G143 (c,(f,g))=some (T c f.toNat g.toNat):=by
 unfold G143;have W:c.2.2.2.2.length=c.2.1.length:=h.hd.2.2.2.2.2.1;have U:=h.row f.toNat (inN A);have H:0<=f/\f<(c.2.2.2.2.length:Int):=by rw[W];exact A
 have F:0<=g/\g<((c.2.2.2.2.getD f.toNat []).length:Int):=by rw[U];exact B
 simp only[H,F,and_self,if_true];rfl
theorem p98(h:Sh c):∃r,G98 c=some r/\(decide (r.1=0)=HU c):=by
 have hh:=h.hd;obtain⟨a1,a2,a3,a4,a5,a6,a7,a8⟩:=hh;unfold G98;simp only[p99,bind_some];refine Cw (Post:=fun(z:Option (Int×Int×Int×Int))=>∃r,z=some r/\(decide (r.1=0)=HU c)) (st:=λi=>(i:Int)) (n:=c.2.1.length) (p:=Hu c) (Q:=fun(r:Int×Int×Int×Int)=>r.1≠0) (o:=.brk 0 (c.2.1.length:Int)) (λf A=>?_) (by simp) (λy=>by simp) (λhu=>?_) (λhu r U=>?_)
 .have hf1:=h.fr f A
  have W:=h.to f A;have hi1:=h.id _ hf1.1 hf1.2;have hi2:=h.id _ W.1 W.2;have hfi:0<=c.2.1.getD f 0/\c.2.1.getD f 0<(c.2.2.2.1.length:Int):=by omega
  have hti:0<=c.2.2.1.getD f 0/\c.2.2.1.getD f 0<(c.2.2.2.1.length:Int):=by omega
  have hf3:f<c.2.2.1.length:=by omega
  simp only[AQ,A,hf3,decide_true,cond_true,Ab A,Ab hf3,if_true,tNC,and_self,hfi,hti,Uc h hi1 (Ab A),Uc h (Ab A) hi2,bind_some];rw[AP (by omega) (by omega)]
  show(Hu c f=true->_)/\_;unfold Hu idn;by_cases b1:T c (c.2.2.2.1.getD (c.2.1.getD f 0).toNat 0).toNat f=(f:Int)
  .by_cases b2:T c f (c.2.2.2.1.getD (c.2.2.1.getD f 0).toNat 0).toNat=(f:Int)
   .simp only[b1,b2,decide_true,Bool.not_true,cond_false,bind_some,Bool.and_self]
    exact⟨λ_=>rfl,(λh=>by cases h)⟩
   .simp only[b1,b2,decide_true,decide_false,Bool.not_true,Bool.not_false,cond_false,cond_true,bind_some,Bool.and_false]
    exact⟨(λh=>by cases h),λ_=>⟨_,rfl,by simp⟩⟩
  .simp only[b1,decide_false,Bool.not_false,cond_true,bind_some,Bool.false_and]
   exact⟨(λh=>by cases h),λ_=>⟨_,rfl,by simp⟩⟩
 .show ∃r,(if 0=0 then _ else none)=some r/\_
  rw[if_pos rfl];refine Cw (Post:=fun(z:Option (Int×Int×Int×Int))=>∃r,z=some r/\(decide (r.1=0)=HU c)) (st:=λi=>(i:Int)) (n:=c.2.1.length) (p:=λf=>(range c.2.1.length).all λg=>bif mt c f g then(range c.2.1.length).all λh=>Du c f g h else true) (Q:=fun(r:Int×Int×Int×Int)=>r.1≠0) (o:=.brk 2 (c.2.1.length:Int)) (λf A=>?_) (by simp) (λy=>by simp) (λhv=>?_) (λhv r U=>?_)
  .simp only[AQ,A,decide_true,cond_true]
   refine Cw (Post:=fun(z:Option (LO Int (Int×Int×Int×Int)))=>(((range c.2.1.length).all λg=>bif mt c f g then(range c.2.1.length).all λh=>Du c f g h else true)=true->z=some (.next ((f+1:Nat):Int)))/\(((range c.2.1.length).all λg=>bif mt c f g then(range c.2.1.length).all λh=>Du c f g h else true)=false->∃r,z=some (.ret r)/\r.1≠0))
    (st:=λi=>(i:Int)) (n:=c.2.1.length) (p:=λg=>bif mt c f g then(range c.2.1.length).all λh=>Du c f g h else true) (Q:=fun(r:LO Int (Int×Int×Int×Int))=>∃r',r=.ret r'/\r'.1≠0) (o:=.brk 4 (c.2.1.length:Int)) (λg B=>?_) (by simp) (λy=>by simp) (λF=>?_) (λF r U=>?_)
   .simp only[AQ,B,decide_true,cond_true,Uc h (Ab A) (Ab B),tNC,bind_some]
    rw[AP (show(0:Int)<=(g:Int)+1 by omega) (by omega)]
    cases hm:mt c f g with
    |false=>
     have:=h.neg f g A B hm;simp only[this,show((-1:Int)<0) by decide,decide_true,cond_true,cond_false]
     exact⟨λ_=>rfl,(λh=>by cases h)⟩
    |true=>
     obtain⟨q1,q2,q3,q4⟩:=h.pos f g A B hm;simp only[show ¬ (T c f g<0) by omega,decide_false,cond_false,cond_true]
     refine Cw (Post:=fun(z:Option (LO Int (LO Int (Int×Int×Int×Int))))=>(((range c.2.1.length).all λh=>Du c f g h)=true->z=some (.next ((g+1:Nat):Int)))/\(((range c.2.1.length).all λh=>Du c f g h)=false->∃r,z=some (.ret r)/\∃r',r=.ret r'/\r'.1≠0))
      (st:=λi=>(i:Int)) (n:=c.2.1.length) (p:=λh=>Du c f g h) (Q:=fun(r:LO Int (LO Int (Int×Int×Int×Int)))=>∃r',r=.ret (.ret r')/\r'.1≠0) (o:=.brk 6 (c.2.1.length:Int)) (λk Z=>?_) (by simp) (λy=>by simp) (λF=>?_) (λF r U=>?_)
     .simp only[AQ,Z,decide_true,cond_true,Uc h (Ab B) (Ab Z),tNC,bind_some]
      rw[AP (show(0:Int)<=(k:Int)+1 by omega) (by omega)]
      unfold Du;cases Y:mt c g k with
      |false=>
       have:=h.neg g k B Z Y;simp only[this,show ¬ ((0:Int)<=-1) by decide,decide_false,cond_false,bind_some]
       exact⟨λ_=>rfl,(λh=>by cases h)⟩
      |true=>
       obtain⟨w1,w2,w3,w4⟩:=h.pos g k B Z Y;simp only[w1,decide_true,cond_true,Uc h (Ab A) (Ab B),Uc h ⟨q1,q2⟩ (Ab Z),Uc h (Ab A) ⟨w1,w2⟩,tNC,bind_some];by_cases b:T c (T c f g).toNat k=T c f (T c g k).toNat
       .simp only[b,decide_true,Bool.not_true,cond_false]
        exact⟨λ_=>rfl,(λh=>by cases h)⟩
       .simp only[b,decide_false,Bool.not_false,cond_true]
        exact⟨(λh=>by cases h),λ_=>⟨_,rfl,_,rfl,by simp⟩⟩
     .refine⟨λ_=>?_,(λh=>by rw[F]at h;cases h)⟩
      show(if 6=6 then some (LO.next ((g:Int)+1))else none)=_
      rw[if_pos rfl];rfl
     .obtain⟨r',rfl,H⟩:=U
      exact⟨(λh=>by rw[F]at h;cases h),λ_=>⟨_,rfl,r',rfl,H⟩⟩
   .refine⟨λ_=>?_,(λh=>by rw[F]at h;cases h)⟩
    show(if 4=4 then some (LO.next (wrap .i64 ((f:Int)+1)))else none)=_
    rw[if_pos rfl,AP (by omega) (by omega)];rfl
   .obtain⟨r',rfl,H⟩:=U
    exact⟨(λh=>by rw[F]at h;cases h),λ_=>⟨r',rfl,H⟩⟩
  .exact⟨_,rfl,by unfold HU;rw[hu,hv];rfl⟩
  .exact⟨r,rfl,by unfold HU;rw[hu,hv];simpa using U⟩
 .exact⟨r,rfl,by unfold HU;rw[hu];simpa using U⟩
open Go Go.Ve
theorem p89(h:Sh c):∃r,G89 c=some r/\(decide (r.1=0)=HU c):=by
 have hh:=h.hd;obtain⟨a1,a2,a3,a4,a5,a6,a7,a8⟩:=hh;unfold G89;refine Cw (Post:=fun(z:Option (Int×Int×Int×Int))=>∃r,z=some r/\(decide (r.1=0)=HU c)) (st:=λi=>(i:Int)) (n:=c.2.1.length) (p:=Hu c) (Q:=fun(r:Int×Int×Int×Int)=>r.1≠0) (o:=.brk 0 (c.2.1.length:Int)) (λf F=>?_) (by simp) (λy=>by simp) (λhu=>?_) (λhu r Y=>?_)
 .have hf1:=h.fr f F
  have Z:=h.to f F;have hi1:=h.id _ hf1.1 hf1.2;have hi2:=h.id _ Z.1 Z.2;have hfi:0<=c.2.1.getD f 0/\c.2.1.getD f 0<(c.2.2.2.1.length:Int):=by omega
  have hti:0<=c.2.2.1.getD f 0/\c.2.2.1.getD f 0<(c.2.2.2.1.length:Int):=by omega
  have B:f<c.2.2.1.length:=by omega
  have A:f<c.2.2.2.2.length:=by omega
  have hi1':0<=c.2.2.2.1.getD (c.2.1.getD f 0).toNat 0/\c.2.2.2.1.getD (c.2.1.getD f 0).toNat 0<(c.2.2.2.2.length:Int):=by rw[a6];exact hi1
  have hr1:=h.row _ (inN hi1);have H:f<(c.2.2.2.2.getD (c.2.2.2.1.getD (c.2.1.getD f 0).toNat 0).toNat []).length:=by rw[hr1];exact F
  have hi2':0<=c.2.2.2.1.getD (c.2.2.1.getD f 0).toNat 0/\c.2.2.2.1.getD (c.2.2.1.getD f 0).toNat 0<((c.2.2.2.2.getD f []).length:Int):=by rw[h.row f F];exact hi2
  simp only[AQ,F,B,A,decide_true,cond_true,Ab F,Ab B,Ab A,if_true,tNC,and_self,hfi,hti,hi1',hi2',Ab H,H,bind_some];rw[AP (by omega) (by omega)]
  show(Hu c f=true->_)/\_;unfold Hu idn T;by_cases b1:(c.2.2.2.2.getD (c.2.2.2.1.getD (c.2.1.getD f 0).toNat 0).toNat []).getD f 0=(f:Int)
  .by_cases b2:(c.2.2.2.2.getD f []).getD (c.2.2.2.1.getD (c.2.2.1.getD f 0).toNat 0).toNat 0=(f:Int)
   .simp only[b1,b2,decide_true,Bool.not_true,cond_false,bind_some,Bool.and_self]
    exact⟨λ_=>rfl,(λh=>by cases h)⟩
   .simp only[b1,b2,decide_true,decide_false,Bool.not_true,Bool.not_false,cond_false,cond_true,bind_some,Bool.and_false]
    exact⟨(λh=>by cases h),λ_=>⟨_,rfl,by simp⟩⟩
  .simp only[b1,decide_false,Bool.not_false,cond_true,bind_some,Bool.false_and]
   exact⟨(λh=>by cases h),λ_=>⟨_,rfl,by simp⟩⟩
 .show ∃r,(if 0=0 then _ else none)=some r/\_
  rw[if_pos rfl];refine Cw (Post:=fun(z:Option (Int×Int×Int×Int))=>∃r,z=some r/\(decide (r.1=0)=HU c)) (st:=λi=>(i:Int)) (n:=c.2.1.length) (p:=λf=>(range c.2.1.length).all λg=>bif mt c f g then(range c.2.1.length).all λh=>Du c f g h else true) (Q:=fun(r:Int×Int×Int×Int)=>r.1≠0) (o:=.brk 2 (c.2.1.length:Int)) (λf F=>?_) (by simp) (λy=>by simp) (λhv=>?_) (λhv r Y=>?_)
  .simp only[AQ,F,decide_true,cond_true]
   refine Cw (Post:=fun(z:Option (LO Int (Int×Int×Int×Int)))=>(((range c.2.1.length).all λg=>bif mt c f g then(range c.2.1.length).all λh=>Du c f g h else true)=true->z=some (.next ((f+1:Nat):Int)))/\(((range c.2.1.length).all λg=>bif mt c f g then(range c.2.1.length).all λh=>Du c f g h else true)=false->∃r,z=some (.ret r)/\r.1≠0))
    (st:=λi=>(i:Int)) (n:=c.2.1.length) (p:=λg=>bif mt c f g then(range c.2.1.length).all λh=>Du c f g h else true) (Q:=fun(r:LO Int (Int×Int×Int×Int))=>∃r',r=.ret r'/\r'.1≠0) (o:=.brk 4 (c.2.1.length:Int)) (λg hg=>?_) (by simp) (λy=>by simp) (λU=>?_) (λU r Y=>?_)
   .have B:f<c.2.2.1.length:=by omega
    have hg3:g<c.2.2.1.length:=by omega
    have A:f<c.2.2.2.2.length:=by omega
    have hg6:g<c.2.2.2.2.length:=by omega
    simp only[AQ,hg,B,decide_true,cond_true,Ab hg,Ab B,and_self,if_true,tNC];rw[AP (show(0:Int)<=(g:Int)+1 by omega) (by omega)]
    show(((bif mt c f g then _ else true)=true)->(bif !mt c f g then _ else _)=_)/\(_->∃r,(bif !mt c f g then _ else _)=_/\_);cases hm:mt c f g with
    |false=>exact⟨λ_=>rfl,(λh=>by cases h)⟩
    |true=>
     obtain⟨q1,q2,q3,q4⟩:=h.pos f g F hg hm;simp only[Bool.not_true,cond_false,cond_true]
     refine Cw (Post:=fun(z:Option (LO Int (LO Int (Int×Int×Int×Int))))=>(((range c.2.1.length).all λh=>Du c f g h)=true->z=some (.next ((g+1:Nat):Int)))/\(((range c.2.1.length).all λh=>Du c f g h)=false->∃r,z=some (.ret r)/\∃r',r=.ret r'/\r'.1≠0))
      (st:=λi=>(i:Int)) (n:=c.2.1.length) (p:=λh=>Du c f g h) (Q:=fun(r:LO Int (LO Int (Int×Int×Int×Int)))=>∃r',r=.ret (.ret r')/\r'.1≠0) (o:=.brk 6 (c.2.1.length:Int)) (λk hk=>?_) (by simp) (λy=>by simp) (λU=>?_) (λU r Y=>?_)
     .have e1:(c.2.2.2.2.getD f []).length=c.2.1.length:=h.row f F
      have e2:(c.2.2.2.2.getD g []).length=c.2.1.length:=h.row g hg;have e3:(c.2.2.2.2.getD (T c f g).toNat []).length=c.2.1.length:=h.row _ (inN ⟨q1,q2⟩);have hgf:g<(c.2.2.2.2.getD f []).length:=by omega
      have hkg:k<(c.2.2.2.2.getD g []).length:=by omega
      have hkt:k<(c.2.2.2.2.getD (T c f g).toNat []).length:=by omega
      have ht:0<=T c f g/\T c f g<(c.2.2.2.2.length:Int):=by omega
      simp only[AQ,hk,hg3,decide_true,cond_true,Ab hk,Ab hg3,Ab A,Ab hg6,Ab hgf,Ab hkg,A,hg6,hgf,hkg,and_self,if_true,tNC];rw[AP (show(0:Int)<=(k:Int)+1 by omega) (by omega)]
      have eM:decide (c.2.2.1.getD g 0=c.2.1.getD k 0)=mt c g k:=rfl;have eT:∀a b,(c.2.2.2.2.getD a []).getD b 0=T c a b:=λ_ _=>rfl
      have hkt':(k:Int)<((c.2.2.2.2.getD (T c f g).toNat []).length:Int):=by omega
      simp only[eM,eT,hkt',and_self,if_true];unfold Du;cases hm2:mt c g k with
      |false=>exact⟨λ_=>rfl,(λh=>by cases h)⟩
      |true=>
       obtain⟨w1,w2,w3,w4⟩:=h.pos g k hg hk hm2;have hw':0<=T c g k/\T c g k<((c.2.2.2.2.getD f []).length:Int):=by omega
       simp only[cond_true,ht,Ab hkt,hw',and_self,if_true,bind_some];by_cases b:T c (T c f g).toNat k=T c f (T c g k).toNat
       .simp only[b,decide_true,Bool.not_true,cond_false]
        exact⟨λ_=>rfl,(λh=>by cases h)⟩
       .simp only[b,decide_false,Bool.not_false,cond_true]
        exact⟨(λh=>by cases h),λ_=>⟨_,rfl,_,rfl,by simp⟩⟩
     .refine⟨λ_=>?_,(λh=>by rw[U]at h;cases h)⟩
      show(if 6=6 then some (LO.next ((g:Int)+1))else none)=_
      rw[if_pos rfl];rfl
     .obtain⟨r',rfl,W⟩:=Y
      exact⟨(λh=>by rw[U]at h;cases h),λ_=>⟨_,rfl,r',rfl,W⟩⟩
   .refine⟨λ_=>?_,(λh=>by rw[U]at h;cases h)⟩
    show(if 4=4 then some (LO.next (wrap .i64 ((f:Int)+1)))else none)=_
    rw[if_pos rfl,AP (by omega) (by omega)];rfl
   .obtain⟨r',rfl,W⟩:=Y
    exact⟨(λh=>by rw[U]at h;cases h),λ_=>⟨r',rfl,W⟩⟩
  .exact⟨_,rfl,by unfold HU;rw[hu,hv];rfl⟩
  .exact⟨r,rfl,by unfold HU;rw[hu,hv];simpa using Y⟩
 .exact⟨r,rfl,by unfold HU;rw[hu];simpa using Y⟩
open Go Go.Ve
def BY(c:Cat):Bool:=HA c&&HU c
def p44(h:okC c):G44 c=some (BY c):=by
 unfold G44;simp only[p88 h,bind_some];unfold BY;cases A:HA c with
 |false=>rfl
 |true=>
  obtain⟨r,B,F⟩:=p89 (AbX A);simp only[B,bind_some,F,Bool.not_true,cond_false,Bool.true_and]
def p51(h:okC c):G51 c=some (BY c):=by
 unfold G51;simp only[p97 h,bind_some];unfold BY;cases A:HA c with
 |false=>rfl
 |true=>
  obtain⟨r,B,F⟩:=p98 (AbX A);simp only[B,bind_some,F,Bool.not_true,cond_false,Bool.true_and]
abbrev Qry:=List Int×List (Int×Int)×List (Int×Int)×List Int
def qHead(c:Cat)(q:Qry):Prop:=q.1.length<=4/\wi c.1 q.1=true/\q.2.1.length<=6/\q.2.2.1.length=q.2.1.length/\q.2.2.2.length<=4/\wi q.1.length q.2.2.2=true
instance(c:Cat)(q:Qry):Decidable (qHead c q):=by unfold qHead;infer_instance
open Go Go.Ve
open Go Go.Ve
end Go.Ve.D


namespace Go.Ve.D
open Go Go.Ve
variable{c:Cat}
def Cv(h:BY c=true):Sh c:=by
 unfold BY at h;rw[bAE]at h;exact AbX h.1
def Uy{α R:Type}{f:(Int×List α)->Option (LO (Int×List α) R)}{n:Nat}{q:Nat->Bool}{g:Nat->α}{id:Nat}
  (H:∀i,i<n->∀A:List α,A.length<=i->f ((i:Int),A)=some (.next (((i+1:Nat):Int),bif q i then A++[g i]else A)))
  (F:∀A:List α,f ((n:Int),A)=some (.brk id ((n:Int),A))):
  Aq f ((0:Int),[])=some (.brk id ((n:Int),((range n).filter q).map g)):=by
 have key:∀i,(((range i).filter q).map g).length<=i:=λi=>by
  rw[List.length_map];have:=List.length_filter_le q (range i);rwa [List.length_range]at this
 refine A4 (st:=λi:Nat=>((i:Int),((range i).filter q).map g)) (n:=n) (λi hi=>?_) (F _) (λy=>by simp)
 rw[H i hi _ (key i),List.range_succ,List.filter_append,List.map_append]
 congr 3
 cases B:q i<;>simp[B]
def fT(c:Cat)(f:Nat):Int:=c.2.1.getD f 0
def tT(c:Cat)(f:Nat):Int:=c.2.2.1.getD f 0
def ar(c:Cat):Nat:=c.2.1.length
def BQ(c:Cat)(x y:Int):List Int:=((range (ar c)).filter λf=>decide (fT c f=x)&&decide (tT c f=y)).map fun(f:Nat)=>(f:Int)
theorem p126(hm:c.2.1.length<=1048576)(B:c.2.2.1.length=c.2.1.length)(x y:Int):G126 (c,(x,y))=some (BQ c x y):=by
 obtain⟨c1,c2,c3,c4,c5⟩:=c;unfold G126;simp only at hm B⊢;refine Af (v:=.brk 0 ((c2.length:Int),BQ (c1,(c2,(c3,(c4,c5)))) x y)) (Uy (λi hi A F=>?_) λA=>?_) rfl
 .simp only[AQ,hi,decide_true,cond_true,Ab hi,if_true,and_self,tNC,List.length_cons,List.length_nil,B]
  rw[AP (by omega) (by omega),if_pos (show A.length+(0+1)<=17592186044416 by omega)]
  show Option.bind (bif decide (c2.getD i 0=x)then some (decide (c3.getD i 0=y))else some false) _=_;show _=some (LO.next (((i+1:Nat):Int),bif decide (c2.getD i 0=x)&&decide (c3.getD i 0=y)then A++[(i:Int)]else A))
  cases decide (c2.getD i 0=x)<;>cases decide (c3.getD i 0=y)<;>rfl
 .simp only[AQ,Nat.lt_irrefl,decide_false,cond_false]
def p148(hm:c.2.1.length<=1048576)(A:c.2.2.1.length=c.2.1.length)(x y:Int):G148 (c,(x,y))=some (BQ c x y):=by
 have e:G148=G126:=rfl;rw[e];exact p126 hm A x y
def risB(x:List Int):Bool:=(range (x.length-1)).all λi=>!decide (x.getD (i+1) 0<=x.getD i 0)
def arrC(c:Cat)(w:List Int):Int:=bif !BY c then 1 else bif !wi (ar c) w then 2 else 0
def Adj(c:Cat)(w:List Int):Int:=bif decide (arrC c w=0)&& !risB w then 5 else arrC c w
end Go.Ve.D


namespace Go.Ve.D
open Go Go.Ve
def p133{c:Cat}(h:Sh c){f g:Int}(B:0<=f/\f<(c.2.1.length:Int))(A:0<=g/\g<(c.2.1.length:Int)):G133 (c,(f,g))=some (T c f.toNat g.toNat):=Uc h B A
def Jc(c:Cat)(f:Nat):Bool:=decide (c.2.2.2.1.getD (fT c f).toNat 0=(f:Int))
def Z5{m:Nat}{w:List Int}(A:wi m w=true){i:Nat}(hi:i<w.length):∃f:Nat,f<m/\w.getD i 0=(f:Int):=by
 obtain⟨F,B⟩:=JA A hi;exact⟨(w.getD i 0).toNat,by omega,by omega⟩
end Go.Ve.D


namespace Go.Ve.D
open Go Go.Ve
noncomputable section
variable{b:Bool}{c:Cat}{i n:Nat}{R α:Type}
def Bb{x y r:α}(h:b=true)(A:x=r):(bif b then x else y)=r:=by subst h;exact A
def Bf{x y r:α}(h:b=false)(A:y=r):(bif b then x else y)=r:=by subst h;exact A
def A8{p:Prop} [Decidable p]{x y r:α}(h:p)(A:x=r):(if p then x else y)=r:=by rw[if_pos h];exact A
def Dc{X:Type}{f:X->Option (LO X R)}{st:Nat->X}{o:LO X R}{x:X}(H:x=st 0)(F:∀i,i<n->f (st i)=some (.next (st (i+1))))(B:f (st n)=some o)(A:∀y,o≠.next y):Aq f x=some o:=by
 subst H;exact A4 F B A
def ltd(h:i<n):decide ((i:Int)<(n:Int))=true:=dT (by omega)
def ltn:decide ((n:Int)<(n:Int))=false:=dF (by omega)
def wr(h:i<n)(A:n<=1048576):wrap .i64 ((i:Int)+1)=((i+1:Nat):Int):=by
 rw[AP (by omega) (by omega)];rfl
def Adr{F:Int->Option (LO Int R)}{n:Nat}{p:Nat->Bool}{id:Nat}{g:Nat->Int->Option R}{r v:R}
  (U:∀i,i<n->F (i:Int)=some (bif p i then .next ((i+1:Nat):Int)else .ret r)) (H:F (n:Int)=some (.brk id (n:Int)))
  (B:(range n).all p=true->g id (n:Int)=some v):Option.bind (Aq F (0:Int)) (LO.fin g)=some (bif(range n).all p then v else r):=by
 have h:=BM (st:=λi:Nat=>(i:Int)) (p:=p) (r:=r) U H (λy=>by simp)
 have h:Aq F (0:Int)=_:=h;rw[h];cases A:(range n).all p with
 |true=>exact B A
 |false=>rfl
def gatF{f:(Int×List Int)->Option (LO (Int×List Int) R)}{x:List Int}{p:Int->Bool}{id:Nat}{k:Nat->Int×List Int->Option R}{r:Option R}(W:x.length<=1048576)
  (H:∀i,i<x.length->∀A:List Int,A.length<=1048576->f ((i:Int),A)=some (.next (((i+1:Nat):Int),bif p (x.getD i 0)then A++[x.getD i 0]else A)))
  (F:∀A:List Int,f ((x.length:Int),A)=some (.brk id ((x.length:Int),A)))
  (B:k id ((x.length:Int),x.filter p)=r):Option.bind (Aq f ((0:Int),[])) (LO.fin k)=r:=by
 have e:((range x.length).filter λi=>p (x.getD i 0)).map (λi=>x.getD i 0)=x.filter p:=by
  have U:x=(range x.length).map λi=>x.getD i 0:=by
   apply List.ext_getElem?;intro j;by_cases hj:j<x.length<;>simp[hj]
  conv=>rhs;rw[U,List.filter_map]
  rfl
 refine Af (Uy (q:=λi=>p (x.getD i 0)) (g:=λi=>x.getD i 0) (λi hi A Y=>H i hi A (by omega)) F) ?_
 rw[e];exact B
def gatN{f:(Int×List Int)->Option (LO (Int×List Int) R)}{q:Nat->Bool}{id:Nat}{k:Nat->Int×List Int->Option R}{r:Option R}(U:n<=1048576)
  (H:∀i,i<n->∀A:List Int,A.length<=1048576->f ((i:Int),A)=some (.next (((i+1:Nat):Int),bif q i then A++[(i:Int)]else A)))
  (F:∀A:List Int,f ((n:Int),A)=some (.brk id ((n:Int),A)))
  (B:k id ((n:Int),((range n).filter q).map fun(i:Nat)=>(i:Int))=r):Option.bind (Aq f ((0:Int),[])) (LO.fin k)=r:=
 Af (Uy (q:=q) (g:=fun(i:Nat)=>(i:Int)) (λi hi A W=>H i hi A (by omega)) F) B
def PS{R:Type}{b:Bool}{A:List Int}{v:Int}{i j:Int}(B:A.length<=1048576)(hj:i=j):
  (bif b then if A.length+(v::[]).length<=17592186044416 then some (LO.next (R:=R) (i,A++(v::[])))else none else some (LO.next (i,A)))=some (.next (j,bif b then A++[v]else A)):=by
 subst hj;cases b
 .rfl
 .exact A8 (by show A.length+1<=_;omega) rfl
def M0{x:List α}(d:α)(hi:i<x.length):x.getD i d∈x:=by
 rw[gDE,gEE hi];exact List.getElem_mem hi
def Kl{x y d:Int}:d∈BQ c x y↔ ∃f,f<ar c/\d=(f:Int)/\fT c f=x/\tT c f=y:=by
 unfold BQ;simp only[List.mem_map,List.mem_filter,mem_range,bAE,decide_eq_true_eq];exact⟨fun⟨f,⟨B,A,h3⟩,h4⟩=>⟨f,B,h4.symm,A,h3⟩,fun⟨f,B,A,h3,h4⟩=>⟨f,⟨B,h3,h4⟩,A.symm⟩⟩
def IG{x y:Int}:(BQ c x y).length<=ar c:=by
 unfold BQ;rw[List.length_map];have:=List.length_filter_le (λf=>decide (fT c f=x)&&decide (tT c f=y)) (range (ar c))
 rwa [List.length_range]at this
def Cf(h:Sh c):ar c<=40:=h.hd.2.1
def W4(h:Sh c):c.2.2.1.length=ar c:=h.hd.2.2.1
end
end Go.Ve.D

