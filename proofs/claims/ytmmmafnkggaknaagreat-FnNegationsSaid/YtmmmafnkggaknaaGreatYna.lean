/- Copies, equalities, sizes: what they compute. -/
import Derived.Test.YtmmmafnkggaknaaGreatUn
import Derived.Test.YtmmmafnkggaknaaGreatLa
import Derived.Test.YtmmmafnkggaknaaGreatTr
set_option linter.all false
namespace Go.Ve.D
open Go Go.Ve
variable{a n:Int}{x:List Int}
def okC(c:Int×List Int×List Int×List Int×List (List Int)):Prop:=c.2.1.length<=1048576/\c.2.2.1.length<=1048576/\c.2.2.2.1.length<=1048576/\c.2.2.2.2.length<=1048576/\∀y∈c.2.2.2.2,y.length<=1048576
open Go Go.Ve
open Go Go.Ve
def p129(a l h:Int):G129 (a,(l,h))=some (decide (l<=a)&&decide (a<=h)):=by
 unfold G129;by_cases e:l<=a<;>simp[e]
def p38(a l h:Int):G38 (a,(l,h))=some (decide (l<=a)&&decide (a<=h)):=by
 unfold G38;by_cases e:l<=a<;>simp[e]
def p38'(a n:Int)(e:0<=n/\n<=9223372036854775807):G38 (a,((0:Int),IntKind.wrap .i64 (n-1)))=some (inn n a):=by
 rw[p38,YS (by omega) (by omega)]
 unfold inn
 congr 2
 rw[Bool.eq_iff_iff];simp;omega
def p80(E:x.length<=1048576):G80 (n,x)=some (wi n x):=by
 unfold G80
 have h:=Bq (R:=Bool) (f:=(fun(v0:Int)=>(bif(decide (v0<((x.length:Nat):Int)))then(if(((0:Int)<=v0)/\(v0<((x.length:Nat):Int)))then(Option.bind (bif(decide ((x.getD (v0).toNat (0:Int))<(0:Int)))then(some true)else(if(((0:Int)<=v0)/\(v0<((x.length:Nat):Int)))then(some (decide (n<=(x.getD (v0).toNat (0:Int)))))else none)) (fun(B:Bool)=>(bif B then(BB (some false))else(some (LO.next (IntKind.wrap .i64 (v0+(1:Int))))))))else none)else(some (LO.brk 0 v0)))))
  (st:=λi=>(i:Int)) (n:=x.length) (p:=λi=>inn n (x.getD i 0)) (r:=false) (o:=.brk 0 (x.length:Int)) (λi A=>by
   simp only[Am,A,decide_true,cond_true,Ac A,if_true,tNC,and_self];rw[Ah (by omega) (by omega)]
   by_cases e:x.getD i 0<0
   .have:inn n (x.getD i 0)=false:=Yv e
    simp only[e,decide_true,cond_true,Option.bind_some,this,cond_false];rfl
   .by_cases u:n<=x.getD i 0
    .have:inn n (x.getD i 0)=false:=Yu u
     simp only[e,u,decide_false,decide_true,cond_true,cond_false,Option.bind_some,this];rfl
    .have:inn n (x.getD i 0)=true:=Z6 (by omega) (by omega)
     simp only[e,u,decide_false,cond_true,cond_false,Option.bind_some,this];rfl) (by simp) (λy=>by simp)
 rw[Io 0 (inn n) x]at h;refine Ae h ?_;show _=some (wi n x);unfold wi;cases x.all (inn n)<;>rfl
def p84(A:0<=n/\n<=9223372036854775807)(B:x.length<=1048576):G84 (x,n)=some (wi n x):=by
 unfold G84
 have h:=Bq (R:=Bool) (f:=(fun(v0:Int)=>(bif(decide (v0<((x.length:Nat):Int)))then(if(((0:Int)<=v0)/\(v0<((x.length:Nat):Int)))then(Option.bind (G38 ((x.getD (v0).toNat (0:Int)),((0:Int),(IntKind.wrap .i64 (n-(1:Int)))))) (fun(u:Bool)=>(bif(!u)then(BB (some false))else(some (LO.next (IntKind.wrap .i64 (v0+(1:Int))))))))else none)else(some (LO.brk 0 v0)))))
  (st:=λi=>(i:Int)) (n:=x.length) (p:=λi=>inn n (x.getD i 0)) (r:=false) (o:=.brk 0 (x.length:Int)) (λi e=>by
   simp only[Am,e,decide_true,cond_true,Ac e,if_true,tNC,and_self,p38' _ _ A,Option.bind_some];rw[Ah (by omega) (by omega)]
   cases inn n (x.getD i 0)<;>rfl) (by simp) (λy=>by simp)
 rw[Io 0 (inn n) x]at h;refine Ae h ?_;show _=some (wi n x);unfold wi;cases x.all (inn n)<;>rfl
def p148{m:Int}(e:x.length<=1048576):G148 (x,(m,n))=some (decide ((x.length:Int)=m)&&wi n x):=by
 unfold G148;simp only[p80 e,Option.bind_some];by_cases h:(x.length:Int)=m<;>simp[h]
open Go Go.Ve
abbrev Cat:=Int×List Int×List Int×List Int×List (List Int)
variable{c:Cat}
def B0(c:Cat)(f g:Nat):Bool:=
 bif !decide (c.2.2.1.getD f 0=c.2.1.getD g 0)then decide ((c.2.2.2.2.getD f []).getD g 0= -1)
 else inn c.2.1.length ((c.2.2.2.2.getD f []).getD g 0)&&(decide (c.2.1.getD ((c.2.2.2.2.getD f []).getD g 0).toNat 0=c.2.1.getD f 0)&&decide (c.2.2.1.getD ((c.2.2.2.2.getD f []).getD g 0).toNat 0=c.2.2.1.getD g 0))
def Dn(c:Cat)(f:Nat):Bool:=decide ((c.2.2.2.2.getD f []).length=c.2.1.length)&&(List.range c.2.1.length).all (B0 c f)
def Q7(c:Cat)(i:Nat):Bool:=decide (c.2.1.getD (c.2.2.2.1.getD i 0).toNat 0=i)&&decide (c.2.2.1.getD (c.2.2.2.1.getD i 0).toNat 0=i)
def Ix(c:Cat):Prop:=(0<=c.1/\c.1<=8)/\c.2.1.length<=40/\c.2.2.1.length=c.2.1.length/\wi c.1 c.2.1=true/\wi c.1 c.2.2.1=true/\c.2.2.2.2.length=c.2.1.length/\(c.2.2.2.1.length:Int)=c.1/\wi c.2.1.length c.2.2.2.1=true
instance(c:Cat):Decidable (Ix c):=by unfold Ix;infer_instance
def DR(c:Cat):Bool:=decide (Ix c)&&((List.range c.2.2.2.1.length).all (Q7 c)&&(List.range c.2.1.length).all (Dn c))
def p122i(h:Ix c)(F:Int->Option (LO Int Bool))(Z:F=(fun(e:Int)=>(bif(decide (e<c.1))then(if(((0:Int)<=e)/\(e<((c.2.2.2.1.length:Nat):Int)))then(if(((0:Int)<=(c.2.2.2.1.getD (e).toNat (0:Int)))/\((c.2.2.2.1.getD (e).toNat (0:Int))<((c.2.1.length:Nat):Int)))then(Option.bind (bif(!decide ((c.2.1.getD ((c.2.2.2.1.getD (e).toNat (0:Int))).toNat (0:Int))=e))then(some true)else(if(((0:Int)<=e)/\(e<((c.2.2.2.1.length:Nat):Int)))then(if(((0:Int)<=(c.2.2.2.1.getD (e).toNat (0:Int)))/\((c.2.2.2.1.getD (e).toNat (0:Int))<((c.2.2.1.length:Nat):Int)))then(some (!decide ((c.2.2.1.getD ((c.2.2.2.1.getD (e).toNat (0:Int))).toNat (0:Int))=e)))else none)else none)) (fun(W:Bool)=>(bif W then(BB (some false))else(some (LO.next (IntKind.wrap .i64 (e+(1:Int))))))))else none)else none)else(some (LO.brk 0 e))))):
  Aj F 0=some (bif(List.range c.2.2.2.1.length).all (Q7 c)then .brk 0 c.1 else .ret false):=by
 obtain⟨a1,a2,a3,a4,a5,a6,a7,a8⟩:=h;subst Z;refine Bq (st:=λi=>(i:Int)) (λi E=>?_) (by simp[a7]) (λy=>by simp)
 have u:((i:Int)<c.1):=by omega
 have J:=Cx a8 E;have A:0<=c.2.2.2.1.getD i 0/\c.2.2.2.1.getD i 0<(c.2.2.1.length:Int):=by rw[a3];exact J
 simp only[u,decide_true,cond_true,Ac E,if_true,tNC,and_self,J,A];rw[Ah (by omega) (by omega)]
 unfold Q7;by_cases B:c.2.1.getD (c.2.2.2.1.getD i 0).toNat 0=(i:Int)
 .by_cases U:c.2.2.1.getD (c.2.2.2.1.getD i 0).toNat 0=(i:Int)
  .simp only[B,U,decide_true,Bool.not_true,cond_false,cond_true,Option.bind_some,Bool.and_self];rfl
  .simp only[B,U,decide_true,decide_false,Bool.not_true,Bool.not_false,cond_false,cond_true,Option.bind_some,Bool.and_false];rfl
 .simp only[B,decide_false,Bool.not_false,cond_false,cond_true,Option.bind_some,Bool.false_and];rfl
open Go Go.Ve
def BA(h:¬Ix c):DR c=false:=by simp[DR,h]
def p122(h:okC c):G122 c=some (DR c):=by
 obtain⟨h1,h2,h3,h4,h5⟩:=h;unfold G122;simp only[p129,p148 h1,p148 h2,p80 h3,Option.bind_some,decide_true,Bool.true_and];by_cases c1:0<=c.1/\c.1<=8
 case neg=>
  have e:(decide (0<=c.1)&&decide (c.1<=8))=false:=by simp;omega
  simp only[e,Bool.not_false,cond_true,Option.bind_some,BA λh=>c1 h.1]
 have U:(decide (0<=c.1)&&decide (c.1<=8))=true:=by simp[c1]
 simp only[U,Bool.not_true,cond_false,Option.bind_some];by_cases c2:(40:Int)<(c.2.1.length:Int)
 case pos=>simp only[c2,decide_true,cond_true,Option.bind_some,BA (c:=c) λh=>absurd h.2.1 (by omega)]
 simp only[c2,decide_false,cond_false];cases c3:wi c.1 c.2.1 with
 |false=>simp only[Bool.not_false,cond_true,Option.bind_some,BA λh=>by have:=h.2.2.2.1;rw[c3]at this;cases this]
 |true=>
 simp only[Bool.not_true,cond_false,Option.bind_some];by_cases c4:(c.2.2.1.length:Int)=(c.2.1.length:Int)
 case neg=>simp only[c4,decide_false,Bool.false_and,Bool.not_false,cond_true,Option.bind_some,BA λh=>c4 (by rw[h.2.2.1])]
 simp only[dT c4,Bool.true_and];cases c5:wi c.1 c.2.2.1 with
 |false=>simp only[Bool.not_false,cond_true,Option.bind_some,BA λh=>by have:=h.2.2.2.2.1;rw[c5]at this;cases this]
 |true=>
 simp only[Bool.not_true,cond_false,Option.bind_some];by_cases c6:(c.2.2.2.2.length:Int)=(c.2.1.length:Int)
 case neg=>simp only[c6,decide_false,Bool.not_false,cond_true,Option.bind_some,BA λh=>c6 (by rw[h.2.2.2.2.2.1])]
 simp only[dT c6,Bool.not_true,cond_false];by_cases c7:(c.2.2.2.1.length:Int)=c.1
 case neg=>simp only[c7,decide_false,Bool.not_false,cond_true,Option.bind_some,BA λh=>c7 h.2.2.2.2.2.2.1]
 simp only[dT c7,Bool.not_true,cond_false];cases c8:wi c.2.1.length c.2.2.2.1 with
 |false=>simp only[Bool.not_false,cond_true,Option.bind_some,BA λh=>by have:=h.2.2.2.2.2.2.2;rw[c8]at this;cases this]
 |true=>
 simp only[Bool.not_true,cond_false,Option.bind_some];have W:Ix c:=⟨c1,by omega,by omega,c3,c5,by omega,c7,c8⟩
 have hs:DR c=((List.range c.2.2.2.1.length).all (Q7 c)&&(List.range c.2.1.length).all (Dn c)):=by simp[DR,W]
 rw[hs];have g:=p122i W _ rfl;refine Ae g ?_;cases hi:(List.range c.2.2.2.1.length).all (Q7 c)with
 |false=>rfl
 |true=>
 simp only[cond_true,Bool.true_and];obtain⟨a1,a2,a3,a4,a5,a6,a7,a8⟩:=W;show(if 0=0 then _ else _)=_
 rw[if_pos rfl];refine Ae (v:=bif(List.range c.2.1.length).all (Dn c)then .brk 2 (c.2.1.length:Int)else .ret false) (Bq (st:=λi=>(i:Int)) (λf J=>?_) (by simp) (λy=>by simp)) (by cases (List.range c.2.1.length).all (Dn c)<;>rfl)
 have u:f<c.2.2.2.2.length:=by omega
 simp only[Am,J,u,decide_true,cond_true,Ac J,Ac u,if_true,tNC,and_self];by_cases d1:((c.2.2.2.2.getD f []).length:Int)=(c.2.1.length:Int)
 case neg=>
  have:Dn c f=false:=by unfold Dn;simp only[show ¬ (c.2.2.2.2.getD f []).length=c.2.1.length by omega,decide_false,Bool.false_and]
  simp only[d1,decide_false,Bool.not_false,cond_true,this,cond_false];rfl
 have d2:(c.2.2.2.2.getD f []).length=c.2.1.length:=by omega
 have hr:Dn c f=(List.range c.2.1.length).all (B0 c f):=by unfold Dn;simp only[d2,decide_true,Bool.true_and]
 simp only[dT d1,Bool.not_true,cond_false];rw[hr]
 refine Ae (v:=bif(List.range c.2.1.length).all (B0 c f)then .brk 4 (c.2.1.length:Int)else .ret (.ret false)) (Bq (st:=λi=>(i:Int)) (λg hg=>?_) (by simp) (λy=>by simp)) (by
  cases (List.range c.2.1.length).all (B0 c f)with
  |false=>rfl
  |true=>
   show(if 4=4 then some (LO.next (IntKind.wrap .i64 ((f:Int)+1)))else none)=_
   rw[if_pos rfl,Ah (by omega) (by omega)];rfl)
 have E:f<c.2.2.1.length:=by omega
 have B:g<c.2.2.1.length:=by omega
 have Z:(g:Int)<((c.2.2.2.2.getD f []).length:Int):=by omega
 simp only[Am,J,hg,E,B,Z,decide_true,cond_true,Ac J,Ac hg,Ac u,Ac E,Ac B,if_true,tNC,and_self];rw[Ah (show(0:Int)<=(g:Int)+1 by omega) (by omega)]
 unfold B0;obtain⟨k,hk⟩:∃k,k=(c.2.2.2.2.getD f []).getD g 0:=⟨_,rfl⟩;simp only[<-hk];clear hk;by_cases U:c.2.2.1.getD f 0=c.2.1.getD g 0
 case neg=>
  simp only[U,decide_false,Bool.not_false,cond_true];by_cases A:k= -1
  .simp only[A,decide_true,Bool.not_true,cond_false,cond_true];rfl
  .simp only[A,decide_false,Bool.not_false,cond_false,cond_true];rfl
 simp only[U,decide_true,Bool.not_true,cond_false];by_cases A:k<0
 case pos=>simp only[A,decide_true,cond_true,Option.bind_some,Yv A,Bool.false_and,cond_false];rfl
 simp only[A,decide_false,cond_false,Option.bind_some];by_cases e3:(c.2.1.length:Int)<=k
 case pos=>simp only[e3,decide_true,cond_true,Option.bind_some,Yu e3,Bool.false_and,cond_false];rfl
 have e4:inn c.2.1.length k=true:=Z6 (by omega) (by omega)
 have e5:0<=k/\k<(c.2.1.length:Int):=by omega
 have e6:0<=k/\k<(c.2.2.1.length:Int):=by omega
 simp only[e3,decide_false,cond_false,Option.bind_some,e4,e5,e6,and_self,if_true,Bool.true_and];by_cases e7:c.2.1.getD k.toNat 0=c.2.1.getD f 0
 case neg=>simp only[e7,decide_false,Bool.not_false,cond_true,cond_false,Option.bind_some,Bool.false_and];rfl
 simp only[e7,decide_true,Bool.not_true,cond_false,Bool.true_and];by_cases e8:c.2.2.1.getD k.toNat 0=c.2.2.1.getD g 0
 .simp only[e8,decide_true,Bool.not_true,cond_false,cond_true,Option.bind_some];rfl
 .simp only[e8,decide_false,Bool.not_false,cond_false,cond_true,Option.bind_some];rfl
open Go Go.Ve
def p39(c:Cat):G39 c=some (c.2.1.length:Int):=rfl
def p149(u:0<=a/\a<(c.2.1.length:Int))(e:0<=a/\a<(c.2.2.1.length:Int)):G149 (c,a)=some (c.2.1.getD a.toNat 0,c.2.2.1.getD a.toNat 0):=by
 unfold G149;simp only[u,e,and_self,if_true]
def p124(h:okC c):G124 c=some (DR c):=by
 obtain⟨h1,h2,h3,h4,h5⟩:=h;unfold G124;simp only[p39,p38 c.1 0 8,Option.bind_some];by_cases c1:0<=c.1/\c.1<=8
 case neg=>
  have e:(decide (0<=c.1)&&decide (c.1<=8))=false:=by simp;omega
  simp only[e,Bool.not_false,cond_true,Option.bind_some,BA λh=>c1 h.1]
 have e1:(decide (0<=c.1)&&decide (c.1<=8))=true:=by simp[c1]
 have A:0<=c.1/\c.1<=9223372036854775807:=by omega
 have hm:(0:Int)<=(c.2.1.length:Int)/\(c.2.1.length:Int)<=9223372036854775807:=by omega
 simp only[e1,Bool.not_true,cond_false,Option.bind_some,p84 A h1,p84 A h2,p84 hm h3];by_cases c2:(40:Int)<(c.2.1.length:Int)
 case pos=>simp only[c2,decide_true,cond_true,Option.bind_some,BA (c:=c) λh=>absurd h.2.1 (by omega)]
 simp only[c2,decide_false,cond_false,Option.bind_some];by_cases c4:(c.2.2.1.length:Int)=(c.2.1.length:Int)
 case neg=>simp only[c4,decide_false,Bool.not_false,cond_true,Option.bind_some,BA λh=>c4 (by rw[h.2.2.1])]
 simp only[dT c4,Bool.not_true,cond_false,Option.bind_some];cases c3:wi c.1 c.2.1 with
 |false=>simp only[Bool.not_false,cond_true,Option.bind_some,BA λh=>by have:=h.2.2.2.1;rw[c3]at this;cases this]
 |true=>
 simp only[Bool.not_true,cond_false,Option.bind_some];cases c5:wi c.1 c.2.2.1 with
 |false=>simp only[Bool.not_false,cond_true,Option.bind_some,BA λh=>by have:=h.2.2.2.2.1;rw[c5]at this;cases this]
 |true=>
 simp only[Bool.not_true,cond_false,Option.bind_some];by_cases c7:(c.2.2.2.1.length:Int)=c.1
 case neg=>simp only[c7,decide_false,Bool.not_false,cond_true,Option.bind_some,BA λh=>c7 h.2.2.2.2.2.2.1]
 simp only[dT c7,Bool.not_true,cond_false];cases c8:wi c.2.1.length c.2.2.2.1 with
 |false=>simp only[Bool.not_false,cond_true,Option.bind_some,BA λh=>by have:=h.2.2.2.2.2.2.2;rw[c8]at this;cases this]
 |true=>
 simp only[Bool.not_true,cond_false,Option.bind_some];by_cases c6:(c.2.2.2.2.length:Int)=(c.2.1.length:Int)
 case neg=>simp only[c6,decide_false,Bool.not_false,cond_true,Option.bind_some,BA λh=>c6 (by rw[h.2.2.2.2.2.1])]
 simp only[dT c6,Bool.not_true,cond_false,Option.bind_some];have hh:Ix c:=⟨c1,by omega,by omega,c3,c5,by omega,c7,c8⟩
 have hs:DR c=((List.range c.2.2.2.1.length).all (Q7 c)&&(List.range c.2.1.length).all (Dn c)):=by simp[DR,hh]
 rw[hs];obtain⟨a1,a2,a3,a4,a5,a6,a7,a8⟩:=hh;refine Ae (v:=bif(List.range c.2.2.2.1.length).all (Q7 c)then .brk 0 (c.2.2.2.1.length:Int)else .ret false) (Bq (st:=λi=>(i:Int)) (λi W=>?_) (by simp) (λy=>by simp)) ?_
 .have J:=Cx a8 W
  have hg':0<=c.2.2.2.1.getD i 0/\c.2.2.2.1.getD i 0<(c.2.2.1.length:Int):=by rw[a3];exact J
  simp only[Am,W,decide_true,cond_true,Ac W,if_true,tNC,and_self,p149 J hg',Option.bind_some,Bool.and_true];rw[Ah (by omega) (by omega)]
  show(bif !Q7 c i then _ else _)=_;cases Q7 c i<;>rfl
 cases W:(List.range c.2.2.2.1.length).all (Q7 c)with
 |false=>rfl
 |true=>
 simp only[cond_true,Bool.true_and];show(if 0=0 then _ else _)=_
 rw[if_pos rfl];refine Ae (v:=bif(List.range c.2.1.length).all (Dn c)then .brk 2 (c.2.1.length:Int)else .ret false) (Bq (st:=λi=>(i:Int)) (λf hf=>?_) (by simp[a6]) (λy=>by simp)) (by cases (List.range c.2.1.length).all (Dn c)<;>rfl)
 have u:f<c.2.2.2.2.length:=by omega
 simp only[Am,u,decide_true,cond_true,Ac u,if_true,tNC,and_self];by_cases d1:((c.2.2.2.2.getD f []).length:Int)=(c.2.1.length:Int)
 case neg=>
  have:Dn c f=false:=by unfold Dn;simp only[show ¬ (c.2.2.2.2.getD f []).length=c.2.1.length by omega,decide_false,Bool.false_and]
  simp only[d1,decide_false,Bool.not_false,cond_true,this,cond_false];rfl
 have d2:(c.2.2.2.2.getD f []).length=c.2.1.length:=by omega
 have hr:Dn c f=(List.range c.2.1.length).all (B0 c f):=by unfold Dn;simp only[d2,decide_true,Bool.true_and]
 simp only[dT d1,Bool.not_true,cond_false];rw[hr]
 refine Ae (v:=bif(List.range c.2.1.length).all (B0 c f)then .brk 4 (c.2.1.length:Int)else .ret (.ret false)) (Bq (st:=λi=>(i:Int)) (λg J=>?_) (by simp only[dF (show ¬ ((c.2.1.length:Int)<((c.2.2.2.2.getD f []).length:Int)) by omega),cond_false]) (λy=>by simp)) (by
  cases (List.range c.2.1.length).all (B0 c f)with
  |false=>rfl
  |true=>
   show(if 4=4 then some (LO.next (IntKind.wrap .i64 ((f:Int)+1)))else none)=_
   rw[if_pos rfl,Ah (by omega) (by omega)];rfl)
 have U:f<c.2.2.1.length:=by omega
 have E:g<c.2.2.1.length:=by omega
 have B:g<(c.2.2.2.2.getD f []).length:=by omega
 simp only[Am,hf,J,U,E,B,decide_true,cond_true,Ac hf,Ac J,Ac u,Ac U,Ac E,Ac B,if_true,tNC,and_self,p38' _ _ hm,Option.bind_some];rw[Ah (show(0:Int)<=(g:Int)+1 by omega) (by omega)]
 unfold B0;obtain⟨k,hk⟩:∃k,k=(c.2.2.2.2.getD f []).getD g 0:=⟨_,rfl⟩;simp only[<-hk];clear hk;by_cases e1:c.2.2.1.getD f 0=c.2.1.getD g 0
 case neg=>
  simp only[e1,decide_false,Bool.not_false,cond_true];by_cases Z:k= -1
  .simp only[Z,decide_true,Bool.not_true,cond_false,cond_true];rfl
  .simp only[Z,decide_false,Bool.not_false,cond_false,cond_true];rfl
 simp only[e1,decide_true,Bool.not_true,cond_false];cases Z:inn c.2.1.length k with
 |false=>simp only[Bool.not_false,cond_true,Option.bind_some,Bool.false_and,cond_false];rfl
 |true=>
 have e5:=Ie.1 Z;have e6:0<=k/\k<(c.2.2.1.length:Int):=by omega
 simp only[Bool.not_true,cond_false,p149 e5 e6,Option.bind_some,Bool.true_and,Bool.and_true];cases (decide (c.2.1.getD k.toNat 0=c.2.1.getD f 0)&&decide (c.2.2.1.getD k.toNat 0=c.2.2.1.getD g 0))<;>rfl
open Go Go.Ve
def T(c:Cat)(f g:Nat):Int:=(c.2.2.2.2.getD f []).getD g 0
def idn(c:Cat)(x:Int):Nat:=(c.2.2.2.1.getD x.toNat 0).toNat
def I3(c:Cat)(f:Nat):Bool:=decide (T c (idn c (c.2.1.getD f 0)) f=(f:Int))&&decide (T c f (idn c (c.2.2.1.getD f 0))=(f:Int))
def mt(c:Cat)(f g:Nat):Bool:=decide (c.2.2.1.getD f 0=c.2.1.getD g 0)
def DK(c:Cat)(f g h:Nat):Bool:=bif mt c g h then decide (T c (T c f g).toNat h=T c f (T c g h).toNat)else true
def Ic(c:Cat):Bool:=(List.range c.2.1.length).all (I3 c)&&(List.range c.2.1.length).all λf=>(List.range c.2.1.length).all λg=>bif mt c f g then(List.range c.2.1.length).all λh=>DK c f g h else true
structure Sh(c:Cat):Prop where
 hd:Ix c
 id:∀x:Int,0<=x->x<c.1->(0<=c.2.2.2.1.getD x.toNat 0/\c.2.2.2.1.getD x.toNat 0<(c.2.1.length:Int))
 fr:∀f,f<c.2.1.length->0<=c.2.1.getD f 0/\c.2.1.getD f 0<c.1
 to:∀f,f<c.2.1.length->0<=c.2.2.1.getD f 0/\c.2.2.1.getD f 0<c.1
 row:∀f,f<c.2.1.length->(c.2.2.2.2.getD f []).length=c.2.1.length
 neg:∀f g,f<c.2.1.length->g<c.2.1.length->mt c f g=false->T c f g= -1
 pos:∀f g,f<c.2.1.length->g<c.2.1.length->mt c f g=true->0<=T c f g/\T c f g<(c.2.1.length:Int)/\c.2.1.getD (T c f g).toNat 0=c.2.1.getD f 0/\c.2.2.1.getD (T c f g).toNat 0=c.2.2.1.getD g 0
theorem Zl(h:DR c=true):Sh c:=by
 unfold DR at h;simp only[bAE,decide_eq_true_eq]at h;obtain⟨J,Z,U⟩:=h;have A:∀f,f<c.2.1.length->Dn c f=true:=λf e=>aET.1 U f (List.mem_range.2 e)
 have u:∀f g,f<c.2.1.length->g<c.2.1.length->B0 c f g=true:=λf g e E=>by
  have:=A f e;unfold Dn at this;rw[bAE]at this;exact aET.1 this.2 g (List.mem_range.2 E)
 have W:=J;obtain⟨a1,a2,a3,a4,a5,a6,a7,a8⟩:=J;refine⟨W,λx h1 h2=>Cx a8 (by omega),λf e=>Cx a4 e,λf e=>Cx a5 (by omega),λf e=>?_,λf g e E B=>?_,λf g e E B=>?_⟩
 .have:=A f e
  unfold Dn at this;rw[bAE]at this;exact of_decide_eq_true this.1
 .have:=u f g e E
  unfold B0 at this;unfold mt at B;rw[B]at this;exact of_decide_eq_true this
 .have:=u f g e E
  unfold B0 at this;unfold mt at B;rw[B]at this;simp only[Bool.not_true,cond_false,bAE,decide_eq_true_eq]at this;exact⟨(Ie.1 this.1).1,(Ie.1 this.1).2,this.2.1,this.2.2⟩
def BK{X R S:Type}{f:X->Option (LO X R)}{st:Nat->X}{n:Nat}{p:Nat->Bool}{Q:R->Prop}{o:LO X R}{k:LO X R->Option S}{Post:Option S->Prop}
  (U:∀i,i<n->(p i=true->f (st i)=some (.next (st (i+1))))/\(p i=false->∃r,f (st i)=some (.ret r)/\Q r)) (J:f (st n)=some o) (A:∀y,o≠.next y)
  (E:(List.range n).all p=true->Post (k o)) (B:(List.range n).all p=false->∀r,Q r->Post (k (.ret r))):Post (Option.bind (Aj f (st 0)) k):=by
 obtain⟨g1,g2⟩:=Uo U J A;cases h:(List.range n).all p with
 |true=>rw[g1 h];exact E h
 |false=>obtain⟨r,e,u⟩:=g2 h;rw[e];exact B h r u
def inN{n:Nat}(h:0<=a/\a<(n:Int)):a.toNat<n:=by omega
def p77(h:Sh c){f g:Int}(e:0<=f/\f<(c.2.1.length:Int))(u:0<=g/\g<(c.2.1.length:Int)):G77 (c,(f,g))=some (T c f.toNat g.toNat):=by
 unfold G77;have J:c.2.2.2.2.length=c.2.1.length:=h.hd.2.2.2.2.2.1;have E:=h.row f.toNat (inN e);have B:0<=f/\f<(c.2.2.2.2.length:Int):=by rw[J];exact e
 have A:0<=g/\g<((c.2.2.2.2.getD f.toNat []).length:Int):=by rw[E];exact u
 simp only[B,A,and_self,if_true];rfl
theorem p125(h:Sh c):∃r,G125 c=some r/\(decide (r.1=0)=Ic c):=by
 have hh:=h.hd;obtain⟨a1,a2,a3,a4,a5,a6,a7,a8⟩:=hh;unfold G125;simp only[p39,Option.bind_some];refine BK (Post:=fun(z:Option (Int×Int×Int×Int))=>∃r,z=some r/\(decide (r.1=0)=Ic c)) (st:=λi=>(i:Int)) (n:=c.2.1.length) (p:=I3 c) (Q:=fun(r:Int×Int×Int×Int)=>r.1≠0) (o:=.brk 0 (c.2.1.length:Int)) (λf e=>?_) (by simp) (λy=>by simp) (λhu=>?_) (λhu r E=>?_)
 .have hf1:=h.fr f e
  have J:=h.to f e;have hi1:=h.id _ hf1.1 hf1.2;have hi2:=h.id _ J.1 J.2;have hfi:0<=c.2.1.getD f 0/\c.2.1.getD f 0<(c.2.2.2.1.length:Int):=by omega
  have hti:0<=c.2.2.1.getD f 0/\c.2.2.1.getD f 0<(c.2.2.2.1.length:Int):=by omega
  have Z:f<c.2.2.1.length:=by omega
  simp only[Am,e,Z,decide_true,cond_true,Ac e,Ac Z,if_true,tNC,and_self,hfi,hti,p77 h hi1 (Ac e),p77 h (Ac e) hi2,Option.bind_some];rw[Ah (by omega) (by omega)]
  show(I3 c f=true->_)/\_;unfold I3 idn;by_cases b1:T c (c.2.2.2.1.getD (c.2.1.getD f 0).toNat 0).toNat f=(f:Int)
  .by_cases b2:T c f (c.2.2.2.1.getD (c.2.2.1.getD f 0).toNat 0).toNat=(f:Int)
   .simp only[b1,b2,decide_true,Bool.not_true,cond_false,Option.bind_some,Bool.and_self]
    exact⟨λ_=>rfl,(λh=>by cases h)⟩
   .simp only[b1,b2,decide_true,decide_false,Bool.not_true,Bool.not_false,cond_false,cond_true,Option.bind_some,Bool.and_false]
    exact⟨(λh=>by cases h),λ_=>⟨_,rfl,by simp⟩⟩
  .simp only[b1,decide_false,Bool.not_false,cond_true,Option.bind_some,Bool.false_and]
   exact⟨(λh=>by cases h),λ_=>⟨_,rfl,by simp⟩⟩
 .show ∃r,(if 0=0 then _ else none)=some r/\_
  rw[if_pos rfl];refine BK (Post:=fun(z:Option (Int×Int×Int×Int))=>∃r,z=some r/\(decide (r.1=0)=Ic c)) (st:=λi=>(i:Int)) (n:=c.2.1.length) (p:=λf=>(List.range c.2.1.length).all λg=>bif mt c f g then(List.range c.2.1.length).all λh=>DK c f g h else true) (Q:=fun(r:Int×Int×Int×Int)=>r.1≠0) (o:=.brk 2 (c.2.1.length:Int)) (λf e=>?_) (by simp) (λy=>by simp) (λhv=>?_) (λhv r E=>?_)
  .simp only[Am,e,decide_true,cond_true]
   refine BK (Post:=fun(z:Option (LO Int (Int×Int×Int×Int)))=>(((List.range c.2.1.length).all λg=>bif mt c f g then(List.range c.2.1.length).all λh=>DK c f g h else true)=true->z=some (.next ((f+1:Nat):Int)))/\(((List.range c.2.1.length).all λg=>bif mt c f g then(List.range c.2.1.length).all λh=>DK c f g h else true)=false->∃r,z=some (.ret r)/\r.1≠0))
    (st:=λi=>(i:Int)) (n:=c.2.1.length) (p:=λg=>bif mt c f g then(List.range c.2.1.length).all λh=>DK c f g h else true) (Q:=fun(r:LO Int (Int×Int×Int×Int))=>∃r',r=.ret r'/\r'.1≠0) (o:=.brk 4 (c.2.1.length:Int)) (λg u=>?_) (by simp) (λy=>by simp) (λA=>?_) (λA r E=>?_)
   .simp only[Am,u,decide_true,cond_true,p77 h (Ac e) (Ac u),tNC,Option.bind_some]
    rw[Ah (show(0:Int)<=(g:Int)+1 by omega) (by omega)]
    cases hm:mt c f g with
    |false=>
     have:=h.neg f g e u hm;simp only[this,show((-1:Int)<0) by decide,decide_true,cond_true,cond_false]
     exact⟨λ_=>rfl,(λh=>by cases h)⟩
    |true=>
     obtain⟨q1,q2,q3,q4⟩:=h.pos f g e u hm;simp only[show ¬ (T c f g<0) by omega,decide_false,cond_false,cond_true]
     refine BK (Post:=fun(z:Option (LO Int (LO Int (Int×Int×Int×Int))))=>(((List.range c.2.1.length).all λh=>DK c f g h)=true->z=some (.next ((g+1:Nat):Int)))/\(((List.range c.2.1.length).all λh=>DK c f g h)=false->∃r,z=some (.ret r)/\∃r',r=.ret r'/\r'.1≠0))
      (st:=λi=>(i:Int)) (n:=c.2.1.length) (p:=λh=>DK c f g h) (Q:=fun(r:LO Int (LO Int (Int×Int×Int×Int)))=>∃r',r=.ret (.ret r')/\r'.1≠0) (o:=.brk 6 (c.2.1.length:Int)) (λk W=>?_) (by simp) (λy=>by simp) (λA=>?_) (λA r E=>?_)
     .simp only[Am,W,decide_true,cond_true,p77 h (Ac u) (Ac W),tNC,Option.bind_some]
      rw[Ah (show(0:Int)<=(k:Int)+1 by omega) (by omega)]
      unfold DK;cases U:mt c g k with
      |false=>
       have:=h.neg g k u W U;simp only[this,show ¬ ((0:Int)<=-1) by decide,decide_false,cond_false,Option.bind_some]
       exact⟨λ_=>rfl,(λh=>by cases h)⟩
      |true=>
       obtain⟨w1,w2,w3,w4⟩:=h.pos g k u W U;simp only[w1,decide_true,cond_true,p77 h (Ac e) (Ac u),p77 h ⟨q1,q2⟩ (Ac W),p77 h (Ac e) ⟨w1,w2⟩,tNC,Option.bind_some];by_cases b:T c (T c f g).toNat k=T c f (T c g k).toNat
       .simp only[b,decide_true,Bool.not_true,cond_false]
        exact⟨λ_=>rfl,(λh=>by cases h)⟩
       .simp only[b,decide_false,Bool.not_false,cond_true]
        exact⟨(λh=>by cases h),λ_=>⟨_,rfl,_,rfl,by simp⟩⟩
     .refine⟨λ_=>?_,(λh=>by rw[A]at h;cases h)⟩
      show(if 6=6 then some (LO.next ((g:Int)+1))else none)=_
      rw[if_pos rfl];rfl
     .obtain⟨r',rfl,B⟩:=E
      exact⟨(λh=>by rw[A]at h;cases h),λ_=>⟨_,rfl,r',rfl,B⟩⟩
   .refine⟨λ_=>?_,(λh=>by rw[A]at h;cases h)⟩
    show(if 4=4 then some (LO.next (IntKind.wrap .i64 ((f:Int)+1)))else none)=_
    rw[if_pos rfl,Ah (by omega) (by omega)];rfl
   .obtain⟨r',rfl,B⟩:=E
    exact⟨(λh=>by rw[A]at h;cases h),λ_=>⟨r',rfl,B⟩⟩
  .exact⟨_,rfl,by unfold Ic;rw[hu,hv];rfl⟩
  .exact⟨r,rfl,by unfold Ic;rw[hu,hv];simpa using E⟩
 .exact⟨r,rfl,by unfold Ic;rw[hu];simpa using E⟩
open Go Go.Ve
theorem p123(h:Sh c):∃r,G123 c=some r/\(decide (r.1=0)=Ic c):=by
 have hh:=h.hd;obtain⟨a1,a2,a3,a4,a5,a6,a7,a8⟩:=hh;unfold G123;refine BK (Post:=fun(z:Option (Int×Int×Int×Int))=>∃r,z=some r/\(decide (r.1=0)=Ic c)) (st:=λi=>(i:Int)) (n:=c.2.1.length) (p:=I3 c) (Q:=fun(r:Int×Int×Int×Int)=>r.1≠0) (o:=.brk 0 (c.2.1.length:Int)) (λf A=>?_) (by simp) (λy=>by simp) (λhu=>?_) (λhu r U=>?_)
 .have hf1:=h.fr f A
  have W:=h.to f A;have hi1:=h.id _ hf1.1 hf1.2;have hi2:=h.id _ W.1 W.2;have hfi:0<=c.2.1.getD f 0/\c.2.1.getD f 0<(c.2.2.2.1.length:Int):=by omega
  have hti:0<=c.2.2.1.getD f 0/\c.2.2.1.getD f 0<(c.2.2.2.1.length:Int):=by omega
  have u:f<c.2.2.1.length:=by omega
  have e:f<c.2.2.2.2.length:=by omega
  have hi1':0<=c.2.2.2.1.getD (c.2.1.getD f 0).toNat 0/\c.2.2.2.1.getD (c.2.1.getD f 0).toNat 0<(c.2.2.2.2.length:Int):=by rw[a6];exact hi1
  have hr1:=h.row _ (inN hi1);have B:f<(c.2.2.2.2.getD (c.2.2.2.1.getD (c.2.1.getD f 0).toNat 0).toNat []).length:=by rw[hr1];exact A
  have hi2':0<=c.2.2.2.1.getD (c.2.2.1.getD f 0).toNat 0/\c.2.2.2.1.getD (c.2.2.1.getD f 0).toNat 0<((c.2.2.2.2.getD f []).length:Int):=by rw[h.row f A];exact hi2
  simp only[Am,A,u,e,decide_true,cond_true,Ac A,Ac u,Ac e,if_true,tNC,and_self,hfi,hti,hi1',hi2',Ac B,B,Option.bind_some];rw[Ah (by omega) (by omega)]
  show(I3 c f=true->_)/\_;unfold I3 idn T;by_cases b1:(c.2.2.2.2.getD (c.2.2.2.1.getD (c.2.1.getD f 0).toNat 0).toNat []).getD f 0=(f:Int)
  .by_cases b2:(c.2.2.2.2.getD f []).getD (c.2.2.2.1.getD (c.2.2.1.getD f 0).toNat 0).toNat 0=(f:Int)
   .simp only[b1,b2,decide_true,Bool.not_true,cond_false,Option.bind_some,Bool.and_self]
    exact⟨λ_=>rfl,(λh=>by cases h)⟩
   .simp only[b1,b2,decide_true,decide_false,Bool.not_true,Bool.not_false,cond_false,cond_true,Option.bind_some,Bool.and_false]
    exact⟨(λh=>by cases h),λ_=>⟨_,rfl,by simp⟩⟩
  .simp only[b1,decide_false,Bool.not_false,cond_true,Option.bind_some,Bool.false_and]
   exact⟨(λh=>by cases h),λ_=>⟨_,rfl,by simp⟩⟩
 .show ∃r,(if 0=0 then _ else none)=some r/\_
  rw[if_pos rfl];refine BK (Post:=fun(z:Option (Int×Int×Int×Int))=>∃r,z=some r/\(decide (r.1=0)=Ic c)) (st:=λi=>(i:Int)) (n:=c.2.1.length) (p:=λf=>(List.range c.2.1.length).all λg=>bif mt c f g then(List.range c.2.1.length).all λh=>DK c f g h else true) (Q:=fun(r:Int×Int×Int×Int)=>r.1≠0) (o:=.brk 2 (c.2.1.length:Int)) (λf A=>?_) (by simp) (λy=>by simp) (λhv=>?_) (λhv r U=>?_)
  .simp only[Am,A,decide_true,cond_true]
   refine BK (Post:=fun(z:Option (LO Int (Int×Int×Int×Int)))=>(((List.range c.2.1.length).all λg=>bif mt c f g then(List.range c.2.1.length).all λh=>DK c f g h else true)=true->z=some (.next ((f+1:Nat):Int)))/\(((List.range c.2.1.length).all λg=>bif mt c f g then(List.range c.2.1.length).all λh=>DK c f g h else true)=false->∃r,z=some (.ret r)/\r.1≠0))
    (st:=λi=>(i:Int)) (n:=c.2.1.length) (p:=λg=>bif mt c f g then(List.range c.2.1.length).all λh=>DK c f g h else true) (Q:=fun(r:LO Int (Int×Int×Int×Int))=>∃r',r=.ret r'/\r'.1≠0) (o:=.brk 4 (c.2.1.length:Int)) (λg hg=>?_) (by simp) (λy=>by simp) (λE=>?_) (λE r U=>?_)
   .have u:f<c.2.2.1.length:=by omega
    have hg3:g<c.2.2.1.length:=by omega
    have e:f<c.2.2.2.2.length:=by omega
    have hg6:g<c.2.2.2.2.length:=by omega
    simp only[Am,hg,u,decide_true,cond_true,Ac hg,Ac u,and_self,if_true,tNC];rw[Ah (show(0:Int)<=(g:Int)+1 by omega) (by omega)]
    show(((bif mt c f g then _ else true)=true)->(bif !mt c f g then _ else _)=_)/\(_->∃r,(bif !mt c f g then _ else _)=_/\_);cases hm:mt c f g with
    |false=>exact⟨λ_=>rfl,(λh=>by cases h)⟩
    |true=>
     obtain⟨q1,q2,q3,q4⟩:=h.pos f g A hg hm;simp only[Bool.not_true,cond_false,cond_true]
     refine BK (Post:=fun(z:Option (LO Int (LO Int (Int×Int×Int×Int))))=>(((List.range c.2.1.length).all λh=>DK c f g h)=true->z=some (.next ((g+1:Nat):Int)))/\(((List.range c.2.1.length).all λh=>DK c f g h)=false->∃r,z=some (.ret r)/\∃r',r=.ret r'/\r'.1≠0))
      (st:=λi=>(i:Int)) (n:=c.2.1.length) (p:=λh=>DK c f g h) (Q:=fun(r:LO Int (LO Int (Int×Int×Int×Int)))=>∃r',r=.ret (.ret r')/\r'.1≠0) (o:=.brk 6 (c.2.1.length:Int)) (λk hk=>?_) (by simp) (λy=>by simp) (λE=>?_) (λE r U=>?_)
     .have e1:(c.2.2.2.2.getD f []).length=c.2.1.length:=h.row f A
      have e2:(c.2.2.2.2.getD g []).length=c.2.1.length:=h.row g hg;have e3:(c.2.2.2.2.getD (T c f g).toNat []).length=c.2.1.length:=h.row _ (inN ⟨q1,q2⟩);have hgf:g<(c.2.2.2.2.getD f []).length:=by omega
      have hkg:k<(c.2.2.2.2.getD g []).length:=by omega
      have hkt:k<(c.2.2.2.2.getD (T c f g).toNat []).length:=by omega
      have ht:0<=T c f g/\T c f g<(c.2.2.2.2.length:Int):=by omega
      simp only[Am,hk,hg3,decide_true,cond_true,Ac hk,Ac hg3,Ac e,Ac hg6,Ac hgf,Ac hkg,e,hg6,hgf,hkg,and_self,if_true,tNC];rw[Ah (show(0:Int)<=(k:Int)+1 by omega) (by omega)]
      have eM:decide (c.2.2.1.getD g 0=c.2.1.getD k 0)=mt c g k:=rfl;have eT:∀a b,(c.2.2.2.2.getD a []).getD b 0=T c a b:=λ_ _=>rfl
      have Z:(k:Int)<((c.2.2.2.2.getD (T c f g).toNat []).length:Int):=by omega
      simp only[eM,eT,Z,and_self,if_true];unfold DK;cases hm2:mt c g k with
      |false=>exact⟨λ_=>rfl,(λh=>by cases h)⟩
      |true=>
       obtain⟨w1,w2,w3,w4⟩:=h.pos g k hg hk hm2;have hw':0<=T c g k/\T c g k<((c.2.2.2.2.getD f []).length:Int):=by omega
       simp only[cond_true,ht,Ac hkt,hw',and_self,if_true,Option.bind_some];by_cases b:T c (T c f g).toNat k=T c f (T c g k).toNat
       .simp only[b,decide_true,Bool.not_true,cond_false]
        exact⟨λ_=>rfl,(λh=>by cases h)⟩
       .simp only[b,decide_false,Bool.not_false,cond_true]
        exact⟨(λh=>by cases h),λ_=>⟨_,rfl,_,rfl,by simp⟩⟩
     .refine⟨λ_=>?_,(λh=>by rw[E]at h;cases h)⟩
      show(if 6=6 then some (LO.next ((g:Int)+1))else none)=_
      rw[if_pos rfl];rfl
     .obtain⟨r',rfl,J⟩:=U
      exact⟨(λh=>by rw[E]at h;cases h),λ_=>⟨_,rfl,r',rfl,J⟩⟩
   .refine⟨λ_=>?_,(λh=>by rw[E]at h;cases h)⟩
    show(if 4=4 then some (LO.next (IntKind.wrap .i64 ((f:Int)+1)))else none)=_
    rw[if_pos rfl,Ah (by omega) (by omega)];rfl
   .obtain⟨r',rfl,J⟩:=U
    exact⟨(λh=>by rw[E]at h;cases h),λ_=>⟨r',rfl,J⟩⟩
  .exact⟨_,rfl,by unfold Ic;rw[hu,hv];rfl⟩
  .exact⟨r,rfl,by unfold Ic;rw[hu,hv];simpa using U⟩
 .exact⟨r,rfl,by unfold Ic;rw[hu];simpa using U⟩
open Go Go.Ve
def HF(c:Cat):Bool:=DR c&&Ic c
def p79(h:okC c):G79 c=some (HF c):=by
 unfold G79;simp only[p122 h,Option.bind_some];unfold HF;cases hs:DR c with
 |false=>rfl
 |true=>
  obtain⟨r,e,u⟩:=p123 (Zl hs);simp only[e,Option.bind_some,u,Bool.not_true,cond_false,Bool.true_and]
def p83(h:okC c):G83 c=some (HF c):=by
 unfold G83;simp only[p124 h,Option.bind_some];unfold HF;cases hs:DR c with
 |false=>rfl
 |true=>
  obtain⟨r,e,u⟩:=p125 (Zl hs);simp only[e,Option.bind_some,u,Bool.not_true,cond_false,Bool.true_and]
abbrev Qry:=List Int×List (Int×Int)×List (Int×Int)×List Int
def qHead(c:Cat)(q:Qry):Prop:=q.1.length<=4/\wi c.1 q.1=true/\q.2.1.length<=6/\q.2.2.1.length=q.2.1.length/\q.2.2.2.length<=4/\wi q.1.length q.2.2.2=true
instance(c:Cat)(q:Qry):Decidable (qHead c q):=by unfold qHead;infer_instance
open Go Go.Ve
open Go Go.Ve
end Go.Ve.D

