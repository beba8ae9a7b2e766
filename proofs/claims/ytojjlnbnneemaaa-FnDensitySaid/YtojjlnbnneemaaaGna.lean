/- Copies, equalities, sizes: what they compute. -/
import Derived.Test.YtojjlnbnneemaaaUd
import Derived.Test.YtojjlnbnneemaaaLa
import Derived.Test.YtojjlnbnneemaaaTr
open Go.IntKind(wrap)
open Option(bind_some)
open List(range)
set_option linter.all false
namespace Go.Ve.D
open Go Go.Ve
variable{a n:Int}{x:List Int}
def okC(c:Int×List Int×List Int×List Int×List (List Int)):Prop:=c.2.1.length<=1048576/\c.2.2.1.length<=1048576/\c.2.2.2.1.length<=1048576/\c.2.2.2.2.length<=1048576/\∀y∈c.2.2.2.2,y.length<=1048576
open Go Go.Ve
open Go Go.Ve
def p156(a l h:Int):G156 (a,(l,h))=some (decide (l<=a)&&decide (a<=h)):=by
 delta G156 an
 by_cases u:l<=a<;>simp[u]
def p76(a l h:Int):G76 (a,(l,h))=some (decide (l<=a)&&decide (a<=h)):=by
 delta G76 an
 by_cases u:l<=a<;>simp[u]
def p76'(a n:Int)(u:0<=n/\n<=9223372036854775807):G76 (a,((0:Int),wrap .i64 (n-1)))=some (inn n a):=by
 rw[p76,AaA (by omega) (by omega)]
 unfold inn
 congr 2
 rw[Bool.eq_iff_iff];simp;omega
def p140(J:x.length<=1048576):G140 (n,x)=some (wi n x):=by
 delta G140 lw lt gd l0 sc nx bk
 have h:=Cr (R:=Bool) (f:=(fun(v0:Int)=>(bif(decide (v0<((x.length:Nat):Int)))then(if(((0:Int)<=v0)/\(v0<((x.length:Nat):Int)))then(Option.bind (bif(decide ((x.getD (v0).toNat (0:Int))<(0:Int)))then(some true)else(if(((0:Int)<=v0)/\(v0<((x.length:Nat):Int)))then(some (decide (n<=(x.getD (v0).toNat (0:Int)))))else none)) (fun(E:Bool)=>(bif E then(Ck (some false))else(some (LO.next (wrap .i64 (v0+(1:Int))))))))else none)else(some (LO.brk 0 v0)))))
  (st:=λi=>(i:Int)) (n:=x.length) (p:=λi=>inn n (x.getD i 0)) (r:=false) (o:=.brk 0 (x.length:Int)) (λi B=>by
   simp only[Af,B,decide_true,cond_true,Ac B,if_true,tNC,and_self];rw[Ah (by omega) (by omega)]
   by_cases u:x.getD i 0<0
   .have:inn n (x.getD i 0)=false:=Z7 u
    simp only[u,decide_true,cond_true,bind_some,this,cond_false];rfl
   .by_cases A:n<=x.getD i 0
    .have:inn n (x.getD i 0)=false:=Z6 A
     simp only[u,A,decide_false,decide_true,cond_true,cond_false,bind_some,this];rfl
    .have:inn n (x.getD i 0)=true:=Xa (by omega) (by omega)
     simp only[u,A,decide_false,cond_true,cond_false,bind_some,this];rfl) (by simp) (λy=>by simp)
 rw[MK 0 (inn n) x]at h;refine Ao h ?_;show _=some (wi n x);unfold wi;cases x.all (inn n)<;>rfl
def p93(B:0<=n/\n<=9223372036854775807)(E:x.length<=1048576):G93 (x,n)=some (wi n x):=by
 delta G93 lw lt gd l0 wz sc nx bk
 have h:=Cr (R:=Bool) (f:=(fun(v0:Int)=>(bif(decide (v0<((x.length:Nat):Int)))then(if(((0:Int)<=v0)/\(v0<((x.length:Nat):Int)))then(Option.bind (G76 ((x.getD (v0).toNat (0:Int)),((0:Int),(wrap .i64 (n-(1:Int)))))) (fun(A:Bool)=>(bif(!A)then(Ck (some false))else(some (LO.next (wrap .i64 (v0+(1:Int))))))))else none)else(some (LO.brk 0 v0)))))
  (st:=λi=>(i:Int)) (n:=x.length) (p:=λi=>inn n (x.getD i 0)) (r:=false) (o:=.brk 0 (x.length:Int)) (λi u=>by
   simp only[Af,u,decide_true,cond_true,Ac u,if_true,tNC,and_self,p76' _ _ B,bind_some];rw[Ah (by omega) (by omega)]
   cases inn n (x.getD i 0)<;>rfl) (by simp) (λy=>by simp)
 rw[MK 0 (inn n) x]at h;refine Ao h ?_;show _=some (wi n x);unfold wi;cases x.all (inn n)<;>rfl
def p159{m:Int}(u:x.length<=1048576):G159 (x,(m,n))=some (decide ((x.length:Int)=m)&&wi n x):=by
 delta G159 an
 simp only[p140 u,bind_some];by_cases h:(x.length:Int)=m<;>simp[h]
open Go Go.Ve
abbrev Cat:=Int×List Int×List Int×List Int×List (List Int)
variable{c:Cat}
def B0(c:Cat)(f g:Nat):Bool:=
 bif !decide (c.2.2.1.getD f 0=c.2.1.getD g 0)then decide ((c.2.2.2.2.getD f []).getD g 0= -1)
 else inn c.2.1.length ((c.2.2.2.2.getD f []).getD g 0)&&(decide (c.2.1.getD ((c.2.2.2.2.getD f []).getD g 0).toNat 0=c.2.1.getD f 0)&&decide (c.2.2.1.getD ((c.2.2.2.2.getD f []).getD g 0).toNat 0=c.2.2.1.getD g 0))
def DA(c:Cat)(f:Nat):Bool:=decide ((c.2.2.2.2.getD f []).length=c.2.1.length)&&(range c.2.1.length).all (B0 c f)
def Vg(c:Cat)(i:Nat):Bool:=decide (c.2.1.getD (c.2.2.2.1.getD i 0).toNat 0=i)&&decide (c.2.2.1.getD (c.2.2.2.1.getD i 0).toNat 0=i)
def II(c:Cat):Prop:=(0<=c.1/\c.1<=8)/\c.2.1.length<=40/\c.2.2.1.length=c.2.1.length/\wi c.1 c.2.1=true/\wi c.1 c.2.2.1=true/\c.2.2.2.2.length=c.2.1.length/\(c.2.2.2.1.length:Int)=c.1/\wi c.2.1.length c.2.2.2.1=true
instance(c:Cat):Decidable (II c):=by unfold II;infer_instance
def DW(c:Cat):Bool:=decide (II c)&&((range c.2.2.2.1.length).all (Vg c)&&(range c.2.1.length).all (DA c))
def p143i(h:II c)(F:Int->Option (LO Int Bool))(Y:F=(fun(u:Int)=>(bif(decide (u<c.1))then(if(((0:Int)<=u)/\(u<((c.2.2.2.1.length:Nat):Int)))then(if(((0:Int)<=(c.2.2.2.1.getD (u).toNat (0:Int)))/\((c.2.2.2.1.getD (u).toNat (0:Int))<((c.2.1.length:Nat):Int)))then(Option.bind (bif(!decide ((c.2.1.getD ((c.2.2.2.1.getD (u).toNat (0:Int))).toNat (0:Int))=u))then(some true)else(if(((0:Int)<=u)/\(u<((c.2.2.2.1.length:Nat):Int)))then(if(((0:Int)<=(c.2.2.2.1.getD (u).toNat (0:Int)))/\((c.2.2.2.1.getD (u).toNat (0:Int))<((c.2.2.1.length:Nat):Int)))then(some (!decide ((c.2.2.1.getD ((c.2.2.2.1.getD (u).toNat (0:Int))).toNat (0:Int))=u)))else none)else none)) (fun(W:Bool)=>(bif W then(Ck (some false))else(some (LO.next (wrap .i64 (u+(1:Int))))))))else none)else none)else(some (LO.brk 0 u))))):
  A4 F 0=some (bif(range c.2.2.2.1.length).all (Vg c)then .brk 0 c.1 else .ret false):=by
 obtain⟨a1,a2,a3,a4,a5,a6,a7,a8⟩:=h;subst Y;refine Cr (st:=λi=>(i:Int)) (λi J=>?_) (by simp[a7]) (λy=>by simp)
 have A:((i:Int)<c.1):=by omega
 have O:=DY a8 J;have B:0<=c.2.2.2.1.getD i 0/\c.2.2.2.1.getD i 0<(c.2.2.1.length:Int):=by rw[a3];exact O
 simp only[A,decide_true,cond_true,Ac J,if_true,tNC,and_self,O,B];rw[Ah (by omega) (by omega)]
 unfold Vg;by_cases E:c.2.1.getD (c.2.2.2.1.getD i 0).toNat 0=(i:Int)
 .by_cases U:c.2.2.1.getD (c.2.2.2.1.getD i 0).toNat 0=(i:Int)
  .simp only[E,U,decide_true,Bool.not_true,cond_false,cond_true,bind_some,Bool.and_self];rfl
  .simp only[E,U,decide_true,decide_false,Bool.not_true,Bool.not_false,cond_false,cond_true,bind_some,Bool.and_false];rfl
 .simp only[E,decide_false,Bool.not_false,cond_false,cond_true,bind_some,Bool.false_and];rfl
open Go Go.Ve
def BG(h:¬II c):DW c=false:=by simp[DW,h]
def p143(h:okC c):G143 c=some (DW c):=by
 obtain⟨h1,h2,h3,h4,h5⟩:=h
 delta G143 ln lw l2 g2 lt gd li l0 q4 sc nx bk
 simp only[p156,p159 h1,p159 h2,p140 h3,bind_some,decide_true,Bool.true_and];by_cases c1:0<=c.1/\c.1<=8
 case neg=>
  have e:(decide (0<=c.1)&&decide (c.1<=8))=false:=by simp;omega
  simp only[e,Bool.not_false,cond_true,bind_some,BG λh=>c1 h.1]
 have O:(decide (0<=c.1)&&decide (c.1<=8))=true:=by simp[c1]
 simp only[O,Bool.not_true,cond_false,bind_some];by_cases c2:(40:Int)<(c.2.1.length:Int)
 case pos=>simp only[c2,decide_true,cond_true,bind_some,BG (c:=c) λh=>absurd h.2.1 (by omega)]
 simp only[c2,decide_false,cond_false];cases c3:wi c.1 c.2.1 with
 |false=>simp only[Bool.not_false,cond_true,bind_some,BG λh=>by have:=h.2.2.2.1;rw[c3]at this;cases this]
 |true=>
 simp only[Bool.not_true,cond_false,bind_some];by_cases c4:(c.2.2.1.length:Int)=(c.2.1.length:Int)
 case neg=>simp only[c4,decide_false,Bool.false_and,Bool.not_false,cond_true,bind_some,BG λh=>c4 (by rw[h.2.2.1])]
 simp only[dT c4,Bool.true_and];cases c5:wi c.1 c.2.2.1 with
 |false=>simp only[Bool.not_false,cond_true,bind_some,BG λh=>by have:=h.2.2.2.2.1;rw[c5]at this;cases this]
 |true=>
 simp only[Bool.not_true,cond_false,bind_some];by_cases c6:(c.2.2.2.2.length:Int)=(c.2.1.length:Int)
 case neg=>simp only[c6,decide_false,Bool.not_false,cond_true,bind_some,BG λh=>c6 (by rw[h.2.2.2.2.2.1])]
 simp only[dT c6,Bool.not_true,cond_false];by_cases c7:(c.2.2.2.1.length:Int)=c.1
 case neg=>simp only[c7,decide_false,Bool.not_false,cond_true,bind_some,BG λh=>c7 h.2.2.2.2.2.2.1]
 simp only[dT c7,Bool.not_true,cond_false];cases c8:wi c.2.1.length c.2.2.2.1 with
 |false=>simp only[Bool.not_false,cond_true,bind_some,BG λh=>by have:=h.2.2.2.2.2.2.2;rw[c8]at this;cases this]
 |true=>
 simp only[Bool.not_true,cond_false,bind_some];have U:II c:=⟨c1,by omega,by omega,c3,c5,by omega,c7,c8⟩
 have hs:DW c=((range c.2.2.2.1.length).all (Vg c)&&(range c.2.1.length).all (DA c)):=by simp[DW,U]
 rw[hs];have g:=p143i U _ rfl;refine Ao g ?_;cases hi:(range c.2.2.2.1.length).all (Vg c)with
 |false=>rfl
 |true=>
 simp only[cond_true,Bool.true_and];obtain⟨a1,a2,a3,a4,a5,a6,a7,a8⟩:=U;show(if 0=0 then _ else _)=_
 rw[if_pos rfl];refine Ao (v:=bif(range c.2.1.length).all (DA c)then .brk 2 (c.2.1.length:Int)else .ret false) (Cr (st:=λi=>(i:Int)) (λf J=>?_) (by simp) (λy=>by simp)) (by cases (range c.2.1.length).all (DA c)<;>rfl)
 have u:f<c.2.2.2.2.length:=by omega
 simp only[Af,J,u,decide_true,cond_true,Ac J,Ac u,if_true,tNC,and_self];by_cases d1:((c.2.2.2.2.getD f []).length:Int)=(c.2.1.length:Int)
 case neg=>
  have:DA c f=false:=by unfold DA;simp only[show ¬ (c.2.2.2.2.getD f []).length=c.2.1.length by omega,decide_false,Bool.false_and]
  simp only[d1,decide_false,Bool.not_false,cond_true,this,cond_false];rfl
 have d2:(c.2.2.2.2.getD f []).length=c.2.1.length:=by omega
 have hr:DA c f=(range c.2.1.length).all (B0 c f):=by unfold DA;simp only[d2,decide_true,Bool.true_and]
 simp only[dT d1,Bool.not_true,cond_false];rw[hr]
 refine Ao (v:=bif(range c.2.1.length).all (B0 c f)then .brk 4 (c.2.1.length:Int)else .ret (.ret false)) (Cr (st:=λi=>(i:Int)) (λg hg=>?_) (by simp) (λy=>by simp)) (by
  cases (range c.2.1.length).all (B0 c f)with
  |false=>rfl
  |true=>
   show(if 4=4 then some (LO.next (wrap .i64 ((f:Int)+1)))else none)=_
   rw[if_pos rfl,Ah (by omega) (by omega)];rfl)
 have E:f<c.2.2.1.length:=by omega
 have B:g<c.2.2.1.length:=by omega
 have W:(g:Int)<((c.2.2.2.2.getD f []).length:Int):=by omega
 simp only[Af,J,hg,E,B,W,decide_true,cond_true,Ac J,Ac hg,Ac u,Ac E,Ac B,if_true,tNC,and_self];rw[Ah (show(0:Int)<=(g:Int)+1 by omega) (by omega)]
 unfold B0;obtain⟨k,Z⟩:∃k,k=(c.2.2.2.2.getD f []).getD g 0:=⟨_,rfl⟩;simp only[<-Z];clear Z;by_cases O:c.2.2.1.getD f 0=c.2.1.getD g 0
 case neg=>
  simp only[O,decide_false,Bool.not_false,cond_true];by_cases A:k= -1
  .simp only[A,decide_true,Bool.not_true,cond_false,cond_true];rfl
  .simp only[A,decide_false,Bool.not_false,cond_false,cond_true];rfl
 simp only[O,decide_true,Bool.not_true,cond_false];by_cases A:k<0
 case pos=>simp only[A,decide_true,cond_true,bind_some,Z7 A,Bool.false_and,cond_false];rfl
 simp only[A,decide_false,cond_false,bind_some];by_cases Y:(c.2.1.length:Int)<=k
 case pos=>simp only[Y,decide_true,cond_true,bind_some,Z6 Y,Bool.false_and,cond_false];rfl
 have e4:inn c.2.1.length k=true:=Xa (by omega) (by omega)
 have e5:0<=k/\k<(c.2.1.length:Int):=by omega
 have e6:0<=k/\k<(c.2.2.1.length:Int):=by omega
 simp only[Y,decide_false,cond_false,bind_some,e4,e5,e6,and_self,if_true,Bool.true_and];by_cases e7:c.2.1.getD k.toNat 0=c.2.1.getD f 0
 case neg=>simp only[e7,decide_false,Bool.not_false,cond_true,cond_false,bind_some,Bool.false_and];rfl
 simp only[e7,decide_true,Bool.not_true,cond_false,Bool.true_and];by_cases e8:c.2.2.1.getD k.toNat 0=c.2.2.1.getD g 0
 .simp only[e8,decide_true,Bool.not_true,cond_false,cond_true,bind_some];rfl
 .simp only[e8,decide_false,Bool.not_false,cond_false,cond_true,bind_some];rfl
open Go Go.Ve
def p89(c:Cat):G89 c=some (c.2.1.length:Int):=rfl
def p58(A:0<=a/\a<(c.2.1.length:Int))(u:0<=a/\a<(c.2.2.1.length:Int)):G58 (c,a)=some (c.2.1.getD a.toNat 0,c.2.2.1.getD a.toNat 0):=by
 delta G58 gd l0
 simp only[A,u,and_self,if_true]
def p114(h:okC c):G114 c=some (DW c):=by
 obtain⟨h1,h2,h3,h4,h5⟩:=h
 delta G114 ln lw l2 lt gd li l0 q4 wz sc nx bk
 simp only[p89,p76 c.1 0 8,bind_some];by_cases c1:0<=c.1/\c.1<=8
 case neg=>
  have e:(decide (0<=c.1)&&decide (c.1<=8))=false:=by simp;omega
  simp only[e,Bool.not_false,cond_true,bind_some,BG λh=>c1 h.1]
 have Y:(decide (0<=c.1)&&decide (c.1<=8))=true:=by simp[c1]
 have A:0<=c.1/\c.1<=9223372036854775807:=by omega
 have hm:(0:Int)<=(c.2.1.length:Int)/\(c.2.1.length:Int)<=9223372036854775807:=by omega
 simp only[Y,Bool.not_true,cond_false,bind_some,p93 A h1,p93 A h2,p93 hm h3];by_cases c2:(40:Int)<(c.2.1.length:Int)
 case pos=>simp only[c2,decide_true,cond_true,bind_some,BG (c:=c) λh=>absurd h.2.1 (by omega)]
 simp only[c2,decide_false,cond_false,bind_some];by_cases c4:(c.2.2.1.length:Int)=(c.2.1.length:Int)
 case neg=>simp only[c4,decide_false,Bool.not_false,cond_true,bind_some,BG λh=>c4 (by rw[h.2.2.1])]
 simp only[dT c4,Bool.not_true,cond_false,bind_some];cases c3:wi c.1 c.2.1 with
 |false=>simp only[Bool.not_false,cond_true,bind_some,BG λh=>by have:=h.2.2.2.1;rw[c3]at this;cases this]
 |true=>
 simp only[Bool.not_true,cond_false,bind_some];cases c5:wi c.1 c.2.2.1 with
 |false=>simp only[Bool.not_false,cond_true,bind_some,BG λh=>by have:=h.2.2.2.2.1;rw[c5]at this;cases this]
 |true=>
 simp only[Bool.not_true,cond_false,bind_some];by_cases c7:(c.2.2.2.1.length:Int)=c.1
 case neg=>simp only[c7,decide_false,Bool.not_false,cond_true,bind_some,BG λh=>c7 h.2.2.2.2.2.2.1]
 simp only[dT c7,Bool.not_true,cond_false];cases c8:wi c.2.1.length c.2.2.2.1 with
 |false=>simp only[Bool.not_false,cond_true,bind_some,BG λh=>by have:=h.2.2.2.2.2.2.2;rw[c8]at this;cases this]
 |true=>
 simp only[Bool.not_true,cond_false,bind_some];by_cases c6:(c.2.2.2.2.length:Int)=(c.2.1.length:Int)
 case neg=>simp only[c6,decide_false,Bool.not_false,cond_true,bind_some,BG λh=>c6 (by rw[h.2.2.2.2.2.1])]
 simp only[dT c6,Bool.not_true,cond_false,bind_some];have hh:II c:=⟨c1,by omega,by omega,c3,c5,by omega,c7,c8⟩
 have hs:DW c=((range c.2.2.2.1.length).all (Vg c)&&(range c.2.1.length).all (DA c)):=by simp[DW,hh]
 rw[hs];obtain⟨a1,a2,a3,a4,a5,a6,a7,a8⟩:=hh;refine Ao (v:=bif(range c.2.2.2.1.length).all (Vg c)then .brk 0 (c.2.2.2.1.length:Int)else .ret false) (Cr (st:=λi=>(i:Int)) (λi U=>?_) (by simp) (λy=>by simp)) ?_
 .have J:=DY a8 U
  have Z:0<=c.2.2.2.1.getD i 0/\c.2.2.2.1.getD i 0<(c.2.2.1.length:Int):=by rw[a3];exact J
  simp only[Af,U,decide_true,cond_true,Ac U,if_true,tNC,and_self,p58 J Z,bind_some,Bool.and_true];rw[Ah (by omega) (by omega)]
  show(bif !Vg c i then _ else _)=_;cases Vg c i<;>rfl
 cases U:(range c.2.2.2.1.length).all (Vg c)with
 |false=>rfl
 |true=>
 simp only[cond_true,Bool.true_and];show(if 0=0 then _ else _)=_
 rw[if_pos rfl];refine Ao (v:=bif(range c.2.1.length).all (DA c)then .brk 2 (c.2.1.length:Int)else .ret false) (Cr (st:=λi=>(i:Int)) (λf hf=>?_) (by simp[a6]) (λy=>by simp)) (by cases (range c.2.1.length).all (DA c)<;>rfl)
 have u:f<c.2.2.2.2.length:=by omega
 simp only[Af,u,decide_true,cond_true,Ac u,if_true,tNC,and_self];by_cases d1:((c.2.2.2.2.getD f []).length:Int)=(c.2.1.length:Int)
 case neg=>
  have:DA c f=false:=by unfold DA;simp only[show ¬ (c.2.2.2.2.getD f []).length=c.2.1.length by omega,decide_false,Bool.false_and]
  simp only[d1,decide_false,Bool.not_false,cond_true,this,cond_false];rfl
 have d2:(c.2.2.2.2.getD f []).length=c.2.1.length:=by omega
 have hr:DA c f=(range c.2.1.length).all (B0 c f):=by unfold DA;simp only[d2,decide_true,Bool.true_and]
 simp only[dT d1,Bool.not_true,cond_false];rw[hr]
 refine Ao (v:=bif(range c.2.1.length).all (B0 c f)then .brk 4 (c.2.1.length:Int)else .ret (.ret false)) (Cr (st:=λi=>(i:Int)) (λg J=>?_) (by simp only[dF (show ¬ ((c.2.1.length:Int)<((c.2.2.2.2.getD f []).length:Int)) by omega),cond_false]) (λy=>by simp)) (by
  cases (range c.2.1.length).all (B0 c f)with
  |false=>rfl
  |true=>
   show(if 4=4 then some (LO.next (wrap .i64 ((f:Int)+1)))else none)=_
   rw[if_pos rfl,Ah (by omega) (by omega)];rfl)
 have O:f<c.2.2.1.length:=by omega
 have E:g<c.2.2.1.length:=by omega
 have B:g<(c.2.2.2.2.getD f []).length:=by omega
 simp only[Af,hf,J,O,E,B,decide_true,cond_true,Ac hf,Ac J,Ac u,Ac O,Ac E,Ac B,if_true,tNC,and_self,p76' _ _ hm,bind_some];rw[Ah (show(0:Int)<=(g:Int)+1 by omega) (by omega)]
 unfold B0;obtain⟨k,hk⟩:∃k,k=(c.2.2.2.2.getD f []).getD g 0:=⟨_,rfl⟩;simp only[<-hk];clear hk;by_cases Y:c.2.2.1.getD f 0=c.2.1.getD g 0
 case neg=>
  simp only[Y,decide_false,Bool.not_false,cond_true];by_cases W:k= -1
  .simp only[W,decide_true,Bool.not_true,cond_false,cond_true];rfl
  .simp only[W,decide_false,Bool.not_false,cond_false,cond_true];rfl
 simp only[Y,decide_true,Bool.not_true,cond_false];cases W:inn c.2.1.length k with
 |false=>simp only[Bool.not_false,cond_true,bind_some,Bool.false_and,cond_false];rfl
 |true=>
 have e5:=Io.1 W;have e6:0<=k/\k<(c.2.2.1.length:Int):=by omega
 simp only[Bool.not_true,cond_false,p58 e5 e6,bind_some,Bool.true_and,Bool.and_true];cases (decide (c.2.1.getD k.toNat 0=c.2.1.getD f 0)&&decide (c.2.2.1.getD k.toNat 0=c.2.2.1.getD g 0))<;>rfl
open Go Go.Ve
def T(c:Cat)(f g:Nat):Int:=(c.2.2.2.2.getD f []).getD g 0
def idn(c:Cat)(x:Int):Nat:=(c.2.2.2.1.getD x.toNat 0).toNat
def Iz(c:Cat)(f:Nat):Bool:=decide (T c (idn c (c.2.1.getD f 0)) f=(f:Int))&&decide (T c f (idn c (c.2.2.1.getD f 0))=(f:Int))
def mt(c:Cat)(f g:Nat):Bool:=decide (c.2.2.1.getD f 0=c.2.1.getD g 0)
def DQ(c:Cat)(f g h:Nat):Bool:=bif mt c g h then decide (T c (T c f g).toNat h=T c f (T c g h).toNat)else true
def HM(c:Cat):Bool:=(range c.2.1.length).all (Iz c)&&(range c.2.1.length).all λf=>(range c.2.1.length).all λg=>bif mt c f g then(range c.2.1.length).all λh=>DQ c f g h else true
structure Sh(c:Cat):Prop where
 hd:II c
 id:∀x:Int,0<=x->x<c.1->(0<=c.2.2.2.1.getD x.toNat 0/\c.2.2.2.1.getD x.toNat 0<(c.2.1.length:Int))
 fr:∀f,f<c.2.1.length->0<=c.2.1.getD f 0/\c.2.1.getD f 0<c.1
 to:∀f,f<c.2.1.length->0<=c.2.2.1.getD f 0/\c.2.2.1.getD f 0<c.1
 row:∀f,f<c.2.1.length->(c.2.2.2.2.getD f []).length=c.2.1.length
 neg:∀f g,f<c.2.1.length->g<c.2.1.length->mt c f g=false->T c f g= -1
 pos:∀f g,f<c.2.1.length->g<c.2.1.length->mt c f g=true->0<=T c f g/\T c f g<(c.2.1.length:Int)/\c.2.1.getD (T c f g).toNat 0=c.2.1.getD f 0/\c.2.2.1.getD (T c f g).toNat 0=c.2.2.1.getD g 0
theorem Aa1(h:DW c=true):Sh c:=by
 unfold DW at h;simp only[bAE,decide_eq_true_eq]at h;obtain⟨O,Y,U⟩:=h;have B:∀f,f<c.2.1.length->DA c f=true:=λf u=>aET.1 U f (List.mem_range.2 u)
 have A:∀f g,f<c.2.1.length->g<c.2.1.length->B0 c f g=true:=λf g u J=>by
  have:=B f u;unfold DA at this;rw[bAE]at this;exact aET.1 this.2 g (List.mem_range.2 J)
 have W:=O;obtain⟨a1,a2,a3,a4,a5,a6,a7,a8⟩:=O;refine⟨W,λx h1 Z=>DY a8 (by omega),λf u=>DY a4 u,λf u=>DY a5 (by omega),λf u=>?_,λf g u J E=>?_,λf g u J E=>?_⟩
 .have:=B f u
  unfold DA at this;rw[bAE]at this;exact of_decide_eq_true this.1
 .have:=A f g u J
  unfold B0 at this;unfold mt at E;rw[E]at this;exact of_decide_eq_true this
 .have:=A f g u J
  unfold B0 at this;unfold mt at E;rw[E]at this;simp only[Bool.not_true,cond_false,bAE,decide_eq_true_eq]at this;exact⟨(Io.1 this.1).1,(Io.1 this.1).2,this.2.1,this.2.2⟩
def Cq{X R S:Type}{f:X->Option (LO X R)}{st:Nat->X}{n:Nat}{p:Nat->Bool}{Q:R->Prop}{o:LO X R}{k:LO X R->Option S}{Post:Option S->Prop}
  (U:∀i,i<n->(p i=true->f (st i)=some (.next (st (i+1))))/\(p i=false->∃r,f (st i)=some (.ret r)/\Q r)) (O:f (st n)=some o) (B:∀y,o≠.next y)
  (J:(range n).all p=true->Post (k o)) (E:(range n).all p=false->∀r,Q r->Post (k (.ret r))):Post (Option.bind (A4 f (st 0)) k):=by
 obtain⟨g1,g2⟩:=VA U O B;cases h:(range n).all p with
 |true=>rw[g1 h];exact J h
 |false=>obtain⟨r,u,A⟩:=g2 h;rw[u];exact E h r A
def inN{n:Nat}(h:0<=a/\a<(n:Int)):a.toNat<n:=by omega
def p82(h:Sh c){f g:Int}(u:0<=f/\f<(c.2.1.length:Int))(A:0<=g/\g<(c.2.1.length:Int)):G82 (c,(f,g))=some (T c f.toNat g.toNat):=by
 delta G82 l2 g2 q4 gd
 have O:c.2.2.2.2.length=c.2.1.length:=h.hd.2.2.2.2.2.1;have J:=h.row f.toNat (inN u);have E:0<=f/\f<(c.2.2.2.2.length:Int):=by rw[O];exact u
 have B:0<=g/\g<((c.2.2.2.2.getD f.toNat []).length:Int):=by rw[J];exact A
 simp only[E,B,and_self,if_true];rfl
theorem p115(h:Sh c):∃r,G115 c=some r/\(decide (r.1=0)=HM c):=by
 have hh:=h.hd;obtain⟨a1,a2,a3,a4,a5,a6,a7,a8⟩:=hh
 delta G115 lw an lt gd l0 sc nx bk
 simp only[p89,bind_some];refine Cq (Post:=fun(z:Option (Int×Int×Int×Int))=>∃r,z=some r/\(decide (r.1=0)=HM c)) (st:=λi=>(i:Int)) (n:=c.2.1.length) (p:=Iz c) (Q:=fun(r:Int×Int×Int×Int)=>r.1≠0) (o:=.brk 0 (c.2.1.length:Int)) (λf u=>?_) (by simp) (λy=>by simp) (λhu=>?_) (λhu r J=>?_)
 .have Z:=h.fr f u
  have O:=h.to f u;have hi1:=h.id _ Z.1 Z.2;have hi2:=h.id _ O.1 O.2;have hfi:0<=c.2.1.getD f 0/\c.2.1.getD f 0<(c.2.2.2.1.length:Int):=by omega
  have hti:0<=c.2.2.1.getD f 0/\c.2.2.1.getD f 0<(c.2.2.2.1.length:Int):=by omega
  have Y:f<c.2.2.1.length:=by omega
  simp only[Af,u,Y,decide_true,cond_true,Ac u,Ac Y,if_true,tNC,and_self,hfi,hti,p82 h hi1 (Ac u),p82 h (Ac u) hi2,bind_some];rw[Ah (by omega) (by omega)]
  show(Iz c f=true->_)/\_;unfold Iz idn;by_cases b1:T c (c.2.2.2.1.getD (c.2.1.getD f 0).toNat 0).toNat f=(f:Int)
  .by_cases b2:T c f (c.2.2.2.1.getD (c.2.2.1.getD f 0).toNat 0).toNat=(f:Int)
   .simp only[b1,b2,decide_true,Bool.not_true,cond_false,bind_some,Bool.and_self]
    exact⟨λ_=>rfl,(λh=>by cases h)⟩
   .simp only[b1,b2,decide_true,decide_false,Bool.not_true,Bool.not_false,cond_false,cond_true,bind_some,Bool.and_false]
    exact⟨(λh=>by cases h),λ_=>⟨_,rfl,by simp⟩⟩
  .simp only[b1,decide_false,Bool.not_false,cond_true,bind_some,Bool.false_and]
   exact⟨(λh=>by cases h),λ_=>⟨_,rfl,by simp⟩⟩
 .show ∃r,(if 0=0 then _ else none)=some r/\_
  rw[if_pos rfl];refine Cq (Post:=fun(z:Option (Int×Int×Int×Int))=>∃r,z=some r/\(decide (r.1=0)=HM c)) (st:=λi=>(i:Int)) (n:=c.2.1.length) (p:=λf=>(range c.2.1.length).all λg=>bif mt c f g then(range c.2.1.length).all λh=>DQ c f g h else true) (Q:=fun(r:Int×Int×Int×Int)=>r.1≠0) (o:=.brk 2 (c.2.1.length:Int)) (λf u=>?_) (by simp) (λy=>by simp) (λhv=>?_) (λhv r J=>?_)
  .simp only[Af,u,decide_true,cond_true]
   refine Cq (Post:=fun(z:Option (LO Int (Int×Int×Int×Int)))=>(((range c.2.1.length).all λg=>bif mt c f g then(range c.2.1.length).all λh=>DQ c f g h else true)=true->z=some (.next ((f+1:Nat):Int)))/\(((range c.2.1.length).all λg=>bif mt c f g then(range c.2.1.length).all λh=>DQ c f g h else true)=false->∃r,z=some (.ret r)/\r.1≠0))
    (st:=λi=>(i:Int)) (n:=c.2.1.length) (p:=λg=>bif mt c f g then(range c.2.1.length).all λh=>DQ c f g h else true) (Q:=fun(r:LO Int (Int×Int×Int×Int))=>∃r',r=.ret r'/\r'.1≠0) (o:=.brk 4 (c.2.1.length:Int)) (λg A=>?_) (by simp) (λy=>by simp) (λB=>?_) (λB r J=>?_)
   .simp only[Af,A,decide_true,cond_true,p82 h (Ac u) (Ac A),tNC,bind_some]
    rw[Ah (show(0:Int)<=(g:Int)+1 by omega) (by omega)]
    cases hm:mt c f g with
    |false=>
     have:=h.neg f g u A hm;simp only[this,show((-1:Int)<0) by decide,decide_true,cond_true,cond_false]
     exact⟨λ_=>rfl,(λh=>by cases h)⟩
    |true=>
     obtain⟨q1,q2,q3,q4⟩:=h.pos f g u A hm;simp only[show ¬ (T c f g<0) by omega,decide_false,cond_false,cond_true]
     refine Cq (Post:=fun(z:Option (LO Int (LO Int (Int×Int×Int×Int))))=>(((range c.2.1.length).all λh=>DQ c f g h)=true->z=some (.next ((g+1:Nat):Int)))/\(((range c.2.1.length).all λh=>DQ c f g h)=false->∃r,z=some (.ret r)/\∃r',r=.ret r'/\r'.1≠0))
      (st:=λi=>(i:Int)) (n:=c.2.1.length) (p:=λh=>DQ c f g h) (Q:=fun(r:LO Int (LO Int (Int×Int×Int×Int)))=>∃r',r=.ret (.ret r')/\r'.1≠0) (o:=.brk 6 (c.2.1.length:Int)) (λk W=>?_) (by simp) (λy=>by simp) (λB=>?_) (λB r J=>?_)
     .simp only[Af,W,decide_true,cond_true,p82 h (Ac A) (Ac W),tNC,bind_some]
      rw[Ah (show(0:Int)<=(k:Int)+1 by omega) (by omega)]
      unfold DQ;cases U:mt c g k with
      |false=>
       have:=h.neg g k A W U;simp only[this,show ¬ ((0:Int)<=-1) by decide,decide_false,cond_false,bind_some]
       exact⟨λ_=>rfl,(λh=>by cases h)⟩
      |true=>
       obtain⟨w1,w2,w3,w4⟩:=h.pos g k A W U;simp only[w1,decide_true,cond_true,p82 h (Ac u) (Ac A),p82 h ⟨q1,q2⟩ (Ac W),p82 h (Ac u) ⟨w1,w2⟩,tNC,bind_some];by_cases b:T c (T c f g).toNat k=T c f (T c g k).toNat
       .simp only[b,decide_true,Bool.not_true,cond_false]
        exact⟨λ_=>rfl,(λh=>by cases h)⟩
       .simp only[b,decide_false,Bool.not_false,cond_true]
        exact⟨(λh=>by cases h),λ_=>⟨_,rfl,_,rfl,by simp⟩⟩
     .refine⟨λ_=>?_,(λh=>by rw[B]at h;cases h)⟩
      show(if 6=6 then some (LO.next ((g:Int)+1))else none)=_
      rw[if_pos rfl];rfl
     .obtain⟨r',rfl,E⟩:=J
      exact⟨(λh=>by rw[B]at h;cases h),λ_=>⟨_,rfl,r',rfl,E⟩⟩
   .refine⟨λ_=>?_,(λh=>by rw[B]at h;cases h)⟩
    show(if 4=4 then some (LO.next (wrap .i64 ((f:Int)+1)))else none)=_
    rw[if_pos rfl,Ah (by omega) (by omega)];rfl
   .obtain⟨r',rfl,E⟩:=J
    exact⟨(λh=>by rw[B]at h;cases h),λ_=>⟨r',rfl,E⟩⟩
  .exact⟨_,rfl,by unfold HM;rw[hu,hv];rfl⟩
  .exact⟨r,rfl,by unfold HM;rw[hu,hv];simpa using J⟩
 .exact⟨r,rfl,by unfold HM;rw[hu];simpa using J⟩
open Go Go.Ve
theorem p144(h:Sh c):∃r,G144 c=some r/\(decide (r.1=0)=HM c):=by
 have hh:=h.hd;obtain⟨a1,a2,a3,a4,a5,a6,a7,a8⟩:=hh
 delta G144 lw an l2 g2 lt gd li l0 q4 sc nx bk
 refine Cq (Post:=fun(z:Option (Int×Int×Int×Int))=>∃r,z=some r/\(decide (r.1=0)=HM c)) (st:=λi=>(i:Int)) (n:=c.2.1.length) (p:=Iz c) (Q:=fun(r:Int×Int×Int×Int)=>r.1≠0) (o:=.brk 0 (c.2.1.length:Int)) (λf B=>?_) (by simp) (λy=>by simp) (λhu=>?_) (λhu r U=>?_)
 .have hf1:=h.fr f B
  have W:=h.to f B;have hi1:=h.id _ hf1.1 hf1.2;have hi2:=h.id _ W.1 W.2;have hfi:0<=c.2.1.getD f 0/\c.2.1.getD f 0<(c.2.2.2.1.length:Int):=by omega
  have hti:0<=c.2.2.1.getD f 0/\c.2.2.1.getD f 0<(c.2.2.2.1.length:Int):=by omega
  have A:f<c.2.2.1.length:=by omega
  have u:f<c.2.2.2.2.length:=by omega
  have hi1':0<=c.2.2.2.1.getD (c.2.1.getD f 0).toNat 0/\c.2.2.2.1.getD (c.2.1.getD f 0).toNat 0<(c.2.2.2.2.length:Int):=by rw[a6];exact hi1
  have hr1:=h.row _ (inN hi1);have E:f<(c.2.2.2.2.getD (c.2.2.2.1.getD (c.2.1.getD f 0).toNat 0).toNat []).length:=by rw[hr1];exact B
  have hi2':0<=c.2.2.2.1.getD (c.2.2.1.getD f 0).toNat 0/\c.2.2.2.1.getD (c.2.2.1.getD f 0).toNat 0<((c.2.2.2.2.getD f []).length:Int):=by rw[h.row f B];exact hi2
  simp only[Af,B,A,u,decide_true,cond_true,Ac B,Ac A,Ac u,if_true,tNC,and_self,hfi,hti,hi1',hi2',Ac E,E,bind_some];rw[Ah (by omega) (by omega)]
  show(Iz c f=true->_)/\_;unfold Iz idn T;by_cases b1:(c.2.2.2.2.getD (c.2.2.2.1.getD (c.2.1.getD f 0).toNat 0).toNat []).getD f 0=(f:Int)
  .by_cases b2:(c.2.2.2.2.getD f []).getD (c.2.2.2.1.getD (c.2.2.1.getD f 0).toNat 0).toNat 0=(f:Int)
   .simp only[b1,b2,decide_true,Bool.not_true,cond_false,bind_some,Bool.and_self]
    exact⟨λ_=>rfl,(λh=>by cases h)⟩
   .simp only[b1,b2,decide_true,decide_false,Bool.not_true,Bool.not_false,cond_false,cond_true,bind_some,Bool.and_false]
    exact⟨(λh=>by cases h),λ_=>⟨_,rfl,by simp⟩⟩
  .simp only[b1,decide_false,Bool.not_false,cond_true,bind_some,Bool.false_and]
   exact⟨(λh=>by cases h),λ_=>⟨_,rfl,by simp⟩⟩
 .show ∃r,(if 0=0 then _ else none)=some r/\_
  rw[if_pos rfl];refine Cq (Post:=fun(z:Option (Int×Int×Int×Int))=>∃r,z=some r/\(decide (r.1=0)=HM c)) (st:=λi=>(i:Int)) (n:=c.2.1.length) (p:=λf=>(range c.2.1.length).all λg=>bif mt c f g then(range c.2.1.length).all λh=>DQ c f g h else true) (Q:=fun(r:Int×Int×Int×Int)=>r.1≠0) (o:=.brk 2 (c.2.1.length:Int)) (λf B=>?_) (by simp) (λy=>by simp) (λhv=>?_) (λhv r U=>?_)
  .simp only[Af,B,decide_true,cond_true]
   refine Cq (Post:=fun(z:Option (LO Int (Int×Int×Int×Int)))=>(((range c.2.1.length).all λg=>bif mt c f g then(range c.2.1.length).all λh=>DQ c f g h else true)=true->z=some (.next ((f+1:Nat):Int)))/\(((range c.2.1.length).all λg=>bif mt c f g then(range c.2.1.length).all λh=>DQ c f g h else true)=false->∃r,z=some (.ret r)/\r.1≠0))
    (st:=λi=>(i:Int)) (n:=c.2.1.length) (p:=λg=>bif mt c f g then(range c.2.1.length).all λh=>DQ c f g h else true) (Q:=fun(r:LO Int (Int×Int×Int×Int))=>∃r',r=.ret r'/\r'.1≠0) (o:=.brk 4 (c.2.1.length:Int)) (λg hg=>?_) (by simp) (λy=>by simp) (λJ=>?_) (λJ r U=>?_)
   .have A:f<c.2.2.1.length:=by omega
    have hg3:g<c.2.2.1.length:=by omega
    have u:f<c.2.2.2.2.length:=by omega
    have hg6:g<c.2.2.2.2.length:=by omega
    simp only[Af,hg,A,decide_true,cond_true,Ac hg,Ac A,and_self,if_true,tNC];rw[Ah (show(0:Int)<=(g:Int)+1 by omega) (by omega)]
    show(((bif mt c f g then _ else true)=true)->(bif !mt c f g then _ else _)=_)/\(_->∃r,(bif !mt c f g then _ else _)=_/\_);cases hm:mt c f g with
    |false=>exact⟨λ_=>rfl,(λh=>by cases h)⟩
    |true=>
     obtain⟨q1,q2,q3,q4⟩:=h.pos f g B hg hm;simp only[Bool.not_true,cond_false,cond_true]
     refine Cq (Post:=fun(z:Option (LO Int (LO Int (Int×Int×Int×Int))))=>(((range c.2.1.length).all λh=>DQ c f g h)=true->z=some (.next ((g+1:Nat):Int)))/\(((range c.2.1.length).all λh=>DQ c f g h)=false->∃r,z=some (.ret r)/\∃r',r=.ret r'/\r'.1≠0))
      (st:=λi=>(i:Int)) (n:=c.2.1.length) (p:=λh=>DQ c f g h) (Q:=fun(r:LO Int (LO Int (Int×Int×Int×Int)))=>∃r',r=.ret (.ret r')/\r'.1≠0) (o:=.brk 6 (c.2.1.length:Int)) (λk hk=>?_) (by simp) (λy=>by simp) (λJ=>?_) (λJ r U=>?_)
     .have e1:(c.2.2.2.2.getD f []).length=c.2.1.length:=h.row f B
      have e2:(c.2.2.2.2.getD g []).length=c.2.1.length:=h.row g hg;have e3:(c.2.2.2.2.getD (T c f g).toNat []).length=c.2.1.length:=h.row _ (inN ⟨q1,q2⟩);have hgf:g<(c.2.2.2.2.getD f []).length:=by omega
      have Z:k<(c.2.2.2.2.getD g []).length:=by omega
      have hkt:k<(c.2.2.2.2.getD (T c f g).toNat []).length:=by omega
      have ht:0<=T c f g/\T c f g<(c.2.2.2.2.length:Int):=by omega
      simp only[Af,hk,hg3,decide_true,cond_true,Ac hk,Ac hg3,Ac u,Ac hg6,Ac hgf,Ac Z,u,hg6,hgf,Z,and_self,if_true,tNC];rw[Ah (show(0:Int)<=(k:Int)+1 by omega) (by omega)]
      have eM:decide (c.2.2.1.getD g 0=c.2.1.getD k 0)=mt c g k:=rfl;have eT:∀a b,(c.2.2.2.2.getD a []).getD b 0=T c a b:=λ_ _=>rfl
      have Y:(k:Int)<((c.2.2.2.2.getD (T c f g).toNat []).length:Int):=by omega
      simp only[eM,eT,Y,and_self,if_true];unfold DQ;cases hm2:mt c g k with
      |false=>exact⟨λ_=>rfl,(λh=>by cases h)⟩
      |true=>
       obtain⟨w1,w2,w3,w4⟩:=h.pos g k hg hk hm2;have hw':0<=T c g k/\T c g k<((c.2.2.2.2.getD f []).length:Int):=by omega
       simp only[cond_true,ht,Ac hkt,hw',and_self,if_true,bind_some];by_cases b:T c (T c f g).toNat k=T c f (T c g k).toNat
       .simp only[b,decide_true,Bool.not_true,cond_false]
        exact⟨λ_=>rfl,(λh=>by cases h)⟩
       .simp only[b,decide_false,Bool.not_false,cond_true]
        exact⟨(λh=>by cases h),λ_=>⟨_,rfl,_,rfl,by simp⟩⟩
     .refine⟨λ_=>?_,(λh=>by rw[J]at h;cases h)⟩
      show(if 6=6 then some (LO.next ((g:Int)+1))else none)=_
      rw[if_pos rfl];rfl
     .obtain⟨r',rfl,O⟩:=U
      exact⟨(λh=>by rw[J]at h;cases h),λ_=>⟨_,rfl,r',rfl,O⟩⟩
   .refine⟨λ_=>?_,(λh=>by rw[J]at h;cases h)⟩
    show(if 4=4 then some (LO.next (wrap .i64 ((f:Int)+1)))else none)=_
    rw[if_pos rfl,Ah (by omega) (by omega)];rfl
   .obtain⟨r',rfl,O⟩:=U
    exact⟨(λh=>by rw[J]at h;cases h),λ_=>⟨r',rfl,O⟩⟩
  .exact⟨_,rfl,by unfold HM;rw[hu,hv];rfl⟩
  .exact⟨r,rfl,by unfold HM;rw[hu,hv];simpa using U⟩
 .exact⟨r,rfl,by unfold HM;rw[hu];simpa using U⟩
open Go Go.Ve
def Hc(c:Cat):Bool:=DW c&&HM c
def p108(h:okC c):G108 c=some (Hc c):=by
 unfold G108;simp only[p143 h,bind_some];unfold Hc;cases u:DW c with
 |false=>rfl
 |true=>
  obtain⟨r,A,B⟩:=p144 (Aa1 u);simp only[A,bind_some,B,Bool.not_true,cond_false,Bool.true_and]
def p65(h:okC c):G65 c=some (Hc c):=by
 unfold G65;simp only[p114 h,bind_some];unfold Hc;cases u:DW c with
 |false=>rfl
 |true=>
  obtain⟨r,A,B⟩:=p115 (Aa1 u);simp only[A,bind_some,B,Bool.not_true,cond_false,Bool.true_and]
abbrev Qry:=List Int×List (Int×Int)×List (Int×Int)×List Int
def qHead(c:Cat)(q:Qry):Prop:=q.1.length<=4/\wi c.1 q.1=true/\q.2.1.length<=6/\q.2.2.1.length=q.2.1.length/\q.2.2.2.length<=4/\wi q.1.length q.2.2.2=true
instance(c:Cat)(q:Qry):Decidable (qHead c q):=by unfold qHead;infer_instance
open Go Go.Ve
open Go Go.Ve
end Go.Ve.D

