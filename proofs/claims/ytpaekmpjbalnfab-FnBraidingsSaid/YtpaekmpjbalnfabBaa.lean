/- Copies, equalities, sizes: what they compute. -/
import Derived.Test.YtpaekmpjbalnfabUcb
import Derived.Test.YtpaekmpjbalnfabLa
import Derived.Test.YtpaekmpjbalnfabTr
namespace Go.Ve.D
open Go Go.Ve
def okC(c:Int×List Int×List Int×List Int×List (List Int)):Prop:=c.2.1.length<=1048576/\c.2.2.1.length<=1048576/\c.2.2.2.1.length<=1048576/\c.2.2.2.2.length<=1048576/\∀y∈c.2.2.2.2,y.length<=1048576
open Go Go.Ve
open Go Go.Ve
theorem p144(a l h:Int):G144 (a,(l,h))=some (decide (l<=a)&&decide (a<=h)):=by
 unfold G144;by_cases h1:l<=a<;>simp [h1]
theorem p81(a l h:Int):G81 (a,(l,h))=some (decide (l<=a)&&decide (a<=h)):=by
 unfold G81;by_cases h1:l<=a<;>simp [h1]
theorem p81'(a n:Int)(hn:0<=n/\n<=9223372036854775807):G81 (a,((0:Int),IntKind.wrap .i64 (n-1)))=some (inn n a):=by
 rw [p81,Cw (by omega) (by omega)]
 unfold inn
 congr 2
 rw [Bool.eq_iff_iff];simp;omega
theorem p132{n:Int}{x:List Int}(hx:x.length<=1048576):G132 (n,x)=some (wi n x):=by
 unfold G132
 have h:=Ck (R:=Bool) (f:=(fun(v0:Int)=>(bif(decide (v0<((x.length:Nat):Int)))then(if(((0:Int)<=v0)/\(v0<((x.length:Nat):Int)))then(Option.bind (bif(decide ((x.getD (v0).toNat (0:Int))<(0:Int)))then(some true)else(if(((0:Int)<=v0)/\(v0<((x.length:Nat):Int)))then(some (decide (n<=(x.getD (v0).toNat (0:Int)))))else none)) (fun(v1:Bool)=>(bif v1 then(A3 (some false))else(some (LO.next (IntKind.wrap .i64 (v0+(1:Int))))))))else none)else(some (LO.brk 0 v0)))))
  (st:=fun i=>(i:Int)) (n:=x.length) (p:=fun i=>inn n (x.getD i 0)) (r:=false) (o:=.brk 0 (x.length:Int)) (fun i hi=>by
   simp only [Aw,hi,decide_true,cond_true,Ad hi,if_true,tNC,and_self];rw [Az (by omega) (by omega)]
   by_cases h1:x.getD i 0<0
   ·have:inn n (x.getD i 0)=false:=Y1 h1
    simp only [h1,decide_true,cond_true,Option.bind_some,this,cond_false];rfl
   ·by_cases h2:n<=x.getD i 0
    ·have:inn n (x.getD i 0)=false:=Y0 h2
     simp only [h1,h2,decide_false,decide_true,cond_true,cond_false,Option.bind_some,this];rfl
    ·have:inn n (x.getD i 0)=true:=Wr (by omega) (by omega)
     simp only [h1,h2,decide_false,cond_true,cond_false,Option.bind_some,this];rfl) (by simp) (fun y=>by simp)
 rw [IC 0 (inn n) x]at h;refine As h ?_;show _=some (wi n x);unfold wi;cases x.all (inn n)<;>rfl
theorem p74{n:Int}{x:List Int}(hn:0<=n/\n<=9223372036854775807)(hx:x.length<=1048576):G74 (x,n)=some (wi n x):=by
 unfold G74
 have h:=Ck (R:=Bool) (f:=(fun(v0:Int)=>(bif(decide (v0<((x.length:Nat):Int)))then(if(((0:Int)<=v0)/\(v0<((x.length:Nat):Int)))then(Option.bind (G81 ((x.getD (v0).toNat (0:Int)),((0:Int),(IntKind.wrap .i64 (n-(1:Int)))))) (fun(v1:Bool)=>(bif(!v1)then(A3 (some false))else(some (LO.next (IntKind.wrap .i64 (v0+(1:Int))))))))else none)else(some (LO.brk 0 v0)))))
  (st:=fun i=>(i:Int)) (n:=x.length) (p:=fun i=>inn n (x.getD i 0)) (r:=false) (o:=.brk 0 (x.length:Int)) (fun i hi=>by
   simp only [Aw,hi,decide_true,cond_true,Ad hi,if_true,tNC,and_self,p81' _ _ hn,Option.bind_some];rw [Az (by omega) (by omega)]
   cases inn n (x.getD i 0)<;>rfl) (by simp) (fun y=>by simp)
 rw [IC 0 (inn n) x]at h;refine As h ?_;show _=some (wi n x);unfold wi;cases x.all (inn n)<;>rfl
theorem p146{n:Int}{x:List Int}{m:Int}(hx:x.length<=1048576):G146 (x,(m,n))=some (decide ((x.length:Int)=m)&&wi n x):=by
 unfold G146;simp only [p132 hx,Option.bind_some];by_cases h:(x.length:Int)=m<;>simp [h]
open Go Go.Ve
abbrev Cat:=Int×List Int×List Int×List Int×List (List Int)
def B0(c:Cat)(f g:Nat):Bool:=
 bif !decide (c.2.2.1.getD f 0=c.2.1.getD g 0)then decide ((c.2.2.2.2.getD f []).getD g 0= -1)
 else inn c.2.1.length ((c.2.2.2.2.getD f []).getD g 0)&&(decide (c.2.1.getD ((c.2.2.2.2.getD f []).getD g 0).toNat 0=c.2.1.getD f 0)&&decide (c.2.2.1.getD ((c.2.2.2.2.getD f []).getD g 0).toNat 0=c.2.2.1.getD g 0))
def Dx(c:Cat)(f:Nat):Bool:=decide ((c.2.2.2.2.getD f []).length=c.2.1.length)&&(List.range c.2.1.length).all (B0 c f)
def Ws(c:Cat)(i:Nat):Bool:=decide (c.2.1.getD (c.2.2.2.1.getD i 0).toNat 0=i)&&decide (c.2.2.1.getD (c.2.2.2.1.getD i 0).toNat 0=i)
def IP(c:Cat):Prop:=(0<=c.1/\c.1<=8)/\c.2.1.length<=40/\c.2.2.1.length=c.2.1.length/\wi c.1 c.2.1=true/\wi c.1 c.2.2.1=true/\c.2.2.2.2.length=c.2.1.length/\(c.2.2.2.1.length:Int)=c.1/\wi c.2.1.length c.2.2.2.1=true
instance(c:Cat):Decidable (IP c):=by unfold IP;infer_instance
def Ht(c:Cat):Bool:=decide (IP c)&&((List.range c.2.2.2.1.length).all (Ws c)&&(List.range c.2.1.length).all (Dx c))
theorem p136i{c:Cat}(h:IP c)(F:Int->Option (LO Int Bool))(hF:F=(fun(v6:Int)=>(bif(decide (v6<c.1))then(if(((0:Int)<=v6)/\(v6<((c.2.2.2.1.length:Nat):Int)))then(if(((0:Int)<=(c.2.2.2.1.getD (v6).toNat (0:Int)))/\((c.2.2.2.1.getD (v6).toNat (0:Int))<((c.2.1.length:Nat):Int)))then(Option.bind (bif(!decide ((c.2.1.getD ((c.2.2.2.1.getD (v6).toNat (0:Int))).toNat (0:Int))=v6))then(some true)else(if(((0:Int)<=v6)/\(v6<((c.2.2.2.1.length:Nat):Int)))then(if(((0:Int)<=(c.2.2.2.1.getD (v6).toNat (0:Int)))/\((c.2.2.2.1.getD (v6).toNat (0:Int))<((c.2.2.1.length:Nat):Int)))then(some (!decide ((c.2.2.1.getD ((c.2.2.2.1.getD (v6).toNat (0:Int))).toNat (0:Int))=v6)))else none)else none)) (fun(v7:Bool)=>(bif v7 then(A3 (some false))else(some (LO.next (IntKind.wrap .i64 (v6+(1:Int))))))))else none)else none)else(some (LO.brk 0 v6))))):
  Ah F 0=some (bif(List.range c.2.2.2.1.length).all (Ws c)then .brk 0 c.1 else .ret false):=by
 obtain⟨a1,a2,a3,a4,a5,a6,a7,a8⟩:=h;subst hF;refine Ck (st:=fun i=>(i:Int)) (fun i hi=>?_) (by simp [a7]) (fun y=>by simp)
 have hlt:((i:Int)<c.1):=by omega
 have hg:=Ja a8 hi;have hg':0<=c.2.2.2.1.getD i 0/\c.2.2.2.1.getD i 0<(c.2.2.1.length:Int):=by rw [a3];exact hg
 simp only [hlt,decide_true,cond_true,Ad hi,if_true,tNC,and_self,hg,hg'];rw [Az (by omega) (by omega)]
 unfold Ws;by_cases b1:c.2.1.getD (c.2.2.2.1.getD i 0).toNat 0=(i:Int)
 ·by_cases b2:c.2.2.1.getD (c.2.2.2.1.getD i 0).toNat 0=(i:Int)
  ·simp only [b1,b2,decide_true,Bool.not_true,cond_false,cond_true,Option.bind_some,Bool.and_self];rfl
  ·simp only [b1,b2,decide_true,decide_false,Bool.not_true,Bool.not_false,cond_false,cond_true,Option.bind_some,Bool.and_false];rfl
 ·simp only [b1,decide_false,Bool.not_false,cond_false,cond_true,Option.bind_some,Bool.false_and];rfl
open Go Go.Ve
theorem BC{c:Cat}(h: ¬IP c):Ht c=false:=by simp [Ht,h]
theorem p136{c:Cat}(h:okC c):G136 c=some (Ht c):=by
 obtain⟨h1,h2,h3,h4,h5⟩:=h;unfold G136;simp only [p144,p146 h1,p146 h2,p132 h3,Option.bind_some,decide_true,Bool.true_and];by_cases c1:0<=c.1/\c.1<=8
 case neg=>
  have e:(decide (0<=c.1)&&decide (c.1<=8))=false:=by simp;omega
  simp only [e,Bool.not_false,cond_true,Option.bind_some,BC fun h=>c1 h.1]
 have e1:(decide (0<=c.1)&&decide (c.1<=8))=true:=by simp [c1]
 simp only [e1,Bool.not_true,cond_false,Option.bind_some];by_cases c2:(40:Int)<(c.2.1.length:Int)
 case pos=>simp only [c2,decide_true,cond_true,Option.bind_some,BC (c:=c) fun h=>absurd h.2.1 (by omega)]
 simp only [c2,decide_false,cond_false];cases c3:wi c.1 c.2.1 with
 |false=>simp only [Bool.not_false,cond_true,Option.bind_some,BC fun h=>by have:=h.2.2.2.1;rw [c3]at this;cases this]
 |true=>
 simp only [Bool.not_true,cond_false,Option.bind_some];by_cases c4:(c.2.2.1.length:Int)=(c.2.1.length:Int)
 case neg=>simp only [c4,decide_false,Bool.false_and,Bool.not_false,cond_true,Option.bind_some,BC fun h=>c4 (by rw [h.2.2.1])]
 simp only [dT c4,Bool.true_and];cases c5:wi c.1 c.2.2.1 with
 |false=>simp only [Bool.not_false,cond_true,Option.bind_some,BC fun h=>by have:=h.2.2.2.2.1;rw [c5]at this;cases this]
 |true=>
 simp only [Bool.not_true,cond_false,Option.bind_some];by_cases c6:(c.2.2.2.2.length:Int)=(c.2.1.length:Int)
 case neg=>simp only [c6,decide_false,Bool.not_false,cond_true,Option.bind_some,BC fun h=>c6 (by rw [h.2.2.2.2.2.1])]
 simp only [dT c6,Bool.not_true,cond_false];by_cases c7:(c.2.2.2.1.length:Int)=c.1
 case neg=>simp only [c7,decide_false,Bool.not_false,cond_true,Option.bind_some,BC fun h=>c7 h.2.2.2.2.2.2.1]
 simp only [dT c7,Bool.not_true,cond_false];cases c8:wi c.2.1.length c.2.2.2.1 with
 |false=>simp only [Bool.not_false,cond_true,Option.bind_some,BC fun h=>by have:=h.2.2.2.2.2.2.2;rw [c8]at this;cases this]
 |true=>
 simp only [Bool.not_true,cond_false,Option.bind_some];have hh:IP c:=⟨c1,by omega,by omega,c3,c5,by omega,c7,c8⟩
 have hs:Ht c=((List.range c.2.2.2.1.length).all (Ws c)&&(List.range c.2.1.length).all (Dx c)):=by simp [Ht,hh]
 rw [hs];have g:=p136i hh _ rfl;refine As g ?_;cases hi:(List.range c.2.2.2.1.length).all (Ws c)with
 |false=>rfl
 |true=>
 simp only [cond_true,Bool.true_and];obtain⟨a1,a2,a3,a4,a5,a6,a7,a8⟩:=hh;show(if 0=0 then _ else _)=_
 rw [if_pos rfl];refine As (v:=bif(List.range c.2.1.length).all (Dx c)then .brk 2 (c.2.1.length:Int)else .ret false) (Ck (st:=fun i=>(i:Int)) (fun f hf=>?_) (by simp) (fun y=>by simp)) (by cases (List.range c.2.1.length).all (Dx c)<;>rfl)
 have hf6:f<c.2.2.2.2.length:=by omega
 simp only [Aw,hf,hf6,decide_true,cond_true,Ad hf,Ad hf6,if_true,tNC,and_self];by_cases d1:((c.2.2.2.2.getD f []).length:Int)=(c.2.1.length:Int)
 case neg=>
  have:Dx c f=false:=by unfold Dx;simp only [show ¬ (c.2.2.2.2.getD f []).length=c.2.1.length by omega,decide_false,Bool.false_and]
  simp only [d1,decide_false,Bool.not_false,cond_true,this,cond_false];rfl
 have d2:(c.2.2.2.2.getD f []).length=c.2.1.length:=by omega
 have hr:Dx c f=(List.range c.2.1.length).all (B0 c f):=by unfold Dx;simp only [d2,decide_true,Bool.true_and]
 simp only [dT d1,Bool.not_true,cond_false];rw [hr]
 refine As (v:=bif(List.range c.2.1.length).all (B0 c f)then .brk 4 (c.2.1.length:Int)else .ret (.ret false)) (Ck (st:=fun i=>(i:Int)) (fun g hg=>?_) (by simp) (fun y=>by simp)) (by
  cases (List.range c.2.1.length).all (B0 c f)with
  |false=>rfl
  |true=>
   show(if 4=4 then some (LO.next (IntKind.wrap .i64 ((f:Int)+1)))else none)=_
   rw [if_pos rfl,Az (by omega) (by omega)];rfl)
 have hf3:f<c.2.2.1.length:=by omega
 have hg3:g<c.2.2.1.length:=by omega
 have hgr:(g:Int)<((c.2.2.2.2.getD f []).length:Int):=by omega
 simp only [Aw,hf,hg,hf3,hg3,hgr,decide_true,cond_true,Ad hf,Ad hg,Ad hf6,Ad hf3,Ad hg3,if_true,tNC,and_self];rw [Az (show(0:Int)<=(g:Int)+1 by omega) (by omega)]
 unfold B0;obtain⟨k,hk⟩: ∃k,k=(c.2.2.2.2.getD f []).getD g 0:=⟨_,rfl⟩;simp only [<-hk];clear hk;by_cases e1:c.2.2.1.getD f 0=c.2.1.getD g 0
 case neg=>
  simp only [e1,decide_false,Bool.not_false,cond_true];by_cases e2:k= -1
  ·simp only [e2,decide_true,Bool.not_true,cond_false,cond_true];rfl
  ·simp only [e2,decide_false,Bool.not_false,cond_false,cond_true];rfl
 simp only [e1,decide_true,Bool.not_true,cond_false];by_cases e2:k<0
 case pos=>simp only [e2,decide_true,cond_true,Option.bind_some,Y1 e2,Bool.false_and,cond_false];rfl
 simp only [e2,decide_false,cond_false,Option.bind_some];by_cases e3:(c.2.1.length:Int)<=k
 case pos=>simp only [e3,decide_true,cond_true,Option.bind_some,Y0 e3,Bool.false_and,cond_false];rfl
 have e4:inn c.2.1.length k=true:=Wr (by omega) (by omega)
 have e5:0<=k/\k<(c.2.1.length:Int):=by omega
 have e6:0<=k/\k<(c.2.2.1.length:Int):=by omega
 simp only [e3,decide_false,cond_false,Option.bind_some,e4,e5,e6,and_self,if_true,Bool.true_and];by_cases e7:c.2.1.getD k.toNat 0=c.2.1.getD f 0
 case neg=>simp only [e7,decide_false,Bool.not_false,cond_true,cond_false,Option.bind_some,Bool.false_and];rfl
 simp only [e7,decide_true,Bool.not_true,cond_false,Bool.true_and];by_cases e8:c.2.2.1.getD k.toNat 0=c.2.2.1.getD g 0
 ·simp only [e8,decide_true,Bool.not_true,cond_false,cond_true,Option.bind_some];rfl
 ·simp only [e8,decide_false,Bool.not_false,cond_false,cond_true,Option.bind_some];rfl
open Go Go.Ve
theorem p75(c:Cat):G75 c=some (c.2.1.length:Int):=rfl
theorem AaM{c:Cat}{a:Int}(h1:0<=a/\a<(c.2.1.length:Int))(h2:0<=a/\a<(c.2.2.1.length:Int)):G104 (c,a)=some (c.2.1.getD a.toNat 0,c.2.2.1.getD a.toNat 0):=by
 unfold G104;simp only [h1,h2,and_self,if_true]
theorem p133{c:Cat}(h:okC c):G133 c=some (Ht c):=by
 obtain⟨h1,h2,h3,h4,h5⟩:=h;unfold G133;simp only [p75,p81 c.1 0 8,Option.bind_some];by_cases c1:0<=c.1/\c.1<=8
 case neg=>
  have e:(decide (0<=c.1)&&decide (c.1<=8))=false:=by simp;omega
  simp only [e,Bool.not_false,cond_true,Option.bind_some,BC fun h=>c1 h.1]
 have e1:(decide (0<=c.1)&&decide (c.1<=8))=true:=by simp [c1]
 have hob:0<=c.1/\c.1<=9223372036854775807:=by omega
 have hm:(0:Int)<=(c.2.1.length:Int)/\(c.2.1.length:Int)<=9223372036854775807:=by omega
 simp only [e1,Bool.not_true,cond_false,Option.bind_some,p74 hob h1,p74 hob h2,p74 hm h3];by_cases c2:(40:Int)<(c.2.1.length:Int)
 case pos=>simp only [c2,decide_true,cond_true,Option.bind_some,BC (c:=c) fun h=>absurd h.2.1 (by omega)]
 simp only [c2,decide_false,cond_false,Option.bind_some];by_cases c4:(c.2.2.1.length:Int)=(c.2.1.length:Int)
 case neg=>simp only [c4,decide_false,Bool.not_false,cond_true,Option.bind_some,BC fun h=>c4 (by rw [h.2.2.1])]
 simp only [dT c4,Bool.not_true,cond_false,Option.bind_some];cases c3:wi c.1 c.2.1 with
 |false=>simp only [Bool.not_false,cond_true,Option.bind_some,BC fun h=>by have:=h.2.2.2.1;rw [c3]at this;cases this]
 |true=>
 simp only [Bool.not_true,cond_false,Option.bind_some];cases c5:wi c.1 c.2.2.1 with
 |false=>simp only [Bool.not_false,cond_true,Option.bind_some,BC fun h=>by have:=h.2.2.2.2.1;rw [c5]at this;cases this]
 |true=>
 simp only [Bool.not_true,cond_false,Option.bind_some];by_cases c7:(c.2.2.2.1.length:Int)=c.1
 case neg=>simp only [c7,decide_false,Bool.not_false,cond_true,Option.bind_some,BC fun h=>c7 h.2.2.2.2.2.2.1]
 simp only [dT c7,Bool.not_true,cond_false];cases c8:wi c.2.1.length c.2.2.2.1 with
 |false=>simp only [Bool.not_false,cond_true,Option.bind_some,BC fun h=>by have:=h.2.2.2.2.2.2.2;rw [c8]at this;cases this]
 |true=>
 simp only [Bool.not_true,cond_false,Option.bind_some];by_cases c6:(c.2.2.2.2.length:Int)=(c.2.1.length:Int)
 case neg=>simp only [c6,decide_false,Bool.not_false,cond_true,Option.bind_some,BC fun h=>c6 (by rw [h.2.2.2.2.2.1])]
 simp only [dT c6,Bool.not_true,cond_false,Option.bind_some];have hh:IP c:=⟨c1,by omega,by omega,c3,c5,by omega,c7,c8⟩
 have hs:Ht c=((List.range c.2.2.2.1.length).all (Ws c)&&(List.range c.2.1.length).all (Dx c)):=by simp [Ht,hh]
 rw [hs];obtain⟨a1,a2,a3,a4,a5,a6,a7,a8⟩:=hh;refine As (v:=bif(List.range c.2.2.2.1.length).all (Ws c)then .brk 0 (c.2.2.2.1.length:Int)else .ret false) (Ck (st:=fun i=>(i:Int)) (fun i hi=>?_) (by simp) (fun y=>by simp)) ?_
 ·have hg:=Ja a8 hi
  have hg':0<=c.2.2.2.1.getD i 0/\c.2.2.2.1.getD i 0<(c.2.2.1.length:Int):=by rw [a3];exact hg
  simp only [Aw,hi,decide_true,cond_true,Ad hi,if_true,tNC,and_self,AaM hg hg',Option.bind_some,Bool.and_true];rw [Az (by omega) (by omega)]
  show(bif !Ws c i then _ else _)=_;cases Ws c i<;>rfl
 cases hi:(List.range c.2.2.2.1.length).all (Ws c)with
 |false=>rfl
 |true=>
 simp only [cond_true,Bool.true_and];show(if 0=0 then _ else _)=_
 rw [if_pos rfl];refine As (v:=bif(List.range c.2.1.length).all (Dx c)then .brk 2 (c.2.1.length:Int)else .ret false) (Ck (st:=fun i=>(i:Int)) (fun f hf=>?_) (by simp [a6]) (fun y=>by simp)) (by cases (List.range c.2.1.length).all (Dx c)<;>rfl)
 have hf6:f<c.2.2.2.2.length:=by omega
 simp only [Aw,hf6,decide_true,cond_true,Ad hf6,if_true,tNC,and_self];by_cases d1:((c.2.2.2.2.getD f []).length:Int)=(c.2.1.length:Int)
 case neg=>
  have:Dx c f=false:=by unfold Dx;simp only [show ¬ (c.2.2.2.2.getD f []).length=c.2.1.length by omega,decide_false,Bool.false_and]
  simp only [d1,decide_false,Bool.not_false,cond_true,this,cond_false];rfl
 have d2:(c.2.2.2.2.getD f []).length=c.2.1.length:=by omega
 have hr:Dx c f=(List.range c.2.1.length).all (B0 c f):=by unfold Dx;simp only [d2,decide_true,Bool.true_and]
 simp only [dT d1,Bool.not_true,cond_false];rw [hr]
 refine As (v:=bif(List.range c.2.1.length).all (B0 c f)then .brk 4 (c.2.1.length:Int)else .ret (.ret false)) (Ck (st:=fun i=>(i:Int)) (fun g hg=>?_) (by simp only [dF (show ¬ ((c.2.1.length:Int)<((c.2.2.2.2.getD f []).length:Int)) by omega),cond_false]) (fun y=>by simp)) (by
  cases (List.range c.2.1.length).all (B0 c f)with
  |false=>rfl
  |true=>
   show(if 4=4 then some (LO.next (IntKind.wrap .i64 ((f:Int)+1)))else none)=_
   rw [if_pos rfl,Az (by omega) (by omega)];rfl)
 have hf3:f<c.2.2.1.length:=by omega
 have hg3:g<c.2.2.1.length:=by omega
 have hgr:g<(c.2.2.2.2.getD f []).length:=by omega
 simp only [Aw,hf,hg,hf3,hg3,hgr,decide_true,cond_true,Ad hf,Ad hg,Ad hf6,Ad hf3,Ad hg3,Ad hgr,if_true,tNC,and_self,p81' _ _ hm,Option.bind_some];rw [Az (show(0:Int)<=(g:Int)+1 by omega) (by omega)]
 unfold B0;obtain⟨k,hk⟩: ∃k,k=(c.2.2.2.2.getD f []).getD g 0:=⟨_,rfl⟩;simp only [<-hk];clear hk;by_cases e1:c.2.2.1.getD f 0=c.2.1.getD g 0
 case neg=>
  simp only [e1,decide_false,Bool.not_false,cond_true];by_cases e2:k= -1
  ·simp only [e2,decide_true,Bool.not_true,cond_false,cond_true];rfl
  ·simp only [e2,decide_false,Bool.not_false,cond_false,cond_true];rfl
 simp only [e1,decide_true,Bool.not_true,cond_false];cases e2:inn c.2.1.length k with
 |false=>simp only [Bool.not_false,cond_true,Option.bind_some,Bool.false_and,cond_false];rfl
 |true=>
 have e5:=Hk.1 e2;have e6:0<=k/\k<(c.2.2.1.length:Int):=by omega
 simp only [Bool.not_true,cond_false,AaM e5 e6,Option.bind_some,Bool.true_and,Bool.and_true];cases (decide (c.2.1.getD k.toNat 0=c.2.1.getD f 0)&&decide (c.2.2.1.getD k.toNat 0=c.2.2.1.getD g 0))<;>rfl
open Go Go.Ve
def T(c:Cat)(f g:Nat):Int:=(c.2.2.2.2.getD f []).getD g 0
def idn(c:Cat)(x:Int):Nat:=(c.2.2.2.1.getD x.toNat 0).toNat
def IE(c:Cat)(f:Nat):Bool:=decide (T c (idn c (c.2.1.getD f 0)) f=(f:Int))&&decide (T c f (idn c (c.2.2.1.getD f 0))=(f:Int))
def mt(c:Cat)(f g:Nat):Bool:=decide (c.2.2.1.getD f 0=c.2.1.getD g 0)
def DT(c:Cat)(f g h:Nat):Bool:=bif mt c g h then decide (T c (T c f g).toNat h=T c f (T c g h).toNat)else true
def HQ(c:Cat):Bool:=(List.range c.2.1.length).all (IE c)&&(List.range c.2.1.length).all fun f=>(List.range c.2.1.length).all fun g=>bif mt c f g then(List.range c.2.1.length).all fun h=>DT c f g h else true
structure Sh(c:Cat):Prop where
 hd:IP c
 id: ∀x:Int,0<=x->x<c.1->(0<=c.2.2.2.1.getD x.toNat 0/\c.2.2.2.1.getD x.toNat 0<(c.2.1.length:Int))
 fr: ∀f,f<c.2.1.length->0<=c.2.1.getD f 0/\c.2.1.getD f 0<c.1
 to: ∀f,f<c.2.1.length->0<=c.2.2.1.getD f 0/\c.2.2.1.getD f 0<c.1
 row: ∀f,f<c.2.1.length->(c.2.2.2.2.getD f []).length=c.2.1.length
 neg: ∀f g,f<c.2.1.length->g<c.2.1.length->mt c f g=false->T c f g= -1
 pos: ∀f g,f<c.2.1.length->g<c.2.1.length->mt c f g=true->0<=T c f g/\T c f g<(c.2.1.length:Int)/\c.2.1.getD (T c f g).toNat 0=c.2.1.getD f 0/\c.2.2.1.getD (T c f g).toNat 0=c.2.2.1.getD g 0
theorem ZK{c:Cat}(h:Ht c=true):Sh c:=by
 unfold Ht at h;simp only [bAE,decide_eq_true_eq]at h;obtain⟨hh,hi,hr⟩:=h;have hr': ∀f,f<c.2.1.length->Dx c f=true:=fun f hf=>aET.1 hr f (List.mem_range.2 hf)
 have hcell: ∀f g,f<c.2.1.length->g<c.2.1.length->B0 c f g=true:=fun f g hf hg=>by
  have:=hr' f hf;unfold Dx at this;rw [bAE]at this;exact aET.1 this.2 g (List.mem_range.2 hg)
 have h0:=hh;obtain⟨a1,a2,a3,a4,a5,a6,a7,a8⟩:=hh;refine⟨h0,fun x h1 h2=>Ja a8 (by omega),fun f hf=>Ja a4 hf,fun f hf=>Ja a5 (by omega),fun f hf=>?_,fun f g hf hg hm=>?_,fun f g hf hg hm=>?_⟩
 ·have:=hr' f hf
  unfold Dx at this;rw [bAE]at this;exact of_decide_eq_true this.1
 ·have:=hcell f g hf hg
  unfold B0 at this;unfold mt at hm;rw [hm]at this;exact of_decide_eq_true this
 ·have:=hcell f g hf hg
  unfold B0 at this;unfold mt at hm;rw [hm]at this;simp only [Bool.not_true,cond_false,bAE,decide_eq_true_eq]at this;exact⟨(Hk.1 this.1).1,(Hk.1 this.1).2,this.2.1,this.2.2⟩
theorem BY{X R S:Type}{f:X->Option (LO X R)}{st:Nat->X}{n:Nat}{p:Nat->Bool}{Q:R->Prop}{o:LO X R}{k:LO X R->Option S}{Post:Option S->Prop}
  (h1: ∀i,i<n->(p i=true->f (st i)=some (.next (st (i+1))))/\(p i=false->∃r,f (st i)=some (.ret r)/\Q r)) (h2:f (st n)=some o) (ho: ∀y,o≠.next y)
  (hA:(List.range n).all p=true->Post (k o)) (hB:(List.range n).all p=false->∀r,Q r->Post (k (.ret r))):Post (Option.bind (Ah f (st 0)) k):=by
 obtain⟨g1,g2⟩:=Vb h1 h2 ho;cases h:(List.range n).all p with
 |true=>rw [g1 h];exact hA h
 |false=>obtain⟨r,hr,hq⟩:=g2 h;rw [hr];exact hB h r hq
theorem inN{a:Int}{n:Nat}(h:0<=a/\a<(n:Int)):a.toNat<n:=by omega
theorem p67{c:Cat}(h:Sh c){f g:Int}(hf:0<=f/\f<(c.2.1.length:Int))(hg:0<=g/\g<(c.2.1.length:Int)):G67 (c,(f,g))=some (T c f.toNat g.toNat):=by
 unfold G67;have e1:c.2.2.2.2.length=c.2.1.length:=h.hd.2.2.2.2.2.1;have e2:=h.row f.toNat (inN hf);have h1:0<=f/\f<(c.2.2.2.2.length:Int):=by rw [e1];exact hf
 have h2:0<=g/\g<((c.2.2.2.2.getD f.toNat []).length:Int):=by rw [e2];exact hg
 simp only [h1,h2,and_self,if_true];rfl
theorem p134{c:Cat}(h:Sh c): ∃r,G134 c=some r/\(decide (r.1=0)=HQ c):=by
 have hh:=h.hd;obtain⟨a1,a2,a3,a4,a5,a6,a7,a8⟩:=hh;unfold G134;simp only [p75,Option.bind_some];refine BY (Post:=fun(z:Option (Int×Int×Int×Int))=>∃r,z=some r/\(decide (r.1=0)=HQ c)) (st:=fun i=>(i:Int)) (n:=c.2.1.length) (p:=IE c) (Q:=fun(r:Int×Int×Int×Int)=>r.1≠0) (o:=.brk 0 (c.2.1.length:Int)) (fun f hf=>?_) (by simp) (fun y=>by simp) (fun hu=>?_) (fun hu r hr=>?_)
 ·have hf1:=h.fr f hf
  have ht1:=h.to f hf;have hi1:=h.id _ hf1.1 hf1.2;have hi2:=h.id _ ht1.1 ht1.2;have hfi:0<=c.2.1.getD f 0/\c.2.1.getD f 0<(c.2.2.2.1.length:Int):=by omega
  have hti:0<=c.2.2.1.getD f 0/\c.2.2.1.getD f 0<(c.2.2.2.1.length:Int):=by omega
  have hf3:f<c.2.2.1.length:=by omega
  simp only [Aw,hf,hf3,decide_true,cond_true,Ad hf,Ad hf3,if_true,tNC,and_self,hfi,hti,p67 h hi1 (Ad hf),p67 h (Ad hf) hi2,Option.bind_some];rw [Az (by omega) (by omega)]
  show(IE c f=true->_)/\_;unfold IE idn;by_cases b1:T c (c.2.2.2.1.getD (c.2.1.getD f 0).toNat 0).toNat f=(f:Int)
  ·by_cases b2:T c f (c.2.2.2.1.getD (c.2.2.1.getD f 0).toNat 0).toNat=(f:Int)
   ·simp only [b1,b2,decide_true,Bool.not_true,cond_false,Option.bind_some,Bool.and_self]
    exact⟨fun _=>rfl,(fun h=>by cases h)⟩
   ·simp only [b1,b2,decide_true,decide_false,Bool.not_true,Bool.not_false,cond_false,cond_true,Option.bind_some,Bool.and_false]
    exact⟨(fun h=>by cases h),fun _=>⟨_,rfl,by simp⟩⟩
  ·simp only [b1,decide_false,Bool.not_false,cond_true,Option.bind_some,Bool.false_and]
   exact⟨(fun h=>by cases h),fun _=>⟨_,rfl,by simp⟩⟩
 ·show ∃r,(if 0=0 then _ else none)=some r/\_
  rw [if_pos rfl];refine BY (Post:=fun(z:Option (Int×Int×Int×Int))=>∃r,z=some r/\(decide (r.1=0)=HQ c)) (st:=fun i=>(i:Int)) (n:=c.2.1.length) (p:=fun f=>(List.range c.2.1.length).all fun g=>bif mt c f g then(List.range c.2.1.length).all fun h=>DT c f g h else true) (Q:=fun(r:Int×Int×Int×Int)=>r.1≠0) (o:=.brk 2 (c.2.1.length:Int)) (fun f hf=>?_) (by simp) (fun y=>by simp) (fun hv=>?_) (fun hv r hr=>?_)
  ·simp only [Aw,hf,decide_true,cond_true]
   refine BY (Post:=fun(z:Option (LO Int (Int×Int×Int×Int)))=>(((List.range c.2.1.length).all fun g=>bif mt c f g then(List.range c.2.1.length).all fun h=>DT c f g h else true)=true->z=some (.next ((f+1:Nat):Int)))/\(((List.range c.2.1.length).all fun g=>bif mt c f g then(List.range c.2.1.length).all fun h=>DT c f g h else true)=false->∃r,z=some (.ret r)/\r.1≠0))
    (st:=fun i=>(i:Int)) (n:=c.2.1.length) (p:=fun g=>bif mt c f g then(List.range c.2.1.length).all fun h=>DT c f g h else true) (Q:=fun(r:LO Int (Int×Int×Int×Int))=>∃r',r= .ret r'/\r'.1≠0) (o:=.brk 4 (c.2.1.length:Int)) (fun g hg=>?_) (by simp) (fun y=>by simp) (fun hw=>?_) (fun hw r hr=>?_)
   ·simp only [Aw,hg,decide_true,cond_true,p67 h (Ad hf) (Ad hg),tNC,Option.bind_some]
    rw [Az (show(0:Int)<=(g:Int)+1 by omega) (by omega)]
    cases hm:mt c f g with
    |false=>
     have:=h.neg f g hf hg hm;simp only [this,show((-1:Int)<0) by decide,decide_true,cond_true,cond_false]
     exact⟨fun _=>rfl,(fun h=>by cases h)⟩
    |true=>
     obtain⟨q1,q2,q3,q4⟩:=h.pos f g hf hg hm;simp only [show ¬ (T c f g<0) by omega,decide_false,cond_false,cond_true]
     refine BY (Post:=fun(z:Option (LO Int (LO Int (Int×Int×Int×Int))))=>(((List.range c.2.1.length).all fun h=>DT c f g h)=true->z=some (.next ((g+1:Nat):Int)))/\(((List.range c.2.1.length).all fun h=>DT c f g h)=false->∃r,z=some (.ret r)/\∃r',r= .ret r'/\r'.1≠0))
      (st:=fun i=>(i:Int)) (n:=c.2.1.length) (p:=fun h=>DT c f g h) (Q:=fun(r:LO Int (LO Int (Int×Int×Int×Int)))=>∃r',r= .ret (.ret r')/\r'.1≠0) (o:=.brk 6 (c.2.1.length:Int)) (fun k hk=>?_) (by simp) (fun y=>by simp) (fun hw=>?_) (fun hw r hr=>?_)
     ·simp only [Aw,hk,decide_true,cond_true,p67 h (Ad hg) (Ad hk),tNC,Option.bind_some]
      rw [Az (show(0:Int)<=(k:Int)+1 by omega) (by omega)]
      unfold DT;cases hm2:mt c g k with
      |false=>
       have:=h.neg g k hg hk hm2;simp only [this,show ¬ ((0:Int)<=-1) by decide,decide_false,cond_false,Option.bind_some]
       exact⟨fun _=>rfl,(fun h=>by cases h)⟩
      |true=>
       obtain⟨w1,w2,w3,w4⟩:=h.pos g k hg hk hm2;simp only [w1,decide_true,cond_true,p67 h (Ad hf) (Ad hg),p67 h ⟨q1,q2⟩ (Ad hk),p67 h (Ad hf) ⟨w1,w2⟩,tNC,Option.bind_some];by_cases b:T c (T c f g).toNat k=T c f (T c g k).toNat
       ·simp only [b,decide_true,Bool.not_true,cond_false]
        exact⟨fun _=>rfl,(fun h=>by cases h)⟩
       ·simp only [b,decide_false,Bool.not_false,cond_true]
        exact⟨(fun h=>by cases h),fun _=>⟨_,rfl,_,rfl,by simp⟩⟩
     ·refine⟨fun _=>?_,(fun h=>by rw [hw]at h;cases h)⟩
      show(if 6=6 then some (LO.next ((g:Int)+1))else none)=_
      rw [if_pos rfl];rfl
     ·obtain⟨r',rfl,hr'⟩:=hr
      exact⟨(fun h=>by rw [hw]at h;cases h),fun _=>⟨_,rfl,r',rfl,hr'⟩⟩
   ·refine⟨fun _=>?_,(fun h=>by rw [hw]at h;cases h)⟩
    show(if 4=4 then some (LO.next (IntKind.wrap .i64 ((f:Int)+1)))else none)=_
    rw [if_pos rfl,Az (by omega) (by omega)];rfl
   ·obtain⟨r',rfl,hr'⟩:=hr
    exact⟨(fun h=>by rw [hw]at h;cases h),fun _=>⟨r',rfl,hr'⟩⟩
  ·exact⟨_,rfl,by unfold HQ;rw [hu,hv];rfl⟩
  ·exact⟨r,rfl,by unfold HQ;rw [hu,hv];simpa using hr⟩
 ·exact⟨r,rfl,by unfold HQ;rw [hu];simpa using hr⟩
open Go Go.Ve
theorem p137{c:Cat}(h:Sh c): ∃r,G137 c=some r/\(decide (r.1=0)=HQ c):=by
 have hh:=h.hd;obtain⟨a1,a2,a3,a4,a5,a6,a7,a8⟩:=hh;unfold G137;refine BY (Post:=fun(z:Option (Int×Int×Int×Int))=>∃r,z=some r/\(decide (r.1=0)=HQ c)) (st:=fun i=>(i:Int)) (n:=c.2.1.length) (p:=IE c) (Q:=fun(r:Int×Int×Int×Int)=>r.1≠0) (o:=.brk 0 (c.2.1.length:Int)) (fun f hf=>?_) (by simp) (fun y=>by simp) (fun hu=>?_) (fun hu r hr=>?_)
 ·have hf1:=h.fr f hf
  have ht1:=h.to f hf;have hi1:=h.id _ hf1.1 hf1.2;have hi2:=h.id _ ht1.1 ht1.2;have hfi:0<=c.2.1.getD f 0/\c.2.1.getD f 0<(c.2.2.2.1.length:Int):=by omega
  have hti:0<=c.2.2.1.getD f 0/\c.2.2.1.getD f 0<(c.2.2.2.1.length:Int):=by omega
  have hf3:f<c.2.2.1.length:=by omega
  have hf6:f<c.2.2.2.2.length:=by omega
  have hi1':0<=c.2.2.2.1.getD (c.2.1.getD f 0).toNat 0/\c.2.2.2.1.getD (c.2.1.getD f 0).toNat 0<(c.2.2.2.2.length:Int):=by rw [a6];exact hi1
  have hr1:=h.row _ (inN hi1);have hr1':f<(c.2.2.2.2.getD (c.2.2.2.1.getD (c.2.1.getD f 0).toNat 0).toNat []).length:=by rw [hr1];exact hf
  have hi2':0<=c.2.2.2.1.getD (c.2.2.1.getD f 0).toNat 0/\c.2.2.2.1.getD (c.2.2.1.getD f 0).toNat 0<((c.2.2.2.2.getD f []).length:Int):=by rw [h.row f hf];exact hi2
  simp only [Aw,hf,hf3,hf6,decide_true,cond_true,Ad hf,Ad hf3,Ad hf6,if_true,tNC,and_self,hfi,hti,hi1',hi2',Ad hr1',hr1',Option.bind_some];rw [Az (by omega) (by omega)]
  show(IE c f=true->_)/\_;unfold IE idn T;by_cases b1:(c.2.2.2.2.getD (c.2.2.2.1.getD (c.2.1.getD f 0).toNat 0).toNat []).getD f 0=(f:Int)
  ·by_cases b2:(c.2.2.2.2.getD f []).getD (c.2.2.2.1.getD (c.2.2.1.getD f 0).toNat 0).toNat 0=(f:Int)
   ·simp only [b1,b2,decide_true,Bool.not_true,cond_false,Option.bind_some,Bool.and_self]
    exact⟨fun _=>rfl,(fun h=>by cases h)⟩
   ·simp only [b1,b2,decide_true,decide_false,Bool.not_true,Bool.not_false,cond_false,cond_true,Option.bind_some,Bool.and_false]
    exact⟨(fun h=>by cases h),fun _=>⟨_,rfl,by simp⟩⟩
  ·simp only [b1,decide_false,Bool.not_false,cond_true,Option.bind_some,Bool.false_and]
   exact⟨(fun h=>by cases h),fun _=>⟨_,rfl,by simp⟩⟩
 ·show ∃r,(if 0=0 then _ else none)=some r/\_
  rw [if_pos rfl];refine BY (Post:=fun(z:Option (Int×Int×Int×Int))=>∃r,z=some r/\(decide (r.1=0)=HQ c)) (st:=fun i=>(i:Int)) (n:=c.2.1.length) (p:=fun f=>(List.range c.2.1.length).all fun g=>bif mt c f g then(List.range c.2.1.length).all fun h=>DT c f g h else true) (Q:=fun(r:Int×Int×Int×Int)=>r.1≠0) (o:=.brk 2 (c.2.1.length:Int)) (fun f hf=>?_) (by simp) (fun y=>by simp) (fun hv=>?_) (fun hv r hr=>?_)
  ·simp only [Aw,hf,decide_true,cond_true]
   refine BY (Post:=fun(z:Option (LO Int (Int×Int×Int×Int)))=>(((List.range c.2.1.length).all fun g=>bif mt c f g then(List.range c.2.1.length).all fun h=>DT c f g h else true)=true->z=some (.next ((f+1:Nat):Int)))/\(((List.range c.2.1.length).all fun g=>bif mt c f g then(List.range c.2.1.length).all fun h=>DT c f g h else true)=false->∃r,z=some (.ret r)/\r.1≠0))
    (st:=fun i=>(i:Int)) (n:=c.2.1.length) (p:=fun g=>bif mt c f g then(List.range c.2.1.length).all fun h=>DT c f g h else true) (Q:=fun(r:LO Int (Int×Int×Int×Int))=>∃r',r= .ret r'/\r'.1≠0) (o:=.brk 4 (c.2.1.length:Int)) (fun g hg=>?_) (by simp) (fun y=>by simp) (fun hw=>?_) (fun hw r hr=>?_)
   ·have hf3:f<c.2.2.1.length:=by omega
    have hg3:g<c.2.2.1.length:=by omega
    have hf6:f<c.2.2.2.2.length:=by omega
    have hg6:g<c.2.2.2.2.length:=by omega
    simp only [Aw,hg,hf3,decide_true,cond_true,Ad hg,Ad hf3,and_self,if_true,tNC];rw [Az (show(0:Int)<=(g:Int)+1 by omega) (by omega)]
    show(((bif mt c f g then _ else true)=true)->(bif !mt c f g then _ else _)=_)/\(_->∃r,(bif !mt c f g then _ else _)=_/\_);cases hm:mt c f g with
    |false=>exact⟨fun _=>rfl,(fun h=>by cases h)⟩
    |true=>
     obtain⟨q1,q2,q3,q4⟩:=h.pos f g hf hg hm;simp only [Bool.not_true,cond_false,cond_true]
     refine BY (Post:=fun(z:Option (LO Int (LO Int (Int×Int×Int×Int))))=>(((List.range c.2.1.length).all fun h=>DT c f g h)=true->z=some (.next ((g+1:Nat):Int)))/\(((List.range c.2.1.length).all fun h=>DT c f g h)=false->∃r,z=some (.ret r)/\∃r',r= .ret r'/\r'.1≠0))
      (st:=fun i=>(i:Int)) (n:=c.2.1.length) (p:=fun h=>DT c f g h) (Q:=fun(r:LO Int (LO Int (Int×Int×Int×Int)))=>∃r',r= .ret (.ret r')/\r'.1≠0) (o:=.brk 6 (c.2.1.length:Int)) (fun k hk=>?_) (by simp) (fun y=>by simp) (fun hw=>?_) (fun hw r hr=>?_)
     ·have e1:(c.2.2.2.2.getD f []).length=c.2.1.length:=h.row f hf
      have e2:(c.2.2.2.2.getD g []).length=c.2.1.length:=h.row g hg;have e3:(c.2.2.2.2.getD (T c f g).toNat []).length=c.2.1.length:=h.row _ (inN ⟨q1,q2⟩);have hgf:g<(c.2.2.2.2.getD f []).length:=by omega
      have hkg:k<(c.2.2.2.2.getD g []).length:=by omega
      have hkt:k<(c.2.2.2.2.getD (T c f g).toNat []).length:=by omega
      have ht:0<=T c f g/\T c f g<(c.2.2.2.2.length:Int):=by omega
      simp only [Aw,hk,hg3,decide_true,cond_true,Ad hk,Ad hg3,Ad hf6,Ad hg6,Ad hgf,Ad hkg,hf6,hg6,hgf,hkg,and_self,if_true,tNC];rw [Az (show(0:Int)<=(k:Int)+1 by omega) (by omega)]
      have eM:decide (c.2.2.1.getD g 0=c.2.1.getD k 0)=mt c g k:=rfl;have eT: ∀a b,(c.2.2.2.2.getD a []).getD b 0=T c a b:=fun _ _=>rfl
      have hkt':(k:Int)<((c.2.2.2.2.getD (T c f g).toNat []).length:Int):=by omega
      simp only [eM,eT,hkt',and_self,if_true];unfold DT;cases hm2:mt c g k with
      |false=>exact⟨fun _=>rfl,(fun h=>by cases h)⟩
      |true=>
       obtain⟨w1,w2,w3,w4⟩:=h.pos g k hg hk hm2;have hw':0<=T c g k/\T c g k<((c.2.2.2.2.getD f []).length:Int):=by omega
       simp only [cond_true,ht,Ad hkt,hw',and_self,if_true,Option.bind_some];by_cases b:T c (T c f g).toNat k=T c f (T c g k).toNat
       ·simp only [b,decide_true,Bool.not_true,cond_false]
        exact⟨fun _=>rfl,(fun h=>by cases h)⟩
       ·simp only [b,decide_false,Bool.not_false,cond_true]
        exact⟨(fun h=>by cases h),fun _=>⟨_,rfl,_,rfl,by simp⟩⟩
     ·refine⟨fun _=>?_,(fun h=>by rw [hw]at h;cases h)⟩
      show(if 6=6 then some (LO.next ((g:Int)+1))else none)=_
      rw [if_pos rfl];rfl
     ·obtain⟨r',rfl,hr'⟩:=hr
      exact⟨(fun h=>by rw [hw]at h;cases h),fun _=>⟨_,rfl,r',rfl,hr'⟩⟩
   ·refine⟨fun _=>?_,(fun h=>by rw [hw]at h;cases h)⟩
    show(if 4=4 then some (LO.next (IntKind.wrap .i64 ((f:Int)+1)))else none)=_
    rw [if_pos rfl,Az (by omega) (by omega)];rfl
   ·obtain⟨r',rfl,hr'⟩:=hr
    exact⟨(fun h=>by rw [hw]at h;cases h),fun _=>⟨r',rfl,hr'⟩⟩
  ·exact⟨_,rfl,by unfold HQ;rw [hu,hv];rfl⟩
  ·exact⟨r,rfl,by unfold HQ;rw [hu,hv];simpa using hr⟩
 ·exact⟨r,rfl,by unfold HQ;rw [hu];simpa using hr⟩
open Go Go.Ve
def HT(c:Cat):Bool:=Ht c&&HQ c
theorem p111{c:Cat}(h:okC c):G111 c=some (HT c):=by
 unfold G111;simp only [p136 h,Option.bind_some];unfold HT;cases hs:Ht c with
 |false=>rfl
 |true=>
  obtain⟨r,hr,hl⟩:=p137 (ZK hs);simp only [hr,Option.bind_some,hl,Bool.not_true,cond_false,Bool.true_and]
theorem p102{c:Cat}(h:okC c):G102 c=some (HT c):=by
 unfold G102;simp only [p133 h,Option.bind_some];unfold HT;cases hs:Ht c with
 |false=>rfl
 |true=>
  obtain⟨r,hr,hl⟩:=p134 (ZK hs);simp only [hr,Option.bind_some,hl,Bool.not_true,cond_false,Bool.true_and]
abbrev Qry:=List Int×List (Int×Int)×List (Int×Int)×List Int
def qHead(c:Cat)(q:Qry):Prop:=q.1.length<=4/\wi c.1 q.1=true/\q.2.1.length<=6/\q.2.2.1.length=q.2.1.length/\q.2.2.2.length<=4/\wi q.1.length q.2.2.2=true
instance(c:Cat)(q:Qry):Decidable (qHead c q):=by unfold qHead;infer_instance
open Go Go.Ve
open Go Go.Ve
end Go.Ve.D


namespace Go.Ve.D
open Go Go.Ve
theorem Vd{α:Type}{x:List α}(d:α){i:Nat}(hi:i<x.length):x.take i++ [x.getD i d]=x.take (i+1):=by
 rw [List.take_add_one];simp [hi]
theorem BI{α:Type}{x:List α}(d:α){i:Nat}(hi:i<x.length):x.getD i d∈x:=by
 rw [gDE,gEE hi];exact List.getElem_mem hi
end Go.Ve.D


namespace Go.Ve.D
open Go Go.Ve
theorem Qe{c:Cat}(h:HT c=true):Sh c:=by
 unfold HT at h;rw [bAE]at h;exact ZK h.1
theorem KT{α R:Type}{f:(Int×List α)->Option (LO (Int×List α) R)}{n:Nat}{q:Nat->Bool}{g:Nat->α}{id:Nat}
  (h1: ∀i,i<n->∀acc:List α,acc.length<=i->f ((i:Int),acc)=some (.next (((i+1:Nat):Int),bif q i then acc++ [g i]else acc)))
  (h2: ∀acc:List α,f ((n:Int),acc)=some (.brk id ((n:Int),acc))):
  Ah f ((0:Int),[])=some (.brk id ((n:Int),((List.range n).filter q).map g)):=by
 have key: ∀i,(((List.range i).filter q).map g).length<=i:=fun i=>by
  rw [List.length_map];have:=List.length_filter_le q (List.range i);rwa [List.length_range]at this
 refine A8 (st:=fun i:Nat=>((i:Int),((List.range i).filter q).map g)) (n:=n) (fun i hi=>?_) (h2 _) (fun y=>by simp)
 rw [h1 i hi _ (key i),List.range_succ,List.filter_append,List.map_append]
 congr 3
 cases hq:q i<;>simp [hq]
def fT(c:Cat)(f:Nat):Int:=c.2.1.getD f 0
def tT(c:Cat)(f:Nat):Int:=c.2.2.1.getD f 0
def ar(c:Cat):Nat:=c.2.1.length
def I5(c:Cat)(x y:Int):List Int:=((List.range (ar c)).filter fun f=>decide (fT c f=x)&&decide (tT c f=y)).map fun(f:Nat)=>(f:Int)
def risB(x:List Int):Bool:=(List.range (x.length-1)).all fun i=>!decide (x.getD (i+1) 0<=x.getD i 0)
def arrC(c:Cat)(w:List Int):Int:=bif !HT c then 1 else bif !wi (ar c) w then 2 else 0
def AaI(c:Cat)(w:List Int):Int:=bif decide (arrC c w=0)&& !risB w then 5 else arrC c w
end Go.Ve.D


namespace Go.Ve.D
open Go Go.Ve
theorem p70{c:Cat}(h:Sh c){f g:Int}(hf:0<=f/\f<(c.2.1.length:Int))(hg:0<=g/\g<(c.2.1.length:Int)):G70 (c,(f,g))=some (T c f.toNat g.toNat):=p67 h hf hg
def Ha(c:Cat)(f:Nat):Bool:=decide (c.2.2.2.1.getD (fT c f).toNat 0=(f:Int))
theorem UM{n:Nat}{p q:Nat->Bool}(h: ∀i,i<n->p i=q i):(List.range n).all p=(List.range n).all q:=by
 rw [Bool.eq_iff_iff,aET,aET];exact⟨fun H i hi=>by rw [<-h i (List.mem_range.1 hi)];exact H i hi,fun H i hi=>by rw [h i (List.mem_range.1 hi)];exact H i hi⟩
end Go.Ve.D


namespace Go.Ve.D
open Go Go.Ve
theorem DY{c:Cat}{x y:Int}:(I5 c x y).length<=ar c:=by
 unfold I5;rw [List.length_map];have:=List.length_filter_le (fun f=>decide (fT c f=x)&&decide (tT c f=y)) (List.range (ar c))
 rwa [List.length_range]at this
def hit(c:Cat)(w:List Int)(f v:Nat)(b a:Int):Bool:=w.contains b&&decide (T c b.toNat f=T c a.toNat v)
def sqS(c:Cat)(w:List Int)(f v:Nat)(s:Nat):Bool:=(I5 c (s:Int) (fT c f)).any fun b=>(I5 c (s:Int) (fT c v)).any fun a=>hit c w f v b a
def sq(c:Cat)(w:List Int)(f v:Nat):Bool:=(List.range c.1.toNat).any (sqS c w f v)
theorem srch{X R S:Type}{f:X->Option (LO X R)}{st:Nat->X}{n:Nat}{q:Nat->Bool}{Q:R->Prop}{o:LO X R}{k:LO X R->Option S}{Post:Bool->Option S->Prop}
  (h1: ∀i,i<n->(q i=false->f (st i)=some (.next (st (i+1))))/\(q i=true->∃r,f (st i)=some (.ret r)/\Q r)) (h2:f (st n)=some o) (ho: ∀y,o≠.next y)
  (hA:Post false (k o)) (hB: ∀r,Q r->Post true (k (.ret r))):Post ((List.range n).any q) (Option.bind (Ah f (st 0)) k):=by
 refine BY (p:=fun i=>!q i) (Q:=Q) (o:=o) (Post:=fun x=>Post ((List.range n).any q) x) (fun i hi=>?_) h2 ho (fun hall=>?_) (fun hall r hr=>?_)
 ·obtain⟨g1,g2⟩:=h1 i hi
  cases hq:q i with
  |true=>exact⟨(fun h=>by cases h),fun _=>g2 hq⟩
  |false=>exact⟨fun _=>g1 hq,(fun h=>by cases h)⟩
 ·have:(List.range n).any q=false:=by
   rw [List.any_eq_false];intro x hx;have:=aET.1 hall x hx;simpa using this
  rw [this];exact hA
 ·have:(List.range n).any q=true:=by
   rw [List.all_eq_false]at hall;obtain⟨x,hx,h⟩:=hall;rw [List.any_eq_true];exact⟨x,hx,by simpa using h⟩
  rw [this];exact hB r hr
end Go.Ve.D


namespace Go.Ve.D
open Go Go.Ve
def Jz(c:Cat)(x:Int):List Int:=((List.range (ar c)).filter fun f=>decide (fT c f=x)).map fun(f:Nat)=>(f:Int)
theorem p135{c:Cat}(hm:c.2.1.length<=1048576)(x:Int):G135 (c,x)=some (Jz c x):=by
 obtain⟨c1,c2,c3,c4,c5⟩:=c;unfold G135;simp only at hm⊢;refine As (v:=.brk 0 ((c2.length:Int),Jz (c1,(c2,(c3,(c4,c5)))) x)) (KT (fun i hi acc ha=>?_) fun acc=>?_) rfl
 ·simp only [Aw,hi,decide_true,cond_true,Ad hi,if_true,and_self,tNC,List.length_cons,List.length_nil]
  rw [Az (by omega) (by omega),if_pos (show acc.length+(0+1)<=17592186044416 by omega)]
  show _=some (LO.next (((i+1:Nat):Int),bif decide (c2.getD i 0=x)then acc++ [(i:Int)]else acc))
  cases decide (c2.getD i 0=x)<;>rfl
 ·simp only [Aw,Nat.lt_irrefl,decide_false,cond_false]
theorem Qh{m:Nat}{q:Nat->Bool}{i:Nat}(hi:i<(((List.range m).filter q).map fun(f:Nat)=>(f:Int)).length): ∃f:Nat,f<m/\q f=true/\(((List.range m).filter q).map fun(f:Nat)=>(f:Int)).getD i 0=(f:Int):=by
 have hm:=BI (0:Int) hi;obtain⟨f,hf,e⟩:=List.mem_map.1 hm;obtain⟨h1,h2⟩:=List.mem_filter.1 hf;exact⟨f,List.mem_range.1 h1,h2,e.symm⟩
theorem NS{m:Nat}{q:Nat->Bool}:(((List.range m).filter q).map fun(f:Nat)=>(f:Int)).length<=m:=by
 rw [List.length_map];have:=List.length_filter_le q (List.range m);rwa [List.length_range]at this
end Go.Ve.D

