/- Copies, equalities, sizes: what they compute. -/
import Derived.Test.YtgobokfkomalhaaUj
import Derived.Test.YtgobokfkomalhaaLa
import Derived.Test.YtgobokfkomalhaaTr
namespace Go.Ve.D
open Go Go.Ve
variable{a n:Int}{x:List Int}
def okC(c:Int×List Int×List Int×List Int×List (List Int)):Prop:=c.2.1.length<=1048576/\c.2.2.1.length<=1048576/\c.2.2.2.1.length<=1048576/\c.2.2.2.2.length<=1048576/\∀y∈c.2.2.2.2,y.length<=1048576
open Go Go.Ve
open Go Go.Ve
theorem p94(a l h:Int):G94 (a,(l,h))=some (decide (l<=a)&&decide (a<=h)):=by
 unfold G94;by_cases h1:l<=a<;>simp [h1]
theorem p85(a l h:Int):G85 (a,(l,h))=some (decide (l<=a)&&decide (a<=h)):=by
 unfold G85;by_cases h1:l<=a<;>simp [h1]
theorem p85'(a n:Int)(hn:0<=n/\n<=9223372036854775807):G85 (a,((0:Int),IntKind.wrap .i64 (n-1)))=some (inn n a):=by
 rw [p85,Zc (by omega) (by omega)]
 unfold inn
 congr 2
 rw [Bool.eq_iff_iff];simp;omega
theorem p61(hx:x.length<=1048576):G61 (n,x)=some (wi n x):=by
 unfold G61
 have h:=BS (R:=Bool) (f:=(fun(v0:Int)=>(bif(decide (v0<((x.length:Nat):Int)))then(if(((0:Int)<=v0)/\(v0<((x.length:Nat):Int)))then(Option.bind (bif(decide ((x.getD (v0).toNat (0:Int))<(0:Int)))then(some true)else(if(((0:Int)<=v0)/\(v0<((x.length:Nat):Int)))then(some (decide (n<=(x.getD (v0).toNat (0:Int)))))else none)) (fun(v1:Bool)=>(bif v1 then(B4 (some false))else(some (LO.next (IntKind.wrap .i64 (v0+(1:Int))))))))else none)else(some (LO.brk 0 v0)))))
  (st:=λi=>(i:Int)) (n:=x.length) (p:=λi=>inn n (x.getD i 0)) (r:=false) (o:=.brk 0 (x.length:Int)) (λi hi=>by
   simp only [Bh,hi,decide_true,cond_true,Ad hi,if_true,tNC,and_self];rw [Ay (by omega) (by omega)]
   by_cases h1:x.getD i 0<0
   ·have:inn n (x.getD i 0)=false:=YQ h1
    simp only [h1,decide_true,cond_true,Option.bind_some,this,cond_false];rfl
   ·by_cases h2:n<=x.getD i 0
    ·have:inn n (x.getD i 0)=false:=YP h2
     simp only [h1,h2,decide_false,decide_true,cond_true,cond_false,Option.bind_some,this];rfl
    ·have:inn n (x.getD i 0)=true:=XY (by omega) (by omega)
     simp only [h1,h2,decide_false,cond_true,cond_false,Option.bind_some,this];rfl) (by simp) (λy=>by simp)
 rw [O8 0 (inn n) x]at h;refine Ai h ?_;show _=some (wi n x);unfold wi;cases x.all (inn n)<;>rfl
theorem p55(hn:0<=n/\n<=9223372036854775807)(hx:x.length<=1048576):G55 (x,n)=some (wi n x):=by
 unfold G55
 have h:=BS (R:=Bool) (f:=(fun(v0:Int)=>(bif(decide (v0<((x.length:Nat):Int)))then(if(((0:Int)<=v0)/\(v0<((x.length:Nat):Int)))then(Option.bind (G85 ((x.getD (v0).toNat (0:Int)),((0:Int),(IntKind.wrap .i64 (n-(1:Int)))))) (fun(v1:Bool)=>(bif(!v1)then(B4 (some false))else(some (LO.next (IntKind.wrap .i64 (v0+(1:Int))))))))else none)else(some (LO.brk 0 v0)))))
  (st:=λi=>(i:Int)) (n:=x.length) (p:=λi=>inn n (x.getD i 0)) (r:=false) (o:=.brk 0 (x.length:Int)) (λi hi=>by
   simp only [Bh,hi,decide_true,cond_true,Ad hi,if_true,tNC,and_self,p85' _ _ hn,Option.bind_some];rw [Ay (by omega) (by omega)]
   cases inn n (x.getD i 0)<;>rfl) (by simp) (λy=>by simp)
 rw [O8 0 (inn n) x]at h;refine Ai h ?_;show _=some (wi n x);unfold wi;cases x.all (inn n)<;>rfl
theorem p95{m:Int}(hx:x.length<=1048576):G95 (x,(m,n))=some (decide ((x.length:Int)=m)&&wi n x):=by
 unfold G95;simp only [p61 hx,Option.bind_some];by_cases h:(x.length:Int)=m<;>simp [h]
open Go Go.Ve
abbrev Cat:=Int×List Int×List Int×List Int×List (List Int)
variable{c:Cat}
def BQ(c:Cat)(f g:Nat):Bool:=
 bif !decide (c.2.2.1.getD f 0=c.2.1.getD g 0)then decide ((c.2.2.2.2.getD f []).getD g 0= -1)
 else inn c.2.1.length ((c.2.2.2.2.getD f []).getD g 0)&&(decide (c.2.1.getD ((c.2.2.2.2.getD f []).getD g 0).toNat 0=c.2.1.getD f 0)&&decide (c.2.2.1.getD ((c.2.2.2.2.getD f []).getD g 0).toNat 0=c.2.2.1.getD g 0))
def Di(c:Cat)(f:Nat):Bool:=decide ((c.2.2.2.2.getD f []).length=c.2.1.length)&&(List.range c.2.1.length).all (BQ c f)
def UA(c:Cat)(i:Nat):Bool:=decide (c.2.1.getD (c.2.2.2.1.getD i 0).toNat 0=i)&&decide (c.2.2.1.getD (c.2.2.2.1.getD i 0).toNat 0=i)
def IH(c:Cat):Prop:=(0<=c.1/\c.1<=8)/\c.2.1.length<=40/\c.2.2.1.length=c.2.1.length/\wi c.1 c.2.1=true/\wi c.1 c.2.2.1=true/\c.2.2.2.2.length=c.2.1.length/\(c.2.2.2.1.length:Int)=c.1/\wi c.2.1.length c.2.2.2.1=true
instance(c:Cat):Decidable (IH c):=by unfold IH;infer_instance
def D7(c:Cat):Bool:=decide (IH c)&&((List.range c.2.2.2.1.length).all (UA c)&&(List.range c.2.1.length).all (Di c))
theorem p83i(h:IH c)(F:Int->Option (LO Int Bool))(hF:F=(fun(v6:Int)=>(bif(decide (v6<c.1))then(if(((0:Int)<=v6)/\(v6<((c.2.2.2.1.length:Nat):Int)))then(if(((0:Int)<=(c.2.2.2.1.getD (v6).toNat (0:Int)))/\((c.2.2.2.1.getD (v6).toNat (0:Int))<((c.2.1.length:Nat):Int)))then(Option.bind (bif(!decide ((c.2.1.getD ((c.2.2.2.1.getD (v6).toNat (0:Int))).toNat (0:Int))=v6))then(some true)else(if(((0:Int)<=v6)/\(v6<((c.2.2.2.1.length:Nat):Int)))then(if(((0:Int)<=(c.2.2.2.1.getD (v6).toNat (0:Int)))/\((c.2.2.2.1.getD (v6).toNat (0:Int))<((c.2.2.1.length:Nat):Int)))then(some (!decide ((c.2.2.1.getD ((c.2.2.2.1.getD (v6).toNat (0:Int))).toNat (0:Int))=v6)))else none)else none)) (fun(v7:Bool)=>(bif v7 then(B4 (some false))else(some (LO.next (IntKind.wrap .i64 (v6+(1:Int))))))))else none)else none)else(some (LO.brk 0 v6))))):
  Aq F 0=some (bif(List.range c.2.2.2.1.length).all (UA c)then .brk 0 c.1 else .ret false):=by
 obtain⟨a1,a2,a3,a4,a5,a6,a7,a8⟩:=h;subst hF;refine BS (st:=λi=>(i:Int)) (λi hi=>?_) (by simp [a7]) (λy=>by simp)
 have hlt:((i:Int)<c.1):=by omega
 have hg:=Kk a8 hi;have hg':0<=c.2.2.2.1.getD i 0/\c.2.2.2.1.getD i 0<(c.2.2.1.length:Int):=by rw [a3];exact hg
 simp only [hlt,decide_true,cond_true,Ad hi,if_true,tNC,and_self,hg,hg'];rw [Ay (by omega) (by omega)]
 unfold UA;by_cases b1:c.2.1.getD (c.2.2.2.1.getD i 0).toNat 0=(i:Int)
 ·by_cases b2:c.2.2.1.getD (c.2.2.2.1.getD i 0).toNat 0=(i:Int)
  ·simp only [b1,b2,decide_true,Bool.not_true,cond_false,cond_true,Option.bind_some,Bool.and_self];rfl
  ·simp only [b1,b2,decide_true,decide_false,Bool.not_true,Bool.not_false,cond_false,cond_true,Option.bind_some,Bool.and_false];rfl
 ·simp only [b1,decide_false,Bool.not_false,cond_false,cond_true,Option.bind_some,Bool.false_and];rfl
open Go Go.Ve
theorem BE(h: ¬IH c):D7 c=false:=by simp [D7,h]
theorem p83(h:okC c):G83 c=some (D7 c):=by
 obtain⟨h1,h2,h3,h4,h5⟩:=h;unfold G83;simp only [p94,p95 h1,p95 h2,p61 h3,Option.bind_some,decide_true,Bool.true_and];by_cases c1:0<=c.1/\c.1<=8
 case neg=>
  have e:(decide (0<=c.1)&&decide (c.1<=8))=false:=by simp;omega
  simp only [e,Bool.not_false,cond_true,Option.bind_some,BE λh=>c1 h.1]
 have e1:(decide (0<=c.1)&&decide (c.1<=8))=true:=by simp [c1]
 simp only [e1,Bool.not_true,cond_false,Option.bind_some];by_cases c2:(40:Int)<(c.2.1.length:Int)
 case pos=>simp only [c2,decide_true,cond_true,Option.bind_some,BE (c:=c) λh=>absurd h.2.1 (by omega)]
 simp only [c2,decide_false,cond_false];cases c3:wi c.1 c.2.1 with
 |false=>simp only [Bool.not_false,cond_true,Option.bind_some,BE λh=>by have:=h.2.2.2.1;rw [c3]at this;cases this]
 |true=>
 simp only [Bool.not_true,cond_false,Option.bind_some];by_cases c4:(c.2.2.1.length:Int)=(c.2.1.length:Int)
 case neg=>simp only [c4,decide_false,Bool.false_and,Bool.not_false,cond_true,Option.bind_some,BE λh=>c4 (by rw [h.2.2.1])]
 simp only [dT c4,Bool.true_and];cases c5:wi c.1 c.2.2.1 with
 |false=>simp only [Bool.not_false,cond_true,Option.bind_some,BE λh=>by have:=h.2.2.2.2.1;rw [c5]at this;cases this]
 |true=>
 simp only [Bool.not_true,cond_false,Option.bind_some];by_cases c6:(c.2.2.2.2.length:Int)=(c.2.1.length:Int)
 case neg=>simp only [c6,decide_false,Bool.not_false,cond_true,Option.bind_some,BE λh=>c6 (by rw [h.2.2.2.2.2.1])]
 simp only [dT c6,Bool.not_true,cond_false];by_cases c7:(c.2.2.2.1.length:Int)=c.1
 case neg=>simp only [c7,decide_false,Bool.not_false,cond_true,Option.bind_some,BE λh=>c7 h.2.2.2.2.2.2.1]
 simp only [dT c7,Bool.not_true,cond_false];cases c8:wi c.2.1.length c.2.2.2.1 with
 |false=>simp only [Bool.not_false,cond_true,Option.bind_some,BE λh=>by have:=h.2.2.2.2.2.2.2;rw [c8]at this;cases this]
 |true=>
 simp only [Bool.not_true,cond_false,Option.bind_some];have hh:IH c:=⟨c1,by omega,by omega,c3,c5,by omega,c7,c8⟩
 have hs:D7 c=((List.range c.2.2.2.1.length).all (UA c)&&(List.range c.2.1.length).all (Di c)):=by simp [D7,hh]
 rw [hs];have g:=p83i hh _ rfl;refine Ai g ?_;cases hi:(List.range c.2.2.2.1.length).all (UA c)with
 |false=>rfl
 |true=>
 simp only [cond_true,Bool.true_and];obtain⟨a1,a2,a3,a4,a5,a6,a7,a8⟩:=hh;show(if 0=0 then _ else _)=_
 rw [if_pos rfl];refine Ai (v:=bif(List.range c.2.1.length).all (Di c)then .brk 2 (c.2.1.length:Int)else .ret false) (BS (st:=λi=>(i:Int)) (λf hf=>?_) (by simp) (λy=>by simp)) (by cases (List.range c.2.1.length).all (Di c)<;>rfl)
 have hf6:f<c.2.2.2.2.length:=by omega
 simp only [Bh,hf,hf6,decide_true,cond_true,Ad hf,Ad hf6,if_true,tNC,and_self];by_cases d1:((c.2.2.2.2.getD f []).length:Int)=(c.2.1.length:Int)
 case neg=>
  have:Di c f=false:=by unfold Di;simp only [show ¬ (c.2.2.2.2.getD f []).length=c.2.1.length by omega,decide_false,Bool.false_and]
  simp only [d1,decide_false,Bool.not_false,cond_true,this,cond_false];rfl
 have d2:(c.2.2.2.2.getD f []).length=c.2.1.length:=by omega
 have hr:Di c f=(List.range c.2.1.length).all (BQ c f):=by unfold Di;simp only [d2,decide_true,Bool.true_and]
 simp only [dT d1,Bool.not_true,cond_false];rw [hr]
 refine Ai (v:=bif(List.range c.2.1.length).all (BQ c f)then .brk 4 (c.2.1.length:Int)else .ret (.ret false)) (BS (st:=λi=>(i:Int)) (λg hg=>?_) (by simp) (λy=>by simp)) (by
  cases (List.range c.2.1.length).all (BQ c f)with
  |false=>rfl
  |true=>
   show(if 4=4 then some (LO.next (IntKind.wrap .i64 ((f:Int)+1)))else none)=_
   rw [if_pos rfl,Ay (by omega) (by omega)];rfl)
 have hf3:f<c.2.2.1.length:=by omega
 have hg3:g<c.2.2.1.length:=by omega
 have hgr:(g:Int)<((c.2.2.2.2.getD f []).length:Int):=by omega
 simp only [Bh,hf,hg,hf3,hg3,hgr,decide_true,cond_true,Ad hf,Ad hg,Ad hf6,Ad hf3,Ad hg3,if_true,tNC,and_self];rw [Ay (show(0:Int)<=(g:Int)+1 by omega) (by omega)]
 unfold BQ;obtain⟨k,hk⟩: ∃k,k=(c.2.2.2.2.getD f []).getD g 0:=⟨_,rfl⟩;simp only [<-hk];clear hk;by_cases e1:c.2.2.1.getD f 0=c.2.1.getD g 0
 case neg=>
  simp only [e1,decide_false,Bool.not_false,cond_true];by_cases e2:k= -1
  ·simp only [e2,decide_true,Bool.not_true,cond_false,cond_true];rfl
  ·simp only [e2,decide_false,Bool.not_false,cond_false,cond_true];rfl
 simp only [e1,decide_true,Bool.not_true,cond_false];by_cases e2:k<0
 case pos=>simp only [e2,decide_true,cond_true,Option.bind_some,YQ e2,Bool.false_and,cond_false];rfl
 simp only [e2,decide_false,cond_false,Option.bind_some];by_cases e3:(c.2.1.length:Int)<=k
 case pos=>simp only [e3,decide_true,cond_true,Option.bind_some,YP e3,Bool.false_and,cond_false];rfl
 have e4:inn c.2.1.length k=true:=XY (by omega) (by omega)
 have e5:0<=k/\k<(c.2.1.length:Int):=by omega
 have e6:0<=k/\k<(c.2.2.1.length:Int):=by omega
 simp only [e3,decide_false,cond_false,Option.bind_some,e4,e5,e6,and_self,if_true,Bool.true_and];by_cases e7:c.2.1.getD k.toNat 0=c.2.1.getD f 0
 case neg=>simp only [e7,decide_false,Bool.not_false,cond_true,cond_false,Option.bind_some,Bool.false_and];rfl
 simp only [e7,decide_true,Bool.not_true,cond_false,Bool.true_and];by_cases e8:c.2.2.1.getD k.toNat 0=c.2.2.1.getD g 0
 ·simp only [e8,decide_true,Bool.not_true,cond_false,cond_true,Option.bind_some];rfl
 ·simp only [e8,decide_false,Bool.not_false,cond_false,cond_true,Option.bind_some];rfl
open Go Go.Ve
theorem p56(c:Cat):G56 c=some (c.2.1.length:Int):=rfl
theorem p41(h1:0<=a/\a<(c.2.1.length:Int))(h2:0<=a/\a<(c.2.2.1.length:Int)):G41 (c,a)=some (c.2.1.getD a.toNat 0,c.2.2.1.getD a.toNat 0):=by
 unfold G41;simp only [h1,h2,and_self,if_true]
theorem p62(h:okC c):G62 c=some (D7 c):=by
 obtain⟨h1,h2,h3,h4,h5⟩:=h;unfold G62;simp only [p56,p85 c.1 0 8,Option.bind_some];by_cases c1:0<=c.1/\c.1<=8
 case neg=>
  have e:(decide (0<=c.1)&&decide (c.1<=8))=false:=by simp;omega
  simp only [e,Bool.not_false,cond_true,Option.bind_some,BE λh=>c1 h.1]
 have e1:(decide (0<=c.1)&&decide (c.1<=8))=true:=by simp [c1]
 have hob:0<=c.1/\c.1<=9223372036854775807:=by omega
 have hm:(0:Int)<=(c.2.1.length:Int)/\(c.2.1.length:Int)<=9223372036854775807:=by omega
 simp only [e1,Bool.not_true,cond_false,Option.bind_some,p55 hob h1,p55 hob h2,p55 hm h3];by_cases c2:(40:Int)<(c.2.1.length:Int)
 case pos=>simp only [c2,decide_true,cond_true,Option.bind_some,BE (c:=c) λh=>absurd h.2.1 (by omega)]
 simp only [c2,decide_false,cond_false,Option.bind_some];by_cases c4:(c.2.2.1.length:Int)=(c.2.1.length:Int)
 case neg=>simp only [c4,decide_false,Bool.not_false,cond_true,Option.bind_some,BE λh=>c4 (by rw [h.2.2.1])]
 simp only [dT c4,Bool.not_true,cond_false,Option.bind_some];cases c3:wi c.1 c.2.1 with
 |false=>simp only [Bool.not_false,cond_true,Option.bind_some,BE λh=>by have:=h.2.2.2.1;rw [c3]at this;cases this]
 |true=>
 simp only [Bool.not_true,cond_false,Option.bind_some];cases c5:wi c.1 c.2.2.1 with
 |false=>simp only [Bool.not_false,cond_true,Option.bind_some,BE λh=>by have:=h.2.2.2.2.1;rw [c5]at this;cases this]
 |true=>
 simp only [Bool.not_true,cond_false,Option.bind_some];by_cases c7:(c.2.2.2.1.length:Int)=c.1
 case neg=>simp only [c7,decide_false,Bool.not_false,cond_true,Option.bind_some,BE λh=>c7 h.2.2.2.2.2.2.1]
 simp only [dT c7,Bool.not_true,cond_false];cases c8:wi c.2.1.length c.2.2.2.1 with
 |false=>simp only [Bool.not_false,cond_true,Option.bind_some,BE λh=>by have:=h.2.2.2.2.2.2.2;rw [c8]at this;cases this]
 |true=>
 simp only [Bool.not_true,cond_false,Option.bind_some];by_cases c6:(c.2.2.2.2.length:Int)=(c.2.1.length:Int)
 case neg=>simp only [c6,decide_false,Bool.not_false,cond_true,Option.bind_some,BE λh=>c6 (by rw [h.2.2.2.2.2.1])]
 simp only [dT c6,Bool.not_true,cond_false,Option.bind_some];have hh:IH c:=⟨c1,by omega,by omega,c3,c5,by omega,c7,c8⟩
 have hs:D7 c=((List.range c.2.2.2.1.length).all (UA c)&&(List.range c.2.1.length).all (Di c)):=by simp [D7,hh]
 rw [hs];obtain⟨a1,a2,a3,a4,a5,a6,a7,a8⟩:=hh;refine Ai (v:=bif(List.range c.2.2.2.1.length).all (UA c)then .brk 0 (c.2.2.2.1.length:Int)else .ret false) (BS (st:=λi=>(i:Int)) (λi hi=>?_) (by simp) (λy=>by simp)) ?_
 ·have hg:=Kk a8 hi
  have hg':0<=c.2.2.2.1.getD i 0/\c.2.2.2.1.getD i 0<(c.2.2.1.length:Int):=by rw [a3];exact hg
  simp only [Bh,hi,decide_true,cond_true,Ad hi,if_true,tNC,and_self,p41 hg hg',Option.bind_some,Bool.and_true];rw [Ay (by omega) (by omega)]
  show(bif !UA c i then _ else _)=_;cases UA c i<;>rfl
 cases hi:(List.range c.2.2.2.1.length).all (UA c)with
 |false=>rfl
 |true=>
 simp only [cond_true,Bool.true_and];show(if 0=0 then _ else _)=_
 rw [if_pos rfl];refine Ai (v:=bif(List.range c.2.1.length).all (Di c)then .brk 2 (c.2.1.length:Int)else .ret false) (BS (st:=λi=>(i:Int)) (λf hf=>?_) (by simp [a6]) (λy=>by simp)) (by cases (List.range c.2.1.length).all (Di c)<;>rfl)
 have hf6:f<c.2.2.2.2.length:=by omega
 simp only [Bh,hf6,decide_true,cond_true,Ad hf6,if_true,tNC,and_self];by_cases d1:((c.2.2.2.2.getD f []).length:Int)=(c.2.1.length:Int)
 case neg=>
  have:Di c f=false:=by unfold Di;simp only [show ¬ (c.2.2.2.2.getD f []).length=c.2.1.length by omega,decide_false,Bool.false_and]
  simp only [d1,decide_false,Bool.not_false,cond_true,this,cond_false];rfl
 have d2:(c.2.2.2.2.getD f []).length=c.2.1.length:=by omega
 have hr:Di c f=(List.range c.2.1.length).all (BQ c f):=by unfold Di;simp only [d2,decide_true,Bool.true_and]
 simp only [dT d1,Bool.not_true,cond_false];rw [hr]
 refine Ai (v:=bif(List.range c.2.1.length).all (BQ c f)then .brk 4 (c.2.1.length:Int)else .ret (.ret false)) (BS (st:=λi=>(i:Int)) (λg hg=>?_) (by simp only [dF (show ¬ ((c.2.1.length:Int)<((c.2.2.2.2.getD f []).length:Int)) by omega),cond_false]) (λy=>by simp)) (by
  cases (List.range c.2.1.length).all (BQ c f)with
  |false=>rfl
  |true=>
   show(if 4=4 then some (LO.next (IntKind.wrap .i64 ((f:Int)+1)))else none)=_
   rw [if_pos rfl,Ay (by omega) (by omega)];rfl)
 have hf3:f<c.2.2.1.length:=by omega
 have hg3:g<c.2.2.1.length:=by omega
 have hgr:g<(c.2.2.2.2.getD f []).length:=by omega
 simp only [Bh,hf,hg,hf3,hg3,hgr,decide_true,cond_true,Ad hf,Ad hg,Ad hf6,Ad hf3,Ad hg3,Ad hgr,if_true,tNC,and_self,p85' _ _ hm,Option.bind_some];rw [Ay (show(0:Int)<=(g:Int)+1 by omega) (by omega)]
 unfold BQ;obtain⟨k,hk⟩: ∃k,k=(c.2.2.2.2.getD f []).getD g 0:=⟨_,rfl⟩;simp only [<-hk];clear hk;by_cases e1:c.2.2.1.getD f 0=c.2.1.getD g 0
 case neg=>
  simp only [e1,decide_false,Bool.not_false,cond_true];by_cases e2:k= -1
  ·simp only [e2,decide_true,Bool.not_true,cond_false,cond_true];rfl
  ·simp only [e2,decide_false,Bool.not_false,cond_false,cond_true];rfl
 simp only [e1,decide_true,Bool.not_true,cond_false];cases e2:inn c.2.1.length k with
 |false=>simp only [Bool.not_false,cond_true,Option.bind_some,Bool.false_and,cond_false];rfl
 |true=>
 have e5:=JI.1 e2;have e6:0<=k/\k<(c.2.2.1.length:Int):=by omega
 simp only [Bool.not_true,cond_false,p41 e5 e6,Option.bind_some,Bool.true_and,Bool.and_true];cases (decide (c.2.1.getD k.toNat 0=c.2.1.getD f 0)&&decide (c.2.2.1.getD k.toNat 0=c.2.2.1.getD g 0))<;>rfl
open Go Go.Ve
def T(c:Cat)(f g:Nat):Int:=(c.2.2.2.2.getD f []).getD g 0
def idn(c:Cat)(x:Int):Nat:=(c.2.2.2.1.getD x.toNat 0).toNat
def Dz(c:Cat)(f:Nat):Bool:=decide (T c (idn c (c.2.1.getD f 0)) f=(f:Int))&&decide (T c f (idn c (c.2.2.1.getD f 0))=(f:Int))
def mt(c:Cat)(f g:Nat):Bool:=decide (c.2.2.1.getD f 0=c.2.1.getD g 0)
def Db(c:Cat)(f g h:Nat):Bool:=bif mt c g h then decide (T c (T c f g).toNat h=T c f (T c g h).toNat)else true
def Hf(c:Cat):Bool:=(List.range c.2.1.length).all (Dz c)&&(List.range c.2.1.length).all λf=>(List.range c.2.1.length).all λg=>bif mt c f g then(List.range c.2.1.length).all λh=>Db c f g h else true
structure Sh(c:Cat):Prop where
 hd:IH c
 id: ∀x:Int,0<=x->x<c.1->(0<=c.2.2.2.1.getD x.toNat 0/\c.2.2.2.1.getD x.toNat 0<(c.2.1.length:Int))
 fr: ∀f,f<c.2.1.length->0<=c.2.1.getD f 0/\c.2.1.getD f 0<c.1
 to: ∀f,f<c.2.1.length->0<=c.2.2.1.getD f 0/\c.2.2.1.getD f 0<c.1
 row: ∀f,f<c.2.1.length->(c.2.2.2.2.getD f []).length=c.2.1.length
 neg: ∀f g,f<c.2.1.length->g<c.2.1.length->mt c f g=false->T c f g= -1
 pos: ∀f g,f<c.2.1.length->g<c.2.1.length->mt c f g=true->0<=T c f g/\T c f g<(c.2.1.length:Int)/\c.2.1.getD (T c f g).toNat 0=c.2.1.getD f 0/\c.2.2.1.getD (T c f g).toNat 0=c.2.2.1.getD g 0
theorem ZE(h:D7 c=true):Sh c:=by
 unfold D7 at h;simp only [bAE,decide_eq_true_eq]at h;obtain⟨hh,hi,hr⟩:=h;have hr': ∀f,f<c.2.1.length->Di c f=true:=λf hf=>aET.1 hr f (List.mem_range.2 hf)
 have hcell: ∀f g,f<c.2.1.length->g<c.2.1.length->BQ c f g=true:=λf g hf hg=>by
  have:=hr' f hf;unfold Di at this;rw [bAE]at this;exact aET.1 this.2 g (List.mem_range.2 hg)
 have h0:=hh;obtain⟨a1,a2,a3,a4,a5,a6,a7,a8⟩:=hh;refine⟨h0,λx h1 h2=>Kk a8 (by omega),λf hf=>Kk a4 hf,λf hf=>Kk a5 (by omega),λf hf=>?_,λf g hf hg hm=>?_,λf g hf hg hm=>?_⟩
 ·have:=hr' f hf
  unfold Di at this;rw [bAE]at this;exact of_decide_eq_true this.1
 ·have:=hcell f g hf hg
  unfold BQ at this;unfold mt at hm;rw [hm]at this;exact of_decide_eq_true this
 ·have:=hcell f g hf hg
  unfold BQ at this;unfold mt at hm;rw [hm]at this;simp only [Bool.not_true,cond_false,bAE,decide_eq_true_eq]at this;exact⟨(JI.1 this.1).1,(JI.1 this.1).2,this.2.1,this.2.2⟩
theorem CV{X R S:Type}{f:X->Option (LO X R)}{st:Nat->X}{n:Nat}{p:Nat->Bool}{Q:R->Prop}{o:LO X R}{k:LO X R->Option S}{Post:Option S->Prop}
  (h1: ∀i,i<n->(p i=true->f (st i)=some (.next (st (i+1))))/\(p i=false->∃r,f (st i)=some (.ret r)/\Q r)) (h2:f (st n)=some o) (ho: ∀y,o≠.next y)
  (hA:(List.range n).all p=true->Post (k o)) (hB:(List.range n).all p=false->∀r,Q r->Post (k (.ret r))):Post (Option.bind (Aq f (st 0)) k):=by
 obtain⟨g1,g2⟩:=US h1 h2 ho;cases h:(List.range n).all p with
 |true=>rw [g1 h];exact hA h
 |false=>obtain⟨r,hr,hq⟩:=g2 h;rw [hr];exact hB h r hq
theorem inN{n:Nat}(h:0<=a/\a<(n:Int)):a.toNat<n:=by omega
theorem p60(h:Sh c){f g:Int}(hf:0<=f/\f<(c.2.1.length:Int))(hg:0<=g/\g<(c.2.1.length:Int)):G60 (c,(f,g))=some (T c f.toNat g.toNat):=by
 unfold G60;have e1:c.2.2.2.2.length=c.2.1.length:=h.hd.2.2.2.2.2.1;have e2:=h.row f.toNat (inN hf);have h1:0<=f/\f<(c.2.2.2.2.length:Int):=by rw [e1];exact hf
 have h2:0<=g/\g<((c.2.2.2.2.getD f.toNat []).length:Int):=by rw [e2];exact hg
 simp only [h1,h2,and_self,if_true];rfl
theorem p63(h:Sh c): ∃r,G63 c=some r/\(decide (r.1=0)=Hf c):=by
 have hh:=h.hd;obtain⟨a1,a2,a3,a4,a5,a6,a7,a8⟩:=hh;unfold G63;simp only [p56,Option.bind_some];refine CV (Post:=fun(z:Option (Int×Int×Int×Int))=>∃r,z=some r/\(decide (r.1=0)=Hf c)) (st:=λi=>(i:Int)) (n:=c.2.1.length) (p:=Dz c) (Q:=fun(r:Int×Int×Int×Int)=>r.1≠0) (o:=.brk 0 (c.2.1.length:Int)) (λf hf=>?_) (by simp) (λy=>by simp) (λhu=>?_) (λhu r hr=>?_)
 ·have hf1:=h.fr f hf
  have ht1:=h.to f hf;have hi1:=h.id _ hf1.1 hf1.2;have hi2:=h.id _ ht1.1 ht1.2;have hfi:0<=c.2.1.getD f 0/\c.2.1.getD f 0<(c.2.2.2.1.length:Int):=by omega
  have hti:0<=c.2.2.1.getD f 0/\c.2.2.1.getD f 0<(c.2.2.2.1.length:Int):=by omega
  have hf3:f<c.2.2.1.length:=by omega
  simp only [Bh,hf,hf3,decide_true,cond_true,Ad hf,Ad hf3,if_true,tNC,and_self,hfi,hti,p60 h hi1 (Ad hf),p60 h (Ad hf) hi2,Option.bind_some];rw [Ay (by omega) (by omega)]
  show(Dz c f=true->_)/\_;unfold Dz idn;by_cases b1:T c (c.2.2.2.1.getD (c.2.1.getD f 0).toNat 0).toNat f=(f:Int)
  ·by_cases b2:T c f (c.2.2.2.1.getD (c.2.2.1.getD f 0).toNat 0).toNat=(f:Int)
   ·simp only [b1,b2,decide_true,Bool.not_true,cond_false,Option.bind_some,Bool.and_self]
    exact⟨λ_=>rfl,(λh=>by cases h)⟩
   ·simp only [b1,b2,decide_true,decide_false,Bool.not_true,Bool.not_false,cond_false,cond_true,Option.bind_some,Bool.and_false]
    exact⟨(λh=>by cases h),λ_=>⟨_,rfl,by simp⟩⟩
  ·simp only [b1,decide_false,Bool.not_false,cond_true,Option.bind_some,Bool.false_and]
   exact⟨(λh=>by cases h),λ_=>⟨_,rfl,by simp⟩⟩
 ·show ∃r,(if 0=0 then _ else none)=some r/\_
  rw [if_pos rfl];refine CV (Post:=fun(z:Option (Int×Int×Int×Int))=>∃r,z=some r/\(decide (r.1=0)=Hf c)) (st:=λi=>(i:Int)) (n:=c.2.1.length) (p:=λf=>(List.range c.2.1.length).all λg=>bif mt c f g then(List.range c.2.1.length).all λh=>Db c f g h else true) (Q:=fun(r:Int×Int×Int×Int)=>r.1≠0) (o:=.brk 2 (c.2.1.length:Int)) (λf hf=>?_) (by simp) (λy=>by simp) (λhv=>?_) (λhv r hr=>?_)
  ·simp only [Bh,hf,decide_true,cond_true]
   refine CV (Post:=fun(z:Option (LO Int (Int×Int×Int×Int)))=>(((List.range c.2.1.length).all λg=>bif mt c f g then(List.range c.2.1.length).all λh=>Db c f g h else true)=true->z=some (.next ((f+1:Nat):Int)))/\(((List.range c.2.1.length).all λg=>bif mt c f g then(List.range c.2.1.length).all λh=>Db c f g h else true)=false->∃r,z=some (.ret r)/\r.1≠0))
    (st:=λi=>(i:Int)) (n:=c.2.1.length) (p:=λg=>bif mt c f g then(List.range c.2.1.length).all λh=>Db c f g h else true) (Q:=fun(r:LO Int (Int×Int×Int×Int))=>∃r',r= .ret r'/\r'.1≠0) (o:=.brk 4 (c.2.1.length:Int)) (λg hg=>?_) (by simp) (λy=>by simp) (λhw=>?_) (λhw r hr=>?_)
   ·simp only [Bh,hg,decide_true,cond_true,p60 h (Ad hf) (Ad hg),tNC,Option.bind_some]
    rw [Ay (show(0:Int)<=(g:Int)+1 by omega) (by omega)]
    cases hm:mt c f g with
    |false=>
     have:=h.neg f g hf hg hm;simp only [this,show((-1:Int)<0) by decide,decide_true,cond_true,cond_false]
     exact⟨λ_=>rfl,(λh=>by cases h)⟩
    |true=>
     obtain⟨q1,q2,q3,q4⟩:=h.pos f g hf hg hm;simp only [show ¬ (T c f g<0) by omega,decide_false,cond_false,cond_true]
     refine CV (Post:=fun(z:Option (LO Int (LO Int (Int×Int×Int×Int))))=>(((List.range c.2.1.length).all λh=>Db c f g h)=true->z=some (.next ((g+1:Nat):Int)))/\(((List.range c.2.1.length).all λh=>Db c f g h)=false->∃r,z=some (.ret r)/\∃r',r= .ret r'/\r'.1≠0))
      (st:=λi=>(i:Int)) (n:=c.2.1.length) (p:=λh=>Db c f g h) (Q:=fun(r:LO Int (LO Int (Int×Int×Int×Int)))=>∃r',r= .ret (.ret r')/\r'.1≠0) (o:=.brk 6 (c.2.1.length:Int)) (λk hk=>?_) (by simp) (λy=>by simp) (λhw=>?_) (λhw r hr=>?_)
     ·simp only [Bh,hk,decide_true,cond_true,p60 h (Ad hg) (Ad hk),tNC,Option.bind_some]
      rw [Ay (show(0:Int)<=(k:Int)+1 by omega) (by omega)]
      unfold Db;cases hm2:mt c g k with
      |false=>
       have:=h.neg g k hg hk hm2;simp only [this,show ¬ ((0:Int)<=-1) by decide,decide_false,cond_false,Option.bind_some]
       exact⟨λ_=>rfl,(λh=>by cases h)⟩
      |true=>
       obtain⟨w1,w2,w3,w4⟩:=h.pos g k hg hk hm2;simp only [w1,decide_true,cond_true,p60 h (Ad hf) (Ad hg),p60 h ⟨q1,q2⟩ (Ad hk),p60 h (Ad hf) ⟨w1,w2⟩,tNC,Option.bind_some];by_cases b:T c (T c f g).toNat k=T c f (T c g k).toNat
       ·simp only [b,decide_true,Bool.not_true,cond_false]
        exact⟨λ_=>rfl,(λh=>by cases h)⟩
       ·simp only [b,decide_false,Bool.not_false,cond_true]
        exact⟨(λh=>by cases h),λ_=>⟨_,rfl,_,rfl,by simp⟩⟩
     ·refine⟨λ_=>?_,(λh=>by rw [hw]at h;cases h)⟩
      show(if 6=6 then some (LO.next ((g:Int)+1))else none)=_
      rw [if_pos rfl];rfl
     ·obtain⟨r',rfl,hr'⟩:=hr
      exact⟨(λh=>by rw [hw]at h;cases h),λ_=>⟨_,rfl,r',rfl,hr'⟩⟩
   ·refine⟨λ_=>?_,(λh=>by rw [hw]at h;cases h)⟩
    show(if 4=4 then some (LO.next (IntKind.wrap .i64 ((f:Int)+1)))else none)=_
    rw [if_pos rfl,Ay (by omega) (by omega)];rfl
   ·obtain⟨r',rfl,hr'⟩:=hr
    exact⟨(λh=>by rw [hw]at h;cases h),λ_=>⟨r',rfl,hr'⟩⟩
  ·exact⟨_,rfl,by unfold Hf;rw [hu,hv];rfl⟩
  ·exact⟨r,rfl,by unfold Hf;rw [hu,hv];simpa using hr⟩
 ·exact⟨r,rfl,by unfold Hf;rw [hu];simpa using hr⟩
open Go Go.Ve
theorem p84(h:Sh c): ∃r,G84 c=some r/\(decide (r.1=0)=Hf c):=by
 have hh:=h.hd;obtain⟨a1,a2,a3,a4,a5,a6,a7,a8⟩:=hh;unfold G84;refine CV (Post:=fun(z:Option (Int×Int×Int×Int))=>∃r,z=some r/\(decide (r.1=0)=Hf c)) (st:=λi=>(i:Int)) (n:=c.2.1.length) (p:=Dz c) (Q:=fun(r:Int×Int×Int×Int)=>r.1≠0) (o:=.brk 0 (c.2.1.length:Int)) (λf hf=>?_) (by simp) (λy=>by simp) (λhu=>?_) (λhu r hr=>?_)
 ·have hf1:=h.fr f hf
  have ht1:=h.to f hf;have hi1:=h.id _ hf1.1 hf1.2;have hi2:=h.id _ ht1.1 ht1.2;have hfi:0<=c.2.1.getD f 0/\c.2.1.getD f 0<(c.2.2.2.1.length:Int):=by omega
  have hti:0<=c.2.2.1.getD f 0/\c.2.2.1.getD f 0<(c.2.2.2.1.length:Int):=by omega
  have hf3:f<c.2.2.1.length:=by omega
  have hf6:f<c.2.2.2.2.length:=by omega
  have hi1':0<=c.2.2.2.1.getD (c.2.1.getD f 0).toNat 0/\c.2.2.2.1.getD (c.2.1.getD f 0).toNat 0<(c.2.2.2.2.length:Int):=by rw [a6];exact hi1
  have hr1:=h.row _ (inN hi1);have hr1':f<(c.2.2.2.2.getD (c.2.2.2.1.getD (c.2.1.getD f 0).toNat 0).toNat []).length:=by rw [hr1];exact hf
  have hi2':0<=c.2.2.2.1.getD (c.2.2.1.getD f 0).toNat 0/\c.2.2.2.1.getD (c.2.2.1.getD f 0).toNat 0<((c.2.2.2.2.getD f []).length:Int):=by rw [h.row f hf];exact hi2
  simp only [Bh,hf,hf3,hf6,decide_true,cond_true,Ad hf,Ad hf3,Ad hf6,if_true,tNC,and_self,hfi,hti,hi1',hi2',Ad hr1',hr1',Option.bind_some];rw [Ay (by omega) (by omega)]
  show(Dz c f=true->_)/\_;unfold Dz idn T;by_cases b1:(c.2.2.2.2.getD (c.2.2.2.1.getD (c.2.1.getD f 0).toNat 0).toNat []).getD f 0=(f:Int)
  ·by_cases b2:(c.2.2.2.2.getD f []).getD (c.2.2.2.1.getD (c.2.2.1.getD f 0).toNat 0).toNat 0=(f:Int)
   ·simp only [b1,b2,decide_true,Bool.not_true,cond_false,Option.bind_some,Bool.and_self]
    exact⟨λ_=>rfl,(λh=>by cases h)⟩
   ·simp only [b1,b2,decide_true,decide_false,Bool.not_true,Bool.not_false,cond_false,cond_true,Option.bind_some,Bool.and_false]
    exact⟨(λh=>by cases h),λ_=>⟨_,rfl,by simp⟩⟩
  ·simp only [b1,decide_false,Bool.not_false,cond_true,Option.bind_some,Bool.false_and]
   exact⟨(λh=>by cases h),λ_=>⟨_,rfl,by simp⟩⟩
 ·show ∃r,(if 0=0 then _ else none)=some r/\_
  rw [if_pos rfl];refine CV (Post:=fun(z:Option (Int×Int×Int×Int))=>∃r,z=some r/\(decide (r.1=0)=Hf c)) (st:=λi=>(i:Int)) (n:=c.2.1.length) (p:=λf=>(List.range c.2.1.length).all λg=>bif mt c f g then(List.range c.2.1.length).all λh=>Db c f g h else true) (Q:=fun(r:Int×Int×Int×Int)=>r.1≠0) (o:=.brk 2 (c.2.1.length:Int)) (λf hf=>?_) (by simp) (λy=>by simp) (λhv=>?_) (λhv r hr=>?_)
  ·simp only [Bh,hf,decide_true,cond_true]
   refine CV (Post:=fun(z:Option (LO Int (Int×Int×Int×Int)))=>(((List.range c.2.1.length).all λg=>bif mt c f g then(List.range c.2.1.length).all λh=>Db c f g h else true)=true->z=some (.next ((f+1:Nat):Int)))/\(((List.range c.2.1.length).all λg=>bif mt c f g then(List.range c.2.1.length).all λh=>Db c f g h else true)=false->∃r,z=some (.ret r)/\r.1≠0))
    (st:=λi=>(i:Int)) (n:=c.2.1.length) (p:=λg=>bif mt c f g then(List.range c.2.1.length).all λh=>Db c f g h else true) (Q:=fun(r:LO Int (Int×Int×Int×Int))=>∃r',r= .ret r'/\r'.1≠0) (o:=.brk 4 (c.2.1.length:Int)) (λg hg=>?_) (by simp) (λy=>by simp) (λhw=>?_) (λhw r hr=>?_)
   ·have hf3:f<c.2.2.1.length:=by omega
    have hg3:g<c.2.2.1.length:=by omega
    have hf6:f<c.2.2.2.2.length:=by omega
    have hg6:g<c.2.2.2.2.length:=by omega
    simp only [Bh,hg,hf3,decide_true,cond_true,Ad hg,Ad hf3,and_self,if_true,tNC];rw [Ay (show(0:Int)<=(g:Int)+1 by omega) (by omega)]
    show(((bif mt c f g then _ else true)=true)->(bif !mt c f g then _ else _)=_)/\(_->∃r,(bif !mt c f g then _ else _)=_/\_);cases hm:mt c f g with
    |false=>exact⟨λ_=>rfl,(λh=>by cases h)⟩
    |true=>
     obtain⟨q1,q2,q3,q4⟩:=h.pos f g hf hg hm;simp only [Bool.not_true,cond_false,cond_true]
     refine CV (Post:=fun(z:Option (LO Int (LO Int (Int×Int×Int×Int))))=>(((List.range c.2.1.length).all λh=>Db c f g h)=true->z=some (.next ((g+1:Nat):Int)))/\(((List.range c.2.1.length).all λh=>Db c f g h)=false->∃r,z=some (.ret r)/\∃r',r= .ret r'/\r'.1≠0))
      (st:=λi=>(i:Int)) (n:=c.2.1.length) (p:=λh=>Db c f g h) (Q:=fun(r:LO Int (LO Int (Int×Int×Int×Int)))=>∃r',r= .ret (.ret r')/\r'.1≠0) (o:=.brk 6 (c.2.1.length:Int)) (λk hk=>?_) (by simp) (λy=>by simp) (λhw=>?_) (λhw r hr=>?_)
     ·have e1:(c.2.2.2.2.getD f []).length=c.2.1.length:=h.row f hf
      have e2:(c.2.2.2.2.getD g []).length=c.2.1.length:=h.row g hg;have e3:(c.2.2.2.2.getD (T c f g).toNat []).length=c.2.1.length:=h.row _ (inN ⟨q1,q2⟩);have hgf:g<(c.2.2.2.2.getD f []).length:=by omega
      have hkg:k<(c.2.2.2.2.getD g []).length:=by omega
      have hkt:k<(c.2.2.2.2.getD (T c f g).toNat []).length:=by omega
      have ht:0<=T c f g/\T c f g<(c.2.2.2.2.length:Int):=by omega
      simp only [Bh,hk,hg3,decide_true,cond_true,Ad hk,Ad hg3,Ad hf6,Ad hg6,Ad hgf,Ad hkg,hf6,hg6,hgf,hkg,and_self,if_true,tNC];rw [Ay (show(0:Int)<=(k:Int)+1 by omega) (by omega)]
      have eM:decide (c.2.2.1.getD g 0=c.2.1.getD k 0)=mt c g k:=rfl;have eT: ∀a b,(c.2.2.2.2.getD a []).getD b 0=T c a b:=λ_ _=>rfl
      have hkt':(k:Int)<((c.2.2.2.2.getD (T c f g).toNat []).length:Int):=by omega
      simp only [eM,eT,hkt',and_self,if_true];unfold Db;cases hm2:mt c g k with
      |false=>exact⟨λ_=>rfl,(λh=>by cases h)⟩
      |true=>
       obtain⟨w1,w2,w3,w4⟩:=h.pos g k hg hk hm2;have hw':0<=T c g k/\T c g k<((c.2.2.2.2.getD f []).length:Int):=by omega
       simp only [cond_true,ht,Ad hkt,hw',and_self,if_true,Option.bind_some];by_cases b:T c (T c f g).toNat k=T c f (T c g k).toNat
       ·simp only [b,decide_true,Bool.not_true,cond_false]
        exact⟨λ_=>rfl,(λh=>by cases h)⟩
       ·simp only [b,decide_false,Bool.not_false,cond_true]
        exact⟨(λh=>by cases h),λ_=>⟨_,rfl,_,rfl,by simp⟩⟩
     ·refine⟨λ_=>?_,(λh=>by rw [hw]at h;cases h)⟩
      show(if 6=6 then some (LO.next ((g:Int)+1))else none)=_
      rw [if_pos rfl];rfl
     ·obtain⟨r',rfl,hr'⟩:=hr
      exact⟨(λh=>by rw [hw]at h;cases h),λ_=>⟨_,rfl,r',rfl,hr'⟩⟩
   ·refine⟨λ_=>?_,(λh=>by rw [hw]at h;cases h)⟩
    show(if 4=4 then some (LO.next (IntKind.wrap .i64 ((f:Int)+1)))else none)=_
    rw [if_pos rfl,Ay (by omega) (by omega)];rfl
   ·obtain⟨r',rfl,hr'⟩:=hr
    exact⟨(λh=>by rw [hw]at h;cases h),λ_=>⟨r',rfl,hr'⟩⟩
  ·exact⟨_,rfl,by unfold Hf;rw [hu,hv];rfl⟩
  ·exact⟨r,rfl,by unfold Hf;rw [hu,hv];simpa using hr⟩
 ·exact⟨r,rfl,by unfold Hf;rw [hu];simpa using hr⟩
open Go Go.Ve
def Bj(c:Cat):Bool:=D7 c&&Hf c
theorem p53(h:okC c):G53 c=some (Bj c):=by
 unfold G53;simp only [p83 h,Option.bind_some];unfold Bj;cases hs:D7 c with
 |false=>rfl
 |true=>
  obtain⟨r,hr,hl⟩:=p84 (ZE hs);simp only [hr,Option.bind_some,hl,Bool.not_true,cond_false,Bool.true_and]
theorem p27(h:okC c):G27 c=some (Bj c):=by
 unfold G27;simp only [p62 h,Option.bind_some];unfold Bj;cases hs:D7 c with
 |false=>rfl
 |true=>
  obtain⟨r,hr,hl⟩:=p63 (ZE hs);simp only [hr,Option.bind_some,hl,Bool.not_true,cond_false,Bool.true_and]
abbrev Qry:=List Int×List (Int×Int)×List (Int×Int)×List Int
def qHead(c:Cat)(q:Qry):Prop:=q.1.length<=4/\wi c.1 q.1=true/\q.2.1.length<=6/\q.2.2.1.length=q.2.1.length/\q.2.2.2.length<=4/\wi q.1.length q.2.2.2=true
instance(c:Cat)(q:Qry):Decidable (qHead c q):=by unfold qHead;infer_instance
open Go Go.Ve
open Go Go.Ve
end Go.Ve.D

