/- Copies, equalities, sizes: what they compute. -/
import Derived.Test.YtnhlomkcachnbaaGreatUz4
import Derived.Test.YtnhlomkcachnbaaGreatLa
import Derived.Test.YtnhlomkcachnbaaGreatTr
namespace Go.Ve.D
open Go Go.Ve
theorem p24{x:List Int}(h:x.length<=1048576):G24 x=some x:=by
 unfold G24;rw [if_pos (by omega)]
 refine Ap (v:=.brk 0 ((x.length:Int),x)) (AC (st:=fun i=>((i:Int),x.take i++(List.replicate x.length (0:Int)).drop i)) (n:=x.length) (fun i hi=>?_) (by simp) (fun y=>by simp)) rfl
 have e:(x.take i++(List.replicate x.length (0:Int)).drop i).length=x.length:=by simp;omega
 simp only [Ag,hi,decide_true,cond_true,Ad hi,if_true,e,tNC,and_self];rw [DL 0 (by simp) hi,An (by omega) (by omega)]
 rfl
theorem p25{x:List (List Int)}(h:x.length<=1048576)(hx: ∀y∈x,y.length<=1048576):G25 x=some x:=by
 unfold G25;rw [if_pos (by omega)]
 refine Ap (v:=.brk 0 ((x.length:Int),x)) (AC (st:=fun i=>((i:Int),x.take i++(List.replicate x.length []).drop i)) (n:=x.length) (fun i hi=>?_) (by simp) (fun y=>by simp)) rfl
 have e:(x.take i++(List.replicate x.length ([]:List Int)).drop i).length=x.length:=by simp;omega
 have g:G24 (x.getD i [])=some (x.getD i []):=p24 (hx _ (by rw [gDE,gEE hi];simp))
 simp only [Ag,hi,decide_true,cond_true,Ad hi,if_true,e,tNC,and_self,g,Option.bind_some];rw [DL [] (by simp) hi,An (by omega) (by omega)]
 rfl
def okC(c:Int×List Int×List Int×List Int×List (List Int)):Prop:=c.2.1.length<=1048576/\c.2.2.1.length<=1048576/\c.2.2.2.1.length<=1048576/\c.2.2.2.2.length<=1048576/\∀y∈c.2.2.2.2,y.length<=1048576
def okQ(q:List Int×List (Int×Int)×List (Int×Int)×List Int):Prop:=q.1.length<=1048576/\q.2.1.length<=1048576/\q.2.2.1.length<=1048576/\q.2.2.2.length<=1048576
theorem p23{c}(h:okC c):G23 c=some c:=by
 obtain⟨h1,h2,h3,h4,h5⟩:=h;unfold G23;simp only [p24 h1,p24 h2,p24 h3,p25 h4 h5,Option.bind_some]
theorem p30{x:List Int}(h:x.length<=1048576):G30 (x,x)=some true:=by
 unfold G30;simp only [decide_true,Bool.not_true,cond_false];refine Ap (v:=.brk 0 (x.length:Int)) (AC (st:=fun i=>(i:Int)) (n:=x.length) (fun i hi=>?_) (by simp) (fun y=>by simp)) rfl
 simp only [Ag,hi,decide_true,cond_true,Ad hi,if_true,tNC,and_self,Bool.not_true,cond_false];rw [An (by omega) (by omega)]
 rfl
theorem p10{x:List (List Int)}(h:x.length<=1048576)(hx: ∀y∈x,y.length<=1048576):G10 (x,x)=some true:=by
 unfold G10;simp only [decide_true,Bool.not_true,cond_false];refine Ap (v:=.brk 0 (x.length:Int)) (AC (st:=fun i=>(i:Int)) (n:=x.length) (fun i hi=>?_) (by simp) (fun y=>by simp)) rfl
 have g:G30 (x.getD i [],x.getD i [])=some true:=p30 (hx _ (by rw [gDE,gEE hi];simp))
 simp only [Ag,hi,decide_true,cond_true,Ad hi,if_true,tNC,and_self,Bool.not_true,cond_false,g,Option.bind_some];rw [An (by omega) (by omega)]
 rfl
theorem p31{c}(h:okC c):G31 (c,c)=some true:=by
 obtain⟨h1,h2,h3,h4,h5⟩:=h;unfold G31;simp only [p30 h1,p30 h2,p30 h3,p10 h4 h5,Option.bind_some,decide_true,Bool.not_true,cond_false]
open Go Go.Ve
theorem p18{x:List Int}{b:Int}(hb:0<=b/\b<=1048576)(hx:x.length<=maxLen): ∃r,G18 (x,b)=some r/\(r<0\/(r=b-x.length/\0<=r)):=by
 unfold G18;have hm:maxLen=9223372036854775807:=by decide
 rw [hm]at hx;have e:IntKind.wrap .i64 (b-(x.length:Int))=b-x.length:=Cm (by omega) (by omega)
 simp only [e];by_cases h:b-(x.length:Int)<0
 ·exact⟨-1,by simp only [h,decide_true,cond_true],.inl (by decide)⟩
 ·exact⟨_,by simp only [h,decide_false,cond_false],.inr ⟨rfl,by omega⟩⟩
theorem p19{x:List (List Int)}{b:Int}(hb:0<=b/\b<=1048576)(hx:x.length<=maxLen)(hy: ∀y∈x,y.length<=maxLen): ∃r,G19 (x,b)=some r/\(r<0\/(0<=r/\r<=b/\x.length<=1048576/\∀y∈x,y.length<=1048576)):=by
 unfold G19;have hm:maxLen=9223372036854775807:=by decide
 rw [hm]at hx;have e:IntKind.wrap .i64 (b-(x.length:Int))=b-x.length:=Cm (by omega) (by omega)
 simp only [e];by_cases h:b-(x.length:Int)<0
 ·exact⟨-1,by simp only [h,decide_true,cond_true],.inl (by decide)⟩
 ·simp only [h,decide_false,cond_false]
  obtain⟨o,ho,hq⟩:=U3 (f:=(fun(v0:(Int×Int))=>(bif(decide (v0.2<((x.length:Nat):Int)))then(if(((0:Int)<=v0.2)/\(v0.2<((x.length:Nat):Int)))then(Option.bind (G18 ((x.getD (v0.2).toNat []),v0.1)) (fun(v1:Int)=>(bif(decide (v1<(0:Int)))then(By (some (-(1:Int))))else(some (LO.next (v1,(IntKind.wrap .i64 (v0.2+(1:Int)))))))))else none)else(some (LO.brk 0 (v0.1,v0.2))))))
   (I:=fun i s=>s.2=(i:Int)/\0<=s.1/\s.1<=b-x.length/\∀y∈x.take i,y.length<=1048576)
   (Q:=fun o=>match o with
    | .brk id s=>id=0/\0<=s.1/\s.1<=b/\∀y∈x,y.length<=1048576
    | .ret r=>r<0
    | .next _=>False)
   (n:=x.length) (x:=(b-(x.length:Int),(0:Int))) ⟨rfl,by omega,by omega,by simp⟩
   (fun i hi s hs=>by
    obtain⟨c,k⟩:=s;obtain⟨rfl,h1,h2,h3⟩:=hs;simp only at h1 h2 h3;have hmem:x.getD i []∈x:=by rw [gDE,gEE hi];simp
    obtain⟨r,hr,hr2⟩:=p18 (x:=x.getD i []) (b:=c) ⟨h1,by omega⟩ (hy _ hmem)
    simp only [Ag,hi,decide_true,cond_true,Ad hi,if_true,tNC,and_self,hr,Option.bind_some];by_cases hneg:r<0
    ·right
     exact⟨.ret (-1),by simp only [hneg,decide_true,cond_true];rfl,(fun y=>by simp),(by decide:(-1:Int)<0)⟩
    ·left
     refine⟨(r,(i:Int)+1),by simp only [hneg,decide_false,cond_false,An (show(0:Int)<=(i:Int)+1 by omega) (by omega)],rfl,by omega,?_,?_⟩
     ·rcases hr2 with h|⟨h,_⟩
      ·exact absurd h hneg
      ·simp only;omega
     ·intro y hmy
      rw [List.take_add_one,List.mem_append]at hmy;rcases hmy with hmy|hmy
      ·exact h3 y hmy
      ·rw [gEE hi]at hmy
       have:y=x.getD i []:=by
        rw [gDE,gEE hi];simpa using hmy
       rw [this];rcases hr2 with h|⟨h,h'⟩
       ·exact absurd h hneg
       ·omega)
   (fun s hs=>by
    obtain⟨c,k⟩:=s;obtain⟨rfl,h1,h2,h3⟩:=hs;simp only at h1 h2 h3;refine⟨.brk 0 (c,(x.length:Int)),by simp,(fun y=>by simp),rfl,h1,by simp only;omega,fun y hmy=>h3 y (by simpa using hmy)⟩)
  rw [ho];cases o with
  |next=>exact hq.elim
  |ret r=>exact⟨r,rfl,.inl hq⟩
  |brk id s=>
   obtain⟨rfl,h1,h2,h3⟩:=hq;exact⟨s.1,rfl,.inr ⟨h1,h2,by omega,h3⟩⟩
open Go Go.Ve
theorem p58(a l h:Int):G58 (a,(l,h))=some (decide (l<=a)&&decide (a<=h)):=by
 unfold G58;by_cases h1:l<=a<;>simp [h1]
theorem p77(a l h:Int):G77 (a,(l,h))=some (decide (l<=a)&&decide (a<=h)):=by
 unfold G77;by_cases h1:l<=a<;>simp [h1]
theorem p77'(a n:Int)(hn:0<=n/\n<=9223372036854775807):G77 (a,((0:Int),IntKind.wrap .i64 (n-1)))=some (inn n a):=by
 rw [p77,Cm (by omega) (by omega)]
 unfold inn
 congr 2
 rw [Bool.eq_iff_iff];simp;omega
theorem p58'(a n:Int)(hn:0<=n/\n<=9223372036854775807):G58 (a,((0:Int),IntKind.wrap .i64 (n-1)))=some (inn n a):=by
 rw [p58,Cm (by omega) (by omega)]
 unfold inn
 congr 2
 rw [Bool.eq_iff_iff];simp;omega
theorem p56{n:Int}{x:List Int}(hx:x.length<=1048576):G56 (n,x)=some (wi n x):=by
 unfold G56
 have h:=Bw (R:=Bool) (f:=(fun(v0:Int)=>(bif(decide (v0<((x.length:Nat):Int)))then(if(((0:Int)<=v0)/\(v0<((x.length:Nat):Int)))then(Option.bind (bif(decide ((x.getD (v0).toNat (0:Int))<(0:Int)))then(some true)else(if(((0:Int)<=v0)/\(v0<((x.length:Nat):Int)))then(some (decide (n<=(x.getD (v0).toNat (0:Int)))))else none)) (fun(v1:Bool)=>(bif v1 then(By (some false))else(some (LO.next (IntKind.wrap .i64 (v0+(1:Int))))))))else none)else(some (LO.brk 0 v0)))))
  (st:=fun i=>(i:Int)) (n:=x.length) (p:=fun i=>inn n (x.getD i 0)) (r:=false) (o:=.brk 0 (x.length:Int)) (fun i hi=>by
   simp only [Ag,hi,decide_true,cond_true,Ad hi,if_true,tNC,and_self];rw [An (by omega) (by omega)]
   by_cases h1:x.getD i 0<0
   ·have:inn n (x.getD i 0)=false:=Za h1
    simp only [h1,decide_true,cond_true,Option.bind_some,this,cond_false];rfl
   ·by_cases h2:n<=x.getD i 0
    ·have:inn n (x.getD i 0)=false:=Y9 h2
     simp only [h1,h2,decide_false,decide_true,cond_true,cond_false,Option.bind_some,this];rfl
    ·have:inn n (x.getD i 0)=true:=inn_t (by omega) (by omega)
     simp only [h1,h2,decide_false,cond_true,cond_false,Option.bind_some,this];rfl) (by simp) (fun y=>by simp)
 rw [Mo 0 (inn n) x]at h;refine Ap h ?_;show _=some (wi n x);unfold wi;cases x.all (inn n)<;>rfl
theorem p62{n:Int}{x:List Int}(hn:0<=n/\n<=9223372036854775807)(hx:x.length<=1048576):G62 (x,n)=some (wi n x):=by
 unfold G62
 have h:=Bw (R:=Bool) (f:=(fun(v0:Int)=>(bif(decide (v0<((x.length:Nat):Int)))then(if(((0:Int)<=v0)/\(v0<((x.length:Nat):Int)))then(Option.bind (G77 ((x.getD (v0).toNat (0:Int)),((0:Int),(IntKind.wrap .i64 (n-(1:Int)))))) (fun(v1:Bool)=>(bif(!v1)then(By (some false))else(some (LO.next (IntKind.wrap .i64 (v0+(1:Int))))))))else none)else(some (LO.brk 0 v0)))))
  (st:=fun i=>(i:Int)) (n:=x.length) (p:=fun i=>inn n (x.getD i 0)) (r:=false) (o:=.brk 0 (x.length:Int)) (fun i hi=>by
   simp only [Ag,hi,decide_true,cond_true,Ad hi,if_true,tNC,and_self,p77' _ _ hn,Option.bind_some];rw [An (by omega) (by omega)]
   cases inn n (x.getD i 0)<;>rfl) (by simp) (fun y=>by simp)
 rw [Mo 0 (inn n) x]at h;refine Ap h ?_;show _=some (wi n x);unfold wi;cases x.all (inn n)<;>rfl
theorem p84{n:Int}{x:List Int}{m:Int}(hx:x.length<=1048576):G84 (x,(m,n))=some (decide ((x.length:Int)=m)&&wi n x):=by
 unfold G84;simp only [p56 hx,Option.bind_some];by_cases h:(x.length:Int)=m<;>simp [h]
open Go Go.Ve
abbrev Cat:=Int×List Int×List Int×List Int×List (List Int)
def BP(c:Cat)(f g:Nat):Bool:=
 bif !decide (c.2.2.1.getD f 0=c.2.1.getD g 0)then decide ((c.2.2.2.2.getD f []).getD g 0= -1)
 else inn c.2.1.length ((c.2.2.2.2.getD f []).getD g 0)&&(decide (c.2.1.getD ((c.2.2.2.2.getD f []).getD g 0).toNat 0=c.2.1.getD f 0)&&decide (c.2.2.1.getD ((c.2.2.2.2.getD f []).getD g 0).toNat 0=c.2.2.1.getD g 0))
def Dk(c:Cat)(f:Nat):Bool:=decide ((c.2.2.2.2.getD f []).length=c.2.1.length)&&(List.range c.2.1.length).all (BP c f)
def Wo(c:Cat)(i:Nat):Bool:=decide (c.2.1.getD (c.2.2.2.1.getD i 0).toNat 0=i)&&decide (c.2.2.1.getD (c.2.2.2.1.getD i 0).toNat 0=i)
def It(c:Cat):Prop:=(0<=c.1/\c.1<=8)/\c.2.1.length<=40/\c.2.2.1.length=c.2.1.length/\wi c.1 c.2.1=true/\wi c.1 c.2.2.1=true/\c.2.2.2.2.length=c.2.1.length/\(c.2.2.2.1.length:Int)=c.1/\wi c.2.1.length c.2.2.2.1=true
instance(c:Cat):Decidable (It c):=by unfold It;infer_instance
def DS(c:Cat):Bool:=decide (It c)&&((List.range c.2.2.2.1.length).all (Wo c)&&(List.range c.2.1.length).all (Dk c))
theorem p71i{c:Cat}(h:It c)(F:Int->Option (LO Int Bool))(hF:F=(fun(v6:Int)=>(bif(decide (v6<c.1))then(if(((0:Int)<=v6)/\(v6<((c.2.2.2.1.length:Nat):Int)))then(if(((0:Int)<=(c.2.2.2.1.getD (v6).toNat (0:Int)))/\((c.2.2.2.1.getD (v6).toNat (0:Int))<((c.2.1.length:Nat):Int)))then(Option.bind (bif(!decide ((c.2.1.getD ((c.2.2.2.1.getD (v6).toNat (0:Int))).toNat (0:Int))=v6))then(some true)else(if(((0:Int)<=v6)/\(v6<((c.2.2.2.1.length:Nat):Int)))then(if(((0:Int)<=(c.2.2.2.1.getD (v6).toNat (0:Int)))/\((c.2.2.2.1.getD (v6).toNat (0:Int))<((c.2.2.1.length:Nat):Int)))then(some (!decide ((c.2.2.1.getD ((c.2.2.2.1.getD (v6).toNat (0:Int))).toNat (0:Int))=v6)))else none)else none)) (fun(v7:Bool)=>(bif v7 then(By (some false))else(some (LO.next (IntKind.wrap .i64 (v6+(1:Int))))))))else none)else none)else(some (LO.brk 0 v6))))):
  Au F 0=some (bif(List.range c.2.2.2.1.length).all (Wo c)then .brk 0 c.1 else .ret false):=by
 obtain⟨a1,a2,a3,a4,a5,a6,a7,a8⟩:=h;subst hF;refine Bw (st:=fun i=>(i:Int)) (fun i hi=>?_) (by simp [a7]) (fun y=>by simp)
 have hlt:((i:Int)<c.1):=by omega
 have hg:=Cb a8 hi;have hg':0<=c.2.2.2.1.getD i 0/\c.2.2.2.1.getD i 0<(c.2.2.1.length:Int):=by rw [a3];exact hg
 simp only [hlt,decide_true,cond_true,Ad hi,if_true,tNC,and_self,hg,hg'];rw [An (by omega) (by omega)]
 unfold Wo;by_cases b1:c.2.1.getD (c.2.2.2.1.getD i 0).toNat 0=(i:Int)
 ·by_cases b2:c.2.2.1.getD (c.2.2.2.1.getD i 0).toNat 0=(i:Int)
  ·simp only [b1,b2,decide_true,Bool.not_true,cond_false,cond_true,Option.bind_some,Bool.and_self];rfl
  ·simp only [b1,b2,decide_true,decide_false,Bool.not_true,Bool.not_false,cond_false,cond_true,Option.bind_some,Bool.and_false];rfl
 ·simp only [b1,decide_false,Bool.not_false,cond_false,cond_true,Option.bind_some,Bool.false_and];rfl
open Go Go.Ve
theorem Bu{c:Cat}(h: ¬It c):DS c=false:=by simp [DS,h]
theorem p71{c:Cat}(h:okC c):G71 c=some (DS c):=by
 obtain⟨h1,h2,h3,h4,h5⟩:=h;unfold G71;simp only [p58,p84 h1,p84 h2,p56 h3,Option.bind_some,decide_true,Bool.true_and];by_cases c1:0<=c.1/\c.1<=8
 case neg=>
  have e:(decide (0<=c.1)&&decide (c.1<=8))=false:=by simp;omega
  simp only [e,Bool.not_false,cond_true,Option.bind_some,Bu fun h=>c1 h.1]
 have e1:(decide (0<=c.1)&&decide (c.1<=8))=true:=by simp [c1]
 simp only [e1,Bool.not_true,cond_false,Option.bind_some];by_cases c2:(40:Int)<(c.2.1.length:Int)
 case pos=>simp only [c2,decide_true,cond_true,Option.bind_some,Bu (c:=c) fun h=>absurd h.2.1 (by omega)]
 simp only [c2,decide_false,cond_false];cases c3:wi c.1 c.2.1 with
 |false=>simp only [Bool.not_false,cond_true,Option.bind_some,Bu fun h=>by have:=h.2.2.2.1;rw [c3]at this;cases this]
 |true=>
 simp only [Bool.not_true,cond_false,Option.bind_some];by_cases c4:(c.2.2.1.length:Int)=(c.2.1.length:Int)
 case neg=>simp only [c4,decide_false,Bool.false_and,Bool.not_false,cond_true,Option.bind_some,Bu fun h=>c4 (by rw [h.2.2.1])]
 simp only [dT c4,Bool.true_and];cases c5:wi c.1 c.2.2.1 with
 |false=>simp only [Bool.not_false,cond_true,Option.bind_some,Bu fun h=>by have:=h.2.2.2.2.1;rw [c5]at this;cases this]
 |true=>
 simp only [Bool.not_true,cond_false,Option.bind_some];by_cases c6:(c.2.2.2.2.length:Int)=(c.2.1.length:Int)
 case neg=>simp only [c6,decide_false,Bool.not_false,cond_true,Option.bind_some,Bu fun h=>c6 (by rw [h.2.2.2.2.2.1])]
 simp only [dT c6,Bool.not_true,cond_false];by_cases c7:(c.2.2.2.1.length:Int)=c.1
 case neg=>simp only [c7,decide_false,Bool.not_false,cond_true,Option.bind_some,Bu fun h=>c7 h.2.2.2.2.2.2.1]
 simp only [dT c7,Bool.not_true,cond_false];cases c8:wi c.2.1.length c.2.2.2.1 with
 |false=>simp only [Bool.not_false,cond_true,Option.bind_some,Bu fun h=>by have:=h.2.2.2.2.2.2.2;rw [c8]at this;cases this]
 |true=>
 simp only [Bool.not_true,cond_false,Option.bind_some];have hh:It c:=⟨c1,by omega,by omega,c3,c5,by omega,c7,c8⟩
 have hs:DS c=((List.range c.2.2.2.1.length).all (Wo c)&&(List.range c.2.1.length).all (Dk c)):=by simp [DS,hh]
 rw [hs];have g:=p71i hh _ rfl;refine Ap g ?_;cases hi:(List.range c.2.2.2.1.length).all (Wo c)with
 |false=>rfl
 |true=>
 simp only [cond_true,Bool.true_and];obtain⟨a1,a2,a3,a4,a5,a6,a7,a8⟩:=hh;show(if 0=0 then _ else _)=_
 rw [if_pos rfl];refine Ap (v:=bif(List.range c.2.1.length).all (Dk c)then .brk 2 (c.2.1.length:Int)else .ret false) (Bw (st:=fun i=>(i:Int)) (fun f hf=>?_) (by simp) (fun y=>by simp)) (by cases (List.range c.2.1.length).all (Dk c)<;>rfl)
 have hf6:f<c.2.2.2.2.length:=by omega
 simp only [Ag,hf,hf6,decide_true,cond_true,Ad hf,Ad hf6,if_true,tNC,and_self];by_cases d1:((c.2.2.2.2.getD f []).length:Int)=(c.2.1.length:Int)
 case neg=>
  have:Dk c f=false:=by unfold Dk;simp only [show ¬ (c.2.2.2.2.getD f []).length=c.2.1.length by omega,decide_false,Bool.false_and]
  simp only [d1,decide_false,Bool.not_false,cond_true,this,cond_false];rfl
 have d2:(c.2.2.2.2.getD f []).length=c.2.1.length:=by omega
 have hr:Dk c f=(List.range c.2.1.length).all (BP c f):=by unfold Dk;simp only [d2,decide_true,Bool.true_and]
 simp only [dT d1,Bool.not_true,cond_false];rw [hr]
 refine Ap (v:=bif(List.range c.2.1.length).all (BP c f)then .brk 4 (c.2.1.length:Int)else .ret (.ret false)) (Bw (st:=fun i=>(i:Int)) (fun g hg=>?_) (by simp) (fun y=>by simp)) (by
  cases (List.range c.2.1.length).all (BP c f)with
  |false=>rfl
  |true=>
   show(if 4=4 then some (LO.next (IntKind.wrap .i64 ((f:Int)+1)))else none)=_
   rw [if_pos rfl,An (by omega) (by omega)];rfl)
 have hf3:f<c.2.2.1.length:=by omega
 have hg3:g<c.2.2.1.length:=by omega
 have hgr:(g:Int)<((c.2.2.2.2.getD f []).length:Int):=by omega
 simp only [Ag,hf,hg,hf3,hg3,hgr,decide_true,cond_true,Ad hf,Ad hg,Ad hf6,Ad hf3,Ad hg3,if_true,tNC,and_self];rw [An (show(0:Int)<=(g:Int)+1 by omega) (by omega)]
 unfold BP;obtain⟨k,hk⟩: ∃k,k=(c.2.2.2.2.getD f []).getD g 0:=⟨_,rfl⟩;simp only [<-hk];clear hk;by_cases e1:c.2.2.1.getD f 0=c.2.1.getD g 0
 case neg=>
  simp only [e1,decide_false,Bool.not_false,cond_true];by_cases e2:k= -1
  ·simp only [e2,decide_true,Bool.not_true,cond_false,cond_true];rfl
  ·simp only [e2,decide_false,Bool.not_false,cond_false,cond_true];rfl
 simp only [e1,decide_true,Bool.not_true,cond_false];by_cases e2:k<0
 case pos=>simp only [e2,decide_true,cond_true,Option.bind_some,Za e2,Bool.false_and,cond_false];rfl
 simp only [e2,decide_false,cond_false,Option.bind_some];by_cases e3:(c.2.1.length:Int)<=k
 case pos=>simp only [e3,decide_true,cond_true,Option.bind_some,Y9 e3,Bool.false_and,cond_false];rfl
 have e4:inn c.2.1.length k=true:=inn_t (by omega) (by omega)
 have e5:0<=k/\k<(c.2.1.length:Int):=by omega
 have e6:0<=k/\k<(c.2.2.1.length:Int):=by omega
 simp only [e3,decide_false,cond_false,Option.bind_some,e4,e5,e6,and_self,if_true,Bool.true_and];by_cases e7:c.2.1.getD k.toNat 0=c.2.1.getD f 0
 case neg=>simp only [e7,decide_false,Bool.not_false,cond_true,cond_false,Option.bind_some,Bool.false_and];rfl
 simp only [e7,decide_true,Bool.not_true,cond_false,Bool.true_and];by_cases e8:c.2.2.1.getD k.toNat 0=c.2.2.1.getD g 0
 ·simp only [e8,decide_true,Bool.not_true,cond_false,cond_true,Option.bind_some];rfl
 ·simp only [e8,decide_false,Bool.not_false,cond_false,cond_true,Option.bind_some];rfl
open Go Go.Ve
theorem p75(c:Cat):G75 c=some (c.2.1.length:Int):=rfl
theorem p98{c:Cat}{a:Int}(h1:0<=a/\a<(c.2.1.length:Int))(h2:0<=a/\a<(c.2.2.1.length:Int)):G98 (c,a)=some (c.2.1.getD a.toNat 0,c.2.2.1.getD a.toNat 0):=by
 unfold G98;simp only [h1,h2,and_self,if_true]
theorem p85{c:Cat}(h:okC c):G85 c=some (DS c):=by
 obtain⟨h1,h2,h3,h4,h5⟩:=h;unfold G85;simp only [p75,p77 c.1 0 8,Option.bind_some];by_cases c1:0<=c.1/\c.1<=8
 case neg=>
  have e:(decide (0<=c.1)&&decide (c.1<=8))=false:=by simp;omega
  simp only [e,Bool.not_false,cond_true,Option.bind_some,Bu fun h=>c1 h.1]
 have e1:(decide (0<=c.1)&&decide (c.1<=8))=true:=by simp [c1]
 have hob:0<=c.1/\c.1<=9223372036854775807:=by omega
 have hm:(0:Int)<=(c.2.1.length:Int)/\(c.2.1.length:Int)<=9223372036854775807:=by omega
 simp only [e1,Bool.not_true,cond_false,Option.bind_some,p62 hob h1,p62 hob h2,p62 hm h3];by_cases c2:(40:Int)<(c.2.1.length:Int)
 case pos=>simp only [c2,decide_true,cond_true,Option.bind_some,Bu (c:=c) fun h=>absurd h.2.1 (by omega)]
 simp only [c2,decide_false,cond_false,Option.bind_some];by_cases c4:(c.2.2.1.length:Int)=(c.2.1.length:Int)
 case neg=>simp only [c4,decide_false,Bool.not_false,cond_true,Option.bind_some,Bu fun h=>c4 (by rw [h.2.2.1])]
 simp only [dT c4,Bool.not_true,cond_false,Option.bind_some];cases c3:wi c.1 c.2.1 with
 |false=>simp only [Bool.not_false,cond_true,Option.bind_some,Bu fun h=>by have:=h.2.2.2.1;rw [c3]at this;cases this]
 |true=>
 simp only [Bool.not_true,cond_false,Option.bind_some];cases c5:wi c.1 c.2.2.1 with
 |false=>simp only [Bool.not_false,cond_true,Option.bind_some,Bu fun h=>by have:=h.2.2.2.2.1;rw [c5]at this;cases this]
 |true=>
 simp only [Bool.not_true,cond_false,Option.bind_some];by_cases c7:(c.2.2.2.1.length:Int)=c.1
 case neg=>simp only [c7,decide_false,Bool.not_false,cond_true,Option.bind_some,Bu fun h=>c7 h.2.2.2.2.2.2.1]
 simp only [dT c7,Bool.not_true,cond_false];cases c8:wi c.2.1.length c.2.2.2.1 with
 |false=>simp only [Bool.not_false,cond_true,Option.bind_some,Bu fun h=>by have:=h.2.2.2.2.2.2.2;rw [c8]at this;cases this]
 |true=>
 simp only [Bool.not_true,cond_false,Option.bind_some];by_cases c6:(c.2.2.2.2.length:Int)=(c.2.1.length:Int)
 case neg=>simp only [c6,decide_false,Bool.not_false,cond_true,Option.bind_some,Bu fun h=>c6 (by rw [h.2.2.2.2.2.1])]
 simp only [dT c6,Bool.not_true,cond_false,Option.bind_some];have hh:It c:=⟨c1,by omega,by omega,c3,c5,by omega,c7,c8⟩
 have hs:DS c=((List.range c.2.2.2.1.length).all (Wo c)&&(List.range c.2.1.length).all (Dk c)):=by simp [DS,hh]
 rw [hs];obtain⟨a1,a2,a3,a4,a5,a6,a7,a8⟩:=hh;refine Ap (v:=bif(List.range c.2.2.2.1.length).all (Wo c)then .brk 0 (c.2.2.2.1.length:Int)else .ret false) (Bw (st:=fun i=>(i:Int)) (fun i hi=>?_) (by simp) (fun y=>by simp)) ?_
 ·have hg:=Cb a8 hi
  have hg':0<=c.2.2.2.1.getD i 0/\c.2.2.2.1.getD i 0<(c.2.2.1.length:Int):=by rw [a3];exact hg
  simp only [Ag,hi,decide_true,cond_true,Ad hi,if_true,tNC,and_self,p98 hg hg',Option.bind_some,Bool.and_true];rw [An (by omega) (by omega)]
  show(bif !Wo c i then _ else _)=_;cases Wo c i<;>rfl
 cases hi:(List.range c.2.2.2.1.length).all (Wo c)with
 |false=>rfl
 |true=>
 simp only [cond_true,Bool.true_and];show(if 0=0 then _ else _)=_
 rw [if_pos rfl];refine Ap (v:=bif(List.range c.2.1.length).all (Dk c)then .brk 2 (c.2.1.length:Int)else .ret false) (Bw (st:=fun i=>(i:Int)) (fun f hf=>?_) (by simp [a6]) (fun y=>by simp)) (by cases (List.range c.2.1.length).all (Dk c)<;>rfl)
 have hf6:f<c.2.2.2.2.length:=by omega
 simp only [Ag,hf6,decide_true,cond_true,Ad hf6,if_true,tNC,and_self];by_cases d1:((c.2.2.2.2.getD f []).length:Int)=(c.2.1.length:Int)
 case neg=>
  have:Dk c f=false:=by unfold Dk;simp only [show ¬ (c.2.2.2.2.getD f []).length=c.2.1.length by omega,decide_false,Bool.false_and]
  simp only [d1,decide_false,Bool.not_false,cond_true,this,cond_false];rfl
 have d2:(c.2.2.2.2.getD f []).length=c.2.1.length:=by omega
 have hr:Dk c f=(List.range c.2.1.length).all (BP c f):=by unfold Dk;simp only [d2,decide_true,Bool.true_and]
 simp only [dT d1,Bool.not_true,cond_false];rw [hr]
 refine Ap (v:=bif(List.range c.2.1.length).all (BP c f)then .brk 4 (c.2.1.length:Int)else .ret (.ret false)) (Bw (st:=fun i=>(i:Int)) (fun g hg=>?_) (by simp only [dF (show ¬ ((c.2.1.length:Int)<((c.2.2.2.2.getD f []).length:Int)) by omega),cond_false]) (fun y=>by simp)) (by
  cases (List.range c.2.1.length).all (BP c f)with
  |false=>rfl
  |true=>
   show(if 4=4 then some (LO.next (IntKind.wrap .i64 ((f:Int)+1)))else none)=_
   rw [if_pos rfl,An (by omega) (by omega)];rfl)
 have hf3:f<c.2.2.1.length:=by omega
 have hg3:g<c.2.2.1.length:=by omega
 have hgr:g<(c.2.2.2.2.getD f []).length:=by omega
 simp only [Ag,hf,hg,hf3,hg3,hgr,decide_true,cond_true,Ad hf,Ad hg,Ad hf6,Ad hf3,Ad hg3,Ad hgr,if_true,tNC,and_self,p77' _ _ hm,Option.bind_some];rw [An (show(0:Int)<=(g:Int)+1 by omega) (by omega)]
 unfold BP;obtain⟨k,hk⟩: ∃k,k=(c.2.2.2.2.getD f []).getD g 0:=⟨_,rfl⟩;simp only [<-hk];clear hk;by_cases e1:c.2.2.1.getD f 0=c.2.1.getD g 0
 case neg=>
  simp only [e1,decide_false,Bool.not_false,cond_true];by_cases e2:k= -1
  ·simp only [e2,decide_true,Bool.not_true,cond_false,cond_true];rfl
  ·simp only [e2,decide_false,Bool.not_false,cond_false,cond_true];rfl
 simp only [e1,decide_true,Bool.not_true,cond_false];cases e2:inn c.2.1.length k with
 |false=>simp only [Bool.not_false,cond_true,Option.bind_some,Bool.false_and,cond_false];rfl
 |true=>
 have e5:=Cu.1 e2;have e6:0<=k/\k<(c.2.2.1.length:Int):=by omega
 simp only [Bool.not_true,cond_false,p98 e5 e6,Option.bind_some,Bool.true_and,Bool.and_true];cases (decide (c.2.1.getD k.toNat 0=c.2.1.getD f 0)&&decide (c.2.2.1.getD k.toNat 0=c.2.2.1.getD g 0))<;>rfl
open Go Go.Ve
def T(c:Cat)(f g:Nat):Int:=(c.2.2.2.2.getD f []).getD g 0
def idn(c:Cat)(x:Int):Nat:=(c.2.2.2.1.getD x.toNat 0).toNat
def IT(c:Cat)(f:Nat):Bool:=decide (T c (idn c (c.2.1.getD f 0)) f=(f:Int))&&decide (T c f (idn c (c.2.2.1.getD f 0))=(f:Int))
def mt(c:Cat)(f g:Nat):Bool:=decide (c.2.2.1.getD f 0=c.2.1.getD g 0)
def DH(c:Cat)(f g h:Nat):Bool:=bif mt c g h then decide (T c (T c f g).toNat h=T c f (T c g h).toNat)else true
def Ib(c:Cat):Bool:=(List.range c.2.1.length).all (IT c)&&(List.range c.2.1.length).all fun f=>(List.range c.2.1.length).all fun g=>bif mt c f g then(List.range c.2.1.length).all fun h=>DH c f g h else true
structure Sh(c:Cat):Prop where
 hd:It c
 id: ∀x:Int,0<=x->x<c.1->(0<=c.2.2.2.1.getD x.toNat 0/\c.2.2.2.1.getD x.toNat 0<(c.2.1.length:Int))
 fr: ∀f,f<c.2.1.length->0<=c.2.1.getD f 0/\c.2.1.getD f 0<c.1
 to: ∀f,f<c.2.1.length->0<=c.2.2.1.getD f 0/\c.2.2.1.getD f 0<c.1
 row: ∀f,f<c.2.1.length->(c.2.2.2.2.getD f []).length=c.2.1.length
 neg: ∀f g,f<c.2.1.length->g<c.2.1.length->mt c f g=false->T c f g= -1
 pos: ∀f g,f<c.2.1.length->g<c.2.1.length->mt c f g=true->0<=T c f g/\T c f g<(c.2.1.length:Int)/\c.2.1.getD (T c f g).toNat 0=c.2.1.getD f 0/\c.2.2.1.getD (T c f g).toNat 0=c.2.2.1.getD g 0
theorem XK{c:Cat}(h:DS c=true):Sh c:=by
 unfold DS at h;simp only [bAE,decide_eq_true_eq]at h;obtain⟨hh,hi,hr⟩:=h;have hr': ∀f,f<c.2.1.length->Dk c f=true:=fun f hf=>aET.1 hr f (List.mem_range.2 hf)
 have hcell: ∀f g,f<c.2.1.length->g<c.2.1.length->BP c f g=true:=fun f g hf hg=>by
  have:=hr' f hf;unfold Dk at this;rw [bAE]at this;exact aET.1 this.2 g (List.mem_range.2 hg)
 have h0:=hh;obtain⟨a1,a2,a3,a4,a5,a6,a7,a8⟩:=hh;refine⟨h0,fun x h1 h2=>Cb a8 (by omega),fun f hf=>Cb a4 hf,fun f hf=>Cb a5 (by omega),fun f hf=>?_,fun f g hf hg hm=>?_,fun f g hf hg hm=>?_⟩
 ·have:=hr' f hf
  unfold Dk at this;rw [bAE]at this;exact of_decide_eq_true this.1
 ·have:=hcell f g hf hg
  unfold BP at this;unfold mt at hm;rw [hm]at this;exact of_decide_eq_true this
 ·have:=hcell f g hf hg
  unfold BP at this;unfold mt at hm;rw [hm]at this;simp only [Bool.not_true,cond_false,bAE,decide_eq_true_eq]at this;exact⟨(Cu.1 this.1).1,(Cu.1 this.1).2,this.2.1,this.2.2⟩
theorem Bq{X R S:Type}{f:X->Option (LO X R)}{st:Nat->X}{n:Nat}{p:Nat->Bool}{Q:R->Prop}{o:LO X R}{k:LO X R->Option S}{Post:Option S->Prop}
  (h1: ∀i,i<n->(p i=true->f (st i)=some (.next (st (i+1))))/\(p i=false->∃r,f (st i)=some (.ret r)/\Q r)) (h2:f (st n)=some o) (ho: ∀y,o≠.next y)
  (hA:(List.range n).all p=true->Post (k o)) (hB:(List.range n).all p=false->∀r,Q r->Post (k (.ret r))):Post (Option.bind (Au f (st 0)) k):=by
 obtain⟨g1,g2⟩:=U4 h1 h2 ho;cases h:(List.range n).all p with
 |true=>rw [g1 h];exact hA h
 |false=>obtain⟨r,hr,hq⟩:=g2 h;rw [hr];exact hB h r hq
theorem inN{a:Int}{n:Nat}(h:0<=a/\a<(n:Int)):a.toNat<n:=by omega
theorem p99{c:Cat}(h:Sh c){f g:Int}(hf:0<=f/\f<(c.2.1.length:Int))(hg:0<=g/\g<(c.2.1.length:Int)):G99 (c,(f,g))=some (T c f.toNat g.toNat):=by
 unfold G99;have e1:c.2.2.2.2.length=c.2.1.length:=h.hd.2.2.2.2.2.1;have e2:=h.row f.toNat (inN hf);have h1:0<=f/\f<(c.2.2.2.2.length:Int):=by rw [e1];exact hf
 have h2:0<=g/\g<((c.2.2.2.2.getD f.toNat []).length:Int):=by rw [e2];exact hg
 simp only [h1,h2,and_self,if_true];rfl
theorem p86{c:Cat}(h:Sh c): ∃r,G86 c=some r/\(decide (r.1=0)=Ib c):=by
 have hh:=h.hd;obtain⟨a1,a2,a3,a4,a5,a6,a7,a8⟩:=hh;unfold G86;simp only [p75,Option.bind_some];refine Bq (Post:=fun(z:Option (Int×Int×Int×Int))=>∃r,z=some r/\(decide (r.1=0)=Ib c)) (st:=fun i=>(i:Int)) (n:=c.2.1.length) (p:=IT c) (Q:=fun(r:Int×Int×Int×Int)=>r.1≠0) (o:=.brk 0 (c.2.1.length:Int)) (fun f hf=>?_) (by simp) (fun y=>by simp) (fun hu=>?_) (fun hu r hr=>?_)
 ·have hf1:=h.fr f hf
  have ht1:=h.to f hf;have hi1:=h.id _ hf1.1 hf1.2;have hi2:=h.id _ ht1.1 ht1.2;have hfi:0<=c.2.1.getD f 0/\c.2.1.getD f 0<(c.2.2.2.1.length:Int):=by omega
  have hti:0<=c.2.2.1.getD f 0/\c.2.2.1.getD f 0<(c.2.2.2.1.length:Int):=by omega
  have hf3:f<c.2.2.1.length:=by omega
  simp only [Ag,hf,hf3,decide_true,cond_true,Ad hf,Ad hf3,if_true,tNC,and_self,hfi,hti,p99 h hi1 (Ad hf),p99 h (Ad hf) hi2,Option.bind_some];rw [An (by omega) (by omega)]
  show(IT c f=true->_)/\_;unfold IT idn;by_cases b1:T c (c.2.2.2.1.getD (c.2.1.getD f 0).toNat 0).toNat f=(f:Int)
  ·by_cases b2:T c f (c.2.2.2.1.getD (c.2.2.1.getD f 0).toNat 0).toNat=(f:Int)
   ·simp only [b1,b2,decide_true,Bool.not_true,cond_false,Option.bind_some,Bool.and_self]
    exact⟨fun _=>rfl,(fun h=>by cases h)⟩
   ·simp only [b1,b2,decide_true,decide_false,Bool.not_true,Bool.not_false,cond_false,cond_true,Option.bind_some,Bool.and_false]
    exact⟨(fun h=>by cases h),fun _=>⟨_,rfl,by simp⟩⟩
  ·simp only [b1,decide_false,Bool.not_false,cond_true,Option.bind_some,Bool.false_and]
   exact⟨(fun h=>by cases h),fun _=>⟨_,rfl,by simp⟩⟩
 ·show ∃r,(if 0=0 then _ else none)=some r/\_
  rw [if_pos rfl];refine Bq (Post:=fun(z:Option (Int×Int×Int×Int))=>∃r,z=some r/\(decide (r.1=0)=Ib c)) (st:=fun i=>(i:Int)) (n:=c.2.1.length) (p:=fun f=>(List.range c.2.1.length).all fun g=>bif mt c f g then(List.range c.2.1.length).all fun h=>DH c f g h else true) (Q:=fun(r:Int×Int×Int×Int)=>r.1≠0) (o:=.brk 2 (c.2.1.length:Int)) (fun f hf=>?_) (by simp) (fun y=>by simp) (fun hv=>?_) (fun hv r hr=>?_)
  ·simp only [Ag,hf,decide_true,cond_true]
   refine Bq (Post:=fun(z:Option (LO Int (Int×Int×Int×Int)))=>(((List.range c.2.1.length).all fun g=>bif mt c f g then(List.range c.2.1.length).all fun h=>DH c f g h else true)=true->z=some (.next ((f+1:Nat):Int)))/\(((List.range c.2.1.length).all fun g=>bif mt c f g then(List.range c.2.1.length).all fun h=>DH c f g h else true)=false->∃r,z=some (.ret r)/\r.1≠0))
    (st:=fun i=>(i:Int)) (n:=c.2.1.length) (p:=fun g=>bif mt c f g then(List.range c.2.1.length).all fun h=>DH c f g h else true) (Q:=fun(r:LO Int (Int×Int×Int×Int))=>∃r',r= .ret r'/\r'.1≠0) (o:=.brk 4 (c.2.1.length:Int)) (fun g hg=>?_) (by simp) (fun y=>by simp) (fun hw=>?_) (fun hw r hr=>?_)
   ·simp only [Ag,hg,decide_true,cond_true,p99 h (Ad hf) (Ad hg),tNC,Option.bind_some]
    rw [An (show(0:Int)<=(g:Int)+1 by omega) (by omega)]
    cases hm:mt c f g with
    |false=>
     have:=h.neg f g hf hg hm;simp only [this,show((-1:Int)<0) by decide,decide_true,cond_true,cond_false]
     exact⟨fun _=>rfl,(fun h=>by cases h)⟩
    |true=>
     obtain⟨q1,q2,q3,q4⟩:=h.pos f g hf hg hm;simp only [show ¬ (T c f g<0) by omega,decide_false,cond_false,cond_true]
     refine Bq (Post:=fun(z:Option (LO Int (LO Int (Int×Int×Int×Int))))=>(((List.range c.2.1.length).all fun h=>DH c f g h)=true->z=some (.next ((g+1:Nat):Int)))/\(((List.range c.2.1.length).all fun h=>DH c f g h)=false->∃r,z=some (.ret r)/\∃r',r= .ret r'/\r'.1≠0))
      (st:=fun i=>(i:Int)) (n:=c.2.1.length) (p:=fun h=>DH c f g h) (Q:=fun(r:LO Int (LO Int (Int×Int×Int×Int)))=>∃r',r= .ret (.ret r')/\r'.1≠0) (o:=.brk 6 (c.2.1.length:Int)) (fun k hk=>?_) (by simp) (fun y=>by simp) (fun hw=>?_) (fun hw r hr=>?_)
     ·simp only [Ag,hk,decide_true,cond_true,p99 h (Ad hg) (Ad hk),tNC,Option.bind_some]
      rw [An (show(0:Int)<=(k:Int)+1 by omega) (by omega)]
      unfold DH;cases hm2:mt c g k with
      |false=>
       have:=h.neg g k hg hk hm2;simp only [this,show ¬ ((0:Int)<=-1) by decide,decide_false,cond_false,Option.bind_some]
       exact⟨fun _=>rfl,(fun h=>by cases h)⟩
      |true=>
       obtain⟨w1,w2,w3,w4⟩:=h.pos g k hg hk hm2;simp only [w1,decide_true,cond_true,p99 h (Ad hf) (Ad hg),p99 h ⟨q1,q2⟩ (Ad hk),p99 h (Ad hf) ⟨w1,w2⟩,tNC,Option.bind_some];by_cases b:T c (T c f g).toNat k=T c f (T c g k).toNat
       ·simp only [b,decide_true,Bool.not_true,cond_false]
        exact⟨fun _=>rfl,(fun h=>by cases h)⟩
       ·simp only [b,decide_false,Bool.not_false,cond_true]
        exact⟨(fun h=>by cases h),fun _=>⟨_,rfl,_,rfl,by simp⟩⟩
     ·refine⟨fun _=>?_,(fun h=>by rw [hw]at h;cases h)⟩
      show(if 6=6 then some (LO.next ((g:Int)+1))else none)=_
      rw [if_pos rfl];rfl
     ·obtain⟨r',rfl,hr'⟩:=hr
      exact⟨(fun h=>by rw [hw]at h;cases h),fun _=>⟨_,rfl,r',rfl,hr'⟩⟩
   ·refine⟨fun _=>?_,(fun h=>by rw [hw]at h;cases h)⟩
    show(if 4=4 then some (LO.next (IntKind.wrap .i64 ((f:Int)+1)))else none)=_
    rw [if_pos rfl,An (by omega) (by omega)];rfl
   ·obtain⟨r',rfl,hr'⟩:=hr
    exact⟨(fun h=>by rw [hw]at h;cases h),fun _=>⟨r',rfl,hr'⟩⟩
  ·exact⟨_,rfl,by unfold Ib;rw [hu,hv];rfl⟩
  ·exact⟨r,rfl,by unfold Ib;rw [hu,hv];simpa using hr⟩
 ·exact⟨r,rfl,by unfold Ib;rw [hu];simpa using hr⟩
open Go Go.Ve
theorem p72{c:Cat}(h:Sh c): ∃r,G72 c=some r/\(decide (r.1=0)=Ib c):=by
 have hh:=h.hd;obtain⟨a1,a2,a3,a4,a5,a6,a7,a8⟩:=hh;unfold G72;refine Bq (Post:=fun(z:Option (Int×Int×Int×Int))=>∃r,z=some r/\(decide (r.1=0)=Ib c)) (st:=fun i=>(i:Int)) (n:=c.2.1.length) (p:=IT c) (Q:=fun(r:Int×Int×Int×Int)=>r.1≠0) (o:=.brk 0 (c.2.1.length:Int)) (fun f hf=>?_) (by simp) (fun y=>by simp) (fun hu=>?_) (fun hu r hr=>?_)
 ·have hf1:=h.fr f hf
  have ht1:=h.to f hf;have hi1:=h.id _ hf1.1 hf1.2;have hi2:=h.id _ ht1.1 ht1.2;have hfi:0<=c.2.1.getD f 0/\c.2.1.getD f 0<(c.2.2.2.1.length:Int):=by omega
  have hti:0<=c.2.2.1.getD f 0/\c.2.2.1.getD f 0<(c.2.2.2.1.length:Int):=by omega
  have hf3:f<c.2.2.1.length:=by omega
  have hf6:f<c.2.2.2.2.length:=by omega
  have hi1':0<=c.2.2.2.1.getD (c.2.1.getD f 0).toNat 0/\c.2.2.2.1.getD (c.2.1.getD f 0).toNat 0<(c.2.2.2.2.length:Int):=by rw [a6];exact hi1
  have hr1:=h.row _ (inN hi1);have hr1':f<(c.2.2.2.2.getD (c.2.2.2.1.getD (c.2.1.getD f 0).toNat 0).toNat []).length:=by rw [hr1];exact hf
  have hi2':0<=c.2.2.2.1.getD (c.2.2.1.getD f 0).toNat 0/\c.2.2.2.1.getD (c.2.2.1.getD f 0).toNat 0<((c.2.2.2.2.getD f []).length:Int):=by rw [h.row f hf];exact hi2
  simp only [Ag,hf,hf3,hf6,decide_true,cond_true,Ad hf,Ad hf3,Ad hf6,if_true,tNC,and_self,hfi,hti,hi1',hi2',Ad hr1',hr1',Option.bind_some];rw [An (by omega) (by omega)]
  show(IT c f=true->_)/\_;unfold IT idn T;by_cases b1:(c.2.2.2.2.getD (c.2.2.2.1.getD (c.2.1.getD f 0).toNat 0).toNat []).getD f 0=(f:Int)
  ·by_cases b2:(c.2.2.2.2.getD f []).getD (c.2.2.2.1.getD (c.2.2.1.getD f 0).toNat 0).toNat 0=(f:Int)
   ·simp only [b1,b2,decide_true,Bool.not_true,cond_false,Option.bind_some,Bool.and_self]
    exact⟨fun _=>rfl,(fun h=>by cases h)⟩
   ·simp only [b1,b2,decide_true,decide_false,Bool.not_true,Bool.not_false,cond_false,cond_true,Option.bind_some,Bool.and_false]
    exact⟨(fun h=>by cases h),fun _=>⟨_,rfl,by simp⟩⟩
  ·simp only [b1,decide_false,Bool.not_false,cond_true,Option.bind_some,Bool.false_and]
   exact⟨(fun h=>by cases h),fun _=>⟨_,rfl,by simp⟩⟩
 ·show ∃r,(if 0=0 then _ else none)=some r/\_
  rw [if_pos rfl];refine Bq (Post:=fun(z:Option (Int×Int×Int×Int))=>∃r,z=some r/\(decide (r.1=0)=Ib c)) (st:=fun i=>(i:Int)) (n:=c.2.1.length) (p:=fun f=>(List.range c.2.1.length).all fun g=>bif mt c f g then(List.range c.2.1.length).all fun h=>DH c f g h else true) (Q:=fun(r:Int×Int×Int×Int)=>r.1≠0) (o:=.brk 2 (c.2.1.length:Int)) (fun f hf=>?_) (by simp) (fun y=>by simp) (fun hv=>?_) (fun hv r hr=>?_)
  ·simp only [Ag,hf,decide_true,cond_true]
   refine Bq (Post:=fun(z:Option (LO Int (Int×Int×Int×Int)))=>(((List.range c.2.1.length).all fun g=>bif mt c f g then(List.range c.2.1.length).all fun h=>DH c f g h else true)=true->z=some (.next ((f+1:Nat):Int)))/\(((List.range c.2.1.length).all fun g=>bif mt c f g then(List.range c.2.1.length).all fun h=>DH c f g h else true)=false->∃r,z=some (.ret r)/\r.1≠0))
    (st:=fun i=>(i:Int)) (n:=c.2.1.length) (p:=fun g=>bif mt c f g then(List.range c.2.1.length).all fun h=>DH c f g h else true) (Q:=fun(r:LO Int (Int×Int×Int×Int))=>∃r',r= .ret r'/\r'.1≠0) (o:=.brk 4 (c.2.1.length:Int)) (fun g hg=>?_) (by simp) (fun y=>by simp) (fun hw=>?_) (fun hw r hr=>?_)
   ·have hf3:f<c.2.2.1.length:=by omega
    have hg3:g<c.2.2.1.length:=by omega
    have hf6:f<c.2.2.2.2.length:=by omega
    have hg6:g<c.2.2.2.2.length:=by omega
    simp only [Ag,hg,hf3,decide_true,cond_true,Ad hg,Ad hf3,and_self,if_true,tNC];rw [An (show(0:Int)<=(g:Int)+1 by omega) (by omega)]
    show(((bif mt c f g then _ else true)=true)->(bif !mt c f g then _ else _)=_)/\(_->∃r,(bif !mt c f g then _ else _)=_/\_);cases hm:mt c f g with
    |false=>exact⟨fun _=>rfl,(fun h=>by cases h)⟩
    |true=>
     obtain⟨q1,q2,q3,q4⟩:=h.pos f g hf hg hm;simp only [Bool.not_true,cond_false,cond_true]
     refine Bq (Post:=fun(z:Option (LO Int (LO Int (Int×Int×Int×Int))))=>(((List.range c.2.1.length).all fun h=>DH c f g h)=true->z=some (.next ((g+1:Nat):Int)))/\(((List.range c.2.1.length).all fun h=>DH c f g h)=false->∃r,z=some (.ret r)/\∃r',r= .ret r'/\r'.1≠0))
      (st:=fun i=>(i:Int)) (n:=c.2.1.length) (p:=fun h=>DH c f g h) (Q:=fun(r:LO Int (LO Int (Int×Int×Int×Int)))=>∃r',r= .ret (.ret r')/\r'.1≠0) (o:=.brk 6 (c.2.1.length:Int)) (fun k hk=>?_) (by simp) (fun y=>by simp) (fun hw=>?_) (fun hw r hr=>?_)
     ·have e1:(c.2.2.2.2.getD f []).length=c.2.1.length:=h.row f hf
      have e2:(c.2.2.2.2.getD g []).length=c.2.1.length:=h.row g hg;have e3:(c.2.2.2.2.getD (T c f g).toNat []).length=c.2.1.length:=h.row _ (inN ⟨q1,q2⟩);have hgf:g<(c.2.2.2.2.getD f []).length:=by omega
      have hkg:k<(c.2.2.2.2.getD g []).length:=by omega
      have hkt:k<(c.2.2.2.2.getD (T c f g).toNat []).length:=by omega
      have ht:0<=T c f g/\T c f g<(c.2.2.2.2.length:Int):=by omega
      simp only [Ag,hk,hg3,decide_true,cond_true,Ad hk,Ad hg3,Ad hf6,Ad hg6,Ad hgf,Ad hkg,hf6,hg6,hgf,hkg,and_self,if_true,tNC];rw [An (show(0:Int)<=(k:Int)+1 by omega) (by omega)]
      have eM:decide (c.2.2.1.getD g 0=c.2.1.getD k 0)=mt c g k:=rfl;have eT: ∀a b,(c.2.2.2.2.getD a []).getD b 0=T c a b:=fun _ _=>rfl
      have hkt':(k:Int)<((c.2.2.2.2.getD (T c f g).toNat []).length:Int):=by omega
      simp only [eM,eT,hkt',and_self,if_true];unfold DH;cases hm2:mt c g k with
      |false=>exact⟨fun _=>rfl,(fun h=>by cases h)⟩
      |true=>
       obtain⟨w1,w2,w3,w4⟩:=h.pos g k hg hk hm2;have hw':0<=T c g k/\T c g k<((c.2.2.2.2.getD f []).length:Int):=by omega
       simp only [cond_true,ht,Ad hkt,hw',and_self,if_true,Option.bind_some];by_cases b:T c (T c f g).toNat k=T c f (T c g k).toNat
       ·simp only [b,decide_true,Bool.not_true,cond_false]
        exact⟨fun _=>rfl,(fun h=>by cases h)⟩
       ·simp only [b,decide_false,Bool.not_false,cond_true]
        exact⟨(fun h=>by cases h),fun _=>⟨_,rfl,_,rfl,by simp⟩⟩
     ·refine⟨fun _=>?_,(fun h=>by rw [hw]at h;cases h)⟩
      show(if 6=6 then some (LO.next ((g:Int)+1))else none)=_
      rw [if_pos rfl];rfl
     ·obtain⟨r',rfl,hr'⟩:=hr
      exact⟨(fun h=>by rw [hw]at h;cases h),fun _=>⟨_,rfl,r',rfl,hr'⟩⟩
   ·refine⟨fun _=>?_,(fun h=>by rw [hw]at h;cases h)⟩
    show(if 4=4 then some (LO.next (IntKind.wrap .i64 ((f:Int)+1)))else none)=_
    rw [if_pos rfl,An (by omega) (by omega)];rfl
   ·obtain⟨r',rfl,hr'⟩:=hr
    exact⟨(fun h=>by rw [hw]at h;cases h),fun _=>⟨r',rfl,hr'⟩⟩
  ·exact⟨_,rfl,by unfold Ib;rw [hu,hv];rfl⟩
  ·exact⟨r,rfl,by unfold Ib;rw [hu,hv];simpa using hr⟩
 ·exact⟨r,rfl,by unfold Ib;rw [hu];simpa using hr⟩
open Go Go.Ve
def DA(c:Cat):Bool:=DS c&&Ib c
theorem p55{c:Cat}(h:okC c):G55 c=some (DA c):=by
 unfold G55;simp only [p71 h,Option.bind_some];unfold DA;cases hs:DS c with
 |false=>rfl
 |true=>
  obtain⟨r,hr,hl⟩:=p72 (XK hs);simp only [hr,Option.bind_some,hl,Bool.not_true,cond_false,Bool.true_and]
theorem p74{c:Cat}(h:okC c):G74 c=some (DA c):=by
 unfold G74;simp only [p85 h,Option.bind_some];unfold DA;cases hs:DS c with
 |false=>rfl
 |true=>
  obtain⟨r,hr,hl⟩:=p86 (XK hs);simp only [hr,Option.bind_some,hl,Bool.not_true,cond_false,Bool.true_and]
def Cc(c:Cat)(vs:List Int)(t:Int×Int):Bool:=inn vs.length t.1&&(inn c.2.1.length t.2&&decide (c.2.1.getD t.2.toNat 0=vs.getD t.1.toNat 0))
def KY(c:Cat)(vs:List Int)(l r:Int×Int):Bool:=Cc c vs l&&(Cc c vs r&&decide (c.2.2.1.getD l.2.toNat 0=c.2.2.1.getD r.2.toNat 0))
theorem Lj{c:Cat}{vs:List Int}{t:Int×Int}(h:Cc c vs t=true):0<=t.2/\t.2<(c.2.1.length:Int):=by
 unfold Cc at h;simp only [bAE]at h;exact Cu.1 h.2.1
abbrev Qry:=List Int×List (Int×Int)×List (Int×Int)×List Int
def VP(c:Cat)(q:Qry):Prop:=q.1.length<=4/\wi c.1 q.1=true/\q.2.1.length<=6/\q.2.2.1.length=q.2.1.length/\q.2.2.2.length<=4/\wi q.1.length q.2.2.2=true
instance(c:Cat)(q:Qry):Decidable (VP c q):=by unfold VP;infer_instance
def AaV(c:Cat)(q:Qry):Bool:=(List.range q.2.1.length).all fun i=>KY c q.1 (q.2.1.getD i (0,0)) (q.2.2.1.getD i (0,0))
def qOK(c:Cat)(q:Qry):Bool:=decide (VP c q)&&AaV c q
theorem q_f{c:Cat}{q:Qry}(h: ¬VP c q):qOK c q=false:=by simp [qOK,h]
open Go Go.Ve
open Go Go.Ve
end Go.Ve.D


namespace Go.Ve.D
open Go Go.Ve
theorem IV{α:Type}{x:List α}(d:α){i:Nat}(hi:i<x.length):x.take i++ [x.getD i d]=x.take (i+1):=by
 rw [List.take_add_one];simp [hi]
theorem CW{α:Type}{x:List α}(d:α){i:Nat}(hi:i<x.length):x.getD i d∈x:=by
 rw [gDE,gEE hi];exact List.getElem_mem hi
def mk(x:List Int)(k:Int):List Int:=(List.range x.length).map fun(i:Nat)=>k+(i:Int)
theorem Js{x:List Int}{k:Int}:(mk x k).length=x.length:=by simp [mk]
theorem Y5{x:List Int}{k:Int}{i:Nat}(hi:i<x.length):(mk x k).getD i 0=k+(i:Int):=by
 simp [mk,hi]
theorem p34{x:List Int}{k:Int}(h0:0<=k)(h1:k<=1152921504606846976)(h:x.length<=1048576):G34 (x,k)=some (k+(x.length:Int),mk x k):=by
 unfold G34;have hst:((k,((0:Int),x)):Int×Int×List Int)=(fun i:Nat=>(k+(i:Int),((i:Int),(mk x k).take i++x.drop i))) 0:=by simp
 simp only [hst];refine Ap (v:=.brk 0 (k+(x.length:Int),((x.length:Int),mk x k))) (AC (st:=fun i:Nat=>(k+(i:Int),((i:Int),(mk x k).take i++x.drop i))) (n:=x.length) (fun i hi=>?_) ?_ (fun y=>by simp)) rfl
 ·have e:((mk x k).take i++x.drop i).length=x.length:=by simp [Js];omega
  simp only [e,Ag,hi,decide_true,cond_true,Ad hi,if_true,tNC,and_self];have hm:=DL (x:=mk x k) (y:=x) (i:=i) 0 Js.symm (by rw [Js];exact hi)
  rw [Y5 hi]at hm;rw [hm,Cm (by omega) (by omega),An (by omega) (by omega)]
  simp only [Int.natCast_add,Int.add_assoc];rfl
 ·have e:((mk x k).take x.length++x.drop x.length)=mk x k:=by
   rw [List.drop_length,List.append_nil];exact List.take_of_length_le (by rw [Js];exact Nat.le_refl _)
  simp only [e,Js,Ag,Nat.lt_irrefl,decide_false,cond_false]
theorem p36{x:List Int}{k:Int}(h0:0<=k)(h1:k<=1152921504606846976)(h:x.length<=1048576):G36 (mk x k,k)=some (k+(x.length:Int)):=by
 unfold G36;have hst:((k,(0:Int)):Int×Int)=(fun i:Nat=>(k+(i:Int),(i:Int))) 0:=by simp
 simp only [hst];refine Ap (v:=.brk 0 (k+(x.length:Int),(x.length:Int))) (AC (st:=fun i:Nat=>(k+(i:Int),(i:Int))) (n:=x.length) (fun i hi=>?_) ?_ (fun y=>by simp)) rfl
 ·simp only [Js,Ag,hi,decide_true,cond_true,Ad hi,if_true,tNC,and_self,Y5 hi,Bool.not_true,cond_false]
  rw [Cm (by omega) (by omega),An (by omega) (by omega)]
  simp only [Int.natCast_add,Int.add_assoc];rfl
 ·simp only [Js,Ag,Nat.lt_irrefl,decide_false,cond_false]
def tot(x:List (List Int))(i:Nat):Nat:=((x.take i).map List.length).sum
theorem Lh{x:List (List Int)}{i:Nat}(hi:i<x.length):tot x (i+1)=tot x i+(x.getD i []).length:=by
 unfold tot;rw [<-IV [] hi];simp
theorem ME{x:List (List Int)}(hx: ∀y∈x,y.length<=1048576): ∀i,i<=x.length->tot x i<=i*1048576
 |0,_=>by simp [tot]
 |i+1,hi=>by
  rw [Lh (by omega)]
  have:=ME hx i (by omega)
  have:=hx _ (CW [] (show i<x.length by omega))
  omega
def mks(x:List (List Int))(k:Int):List (List Int):=(List.range x.length).map fun(i:Nat)=>mk (x.getD i []) (k+(tot x i:Int))
theorem Dd{x:List (List Int)}{k:Int}:(mks x k).length=x.length:=by simp [mks]
theorem V2{x:List (List Int)}{k:Int}{i:Nat}(hi:i<x.length):(mks x k).getD i []=mk (x.getD i []) (k+(tot x i:Int)):=by
 simp [mks,hi]
theorem p15{x:List (List Int)}{k:Int}(h0:0<=k)(h1:k<=1125899906842624)(h:x.length<=1048576)(hx: ∀y∈x,y.length<=1048576):G15 (x,k)=some (k+(tot x x.length:Int),mks x k):=by
 unfold G15;have hst:((k,((0:Int),x)):Int×Int×List (List Int))=(fun i:Nat=>(k+(tot x i:Int),((i:Int),(mks x k).take i++x.drop i))) 0:=by simp [tot]
 simp only [hst];refine Ap (v:=.brk 0 (k+(tot x x.length:Int),((x.length:Int),mks x k))) (AC (st:=fun i:Nat=>(k+(tot x i:Int),((i:Int),(mks x k).take i++x.drop i))) (n:=x.length) (fun i hi=>?_) ?_ (fun y=>by simp)) rfl
 ·have e:((mks x k).take i++x.drop i).length=x.length:=by simp [Dd];omega
  have e2:((mks x k).take i++x.drop i).getD i []=x.getD i []:=by
   simp only [gDE];rw [gAR (by simp [Dd];omega)]
   simp [Dd,Nat.min_eq_left (Nat.le_of_lt hi)]
  have ht:=ME hx i (Nat.le_of_lt hi);have hr:=hx _ (CW [] hi);simp only [e,e2,Ag,hi,decide_true,cond_true,Ad hi,if_true,tNC,and_self,p34 (x:=x.getD i []) (k:=k+(tot x i:Int)) (by omega) (by omega) hr,Option.bind_some]
  have hm:=DL (x:=mks x k) (y:=x) (i:=i) [] Dd.symm (by rw [Dd];exact hi)
  rw [V2 hi]at hm;rw [hm,An (by omega) (by omega),Lh hi]
  simp only [Int.natCast_add,Int.add_assoc];rfl
 ·have e:((mks x k).take x.length++x.drop x.length)=mks x k:=by
   rw [List.drop_length,List.append_nil];exact List.take_of_length_le (by rw [Dd];exact Nat.le_refl _)
  simp only [e,Dd,Ag,Nat.lt_irrefl,decide_false,cond_false]
theorem AaP{x:List Int}{k:Int}(h0:0<=k)(h1:k<=1125899906842624)(h:x.length<=1048576): ∃k' y,G34 (x,k)=some (k',y)/\0<=k'/\k'<=k+2199023255552/\G36 (y,k)=some k':=
 ⟨_,_,p34 h0 (by omega) h,by omega,by omega,p36 h0 (by omega) h⟩
end Go.Ve.D


namespace Go.Ve.D
open Go Go.Ve
theorem IJ{c:Cat}(h:DA c=true):Sh c:=by
 unfold DA at h;rw [bAE]at h;exact XK h.1
def fT(c:Cat)(f:Nat):Int:=c.2.1.getD f 0
def tT(c:Cat)(f:Nat):Int:=c.2.2.1.getD f 0
def ar(c:Cat):Nat:=c.2.1.length
def risB(x:List Int):Bool:=(List.range (x.length-1)).all fun i=>!decide (x.getD (i+1) 0<=x.getD i 0)
def arrC(c:Cat)(w:List Int):Int:=bif !DA c then 1 else bif !wi (ar c) w then 2 else 0
def AaL(c:Cat)(w:List Int):Int:=bif decide (arrC c w=0)&& !risB w then 5 else arrC c w
end Go.Ve.D


namespace Go.Ve.D
open Go Go.Ve
end Go.Ve.D


namespace Go.Ve.D
open Go Go.Ve
def hit(c:Cat)(w:List Int)(f v:Nat)(b a:Int):Bool:=w.contains b&&decide (T c b.toNat f=T c a.toNat v)
end Go.Ve.D


namespace Go.Ve.D
open Go Go.Ve
end Go.Ve.D

