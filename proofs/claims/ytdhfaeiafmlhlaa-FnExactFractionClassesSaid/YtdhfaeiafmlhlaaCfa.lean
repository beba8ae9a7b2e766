/- Copies, equalities, sizes: what they compute. -/
import Derived.Test.YtdhfaeiafmlhlaaUk
import Derived.Test.YtdhfaeiafmlhlaaLa
import Derived.Test.YtdhfaeiafmlhlaaTr
set_option linter.all false
namespace Go.Ve.D
open Go Go.Ve
variable{a b n:Int}{x:List Int}
theorem p10(h:x.length<=1048576):G10 x=some x:=by
 unfold G10;rw[if_pos (by omega)]
 refine AC (v:=.brk 0 ((x.length:Int),x)) (AL (st:=λi=>((i:Int),x.take i++(List.replicate x.length (0:Int)).drop i)) (n:=x.length) (λi hi=>?_) (by simp) (λy=>by simp)) rfl
 have e:(x.take i++(List.replicate x.length (0:Int)).drop i).length=x.length:=by simp;omega
 simp only[Ad,hi,decide_true,cond_true,Aa hi,if_true,e,tNC,and_self];rw[Jh 0 (by simp) hi,Aj (by omega) (by omega)]
 rfl
theorem p39{x:List (List Int)}(h:x.length<=1048576)(A:∀y∈x,y.length<=1048576):G39 x=some x:=by
 unfold G39;rw[if_pos (by omega)]
 refine AC (v:=.brk 0 ((x.length:Int),x)) (AL (st:=λi=>((i:Int),x.take i++(List.replicate x.length []).drop i)) (n:=x.length) (λi hi=>?_) (by simp) (λy=>by simp)) rfl
 have e:(x.take i++(List.replicate x.length ([]:List Int)).drop i).length=x.length:=by simp;omega
 have g:G10 (x.getD i [])=some (x.getD i []):=p10 (A _ (by rw[gDE,gEE hi];simp))
 simp only[Ad,hi,decide_true,cond_true,Aa hi,if_true,e,tNC,and_self,g,Option.bind_some];rw[Jh [] (by simp) hi,Aj (by omega) (by omega)]
 rfl
def okC(c:Int×List Int×List Int×List Int×List (List Int)):Prop:=c.2.1.length<=1048576/\c.2.2.1.length<=1048576/\c.2.2.2.1.length<=1048576/\c.2.2.2.2.length<=1048576/\∀y∈c.2.2.2.2,y.length<=1048576
def p9{c}(h:okC c):G9 c=some c:=by
 obtain⟨F,E,B,A,e⟩:=h;unfold G9;simp only[p10 F,p10 E,p10 B,p39 A e,Option.bind_some]
theorem p12(h:x.length<=1048576):G12 (x,x)=some true:=by
 unfold G12;simp only[decide_true,Bool.not_true,cond_false];refine AC (v:=.brk 0 (x.length:Int)) (AL (st:=λi=>(i:Int)) (n:=x.length) (λi hi=>?_) (by simp) (λy=>by simp)) rfl
 simp only[Ad,hi,decide_true,cond_true,Aa hi,if_true,tNC,and_self,Bool.not_true,cond_false];rw[Aj (by omega) (by omega)]
 rfl
theorem p22{x:List (List Int)}(h:x.length<=1048576)(e:∀y∈x,y.length<=1048576):G22 (x,x)=some true:=by
 unfold G22;simp only[decide_true,Bool.not_true,cond_false];refine AC (v:=.brk 0 (x.length:Int)) (AL (st:=λi=>(i:Int)) (n:=x.length) (λi hi=>?_) (by simp) (λy=>by simp)) rfl
 have g:G12 (x.getD i [],x.getD i [])=some true:=p12 (e _ (by rw[gDE,gEE hi];simp))
 simp only[Ad,hi,decide_true,cond_true,Aa hi,if_true,tNC,and_self,Bool.not_true,cond_false,g,Option.bind_some];rw[Aj (by omega) (by omega)]
 rfl
def p13{c}(h:okC c):G13 (c,c)=some true:=by
 obtain⟨F,E,B,A,e⟩:=h;unfold G13;simp only[p12 F,p12 E,p12 B,p22 A e,Option.bind_some,decide_true,Bool.not_true,cond_false]
open Go Go.Ve
def p34(E:0<=b/\b<=1048576)(A:x.length<=maxLen):∃r,G34 (x,b)=some r/\(r<0\/(r=b-x.length/\0<=r)):=by
 unfold G34;have B:maxLen=9223372036854775807:=by decide
 rw[B]at A;have e:IntKind.wrap .i64 (b-(x.length:Int))=b-x.length:=JA (by omega) (by omega)
 simp only[e];by_cases h:b-(x.length:Int)<0
 .exact⟨-1,by simp only[h,decide_true,cond_true],.inl (by decide)⟩
 .exact⟨_,by simp only[h,decide_false,cond_false],.inr ⟨rfl,by omega⟩⟩
theorem p35{x:List (List Int)}(hb:0<=b/\b<=1048576)(hx:x.length<=maxLen)(hy:∀y∈x,y.length<=maxLen):∃r,G35 (x,b)=some r/\(r<0\/(0<=r/\r<=b/\x.length<=1048576/\∀y∈x,y.length<=1048576)):=by
 unfold G35;have hm:maxLen=9223372036854775807:=by decide
 rw[hm]at hx;have e:IntKind.wrap .i64 (b-(x.length:Int))=b-x.length:=JA (by omega) (by omega)
 simp only[e];by_cases h:b-(x.length:Int)<0
 .exact⟨-1,by simp only[h,decide_true,cond_true],.inl (by decide)⟩
 .simp only[h,decide_false,cond_false]
  obtain⟨o,ho,Y⟩:=JG (f:=(fun(v0:(Int×Int))=>(bif(decide (v0.2<((x.length:Nat):Int)))then(if(((0:Int)<=v0.2)/\(v0.2<((x.length:Nat):Int)))then(Option.bind (G34 ((x.getD (v0.2).toNat []),v0.1)) (fun(Z:Int)=>(bif(decide (Z<(0:Int)))then(BD (some (-(1:Int))))else(some (LO.next (Z,(IntKind.wrap .i64 (v0.2+(1:Int)))))))))else none)else(some (LO.brk 0 (v0.1,v0.2))))))
   (I:=λi s=>s.2=(i:Int)/\0<=s.1/\s.1<=b-x.length/\∀y∈x.take i,y.length<=1048576)
   (Q:=λo=>match o with
    |.brk id s=>id=0/\0<=s.1/\s.1<=b/\∀y∈x,y.length<=1048576
    |.ret r=>r<0
    |.next _=>False)
   (n:=x.length) (x:=(b-(x.length:Int),(0:Int))) ⟨rfl,by omega,by omega,by simp⟩
   (λi hi s W=>by
    obtain⟨c,k⟩:=s;obtain⟨rfl,F,U,E⟩:=W;simp only at F U E;have O:x.getD i []∈x:=by rw[gDE,gEE hi];simp
    obtain⟨r,hr,J⟩:=p34 (x:=x.getD i []) (b:=c) ⟨F,by omega⟩ (hy _ O)
    simp only[Ad,hi,decide_true,cond_true,Aa hi,if_true,tNC,and_self,hr,Option.bind_some];by_cases B:r<0
    .right
     exact⟨.ret (-1),by simp only[B,decide_true,cond_true];rfl,(λy=>by simp),(by decide:(-1:Int)<0)⟩
    .left
     refine⟨(r,(i:Int)+1),by simp only[B,decide_false,cond_false,Aj (show(0:Int)<=(i:Int)+1 by omega) (by omega)],rfl,by omega,?_,?_⟩
     .rcases J with h|⟨h,_⟩
      .exact absurd h B
      .simp only;omega
     .intro y A
      rw[List.take_add_one,List.mem_append]at A;rcases A with A|A
      .exact E y A
      .rw[gEE hi]at A
       have:y=x.getD i []:=by
        rw[gDE,gEE hi];simpa using A
       rw[this];rcases J with h|⟨h,h'⟩
       .exact absurd h B
       .omega)
   (λs W=>by
    obtain⟨c,k⟩:=s;obtain⟨rfl,F,U,E⟩:=W;simp only at F U E;refine⟨.brk 0 (c,(x.length:Int)),by simp,(λy=>by simp),rfl,F,by simp only;omega,λy A=>E y (by simpa using A)⟩)
  rw[ho];cases o with
  |next=>exact Y.elim
  |ret r=>exact⟨r,rfl,.inl Y⟩
  |brk id s=>
   obtain⟨rfl,F,U,E⟩:=Y;exact⟨s.1,rfl,.inr ⟨F,U,by omega,E⟩⟩
theorem p7{c}(h1:c.2.1.length<=maxLen)(h2:c.2.2.1.length<=maxLen)(h3:c.2.2.2.1.length<=maxLen)(Z:c.2.2.2.2.length<=maxLen)(Y:∀y∈c.2.2.2.2,y.length<=maxLen):
  ∃r,G7 (c,1048576)=some r/\(r<0\/(0<=r/\r<=1048576/\okC c)):=by
 unfold G7;obtain⟨J,e1,f1⟩:=p34 (b:=1048576) (by omega) h1
 simp only[e1,Option.bind_some];by_cases W:J<0
 .exact⟨-1,by simp only[W,decide_true,cond_true],.inl (by decide)⟩
 simp only[W,decide_false,cond_false];obtain⟨F,e2,f2⟩:=p34 (b:=J) (by omega) h2
 simp only[e2,Option.bind_some];by_cases U:F<0
 .exact⟨-1,by simp only[U,decide_true,cond_true],.inl (by decide)⟩
 simp only[U,decide_false,cond_false];obtain⟨E,e3,f3⟩:=p34 (b:=F) (by omega) h3
 simp only[e3,Option.bind_some];by_cases O:E<0
 .exact⟨-1,by simp only[O,decide_true,cond_true],.inl (by decide)⟩
 simp only[O,decide_false,cond_false];obtain⟨B,e4,e⟩:=p35 (b:=E) (by omega) Z Y
 simp only[e4,Option.bind_some];by_cases A:B<0
 .exact⟨-1,by simp only[A,decide_true,cond_true],.inl (by decide)⟩
 simp only[A,decide_false,cond_false];refine⟨B,rfl,.inr ?_⟩;have e:=e.resolve_left A;exact⟨e.1,by omega,by omega,by omega,by omega,e.2.2.1,e.2.2.2⟩
open Go Go.Ve
def p150(a l h:Int):G150 (a,(l,h))=some (decide (l<=a)&&decide (a<=h)):=by
 unfold G150;by_cases e:l<=a<;>simp[e]
def p153(a l h:Int):G153 (a,(l,h))=some (decide (l<=a)&&decide (a<=h)):=by
 unfold G153;by_cases e:l<=a<;>simp[e]
def p153'(a n:Int)(e:0<=n/\n<=9223372036854775807):G153 (a,((0:Int),IntKind.wrap .i64 (n-1)))=some (inn n a):=by
 rw[p153,JA (by omega) (by omega)]
 unfold inn
 congr 2
 rw[Bool.eq_iff_iff];simp;omega
theorem p125(E:x.length<=1048576):G125 (n,x)=some (wi n x):=by
 unfold G125
 have h:=Bt (R:=Bool) (f:=(fun(v0:Int)=>(bif(decide (v0<((x.length:Nat):Int)))then(if(((0:Int)<=v0)/\(v0<((x.length:Nat):Int)))then(Option.bind (bif(decide ((x.getD (v0).toNat (0:Int))<(0:Int)))then(some true)else(if(((0:Int)<=v0)/\(v0<((x.length:Nat):Int)))then(some (decide (n<=(x.getD (v0).toNat (0:Int)))))else none)) (fun(B:Bool)=>(bif B then(BD (some false))else(some (LO.next (IntKind.wrap .i64 (v0+(1:Int))))))))else none)else(some (LO.brk 0 v0)))))
  (st:=λi=>(i:Int)) (n:=x.length) (p:=λi=>inn n (x.getD i 0)) (r:=false) (o:=.brk 0 (x.length:Int)) (λi hi=>by
   simp only[Ad,hi,decide_true,cond_true,Aa hi,if_true,tNC,and_self];rw[Aj (by omega) (by omega)]
   by_cases e:x.getD i 0<0
   .have:inn n (x.getD i 0)=false:=Abi e
    simp only[e,decide_true,cond_true,Option.bind_some,this,cond_false];rfl
   .by_cases A:n<=x.getD i 0
    .have:inn n (x.getD i 0)=false:=Abh A
     simp only[e,A,decide_false,decide_true,cond_true,cond_false,Option.bind_some,this];rfl
    .have:inn n (x.getD i 0)=true:=inn_t (by omega) (by omega)
     simp only[e,A,decide_false,cond_true,cond_false,Option.bind_some,this];rfl) (by simp) (λy=>by simp)
 rw[KP 0 (inn n) x]at h;refine AC h ?_;show _=some (wi n x);unfold wi;cases x.all (inn n)<;>rfl
theorem p131(A:0<=n/\n<=9223372036854775807)(B:x.length<=1048576):G131 (x,n)=some (wi n x):=by
 unfold G131
 have h:=Bt (R:=Bool) (f:=(fun(v0:Int)=>(bif(decide (v0<((x.length:Nat):Int)))then(if(((0:Int)<=v0)/\(v0<((x.length:Nat):Int)))then(Option.bind (G153 ((x.getD (v0).toNat (0:Int)),((0:Int),(IntKind.wrap .i64 (n-(1:Int)))))) (fun(e:Bool)=>(bif(!e)then(BD (some false))else(some (LO.next (IntKind.wrap .i64 (v0+(1:Int))))))))else none)else(some (LO.brk 0 v0)))))
  (st:=λi=>(i:Int)) (n:=x.length) (p:=λi=>inn n (x.getD i 0)) (r:=false) (o:=.brk 0 (x.length:Int)) (λi hi=>by
   simp only[Ad,hi,decide_true,cond_true,Aa hi,if_true,tNC,and_self,p153' _ _ A,Option.bind_some];rw[Aj (by omega) (by omega)]
   cases inn n (x.getD i 0)<;>rfl) (by simp) (λy=>by simp)
 rw[KP 0 (inn n) x]at h;refine AC h ?_;show _=some (wi n x);unfold wi;cases x.all (inn n)<;>rfl
def p151{m:Int}(e:x.length<=1048576):G151 (x,(m,n))=some (decide ((x.length:Int)=m)&&wi n x):=by
 unfold G151;simp only[p125 e,Option.bind_some];by_cases h:(x.length:Int)=m<;>simp[h]
open Go Go.Ve
abbrev Cat:=Int×List Int×List Int×List Int×List (List Int)
variable{c:Cat}
def BY(c:Cat)(f g:Nat):Bool:=
 bif !decide (c.2.2.1.getD f 0=c.2.1.getD g 0)then decide ((c.2.2.2.2.getD f []).getD g 0= -1)
 else inn c.2.1.length ((c.2.2.2.2.getD f []).getD g 0)&&(decide (c.2.1.getD ((c.2.2.2.2.getD f []).getD g 0).toNat 0=c.2.1.getD f 0)&&decide (c.2.2.1.getD ((c.2.2.2.2.getD f []).getD g 0).toNat 0=c.2.2.1.getD g 0))
def DA(c:Cat)(f:Nat):Bool:=decide ((c.2.2.2.2.getD f []).length=c.2.1.length)&&(List.range c.2.1.length).all (BY c f)
def Wr(c:Cat)(i:Nat):Bool:=decide (c.2.1.getD (c.2.2.2.1.getD i 0).toNat 0=i)&&decide (c.2.2.1.getD (c.2.2.2.1.getD i 0).toNat 0=i)
def I6(c:Cat):Prop:=(0<=c.1/\c.1<=8)/\c.2.1.length<=40/\c.2.2.1.length=c.2.1.length/\wi c.1 c.2.1=true/\wi c.1 c.2.2.1=true/\c.2.2.2.2.length=c.2.1.length/\(c.2.2.2.1.length:Int)=c.1/\wi c.2.1.length c.2.2.2.1=true
instance(c:Cat):Decidable (I6 c):=by unfold I6;infer_instance
def DG(c:Cat):Bool:=decide (I6 c)&&((List.range c.2.2.2.1.length).all (Wr c)&&(List.range c.2.1.length).all (DA c))
theorem p88i(h:I6 c)(F:Int->Option (LO Int Bool))(W:F=(fun(e:Int)=>(bif(decide (e<c.1))then(if(((0:Int)<=e)/\(e<((c.2.2.2.1.length:Nat):Int)))then(if(((0:Int)<=(c.2.2.2.1.getD (e).toNat (0:Int)))/\((c.2.2.2.1.getD (e).toNat (0:Int))<((c.2.1.length:Nat):Int)))then(Option.bind (bif(!decide ((c.2.1.getD ((c.2.2.2.1.getD (e).toNat (0:Int))).toNat (0:Int))=e))then(some true)else(if(((0:Int)<=e)/\(e<((c.2.2.2.1.length:Nat):Int)))then(if(((0:Int)<=(c.2.2.2.1.getD (e).toNat (0:Int)))/\((c.2.2.2.1.getD (e).toNat (0:Int))<((c.2.2.1.length:Nat):Int)))then(some (!decide ((c.2.2.1.getD ((c.2.2.2.1.getD (e).toNat (0:Int))).toNat (0:Int))=e)))else none)else none)) (fun(U:Bool)=>(bif U then(BD (some false))else(some (LO.next (IntKind.wrap .i64 (e+(1:Int))))))))else none)else none)else(some (LO.brk 0 e))))):
  Ar F 0=some (bif(List.range c.2.2.2.1.length).all (Wr c)then .brk 0 c.1 else .ret false):=by
 obtain⟨a1,a2,a3,a4,a5,a6,a7,a8⟩:=h;subst W;refine Bt (st:=λi=>(i:Int)) (λi hi=>?_) (by simp[a7]) (λy=>by simp)
 have A:((i:Int)<c.1):=by omega
 have J:=Hx a8 hi;have B:0<=c.2.2.2.1.getD i 0/\c.2.2.2.1.getD i 0<(c.2.2.1.length:Int):=by rw[a3];exact J
 simp only[A,decide_true,cond_true,Aa hi,if_true,tNC,and_self,J,B];rw[Aj (by omega) (by omega)]
 unfold Wr;by_cases E:c.2.1.getD (c.2.2.2.1.getD i 0).toNat 0=(i:Int)
 .by_cases O:c.2.2.1.getD (c.2.2.2.1.getD i 0).toNat 0=(i:Int)
  .simp only[E,O,decide_true,Bool.not_true,cond_false,cond_true,Option.bind_some,Bool.and_self];rfl
  .simp only[E,O,decide_true,decide_false,Bool.not_true,Bool.not_false,cond_false,cond_true,Option.bind_some,Bool.and_false];rfl
 .simp only[E,decide_false,Bool.not_false,cond_false,cond_true,Option.bind_some,Bool.false_and];rfl
open Go Go.Ve
def BC(h:¬I6 c):DG c=false:=by simp[DG,h]
theorem p88(h:okC c):G88 c=some (DG c):=by
 obtain⟨h1,h2,h3,h4,h5⟩:=h;unfold G88;simp only[p150,p151 h1,p151 h2,p125 h3,Option.bind_some,decide_true,Bool.true_and];by_cases c1:0<=c.1/\c.1<=8
 case neg=>
  have e:(decide (0<=c.1)&&decide (c.1<=8))=false:=by simp;omega
  simp only[e,Bool.not_false,cond_true,Option.bind_some,BC λh=>c1 h.1]
 have O:(decide (0<=c.1)&&decide (c.1<=8))=true:=by simp[c1]
 simp only[O,Bool.not_true,cond_false,Option.bind_some];by_cases c2:(40:Int)<(c.2.1.length:Int)
 case pos=>simp only[c2,decide_true,cond_true,Option.bind_some,BC (c:=c) λh=>absurd h.2.1 (by omega)]
 simp only[c2,decide_false,cond_false];cases c3:wi c.1 c.2.1 with
 |false=>simp only[Bool.not_false,cond_true,Option.bind_some,BC λh=>by have:=h.2.2.2.1;rw[c3]at this;cases this]
 |true=>
 simp only[Bool.not_true,cond_false,Option.bind_some];by_cases c4:(c.2.2.1.length:Int)=(c.2.1.length:Int)
 case neg=>simp only[c4,decide_false,Bool.false_and,Bool.not_false,cond_true,Option.bind_some,BC λh=>c4 (by rw[h.2.2.1])]
 simp only[dT c4,Bool.true_and];cases c5:wi c.1 c.2.2.1 with
 |false=>simp only[Bool.not_false,cond_true,Option.bind_some,BC λh=>by have:=h.2.2.2.2.1;rw[c5]at this;cases this]
 |true=>
 simp only[Bool.not_true,cond_false,Option.bind_some];by_cases c6:(c.2.2.2.2.length:Int)=(c.2.1.length:Int)
 case neg=>simp only[c6,decide_false,Bool.not_false,cond_true,Option.bind_some,BC λh=>c6 (by rw[h.2.2.2.2.2.1])]
 simp only[dT c6,Bool.not_true,cond_false];by_cases c7:(c.2.2.2.1.length:Int)=c.1
 case neg=>simp only[c7,decide_false,Bool.not_false,cond_true,Option.bind_some,BC λh=>c7 h.2.2.2.2.2.2.1]
 simp only[dT c7,Bool.not_true,cond_false];cases c8:wi c.2.1.length c.2.2.2.1 with
 |false=>simp only[Bool.not_false,cond_true,Option.bind_some,BC λh=>by have:=h.2.2.2.2.2.2.2;rw[c8]at this;cases this]
 |true=>
 simp only[Bool.not_true,cond_false,Option.bind_some];have U:I6 c:=⟨c1,by omega,by omega,c3,c5,by omega,c7,c8⟩
 have hs:DG c=((List.range c.2.2.2.1.length).all (Wr c)&&(List.range c.2.1.length).all (DA c)):=by simp[DG,U]
 rw[hs];have g:=p88i U _ rfl;refine AC g ?_;cases hi:(List.range c.2.2.2.1.length).all (Wr c)with
 |false=>rfl
 |true=>
 simp only[cond_true,Bool.true_and];obtain⟨a1,a2,a3,a4,a5,a6,a7,a8⟩:=U;show(if 0=0 then _ else _)=_
 rw[if_pos rfl];refine AC (v:=bif(List.range c.2.1.length).all (DA c)then .brk 2 (c.2.1.length:Int)else .ret false) (Bt (st:=λi=>(i:Int)) (λf J=>?_) (by simp) (λy=>by simp)) (by cases (List.range c.2.1.length).all (DA c)<;>rfl)
 have A:f<c.2.2.2.2.length:=by omega
 simp only[Ad,J,A,decide_true,cond_true,Aa J,Aa A,if_true,tNC,and_self];by_cases d1:((c.2.2.2.2.getD f []).length:Int)=(c.2.1.length:Int)
 case neg=>
  have:DA c f=false:=by unfold DA;simp only[show ¬ (c.2.2.2.2.getD f []).length=c.2.1.length by omega,decide_false,Bool.false_and]
  simp only[d1,decide_false,Bool.not_false,cond_true,this,cond_false];rfl
 have d2:(c.2.2.2.2.getD f []).length=c.2.1.length:=by omega
 have hr:DA c f=(List.range c.2.1.length).all (BY c f):=by unfold DA;simp only[d2,decide_true,Bool.true_and]
 simp only[dT d1,Bool.not_true,cond_false];rw[hr]
 refine AC (v:=bif(List.range c.2.1.length).all (BY c f)then .brk 4 (c.2.1.length:Int)else .ret (.ret false)) (Bt (st:=λi=>(i:Int)) (λg hg=>?_) (by simp) (λy=>by simp)) (by
  cases (List.range c.2.1.length).all (BY c f)with
  |false=>rfl
  |true=>
   show(if 4=4 then some (LO.next (IntKind.wrap .i64 ((f:Int)+1)))else none)=_
   rw[if_pos rfl,Aj (by omega) (by omega)];rfl)
 have F:f<c.2.2.1.length:=by omega
 have E:g<c.2.2.1.length:=by omega
 have W:(g:Int)<((c.2.2.2.2.getD f []).length:Int):=by omega
 simp only[Ad,J,hg,F,E,W,decide_true,cond_true,Aa J,Aa hg,Aa A,Aa F,Aa E,if_true,tNC,and_self];rw[Aj (show(0:Int)<=(g:Int)+1 by omega) (by omega)]
 unfold BY;obtain⟨k,Z⟩:∃k,k=(c.2.2.2.2.getD f []).getD g 0:=⟨_,rfl⟩;simp only[<-Z];clear Z;by_cases O:c.2.2.1.getD f 0=c.2.1.getD g 0
 case neg=>
  simp only[O,decide_false,Bool.not_false,cond_true];by_cases B:k= -1
  .simp only[B,decide_true,Bool.not_true,cond_false,cond_true];rfl
  .simp only[B,decide_false,Bool.not_false,cond_false,cond_true];rfl
 simp only[O,decide_true,Bool.not_true,cond_false];by_cases B:k<0
 case pos=>simp only[B,decide_true,cond_true,Option.bind_some,Abi B,Bool.false_and,cond_false];rfl
 simp only[B,decide_false,cond_false,Option.bind_some];by_cases Y:(c.2.1.length:Int)<=k
 case pos=>simp only[Y,decide_true,cond_true,Option.bind_some,Abh Y,Bool.false_and,cond_false];rfl
 have e4:inn c.2.1.length k=true:=inn_t (by omega) (by omega)
 have e5:0<=k/\k<(c.2.1.length:Int):=by omega
 have e6:0<=k/\k<(c.2.2.1.length:Int):=by omega
 simp only[Y,decide_false,cond_false,Option.bind_some,e4,e5,e6,and_self,if_true,Bool.true_and];by_cases e7:c.2.1.getD k.toNat 0=c.2.1.getD f 0
 case neg=>simp only[e7,decide_false,Bool.not_false,cond_true,cond_false,Option.bind_some,Bool.false_and];rfl
 simp only[e7,decide_true,Bool.not_true,cond_false,Bool.true_and];by_cases e8:c.2.2.1.getD k.toNat 0=c.2.2.1.getD g 0
 .simp only[e8,decide_true,Bool.not_true,cond_false,cond_true,Option.bind_some];rfl
 .simp only[e8,decide_false,Bool.not_false,cond_false,cond_true,Option.bind_some];rfl
open Go Go.Ve
def p99(c:Cat):G99 c=some (c.2.1.length:Int):=rfl
def p135(A:0<=a/\a<(c.2.1.length:Int))(e:0<=a/\a<(c.2.2.1.length:Int)):G135 (c,a)=some (c.2.1.getD a.toNat 0,c.2.2.1.getD a.toNat 0):=by
 unfold G135;simp only[A,e,and_self,if_true]
theorem p97(h:okC c):G97 c=some (DG c):=by
 obtain⟨h1,h2,h3,h4,h5⟩:=h;unfold G97;simp only[p99,p153 c.1 0 8,Option.bind_some];by_cases c1:0<=c.1/\c.1<=8
 case neg=>
  have e:(decide (0<=c.1)&&decide (c.1<=8))=false:=by simp;omega
  simp only[e,Bool.not_false,cond_true,Option.bind_some,BC λh=>c1 h.1]
 have W:(decide (0<=c.1)&&decide (c.1<=8))=true:=by simp[c1]
 have B:0<=c.1/\c.1<=9223372036854775807:=by omega
 have Z:(0:Int)<=(c.2.1.length:Int)/\(c.2.1.length:Int)<=9223372036854775807:=by omega
 simp only[W,Bool.not_true,cond_false,Option.bind_some,p131 B h1,p131 B h2,p131 Z h3];by_cases c2:(40:Int)<(c.2.1.length:Int)
 case pos=>simp only[c2,decide_true,cond_true,Option.bind_some,BC (c:=c) λh=>absurd h.2.1 (by omega)]
 simp only[c2,decide_false,cond_false,Option.bind_some];by_cases c4:(c.2.2.1.length:Int)=(c.2.1.length:Int)
 case neg=>simp only[c4,decide_false,Bool.not_false,cond_true,Option.bind_some,BC λh=>c4 (by rw[h.2.2.1])]
 simp only[dT c4,Bool.not_true,cond_false,Option.bind_some];cases c3:wi c.1 c.2.1 with
 |false=>simp only[Bool.not_false,cond_true,Option.bind_some,BC λh=>by have:=h.2.2.2.1;rw[c3]at this;cases this]
 |true=>
 simp only[Bool.not_true,cond_false,Option.bind_some];cases c5:wi c.1 c.2.2.1 with
 |false=>simp only[Bool.not_false,cond_true,Option.bind_some,BC λh=>by have:=h.2.2.2.2.1;rw[c5]at this;cases this]
 |true=>
 simp only[Bool.not_true,cond_false,Option.bind_some];by_cases c7:(c.2.2.2.1.length:Int)=c.1
 case neg=>simp only[c7,decide_false,Bool.not_false,cond_true,Option.bind_some,BC λh=>c7 h.2.2.2.2.2.2.1]
 simp only[dT c7,Bool.not_true,cond_false];cases c8:wi c.2.1.length c.2.2.2.1 with
 |false=>simp only[Bool.not_false,cond_true,Option.bind_some,BC λh=>by have:=h.2.2.2.2.2.2.2;rw[c8]at this;cases this]
 |true=>
 simp only[Bool.not_true,cond_false,Option.bind_some];by_cases c6:(c.2.2.2.2.length:Int)=(c.2.1.length:Int)
 case neg=>simp only[c6,decide_false,Bool.not_false,cond_true,Option.bind_some,BC λh=>c6 (by rw[h.2.2.2.2.2.1])]
 simp only[dT c6,Bool.not_true,cond_false,Option.bind_some];have hh:I6 c:=⟨c1,by omega,by omega,c3,c5,by omega,c7,c8⟩
 have hs:DG c=((List.range c.2.2.2.1.length).all (Wr c)&&(List.range c.2.1.length).all (DA c)):=by simp[DG,hh]
 rw[hs];obtain⟨a1,a2,a3,a4,a5,a6,a7,a8⟩:=hh;refine AC (v:=bif(List.range c.2.2.2.1.length).all (Wr c)then .brk 0 (c.2.2.2.1.length:Int)else .ret false) (Bt (st:=λi=>(i:Int)) (λi hi=>?_) (by simp) (λy=>by simp)) ?_
 .have J:=Hx a8 hi
  have Y:0<=c.2.2.2.1.getD i 0/\c.2.2.2.1.getD i 0<(c.2.2.1.length:Int):=by rw[a3];exact J
  simp only[Ad,hi,decide_true,cond_true,Aa hi,if_true,tNC,and_self,p135 J Y,Option.bind_some,Bool.and_true];rw[Aj (by omega) (by omega)]
  show(bif !Wr c i then _ else _)=_;cases Wr c i<;>rfl
 cases hi:(List.range c.2.2.2.1.length).all (Wr c)with
 |false=>rfl
 |true=>
 simp only[cond_true,Bool.true_and];show(if 0=0 then _ else _)=_
 rw[if_pos rfl];refine AC (v:=bif(List.range c.2.1.length).all (DA c)then .brk 2 (c.2.1.length:Int)else .ret false) (Bt (st:=λi=>(i:Int)) (λf hf=>?_) (by simp[a6]) (λy=>by simp)) (by cases (List.range c.2.1.length).all (DA c)<;>rfl)
 have A:f<c.2.2.2.2.length:=by omega
 simp only[Ad,A,decide_true,cond_true,Aa A,if_true,tNC,and_self];by_cases d1:((c.2.2.2.2.getD f []).length:Int)=(c.2.1.length:Int)
 case neg=>
  have:DA c f=false:=by unfold DA;simp only[show ¬ (c.2.2.2.2.getD f []).length=c.2.1.length by omega,decide_false,Bool.false_and]
  simp only[d1,decide_false,Bool.not_false,cond_true,this,cond_false];rfl
 have d2:(c.2.2.2.2.getD f []).length=c.2.1.length:=by omega
 have hr:DA c f=(List.range c.2.1.length).all (BY c f):=by unfold DA;simp only[d2,decide_true,Bool.true_and]
 simp only[dT d1,Bool.not_true,cond_false];rw[hr]
 refine AC (v:=bif(List.range c.2.1.length).all (BY c f)then .brk 4 (c.2.1.length:Int)else .ret (.ret false)) (Bt (st:=λi=>(i:Int)) (λg J=>?_) (by simp only[dF (show ¬ ((c.2.1.length:Int)<((c.2.2.2.2.getD f []).length:Int)) by omega),cond_false]) (λy=>by simp)) (by
  cases (List.range c.2.1.length).all (BY c f)with
  |false=>rfl
  |true=>
   show(if 4=4 then some (LO.next (IntKind.wrap .i64 ((f:Int)+1)))else none)=_
   rw[if_pos rfl,Aj (by omega) (by omega)];rfl)
 have O:f<c.2.2.1.length:=by omega
 have F:g<c.2.2.1.length:=by omega
 have E:g<(c.2.2.2.2.getD f []).length:=by omega
 simp only[Ad,hf,J,O,F,E,decide_true,cond_true,Aa hf,Aa J,Aa A,Aa O,Aa F,Aa E,if_true,tNC,and_self,p153' _ _ Z,Option.bind_some];rw[Aj (show(0:Int)<=(g:Int)+1 by omega) (by omega)]
 unfold BY;obtain⟨k,hk⟩:∃k,k=(c.2.2.2.2.getD f []).getD g 0:=⟨_,rfl⟩;simp only[<-hk];clear hk;by_cases W:c.2.2.1.getD f 0=c.2.1.getD g 0
 case neg=>
  simp only[W,decide_false,Bool.not_false,cond_true];by_cases U:k= -1
  .simp only[U,decide_true,Bool.not_true,cond_false,cond_true];rfl
  .simp only[U,decide_false,Bool.not_false,cond_false,cond_true];rfl
 simp only[W,decide_true,Bool.not_true,cond_false];cases U:inn c.2.1.length k with
 |false=>simp only[Bool.not_false,cond_true,Option.bind_some,Bool.false_and,cond_false];rfl
 |true=>
 have e5:=IJ.1 U;have e6:0<=k/\k<(c.2.2.1.length:Int):=by omega
 simp only[Bool.not_true,cond_false,p135 e5 e6,Option.bind_some,Bool.true_and,Bool.and_true];cases (decide (c.2.1.getD k.toNat 0=c.2.1.getD f 0)&&decide (c.2.2.1.getD k.toNat 0=c.2.2.1.getD g 0))<;>rfl
open Go Go.Ve
def T(c:Cat)(f g:Nat):Int:=(c.2.2.2.2.getD f []).getD g 0
def idn(c:Cat)(x:Int):Nat:=(c.2.2.2.1.getD x.toNat 0).toNat
def JE(c:Cat)(f:Nat):Bool:=decide (T c (idn c (c.2.1.getD f 0)) f=(f:Int))&&decide (T c f (idn c (c.2.2.1.getD f 0))=(f:Int))
def mt(c:Cat)(f g:Nat):Bool:=decide (c.2.2.1.getD f 0=c.2.1.getD g 0)
def D4(c:Cat)(f g h:Nat):Bool:=bif mt c g h then decide (T c (T c f g).toNat h=T c f (T c g h).toNat)else true
def IG(c:Cat):Bool:=(List.range c.2.1.length).all (JE c)&&(List.range c.2.1.length).all λf=>(List.range c.2.1.length).all λg=>bif mt c f g then(List.range c.2.1.length).all λh=>D4 c f g h else true
structure Sh(c:Cat):Prop where
 hd:I6 c
 id:∀x:Int,0<=x->x<c.1->(0<=c.2.2.2.1.getD x.toNat 0/\c.2.2.2.1.getD x.toNat 0<(c.2.1.length:Int))
 fr:∀f,f<c.2.1.length->0<=c.2.1.getD f 0/\c.2.1.getD f 0<c.1
 to:∀f,f<c.2.1.length->0<=c.2.2.1.getD f 0/\c.2.2.1.getD f 0<c.1
 row:∀f,f<c.2.1.length->(c.2.2.2.2.getD f []).length=c.2.1.length
 neg:∀f g,f<c.2.1.length->g<c.2.1.length->mt c f g=false->T c f g= -1
 pos:∀f g,f<c.2.1.length->g<c.2.1.length->mt c f g=true->0<=T c f g/\T c f g<(c.2.1.length:Int)/\c.2.1.getD (T c f g).toNat 0=c.2.1.getD f 0/\c.2.2.1.getD (T c f g).toNat 0=c.2.2.1.getD g 0
theorem Aca(h:DG c=true):Sh c:=by
 unfold DG at h;simp only[bAE,decide_eq_true_eq]at h;obtain⟨J,hi,O⟩:=h;have B:∀f,f<c.2.1.length->DA c f=true:=λf e=>aET.1 O f (List.mem_range.2 e)
 have A:∀f g,f<c.2.1.length->g<c.2.1.length->BY c f g=true:=λf g e F=>by
  have:=B f e;unfold DA at this;rw[bAE]at this;exact aET.1 this.2 g (List.mem_range.2 F)
 have U:=J;obtain⟨a1,a2,a3,a4,a5,a6,a7,a8⟩:=J;refine⟨U,λx Y W=>Hx a8 (by omega),λf e=>Hx a4 e,λf e=>Hx a5 (by omega),λf e=>?_,λf g e F E=>?_,λf g e F E=>?_⟩
 .have:=B f e
  unfold DA at this;rw[bAE]at this;exact of_decide_eq_true this.1
 .have:=A f g e F
  unfold BY at this;unfold mt at E;rw[E]at this;exact of_decide_eq_true this
 .have:=A f g e F
  unfold BY at this;unfold mt at E;rw[E]at this;simp only[Bool.not_true,cond_false,bAE,decide_eq_true_eq]at this;exact⟨(IJ.1 this.1).1,(IJ.1 this.1).2,this.2.1,this.2.2⟩
def Bd{X R S:Type}{f:X->Option (LO X R)}{st:Nat->X}{n:Nat}{p:Nat->Bool}{Q:R->Prop}{o:LO X R}{k:LO X R->Option S}{Post:Option S->Prop}
  (O:∀i,i<n->(p i=true->f (st i)=some (.next (st (i+1))))/\(p i=false->∃r,f (st i)=some (.ret r)/\Q r)) (J:f (st n)=some o) (B:∀y,o≠.next y)
  (F:(List.range n).all p=true->Post (k o)) (E:(List.range n).all p=false->∀r,Q r->Post (k (.ret r))):Post (Option.bind (Ar f (st 0)) k):=by
 obtain⟨g1,g2⟩:=WK O J B;cases h:(List.range n).all p with
 |true=>rw[g1 h];exact F h
 |false=>obtain⟨r,e,A⟩:=g2 h;rw[e];exact E h r A
def inN{n:Nat}(h:0<=a/\a<(n:Int)):a.toNat<n:=by omega
def p81(h:Sh c){f g:Int}(e:0<=f/\f<(c.2.1.length:Int))(A:0<=g/\g<(c.2.1.length:Int)):G81 (c,(f,g))=some (T c f.toNat g.toNat):=by
 unfold G81;have J:c.2.2.2.2.length=c.2.1.length:=h.hd.2.2.2.2.2.1;have F:=h.row f.toNat (inN e);have E:0<=f/\f<(c.2.2.2.2.length:Int):=by rw[J];exact e
 have B:0<=g/\g<((c.2.2.2.2.getD f.toNat []).length:Int):=by rw[F];exact A
 simp only[E,B,and_self,if_true];rfl
theorem p98(h:Sh c):∃r,G98 c=some r/\(decide (r.1=0)=IG c):=by
 have hh:=h.hd;obtain⟨a1,a2,a3,a4,a5,a6,a7,a8⟩:=hh;unfold G98;simp only[p99,Option.bind_some];refine Bd (Post:=fun(z:Option (Int×Int×Int×Int))=>∃r,z=some r/\(decide (r.1=0)=IG c)) (st:=λi=>(i:Int)) (n:=c.2.1.length) (p:=JE c) (Q:=fun(r:Int×Int×Int×Int)=>r.1≠0) (o:=.brk 0 (c.2.1.length:Int)) (λf e=>?_) (by simp) (λy=>by simp) (λZ=>?_) (λZ r F=>?_)
 .have Y:=h.fr f e
  have J:=h.to f e;have hi1:=h.id _ Y.1 Y.2;have hi2:=h.id _ J.1 J.2;have hfi:0<=c.2.1.getD f 0/\c.2.1.getD f 0<(c.2.2.2.1.length:Int):=by omega
  have hti:0<=c.2.2.1.getD f 0/\c.2.2.1.getD f 0<(c.2.2.2.1.length:Int):=by omega
  have W:f<c.2.2.1.length:=by omega
  simp only[Ad,e,W,decide_true,cond_true,Aa e,Aa W,if_true,tNC,and_self,hfi,hti,p81 h hi1 (Aa e),p81 h (Aa e) hi2,Option.bind_some];rw[Aj (by omega) (by omega)]
  show(JE c f=true->_)/\_;unfold JE idn;by_cases b1:T c (c.2.2.2.1.getD (c.2.1.getD f 0).toNat 0).toNat f=(f:Int)
  .by_cases b2:T c f (c.2.2.2.1.getD (c.2.2.1.getD f 0).toNat 0).toNat=(f:Int)
   .simp only[b1,b2,decide_true,Bool.not_true,cond_false,Option.bind_some,Bool.and_self]
    exact⟨λ_=>rfl,(λh=>by cases h)⟩
   .simp only[b1,b2,decide_true,decide_false,Bool.not_true,Bool.not_false,cond_false,cond_true,Option.bind_some,Bool.and_false]
    exact⟨(λh=>by cases h),λ_=>⟨_,rfl,by simp⟩⟩
  .simp only[b1,decide_false,Bool.not_false,cond_true,Option.bind_some,Bool.false_and]
   exact⟨(λh=>by cases h),λ_=>⟨_,rfl,by simp⟩⟩
 .show ∃r,(if 0=0 then _ else none)=some r/\_
  rw[if_pos rfl];refine Bd (Post:=fun(z:Option (Int×Int×Int×Int))=>∃r,z=some r/\(decide (r.1=0)=IG c)) (st:=λi=>(i:Int)) (n:=c.2.1.length) (p:=λf=>(List.range c.2.1.length).all λg=>bif mt c f g then(List.range c.2.1.length).all λh=>D4 c f g h else true) (Q:=fun(r:Int×Int×Int×Int)=>r.1≠0) (o:=.brk 2 (c.2.1.length:Int)) (λf e=>?_) (by simp) (λy=>by simp) (λhv=>?_) (λhv r F=>?_)
  .simp only[Ad,e,decide_true,cond_true]
   refine Bd (Post:=fun(z:Option (LO Int (Int×Int×Int×Int)))=>(((List.range c.2.1.length).all λg=>bif mt c f g then(List.range c.2.1.length).all λh=>D4 c f g h else true)=true->z=some (.next ((f+1:Nat):Int)))/\(((List.range c.2.1.length).all λg=>bif mt c f g then(List.range c.2.1.length).all λh=>D4 c f g h else true)=false->∃r,z=some (.ret r)/\r.1≠0))
    (st:=λi=>(i:Int)) (n:=c.2.1.length) (p:=λg=>bif mt c f g then(List.range c.2.1.length).all λh=>D4 c f g h else true) (Q:=fun(r:LO Int (Int×Int×Int×Int))=>∃r',r=.ret r'/\r'.1≠0) (o:=.brk 4 (c.2.1.length:Int)) (λg A=>?_) (by simp) (λy=>by simp) (λB=>?_) (λB r F=>?_)
   .simp only[Ad,A,decide_true,cond_true,p81 h (Aa e) (Aa A),tNC,Option.bind_some]
    rw[Aj (show(0:Int)<=(g:Int)+1 by omega) (by omega)]
    cases hm:mt c f g with
    |false=>
     have:=h.neg f g e A hm;simp only[this,show((-1:Int)<0) by decide,decide_true,cond_true,cond_false]
     exact⟨λ_=>rfl,(λh=>by cases h)⟩
    |true=>
     obtain⟨q1,q2,q3,q4⟩:=h.pos f g e A hm;simp only[show ¬ (T c f g<0) by omega,decide_false,cond_false,cond_true]
     refine Bd (Post:=fun(z:Option (LO Int (LO Int (Int×Int×Int×Int))))=>(((List.range c.2.1.length).all λh=>D4 c f g h)=true->z=some (.next ((g+1:Nat):Int)))/\(((List.range c.2.1.length).all λh=>D4 c f g h)=false->∃r,z=some (.ret r)/\∃r',r=.ret r'/\r'.1≠0))
      (st:=λi=>(i:Int)) (n:=c.2.1.length) (p:=λh=>D4 c f g h) (Q:=fun(r:LO Int (LO Int (Int×Int×Int×Int)))=>∃r',r=.ret (.ret r')/\r'.1≠0) (o:=.brk 6 (c.2.1.length:Int)) (λk U=>?_) (by simp) (λy=>by simp) (λB=>?_) (λB r F=>?_)
     .simp only[Ad,U,decide_true,cond_true,p81 h (Aa A) (Aa U),tNC,Option.bind_some]
      rw[Aj (show(0:Int)<=(k:Int)+1 by omega) (by omega)]
      unfold D4;cases O:mt c g k with
      |false=>
       have:=h.neg g k A U O;simp only[this,show ¬ ((0:Int)<=-1) by decide,decide_false,cond_false,Option.bind_some]
       exact⟨λ_=>rfl,(λh=>by cases h)⟩
      |true=>
       obtain⟨w1,w2,w3,w4⟩:=h.pos g k A U O;simp only[w1,decide_true,cond_true,p81 h (Aa e) (Aa A),p81 h ⟨q1,q2⟩ (Aa U),p81 h (Aa e) ⟨w1,w2⟩,tNC,Option.bind_some];by_cases b:T c (T c f g).toNat k=T c f (T c g k).toNat
       .simp only[b,decide_true,Bool.not_true,cond_false]
        exact⟨λ_=>rfl,(λh=>by cases h)⟩
       .simp only[b,decide_false,Bool.not_false,cond_true]
        exact⟨(λh=>by cases h),λ_=>⟨_,rfl,_,rfl,by simp⟩⟩
     .refine⟨λ_=>?_,(λh=>by rw[B]at h;cases h)⟩
      show(if 6=6 then some (LO.next ((g:Int)+1))else none)=_
      rw[if_pos rfl];rfl
     .obtain⟨r',rfl,E⟩:=F
      exact⟨(λh=>by rw[B]at h;cases h),λ_=>⟨_,rfl,r',rfl,E⟩⟩
   .refine⟨λ_=>?_,(λh=>by rw[B]at h;cases h)⟩
    show(if 4=4 then some (LO.next (IntKind.wrap .i64 ((f:Int)+1)))else none)=_
    rw[if_pos rfl,Aj (by omega) (by omega)];rfl
   .obtain⟨r',rfl,E⟩:=F
    exact⟨(λh=>by rw[B]at h;cases h),λ_=>⟨r',rfl,E⟩⟩
  .exact⟨_,rfl,by unfold IG;rw[Z,hv];rfl⟩
  .exact⟨r,rfl,by unfold IG;rw[Z,hv];simpa using F⟩
 .exact⟨r,rfl,by unfold IG;rw[Z];simpa using F⟩
open Go Go.Ve
theorem p89(h:Sh c):∃r,G89 c=some r/\(decide (r.1=0)=IG c):=by
 have hh:=h.hd;obtain⟨a1,a2,a3,a4,a5,a6,a7,a8⟩:=hh;unfold G89;refine Bd (Post:=fun(z:Option (Int×Int×Int×Int))=>∃r,z=some r/\(decide (r.1=0)=IG c)) (st:=λi=>(i:Int)) (n:=c.2.1.length) (p:=JE c) (Q:=fun(r:Int×Int×Int×Int)=>r.1≠0) (o:=.brk 0 (c.2.1.length:Int)) (λf B=>?_) (by simp) (λy=>by simp) (λhu=>?_) (λhu r O=>?_)
 .have hf1:=h.fr f B
  have U:=h.to f B;have hi1:=h.id _ hf1.1 hf1.2;have hi2:=h.id _ U.1 U.2;have hfi:0<=c.2.1.getD f 0/\c.2.1.getD f 0<(c.2.2.2.1.length:Int):=by omega
  have hti:0<=c.2.2.1.getD f 0/\c.2.2.1.getD f 0<(c.2.2.2.1.length:Int):=by omega
  have A:f<c.2.2.1.length:=by omega
  have e:f<c.2.2.2.2.length:=by omega
  have hi1':0<=c.2.2.2.1.getD (c.2.1.getD f 0).toNat 0/\c.2.2.2.1.getD (c.2.1.getD f 0).toNat 0<(c.2.2.2.2.length:Int):=by rw[a6];exact hi1
  have hr1:=h.row _ (inN hi1);have E:f<(c.2.2.2.2.getD (c.2.2.2.1.getD (c.2.1.getD f 0).toNat 0).toNat []).length:=by rw[hr1];exact B
  have Z:0<=c.2.2.2.1.getD (c.2.2.1.getD f 0).toNat 0/\c.2.2.2.1.getD (c.2.2.1.getD f 0).toNat 0<((c.2.2.2.2.getD f []).length:Int):=by rw[h.row f B];exact hi2
  simp only[Ad,B,A,e,decide_true,cond_true,Aa B,Aa A,Aa e,if_true,tNC,and_self,hfi,hti,hi1',Z,Aa E,E,Option.bind_some];rw[Aj (by omega) (by omega)]
  show(JE c f=true->_)/\_;unfold JE idn T;by_cases b1:(c.2.2.2.2.getD (c.2.2.2.1.getD (c.2.1.getD f 0).toNat 0).toNat []).getD f 0=(f:Int)
  .by_cases b2:(c.2.2.2.2.getD f []).getD (c.2.2.2.1.getD (c.2.2.1.getD f 0).toNat 0).toNat 0=(f:Int)
   .simp only[b1,b2,decide_true,Bool.not_true,cond_false,Option.bind_some,Bool.and_self]
    exact⟨λ_=>rfl,(λh=>by cases h)⟩
   .simp only[b1,b2,decide_true,decide_false,Bool.not_true,Bool.not_false,cond_false,cond_true,Option.bind_some,Bool.and_false]
    exact⟨(λh=>by cases h),λ_=>⟨_,rfl,by simp⟩⟩
  .simp only[b1,decide_false,Bool.not_false,cond_true,Option.bind_some,Bool.false_and]
   exact⟨(λh=>by cases h),λ_=>⟨_,rfl,by simp⟩⟩
 .show ∃r,(if 0=0 then _ else none)=some r/\_
  rw[if_pos rfl];refine Bd (Post:=fun(z:Option (Int×Int×Int×Int))=>∃r,z=some r/\(decide (r.1=0)=IG c)) (st:=λi=>(i:Int)) (n:=c.2.1.length) (p:=λf=>(List.range c.2.1.length).all λg=>bif mt c f g then(List.range c.2.1.length).all λh=>D4 c f g h else true) (Q:=fun(r:Int×Int×Int×Int)=>r.1≠0) (o:=.brk 2 (c.2.1.length:Int)) (λf B=>?_) (by simp) (λy=>by simp) (λhv=>?_) (λhv r O=>?_)
  .simp only[Ad,B,decide_true,cond_true]
   refine Bd (Post:=fun(z:Option (LO Int (Int×Int×Int×Int)))=>(((List.range c.2.1.length).all λg=>bif mt c f g then(List.range c.2.1.length).all λh=>D4 c f g h else true)=true->z=some (.next ((f+1:Nat):Int)))/\(((List.range c.2.1.length).all λg=>bif mt c f g then(List.range c.2.1.length).all λh=>D4 c f g h else true)=false->∃r,z=some (.ret r)/\r.1≠0))
    (st:=λi=>(i:Int)) (n:=c.2.1.length) (p:=λg=>bif mt c f g then(List.range c.2.1.length).all λh=>D4 c f g h else true) (Q:=fun(r:LO Int (Int×Int×Int×Int))=>∃r',r=.ret r'/\r'.1≠0) (o:=.brk 4 (c.2.1.length:Int)) (λg hg=>?_) (by simp) (λy=>by simp) (λF=>?_) (λF r O=>?_)
   .have A:f<c.2.2.1.length:=by omega
    have hg3:g<c.2.2.1.length:=by omega
    have e:f<c.2.2.2.2.length:=by omega
    have hg6:g<c.2.2.2.2.length:=by omega
    simp only[Ad,hg,A,decide_true,cond_true,Aa hg,Aa A,and_self,if_true,tNC];rw[Aj (show(0:Int)<=(g:Int)+1 by omega) (by omega)]
    show(((bif mt c f g then _ else true)=true)->(bif !mt c f g then _ else _)=_)/\(_->∃r,(bif !mt c f g then _ else _)=_/\_);cases hm:mt c f g with
    |false=>exact⟨λ_=>rfl,(λh=>by cases h)⟩
    |true=>
     obtain⟨q1,q2,q3,q4⟩:=h.pos f g B hg hm;simp only[Bool.not_true,cond_false,cond_true]
     refine Bd (Post:=fun(z:Option (LO Int (LO Int (Int×Int×Int×Int))))=>(((List.range c.2.1.length).all λh=>D4 c f g h)=true->z=some (.next ((g+1:Nat):Int)))/\(((List.range c.2.1.length).all λh=>D4 c f g h)=false->∃r,z=some (.ret r)/\∃r',r=.ret r'/\r'.1≠0))
      (st:=λi=>(i:Int)) (n:=c.2.1.length) (p:=λh=>D4 c f g h) (Q:=fun(r:LO Int (LO Int (Int×Int×Int×Int)))=>∃r',r=.ret (.ret r')/\r'.1≠0) (o:=.brk 6 (c.2.1.length:Int)) (λk hk=>?_) (by simp) (λy=>by simp) (λF=>?_) (λF r O=>?_)
     .have e1:(c.2.2.2.2.getD f []).length=c.2.1.length:=h.row f B
      have e2:(c.2.2.2.2.getD g []).length=c.2.1.length:=h.row g hg;have e3:(c.2.2.2.2.getD (T c f g).toNat []).length=c.2.1.length:=h.row _ (inN ⟨q1,q2⟩);have hgf:g<(c.2.2.2.2.getD f []).length:=by omega
      have Y:k<(c.2.2.2.2.getD g []).length:=by omega
      have hkt:k<(c.2.2.2.2.getD (T c f g).toNat []).length:=by omega
      have ht:0<=T c f g/\T c f g<(c.2.2.2.2.length:Int):=by omega
      simp only[Ad,hk,hg3,decide_true,cond_true,Aa hk,Aa hg3,Aa e,Aa hg6,Aa hgf,Aa Y,e,hg6,hgf,Y,and_self,if_true,tNC];rw[Aj (show(0:Int)<=(k:Int)+1 by omega) (by omega)]
      have eM:decide (c.2.2.1.getD g 0=c.2.1.getD k 0)=mt c g k:=rfl;have eT:∀a b,(c.2.2.2.2.getD a []).getD b 0=T c a b:=λ_ _=>rfl
      have W:(k:Int)<((c.2.2.2.2.getD (T c f g).toNat []).length:Int):=by omega
      simp only[eM,eT,W,and_self,if_true];unfold D4;cases hm2:mt c g k with
      |false=>exact⟨λ_=>rfl,(λh=>by cases h)⟩
      |true=>
       obtain⟨w1,w2,w3,w4⟩:=h.pos g k hg hk hm2;have hw':0<=T c g k/\T c g k<((c.2.2.2.2.getD f []).length:Int):=by omega
       simp only[cond_true,ht,Aa hkt,hw',and_self,if_true,Option.bind_some];by_cases b:T c (T c f g).toNat k=T c f (T c g k).toNat
       .simp only[b,decide_true,Bool.not_true,cond_false]
        exact⟨λ_=>rfl,(λh=>by cases h)⟩
       .simp only[b,decide_false,Bool.not_false,cond_true]
        exact⟨(λh=>by cases h),λ_=>⟨_,rfl,_,rfl,by simp⟩⟩
     .refine⟨λ_=>?_,(λh=>by rw[F]at h;cases h)⟩
      show(if 6=6 then some (LO.next ((g:Int)+1))else none)=_
      rw[if_pos rfl];rfl
     .obtain⟨r',rfl,J⟩:=O
      exact⟨(λh=>by rw[F]at h;cases h),λ_=>⟨_,rfl,r',rfl,J⟩⟩
   .refine⟨λ_=>?_,(λh=>by rw[F]at h;cases h)⟩
    show(if 4=4 then some (LO.next (IntKind.wrap .i64 ((f:Int)+1)))else none)=_
    rw[if_pos rfl,Aj (by omega) (by omega)];rfl
   .obtain⟨r',rfl,J⟩:=O
    exact⟨(λh=>by rw[F]at h;cases h),λ_=>⟨r',rfl,J⟩⟩
  .exact⟨_,rfl,by unfold IG;rw[hu,hv];rfl⟩
  .exact⟨r,rfl,by unfold IG;rw[hu,hv];simpa using O⟩
 .exact⟨r,rfl,by unfold IG;rw[hu];simpa using O⟩
open Go Go.Ve
def Df(c:Cat):Bool:=DG c&&IG c
def p45(h:okC c):G45 c=some (Df c):=by
 unfold G45;simp only[p88 h,Option.bind_some];unfold Df;cases e:DG c with
 |false=>rfl
 |true=>
  obtain⟨r,A,B⟩:=p89 (Aca e);simp only[A,Option.bind_some,B,Bool.not_true,cond_false,Bool.true_and]
def p52(h:okC c):G52 c=some (Df c):=by
 unfold G52;simp only[p97 h,Option.bind_some];unfold Df;cases e:DG c with
 |false=>rfl
 |true=>
  obtain⟨r,A,B⟩:=p98 (Aca e);simp only[A,Option.bind_some,B,Bool.not_true,cond_false,Bool.true_and]
abbrev Qry:=List Int×List (Int×Int)×List (Int×Int)×List Int
def qHead(c:Cat)(q:Qry):Prop:=q.1.length<=4/\wi c.1 q.1=true/\q.2.1.length<=6/\q.2.2.1.length=q.2.1.length/\q.2.2.2.length<=4/\wi q.1.length q.2.2.2=true
instance(c:Cat)(q:Qry):Decidable (qHead c q):=by unfold qHead;infer_instance
open Go Go.Ve
open Go Go.Ve
end Go.Ve.D


namespace Go.Ve.D
open Go Go.Ve
variable{k:Int}{x:List Int}{i n:Nat}{α:Type}
def HC{x:List α}(d:α)(hi:i<x.length):x.take i++[x.getD i d]=x.take (i+1):=by
 rw[List.take_add_one];simp[hi]
def H2{x:List α}(d:α)(hi:i<x.length):x.getD i d∈x:=by
 rw[gDE,gEE hi];exact List.getElem_mem hi
def mk(x:List Int)(k:Int):List Int:=(List.range x.length).map fun(i:Nat)=>k+(i:Int)
def Ka:(mk x k).length=x.length:=by simp[mk]
def Aa9(hi:i<x.length):(mk x k).getD i 0=k+(i:Int):=by
 simp[mk,hi]
theorem p15(F:0<=k)(E:k<=1152921504606846976)(h:x.length<=1048576):G15 (x,k)=some (k+(x.length:Int),mk x k):=by
 unfold G15;have A:((k,((0:Int),x)):Int×Int×List Int)=(λi:Nat=>(k+(i:Int),((i:Int),(mk x k).take i++x.drop i))) 0:=by simp
 simp only[A];refine AC (v:=.brk 0 (k+(x.length:Int),((x.length:Int),mk x k))) (AL (st:=λi:Nat=>(k+(i:Int),((i:Int),(mk x k).take i++x.drop i))) (n:=x.length) (λi hi=>?_) ?_ (λy=>by simp)) rfl
 .have e:((mk x k).take i++x.drop i).length=x.length:=by simp[Ka];omega
  simp only[e,Ad,hi,decide_true,cond_true,Aa hi,if_true,tNC,and_self];have B:=Jh (x:=mk x k) (y:=x) (i:=i) 0 Ka.symm (by rw[Ka];exact hi)
  rw[Aa9 hi]at B;rw[B,JA (by omega) (by omega),Aj (by omega) (by omega)]
  simp only[Int.natCast_add,Int.add_assoc];rfl
 .have e:((mk x k).take x.length++x.drop x.length)=mk x k:=by
   rw[List.drop_length,List.append_nil];exact List.take_of_length_le (by rw[Ka];exact Nat.le_refl _)
  simp only[e,Ka,Ad,Nat.lt_irrefl,decide_false,cond_false]
theorem p16(B:0<=k)(A:k<=1152921504606846976)(h:x.length<=1048576):G16 (mk x k,k)=some (k+(x.length:Int)):=by
 unfold G16;have e:((k,(0:Int)):Int×Int)=(λi:Nat=>(k+(i:Int),(i:Int))) 0:=by simp
 simp only[e];refine AC (v:=.brk 0 (k+(x.length:Int),(x.length:Int))) (AL (st:=λi:Nat=>(k+(i:Int),(i:Int))) (n:=x.length) (λi hi=>?_) ?_ (λy=>by simp)) rfl
 .simp only[Ka,Ad,hi,decide_true,cond_true,Aa hi,if_true,tNC,and_self,Aa9 hi,Bool.not_true,cond_false]
  rw[JA (by omega) (by omega),Aj (by omega) (by omega)]
  simp only[Int.natCast_add,Int.add_assoc];rfl
 .simp only[Ka,Ad,Nat.lt_irrefl,decide_false,cond_false]
def tot(x:List (List Int))(i:Nat):Nat:=((x.take i).map List.length).sum
def QI{x:List (List Int)}(hi:i<x.length):tot x (i+1)=tot x i+(x.getD i []).length:=by
 unfold tot;rw[<-HC [] hi];simp
def WG{x:List (List Int)}(e:∀y∈x,y.length<=1048576):∀i,i<=x.length->tot x i<=i*1048576
 |0,_=>by simp[tot]
 |i+1,hi=>by
  rw[QI (by omega)]
  have:=WG e i (by omega)
  have:=e _ (H2 [] (show i<x.length by omega))
  omega
def mks(x:List (List Int))(k:Int):List (List Int):=(List.range x.length).map fun(i:Nat)=>mk (x.getD i []) (k+(tot x i:Int))
def Hp{x:List (List Int)}:(mks x k).length=x.length:=by simp[mks]
def AcF{x:List (List Int)}(hi:i<x.length):(mks x k).getD i []=mk (x.getD i []) (k+(tot x i:Int)):=by
 simp[mks,hi]
theorem p23{x:List (List Int)}(W:0<=k)(U:k<=1125899906842624)(h:x.length<=1048576)(B:∀y∈x,y.length<=1048576):G23 (x,k)=some (k+(tot x x.length:Int),mks x k):=by
 unfold G23;have A:((k,((0:Int),x)):Int×Int×List (List Int))=(λi:Nat=>(k+(tot x i:Int),((i:Int),(mks x k).take i++x.drop i))) 0:=by simp[tot]
 simp only[A];refine AC (v:=.brk 0 (k+(tot x x.length:Int),((x.length:Int),mks x k))) (AL (st:=λi:Nat=>(k+(tot x i:Int),((i:Int),(mks x k).take i++x.drop i))) (n:=x.length) (λi hi=>?_) ?_ (λy=>by simp)) rfl
 .have e:((mks x k).take i++x.drop i).length=x.length:=by simp[Hp];omega
  have J:((mks x k).take i++x.drop i).getD i []=x.getD i []:=by
   simp only[gDE];rw[gAR (by simp[Hp];omega)]
   simp[Hp,Nat.min_eq_left (Nat.le_of_lt hi)]
  have O:=WG B i (Nat.le_of_lt hi);have F:=B _ (H2 [] hi);simp only[e,J,Ad,hi,decide_true,cond_true,Aa hi,if_true,tNC,and_self,p15 (x:=x.getD i []) (k:=k+(tot x i:Int)) (by omega) (by omega) F,Option.bind_some]
  have E:=Jh (x:=mks x k) (y:=x) (i:=i) [] Hp.symm (by rw[Hp];exact hi)
  rw[AcF hi]at E;rw[E,Aj (by omega) (by omega),QI hi]
  simp only[Int.natCast_add,Int.add_assoc];rfl
 .have e:((mks x k).take x.length++x.drop x.length)=mks x k:=by
   rw[List.drop_length,List.append_nil];exact List.take_of_length_le (by rw[Hp];exact Nat.le_refl _)
  simp only[e,Hp,Ad,Nat.lt_irrefl,decide_false,cond_false]
def mh15(e:0<=k)(A:k<=1125899906842624)(h:x.length<=1048576):∃k' y,G15 (x,k)=some (k',y)/\0<=k'/\k'<=k+2199023255552/\G16 (y,k)=some k':=
 ⟨_,_,p15 e (by omega) h,by omega,by omega,p16 e (by omega) h⟩
def mh23{x:List (List Int)}(B:0<=k)(A:k<=1125899906842624)(h:x.length<=1048576)(e:∀y∈x,y.length<=1048576):∃k' y,G23 (x,k)=some (k',y)/\0<=k'/\k'<=k+2199023255552/\True:=by
 have:=WG e x.length (Nat.le_refl _);exact⟨_,_,p23 B A h e,by omega,by omega,trivial⟩
def Ig(n:Nat):List Int:=(List.range n).map fun(i:Nat)=>(i:Int)
def BW:(Ig n).length=n:=by simp[Ig]
def OC:Ig (n+1)=Ig n++[(n:Int)]:=by simp[Ig,List.range_succ]
def Jo(hi:i<n):(Ig n).getD i 0=(i:Int):=by simp[Ig,hi]
end Go.Ve.D


namespace Go.Ve.D
open Go Go.Ve
variable{c:Cat}{w x:List Int}
def Jq(h:Df c=true):Sh c:=by
 unfold Df at h;rw[bAE]at h;exact Aca h.1
def Ys{α R:Type}{f:(Int×List α)->Option (LO (Int×List α) R)}{n:Nat}{q:Nat->Bool}{g:Nat->α}{id:Nat}
  (E:∀i,i<n->∀e:List α,e.length<=i->f ((i:Int),e)=some (.next (((i+1:Nat):Int),bif q i then e++[g i]else e)))
  (B:∀e:List α,f ((n:Int),e)=some (.brk id ((n:Int),e))):
  Ar f ((0:Int),[])=some (.brk id ((n:Int),((List.range n).filter q).map g)):=by
 have key:∀i,(((List.range i).filter q).map g).length<=i:=λi=>by
  rw[List.length_map];have:=List.length_filter_le q (List.range i);rwa [List.length_range]at this
 refine AL (st:=λi:Nat=>((i:Int),((List.range i).filter q).map g)) (n:=n) (λi hi=>?_) (B _) (λy=>by simp)
 rw[E i hi _ (key i),List.range_succ,List.filter_append,List.map_append]
 congr 3
 cases A:q i<;>simp[A]
def fT(c:Cat)(f:Nat):Int:=c.2.1.getD f 0
def tT(c:Cat)(f:Nat):Int:=c.2.2.1.getD f 0
def ar(c:Cat):Nat:=c.2.1.length
def Bk(c:Cat)(x y:Int):List Int:=((List.range (ar c)).filter λf=>decide (fT c f=x)&&decide (tT c f=y)).map fun(f:Nat)=>(f:Int)
theorem p72(B:c.2.1.length<=1048576)(A:c.2.2.1.length=c.2.1.length)(x y:Int):G72 (c,(x,y))=some (Bk c x y):=by
 obtain⟨c1,c2,c3,c4,c5⟩:=c;unfold G72;simp only at B A⊢;refine AC (v:=.brk 0 ((c2.length:Int),Bk (c1,(c2,(c3,(c4,c5)))) x y)) (Ys (λi hi e E=>?_) λe=>?_) rfl
 .simp only[Ad,hi,decide_true,cond_true,Aa hi,if_true,and_self,tNC,List.length_cons,List.length_nil,A]
  rw[Aj (by omega) (by omega),if_pos (show e.length+(0+1)<=17592186044416 by omega)]
  show Option.bind (bif decide (c2.getD i 0=x)then some (decide (c3.getD i 0=y))else some false) _=_;show _=some (LO.next (((i+1:Nat):Int),bif decide (c2.getD i 0=x)&&decide (c3.getD i 0=y)then e++[(i:Int)]else e))
  cases decide (c2.getD i 0=x)<;>cases decide (c3.getD i 0=y)<;>rfl
 .simp only[Ad,Nat.lt_irrefl,decide_false,cond_false]
def p78(B:c.2.1.length<=1048576)(A:c.2.2.1.length=c.2.1.length)(x y:Int):G78 (c,(x,y))=some (Bk c x y):=by
 have e:G78=G72:=rfl;rw[e];exact p72 B A x y
theorem p73(h:x.length<=1048576)(a:Int):G73 (x,a)=some (x.contains a):=by
 unfold G73;simp only
 have e:x.contains a= !((List.range x.length).all λi=>!decide (x.getD i 0=a)):=by
  rw[KP (0:Int) (λb=>!decide (b=a)) x,Bool.eq_iff_iff]
  simp[List.contains_eq_mem]
 refine AC (Bt (st:=λi:Nat=>(i:Int)) (n:=x.length) (p:=λi=>!decide (x.getD i 0=a)) (r:=true) (o:=.brk 0 (x.length:Int)) (λi hi=>?_) ?_ (λy=>by simp)) ?_
 .simp only[Ad,hi,decide_true,cond_true,Aa hi,if_true,and_self,tNC]
  rw[Aj (by omega) (by omega)]
  cases decide (x.getD i 0=a)<;>rfl
 .simp only[Ad,Nat.lt_irrefl,decide_false,cond_false]
 .rw[e]
  cases (List.range x.length).all λi=>!decide (x.getD i 0=a)<;>rfl
def ZJ(x:List Int):Bool:=(List.range (x.length-1)).all λi=>!decide (x.getD (i+1) 0<=x.getD i 0)
theorem p172(h:x.length<=1048576):G172 x=some (ZJ x):=by
 unfold G172 ZJ;by_cases B:x.length=0
 .rw[A1]
  have e:decide ((1:Int)<((x.length:Nat):Int))=false:=by simp;omega
  simp only[e,cond_false,Option.bind_some];rw[B];rfl
 refine AC (Bt (st:=λi:Nat=>((i+1:Nat):Int)) (n:=x.length-1) (p:=λi=>!decide (x.getD (i+1) 0<=x.getD i 0)) (r:=false) (o:=.brk 0 (x.length:Int)) (λi hi=>?_) ?_ (λy=>by simp)) ?_
 .have A:i+1<x.length:=by omega
  have F:IntKind.wrap .i64 (((i+1:Nat):Int)-1)=((i:Nat):Int):=by rw[Aj (by omega) (by omega)];omega
  have E:IntKind.wrap .i64 (((i+1:Nat):Int)+1)=((i+1+1:Nat):Int):=by rw[Aj (by omega) (by omega)];omega
  simp only[Ad,A,decide_true,cond_true,Aa A,F,E,Aa (show i<x.length by omega),if_true,and_self,tNC]
  cases decide (x.getD (i+1) 0<=x.getD i 0)<;>rfl
 .have e:decide (((x.length-1+1:Nat):Int)<((x.length:Nat):Int))=false:=by simp;omega
  simp only[e,cond_false]
  congr 2
  omega
 .cases (List.range (x.length-1)).all λi=>!decide (x.getD (i+1) 0<=x.getD i 0)<;>rfl
theorem p132(h:x.length<=1048576):G132 x=some (ZJ x):=by
 unfold G132 ZJ;by_cases B:x.length=0
 .rw[A1]
  have e:decide ((1:Int)<((x.length:Nat):Int))=false:=by simp;omega
  simp only[e,cond_false,Option.bind_some];rw[B];rfl
 refine AC (Bt (st:=λi:Nat=>((i+1:Nat):Int)) (n:=x.length-1) (p:=λi=>!decide (x.getD (i+1) 0<=x.getD i 0)) (r:=false) (o:=.brk 0 (x.length:Int)) (λi hi=>?_) ?_ (λy=>by simp)) ?_
 .have A:i+1<x.length:=by omega
  have F:IntKind.wrap .i64 (((i+1:Nat):Int)-1)=((i:Nat):Int):=by rw[Aj (by omega) (by omega)];omega
  have E:IntKind.wrap .i64 (((i+1:Nat):Int)+1)=((i+1+1:Nat):Int):=by rw[Aj (by omega) (by omega)];omega
  simp only[Ad,A,decide_true,cond_true,Aa A,F,E,Aa (show i<x.length by omega),if_true,and_self,tNC]
  cases decide (x.getD (i+1) 0<=x.getD i 0)<;>rfl
 .have e:decide (((x.length-1+1:Nat):Int)<((x.length:Nat):Int))=false:=by simp;omega
  simp only[e,cond_false]
  congr 2
  omega
 .cases (List.range (x.length-1)).all λi=>!decide (x.getD (i+1) 0<=x.getD i 0)<;>rfl
def YN(c:Cat)(w:List Int):Int:=bif !Df c then 1 else bif !wi (ar c) w then 2 else 0
def p171(h:okC c)(e:w.length<=1048576):G171 (c,w)=some (YN c w):=by
 unfold G171 YN ar;simp only[Prod.eta,p45 h,Option.bind_some,p125 e];cases Df c with
 |false=>rfl
 |true=>
  simp only[Bool.not_true,cond_false];cases wi (c.2.1.length:Int) w<;>rfl
theorem p130(h:okC c)(e:w.length<=1048576):G130 (c,w)=some (YN c w):=by
 unfold G130 YN ar;have A:((c.2.1.length:Nat):Int)<=1048576:=by have:=h.1;omega
 simp only[p52 h,Option.bind_some,p99,p131 (n:=(c.2.1.length:Int)) ⟨by omega,by omega⟩ e]
 cases Df c with
 |false=>rfl
 |true=>
  simp only[Bool.not_true,cond_false];cases wi (c.2.1.length:Int) w<;>rfl
def QV(c:Cat)(w:List Int):Int:=bif decide (YN c w=0)&& !ZJ w then 5 else YN c w
def p126(h:okC c)(e:w.length<=1048576):G126 (c,w)=some (QV c w):=by
 unfold G126 QV;simp only[Prod.eta,p171 h e,Option.bind_some,p172 e];cases decide (YN c w=0)<;>cases ZJ w<;>rfl
def mkB(c:Cat)(w:List Int):List Bool:=(List.range (ar c)).map fun(f:Nat)=>w.contains (f:Int)
def DR:(mkB c w).length=ar c:=by simp[mkB]
def DS{f:Nat}(e:f<ar c):(mkB c w).getD f false=w.contains (f:Int):=by simp[mkB,e]
theorem p55(h:okC c)(hw:w.length<=1048576)(B:wi (ar c) w=true):G55 (c,w)=some (mkB c w):=by
 unfold G55;have hb:c.2.1.length<=1048576:=h.1;simp only[p99,Option.bind_some];rw[if_pos ⟨by omega,by omega,by omega,by omega⟩]
 let M:Nat->List Bool:=λi=>(List.range (ar c)).map fun(f:Nat)=>(w.take i).contains (f:Int)
 have E:∀i,(M i).length=ar c:=λi=>by simp[M]
 have Z:List.replicate ((ar c:Nat):Int).toNat false=M 0:=by
  show _=(List.range (ar c)).map fun(f:Nat)=>([]:List Int).contains (f:Int)
  apply List.ext_getElem?;intro j;by_cases hj:j<ar c
  .simp[hj]
  .simp[hj]
 have U:M w.length=mkB c w:=by
  show(List.range (ar c)).map _=_;rw[List.take_length];rfl
 show Option.bind (Ar _ ((0:Int),List.replicate ((ar c:Nat):Int).toNat false)) _=_;rw[Z];refine AC (v:=.brk 0 ((w.length:Int),M w.length)) (AL (st:=λi:Nat=>((i:Int),M i)) (n:=w.length) (λi hi=>?_) ?_ (λy=>by simp)) ?_
 .obtain⟨g1,g2⟩:=Hx B hi
  have O:0<=w.getD i 0/\w.getD i 0<((ar c:Nat):Int):=⟨g1,g2⟩;simp only[Ad,hi,decide_true,cond_true,Aa hi,if_true,and_self,tNC,E,O];rw[Aj (by omega) (by omega)]
  have e:(M i).set (w.getD i 0).toNat true=M (i+1):=by
   apply List.ext_getElem?;intro j;have F:(M i).length=ar c:=E i;by_cases hj:j<ar c
   .have J:w.take (i+1)=w.take i++[w.getD i 0]:=by
     rw[List.take_add_one,gDE,gEE hi];rfl
    have W:(M (i+1))[j]? =some ((w.take i++[w.getD i 0]).contains (j:Int)):=by
     show((List.range (ar c)).map fun(f:Nat)=>(w.take (i+1)).contains (f:Int))[j]? =_
     rw[J];simp[hj]
    have Y:(M i)[j]? =some ((w.take i).contains (j:Int)):=by
     show((List.range (ar c)).map fun(f:Nat)=>(w.take i).contains (f:Int))[j]? =_
     simp[hj]
    rw[W];by_cases A:(w.getD i 0).toNat=j
    .have:(j:Int)=w.getD i 0:=by omega
     rw[A,List.getElem?_set_self (by rw[F];exact hj),this]
     simp
    .have:¬ (j:Int)=w.getD i 0:=by omega
     rw[List.getElem?_set_ne A,Y]
     congr 1
     rw[Bool.eq_iff_iff];simp only[List.contains_eq_mem,decide_eq_true_eq,List.mem_append,List.mem_singleton,this,or_false]
   .rw[List.getElem?_eq_none (by rw[List.length_set,F];omega),List.getElem?_eq_none (by rw[E];omega)]
  rw[e];rfl
 .simp only[Ad,Nat.lt_irrefl,decide_false,cond_false]
 .rw[U];rfl
end Go.Ve.D


namespace Go.Ve.D
open Go Go.Ve
variable{c:Cat}{w:List Int}{m n:Nat}{p q:Nat->Bool}
def XN(h:Sh c){f g:Int}(A:0<=f/\f<(c.2.1.length:Int))(e:0<=g/\g<(c.2.1.length:Int)):G128 (c,(f,g))=some (T c f.toNat g.toNat):=p81 h A e
def Abg(c:Cat)(f:Nat):Bool:=decide (c.2.2.2.1.getD (fT c f).toNat 0=(f:Int))
def p53(h:Sh c){f:Nat}(e:f<ar c):G53 (c,(f:Int))=some (Abg c f):=by
 have A:=h.hd;obtain⟨a1,a2,a3,a4,a5,a6,a7,a8⟩:=A;obtain⟨J,F⟩:=h.fr f e;unfold G53 Abg;have E:(0:Int)<=(f:Int)/\(f:Int)<((c.2.1.length:Nat):Int):=Aa e;have B:(0:Int)<=c.2.1.getD f 0/\c.2.1.getD f 0<((c.2.2.2.1.length:Nat):Int):=⟨J,by rw[a7];exact F⟩
 simp only[E,B,and_self,if_true,tNC];rfl
theorem any_w(B:wi m w=true)(Q:Int->Bool):w.any Q=(List.range m).any λf=>w.contains (f:Int)&&Q (f:Int):=by
 rw[Bool.eq_iff_iff,List.any_eq_true,List.any_eq_true];constructor
 .rintro ⟨a,A,E⟩
  obtain⟨J,F⟩:=IJ.1 (aET.1 B a A);have e:((a.toNat:Nat):Int)=a:=by omega
  refine⟨a.toNat,List.mem_range.2 (by omega),?_⟩
  rw[e,bAE];exact⟨by simpa using A,E⟩
 .rintro ⟨f,_,h⟩
  rw[bAE]at h;exact⟨(f:Int),by simpa using h.1,h.2⟩
def AbH{Q:Int->Bool}:(((List.range m).filter q).map fun(f:Nat)=>(f:Int)).any Q=(List.range m).any λf=>q f&&Q (f:Int):=by
 rw[List.any_map,List.any_filter];rfl
def Ws(e:wi m w=true){i:Nat}(hi:i<w.length):∃f:Nat,f<m/\w.getD i 0=(f:Int):=by
 obtain⟨B,A⟩:=Hx e hi;exact⟨(w.getD i 0).toNat,by omega,by omega⟩
def Mk(h:∀i,i<n->p i=q i):(List.range n).all p=(List.range n).all q:=by
 rw[Bool.eq_iff_iff,aET,aET];exact⟨λH i hi=>by rw[<-h i (List.mem_range.1 hi)];exact H i hi,λH i hi=>by rw[h i (List.mem_range.1 hi)];exact H i hi⟩
def Hc(h:∀i,i<n->p i=q i):(List.range n).any p=(List.range n).any q:=by
 rw[Bool.eq_iff_iff,List.any_eq_true,List.any_eq_true];exact⟨fun⟨i,hi,H⟩=>⟨i,hi,by rw[<-h i (List.mem_range.1 hi)];exact H⟩,fun⟨i,hi,H⟩=>⟨i,hi,by rw[h i (List.mem_range.1 hi)];exact H⟩⟩
theorem Adh{α:Type}(d:α)(q:α->Bool)(x:List α):(List.range x.length).all (λi=>!q (x.getD i d))= !x.any q:=by
 rw[KP d (λa=>!q a) x]
 induction x with
 |nil=>rfl
 |cons a x e=>rw[List.all_cons,List.any_cons,e];cases q a<;>rfl
def Qg(c:Cat)(w:List Int):Bool:=(List.range (ar c)).all λf=>!Abg c f||w.contains (f:Int)
def DY(c:Cat)(w:List Int):Bool:=(List.range w.length).all λi=>(List.range w.length).all λj=>!decide (0<=T c (w.getD i 0).toNat (w.getD j 0).toNat)||w.contains (T c (w.getD i 0).toNat (w.getD j 0).toNat)
theorem p133(h:Sh c)(hw:w.length<=1048576)(F:wi (ar c) w=true):∃r,G133 (c,(w,mkB c w))=some r/\r.2.2= !(Qg c w&&DY c w):=by
 have hm:ar c<=40:=h.hd.2.1;unfold G133;simp only;refine Bd (st:=λi:Nat=>(i:Int)) (n:=ar c) (p:=λf=>!Abg c f||w.contains (f:Int)) (Q:=λr:Int×Int×Bool=>r.2.2=true) (o:=.brk 0 (ar c:Int)) (Post:=λo:Option (Int×Int×Bool)=>∃r,o=some r/\r.2.2= !(Qg c w&&DY c w)) (λf B=>?_) ?_ (λy=>by simp) (λA=>?_) (λA r J=>?_)
 .show _/\_
  have e:decide ((f:Int)<((c.2.1.length:Nat):Int))=true:=by rw[Ad];exact dT B
  simp only[e,cond_true,p53 h B,Option.bind_some,DR,Aa B,and_self,if_true,tNC,DS B];rw[Aj (by omega) (by omega)]
  cases Abg c f<;>cases w.contains (f:Int)<;>simp<;>exact⟨_,_,rfl,rfl⟩
 .have e:decide (((ar c:Nat):Int)<((c.2.1.length:Nat):Int))=false:=by rw[Ad];exact dF (Nat.lt_irrefl _)
  simp only[e,cond_false]
 .show ∃r,(if 0=0 then _ else none)=some r/\_
  rw[if_pos rfl];have h1:Qg c w=true:=A;rw[h1,Bool.true_and];refine Bd (st:=λi:Nat=>(i:Int)) (n:=w.length) (p:=λi=>(List.range w.length).all λj=>!decide (0<=T c (w.getD i 0).toNat (w.getD j 0).toNat)||w.contains (T c (w.getD i 0).toNat (w.getD j 0).toNat)) (Q:=λr:Int×Int×Bool=>r.2.2=true) (o:=.brk 2 (w.length:Int)) (Post:=λo:Option (Int×Int×Bool)=>∃r,o=some r/\r.2.2= !DY c w) (λi hi=>?_) ?_ (λy=>by simp) (λA=>?_) (λA r J=>?_)
  .have e:decide ((i:Int)<((w.length:Nat):Int))=true:=by rw[Ad];exact dT hi
   simp only[e,cond_true,Aa hi,and_self,if_true,tNC]
   refine Bd (st:=λi:Nat=>(i:Int)) (n:=w.length) (p:=λj=>!decide (0<=T c (w.getD i 0).toNat (w.getD j 0).toNat)||w.contains (T c (w.getD i 0).toNat (w.getD j 0).toNat)) (Q:=λr:LO Int (Int×Int×Bool)=>∃r',r=.ret r'/\r'.2.2=true) (o:=.brk 4 (w.length:Int))
    (Post:=λo:Option (LO Int (Int×Int×Bool))=>(((List.range w.length).all λj=>!decide (0<=T c (w.getD i 0).toNat (w.getD j 0).toNat)||w.contains (T c (w.getD i 0).toNat (w.getD j 0).toNat))=true->o=some (.next ((i+1:Nat):Int)))/\(((List.range w.length).all λj=>!decide (0<=T c (w.getD i 0).toNat (w.getD j 0).toNat)||w.contains (T c (w.getD i 0).toNat (w.getD j 0).toNat))=false->∃r,o=some (.ret r)/\r.2.2=true)) (λj hj=>?_) ?_ (λy=>by simp) (λA=>?_) (λA r J=>?_)
   .obtain⟨f,B,ef⟩:=Ws F hi
    obtain⟨g,W,eg⟩:=Ws F hj;have e:decide ((j:Int)<((w.length:Nat):Int))=true:=by rw[Ad];exact dT hj
    simp only[e,cond_true,Aa hj,and_self,if_true,tNC,ef,eg,p81 h (Aa B) (Aa W),Option.bind_some,DR];rw[Aj (by omega) (by omega)]
    by_cases Z:0<=T c f g
    .have E:mt c f g=true:=by
      cases E:mt c f g with
      |true=>rfl
      |false=>rw[h.neg f g B W E]at Z;omega
     obtain⟨t1,t2,_⟩:=h.pos f g B W E;obtain⟨k,hk⟩:∃k:Nat,T c f g=(k:Int):=⟨(T c f g).toNat,by omega⟩
     have U:k<ar c:=by show k<c.2.1.length;omega
     simp only[hk,Aa U,and_self,if_true,tNC,DS U];simp only[decide_true,cond_true,Option.bind_some,Bool.not_true,Bool.false_or];refine⟨λY=>?_,λY=>?_⟩
     .rw[Y];rfl
     .rw[Y];exact⟨_,rfl,_,rfl,rfl⟩
    .simp only[Z,decide_false,cond_false,Option.bind_some]
     simp
   .have e:decide (((w.length:Nat):Int)<((w.length:Nat):Int))=false:=by simp
    simp only[e,cond_false]
   .refine⟨λ_=>?_,(λO=>by rw[A]at O;cases O)⟩
    show(if 4=4 then _ else none)=_
    rw[if_pos rfl,Aj (by omega) (by omega)]
    rfl
   .refine⟨(λO=>by rw[A]at O;cases O),λ_=>?_⟩
    obtain⟨r',rfl,h'⟩:=J;exact⟨r',rfl,h'⟩
  .have e:decide (((w.length:Nat):Int)<((w.length:Nat):Int))=false:=by simp
   simp only[e,cond_false]
  .exact⟨_,rfl,by rw[show DY c w=true from A];rfl⟩
  .exact⟨r,rfl,by rw[J,show DY c w=false from A];rfl⟩
 .exact⟨r,rfl,by rw[J,show Qg c w=false from A];rfl⟩
def Km(c:Cat)(w:List Int):Bool:=(List.range c.2.2.2.1.length).all λx=>w.contains (c.2.2.2.1.getD x 0)
def CX(c:Cat)(w:List Int):Bool:=(List.range w.length).all λi=>(List.range w.length).all λj=>!mt c (w.getD i 0).toNat (w.getD j 0).toNat||w.contains (T c (w.getD i 0).toNat (w.getD j 0).toNat)
theorem p173(h:Sh c)(hw:w.length<=1048576)(O:wi (ar c) w=true):∃r,G173 (c,w)=some r/\decide (r.1=0)=(Km c w&&CX c w):=by
 have hh:=h.hd;obtain⟨a1,a2,a3,a4,a5,a6,a7,a8⟩:=hh;have hm:ar c<=40:=a2;unfold G173;simp only
 -- the M6 that is missing
 have h1:=JG (R:=Int×Int×Int) (f:=fun(v0:(Int×Int))=>(bif(decide (v0.2<c.1))then(if(((0:Int)<=v0.2)/\(v0.2<((c.2.2.2.1.length:Nat):Int)))then(Option.bind (G73 (w,(c.2.2.2.1.getD (v0.2).toNat (0:Int)))) (fun(v1:Bool)=>(Option.bind (bif(!v1)then(bif(decide (v0.1<(0:Int)))then(some true)else(if(((0:Int)<=v0.2)/\(v0.2<((c.2.2.2.1.length:Nat):Int)))then(some (decide ((c.2.2.2.1.getD (v0.2).toNat (0:Int))<v0.1)))else none))else(some false)) (fun(v2:Bool)=>(bif v2 then(if(((0:Int)<=v0.2)/\(v0.2<((c.2.2.2.1.length:Nat):Int)))then(some (LO.next ((c.2.2.2.1.getD (v0.2).toNat (0:Int)),(IntKind.wrap .i64 (v0.2+(1:Int))))))else none)else(some (LO.next (v0.1,(IntKind.wrap .i64 (v0.2+(1:Int)))))))))))else none)else(some (LO.brk 0 (v0.1,v0.2)))))
  (I:=λx st=>st.2=(x:Int)/\(if(List.range x).all (λx=>w.contains (c.2.2.2.1.getD x 0))=true then st.1= -1 else 0<=st.1))
  (Q:=λo=>∃b y,o=.brk 0 (b,y)/\(if Km c w=true then b= -1 else 0<=b)) (n:=c.2.2.2.1.length) (x:=((-1:Int),(0:Int))) ⟨rfl,by simp⟩ (λx hx st J=>?_) (λst J=>?_)
 rotate_left
 .obtain⟨B,y⟩:=st
  obtain⟨rfl,F⟩:=J;left;have e1:decide (((x:Nat):Int)<c.1)=true:=dT (by omega)
  obtain⟨i1,i2⟩:=Hx a8 hx;simp only[e1,cond_true,Aa hx,and_self,if_true,tNC,p73 hw,Option.bind_some];rw[Aj (by omega) (by omega)]
  rw[List.range_succ,List.all_append];cases E:w.contains (c.2.2.2.1.getD x 0)with
  |true=>
   refine⟨_,rfl,rfl,?_⟩;simp only[List.all_cons,List.all_nil,E,Bool.and_true];exact F
  |false=>
   simp only[Bool.not_false,cond_true];by_cases Y:B<0
   .simp only[Y,decide_true,cond_true,Option.bind_some]
    refine⟨_,rfl,rfl,?_⟩;simp only[List.all_cons,List.all_nil,E,Bool.and_true,Bool.and_false,Bool.false_eq_true,if_false];exact i1
   .simp only[Y,decide_false,cond_false,Option.bind_some]
    have hbb:0<=B:=by omega
    cases decide (c.2.2.2.1.getD x 0<B)with
    |true=>
     refine⟨_,rfl,rfl,?_⟩;simp only[List.all_cons,List.all_nil,E,Bool.and_true,Bool.and_false,Bool.false_eq_true,if_false];exact i1
    |false=>
     refine⟨_,rfl,rfl,?_⟩;simp only[List.all_cons,List.all_nil,E,Bool.and_true,Bool.and_false,Bool.false_eq_true,if_false];exact hbb
 .obtain⟨B,y⟩:=st
  obtain⟨rfl,F⟩:=J;have e1:decide (((c.2.2.2.1.length:Nat):Int)<c.1)=false:=dF (by omega)
  simp only[e1,cond_false];exact⟨_,rfl,λy=>by simp,_,_,rfl,F⟩
 obtain⟨o,ho,b,y,rfl,F⟩:=h1;rw[ho];show ∃r,(if 0=0 then _ else none)=some r/\_
 rw[if_pos rfl];cases W:Km c w with
 |false=>
  rw[W]at F;simp only[Bool.false_eq_true,if_false]at F;show ∃r,(bif decide ((0:Int)<=b)then _ else _)=some r/\_;rw[dT F,cond_true];exact⟨_,rfl,rfl⟩
 |true=>
 rw[W]at F;simp only[if_true]at F;subst F;have e0:decide ((0:Int)<=-1)=false:=rfl;simp only[LO.fin,if_true,e0,cond_false,Bool.true_and];refine Bd (st:=λi:Nat=>(i:Int)) (n:=w.length) (p:=λi=>(List.range w.length).all λj=>!mt c (w.getD i 0).toNat (w.getD j 0).toNat||w.contains (T c (w.getD i 0).toNat (w.getD j 0).toNat)) (Q:=λr:Int×Int×Int=>r.1=1) (o:=.brk 2 (w.length:Int)) (Post:=λo:Option (Int×Int×Int)=>∃r,o=some r/\decide (r.1=0)=CX c w) (λi hi=>?_) ?_ (λy=>by simp) (λA=>?_) (λA r Z=>?_)
 .have e:decide ((i:Int)<((w.length:Nat):Int))=true:=by rw[Ad];exact dT hi
  simp only[e,cond_true]
  refine Bd (st:=λi:Nat=>(i:Int)) (n:=w.length) (p:=λj=>!mt c (w.getD i 0).toNat (w.getD j 0).toNat||w.contains (T c (w.getD i 0).toNat (w.getD j 0).toNat)) (Q:=λr:LO Int (Int×Int×Int)=>∃r',r=.ret r'/\r'.1=1) (o:=.brk 4 (w.length:Int))
   (Post:=λo:Option (LO Int (Int×Int×Int))=>(((List.range w.length).all λj=>!mt c (w.getD i 0).toNat (w.getD j 0).toNat||w.contains (T c (w.getD i 0).toNat (w.getD j 0).toNat))=true->o=some (.next ((i+1:Nat):Int)))/\(((List.range w.length).all λj=>!mt c (w.getD i 0).toNat (w.getD j 0).toNat||w.contains (T c (w.getD i 0).toNat (w.getD j 0).toNat))=false->∃r,o=some (.ret r)/\r.1=1)) (λj hj=>?_) ?_ (λy=>by simp) (λA=>?_) (λA r Z=>?_)
  .obtain⟨f,hf,ef⟩:=Ws O hi
   obtain⟨g,hg,eg⟩:=Ws O hj;have hf3:f<c.2.2.1.length:=by rw[a3];exact hf
   have hg2:g<c.2.1.length:=hg;have e:decide ((j:Int)<((w.length:Nat):Int))=true:=by rw[Ad];exact dT hj
   simp only[e,cond_true,Aa hj,Aa hi,Aa hf3,Aa hg2,and_self,if_true,tNC,ef,eg,XN h (Aa hf) (Aa hg),Option.bind_some,p73 hw];rw[Aj (by omega) (by omega)]
   have em:decide (c.2.2.1.getD f 0=c.2.1.getD g 0)=mt c f g:=rfl;rw[em];cases mt c f g with
   |false=>exact⟨λ_=>rfl,λE=>by cases E⟩
   |true=>
    simp only[cond_true,Option.bind_some,Bool.not_true,Bool.false_or];refine⟨λE=>?_,λE=>?_⟩
    .rw[E];rfl
    .rw[E];exact⟨_,rfl,_,rfl,rfl⟩
  .have e:decide (((w.length:Nat):Int)<((w.length:Nat):Int))=false:=by simp
   simp only[e,cond_false]
  .refine⟨λ_=>?_,(λU=>by rw[A]at U;cases U)⟩
   show(if 4=4 then _ else none)=_
   rw[if_pos rfl,Aj (by omega) (by omega)]
   rfl
  .refine⟨(λU=>by rw[A]at U;cases U),λ_=>?_⟩
   obtain⟨r',rfl,h'⟩:=Z;exact⟨r',rfl,h'⟩
 .have e:decide (((w.length:Nat):Int)<((w.length:Nat):Int))=false:=by simp
  simp only[e,cond_false]
 .exact⟨_,rfl,by rw[show CX c w=true from A];rfl⟩
 .exact⟨r,rfl,by rw[Z,show CX c w=false from A];rfl⟩
theorem Wb(h:Sh c)(e:wi (ar c) w=true):DY c w=CX c w:=by
 unfold DY CX;refine Mk λi hi=>Mk λj hj=>?_
 obtain⟨f,E,J⟩:=Ws e hi;obtain⟨g,B,F⟩:=Ws e hj;rw[J,F,tNC,tNC]
 congr 2
 cases A:mt c f g with
 |true=>exact dT (h.pos f g E B A).1
 |false=>rw[h.neg f g E B A];rfl
theorem Aad(h:Sh c)(E:DG c=true)(w:List Int):Qg c w=Km c w:=by
 have O:=h.hd;obtain⟨a1,a2,a3,a4,a5,a6,a7,a8⟩:=O;have F:∀i,i<c.2.2.2.1.length->Wr c i=true:=by
  unfold DG at E;rw[bAE,bAE]at E;exact λi hi=>aET.1 E.2.1 i (List.mem_range.2 hi)
 unfold Qg Km;rw[Bool.eq_iff_iff,aET,aET];constructor
 .intro H x B
  have B:=List.mem_range.1 B;obtain⟨Z,Y⟩:=Hx a8 B;have hi:=F x B;unfold Wr at hi;rw[bAE,decide_eq_true_eq,decide_eq_true_eq]at hi;obtain⟨f,A⟩:∃f:Nat,c.2.2.2.1.getD x 0=(f:Int):=⟨(c.2.2.2.1.getD x 0).toNat,by omega⟩
  have J:f<ar c:=by show f<c.2.1.length;omega
  rw[A,tNC]at hi;have:=H f (List.mem_range.2 J);have e:Abg c f=true:=by
   unfold Abg fT;rw[hi.1,tNC,A];exact dT rfl
  rw[e]at this;rw[A];simpa using this
 .intro H f A
  have A:=List.mem_range.1 A;cases e:Abg c f with
  |false=>rfl
  |true=>
   have e:=of_decide_eq_true e;obtain⟨W,U⟩:=h.fr f A
   have B:(fT c f).toNat<c.2.2.2.1.length:=by
    have:fT c f<c.1:=U;have:0<=fT c f:=W;omega
   have:=H _ (List.mem_range.2 B);rw[e]at this;rw[this];rfl
end Go.Ve.D

