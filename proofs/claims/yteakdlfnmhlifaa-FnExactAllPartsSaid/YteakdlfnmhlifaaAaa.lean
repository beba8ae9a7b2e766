/- Copies, equalities, sizes: what they compute. -/
import Derived.Test.YteakdlfnmhlifaaUar
import Derived.Test.YteakdlfnmhlifaaLa
import Derived.Test.YteakdlfnmhlifaaTr
open List(replicate range mem_range)
open Option(bind_some)
open Go.IntKind(wrap)
set_option linter.all false
namespace Go.Ve.D
open Go Go.Ve
variable{a b n:Int}{x:List Int}
theorem p18(h:x.length<=1048576):G18 x=some x:=by
 unfold G18;rw[if_pos (by omega)]
 refine A6 (v:=.brk 0 ((x.length:Int),x)) (Bi (st:=λi=>((i:Int),x.take i++(replicate x.length (0:Int)).drop i)) (n:=x.length) (λi hi=>?_) (by simp) (λy=>by simp)) rfl
 have e:(x.take i++(replicate x.length (0:Int)).drop i).length=x.length:=by simp;omega
 simp only[Ao,hi,decide_true,cond_true,Af hi,if_true,e,tNC,and_self];rw[HN 0 (by simp) hi,Aw (by omega) (by omega)]
 rfl
theorem p36{x:List (List Int)}(h:x.length<=1048576)(u:∀y∈x,y.length<=1048576):G36 x=some x:=by
 unfold G36;rw[if_pos (by omega)]
 refine A6 (v:=.brk 0 ((x.length:Int),x)) (Bi (st:=λi=>((i:Int),x.take i++(replicate x.length []).drop i)) (n:=x.length) (λi hi=>?_) (by simp) (λy=>by simp)) rfl
 have e:(x.take i++(replicate x.length ([]:List Int)).drop i).length=x.length:=by simp;omega
 have g:G18 (x.getD i [])=some (x.getD i []):=p18 (u _ (by rw[gDE,gEE hi];simp))
 simp only[Ao,hi,decide_true,cond_true,Af hi,if_true,e,tNC,and_self,g,bind_some];rw[HN [] (by simp) hi,Aw (by omega) (by omega)]
 rfl
def okC(c:Int×List Int×List Int×List Int×List (List Int)):Prop:=c.2.1.length<=1048576/\c.2.2.1.length<=1048576/\c.2.2.2.1.length<=1048576/\c.2.2.2.2.length<=1048576/\∀y∈c.2.2.2.2,y.length<=1048576
def p17{c}(h:okC c):G17 c=some c:=by
 obtain⟨E,B,A,u,e⟩:=h;unfold G17;simp only[p18 E,p18 B,p18 A,p36 u e,bind_some]
theorem p21(h:x.length<=1048576):G21 (x,x)=some true:=by
 unfold G21;simp only[decide_true,Bool.not_true,cond_false];refine A6 (v:=.brk 0 (x.length:Int)) (Bi (st:=λi=>(i:Int)) (n:=x.length) (λi hi=>?_) (by simp) (λy=>by simp)) rfl
 simp only[Ao,hi,decide_true,cond_true,Af hi,if_true,tNC,and_self,Bool.not_true,cond_false];rw[Aw (by omega) (by omega)]
 rfl
theorem p27{x:List (List Int)}(h:x.length<=1048576)(e:∀y∈x,y.length<=1048576):G27 (x,x)=some true:=by
 unfold G27;simp only[decide_true,Bool.not_true,cond_false];refine A6 (v:=.brk 0 (x.length:Int)) (Bi (st:=λi=>(i:Int)) (n:=x.length) (λi hi=>?_) (by simp) (λy=>by simp)) rfl
 have g:G21 (x.getD i [],x.getD i [])=some true:=p21 (e _ (by rw[gDE,gEE hi];simp))
 simp only[Ao,hi,decide_true,cond_true,Af hi,if_true,tNC,and_self,Bool.not_true,cond_false,g,bind_some];rw[Aw (by omega) (by omega)]
 rfl
def p20{c}(h:okC c):G20 (c,c)=some true:=by
 obtain⟨E,B,A,u,e⟩:=h;unfold G20;simp only[p21 E,p21 B,p21 A,p27 u e,bind_some,decide_true,Bool.not_true,cond_false]
open Go Go.Ve
def p30(B:0<=b/\b<=1048576)(u:x.length<=maxLen):∃r,G30 (x,b)=some r/\(r<0\/(r=b-x.length/\0<=r)):=by
 unfold G30;have A:maxLen=9223372036854775807:=by decide
 rw[A]at u;have e:wrap .i64 (b-(x.length:Int))=b-x.length:=Is (by omega) (by omega)
 simp only[e];by_cases h:b-(x.length:Int)<0
 .exact⟨-1,by simp only[h,decide_true,cond_true],.inl (by decide)⟩
 .exact⟨_,by simp only[h,decide_false,cond_false],.inr ⟨rfl,by omega⟩⟩
theorem p31{x:List (List Int)}(hb:0<=b/\b<=1048576)(Z:x.length<=maxLen)(Y:∀y∈x,y.length<=maxLen):∃r,G31 (x,b)=some r/\(r<0\/(0<=r/\r<=b/\x.length<=1048576/\∀y∈x,y.length<=1048576)):=by
 unfold G31;have hm:maxLen=9223372036854775807:=by decide
 rw[hm]at Z;have e:wrap .i64 (b-(x.length:Int))=b-x.length:=Is (by omega) (by omega)
 simp only[e];by_cases h:b-(x.length:Int)<0
 .exact⟨-1,by simp only[h,decide_true,cond_true],.inl (by decide)⟩
 .simp only[h,decide_false,cond_false]
  obtain⟨o,ho,U⟩:=NV (f:=(fun(v0:(Int×Int))=>(bif(decide (v0.2<((x.length:Nat):Int)))then(if(((0:Int)<=v0.2)/\(v0.2<((x.length:Nat):Int)))then(Option.bind (G30 ((x.getD (v0.2).toNat []),v0.1)) (fun(W:Int)=>(bif(decide (W<(0:Int)))then(BF (some (-(1:Int))))else(some (LO.next (W,(wrap .i64 (v0.2+(1:Int)))))))))else none)else(some (LO.brk 0 (v0.1,v0.2))))))
   (I:=λi s=>s.2=(i:Int)/\0<=s.1/\s.1<=b-x.length/\∀y∈x.take i,y.length<=1048576)
   (Q:=λo=>match o with
    |.brk id s=>id=0/\0<=s.1/\s.1<=b/\∀y∈x,y.length<=1048576
    |.ret r=>r<0
    |.next _=>False)
   (n:=x.length) (x:=(b-(x.length:Int),(0:Int))) ⟨rfl,by omega,by omega,by simp⟩
   (λi hi s O=>by
    obtain⟨c,k⟩:=s;obtain⟨rfl,E,J,B⟩:=O;simp only at E J B;have H:x.getD i []∈x:=by rw[gDE,gEE hi];simp
    obtain⟨r,hr,F⟩:=p30 (x:=x.getD i []) (b:=c) ⟨E,by omega⟩ (Y _ H)
    simp only[Ao,hi,decide_true,cond_true,Af hi,if_true,tNC,and_self,hr,bind_some];by_cases A:r<0
    .right
     exact⟨.ret (-1),by simp only[A,decide_true,cond_true];rfl,(λy=>by simp),(by decide:(-1:Int)<0)⟩
    .left
     refine⟨(r,(i:Int)+1),by simp only[A,decide_false,cond_false,Aw (show(0:Int)<=(i:Int)+1 by omega) (by omega)],rfl,by omega,?_,?_⟩
     .rcases F with h|⟨h,_⟩
      .exact absurd h A
      .simp only;omega
     .intro y u
      rw[List.take_add_one,List.mem_append]at u;rcases u with u|u
      .exact B y u
      .rw[gEE hi]at u
       have:y=x.getD i []:=by
        rw[gDE,gEE hi];simpa using u
       rw[this];rcases F with h|⟨h,h'⟩
       .exact absurd h A
       .omega)
   (λs O=>by
    obtain⟨c,k⟩:=s;obtain⟨rfl,E,J,B⟩:=O;simp only at E J B;refine⟨.brk 0 (c,(x.length:Int)),by simp,(λy=>by simp),rfl,E,by simp only;omega,λy u=>B y (by simpa using u)⟩)
  rw[ho];cases o with
  |next=>exact U.elim
  |ret r=>exact⟨r,rfl,.inl U⟩
  |brk id s=>
   obtain⟨rfl,E,J,B⟩:=U;exact⟨s.1,rfl,.inr ⟨E,J,by omega,B⟩⟩
theorem p15{c}(h1:c.2.1.length<=maxLen)(Z:c.2.2.1.length<=maxLen)(Y:c.2.2.2.1.length<=maxLen)(W:c.2.2.2.2.length<=maxLen)(U:∀y∈c.2.2.2.2,y.length<=maxLen):
  ∃r,G15 (c,1048576)=some r/\(r<0\/(0<=r/\r<=1048576/\okC c)):=by
 unfold G15;obtain⟨F,e1,f1⟩:=p30 (b:=1048576) (by omega) h1
 simp only[e1,bind_some];by_cases O:F<0
 .exact⟨-1,by simp only[O,decide_true,cond_true],.inl (by decide)⟩
 simp only[O,decide_false,cond_false];obtain⟨E,e2,f2⟩:=p30 (b:=F) (by omega) Z
 simp only[e2,bind_some];by_cases J:E<0
 .exact⟨-1,by simp only[J,decide_true,cond_true],.inl (by decide)⟩
 simp only[J,decide_false,cond_false];obtain⟨B,e3,f3⟩:=p30 (b:=E) (by omega) Y
 simp only[e3,bind_some];by_cases H:B<0
 .exact⟨-1,by simp only[H,decide_true,cond_true],.inl (by decide)⟩
 simp only[H,decide_false,cond_false];obtain⟨A,e4,e⟩:=p31 (b:=B) (by omega) W U
 simp only[e4,bind_some];by_cases u:A<0
 .exact⟨-1,by simp only[u,decide_true,cond_true],.inl (by decide)⟩
 simp only[u,decide_false,cond_false];refine⟨A,rfl,.inr ?_⟩;have e:=e.resolve_left u;exact⟨e.1,by omega,by omega,by omega,by omega,e.2.2.1,e.2.2.2⟩
open Go Go.Ve
def p106(a l h:Int):G106 (a,(l,h))=some (decide (l<=a)&&decide (a<=h)):=by
 unfold G106;by_cases e:l<=a<;>simp[e]
def p146(a l h:Int):G146 (a,(l,h))=some (decide (l<=a)&&decide (a<=h)):=by
 unfold G146;by_cases e:l<=a<;>simp[e]
def p146'(a n:Int)(e:0<=n/\n<=9223372036854775807):G146 (a,((0:Int),wrap .i64 (n-1)))=some (inn n a):=by
 rw[p146,Is (by omega) (by omega)]
 unfold inn
 congr 2
 rw[Bool.eq_iff_iff];simp;omega
theorem p107(B:x.length<=1048576):G107 (n,x)=some (wi n x):=by
 unfold G107
 have h:=BU (R:=Bool) (f:=(fun(v0:Int)=>(bif(decide (v0<((x.length:Nat):Int)))then(if(((0:Int)<=v0)/\(v0<((x.length:Nat):Int)))then(Option.bind (bif(decide ((x.getD (v0).toNat (0:Int))<(0:Int)))then(some true)else(if(((0:Int)<=v0)/\(v0<((x.length:Nat):Int)))then(some (decide (n<=(x.getD (v0).toNat (0:Int)))))else none)) (fun(A:Bool)=>(bif A then(BF (some false))else(some (LO.next (wrap .i64 (v0+(1:Int))))))))else none)else(some (LO.brk 0 v0)))))
  (st:=λi=>(i:Int)) (n:=x.length) (p:=λi=>inn n (x.getD i 0)) (r:=false) (o:=.brk 0 (x.length:Int)) (λi hi=>by
   simp only[Ao,hi,decide_true,cond_true,Af hi,if_true,tNC,and_self];rw[Aw (by omega) (by omega)]
   by_cases e:x.getD i 0<0
   .have:inn n (x.getD i 0)=false:=AbA e
    simp only[e,decide_true,cond_true,bind_some,this,cond_false];rfl
   .by_cases u:n<=x.getD i 0
    .have:inn n (x.getD i 0)=false:=Abz u
     simp only[e,u,decide_false,decide_true,cond_true,cond_false,bind_some,this];rfl
    .have:inn n (x.getD i 0)=true:=inn_t (by omega) (by omega)
     simp only[e,u,decide_false,cond_true,cond_false,bind_some,this];rfl) (by simp) (λy=>by simp)
 rw[K0 0 (inn n) x]at h;refine A6 h ?_;show _=some (wi n x);unfold wi;cases x.all (inn n)<;>rfl
theorem p112(u:0<=n/\n<=9223372036854775807)(A:x.length<=1048576):G112 (x,n)=some (wi n x):=by
 unfold G112
 have h:=BU (R:=Bool) (f:=(fun(v0:Int)=>(bif(decide (v0<((x.length:Nat):Int)))then(if(((0:Int)<=v0)/\(v0<((x.length:Nat):Int)))then(Option.bind (G146 ((x.getD (v0).toNat (0:Int)),((0:Int),(wrap .i64 (n-(1:Int)))))) (fun(e:Bool)=>(bif(!e)then(BF (some false))else(some (LO.next (wrap .i64 (v0+(1:Int))))))))else none)else(some (LO.brk 0 v0)))))
  (st:=λi=>(i:Int)) (n:=x.length) (p:=λi=>inn n (x.getD i 0)) (r:=false) (o:=.brk 0 (x.length:Int)) (λi hi=>by
   simp only[Ao,hi,decide_true,cond_true,Af hi,if_true,tNC,and_self,p146' _ _ u,bind_some];rw[Aw (by omega) (by omega)]
   cases inn n (x.getD i 0)<;>rfl) (by simp) (λy=>by simp)
 rw[K0 0 (inn n) x]at h;refine A6 h ?_;show _=some (wi n x);unfold wi;cases x.all (inn n)<;>rfl
def p144{m:Int}(e:x.length<=1048576):G144 (x,(m,n))=some (decide ((x.length:Int)=m)&&wi n x):=by
 unfold G144;simp only[p107 e,bind_some];by_cases h:(x.length:Int)=m<;>simp[h]
open Go Go.Ve
abbrev Cat:=Int×List Int×List Int×List Int×List (List Int)
variable{c:Cat}
def BZ(c:Cat)(f g:Nat):Bool:=
 bif !decide (c.2.2.1.getD f 0=c.2.1.getD g 0)then decide ((c.2.2.2.2.getD f []).getD g 0= -1)
 else inn c.2.1.length ((c.2.2.2.2.getD f []).getD g 0)&&(decide (c.2.1.getD ((c.2.2.2.2.getD f []).getD g 0).toNat 0=c.2.1.getD f 0)&&decide (c.2.2.1.getD ((c.2.2.2.2.getD f []).getD g 0).toNat 0=c.2.2.1.getD g 0))
def DE(c:Cat)(f:Nat):Bool:=decide ((c.2.2.2.2.getD f []).length=c.2.1.length)&&(range c.2.1.length).all (BZ c f)
def YG(c:Cat)(i:Nat):Bool:=decide (c.2.1.getD (c.2.2.2.1.getD i 0).toNat 0=i)&&decide (c.2.2.1.getD (c.2.2.2.1.getD i 0).toNat 0=i)
def Je(c:Cat):Prop:=(0<=c.1/\c.1<=8)/\c.2.1.length<=40/\c.2.2.1.length=c.2.1.length/\wi c.1 c.2.1=true/\wi c.1 c.2.2.1=true/\c.2.2.2.2.length=c.2.1.length/\(c.2.2.2.1.length:Int)=c.1/\wi c.2.1.length c.2.2.2.1=true
instance(c:Cat):Decidable (Je c):=by unfold Je;infer_instance
def Hp(c:Cat):Bool:=decide (Je c)&&((range c.2.2.2.1.length).all (YG c)&&(range c.2.1.length).all (DE c))
theorem p88i(h:Je c)(F:Int->Option (LO Int Bool))(O:F=(fun(e:Int)=>(bif(decide (e<c.1))then(if(((0:Int)<=e)/\(e<((c.2.2.2.1.length:Nat):Int)))then(if(((0:Int)<=(c.2.2.2.1.getD (e).toNat (0:Int)))/\((c.2.2.2.1.getD (e).toNat (0:Int))<((c.2.1.length:Nat):Int)))then(Option.bind (bif(!decide ((c.2.1.getD ((c.2.2.2.1.getD (e).toNat (0:Int))).toNat (0:Int))=e))then(some true)else(if(((0:Int)<=e)/\(e<((c.2.2.2.1.length:Nat):Int)))then(if(((0:Int)<=(c.2.2.2.1.getD (e).toNat (0:Int)))/\((c.2.2.2.1.getD (e).toNat (0:Int))<((c.2.2.1.length:Nat):Int)))then(some (!decide ((c.2.2.1.getD ((c.2.2.2.1.getD (e).toNat (0:Int))).toNat (0:Int))=e)))else none)else none)) (fun(J:Bool)=>(bif J then(BF (some false))else(some (LO.next (wrap .i64 (e+(1:Int))))))))else none)else none)else(some (LO.brk 0 e))))):
  Ap F 0=some (bif(range c.2.2.2.1.length).all (YG c)then .brk 0 c.1 else .ret false):=by
 obtain⟨a1,a2,a3,a4,a5,a6,a7,a8⟩:=h;subst O;refine BU (st:=λi=>(i:Int)) (λi hi=>?_) (by simp[a7]) (λy=>by simp)
 have u:((i:Int)<c.1):=by omega
 have E:=Hq a8 hi;have A:0<=c.2.2.2.1.getD i 0/\c.2.2.2.1.getD i 0<(c.2.2.1.length:Int):=by rw[a3];exact E
 simp only[u,decide_true,cond_true,Af hi,if_true,tNC,and_self,E,A];rw[Aw (by omega) (by omega)]
 unfold YG;by_cases B:c.2.1.getD (c.2.2.2.1.getD i 0).toNat 0=(i:Int)
 .by_cases H:c.2.2.1.getD (c.2.2.2.1.getD i 0).toNat 0=(i:Int)
  .simp only[B,H,decide_true,Bool.not_true,cond_false,cond_true,bind_some,Bool.and_self];rfl
  .simp only[B,H,decide_true,decide_false,Bool.not_true,Bool.not_false,cond_false,cond_true,bind_some,Bool.and_false];rfl
 .simp only[B,decide_false,Bool.not_false,cond_false,cond_true,bind_some,Bool.false_and];rfl
open Go Go.Ve
def BD(h:¬Je c):Hp c=false:=by simp[Hp,h]
theorem p88(h:okC c):G88 c=some (Hp c):=by
 obtain⟨h1,h2,h3,h4,h5⟩:=h;unfold G88;simp only[p106,p144 h1,p144 h2,p107 h3,bind_some,decide_true,Bool.true_and];by_cases c1:0<=c.1/\c.1<=8
 case neg=>
  have e:(decide (0<=c.1)&&decide (c.1<=8))=false:=by simp;omega
  simp only[e,Bool.not_false,cond_true,bind_some,BD λh=>c1 h.1]
 have H:(decide (0<=c.1)&&decide (c.1<=8))=true:=by simp[c1]
 simp only[H,Bool.not_true,cond_false,bind_some];by_cases c2:(40:Int)<(c.2.1.length:Int)
 case pos=>simp only[c2,decide_true,cond_true,bind_some,BD (c:=c) λh=>absurd h.2.1 (by omega)]
 simp only[c2,decide_false,cond_false];cases c3:wi c.1 c.2.1 with
 |false=>simp only[Bool.not_false,cond_true,bind_some,BD λh=>by have:=h.2.2.2.1;rw[c3]at this;cases this]
 |true=>
 simp only[Bool.not_true,cond_false,bind_some];by_cases c4:(c.2.2.1.length:Int)=(c.2.1.length:Int)
 case neg=>simp only[c4,decide_false,Bool.false_and,Bool.not_false,cond_true,bind_some,BD λh=>c4 (by rw[h.2.2.1])]
 simp only[dT c4,Bool.true_and];cases c5:wi c.1 c.2.2.1 with
 |false=>simp only[Bool.not_false,cond_true,bind_some,BD λh=>by have:=h.2.2.2.2.1;rw[c5]at this;cases this]
 |true=>
 simp only[Bool.not_true,cond_false,bind_some];by_cases c6:(c.2.2.2.2.length:Int)=(c.2.1.length:Int)
 case neg=>simp only[c6,decide_false,Bool.not_false,cond_true,bind_some,BD λh=>c6 (by rw[h.2.2.2.2.2.1])]
 simp only[dT c6,Bool.not_true,cond_false];by_cases c7:(c.2.2.2.1.length:Int)=c.1
 case neg=>simp only[c7,decide_false,Bool.not_false,cond_true,bind_some,BD λh=>c7 h.2.2.2.2.2.2.1]
 simp only[dT c7,Bool.not_true,cond_false];cases c8:wi c.2.1.length c.2.2.2.1 with
 |false=>simp only[Bool.not_false,cond_true,bind_some,BD λh=>by have:=h.2.2.2.2.2.2.2;rw[c8]at this;cases this]
 |true=>
 simp only[Bool.not_true,cond_false,bind_some];have J:Je c:=⟨c1,by omega,by omega,c3,c5,by omega,c7,c8⟩
 have hs:Hp c=((range c.2.2.2.1.length).all (YG c)&&(range c.2.1.length).all (DE c)):=by simp[Hp,J]
 rw[hs];have g:=p88i J _ rfl;refine A6 g ?_;cases hi:(range c.2.2.2.1.length).all (YG c)with
 |false=>rfl
 |true=>
 simp only[cond_true,Bool.true_and];obtain⟨a1,a2,a3,a4,a5,a6,a7,a8⟩:=J;show(if 0=0 then _ else _)=_
 rw[if_pos rfl];refine A6 (v:=bif(range c.2.1.length).all (DE c)then .brk 2 (c.2.1.length:Int)else .ret false) (BU (st:=λi=>(i:Int)) (λf F=>?_) (by simp) (λy=>by simp)) (by cases (range c.2.1.length).all (DE c)<;>rfl)
 have u:f<c.2.2.2.2.length:=by omega
 simp only[Ao,F,u,decide_true,cond_true,Af F,Af u,if_true,tNC,and_self];by_cases d1:((c.2.2.2.2.getD f []).length:Int)=(c.2.1.length:Int)
 case neg=>
  have:DE c f=false:=by unfold DE;simp only[show ¬ (c.2.2.2.2.getD f []).length=c.2.1.length by omega,decide_false,Bool.false_and]
  simp only[d1,decide_false,Bool.not_false,cond_true,this,cond_false];rfl
 have d2:(c.2.2.2.2.getD f []).length=c.2.1.length:=by omega
 have hr:DE c f=(range c.2.1.length).all (BZ c f):=by unfold DE;simp only[d2,decide_true,Bool.true_and]
 simp only[dT d1,Bool.not_true,cond_false];rw[hr]
 refine A6 (v:=bif(range c.2.1.length).all (BZ c f)then .brk 4 (c.2.1.length:Int)else .ret (.ret false)) (BU (st:=λi=>(i:Int)) (λg Y=>?_) (by simp) (λy=>by simp)) (by
  cases (range c.2.1.length).all (BZ c f)with
  |false=>rfl
  |true=>
   show(if 4=4 then some (LO.next (wrap .i64 ((f:Int)+1)))else none)=_
   rw[if_pos rfl,Aw (by omega) (by omega)];rfl)
 have E:f<c.2.2.1.length:=by omega
 have B:g<c.2.2.1.length:=by omega
 have O:(g:Int)<((c.2.2.2.2.getD f []).length:Int):=by omega
 simp only[Ao,F,Y,E,B,O,decide_true,cond_true,Af F,Af Y,Af u,Af E,Af B,if_true,tNC,and_self];rw[Aw (show(0:Int)<=(g:Int)+1 by omega) (by omega)]
 unfold BZ;obtain⟨k,W⟩:∃k,k=(c.2.2.2.2.getD f []).getD g 0:=⟨_,rfl⟩;simp only[<-W];clear W;by_cases H:c.2.2.1.getD f 0=c.2.1.getD g 0
 case neg=>
  simp only[H,decide_false,Bool.not_false,cond_true];by_cases A:k= -1
  .simp only[A,decide_true,Bool.not_true,cond_false,cond_true];rfl
  .simp only[A,decide_false,Bool.not_false,cond_false,cond_true];rfl
 simp only[H,decide_true,Bool.not_true,cond_false];by_cases A:k<0
 case pos=>simp only[A,decide_true,cond_true,bind_some,AbA A,Bool.false_and,cond_false];rfl
 simp only[A,decide_false,cond_false,bind_some];by_cases U:(c.2.1.length:Int)<=k
 case pos=>simp only[U,decide_true,cond_true,bind_some,Abz U,Bool.false_and,cond_false];rfl
 have e4:inn c.2.1.length k=true:=inn_t (by omega) (by omega)
 have e5:0<=k/\k<(c.2.1.length:Int):=by omega
 have e6:0<=k/\k<(c.2.2.1.length:Int):=by omega
 simp only[U,decide_false,cond_false,bind_some,e4,e5,e6,and_self,if_true,Bool.true_and];by_cases e7:c.2.1.getD k.toNat 0=c.2.1.getD f 0
 case neg=>simp only[e7,decide_false,Bool.not_false,cond_true,cond_false,bind_some,Bool.false_and];rfl
 simp only[e7,decide_true,Bool.not_true,cond_false,Bool.true_and];by_cases Z:c.2.2.1.getD k.toNat 0=c.2.2.1.getD g 0
 .simp only[Z,decide_true,Bool.not_true,cond_false,cond_true,bind_some];rfl
 .simp only[Z,decide_false,Bool.not_false,cond_false,cond_true,bind_some];rfl
open Go Go.Ve
def p99(c:Cat):G99 c=some (c.2.1.length:Int):=rfl
def p147(u:0<=a/\a<(c.2.1.length:Int))(e:0<=a/\a<(c.2.2.1.length:Int)):G147 (c,a)=some (c.2.1.getD a.toNat 0,c.2.2.1.getD a.toNat 0):=by
 unfold G147;simp only[u,e,and_self,if_true]
theorem p97(h:okC c):G97 c=some (Hp c):=by
 obtain⟨h1,h2,h3,h4,h5⟩:=h;unfold G97;simp only[p99,p146 c.1 0 8,bind_some];by_cases c1:0<=c.1/\c.1<=8
 case neg=>
  have e:(decide (0<=c.1)&&decide (c.1<=8))=false:=by simp;omega
  simp only[e,Bool.not_false,cond_true,bind_some,BD λh=>c1 h.1]
 have O:(decide (0<=c.1)&&decide (c.1<=8))=true:=by simp[c1]
 have A:0<=c.1/\c.1<=9223372036854775807:=by omega
 have W:(0:Int)<=(c.2.1.length:Int)/\(c.2.1.length:Int)<=9223372036854775807:=by omega
 simp only[O,Bool.not_true,cond_false,bind_some,p112 A h1,p112 A h2,p112 W h3];by_cases c2:(40:Int)<(c.2.1.length:Int)
 case pos=>simp only[c2,decide_true,cond_true,bind_some,BD (c:=c) λh=>absurd h.2.1 (by omega)]
 simp only[c2,decide_false,cond_false,bind_some];by_cases c4:(c.2.2.1.length:Int)=(c.2.1.length:Int)
 case neg=>simp only[c4,decide_false,Bool.not_false,cond_true,bind_some,BD λh=>c4 (by rw[h.2.2.1])]
 simp only[dT c4,Bool.not_true,cond_false,bind_some];cases c3:wi c.1 c.2.1 with
 |false=>simp only[Bool.not_false,cond_true,bind_some,BD λh=>by have:=h.2.2.2.1;rw[c3]at this;cases this]
 |true=>
 simp only[Bool.not_true,cond_false,bind_some];cases c5:wi c.1 c.2.2.1 with
 |false=>simp only[Bool.not_false,cond_true,bind_some,BD λh=>by have:=h.2.2.2.2.1;rw[c5]at this;cases this]
 |true=>
 simp only[Bool.not_true,cond_false,bind_some];by_cases c7:(c.2.2.2.1.length:Int)=c.1
 case neg=>simp only[c7,decide_false,Bool.not_false,cond_true,bind_some,BD λh=>c7 h.2.2.2.2.2.2.1]
 simp only[dT c7,Bool.not_true,cond_false];cases c8:wi c.2.1.length c.2.2.2.1 with
 |false=>simp only[Bool.not_false,cond_true,bind_some,BD λh=>by have:=h.2.2.2.2.2.2.2;rw[c8]at this;cases this]
 |true=>
 simp only[Bool.not_true,cond_false,bind_some];by_cases c6:(c.2.2.2.2.length:Int)=(c.2.1.length:Int)
 case neg=>simp only[c6,decide_false,Bool.not_false,cond_true,bind_some,BD λh=>c6 (by rw[h.2.2.2.2.2.1])]
 simp only[dT c6,Bool.not_true,cond_false,bind_some];have Z:Je c:=⟨c1,by omega,by omega,c3,c5,by omega,c7,c8⟩
 have hs:Hp c=((range c.2.2.2.1.length).all (YG c)&&(range c.2.1.length).all (DE c)):=by simp[Hp,Z]
 rw[hs];obtain⟨a1,a2,a3,a4,a5,a6,a7,a8⟩:=Z;refine A6 (v:=bif(range c.2.2.2.1.length).all (YG c)then .brk 0 (c.2.2.2.1.length:Int)else .ret false) (BU (st:=λi=>(i:Int)) (λi hi=>?_) (by simp) (λy=>by simp)) ?_
 .have F:=Hq a8 hi
  have U:0<=c.2.2.2.1.getD i 0/\c.2.2.2.1.getD i 0<(c.2.2.1.length:Int):=by rw[a3];exact F
  simp only[Ao,hi,decide_true,cond_true,Af hi,if_true,tNC,and_self,p147 F U,bind_some,Bool.and_true];rw[Aw (by omega) (by omega)]
  show(bif !YG c i then _ else _)=_;cases YG c i<;>rfl
 cases hi:(range c.2.2.2.1.length).all (YG c)with
 |false=>rfl
 |true=>
 simp only[cond_true,Bool.true_and];show(if 0=0 then _ else _)=_
 rw[if_pos rfl];refine A6 (v:=bif(range c.2.1.length).all (DE c)then .brk 2 (c.2.1.length:Int)else .ret false) (BU (st:=λi=>(i:Int)) (λf hf=>?_) (by simp[a6]) (λy=>by simp)) (by cases (range c.2.1.length).all (DE c)<;>rfl)
 have u:f<c.2.2.2.2.length:=by omega
 simp only[Ao,u,decide_true,cond_true,Af u,if_true,tNC,and_self];by_cases d1:((c.2.2.2.2.getD f []).length:Int)=(c.2.1.length:Int)
 case neg=>
  have:DE c f=false:=by unfold DE;simp only[show ¬ (c.2.2.2.2.getD f []).length=c.2.1.length by omega,decide_false,Bool.false_and]
  simp only[d1,decide_false,Bool.not_false,cond_true,this,cond_false];rfl
 have d2:(c.2.2.2.2.getD f []).length=c.2.1.length:=by omega
 have hr:DE c f=(range c.2.1.length).all (BZ c f):=by unfold DE;simp only[d2,decide_true,Bool.true_and]
 simp only[dT d1,Bool.not_true,cond_false];rw[hr]
 refine A6 (v:=bif(range c.2.1.length).all (BZ c f)then .brk 4 (c.2.1.length:Int)else .ret (.ret false)) (BU (st:=λi=>(i:Int)) (λg F=>?_) (by simp only[dF (show ¬ ((c.2.1.length:Int)<((c.2.2.2.2.getD f []).length:Int)) by omega),cond_false]) (λy=>by simp)) (by
  cases (range c.2.1.length).all (BZ c f)with
  |false=>rfl
  |true=>
   show(if 4=4 then some (LO.next (wrap .i64 ((f:Int)+1)))else none)=_
   rw[if_pos rfl,Aw (by omega) (by omega)];rfl)
 have H:f<c.2.2.1.length:=by omega
 have E:g<c.2.2.1.length:=by omega
 have B:g<(c.2.2.2.2.getD f []).length:=by omega
 simp only[Ao,hf,F,H,E,B,decide_true,cond_true,Af hf,Af F,Af u,Af H,Af E,Af B,if_true,tNC,and_self,p146' _ _ W,bind_some];rw[Aw (show(0:Int)<=(g:Int)+1 by omega) (by omega)]
 unfold BZ;obtain⟨k,Y⟩:∃k,k=(c.2.2.2.2.getD f []).getD g 0:=⟨_,rfl⟩;simp only[<-Y];clear Y;by_cases O:c.2.2.1.getD f 0=c.2.1.getD g 0
 case neg=>
  simp only[O,decide_false,Bool.not_false,cond_true];by_cases J:k= -1
  .simp only[J,decide_true,Bool.not_true,cond_false,cond_true];rfl
  .simp only[J,decide_false,Bool.not_false,cond_false,cond_true];rfl
 simp only[O,decide_true,Bool.not_true,cond_false];cases J:inn c.2.1.length k with
 |false=>simp only[Bool.not_false,cond_true,bind_some,Bool.false_and,cond_false];rfl
 |true=>
 have e5:=Kq.1 J;have e6:0<=k/\k<(c.2.2.1.length:Int):=by omega
 simp only[Bool.not_true,cond_false,p147 e5 e6,bind_some,Bool.true_and,Bool.and_true];cases (decide (c.2.1.getD k.toNat 0=c.2.1.getD f 0)&&decide (c.2.2.1.getD k.toNat 0=c.2.2.1.getD g 0))<;>rfl
open Go Go.Ve
def T(c:Cat)(f g:Nat):Int:=(c.2.2.2.2.getD f []).getD g 0
def idn(c:Cat)(x:Int):Nat:=(c.2.2.2.1.getD x.toNat 0).toNat
def JK(c:Cat)(f:Nat):Bool:=decide (T c (idn c (c.2.1.getD f 0)) f=(f:Int))&&decide (T c f (idn c (c.2.2.1.getD f 0))=(f:Int))
def mt(c:Cat)(f g:Nat):Bool:=decide (c.2.2.1.getD f 0=c.2.1.getD g 0)
def Hf(c:Cat)(f g h:Nat):Bool:=bif mt c g h then decide (T c (T c f g).toNat h=T c f (T c g h).toNat)else true
def IK(c:Cat):Bool:=(range c.2.1.length).all (JK c)&&(range c.2.1.length).all λf=>(range c.2.1.length).all λg=>bif mt c f g then(range c.2.1.length).all λh=>Hf c f g h else true
structure Sh(c:Cat):Prop where
 hd:Je c
 id:∀x:Int,0<=x->x<c.1->(0<=c.2.2.2.1.getD x.toNat 0/\c.2.2.2.1.getD x.toNat 0<(c.2.1.length:Int))
 fr:∀f,f<c.2.1.length->0<=c.2.1.getD f 0/\c.2.1.getD f 0<c.1
 to:∀f,f<c.2.1.length->0<=c.2.2.1.getD f 0/\c.2.2.1.getD f 0<c.1
 row:∀f,f<c.2.1.length->(c.2.2.2.2.getD f []).length=c.2.1.length
 neg:∀f g,f<c.2.1.length->g<c.2.1.length->mt c f g=false->T c f g= -1
 pos:∀f g,f<c.2.1.length->g<c.2.1.length->mt c f g=true->0<=T c f g/\T c f g<(c.2.1.length:Int)/\c.2.1.getD (T c f g).toNat 0=c.2.1.getD f 0/\c.2.2.1.getD (T c f g).toNat 0=c.2.2.1.getD g 0
theorem Acs(h:Hp c=true):Sh c:=by
 unfold Hp at h;simp only[bAE,decide_eq_true_eq]at h;obtain⟨F,hi,H⟩:=h;have A:∀f,f<c.2.1.length->DE c f=true:=λf e=>aET.1 H f (mem_range.2 e)
 have u:∀f g,f<c.2.1.length->g<c.2.1.length->BZ c f g=true:=λf g e E=>by
  have:=A f e;unfold DE at this;rw[bAE]at this;exact aET.1 this.2 g (mem_range.2 E)
 have J:=F;obtain⟨a1,a2,a3,a4,a5,a6,a7,a8⟩:=F;refine⟨J,λx U O=>Hq a8 (by omega),λf e=>Hq a4 e,λf e=>Hq a5 (by omega),λf e=>?_,λf g e E B=>?_,λf g e E B=>?_⟩
 .have:=A f e
  unfold DE at this;rw[bAE]at this;exact of_decide_eq_true this.1
 .have:=u f g e E
  unfold BZ at this;unfold mt at B;rw[B]at this;exact of_decide_eq_true this
 .have:=u f g e E
  unfold BZ at this;unfold mt at B;rw[B]at this;simp only[Bool.not_true,cond_false,bAE,decide_eq_true_eq]at this;exact⟨(Kq.1 this.1).1,(Kq.1 this.1).2,this.2.1,this.2.2⟩
def Ch{X R S:Type}{f:X->Option (LO X R)}{st:Nat->X}{n:Nat}{p:Nat->Bool}{Q:R->Prop}{o:LO X R}{k:LO X R->Option S}{Post:Option S->Prop}
  (H:∀i,i<n->(p i=true->f (st i)=some (.next (st (i+1))))/\(p i=false->∃r,f (st i)=some (.ret r)/\Q r)) (F:f (st n)=some o) (A:∀y,o≠.next y)
  (E:(range n).all p=true->Post (k o)) (B:(range n).all p=false->∀r,Q r->Post (k (.ret r))):Post (Option.bind (Ap f (st 0)) k):=by
 obtain⟨g1,g2⟩:=W3 H F A;cases h:(range n).all p with
 |true=>rw[g1 h];exact E h
 |false=>obtain⟨r,e,u⟩:=g2 h;rw[e];exact B h r u
def inN{n:Nat}(h:0<=a/\a<(n:Int)):a.toNat<n:=by omega
def AcK(h:Sh c){f g:Int}(e:0<=f/\f<(c.2.1.length:Int))(u:0<=g/\g<(c.2.1.length:Int)):G143 (c,(f,g))=some (T c f.toNat g.toNat):=by
 unfold G143;have F:c.2.2.2.2.length=c.2.1.length:=h.hd.2.2.2.2.2.1;have E:=h.row f.toNat (inN e);have B:0<=f/\f<(c.2.2.2.2.length:Int):=by rw[F];exact e
 have A:0<=g/\g<((c.2.2.2.2.getD f.toNat []).length:Int):=by rw[E];exact u
 simp only[B,A,and_self,if_true];rfl
theorem p98(h:Sh c):∃r,G98 c=some r/\(decide (r.1=0)=IK c):=by
 have hh:=h.hd;obtain⟨a1,a2,a3,a4,a5,a6,a7,a8⟩:=hh;unfold G98;simp only[p99,bind_some];refine Ch (Post:=fun(z:Option (Int×Int×Int×Int))=>∃r,z=some r/\(decide (r.1=0)=IK c)) (st:=λi=>(i:Int)) (n:=c.2.1.length) (p:=JK c) (Q:=fun(r:Int×Int×Int×Int)=>r.1≠0) (o:=.brk 0 (c.2.1.length:Int)) (λf e=>?_) (by simp) (λy=>by simp) (λW=>?_) (λW r E=>?_)
 .have U:=h.fr f e
  have F:=h.to f e;have hi1:=h.id _ U.1 U.2;have hi2:=h.id _ F.1 F.2;have hfi:0<=c.2.1.getD f 0/\c.2.1.getD f 0<(c.2.2.2.1.length:Int):=by omega
  have Z:0<=c.2.2.1.getD f 0/\c.2.2.1.getD f 0<(c.2.2.2.1.length:Int):=by omega
  have O:f<c.2.2.1.length:=by omega
  simp only[Ao,e,O,decide_true,cond_true,Af e,Af O,if_true,tNC,and_self,hfi,Z,AcK h hi1 (Af e),AcK h (Af e) hi2,bind_some];rw[Aw (by omega) (by omega)]
  show(JK c f=true->_)/\_;unfold JK idn;by_cases b1:T c (c.2.2.2.1.getD (c.2.1.getD f 0).toNat 0).toNat f=(f:Int)
  .by_cases b2:T c f (c.2.2.2.1.getD (c.2.2.1.getD f 0).toNat 0).toNat=(f:Int)
   .simp only[b1,b2,decide_true,Bool.not_true,cond_false,bind_some,Bool.and_self]
    exact⟨λ_=>rfl,(λh=>by cases h)⟩
   .simp only[b1,b2,decide_true,decide_false,Bool.not_true,Bool.not_false,cond_false,cond_true,bind_some,Bool.and_false]
    exact⟨(λh=>by cases h),λ_=>⟨_,rfl,by simp⟩⟩
  .simp only[b1,decide_false,Bool.not_false,cond_true,bind_some,Bool.false_and]
   exact⟨(λh=>by cases h),λ_=>⟨_,rfl,by simp⟩⟩
 .show ∃r,(if 0=0 then _ else none)=some r/\_
  rw[if_pos rfl];refine Ch (Post:=fun(z:Option (Int×Int×Int×Int))=>∃r,z=some r/\(decide (r.1=0)=IK c)) (st:=λi=>(i:Int)) (n:=c.2.1.length) (p:=λf=>(range c.2.1.length).all λg=>bif mt c f g then(range c.2.1.length).all λh=>Hf c f g h else true) (Q:=fun(r:Int×Int×Int×Int)=>r.1≠0) (o:=.brk 2 (c.2.1.length:Int)) (λf e=>?_) (by simp) (λy=>by simp) (λY=>?_) (λY r E=>?_)
  .simp only[Ao,e,decide_true,cond_true]
   refine Ch (Post:=fun(z:Option (LO Int (Int×Int×Int×Int)))=>(((range c.2.1.length).all λg=>bif mt c f g then(range c.2.1.length).all λh=>Hf c f g h else true)=true->z=some (.next ((f+1:Nat):Int)))/\(((range c.2.1.length).all λg=>bif mt c f g then(range c.2.1.length).all λh=>Hf c f g h else true)=false->∃r,z=some (.ret r)/\r.1≠0))
    (st:=λi=>(i:Int)) (n:=c.2.1.length) (p:=λg=>bif mt c f g then(range c.2.1.length).all λh=>Hf c f g h else true) (Q:=fun(r:LO Int (Int×Int×Int×Int))=>∃r',r=.ret r'/\r'.1≠0) (o:=.brk 4 (c.2.1.length:Int)) (λg u=>?_) (by simp) (λy=>by simp) (λA=>?_) (λA r E=>?_)
   .simp only[Ao,u,decide_true,cond_true,AcK h (Af e) (Af u),tNC,bind_some]
    rw[Aw (show(0:Int)<=(g:Int)+1 by omega) (by omega)]
    cases hm:mt c f g with
    |false=>
     have:=h.neg f g e u hm;simp only[this,show((-1:Int)<0) by decide,decide_true,cond_true,cond_false]
     exact⟨λ_=>rfl,(λh=>by cases h)⟩
    |true=>
     obtain⟨q1,q2,q3,q4⟩:=h.pos f g e u hm;simp only[show ¬ (T c f g<0) by omega,decide_false,cond_false,cond_true]
     refine Ch (Post:=fun(z:Option (LO Int (LO Int (Int×Int×Int×Int))))=>(((range c.2.1.length).all λh=>Hf c f g h)=true->z=some (.next ((g+1:Nat):Int)))/\(((range c.2.1.length).all λh=>Hf c f g h)=false->∃r,z=some (.ret r)/\∃r',r=.ret r'/\r'.1≠0))
      (st:=λi=>(i:Int)) (n:=c.2.1.length) (p:=λh=>Hf c f g h) (Q:=fun(r:LO Int (LO Int (Int×Int×Int×Int)))=>∃r',r=.ret (.ret r')/\r'.1≠0) (o:=.brk 6 (c.2.1.length:Int)) (λk J=>?_) (by simp) (λy=>by simp) (λA=>?_) (λA r E=>?_)
     .simp only[Ao,J,decide_true,cond_true,AcK h (Af u) (Af J),tNC,bind_some]
      rw[Aw (show(0:Int)<=(k:Int)+1 by omega) (by omega)]
      unfold Hf;cases H:mt c g k with
      |false=>
       have:=h.neg g k u J H;simp only[this,show ¬ ((0:Int)<=-1) by decide,decide_false,cond_false,bind_some]
       exact⟨λ_=>rfl,(λh=>by cases h)⟩
      |true=>
       obtain⟨w1,w2,w3,w4⟩:=h.pos g k u J H;simp only[w1,decide_true,cond_true,AcK h (Af e) (Af u),AcK h ⟨q1,q2⟩ (Af J),AcK h (Af e) ⟨w1,w2⟩,tNC,bind_some];by_cases b:T c (T c f g).toNat k=T c f (T c g k).toNat
       .simp only[b,decide_true,Bool.not_true,cond_false]
        exact⟨λ_=>rfl,(λh=>by cases h)⟩
       .simp only[b,decide_false,Bool.not_false,cond_true]
        exact⟨(λh=>by cases h),λ_=>⟨_,rfl,_,rfl,by simp⟩⟩
     .refine⟨λ_=>?_,(λh=>by rw[A]at h;cases h)⟩
      show(if 6=6 then some (LO.next ((g:Int)+1))else none)=_
      rw[if_pos rfl];rfl
     .obtain⟨r',rfl,B⟩:=E
      exact⟨(λh=>by rw[A]at h;cases h),λ_=>⟨_,rfl,r',rfl,B⟩⟩
   .refine⟨λ_=>?_,(λh=>by rw[A]at h;cases h)⟩
    show(if 4=4 then some (LO.next (wrap .i64 ((f:Int)+1)))else none)=_
    rw[if_pos rfl,Aw (by omega) (by omega)];rfl
   .obtain⟨r',rfl,B⟩:=E
    exact⟨(λh=>by rw[A]at h;cases h),λ_=>⟨r',rfl,B⟩⟩
  .exact⟨_,rfl,by unfold IK;rw[W,Y];rfl⟩
  .exact⟨r,rfl,by unfold IK;rw[W,Y];simpa using E⟩
 .exact⟨r,rfl,by unfold IK;rw[W];simpa using E⟩
open Go Go.Ve
theorem p89(h:Sh c):∃r,G89 c=some r/\(decide (r.1=0)=IK c):=by
 have hh:=h.hd;obtain⟨a1,a2,a3,a4,a5,a6,a7,a8⟩:=hh;unfold G89;refine Ch (Post:=fun(z:Option (Int×Int×Int×Int))=>∃r,z=some r/\(decide (r.1=0)=IK c)) (st:=λi=>(i:Int)) (n:=c.2.1.length) (p:=JK c) (Q:=fun(r:Int×Int×Int×Int)=>r.1≠0) (o:=.brk 0 (c.2.1.length:Int)) (λf A=>?_) (by simp) (λy=>by simp) (λhu=>?_) (λhu r H=>?_)
 .have hf1:=h.fr f A
  have J:=h.to f A;have Z:=h.id _ hf1.1 hf1.2;have hi2:=h.id _ J.1 J.2;have hfi:0<=c.2.1.getD f 0/\c.2.1.getD f 0<(c.2.2.2.1.length:Int):=by omega
  have hti:0<=c.2.2.1.getD f 0/\c.2.2.1.getD f 0<(c.2.2.2.1.length:Int):=by omega
  have u:f<c.2.2.1.length:=by omega
  have e:f<c.2.2.2.2.length:=by omega
  have Y:0<=c.2.2.2.1.getD (c.2.1.getD f 0).toNat 0/\c.2.2.2.1.getD (c.2.1.getD f 0).toNat 0<(c.2.2.2.2.length:Int):=by rw[a6];exact Z
  have hr1:=h.row _ (inN Z);have B:f<(c.2.2.2.2.getD (c.2.2.2.1.getD (c.2.1.getD f 0).toNat 0).toNat []).length:=by rw[hr1];exact A
  have W:0<=c.2.2.2.1.getD (c.2.2.1.getD f 0).toNat 0/\c.2.2.2.1.getD (c.2.2.1.getD f 0).toNat 0<((c.2.2.2.2.getD f []).length:Int):=by rw[h.row f A];exact hi2
  simp only[Ao,A,u,e,decide_true,cond_true,Af A,Af u,Af e,if_true,tNC,and_self,hfi,hti,Y,W,Af B,B,bind_some];rw[Aw (by omega) (by omega)]
  show(JK c f=true->_)/\_;unfold JK idn T;by_cases b1:(c.2.2.2.2.getD (c.2.2.2.1.getD (c.2.1.getD f 0).toNat 0).toNat []).getD f 0=(f:Int)
  .by_cases b2:(c.2.2.2.2.getD f []).getD (c.2.2.2.1.getD (c.2.2.1.getD f 0).toNat 0).toNat 0=(f:Int)
   .simp only[b1,b2,decide_true,Bool.not_true,cond_false,bind_some,Bool.and_self]
    exact⟨λ_=>rfl,(λh=>by cases h)⟩
   .simp only[b1,b2,decide_true,decide_false,Bool.not_true,Bool.not_false,cond_false,cond_true,bind_some,Bool.and_false]
    exact⟨(λh=>by cases h),λ_=>⟨_,rfl,by simp⟩⟩
  .simp only[b1,decide_false,Bool.not_false,cond_true,bind_some,Bool.false_and]
   exact⟨(λh=>by cases h),λ_=>⟨_,rfl,by simp⟩⟩
 .show ∃r,(if 0=0 then _ else none)=some r/\_
  rw[if_pos rfl];refine Ch (Post:=fun(z:Option (Int×Int×Int×Int))=>∃r,z=some r/\(decide (r.1=0)=IK c)) (st:=λi=>(i:Int)) (n:=c.2.1.length) (p:=λf=>(range c.2.1.length).all λg=>bif mt c f g then(range c.2.1.length).all λh=>Hf c f g h else true) (Q:=fun(r:Int×Int×Int×Int)=>r.1≠0) (o:=.brk 2 (c.2.1.length:Int)) (λf A=>?_) (by simp) (λy=>by simp) (λhv=>?_) (λhv r H=>?_)
  .simp only[Ao,A,decide_true,cond_true]
   refine Ch (Post:=fun(z:Option (LO Int (Int×Int×Int×Int)))=>(((range c.2.1.length).all λg=>bif mt c f g then(range c.2.1.length).all λh=>Hf c f g h else true)=true->z=some (.next ((f+1:Nat):Int)))/\(((range c.2.1.length).all λg=>bif mt c f g then(range c.2.1.length).all λh=>Hf c f g h else true)=false->∃r,z=some (.ret r)/\r.1≠0))
    (st:=λi=>(i:Int)) (n:=c.2.1.length) (p:=λg=>bif mt c f g then(range c.2.1.length).all λh=>Hf c f g h else true) (Q:=fun(r:LO Int (Int×Int×Int×Int))=>∃r',r=.ret r'/\r'.1≠0) (o:=.brk 4 (c.2.1.length:Int)) (λg hg=>?_) (by simp) (λy=>by simp) (λE=>?_) (λE r H=>?_)
   .have u:f<c.2.2.1.length:=by omega
    have hg3:g<c.2.2.1.length:=by omega
    have e:f<c.2.2.2.2.length:=by omega
    have hg6:g<c.2.2.2.2.length:=by omega
    simp only[Ao,hg,u,decide_true,cond_true,Af hg,Af u,and_self,if_true,tNC];rw[Aw (show(0:Int)<=(g:Int)+1 by omega) (by omega)]
    show(((bif mt c f g then _ else true)=true)->(bif !mt c f g then _ else _)=_)/\(_->∃r,(bif !mt c f g then _ else _)=_/\_);cases hm:mt c f g with
    |false=>exact⟨λ_=>rfl,(λh=>by cases h)⟩
    |true=>
     obtain⟨q1,q2,q3,q4⟩:=h.pos f g A hg hm;simp only[Bool.not_true,cond_false,cond_true]
     refine Ch (Post:=fun(z:Option (LO Int (LO Int (Int×Int×Int×Int))))=>(((range c.2.1.length).all λh=>Hf c f g h)=true->z=some (.next ((g+1:Nat):Int)))/\(((range c.2.1.length).all λh=>Hf c f g h)=false->∃r,z=some (.ret r)/\∃r',r=.ret r'/\r'.1≠0))
      (st:=λi=>(i:Int)) (n:=c.2.1.length) (p:=λh=>Hf c f g h) (Q:=fun(r:LO Int (LO Int (Int×Int×Int×Int)))=>∃r',r=.ret (.ret r')/\r'.1≠0) (o:=.brk 6 (c.2.1.length:Int)) (λk hk=>?_) (by simp) (λy=>by simp) (λE=>?_) (λE r H=>?_)
     .have e1:(c.2.2.2.2.getD f []).length=c.2.1.length:=h.row f A
      have e2:(c.2.2.2.2.getD g []).length=c.2.1.length:=h.row g hg;have e3:(c.2.2.2.2.getD (T c f g).toNat []).length=c.2.1.length:=h.row _ (inN ⟨q1,q2⟩);have hgf:g<(c.2.2.2.2.getD f []).length:=by omega
      have U:k<(c.2.2.2.2.getD g []).length:=by omega
      have hkt:k<(c.2.2.2.2.getD (T c f g).toNat []).length:=by omega
      have ht:0<=T c f g/\T c f g<(c.2.2.2.2.length:Int):=by omega
      simp only[Ao,hk,hg3,decide_true,cond_true,Af hk,Af hg3,Af e,Af hg6,Af hgf,Af U,e,hg6,hgf,U,and_self,if_true,tNC];rw[Aw (show(0:Int)<=(k:Int)+1 by omega) (by omega)]
      have eM:decide (c.2.2.1.getD g 0=c.2.1.getD k 0)=mt c g k:=rfl;have eT:∀a b,(c.2.2.2.2.getD a []).getD b 0=T c a b:=λ_ _=>rfl
      have O:(k:Int)<((c.2.2.2.2.getD (T c f g).toNat []).length:Int):=by omega
      simp only[eM,eT,O,and_self,if_true];unfold Hf;cases hm2:mt c g k with
      |false=>exact⟨λ_=>rfl,(λh=>by cases h)⟩
      |true=>
       obtain⟨w1,w2,w3,w4⟩:=h.pos g k hg hk hm2;have hw':0<=T c g k/\T c g k<((c.2.2.2.2.getD f []).length:Int):=by omega
       simp only[cond_true,ht,Af hkt,hw',and_self,if_true,bind_some];by_cases b:T c (T c f g).toNat k=T c f (T c g k).toNat
       .simp only[b,decide_true,Bool.not_true,cond_false]
        exact⟨λ_=>rfl,(λh=>by cases h)⟩
       .simp only[b,decide_false,Bool.not_false,cond_true]
        exact⟨(λh=>by cases h),λ_=>⟨_,rfl,_,rfl,by simp⟩⟩
     .refine⟨λ_=>?_,(λh=>by rw[E]at h;cases h)⟩
      show(if 6=6 then some (LO.next ((g:Int)+1))else none)=_
      rw[if_pos rfl];rfl
     .obtain⟨r',rfl,F⟩:=H
      exact⟨(λh=>by rw[E]at h;cases h),λ_=>⟨_,rfl,r',rfl,F⟩⟩
   .refine⟨λ_=>?_,(λh=>by rw[E]at h;cases h)⟩
    show(if 4=4 then some (LO.next (wrap .i64 ((f:Int)+1)))else none)=_
    rw[if_pos rfl,Aw (by omega) (by omega)];rfl
   .obtain⟨r',rfl,F⟩:=H
    exact⟨(λh=>by rw[E]at h;cases h),λ_=>⟨r',rfl,F⟩⟩
  .exact⟨_,rfl,by unfold IK;rw[hu,hv];rfl⟩
  .exact⟨r,rfl,by unfold IK;rw[hu,hv];simpa using H⟩
 .exact⟨r,rfl,by unfold IK;rw[hu];simpa using H⟩
open Go Go.Ve
def Jm(c:Cat):Bool:=Hp c&&IK c
def p44(h:okC c):G44 c=some (Jm c):=by
 unfold G44;simp only[p88 h,bind_some];unfold Jm;cases e:Hp c with
 |false=>rfl
 |true=>
  obtain⟨r,u,A⟩:=p89 (Acs e);simp only[u,bind_some,A,Bool.not_true,cond_false,Bool.true_and]
def p51(h:okC c):G51 c=some (Jm c):=by
 unfold G51;simp only[p97 h,bind_some];unfold Jm;cases e:Hp c with
 |false=>rfl
 |true=>
  obtain⟨r,u,A⟩:=p98 (Acs e);simp only[u,bind_some,A,Bool.not_true,cond_false,Bool.true_and]
abbrev Qry:=List Int×List (Int×Int)×List (Int×Int)×List Int
def qHead(c:Cat)(q:Qry):Prop:=q.1.length<=4/\wi c.1 q.1=true/\q.2.1.length<=6/\q.2.2.1.length=q.2.1.length/\q.2.2.2.length<=4/\wi q.1.length q.2.2.2=true
instance(c:Cat)(q:Qry):Decidable (qHead c q):=by unfold qHead;infer_instance
open Go Go.Ve
open Go Go.Ve
end Go.Ve.D


namespace Go.Ve.D
open Go Go.Ve
variable{k:Int}{x:List Int}{i:Nat}{α:Type}
def DM{x:List α}(d:α)(hi:i<x.length):x.take i++[x.getD i d]=x.take (i+1):=by
 rw[List.take_add_one];simp[hi]
def Q7(x:List α):x.take x.length=x:=List.take_length
def CQ{x:List α}(d:α)(hi:i<x.length):x.getD i d∈x:=by
 rw[gDE,gEE hi];exact List.getElem_mem hi
def mk(x:List Int)(k:Int):List Int:=(range x.length).map fun(i:Nat)=>k+(i:Int)
def Ki:(mk x k).length=x.length:=by simp[mk]
def Abu(hi:i<x.length):(mk x k).getD i 0=k+(i:Int):=by
 simp[mk,hi]
theorem p23(E:0<=k)(B:k<=1152921504606846976)(h:x.length<=1048576):G23 (x,k)=some (k+(x.length:Int),mk x k):=by
 unfold G23;have u:((k,((0:Int),x)):Int×Int×List Int)=(λi:Nat=>(k+(i:Int),((i:Int),(mk x k).take i++x.drop i))) 0:=by simp
 simp only[u];refine A6 (v:=.brk 0 (k+(x.length:Int),((x.length:Int),mk x k))) (Bi (st:=λi:Nat=>(k+(i:Int),((i:Int),(mk x k).take i++x.drop i))) (n:=x.length) (λi hi=>?_) ?_ (λy=>by simp)) rfl
 .have e:((mk x k).take i++x.drop i).length=x.length:=by simp[Ki];omega
  simp only[e,Ao,hi,decide_true,cond_true,Af hi,if_true,tNC,and_self];have A:=HN (x:=mk x k) (y:=x) (i:=i) 0 Ki.symm (by rw[Ki];exact hi)
  rw[Abu hi]at A;rw[A,Is (by omega) (by omega),Aw (by omega) (by omega)]
  simp only[Int.natCast_add,Int.add_assoc];rfl
 .have e:((mk x k).take x.length++x.drop x.length)=mk x k:=by
   rw[List.drop_length,List.append_nil];exact List.take_of_length_le (by rw[Ki];exact Nat.le_refl _)
  simp only[e,Ki,Ao,Nat.lt_irrefl,decide_false,cond_false]
theorem p43(A:0<=k)(u:k<=1152921504606846976)(h:x.length<=1048576):G43 (mk x k,k)=some (k+(x.length:Int)):=by
 unfold G43;have e:((k,(0:Int)):Int×Int)=(λi:Nat=>(k+(i:Int),(i:Int))) 0:=by simp
 simp only[e];refine A6 (v:=.brk 0 (k+(x.length:Int),(x.length:Int))) (Bi (st:=λi:Nat=>(k+(i:Int),(i:Int))) (n:=x.length) (λi hi=>?_) ?_ (λy=>by simp)) rfl
 .simp only[Ki,Ao,hi,decide_true,cond_true,Af hi,if_true,tNC,and_self,Abu hi,Bool.not_true,cond_false]
  rw[Is (by omega) (by omega),Aw (by omega) (by omega)]
  simp only[Int.natCast_add,Int.add_assoc];rfl
 .simp only[Ki,Ao,Nat.lt_irrefl,decide_false,cond_false]
def tot(x:List (List Int))(i:Nat):Nat:=((x.take i).map List.length).sum
def Mt{x:List (List Int)}(hi:i<x.length):tot x (i+1)=tot x i+(x.getD i []).length:=by
 unfold tot;rw[<-DM [] hi];simp
def NU{x:List (List Int)}(e:∀y∈x,y.length<=1048576):∀i,i<=x.length->tot x i<=i*1048576
 |0,_=>by simp[tot]
 |i+1,hi=>by
  rw[Mt (by omega)]
  have:=NU e i (by omega)
  have:=e _ (CQ [] (show i<x.length by omega))
  omega
def mks(x:List (List Int))(k:Int):List (List Int):=(range x.length).map fun(i:Nat)=>mk (x.getD i []) (k+(tot x i:Int))
def Dw{x:List (List Int)}:(mks x k).length=x.length:=by simp[mks]
def Yj{x:List (List Int)}(hi:i<x.length):(mks x k).getD i []=mk (x.getD i []) (k+(tot x i:Int)):=by
 simp[mks,hi]
theorem p28{x:List (List Int)}(O:0<=k)(J:k<=1125899906842624)(h:x.length<=1048576)(A:∀y∈x,y.length<=1048576):G28 (x,k)=some (k+(tot x x.length:Int),mks x k):=by
 unfold G28;have u:((k,((0:Int),x)):Int×Int×List (List Int))=(λi:Nat=>(k+(tot x i:Int),((i:Int),(mks x k).take i++x.drop i))) 0:=by simp[tot]
 simp only[u];refine A6 (v:=.brk 0 (k+(tot x x.length:Int),((x.length:Int),mks x k))) (Bi (st:=λi:Nat=>(k+(tot x i:Int),((i:Int),(mks x k).take i++x.drop i))) (n:=x.length) (λi hi=>?_) ?_ (λy=>by simp)) rfl
 .have e:((mks x k).take i++x.drop i).length=x.length:=by simp[Dw];omega
  have F:((mks x k).take i++x.drop i).getD i []=x.getD i []:=by
   simp only[gDE];rw[gAR (by simp[Dw];omega)]
   simp[Dw,Nat.min_eq_left (Nat.le_of_lt hi)]
  have H:=NU A i (Nat.le_of_lt hi);have E:=A _ (CQ [] hi);simp only[e,F,Ao,hi,decide_true,cond_true,Af hi,if_true,tNC,and_self,p23 (x:=x.getD i []) (k:=k+(tot x i:Int)) (by omega) (by omega) E,bind_some]
  have B:=HN (x:=mks x k) (y:=x) (i:=i) [] Dw.symm (by rw[Dw];exact hi)
  rw[Yj hi]at B;rw[B,Aw (by omega) (by omega),Mt hi]
  simp only[Int.natCast_add,Int.add_assoc];rfl
 .have e:((mks x k).take x.length++x.drop x.length)=mks x k:=by
   rw[List.drop_length,List.append_nil];exact List.take_of_length_le (by rw[Dw];exact Nat.le_refl _)
  simp only[e,Dw,Ao,Nat.lt_irrefl,decide_false,cond_false]
def mh23(e:0<=k)(u:k<=1125899906842624)(h:x.length<=1048576):∃k' y,G23 (x,k)=some (k',y)/\0<=k'/\k'<=k+2199023255552/\G43 (y,k)=some k':=
 ⟨_,_,p23 e (by omega) h,by omega,by omega,p43 e (by omega) h⟩
abbrev Fun:=Int×List Int×List Int×List Int×List (List Int)×Int×List Int×List Int×List Int×List (List Int)×List Int×List Int
def srcF(f:Fun):Cat:=(f.1,(f.2.1,(f.2.2.1,(f.2.2.2.1,f.2.2.2.2.1))))
def tgtF(f:Fun):Cat:=(f.2.2.2.2.2.1,(f.2.2.2.2.2.2.1,(f.2.2.2.2.2.2.2.1,(f.2.2.2.2.2.2.2.2.1,f.2.2.2.2.2.2.2.2.2.1))))
def okF(f:Fun):Prop:=okC (srcF f)/\okC (tgtF f)/\f.2.2.2.2.2.2.2.2.2.2.1.length<=1048576/\f.2.2.2.2.2.2.2.2.2.2.2.length<=1048576
end Go.Ve.D


namespace Go.Ve.D
open Go Go.Ve
def Nm{c:Cat}(h:Jm c=true):Sh c:=by
 unfold Jm at h;rw[bAE]at h;exact Acs h.1
def AbE{α R:Type}{f:(Int×List α)->Option (LO (Int×List α) R)}{n:Nat}{q:Nat->Bool}{g:Nat->α}{id:Nat}
  (B:∀i,i<n->∀e:List α,e.length<=i->f ((i:Int),e)=some (.next (((i+1:Nat):Int),bif q i then e++[g i]else e)))
  (A:∀e:List α,f ((n:Int),e)=some (.brk id ((n:Int),e))):
  Ap f ((0:Int),[])=some (.brk id ((n:Int),((range n).filter q).map g)):=by
 have key:∀i,(((range i).filter q).map g).length<=i:=λi=>by
  rw[List.length_map];have:=List.length_filter_le q (range i);rwa [List.length_range]at this
 refine Bi (st:=λi:Nat=>((i:Int),((range i).filter q).map g)) (n:=n) (λi hi=>?_) (A _) (λy=>by simp)
 rw[B i hi _ (key i),List.range_succ,List.filter_append,List.map_append]
 congr 3
 cases u:q i<;>simp[u]
def fT(c:Cat)(f:Nat):Int:=c.2.1.getD f 0
def tT(c:Cat)(f:Nat):Int:=c.2.2.1.getD f 0
def ar(c:Cat):Nat:=c.2.1.length
theorem p64{x:List Int}(h:x.length<=1048576)(a:Int):G64 (x,a)=some (x.contains a):=by
 unfold G64;simp only
 have e:x.contains a= !((range x.length).all λi=>!decide (x.getD i 0=a)):=by
  rw[K0 (0:Int) (λb=>!decide (b=a)) x,Bool.eq_iff_iff]
  simp[List.contains_eq_mem]
 refine A6 (BU (st:=λi:Nat=>(i:Int)) (n:=x.length) (p:=λi=>!decide (x.getD i 0=a)) (r:=true) (o:=.brk 0 (x.length:Int)) (λi hi=>?_) ?_ (λy=>by simp)) ?_
 .simp only[Ao,hi,decide_true,cond_true,Af hi,if_true,and_self,tNC]
  rw[Aw (by omega) (by omega)]
  cases decide (x.getD i 0=a)<;>rfl
 .simp only[Ao,Nat.lt_irrefl,decide_false,cond_false]
 .rw[e]
  cases (range x.length).all λi=>!decide (x.getD i 0=a)<;>rfl
def risB(x:List Int):Bool:=(range (x.length-1)).all λi=>!decide (x.getD (i+1) 0<=x.getD i 0)
def arrC(c:Cat)(w:List Int):Int:=bif !Jm c then 1 else bif !wi (ar c) w then 2 else 0
def AdK(c:Cat)(w:List Int):Int:=bif decide (arrC c w=0)&& !risB w then 5 else arrC c w
end Go.Ve.D


namespace Go.Ve.D
open Go Go.Ve
def any_fm{m:Nat}{q:Nat->Bool}{Q:Int->Bool}:(((range m).filter q).map fun(f:Nat)=>(f:Int)).any Q=(range m).any λf=>q f&&Q (f:Int):=by
 rw[List.any_map,List.any_filter];rfl
end Go.Ve.D


namespace Go.Ve.D
open Go Go.Ve
def hit(c:Cat)(w:List Int)(f v:Nat)(b a:Int):Bool:=w.contains b&&decide (T c b.toNat f=T c a.toNat v)
end Go.Ve.D


namespace Go.Ve.D
open Go Go.Ve
variable{i m:Nat}{q:Nat->Bool}
def M4(c:Cat)(x:Int):List Int:=((range (ar c)).filter λf=>decide (fT c f=x)).map fun(f:Nat)=>(f:Int)
theorem p118{c:Cat}(u:c.2.1.length<=1048576)(x:Int):G118 (c,x)=some (M4 c x):=by
 obtain⟨c1,c2,c3,c4,c5⟩:=c;unfold G118;simp only at u⊢;refine A6 (v:=.brk 0 ((c2.length:Int),M4 (c1,(c2,(c3,(c4,c5)))) x)) (AbE (λi hi e A=>?_) λe=>?_) rfl
 .simp only[Ao,hi,decide_true,cond_true,Af hi,if_true,and_self,tNC,List.length_cons,List.length_nil]
  rw[Aw (by omega) (by omega),if_pos (show e.length+(0+1)<=17592186044416 by omega)]
  show _=some (LO.next (((i+1:Nat):Int),bif decide (c2.getD i 0=x)then e++[(i:Int)]else e))
  cases decide (c2.getD i 0=x)<;>rfl
 .simp only[Ao,Nat.lt_irrefl,decide_false,cond_false]
def fm_get(hi:i<(((range m).filter q).map fun(f:Nat)=>(f:Int)).length):∃f:Nat,f<m/\q f=true/\(((range m).filter q).map fun(f:Nat)=>(f:Int)).getD i 0=(f:Int):=by
 have u:=CQ (0:Int) hi;obtain⟨f,A,e⟩:=List.mem_map.1 u;obtain⟨E,B⟩:=List.mem_filter.1 A;exact⟨f,mem_range.1 E,B,e.symm⟩
def fm_len:(((range m).filter q).map fun(f:Nat)=>(f:Int)).length<=m:=by
 rw[List.length_map];have:=List.length_filter_le q (range m);rwa [List.length_range]at this
def ZM{x:List Int}{q:Int->Bool}(hi:i<x.length):(x.take (i+1)).any q=((x.take i).any q||q (x.getD i 0)):=by
 rw[<-DM 0 hi,List.any_append];simp
end Go.Ve.D

