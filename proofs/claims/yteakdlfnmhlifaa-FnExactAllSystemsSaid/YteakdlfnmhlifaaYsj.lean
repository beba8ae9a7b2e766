/- Copies, sizes, marks. -/
import Derived.Test.YteakdlfnmhlifaaYsh
open List(replicate range mem_range Pairwise)
open Option(bind_some)
open Go.IntKind(wrap)
open Nat(le_refl lt_irrefl le_of_lt)
set_option linter.all false
namespace Go.Ve.D
open Go Go.Ve
variable{b k:Int}{x:List (List Int)}{i:Nat}{α:Type}
def Hy{x:List α}(d:α)(hi:i<x.length):x.take i++[x.getD i d]=x.take (i+1):=by
 rw[List.take_add_one];simp[hi]
def BR{x:List α}(d:α)(hi:i<x.length):x.getD i d∈x:=by
 rw[gDE,gEE hi];exact List.getElem_mem hi
theorem p18{x:List Int}(h:x.length<=1048576):G18 x=some x:=by
 unfold G18;rw[if_pos (by omega)]
 refine Af (v:=.brk 0 ((x.length:Int),x)) (A4 (st:=λi=>((i:Int),x.take i++(replicate x.length (0:Int)).drop i)) (n:=x.length) (λi hi=>?_) (by simp) (λy=>by simp)) rfl
 have e:(x.take i++(replicate x.length (0:Int)).drop i).length=x.length:=by simp;omega
 simp only[AQ,hi,decide_true,cond_true,Ab hi,if_true,e,tNC,and_self];rw[Jf 0 (by simp) hi,AP (by omega) (by omega)]
 rfl
theorem p36(h:x.length<=1048576)(A:∀y∈x,y.length<=1048576):G36 x=some x:=by
 unfold G36;rw[if_pos (by omega)]
 refine Af (v:=.brk 0 ((x.length:Int),x)) (A4 (st:=λi=>((i:Int),x.take i++(replicate x.length []).drop i)) (n:=x.length) (λi hi=>?_) (by simp) (λy=>by simp)) rfl
 have e:(x.take i++(replicate x.length ([]:List Int)).drop i).length=x.length:=by simp;omega
 have g:G18 (x.getD i [])=some (x.getD i []):=p18 (A _ (by rw[gDE,gEE hi];simp))
 simp only[AQ,hi,decide_true,cond_true,Ab hi,if_true,e,tNC,and_self,g,bind_some];rw[Jf [] (by simp) hi,AP (by omega) (by omega)]
 rfl
def p17{c}(h:okC c):G17 c=some c:=by
 obtain⟨F,B,h3,h4,A⟩:=h;unfold G17;simp only[p18 F,p18 B,p18 h3,p36 h4 A,bind_some]
theorem p21{x:List Int}(h:x.length<=1048576):G21 (x,x)=some true:=by
 unfold G21;simp only[decide_true,Bool.not_true,cond_false];refine Af (v:=.brk 0 (x.length:Int)) (A4 (st:=λi=>(i:Int)) (n:=x.length) (λi hi=>?_) (by simp) (λy=>by simp)) rfl
 simp only[AQ,hi,decide_true,cond_true,Ab hi,if_true,tNC,and_self,Bool.not_true,cond_false];rw[AP (by omega) (by omega)]
 rfl
theorem p27(h:x.length<=1048576)(A:∀y∈x,y.length<=1048576):G27 (x,x)=some true:=by
 unfold G27;simp only[decide_true,Bool.not_true,cond_false];refine Af (v:=.brk 0 (x.length:Int)) (A4 (st:=λi=>(i:Int)) (n:=x.length) (λi hi=>?_) (by simp) (λy=>by simp)) rfl
 have g:G21 (x.getD i [],x.getD i [])=some true:=p21 (A _ (by rw[gDE,gEE hi];simp))
 simp only[AQ,hi,decide_true,cond_true,Ab hi,if_true,tNC,and_self,Bool.not_true,cond_false,g,bind_some];rw[AP (by omega) (by omega)]
 rfl
def p20{c}(h:okC c):G20 (c,c)=some true:=by
 obtain⟨F,B,h3,h4,A⟩:=h;unfold G20;simp only[p21 F,p21 B,p21 h3,p27 h4 A,bind_some,decide_true,Bool.not_true,cond_false]
theorem p30{x:List Int}(B:0<=b/\b<=1048576)(A:x.length<=maxLen):∃r,G30 (x,b)=some r/\(r<0\/(r=b-x.length/\0<=r)):=by
 unfold G30;have hm:maxLen=9223372036854775807:=by decide
 rw[hm]at A;have e:wrap .i64 (b-(x.length:Int))=b-x.length:=Ij (by omega) (by omega)
 simp only[e];by_cases h:b-(x.length:Int)<0
 .exact⟨-1,by simp only[h,decide_true,cond_true],.inl (by decide)⟩
 .exact⟨_,by simp only[h,decide_false,cond_false],.inr ⟨rfl,by omega⟩⟩
theorem p31(hb:0<=b/\b<=1048576)(hx:x.length<=maxLen)(hy:∀y∈x,y.length<=maxLen):∃r,G31 (x,b)=some r/\(r<0\/(0<=r/\r<=b/\x.length<=1048576/\∀y∈x,y.length<=1048576)):=by
 unfold G31;have hm:maxLen=9223372036854775807:=by decide
 rw[hm]at hx;have e:wrap .i64 (b-(x.length:Int))=b-x.length:=Ij (by omega) (by omega)
 simp only[e];by_cases h:b-(x.length:Int)<0
 .exact⟨-1,by simp only[h,decide_true,cond_true],.inl (by decide)⟩
 .simp only[h,decide_false,cond_false]
  obtain⟨o,ho,Z⟩:=NJ (f:=(fun(v0:(Int×Int))=>(bif(decide (v0.2<((x.length:Nat):Int)))then(if(((0:Int)<=v0.2)/\(v0.2<((x.length:Nat):Int)))then(Option.bind (G30 ((x.getD (v0.2).toNat []),v0.1)) (fun(v1:Int)=>(bif(decide (v1<(0:Int)))then(Ck (some (-(1:Int))))else(some (LO.next (v1,(wrap .i64 (v0.2+(1:Int)))))))))else none)else(some (LO.brk 0 (v0.1,v0.2))))))
   (I:=λi s=>s.2=(i:Int)/\0<=s.1/\s.1<=b-x.length/\∀y∈x.take i,y.length<=1048576)
   (Q:=λo=>match o with
    |.brk id s=>id=0/\0<=s.1/\s.1<=b/\∀y∈x,y.length<=1048576
    |.ret r=>r<0
    |.next _=>False)
   (n:=x.length) (x:=(b-(x.length:Int),(0:Int))) ⟨rfl,by omega,by omega,by simp⟩
   (λi hi s Y=>by
    obtain⟨c,k⟩:=s;obtain⟨rfl,F,W,h3⟩:=Y;simp only at F W h3;have U:x.getD i []∈x:=by rw[gDE,gEE hi];simp
    obtain⟨r,hr,H⟩:=p30 (x:=x.getD i []) (b:=c) ⟨F,by omega⟩ (hy _ U)
    simp only[AQ,hi,decide_true,cond_true,Ab hi,if_true,tNC,and_self,hr,bind_some];by_cases B:r<0
    .right
     exact⟨.ret (-1),by simp only[B,decide_true,cond_true];rfl,(λy=>by simp),(by decide:(-1:Int)<0)⟩
    .left
     refine⟨(r,(i:Int)+1),by simp only[B,decide_false,cond_false,AP (show(0:Int)<=(i:Int)+1 by omega) (by omega)],rfl,by omega,?_,?_⟩
     .rcases H with h|⟨h,_⟩
      .exact absurd h B
      .simp only;omega
     .intro y A
      rw[List.take_add_one,List.mem_append]at A;rcases A with A|A
      .exact h3 y A
      .rw[gEE hi]at A
       have:y=x.getD i []:=by
        rw[gDE,gEE hi];simpa using A
       rw[this];rcases H with h|⟨h,h'⟩
       .exact absurd h B
       .omega)
   (λs Y=>by
    obtain⟨c,k⟩:=s;obtain⟨rfl,F,W,h3⟩:=Y;simp only at F W h3;refine⟨.brk 0 (c,(x.length:Int)),by simp,(λy=>by simp),rfl,F,by simp only;omega,λy A=>h3 y (by simpa using A)⟩)
  rw[ho];cases o with
  |next=>exact Z.elim
  |ret r=>exact⟨r,rfl,.inl Z⟩
  |brk id s=>
   obtain⟨rfl,F,W,h3⟩:=Z;exact⟨s.1,rfl,.inr ⟨F,W,by omega,h3⟩⟩
theorem p15{c}(h1:c.2.1.length<=maxLen)(h2:c.2.2.1.length<=maxLen)(h3:c.2.2.2.1.length<=maxLen)(h4:c.2.2.2.2.length<=maxLen)(h5:∀y∈c.2.2.2.2,y.length<=maxLen):
  ∃r,G15 (c,1048576)=some r/\(r<0\/(0<=r/\r<=1048576/\okC c)):=by
 unfold G15;obtain⟨W,e1,f1⟩:=p30 (b:=1048576) (by omega) h1
 simp only[e1,bind_some];by_cases n1:W<0
 .exact⟨-1,by simp only[n1,decide_true,cond_true],.inl (by decide)⟩
 simp only[n1,decide_false,cond_false];obtain⟨U,e2,f2⟩:=p30 (b:=W) (by omega) h2
 simp only[e2,bind_some];by_cases Z:U<0
 .exact⟨-1,by simp only[Z,decide_true,cond_true],.inl (by decide)⟩
 simp only[Z,decide_false,cond_false];obtain⟨H,e3,f3⟩:=p30 (b:=U) (by omega) h3
 simp only[e3,bind_some];by_cases Y:H<0
 .exact⟨-1,by simp only[Y,decide_true,cond_true],.inl (by decide)⟩
 simp only[Y,decide_false,cond_false];obtain⟨F,e4,A⟩:=p31 (b:=H) (by omega) h4 h5
 simp only[e4,bind_some];by_cases B:F<0
 .exact⟨-1,by simp only[B,decide_true,cond_true],.inl (by decide)⟩
 simp only[B,decide_false,cond_false];refine⟨F,rfl,.inr ?_⟩;have A:=A.resolve_left B;exact⟨A.1,by omega,by omega,by omega,by omega,A.2.2.1,A.2.2.2⟩
def mk(x:List Int)(k:Int):List Int:=(range x.length).map fun(i:Nat)=>k+(i:Int)
def Ka{x:List Int}:(mk x k).length=x.length:=by simp[mk]
def Aa0{x:List Int}(hi:i<x.length):(mk x k).getD i 0=k+(i:Int):=by
 simp[mk,hi]
theorem p23{x:List Int}(F:0<=k)(B:k<=1152921504606846976)(h:x.length<=1048576):G23 (x,k)=some (k+(x.length:Int),mk x k):=by
 unfold G23;have A:((k,((0:Int),x)):Int×Int×List Int)=(λi:Nat=>(k+(i:Int),((i:Int),(mk x k).take i++x.drop i))) 0:=by simp
 simp only[A];refine Af (v:=.brk 0 (k+(x.length:Int),((x.length:Int),mk x k))) (A4 (st:=λi:Nat=>(k+(i:Int),((i:Int),(mk x k).take i++x.drop i))) (n:=x.length) (λi hi=>?_) ?_ (λy=>by simp)) rfl
 .have e:((mk x k).take i++x.drop i).length=x.length:=by simp[Ka];omega
  simp only[e,AQ,hi,decide_true,cond_true,Ab hi,if_true,tNC,and_self];have hm:=Jf (x:=mk x k) (y:=x) (i:=i) 0 Ka.symm (by rw[Ka];exact hi)
  rw[Aa0 hi]at hm;rw[hm,Ij (by omega) (by omega),AP (by omega) (by omega)]
  simp only[Int.natCast_add,Int.add_assoc];rfl
 .have e:((mk x k).take x.length++x.drop x.length)=mk x k:=by
   rw[List.drop_length,List.append_nil];exact List.take_of_length_le (by rw[Ka];exact le_refl _)
  simp only[e,Ka,AQ,lt_irrefl,decide_false,cond_false]
theorem p43{x:List Int}(F:0<=k)(B:k<=1152921504606846976)(h:x.length<=1048576):G43 (mk x k,k)=some (k+(x.length:Int)):=by
 unfold G43;have A:((k,(0:Int)):Int×Int)=(λi:Nat=>(k+(i:Int),(i:Int))) 0:=by simp
 simp only[A];refine Af (v:=.brk 0 (k+(x.length:Int),(x.length:Int))) (A4 (st:=λi:Nat=>(k+(i:Int),(i:Int))) (n:=x.length) (λi hi=>?_) ?_ (λy=>by simp)) rfl
 .simp only[Ka,AQ,hi,decide_true,cond_true,Ab hi,if_true,tNC,and_self,Aa0 hi,Bool.not_true,cond_false]
  rw[Ij (by omega) (by omega),AP (by omega) (by omega)]
  simp only[Int.natCast_add,Int.add_assoc];rfl
 .simp only[Ka,AQ,lt_irrefl,decide_false,cond_false]
def tot(x:List (List Int))(i:Nat):Nat:=((x.take i).map List.length).sum
def Mk(hi:i<x.length):tot x (i+1)=tot x i+(x.getD i []).length:=by
 unfold tot;rw[<-Hy [] hi];simp
def NI{x:List (List Int)}(A:∀y∈x,y.length<=1048576):∀i,i<=x.length->tot x i<=i*1048576
 |0,_=>by simp[tot]
 |i+1,hi=>by
  rw[Mk (by omega)]
  have:=NI A i (by omega)
  have:=A _ (BR [] (show i<x.length by omega))
  omega
def mks(x:List (List Int))(k:Int):List (List Int):=(range x.length).map fun(i:Nat)=>mk (x.getD i []) (k+(tot x i:Int))
def Dq:(mks x k).length=x.length:=by simp[mks]
def XN(hi:i<x.length):(mks x k).getD i []=mk (x.getD i []) (k+(tot x i:Int)):=by
 simp[mks,hi]
theorem p28(Y:0<=k)(W:k<=1125899906842624)(h:x.length<=1048576)(B:∀y∈x,y.length<=1048576):G28 (x,k)=some (k+(tot x x.length:Int),mks x k):=by
 unfold G28;have A:((k,((0:Int),x)):Int×Int×List (List Int))=(λi:Nat=>(k+(tot x i:Int),((i:Int),(mks x k).take i++x.drop i))) 0:=by simp[tot]
 simp only[A];refine Af (v:=.brk 0 (k+(tot x x.length:Int),((x.length:Int),mks x k))) (A4 (st:=λi:Nat=>(k+(tot x i:Int),((i:Int),(mks x k).take i++x.drop i))) (n:=x.length) (λi hi=>?_) ?_ (λy=>by simp)) rfl
 .have e:((mks x k).take i++x.drop i).length=x.length:=by simp[Dq];omega
  have H:((mks x k).take i++x.drop i).getD i []=x.getD i []:=by
   simp only[gDE];rw[gAR (by simp[Dq];omega)]
   simp[Dq,Nat.min_eq_left (le_of_lt hi)]
  have U:=NI B i (le_of_lt hi);have F:=B _ (BR [] hi);simp only[e,H,AQ,hi,decide_true,cond_true,Ab hi,if_true,tNC,and_self,p23 (x:=x.getD i []) (k:=k+(tot x i:Int)) (by omega) (by omega) F,bind_some]
  have hm:=Jf (x:=mks x k) (y:=x) (i:=i) [] Dq.symm (by rw[Dq];exact hi)
  rw[XN hi]at hm;rw[hm,AP (by omega) (by omega),Mk hi]
  simp only[Int.natCast_add,Int.add_assoc];rfl
 .have e:((mks x k).take x.length++x.drop x.length)=mks x k:=by
   rw[List.drop_length,List.append_nil];exact List.take_of_length_le (by rw[Dq];exact le_refl _)
  simp only[e,Dq,AQ,lt_irrefl,decide_false,cond_false]
def mh23{x:List Int}(A:0<=k)(B:k<=1125899906842624)(h:x.length<=1048576):∃k' y,G23 (x,k)=some (k',y)/\0<=k'/\k'<=k+2199023255552/\G43 (y,k)=some k':=
 ⟨_,_,p23 A (by omega) h,by omega,by omega,p43 A (by omega) h⟩
theorem p29(W:0<=k)(U:k<=1125899906842624)(h:x.length<=1048576)(B:∀y∈x,y.length<=1048576):G29 (mks x k,k)=some (k+(tot x x.length:Int)):=by
 unfold G29;have A:((k,(0:Int)):Int×Int)=(λi:Nat=>(k+(tot x i:Int),(i:Int))) 0:=by simp[tot]
 simp only[A];refine Af (v:=.brk 0 (k+(tot x x.length:Int),(x.length:Int))) (A4 (st:=λi:Nat=>(k+(tot x i:Int),(i:Int))) (n:=x.length) (λi hi=>?_) ?_ (λy=>by simp)) rfl
 .have H:=NI B i (le_of_lt hi)
  have F:=B _ (BR [] hi);have m:¬ (k+(tot x i:Int)+((x.getD i []).length:Int)<0):=by omega
  simp only[Dq,AQ,hi,decide_true,cond_true,Ab hi,if_true,tNC,and_self,XN hi,p43 (x:=x.getD i []) (k:=k+(tot x i:Int)) (by omega) (by omega) F,bind_some,m,decide_false,cond_false]
  rw[AP (by omega) (by omega),Mk hi]
  simp only[Int.natCast_add,Int.add_assoc];rfl
 .simp only[Dq,AQ,lt_irrefl,decide_false,cond_false]
def mk28(F:0<=k)(B:k<=1125899906842624)(h:x.length<=1048576)(A:∀y∈x,y.length<=1048576):∃k' y,G28 (x,k)=some (k',y)/\0<=k'/\k'<=k+1099511627776:=by
 have H:=NI A x.length (le_refl _);exact⟨_,_,p28 F B h A,by omega,by omega⟩
def mk22{c:Cat}(U:0<=k)(h1:k<=562949953421312)(h:okC c):∃k' y,G22 (c,k)=some (k',y)/\0<=k'/\k'<=k+8796093022208:=by
 obtain⟨g1,g2,Z,Y,W⟩:=h;obtain⟨k1,H,a1,b1,c1,d1⟩:=mh23 U (by omega) g1
 obtain⟨k2,F,a2,b2,c2,d2⟩:=mh23 b1 (by omega) g2
 obtain⟨k3,B,a3,b3,c3,d3⟩:=mh23 b2 (by omega) Z
 obtain⟨k4,A,a4,b4,c4⟩:=mk28 b3 (by omega) Y W
 refine⟨k4,(H,(F,(B,A))),?_,b4,by omega⟩
 unfold G22;simp only[a1,a2,a3,a4,bind_some]
end Go.Ve.D


namespace Go.Ve.D
open Go Go.Ve
noncomputable section
variable{c:Cat}{d:Int}{f g n:Nat}{q:Nat->Bool}
def DX:(((range n).filter q).map fun(i:Nat)=>(i:Int)).length<=n:=by
 rw[List.length_map];have:=List.length_filter_le q (range n);rwa [List.length_range]at this
def Hr:d∈(((range n).filter q).map fun(i:Nat)=>(i:Int))↔ ∃f,f<n/\q f=true/\d=(f:Int):=by
 simp only[List.mem_map,List.mem_filter,mem_range];exact⟨fun⟨f,⟨B,A⟩,h3⟩=>⟨f,B,A,h3.symm⟩,fun⟨f,B,A,h3⟩=>⟨f,⟨B,A⟩,h3.symm⟩⟩
theorem I6:wi n (((range n).filter q).map fun(i:Nat)=>(i:Int))=true:=by
 unfold wi;rw[aET];intro d hd;obtain⟨f,A,_,rfl⟩:=Hr.1 hd;exact ZY (by omega) (by omega)
def idv(c:Cat)(x:Int):Int:=c.2.2.2.1.getD x.toNat 0
def cat_T(F:BY c=true)(B:f<ar c)(A:g<ar c)(h:tT c f=fT c g):∃k:Nat,T c f g=(k:Int)/\k<ar c/\fT c k=fT c f/\tT c k=tT c g:=by
 obtain⟨g1,g2,U,H⟩:=(Cv F).pos f g B A (dT h);refine⟨(T c f g).toNat,by omega,?_,U,H⟩
 have:T c f g<(ar c:Int):=g2;omega
def Yw(B:BY c=true):(∀f,f<ar c->Hu c f=true)/\∀f g h,f<ar c->g<ar c->h<ar c->mt c f g=true->Du c f g h=true:=by
 unfold BY HU at B;simp only[bAE]at B;obtain⟨_,W,U⟩:=B;refine⟨λf A=>aET.1 W f (mem_range.2 A),λf g h A H F hm=>?_⟩
 have h3:=aET.1 (aET.1 U f (mem_range.2 A)) g (mem_range.2 H);rw[hm]at h3;exact aET.1 h3 h (mem_range.2 F)
def Nq(Z:BY c=true){h k l:Nat}(Y:f<ar c)(W:g<ar c)(U:h<ar c)(B:tT c f=fT c g)(A:tT c g=fT c h)(H:T c f g=(k:Int))(F:T c g h=(l:Int)):T c k h=T c f l:=by
 have:=(Yw Z).2 f g h Y W U (dT B);unfold Du at this;rw[show mt c g h=true from dT A,H,F]at this
 exact of_decide_eq_true this
def UN(U:BY c=true){x:Int}(B:0<=x/\x<c.1):∃i:Nat,idv c x=(i:Int)/\idn c x=i/\i<ar c/\fT c i=x/\tT c i=x:=by
 have F:=Cv U;obtain⟨a1,a2⟩:=F.id x B.1 B.2;have Y:(c.2.2.2.1.length:Int)=c.1:=F.hd.2.2.2.2.2.2.1;obtain⟨i,hi⟩:∃i:Nat,idv c x=(i:Int):=⟨(idv c x).toNat,by have:0<=idv c x:=a1;omega⟩
 have H:idn c x=i:=by show(idv c x).toNat=i;rw[hi];rfl
 have A:=U;unfold BY HA at A;simp only[bAE]at A;have W:=aET.1 A.1.2.1 x.toNat (mem_range.2 (by omega))
 unfold X7 at W;rw[bAE,decide_eq_true_eq,decide_eq_true_eq,show(c.2.2.2.1.getD x.toNat 0).toNat=i from H]at W
 refine⟨i,hi,H,?_,?_,?_⟩
 .have:idv c x<(ar c:Int):=a2
  omega
 .show c.2.1.getD i 0=x;omega
 .show c.2.2.1.getD i 0=x;omega
def UM(B:BY c=true){i:Nat}(A:f<ar c)(hi:idn c (fT c f)=i):T c i f=(f:Int):=by
 have:=(Yw B).1 f A;unfold Hu at this;rw[bAE,decide_eq_true_eq]at this;rw[<-hi];exact this.1
theorem Abf{e m:Nat}{u v:Int}:d∈dg c e m u v↔ ∃k,k<ar c/\d=(k:Int)/\fT c k=tT c e/\tT c k=fT c m/\T c e k=u/\T c k m=v:=by
 unfold dg;rw[List.mem_filter,Kl];constructor
 .rintro ⟨⟨k,A,rfl,F,B⟩,h3⟩
  rw[bAE,decide_eq_true_eq,decide_eq_true_eq]at h3;exact⟨k,A,rfl,F,B,h3.1,h3.2⟩
 .rintro ⟨k,A,rfl,F,B,h3,h4⟩
  exact⟨⟨k,A,rfl,F,B⟩,by rw[bAE,decide_eq_true_eq,decide_eq_true_eq];exact⟨h3,h4⟩⟩
end
end Go.Ve.D


namespace Go.Ve.D
open Go Go.Ve
noncomputable section
variable{c:Cat}{a:Int}{w:List Int}{b e m:Nat}
theorem Aa1:(b:Int)∈rt c w↔b<ar c/\rq c w b=true:=by
 constructor
 .intro h
  obtain⟨f,B,A,h3⟩:=Hr.1 h;have:b=f:=by omega
  subst this;exact⟨B,A⟩
 .intro h;exact Hr.2 ⟨b,h.1,h.2,rfl⟩
theorem Aa2:(b:Int)∈lf c w↔b<ar c/\lq c w b=true:=by
 constructor
 .intro h
  obtain⟨f,B,A,h3⟩:=Hr.1 h;have:b=f:=by omega
  subst this;exact⟨B,A⟩
 .intro h;exact Hr.2 ⟨b,h.1,h.2,rfl⟩
def Uh{n:Nat}(A:wi n w=true)(B:a∈w):∃k:Nat,a=(k:Int)/\k<n:=by
 obtain⟨H,F⟩:=Kg.1 (aET.1 A a B);exact⟨a.toNat,by omega,by omega⟩
theorem sub_lf(F:wi (ar c) w=true)(B:a∈w):a∈lf c (rt c w):=by
 obtain⟨k,rfl,H⟩:=Uh F B;refine Aa2.2 ⟨H,aET.2 λb A=>?_⟩
 obtain⟨j,rfl,hj⟩:=Uh (n:=ar c) I6 A;exact aET.1 (Aa1.1 A).2 _ B
theorem rt_lf(B:wi (ar c) w=true):rt c (lf c (rt c w))=rt c w:=by
 unfold rt
 congr 1
 apply List.filter_congr;intro m hm;have hm:=mem_range.1 hm;rw[Bool.eq_iff_iff];constructor
 .intro h
  exact aET.2 λa A=>aET.1 h a (sub_lf B A)
 .intro h
  refine aET.2 λa A=>?_
  obtain⟨k,rfl,F⟩:=Uh (n:=ar c) I6 A;exact aET.1 (Aa2.1 A).2 _ (Aa1.2 ⟨hm,h⟩)
structure Iso(c:Cat)(f g:Nat):Prop where
 lt:g<ar c
 fr:fT c g=tT c f
 to:tT c g=fT c f
 l:T c f g=idv c (fT c f)
 r:T c g f=idv c (tT c f)
def og_of(h:∀u v,u<ar c->v<ar c->fT c u=fT c e->tT c u=fT c m->fT c v=tT c e->tT c v=tT c m->T c e v=T c u m->∃d,d<ar c/\dg c e m u v=[(d:Int)]):og c e m=true:=by
 unfold og;refine aET.2 λu' B=>aET.2 λv' A=>?_
 obtain⟨u,Y,rfl,W,U⟩:=Kl.1 B;obtain⟨v,hv,rfl,H,F⟩:=Kl.1 A;unfold ogV;rw[show((u:Int)).toNat=u from rfl,show((v:Int)).toNat=v from rfl]
 cases Z:decide (T c e v=T c u m)
 .rfl
 .obtain⟨d,_,hd⟩:=h u v Y hv W U H F (of_decide_eq_true Z)
  rw[hd];rfl
theorem dg_one{u v:Int}{d:Nat}(hd:d<ar c)(Y:fT c d=tT c e)(W:tT c d=fT c m)(h3:T c e d=u)(h4:T c d m=v)(H:∀k,k<ar c->fT c k=tT c e->tT c k=fT c m->T c e k=u->T c k m=v->k=d):dg c e m u v=[(d:Int)]:=by
 have hm:(d:Int)∈dg c e m u v:=Abf.2 ⟨d,hd,rfl,Y,W,h3,h4⟩
 have A:∀x∈dg c e m u v,x=(d:Int):=λx F=>by
  obtain⟨k,U,rfl,k1,k2,k3,k4⟩:=Abf.1 F;rw[H k U k1 k2 k3 k4]
 have B:(dg c e m u v).Nodup:=by
  unfold dg BQ List.Nodup;refine Pairwise.filter _ (List.pairwise_map.2 ((Pairwise.filter _ List.nodup_range).imp ?_));intro a b h e;exact h (by omega)
 match F:dg c e m u v,hm,A,B with
 |[],hm,_,_=>cases hm
 |[a],_,A,_=>rw[A a (by simp)]
 |a::b::l,_,A,B=>
  have e1:=A a (by simp)
  have Z:=A b (by simp)
  rw[e1,Z]at B;simp at B
theorem Ue(A:BY c=true){f g:Nat}(hb:b<ar c)(F:f<ar c)(h:Iso c f g):og c f b=true:=by
 have hs:=Cv A;refine og_of λu v B hv U W v1 v2 he=>?_
 obtain⟨i,i1,i2,i3,i4,i5⟩:=UN A (x:=fT c f) (hs.fr f F);obtain⟨j,j1,j2,j3,j4,j5⟩:=UN A (x:=tT c f) (hs.to f F);obtain⟨d,hd,H,Z,Y⟩:=cat_T A h.lt B (h.to.trans U.symm);obtain⟨w,hw,hw1,hw2,hw3⟩:=cat_T A B hb W;refine⟨d,H,dg_one H (Z.trans h.fr) (Y.trans W) ?_ ?_ λk hk k1 k2 k3 k4=>?_⟩
 .-- f;(g;u) = (f;g);u = u
  rw[<-Nq A F h.lt B h.fr.symm (h.to.trans U.symm) (h.l.trans i1) hd];exact UM A B (by rw[U];exact i2)
 .-- (g;u);b = g;(u;b) = g;(f;v) = (g;f);v = v
  rw[Nq A h.lt B hb (h.to.trans U.symm) W hd hw,<-Nq A h.lt F hv h.to v1.symm (h.r.trans j1) (he.trans hw)];exact UM A hv (by rw[v1];exact j2)
 .-- k = (g;f);k = g;(f;k) = g;u
  have:=Nq A h.lt F hk h.to k1.symm (h.r.trans j1) k3;rw[hd,UM A hk (by rw[k1];exact j2)]at this
  omega
end
end Go.Ve.D

