/- Set functors: what makes them; sieves. -/
import Derived.Test.YtmmmafnkggaknaaGreatYnc
set_option linter.all false
namespace Go.Ve.D
open Go Go.Ve
variable{f:SF}
theorem p90(h:FS f):∃r,G90 f=some r/\decide (r.1=0)=(idS f&&coS f):=by
 obtain⟨a1,a2,a3,a4,a5,a6,a7,a8⟩:=h.sh.hd;have l1:((f.2.2.2.2.2.1.length:Nat):Int)=f.1:=h.l1;have l2:f.2.2.2.2.2.2.length=ar (shS f):=h.l2;have c4:((f.2.2.2.1.length:Nat):Int)=f.1:=a7;have c5:f.2.2.2.2.1.length=ar (shS f):=a6;have hf1:f.1<=8:=a1.2;have hm:ar (shS f)<=40:=a2;unfold G90 idS;refine Q8 (n:=f.2.2.2.1.length) (p:=λx=>(List.range (sz f (x:Int)).toNat).all (Ot f x)) (bad:=WG) (id:=0) (Post:=λb (o:Option R4)=>∃r,o=some r/\decide (r.1=0)=(b&&coS f)) (λx hx=>?_) ?_ ?_ (λr hr=>⟨r,rfl,hr⟩)
 .have hz:=h.szi (x:=(x:Int)) ⟨by omega,by omega⟩
  obtain⟨n,Z⟩:∃n:Nat,sz f (x:Int)=(n:Int):=⟨(sz f (x:Int)).toNat,by omega⟩
  obtain⟨a,A,ea,ef⟩:=h.ida hx;have ea':f.2.2.2.1.getD x 0=(a:Int):=ea;have W:a<f.2.2.2.2.2.2.length:=by omega
  have E:(act f a).length=n:=by
   have:=h.al a A;rw[ef,Z]at this;omega
  have u:(f.2.2.2.2.2.2.getD a []).length=n:=E;simp only[Am,hx,decide_true,cond_true,Ac hx,ea',Ac W,and_self,if_true,tNC,u];rw[Z,tNC];refine YI (n:=n) (p:=Ot f x) (bad:=WG) (id:=2) (s:=((x+1:Nat):Int)) (λe J=>?_) ?_ ?_
  .simp only[J,decide_true,cond_true,Ac J,and_self,if_true,tNC]
   rw[Ah (by omega) (by omega)]
   unfold Ot;rw[ea,tNC];show Oo _ _ (decide ((f.2.2.2.2.2.2.getD a []).getD e 0=(e:Int))) _;cases decide ((f.2.2.2.2.2.2.getD a []).getD e 0=(e:Int))with
   |true=>exact Cn rfl
   |false=>exact Co ⟨_,rfl,_,rfl,rfl⟩
  .simp only[Am,Nat.lt_irrefl,decide_false,cond_false]
  .show(if 2=2 then _ else none)=_
   rw[if_pos rfl,Ah (by omega) (by omega)];rfl
 .have e:decide (((f.2.2.2.1.length:Nat):Int)<((f.2.2.2.1.length:Nat):Int))=false:=by rw[Am];exact dF (Nat.lt_irrefl _)
  simp only[e,cond_false]
 .show ∃r,(if 0=0 then _ else none)=some r/\_
  rw[if_pos rfl,Bool.true_and];unfold coS;refine Q8 (n:=ar (shS f)) (p:=λa=>(List.range (ar (shS f))).all (coB f a)) (bad:=WG) (id:=4) (Post:=λb (o:Option R4)=>∃r,o=some r/\decide (r.1=0)=b) (λa A=>?_) ?_ ⟨_,rfl,rfl⟩ (λr hr=>⟨r,rfl,hr⟩)
  .have r1:a<f.2.2.2.2.1.length:=by omega
   have er:(f.2.2.2.2.1.getD a []).length=ar (shS f):=h.sh.row a A;have q4:a<f.2.2.2.2.2.2.length:=by omega
   simp only[Am,r1,decide_true,cond_true,Ac r1,and_self,if_true,tNC,er];refine YI (n:=ar (shS f)) (p:=coB f a) (bad:=WG) (id:=6) (s:=((a+1:Nat):Int)) (λb U=>?_) ?_ ?_
   .simp only[U,decide_true,cond_true,Ac U,and_self,if_true,tNC]
    unfold coB;cases B:mt (shS f) a b with
    |false=>
     have e:(f.2.2.2.2.1.getD a []).getD b 0= -1:=h.sh.neg a b A U B;have e0:decide ((f.2.2.2.2.1.getD a []).getD b 0<0)=true:=dT (by omega)
     refine Cn ?_;simp only[e0,cond_true];rw[Ah (by omega) (by omega)];rfl
    |true=>
     obtain⟨t1,t2,_⟩:=h.sh.pos a b A U B;obtain⟨t,et⟩:∃t:Nat,T (shS f) a b=(t:Int):=⟨(T (shS f) a b).toNat,by omega⟩
     have et':(f.2.2.2.2.1.getD a []).getD b 0=(t:Int):=et;have e0:decide ((t:Int)<0)=false:=dF (by omega)
     obtain⟨f1,f2⟩:=h.sh.fr a A;obtain⟨z1,z2⟩:=h.szi (x:=fT (shS f) a) ⟨f1,f2⟩;have W:=h.al a A;obtain⟨n,Z⟩:∃n:Nat,sz f (fT (shS f) a)=(n:Int):=⟨(sz f (fT (shS f) a)).toNat,by omega⟩
     have E:(act f a).length=n:=by omega
     have u:(f.2.2.2.2.2.2.getD a []).length=n:=E;rw[Bool.not_true,Bool.false_or,Z,tNC];simp only[et',e0,cond_false,Ac q4,and_self,if_true,u,tNC];refine YI (n:=n) (p:=V9 f a b) (bad:=lift WG) (id:=8) (s:=((b+1:Nat):Int)) (λe J=>?_) ?_ ?_
     .have he':e<(act f a).length:=by omega
      obtain⟨t',ht,et2,hl,d,ed,hd⟩:=h.el A U B he';have e3:t'=t:=by omega
      rw[e3]at ht hl;have ed':(f.2.2.2.2.2.2.getD a []).getD e 0=(d:Int):=ed;have q1:t<f.2.2.2.2.2.2.length:=by omega
      have q2:e<(f.2.2.2.2.2.2.getD t []).length:=hl;have q3:b<f.2.2.2.2.2.2.length:=by omega
      have q6:d<(f.2.2.2.2.2.2.getD b []).length:=hd;simp only[Am,J,decide_true,cond_true,Ac J,Ac q1,Ac q2,Ac q3,ed',Ac q6,and_self,if_true,tNC];rw[Ah (by omega) (by omega)]
      unfold V9;rw[et,ed,tNC,tNC];show Oo _ _ (decide ((f.2.2.2.2.2.2.getD t []).getD e 0=(f.2.2.2.2.2.2.getD b []).getD d 0)) _;cases decide ((f.2.2.2.2.2.2.getD t []).getD e 0=(f.2.2.2.2.2.2.getD b []).getD d 0)with
      |true=>exact Cn rfl
      |false=>exact Co ⟨_,rfl,_,rfl,_,rfl,rfl⟩
     .simp only[Am,Nat.lt_irrefl,decide_false,cond_false]
     .show(if 8=8 then _ else none)=_
      rw[if_pos rfl,Ah (by omega) (by omega)];rfl
   .simp only[Am,Nat.lt_irrefl,decide_false,cond_false]
   .show(if 6=6 then _ else none)=_
    rw[if_pos rfl,Ah (by omega) (by omega)];rfl
  .have e:decide (((ar (shS f):Nat):Int)<((f.2.2.2.2.1.length:Nat):Int))=false:=by rw[Am];exact dF (by omega)
   simp only[e,cond_false]
def Dp(f:SF):Bool:=Hj f&&(idS f&&coS f)
def p55(h:okS f):G55 f=some (Dp f):=by
 unfold G55 Dp;have e:=p95 h;simp only[Prod.eta,e,Option.bind_some];cases hs:Hj f with
 |false=>rfl
 |true=>
  obtain⟨r,A,u⟩:=p96 (Aac hs);simp only[Bool.not_true,cond_false,A,Option.bind_some,Bool.true_and,u]
def p51(h:okS f):G51 f=some (Dp f):=by
 unfold G51 Dp;have e:=p89 h;simp only[Prod.eta,e,Option.bind_some];cases hs:Hj f with
 |false=>rfl
 |true=>
  obtain⟨r,A,u⟩:=p90 (Aac hs);simp only[Bool.not_true,cond_false,A,Option.bind_some,Bool.true_and,u]
def BD(h:Dp f=true):FS f:=by
 unfold Dp at h;rw[bAE]at h;exact Aac h.1
def p92{x:List Int}(h:x.length<=1048576)(a:Int):G92 (x,a)=some (x.contains a):=p98 h a
def ZG{c:Cat}{x:Int}{q:Int->Bool}:(List.range (Vp c x).length).all (λi=>q ((Vp c x).getD i 0))=(List.range (ar c)).all λb=>!decide (fT c b=x)||q (b:Int):=by
 rw[Io (0:Int) q];unfold Vp;rw[List.all_map,List.all_filter];rfl
end Go.Ve.D


namespace Go.Ve.D
open Go Go.Ve
noncomputable section
def Ow{α R:Type}{F:(Int×List α)->Option (LO (Int×List α) R)}{n:Nat}{g:Nat->α}{id:Nat}
  (B:∀i,i<n->∀e:List α,e.length=i->F ((i:Int),e)=some (.next (((i+1:Nat):Int),e++[g i])))
  (A:∀e:List α,F ((n:Int),e)=some (.brk id ((n:Int),e))):
  Aj F ((0:Int),[])=some (.brk id ((n:Int),(List.range n).map g)):=by
 refine CZ (st:=λi:Nat=>((i:Int),(List.range i).map g)) (n:=n) (λi u=>?_) (A _) (λy=>by simp)
 rw[B i u _ (by simp),List.range_succ,List.map_append]
 rfl
end
end Go.Ve.D


namespace Go.Ve.D
open Go Go.Ve
noncomputable section
def Pu{x:List (List Int)}{n:Nat}(e:∀y∈x,y.length<=n)(i:Nat):(x.getD i []).length<=n:=by
 by_cases u:i<x.length
 .exact e _ (DE _ u)
 .rw[gDE,List.getElem?_eq_none (by omega)];exact Nat.zero_le _
end
end Go.Ve.D


namespace Go.Ve.D
open Go Go.Ve
noncomputable section
def FS.ends{f:SF}(h:FS f){a:Nat}(e:a<ar (shS f)):a<f.2.1.length/\a<f.2.2.1.length/\a<f.2.2.2.2.2.2.length/\∃X Y:Nat,f.2.1.getD a 0=(X:Int)/\f.2.2.1.getD a 0=(Y:Int)/\X<f.2.2.2.2.2.1.length/\Y<f.2.2.2.2.2.1.length/\f.2.2.2.2.2.1.getD X 0=((act f a).length:Int)/\wi (f.2.2.2.2.2.1.getD Y 0) (act f a)=true:=by
 obtain⟨a1,a2,a3,a4,a5,a6,a7,a8⟩:=h.sh.hd;have l1:((f.2.2.2.2.2.1.length:Nat):Int)=f.1:=h.l1;have l2:f.2.2.2.2.2.2.length=ar (shS f):=h.l2;have J:f.2.2.1.length=ar (shS f):=a3;have U:f.2.1.length=ar (shS f):=rfl;obtain⟨E,B⟩:=h.sh.fr a e;obtain⟨A,u⟩:=h.sh.to a e;have E:0<=f.2.1.getD a 0:=E;have B:f.2.1.getD a 0<f.1:=B;have A:0<=f.2.2.1.getD a 0:=A;have u:f.2.2.1.getD a 0<f.1:=u;exact⟨e,by omega,by omega,(f.2.1.getD a 0).toNat,(f.2.2.1.getD a 0).toNat,by omega,by omega,by omega,by omega,(h.al a e).symm,h.aw a e⟩
end
end Go.Ve.D


namespace Go.Ve.D
open Go Go.Ve
noncomputable section
variable{p:List (List Int)}{f:SF}
abbrev okL(p:List (List Int)):Prop:=p.length<=1048576/\∀y∈p,y.length<=1048576
def Dw(f:SF)(p:List (List Int))(a e:Nat):Bool:=(p.getD (tT (shS f) a).toNat []).contains ((act f a).getD ((p.getD (fT (shS f) a).toNat []).getD e 0).toNat 0)
def Vi(f:SF)(p:List (List Int)):Bool:=(List.range (ar (shS f))).all λa=>(List.range (p.getD (fT (shS f) a).toNat []).length).all (Dw f p a)
def Lk(f:SF)(p:List (List Int))(i:Nat):Bool:=OY (p.getD i [])&&wi ((szF f).getD i 0) (p.getD i [])
def Bo(f:SF)(p:List (List Int)):Bool:=decide (((p.length:Nat):Int)=(((szF f).length:Nat):Int))&&((List.range p.length).all (Lk f p)&&Vi f p)
structure PT2(f:SF)(p:List (List Int)):Prop where
 l:p.length=f.2.2.2.2.2.1.length
 w:∀i,i<p.length->wi (f.2.2.2.2.2.1.getD i 0) (p.getD i [])=true
theorem Zy(e:decide (((p.length:Nat):Int)=(((szF f).length:Nat):Int))=true)(A:(List.range p.length).all (Lk f p)=true):PT2 f p:=by
 have e:((p.length:Nat):Int)=((f.2.2.2.2.2.1.length:Nat):Int):=of_decide_eq_true e;refine⟨by omega,λi u=>?_⟩
 have:=aET.1 A i (List.mem_range.2 u);unfold Lk at this;rw[bAE]at this;exact this.2
def DO(h:Bo f p=true):PT2 f p:=by
 unfold Bo at h;rw[bAE,bAE]at h;exact Zy h.1 h.2.1
def PT2.el(A:FS f)(h:PT2 f p){a e X:Nat}(E:a<ar (shS f))(hX:f.2.1.getD a 0=(X:Int))(B:e<(p.getD X []).length):∃d:Nat,(p.getD X []).getD e 0=(d:Int)/\d<(act f a).length:=by
 obtain⟨i1,i2,i3,X',Y',x1,W,x2,U,Z,J⟩:=A.ends E;have u:X'=X:=by omega
 subst u;have l:=h.l;obtain⟨g1,g2⟩:=Cx (h.w X' (by omega)) B
 exact⟨((p.getD X' []).getD e 0).toNat,by omega,by omega⟩
def PT2.len{f:SF}(h:okL p)(X:Nat):(p.getD X []).length<=1048576:=Pu h.2 X
theorem p56(B:FS f)(A:okL p):G56 (f,p)=some (Bo f p):=by
 unfold G56 Bo;have l2:f.2.2.2.2.2.2.length=ar (shS f):=B.l2;have hm:ar (shS f)<=40:=B.sh.hd.2.1;have hpl:=A.1;have e2:decide (((p.length:Nat):Int)=((f.2.2.2.2.2.1.length:Nat):Int))=decide (((p.length:Nat):Int)=(((szF f).length:Nat):Int)):=rfl;simp only[e2];cases hh:decide (((p.length:Nat):Int)=(((szF f).length:Nat):Int))with
 |false=>rfl
 |true=>
  have h1:((p.length:Nat):Int)=((f.2.2.2.2.2.1.length:Nat):Int):=of_decide_eq_true hh;simp only[Bool.not_true,cond_false,Bool.true_and];refine BK (st:=λi:Nat=>(i:Int)) (n:=p.length) (p:=Lk f p) (Q:=λr:Bool=>r=false) (o:=.brk 0 (p.length:Int)) (Post:=λo:Option Bool=>o=some ((List.range p.length).all (Lk f p)&&Vi f p)) (λi hi=>?_) ?_ (λy=>by simp) (λu=>?_) (λu r J=>?_)
  .have h2:i<f.2.2.2.2.2.1.length:=by omega
   simp only[Am,hi,decide_true,cond_true,Ac hi,Ac h2,and_self,if_true,tNC,p97 (Pu A.2 i),p80 (Pu A.2 i),Option.bind_some];rw[Ah (by omega) (by omega)]
   show Oo _ _ (OY (p.getD i [])&&wi (f.2.2.2.2.2.1.getD i 0) (p.getD i [])) _;cases OY (p.getD i [])with
   |false=>exact Co ⟨_,rfl,rfl⟩
   |true=>
    rw[Bool.true_and];cases wi (f.2.2.2.2.2.1.getD i 0) (p.getD i [])with
    |true=>exact Cn rfl
    |false=>exact Co ⟨_,rfl,rfl⟩
  .simp only[Am,Nat.lt_irrefl,decide_false,cond_false]
  .show(if 0=0 then _ else none)=_
   rw[if_pos rfl,u,Bool.true_and];have U:=Zy hh u;unfold Vi;refine Q8 (n:=ar (shS f)) (p:=λa=>(List.range (p.getD (fT (shS f) a).toNat []).length).all (Dw f p a)) (bad:=λr:Bool=>r=false) (id:=2) (Post:=λb (o:Option Bool)=>o=some b) (λa ha=>?_) ?_ rfl (λr J=>by rw[J])
   .obtain⟨i1,i2,i3,X,Y,E,y1,x2,y2,x3,y3⟩:=B.ends ha
    have hXp:X<p.length:=by omega
    have Z:Y<p.length:=by omega
    have eX:fT (shS f) a=(X:Int):=E;have hXl:=Pu A.2 X;simp only[Am,i3,decide_true,cond_true,Ac i1,Ac i2,Ac i3,E,y1,eX,Ac hXp,Ac Z,and_self,if_true,tNC];refine YI (n:=(p.getD X []).length) (p:=Dw f p a) (bad:=λr:Bool=>r=false) (id:=4) (s:=((a+1:Nat):Int)) (λe W=>?_) ?_ ?_
    .obtain⟨d,d1,d2⟩:=U.el B ha E W
     have d2':d<(f.2.2.2.2.2.2.getD a []).length:=d2;simp only[Am,W,decide_true,cond_true,Ac W,d1,Ac d2',and_self,if_true,tNC,p98 (Pu A.2 Y),Option.bind_some];rw[Ah (by omega) (by omega)]
     have e5:Dw f p a e=(p.getD Y []).contains ((f.2.2.2.2.2.2.getD a []).getD d 0):=by
      unfold Dw;rw[show tT (shS f) a=(Y:Int)from y1,eX,tNC,tNC,d1,tNC]
      rfl
     rw[e5];cases (p.getD Y []).contains ((f.2.2.2.2.2.2.getD a []).getD d 0)with
     |true=>exact Cn rfl
     |false=>exact Co ⟨_,rfl,_,rfl,rfl⟩
    .simp only[Am,Nat.lt_irrefl,decide_false,cond_false]
    .show(if 4=4 then _ else none)=_
     rw[if_pos rfl,Ah (by omega) (by omega)];rfl
   .have e:decide (((ar (shS f):Nat):Int)<((f.2.2.2.2.2.2.length:Nat):Int))=false:=by rw[Am];exact dF (by omega)
    simp only[e,cond_false]
  .rw[u,J];rfl
theorem p52(A:FS f)(B:okL p):G52 (f,p)=some (Bo f p):=by
 unfold G52 Bo;have l2:f.2.2.2.2.2.2.length=ar (shS f):=A.l2;have hm:ar (shS f)<=40:=A.sh.hd.2.1;have hpl:=B.1;have e2:decide (((p.length:Nat):Int)=((f.2.2.2.2.2.1.length:Nat):Int))=decide (((p.length:Nat):Int)=(((szF f).length:Nat):Int)):=rfl;simp only[e2];cases hh:decide (((p.length:Nat):Int)=(((szF f).length:Nat):Int))with
 |false=>rfl
 |true=>
  have h1:((p.length:Nat):Int)=((f.2.2.2.2.2.1.length:Nat):Int):=of_decide_eq_true hh;have l1:((f.2.2.2.2.2.1.length:Nat):Int)=f.1:=A.l1;simp only[Bool.not_true,cond_false,Bool.true_and];refine BK (st:=λi:Nat=>(i:Int)) (n:=p.length) (p:=Lk f p) (Q:=λr:Bool=>r=false) (o:=.brk 0 (p.length:Int)) (Post:=λo:Option Bool=>o=some ((List.range p.length).all (Lk f p)&&Vi f p)) (λi hi=>?_) ?_ (λy=>by simp) (λu=>?_) (λu r U=>?_)
  .have h2:i<f.2.2.2.2.2.1.length:=by omega
   obtain⟨E,z2⟩:=A.szi (x:=(i:Int)) ⟨by omega,by omega⟩
   have E:0<=f.2.2.2.2.2.1.getD i 0:=E;have z2:f.2.2.2.2.2.1.getD i 0<=16:=z2;have e7:G84 (p.getD i [],f.2.2.2.2.2.1.getD i 0)=some (wi (f.2.2.2.2.2.1.getD i 0) (p.getD i [])):=p84 ⟨E,by omega⟩ (Pu B.2 i)
   simp only[Am,hi,decide_true,cond_true,Ac hi,Ac h2,and_self,if_true,tNC,p91 (Pu B.2 i),e7,Option.bind_some];rw[Ah (by omega) (by omega)]
   show Oo _ _ (OY (p.getD i [])&&wi (f.2.2.2.2.2.1.getD i 0) (p.getD i [])) _;cases OY (p.getD i [])with
   |false=>exact Co ⟨_,rfl,rfl⟩
   |true=>
    rw[Bool.true_and];cases wi (f.2.2.2.2.2.1.getD i 0) (p.getD i [])with
    |true=>exact Cn rfl
    |false=>exact Co ⟨_,rfl,rfl⟩
  .simp only[Am,Nat.lt_irrefl,decide_false,cond_false]
  .show(if 0=0 then _ else none)=_
   rw[if_pos rfl,u,Bool.true_and];have W:=Zy hh u;unfold Vi;refine Q8 (n:=ar (shS f)) (p:=λa=>(List.range (p.getD (fT (shS f) a).toNat []).length).all (Dw f p a)) (bad:=λr:Bool=>r=false) (id:=2) (Post:=λb (o:Option Bool)=>o=some b) (λa ha=>?_) ?_ rfl (λr U=>by rw[U])
   .obtain⟨i1,i2,i3,X,Y,J,y1,x2,y2,x3,y3⟩:=A.ends ha
    have hXp:X<p.length:=by omega
    have hYp:Y<p.length:=by omega
    have eX:fT (shS f) a=(X:Int):=J;have hXl:=Pu B.2 X;simp only[Am,i3,decide_true,cond_true,Ac i1,Ac i2,Ac i3,J,y1,eX,Ac hXp,Ac hYp,and_self,if_true,tNC];refine YI (n:=(p.getD X []).length) (p:=Dw f p a) (bad:=λr:Bool=>r=false) (id:=4) (s:=((a+1:Nat):Int)) (λe Z=>?_) ?_ ?_
    .obtain⟨d,d1,d2⟩:=W.el A ha J Z
     have d2':d<(f.2.2.2.2.2.2.getD a []).length:=d2;simp only[Am,Z,decide_true,cond_true,Ac Z,d1,Ac d2',and_self,if_true,tNC,p92 (Pu B.2 Y),Option.bind_some];rw[Ah (by omega) (by omega)]
     have e5:Dw f p a e=(p.getD Y []).contains ((f.2.2.2.2.2.2.getD a []).getD d 0):=by
      unfold Dw;rw[show tT (shS f) a=(Y:Int)from y1,eX,tNC,tNC,d1,tNC]
      rfl
     rw[e5];cases (p.getD Y []).contains ((f.2.2.2.2.2.2.getD a []).getD d 0)with
     |true=>exact Cn rfl
     |false=>exact Co ⟨_,rfl,_,rfl,rfl⟩
    .simp only[Am,Nat.lt_irrefl,decide_false,cond_false]
    .show(if 4=4 then _ else none)=_
     rw[if_pos rfl,Ah (by omega) (by omega)];rfl
   .have e:decide (((ar (shS f):Nat):Int)<((f.2.2.2.2.2.2.length:Nat):Int))=false:=by rw[Am];exact dF (by omega)
    simp only[e,cond_false]
  .rw[u,U];rfl
end
end Go.Ve.D


namespace Go.Ve.D
open Go Go.Ve
noncomputable section
variable{b:Bool}{N d i n:Nat}{q:Nat->Nat->Bool}{f:SF}
def Cf{X R:Type}{f:X->Option (LO X R)}{st:Nat->X}{o:LO X R}{e:X}(E:st 0=e)(B:∀i,i<n->f (st i)=some (.next (st (i+1))))(A:f (st n)=some o)(u:∀y,o≠.next y):Aj f e=some o:=E▸CZ B A u
theorem NZ{q:Nat->Bool}:((List.range n).map q).set d b=(List.range n).map λe=>if e=d then b else q e:=by
 apply List.ext_getElem (by simp)
 intro i A u;simp only[List.getElem_set,List.getElem_map,List.getElem_range];by_cases h:d=i
 .rw[if_pos h,if_pos h.symm]
 .rw[if_neg h,if_neg λe=>h e.symm]
theorem set2{X:Nat}{nx:Nat->Nat}:((List.range N).map λx=>(List.range (nx x)).map (q x)).set X (((List.range (nx X)).map (q X)).set d b)=(List.range N).map λx=>(List.range (nx x)).map λe=>if x=X/\e=d then b else q x e:=by
 rw[NZ];apply List.ext_getElem (by simp)
 intro i B A;simp only[List.getElem_set,List.getElem_map,List.getElem_range];by_cases h:X=i
 .subst h
  rw[if_pos rfl];refine List.map_congr_left λe _=>?_
  by_cases u:e=d
  .rw[if_pos u,if_pos ⟨rfl,u⟩]
  .rw[if_neg u,if_neg λh=>u h.2]
 .rw[if_neg h]
  refine List.map_congr_left λe _=>?_
  rw[if_neg λe=>h e.1.symm]
def Ia{nx:Nat->Nat}{r:Nat->Nat->Bool}(h:∀x,x<N->∀e,e<nx x->q x e=r x e):((List.range N).map λx=>(List.range (nx x)).map (q x))=(List.range N).map λx=>(List.range (nx x)).map (r x):=
 List.map_congr_left λx u=>List.map_congr_left λe A=>h x (List.mem_range.1 u) e (List.mem_range.1 A)
def XF{α:Type}{q:Nat->α}{z:α}(e:i<n):((List.range n).map q).getD i z=q i:=by
 rw[gDE,List.getElem?_map,List.getElem?_range e];rfl
def XS{w:List Int}{k:Nat}(e:k<w.length)(a:Int):(w.take (k+1)).contains a=((w.take k).contains a||decide (w.getD k 0=a)):=by
 rw[<-Ur 0 e,Bool.eq_iff_iff];simp only[List.contains_eq_mem,List.mem_append,List.mem_singleton,Bool.or_eq_true,decide_eq_true_eq];exact or_congr Iff.rfl eq_comm
def mkN(n:Nat)(w:List Int):List Bool:=(List.range n).map fun(e:Nat)=>w.contains (e:Int)
def inL(f:SF)(p:List (List Int)):List (List Bool):=(List.range f.2.2.2.2.2.1.length).map fun(x:Nat)=>mkN (sz f (x:Int)).toNat (p.getD x [])
def FS.size(A:FS f)(E:i<f.2.2.2.2.2.1.length):∃n:Nat,f.2.2.2.2.2.1.getD i 0=(n:Int)/\n<=16/\(sz f (i:Int)).toNat=n:=by
 have B:((f.2.2.2.2.2.1.length:Nat):Int)=f.1:=A.l1;obtain⟨u,e⟩:=A.szi (x:=(i:Int)) ⟨by omega,by omega⟩
 have u:0<=f.2.2.2.2.2.1.getD i 0:=u;have e:f.2.2.2.2.2.1.getD i 0<=16:=e;refine⟨(f.2.2.2.2.2.1.getD i 0).toNat,by omega,by omega,rfl⟩
theorem p99{p:List (List Int)}(hf:FS f)(hp:PT2 f p)(B:okL p):G99 (f,p)=some (inL f p):=by
 have l:=hp.l;have hlen:f.2.2.2.2.2.1.length<=1048576:=by have:=B.1;omega
 unfold G99;simp only;refine Ae (Ow (n:=f.2.2.2.2.2.1.length) (g:=fun(x:Nat)=>mkN (sz f (x:Int)).toNat (p.getD x [])) (id:=0) (λi W u ha=>?_) λu=>?_) rfl
 .obtain⟨n,hn,hn16,U⟩:=hf.size W
  have E:i<p.length:=by omega
  have hG:(0:Int)<=(n:Int)/\((n:Int)<=(n:Int)/\((1:Int)*(n:Int)<=(281474976710656:Int)/\(n:Int)<=(9223372036854775807:Int))):=by omega
  have hwl:=Pu B.2 i;have A:=hp.w i E;rw[hn]at A;simp only[Am,W,decide_true,cond_true,Ac W,Ac E,hn,hG,and_self,if_true,tNC];refine Ae (Cf (st:=λk:Nat=>((k:Int),(u,(List.range n).map fun(e:Nat)=>((p.getD i []).take k).contains (e:Int)))) (n:=(p.getD i []).length) (o:=.brk 2 (((p.getD i []).length:Int),(u,mkN n (p.getD i [])))) (by simp[List.map_const']) (λk J=>?_) ?_ (λy=>by simp)) ?_
  .obtain⟨g1,g2⟩:=Cx A J
   obtain⟨d,hd⟩:∃d:Nat,(p.getD i []).getD k 0=(d:Int):=⟨((p.getD i []).getD k 0).toNat,by omega⟩
   have Z:d<n:=by omega
   simp only[Am,J,decide_true,cond_true,Ac J,hd,List.length_map,List.length_range,Ac Z,and_self,if_true,tNC];rw[Ah (by omega) (by omega),NZ]
   congr 4
   refine List.map_congr_left λe _=>?_
   rw[XS J,hd];by_cases h:e=d
   .subst h;simp
   .rw[if_neg h]
    have:decide ((d:Int)=(e:Int))=false:=dF (by omega)
    rw[this,Bool.or_false]
  .simp only[Am,Nat.lt_irrefl,decide_false,cond_false,WX]
   rfl
  .show(if 2=2 then _ else none)=_
   rw[if_pos rfl];simp only[List.length_cons,List.length_nil];rw[if_pos (show u.length+(0+1)<=5864062014805 by omega),Ah (by omega) (by omega),U]
   rfl
 .simp only[Am,Nat.lt_irrefl,decide_false,cond_false]
def mkd(x:List (List Bool)):List (List Int):=(List.range x.length).map λi=>((List.range (x.getD i []).length).filter λe=>(x.getD i []).getD e false).map fun(e:Nat)=>(e:Int)
theorem p100{x:List (List Bool)}(Z:x.length<=1048576)(J:∀i,i<x.length->(x.getD i []).length<=1048576):G100 x=some (mkd x):=by
 unfold G100;refine Ae (Ow (n:=x.length) (g:=λi=>((List.range (x.getD i []).length).filter λe=>(x.getD i []).getD e false).map fun(e:Nat)=>(e:Int)) (id:=0) (λi A u W=>?_) λu=>?_) rfl
 .have U:=J i A
  simp only[Am,A,decide_true,cond_true,Ac A,and_self,if_true,tNC];refine Ae (VX (n:=(x.getD i []).length) (q:=λe=>(x.getD i []).getD e false) (g:=fun(e:Nat)=>(e:Int)) (id:=2) (λe B ac E=>?_) λac=>?_) ?_
  .simp only[Am,B,decide_true,cond_true,Ac B,and_self,if_true,tNC,List.length_cons,List.length_nil]
   rw[Ah (by omega) (by omega),if_pos (show ac.length+(0+1)<=17592186044416 by omega)]
   cases (x.getD i []).getD e false<;>rfl
  .simp only[Am,Nat.lt_irrefl,decide_false,cond_false]
  .show(if 2=2 then _ else none)=_
   rw[if_pos rfl];simp only[List.length_cons,List.length_nil];rw[if_pos (show u.length+(0+1)<=5864062014805 by omega),Ah (by omega) (by omega)]
   rfl
 .simp only[Am,Nat.lt_irrefl,decide_false,cond_false]
end
end Go.Ve.D

