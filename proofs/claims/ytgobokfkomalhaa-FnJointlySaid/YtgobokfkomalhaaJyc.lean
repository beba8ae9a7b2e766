/- Sets of arrows: what they compute. -/
import Derived.Test.YtgobokfkomalhaaJya
namespace Go.Ve.D
open Go Go.Ve
theorem Bb{c:Cat}(h:Bj c=true):Sh c:=by
 unfold Bj at h;rw [bAE]at h;exact ZE h.1
theorem Ws{α R:Type}{f:(Int×List α)->Option (LO (Int×List α) R)}{n:Nat}{q:Nat->Bool}{g:Nat->α}{id:Nat}
  (h1: ∀i,i<n->∀acc:List α,acc.length<=i->f ((i:Int),acc)=some (.next (((i+1:Nat):Int),bif q i then acc++ [g i]else acc)))
  (h2: ∀acc:List α,f ((n:Int),acc)=some (.brk id ((n:Int),acc))):
  Aq f ((0:Int),[])=some (.brk id ((n:Int),((List.range n).filter q).map g)):=by
 have key: ∀i,(((List.range i).filter q).map g).length<=i:=λi=>by
  rw [List.length_map];have:=List.length_filter_le q (List.range i);rwa [List.length_range]at this
 refine H4 (st:=λi:Nat=>((i:Int),((List.range i).filter q).map g)) (n:=n) (λi hi=>?_) (h2 _) (λy=>by simp)
 rw [h1 i hi _ (key i),List.range_succ,List.filter_append,List.map_append]
 congr 3
 cases hq:q i<;>simp [hq]
def fT(c:Cat)(f:Nat):Int:=c.2.1.getD f 0
def tT(c:Cat)(f:Nat):Int:=c.2.2.1.getD f 0
def ar(c:Cat):Nat:=c.2.1.length
def Dw(c:Cat)(x y:Int):List Int:=((List.range (ar c)).filter λf=>decide (fT c f=x)&&decide (tT c f=y)).map fun(f:Nat)=>(f:Int)
def risB(x:List Int):Bool:=(List.range (x.length-1)).all λi=>!decide (x.getD (i+1) 0<=x.getD i 0)
def Aax(c:Cat)(w:List Int):Int:=bif !Bj c then 1 else bif !wi (ar c) w then 2 else 0
theorem p22{c:Cat}(h:okC c){w:List Int}(hw:w.length<=1048576):G22 (c,w)=some (Aax c w):=by
 unfold G22 Aax ar;have hb:((c.2.1.length:Nat):Int)<=1048576:=by have:=h.1;omega
 simp only [p27 h,Option.bind_some,p56,p55 (n:=(c.2.1.length:Int)) ⟨by omega,by omega⟩ hw]
 cases Bj c with
 |false=>rfl
 |true=>
  simp only [Bool.not_true,cond_false];cases wi (c.2.1.length:Int) w<;>rfl
def AaE(c:Cat)(w:List Int):Int:=bif decide (Aax c w=0)&& !risB w then 5 else Aax c w
end Go.Ve.D


namespace Go.Ve.D
open Go Go.Ve
theorem getW{m:Nat}{w:List Int}(hw:wi m w=true){i:Nat}(hi:i<w.length): ∃f:Nat,f<m/\w.getD i 0=(f:Int):=by
 obtain⟨h1,h2⟩:=Kk hw hi;exact⟨(w.getD i 0).toNat,by omega,by omega⟩
end Go.Ve.D


namespace Go.Ve.D
open Go Go.Ve
noncomputable section
variable{b:Bool}{c:Cat}{i n:Nat}{R α:Type}
theorem HU{x y r:α}(h:b=true)(hx:x=r):(bif b then x else y)=r:=by subst h;exact hx
theorem CN{x y r:α}(h:b=false)(hx:y=r):(bif b then x else y)=r:=by subst h;exact hx
theorem Dd{p:Prop} [Decidable p]{x y r:α}(h:p)(hx:x=r):(if p then x else y)=r:=by rw [if_pos h];exact hx
theorem MF{X:Type}{f:X->Option (LO X R)}{st:Nat->X}{o:LO X R}{x:X}(h0:x=st 0)(h1: ∀i,i<n->f (st i)=some (.next (st (i+1))))(h2:f (st n)=some o)(ho: ∀y,o≠.next y):Aq f x=some o:=by
 subst h0;exact H4 h1 h2 ho
theorem ltd(h:i<n):decide ((i:Int)<(n:Int))=true:=dT (by omega)
theorem ltn:decide ((n:Int)<(n:Int))=false:=dF (by omega)
theorem wr(h:i<n)(hn:n<=1048576):IntKind.wrap .i64 ((i:Int)+1)=((i+1:Nat):Int):=by
 rw [Ay (by omega) (by omega)];rfl
theorem chkG{F:Int->Option (LO Int R)}{n:Nat}{p:Nat->Bool}{id:Nat}{g:Nat->Int->Option R}{r v:R}
  (h1: ∀i,i<n->F (i:Int)=some (bif p i then .next ((i+1:Nat):Int)else .ret r)) (h2:F (n:Int)=some (.brk id (n:Int)))
  (hA:(List.range n).all p=true->g id (n:Int)=some v):Option.bind (Aq F (0:Int)) (LO.fin g)=some (bif(List.range n).all p then v else r):=by
 have h:=BS (st:=λi:Nat=>(i:Int)) (p:=p) (r:=r) h1 h2 (λy=>by simp)
 have h:Aq F (0:Int)=_:=h;rw [h];cases hall:(List.range n).all p with
 |true=>exact hA hall
 |false=>rfl
theorem gatF{f:(Int×List Int)->Option (LO (Int×List Int) R)}{x:List Int}{p:Int->Bool}{id:Nat}{k:Nat->Int×List Int->Option R}{r:Option R}(hx:x.length<=1048576)
  (h1: ∀i,i<x.length->∀acc:List Int,acc.length<=1048576->f ((i:Int),acc)=some (.next (((i+1:Nat):Int),bif p (x.getD i 0)then acc++ [x.getD i 0]else acc)))
  (h2: ∀acc:List Int,f ((x.length:Int),acc)=some (.brk id ((x.length:Int),acc)))
  (hk:k id ((x.length:Int),x.filter p)=r):Option.bind (Aq f ((0:Int),[])) (LO.fin k)=r:=by
 have e:((List.range x.length).filter λi=>p (x.getD i 0)).map (λi=>x.getD i 0)=x.filter p:=by
  have e1:x=(List.range x.length).map λi=>x.getD i 0:=by
   apply List.ext_getElem?;intro j;by_cases hj:j<x.length<;>simp [hj]
  conv=>rhs;rw [e1,List.filter_map]
  rfl
 refine Ai (Ws (q:=λi=>p (x.getD i 0)) (g:=λi=>x.getD i 0) (λi hi acc ha=>h1 i hi acc (by omega)) h2) ?_
 rw [e];exact hk
theorem gatN{f:(Int×List Int)->Option (LO (Int×List Int) R)}{q:Nat->Bool}{id:Nat}{k:Nat->Int×List Int->Option R}{r:Option R}(hn:n<=1048576)
  (h1: ∀i,i<n->∀acc:List Int,acc.length<=1048576->f ((i:Int),acc)=some (.next (((i+1:Nat):Int),bif q i then acc++ [(i:Int)]else acc)))
  (h2: ∀acc:List Int,f ((n:Int),acc)=some (.brk id ((n:Int),acc)))
  (hk:k id ((n:Int),((List.range n).filter q).map fun(i:Nat)=>(i:Int))=r):Option.bind (Aq f ((0:Int),[])) (LO.fin k)=r:=
 Ai (Ws (q:=q) (g:=fun(i:Nat)=>(i:Int)) (λi hi acc ha=>h1 i hi acc (by omega)) h2) hk
theorem VK{R:Type}{b:Bool}{acc:List Int}{v:Int}{i j:Int}(ha:acc.length<=1048576)(hj:i=j):
  (bif b then if acc.length+(v:: []).length<=17592186044416 then some (LO.next (R:=R) (i,acc++(v:: [])))else none else some (LO.next (i,acc)))=some (.next (j,bif b then acc++ [v]else acc)):=by
 subst hj;cases b
 ·rfl
 ·exact Dd (by show acc.length+1<=_;omega) rfl
theorem He{x:List α}(d:α)(hi:i<x.length):x.getD i d∈x:=by
 rw [gDE,gEE hi];exact List.getElem_mem hi
theorem Hh{x y d:Int}:d∈Dw c x y↔ ∃f,f<ar c/\d=(f:Int)/\fT c f=x/\tT c f=y:=by
 unfold Dw;simp only [List.mem_map,List.mem_filter,List.mem_range,bAE,decide_eq_true_eq];exact⟨fun⟨f,⟨h1,h2,h3⟩,h4⟩=>⟨f,h1,h4.symm,h2,h3⟩,fun⟨f,h1,h2,h3,h4⟩=>⟨f,⟨h1,h3,h4⟩,h2.symm⟩⟩
theorem Mb{x y:Int}:(Dw c x y).length<=ar c:=by
 unfold Dw;rw [List.length_map];have:=List.length_filter_le (λf=>decide (fT c f=x)&&decide (tT c f=y)) (List.range (ar c))
 rwa [List.length_range]at this
theorem Ds(h:Sh c):ar c<=40:=h.hd.2.1
theorem Jl(h:Sh c):c.2.2.1.length=ar c:=h.hd.2.2.1
end
end Go.Ve.D


namespace Go.Ve.D
open Go Go.Ve
noncomputable section
variable{c:Cat}{f g i:Nat}
def idv(c:Cat)(x:Int):Int:=c.2.2.2.1.getD x.toNat 0
theorem cat_T(hc:Bj c=true)(hf:f<ar c)(hg:g<ar c)(h:tT c f=fT c g): ∃k:Nat,T c f g=(k:Int)/\k<ar c/\fT c k=fT c f/\tT c k=tT c g:=by
 obtain⟨g1,g2,g3,g4⟩:=(Bb hc).pos f g hf hg (dT h);refine⟨(T c f g).toNat,by omega,?_,g3,g4⟩
 have:T c f g<(ar c:Int):=g2;omega
theorem O6(hc:Bj c=true):(∀f,f<ar c->Dz c f=true)/\∀f g h,f<ar c->g<ar c->h<ar c->mt c f g=true->Db c f g h=true:=by
 unfold Bj Hf at hc;simp only [bAE]at hc;obtain⟨_,h1,h2⟩:=hc;refine⟨λf hf=>aET.1 h1 f (List.mem_range.2 hf),λf g h hf hg hh hm=>?_⟩
 have h3:=aET.1 (aET.1 h2 f (List.mem_range.2 hf)) g (List.mem_range.2 hg);rw [hm]at h3;exact aET.1 h3 h (List.mem_range.2 hh)
theorem Aau(hc:Bj c=true){h k l:Nat}(hf:f<ar c)(hg:g<ar c)(hh:h<ar c)(m1:tT c f=fT c g)(m2:tT c g=fT c h)(hk:T c f g=(k:Int))(hl:T c g h=(l:Int)):T c k h=T c f l:=by
 have:=(O6 hc).2 f g h hf hg hh (dT m1);unfold Db at this;rw [show mt c g h=true from dT m2,hk,hl]at this
 exact of_decide_eq_true this
theorem WE(hc:Bj c=true){x:Int}(hx:0<=x/\x<c.1): ∃i:Nat,idv c x=(i:Int)/\idn c x=i/\i<ar c/\fT c i=x/\tT c i=x:=by
 have hs:=Bb hc;obtain⟨a1,a2⟩:=hs.id x hx.1 hx.2;have hi0:(c.2.2.2.1.length:Int)=c.1:=hs.hd.2.2.2.2.2.2.1;obtain⟨i,hi⟩: ∃i:Nat,idv c x=(i:Int):=⟨(idv c x).toNat,by have:0<=idv c x:=a1;omega⟩
 have hn:idn c x=i:=by show(idv c x).toNat=i;rw [hi];rfl
 have hc':=hc;unfold Bj D7 at hc';simp only [bAE]at hc';have h2:=aET.1 hc'.1.2.1 x.toNat (List.mem_range.2 (by omega))
 unfold UA at h2;rw [bAE,decide_eq_true_eq,decide_eq_true_eq,show(c.2.2.2.1.getD x.toNat 0).toNat=i from hn]at h2
 refine⟨i,hi,hn,?_,?_,?_⟩
 ·have:idv c x<(ar c:Int):=a2
  omega
 ·show c.2.1.getD i 0=x;omega
 ·show c.2.2.1.getD i 0=x;omega
theorem cat_ul(hc:Bj c=true)(hf:f<ar c)(hi:idn c (fT c f)=i):T c i f=(f:Int):=by
 have:=(O6 hc).1 f hf;unfold Dz at this;rw [bAE,decide_eq_true_eq]at this;rw [<-hi];exact this.1
theorem cat_ur(hc:Bj c=true)(hf:f<ar c)(hi:idn c (tT c f)=i):T c f i=(f:Int):=by
 have:=(O6 hc).1 f hf;unfold Dz at this;rw [bAE]at this;rw [<-hi];exact of_decide_eq_true this.2
end
end Go.Ve.D


namespace Go.Ve.D
open Go Go.Ve
noncomputable section
variable{i j n:Nat}{α:Type}
def fill{α:Type}(n:Nat)(f:Nat->α)(d:α)(j:Nat):List α:=(List.range n).map λk=>if k<j then f k else d
theorem I6{f:Nat->α}{d:α}:(fill n f d j).length=n:=by simp [fill]
theorem YX{f:Nat->α}{d:α}:List.replicate n d=fill n f d 0:=by
 apply List.ext_getElem?;intro k;by_cases hk:k<n<;>simp [fill,hk]
theorem YW{f:Nat->α}{d:α}:fill n f d n=(List.range n).map f:=
 List.map_congr_left λk hk=>if_pos (List.mem_range.1 hk)
theorem Me{f:Nat->α}{d:α}(hj:j<n):(fill n f d j).set j (f j)=fill n f d (j+1):=by
 apply List.ext_getElem?;intro k;by_cases hk:k<n
 ·by_cases e:k=j
  ·subst e;simp [fill,hk]
  ·rw [List.getElem?_set_ne (Ne.symm e)]
   have:(k<j+1)=(k<j):=by apply propext;omega
   simp [fill,hk,this]
 ·simp [fill,hk]
theorem Ly{x:List α}{a b:α}:(x.set i a).set i b=x.set i b:=by simp
theorem DV{x:List α}{a d:α}(h:i<x.length):(x.set i a).getD i d=a:=by simp [h]
end
end Go.Ve.D


namespace Go.Ve.D
open Go Go.Ve
noncomputable section
variable{c:Cat}
theorem mapR{α:Type}{n i:Nat}{g:Nat->α}{d:α}(h:i<n):((List.range n).map g).getD i d=g i:=by
 rw [gDE,List.getElem?_map,List.getElem?_range h];rfl
def opQ(c:Cat)(f:Nat):List Int:=(List.range (ar c)).map λg=>bif decide (fT c f=tT c g)then T c g f else-1
def opO(c:Cat):Cat:=(c.1,(c.2.2.1,(c.2.1,(c.2.2.2.1,(List.range (ar c)).map (opQ c)))))
theorem XG(h:Sh c){f g:Nat}(hf:f<ar c)(hg:g<ar c):T (opO c) f g=T c g f:=by
 show(((List.range (ar c)).map (opQ c)).getD f []).getD g 0=_;rw [mapR hf];unfold opQ;rw [mapR hg];cases hm:decide (fT c f=tT c g)
 ·have:=of_decide_eq_false hm
  exact(h.neg g f hg hf (dF λe=>this e.symm)).symm
 ·rfl
theorem VV(h:Sh c):ar (opO c)=ar c:=Jl h
theorem NC(hc:Bj c=true):Bj (opO c)=true:=by
 have h:=Bb hc;have ha:=VV h;have ht:c.2.2.1.length=c.2.1.length:=Jl h;obtain⟨a1,a2,a3,a4,a5,a6,a7,a8⟩:=h.hd;unfold Bj D7 Hf;rw [bAE,bAE,bAE,bAE,decide_eq_true_eq];refine⟨⟨?_,?_,?_⟩,?_,?_⟩
 ·refine⟨a1,by show c.2.2.1.length<=40;omega,by show c.2.1.length=c.2.2.1.length;omega,a5,a4,?_,a7,?_⟩
  ·show((List.range (ar c)).map (opQ c)).length=c.2.2.1.length
   rw [List.length_map,List.length_range,ht];rfl
  ·show wi ((c.2.2.1.length:Nat):Int) c.2.2.2.1=true
   rw [ht];exact a8
 ·refine aET.2 λi hi=>?_
  have hi:=List.mem_range.1 hi;have hi:i<c.2.2.2.1.length:=hi;obtain⟨k,k1,k2,k3,k4,k5⟩:=WE hc (x:=(i:Int)) ⟨by omega,by omega⟩
  unfold UA;rw [bAE,decide_eq_true_eq,decide_eq_true_eq];have e:(c.2.2.2.1.getD i 0).toNat=k:=k2;refine⟨?_,?_⟩
  ·show c.2.2.1.getD (c.2.2.2.1.getD i 0).toNat 0=_
   rw [e];exact k5
  ·show c.2.1.getD (c.2.2.2.1.getD i 0).toNat 0=_
   rw [e];exact k4
 ·refine aET.2 λf hf=>?_
  have hf:f<ar c:=by rw [<-ha];exact List.mem_range.1 hf
  unfold Di;rw [bAE,decide_eq_true_eq];refine⟨?_,aET.2 λg hg=>?_⟩
  ·show(((List.range (ar c)).map (opQ c)).getD f []).length=c.2.2.1.length
   rw [mapR hf,ht];unfold opQ;rw [List.length_map,List.length_range];rfl
  ·have hg:g<ar c:=by rw [<-ha];exact List.mem_range.1 hg
   have hT:=XG h hf hg;unfold T at hT;unfold BQ;rw [hT];show(bif !decide (fT c f=tT c g)then decide (T c g f= -1)else inn (c.2.2.1.length:Int) (T c g f)&&(decide (tT c (T c g f).toNat=tT c f)&&decide (fT c (T c g f).toNat=fT c g)))=true;cases hm:decide (fT c f=tT c g)
   ·have:=of_decide_eq_false hm
    exact dT (h.neg g f hg hf (dF λe=>this e.symm))
   ·have:=of_decide_eq_true hm
    obtain⟨p1,p2,p3,p4⟩:=h.pos g f hg hf (dT this.symm);show(inn (c.2.2.1.length:Int) (T c g f)&&(decide (tT c (T c g f).toNat=tT c f)&&decide (fT c (T c g f).toNat=fT c g)))=true;rw [XY p1 (by rw [ht];exact p2),dT (show tT c (T c g f).toNat=tT c f from p4),dT (show fT c (T c g f).toNat=fT c g from p3)];rfl
 ·refine aET.2 λf hf=>?_
  have hf:f<ar c:=by rw [<-ha];exact List.mem_range.1 hf
  obtain⟨i,i1,i2,i3,i4,i5⟩:=WE hc (x:=fT c f) (h.fr f hf);obtain⟨j,j1,j2,j3,j4,j5⟩:=WE hc (x:=tT c f) (h.to f hf);unfold Dz;rw [bAE,decide_eq_true_eq,decide_eq_true_eq];have e1:idn (opO c) ((opO c).2.1.getD f 0)=j:=j2;have e2:idn (opO c) ((opO c).2.2.1.getD f 0)=i:=i2;rw [e1,e2,XG h j3 hf,XG h hf i3];exact⟨cat_ur hc hf j2,cat_ul hc hf i2⟩
 ·refine aET.2 λf hf=>aET.2 λg hg=>?_
  have hf:f<ar c:=by rw [<-ha];exact List.mem_range.1 hf
  have hg:g<ar c:=by rw [<-ha];exact List.mem_range.1 hg
  cases hm:mt (opO c) f g
  ·rfl
  have m1:fT c f=tT c g:=of_decide_eq_true hm;refine aET.2 λk hk=>?_
  have hk:k<ar c:=by rw [<-ha];exact List.mem_range.1 hk
  unfold Db;cases hn:mt (opO c) g k
  ·rfl
  have m2:fT c g=tT c k:=of_decide_eq_true hn;obtain⟨u,hu,hu1,_⟩:=cat_T hc hg hf m1.symm;obtain⟨v,hv,hv1,_⟩:=cat_T hc hk hg m2.symm;refine dT ?_;rw [XG h hf hg,XG h hg hk,hu,hv];show T (opO c) u k=T (opO c) f v;rw [XG h hu1 hk,XG h hf hv1];exact(Aau hc hk hg hf m2.symm m1.symm hv hu).symm
end
end Go.Ve.D

