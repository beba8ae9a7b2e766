/- Sets of arrows: what they compute. -/
import Derived.Test.YtlggjlgcmilmhaaSya
namespace Go.Ve.D
open Go Go.Ve
variable{c:Cat}{x:List Int}
theorem Bj(h:BM c=true):Sh c:=by
 unfold BM at h;rw [bAE]at h;exact ZI h.1
theorem Wq{α R:Type}{f:(Int×List α)->Option (LO (Int×List α) R)}{n:Nat}{q:Nat->Bool}{g:Nat->α}{id:Nat}
  (h1: ∀i,i<n->∀acc:List α,acc.length<=i->f ((i:Int),acc)=some (.next (((i+1:Nat):Int),bif q i then acc++ [g i]else acc)))
  (h2: ∀acc:List α,f ((n:Int),acc)=some (.brk id ((n:Int),acc))):
  Ap f ((0:Int),[])=some (.brk id ((n:Int),((List.range n).filter q).map g)):=by
 have key: ∀i,(((List.range i).filter q).map g).length<=i:=λi=>by
  rw [List.length_map];have:=List.length_filter_le q (List.range i);rwa [List.length_range]at this
 refine CG (st:=λi:Nat=>((i:Int),((List.range i).filter q).map g)) (n:=n) (λi hi=>?_) (h2 _) (λy=>by simp)
 rw [h1 i hi _ (key i),List.range_succ,List.filter_append,List.map_append]
 congr 3
 cases hq:q i<;>simp [hq]
def fT(c:Cat)(f:Nat):Int:=c.2.1.getD f 0
def tT(c:Cat)(f:Nat):Int:=c.2.2.1.getD f 0
def ar(c:Cat):Nat:=c.2.1.length
def Ba(c:Cat)(x y:Int):List Int:=((List.range (ar c)).filter λf=>decide (fT c f=x)&&decide (tT c f=y)).map fun(f:Nat)=>(f:Int)
theorem p78(hm:c.2.1.length<=1048576)(ht:c.2.2.1.length=c.2.1.length)(x y:Int):G78 (c,(x,y))=some (Ba c x y):=by
 obtain⟨c1,c2,c3,c4,c5⟩:=c;unfold G78;simp only at hm ht⊢;refine Ag (v:=.brk 0 ((c2.length:Int),Ba (c1,(c2,(c3,(c4,c5)))) x y)) (Wq (λi hi acc ha=>?_) λacc=>?_) rfl
 ·simp only [A8,hi,decide_true,cond_true,Ab hi,if_true,and_self,tNC,List.length_cons,List.length_nil,ht]
  rw [Ay (by omega) (by omega),if_pos (show acc.length+(0+1)<=17592186044416 by omega)]
  show Option.bind (bif decide (c2.getD i 0=x)then some (decide (c3.getD i 0=y))else some false) _=_;show _=some (LO.next (((i+1:Nat):Int),bif decide (c2.getD i 0=x)&&decide (c3.getD i 0=y)then acc++ [(i:Int)]else acc))
  cases decide (c2.getD i 0=x)<;>cases decide (c3.getD i 0=y)<;>rfl
 ·simp only [A8,Nat.lt_irrefl,decide_false,cond_false]
theorem p64(hm:c.2.1.length<=1048576)(ht:c.2.2.1.length=c.2.1.length)(x y:Int):G64 (c,(x,y))=some (Ba c x y):=by
 have e:G64=G78:=rfl;rw [e];exact p78 hm ht x y
def IQ(x:List Int):Bool:=(List.range (x.length-1)).all λi=>!decide (x.getD (i+1) 0<=x.getD i 0)
theorem p56(h:x.length<=1048576):G56 x=some (IQ x):=by
 unfold G56 IQ;by_cases h0:x.length=0
 ·rw [Bi]
  have e:decide ((1:Int)<((x.length:Nat):Int))=false:=by simp;omega
  simp only [e,cond_false,Option.bind_some];rw [h0];rfl
 refine Ag (By (st:=λi:Nat=>((i+1:Nat):Int)) (n:=x.length-1) (p:=λi=>!decide (x.getD (i+1) 0<=x.getD i 0)) (r:=false) (o:=.brk 0 (x.length:Int)) (λi hi=>?_) ?_ (λy=>by simp)) ?_
 ·have hi1:i+1<x.length:=by omega
  have e1:IntKind.wrap .i64 (((i+1:Nat):Int)-1)=((i:Nat):Int):=by rw [Ay (by omega) (by omega)];omega
  have e2:IntKind.wrap .i64 (((i+1:Nat):Int)+1)=((i+1+1:Nat):Int):=by rw [Ay (by omega) (by omega)];omega
  simp only [A8,hi1,decide_true,cond_true,Ab hi1,e1,e2,Ab (show i<x.length by omega),if_true,and_self,tNC]
  cases decide (x.getD (i+1) 0<=x.getD i 0)<;>rfl
 ·have e:decide (((x.length-1+1:Nat):Int)<((x.length:Nat):Int))=false:=by simp;omega
  simp only [e,cond_false]
  congr 2
  omega
 ·cases (List.range (x.length-1)).all λi=>!decide (x.getD (i+1) 0<=x.getD i 0)<;>rfl
theorem p52(h:x.length<=1048576):G52 x=some (IQ x):=by
 unfold G52 IQ;by_cases h0:x.length=0
 ·rw [Bi]
  have e:decide ((1:Int)<((x.length:Nat):Int))=false:=by simp;omega
  simp only [e,cond_false,Option.bind_some];rw [h0];rfl
 refine Ag (By (st:=λi:Nat=>((i+1:Nat):Int)) (n:=x.length-1) (p:=λi=>!decide (x.getD (i+1) 0<=x.getD i 0)) (r:=false) (o:=.brk 0 (x.length:Int)) (λi hi=>?_) ?_ (λy=>by simp)) ?_
 ·have hi1:i+1<x.length:=by omega
  have e1:IntKind.wrap .i64 (((i+1:Nat):Int)-1)=((i:Nat):Int):=by rw [Ay (by omega) (by omega)];omega
  have e2:IntKind.wrap .i64 (((i+1:Nat):Int)+1)=((i+1+1:Nat):Int):=by rw [Ay (by omega) (by omega)];omega
  simp only [A8,hi1,decide_true,cond_true,Ab hi1,e1,e2,Ab (show i<x.length by omega),if_true,and_self,tNC]
  cases decide (x.getD (i+1) 0<=x.getD i 0)<;>rfl
 ·have e:decide (((x.length-1+1:Nat):Int)<((x.length:Nat):Int))=false:=by simp;omega
  simp only [e,cond_false]
  congr 2
  omega
 ·cases (List.range (x.length-1)).all λi=>!decide (x.getD (i+1) 0<=x.getD i 0)<;>rfl
def arrC(c:Cat)(w:List Int):Int:=bif !BM c then 1 else bif !wi (ar c) w then 2 else 0
theorem p55(h:okC c){w:List Int}(hw:w.length<=1048576):G55 (c,w)=some (arrC c w):=by
 unfold G55 arrC ar;simp only [Prod.eta,p76 h,Option.bind_some,p77 hw];cases BM c with
 |false=>rfl
 |true=>
  simp only [Bool.not_true,cond_false];cases wi (c.2.1.length:Int) w<;>rfl
def AaJ(c:Cat)(w:List Int):Int:=bif decide (arrC c w=0)&& !IQ w then 5 else arrC c w
end Go.Ve.D


namespace Go.Ve.D
open Go Go.Ve
theorem p79{c:Cat}(h:Sh c){f g:Int}(hf:0<=f/\f<(c.2.1.length:Int))(hg:0<=g/\g<(c.2.1.length:Int)):G79 (c,(f,g))=some (T c f.toNat g.toNat):=p43 h hf hg
theorem getW{m:Nat}{w:List Int}(hw:wi m w=true){i:Nat}(hi:i<w.length): ∃f:Nat,f<m/\w.getD i 0=(f:Int):=by
 obtain⟨h1,h2⟩:=Kq hw hi;exact⟨(w.getD i 0).toNat,by omega,by omega⟩
end Go.Ve.D


namespace Go.Ve.D
open Go Go.Ve
noncomputable section
variable{b:Bool}{c:Cat}{i n:Nat}{R α:Type}
theorem BV{x y r:α}(h:b=true)(hx:x=r):(bif b then x else y)=r:=by subst h;exact hx
theorem BC{x y r:α}(h:b=false)(hx:y=r):(bif b then x else y)=r:=by subst h;exact hx
theorem BU{p:Prop} [Decidable p]{x y r:α}(h:p)(hx:x=r):(if p then x else y)=r:=by rw [if_pos h];exact hx
theorem Jg{X:Type}{f:X->Option (LO X R)}{st:Nat->X}{o:LO X R}{x:X}(h0:x=st 0)(h1: ∀i,i<n->f (st i)=some (.next (st (i+1))))(h2:f (st n)=some o)(ho: ∀y,o≠.next y):Ap f x=some o:=by
 subst h0;exact CG h1 h2 ho
theorem ltd(h:i<n):decide ((i:Int)<(n:Int))=true:=dT (by omega)
theorem ltn:decide ((n:Int)<(n:Int))=false:=dF (by omega)
theorem wr(h:i<n)(hn:n<=1048576):IntKind.wrap .i64 ((i:Int)+1)=((i+1:Nat):Int):=by
 rw [Ay (by omega) (by omega)];rfl
theorem Aaz{F:Int->Option (LO Int R)}{n:Nat}{p:Nat->Bool}{id:Nat}{g:Nat->Int->Option R}{r v:R}
  (h1: ∀i,i<n->F (i:Int)=some (bif p i then .next ((i+1:Nat):Int)else .ret r)) (h2:F (n:Int)=some (.brk id (n:Int)))
  (hA:(List.range n).all p=true->g id (n:Int)=some v):Option.bind (Ap F (0:Int)) (LO.fin g)=some (bif(List.range n).all p then v else r):=by
 have h:=By (st:=λi:Nat=>(i:Int)) (p:=p) (r:=r) h1 h2 (λy=>by simp)
 have h:Ap F (0:Int)=_:=h;rw [h];cases hall:(List.range n).all p with
 |true=>exact hA hall
 |false=>rfl
theorem gatF{f:(Int×List Int)->Option (LO (Int×List Int) R)}{x:List Int}{p:Int->Bool}{id:Nat}{k:Nat->Int×List Int->Option R}{r:Option R}(hx:x.length<=1048576)
  (h1: ∀i,i<x.length->∀acc:List Int,acc.length<=1048576->f ((i:Int),acc)=some (.next (((i+1:Nat):Int),bif p (x.getD i 0)then acc++ [x.getD i 0]else acc)))
  (h2: ∀acc:List Int,f ((x.length:Int),acc)=some (.brk id ((x.length:Int),acc)))
  (hk:k id ((x.length:Int),x.filter p)=r):Option.bind (Ap f ((0:Int),[])) (LO.fin k)=r:=by
 have e:((List.range x.length).filter λi=>p (x.getD i 0)).map (λi=>x.getD i 0)=x.filter p:=by
  have e1:x=(List.range x.length).map λi=>x.getD i 0:=by
   apply List.ext_getElem?;intro j;by_cases hj:j<x.length<;>simp [hj]
  conv=>rhs;rw [e1,List.filter_map]
  rfl
 refine Ag (Wq (q:=λi=>p (x.getD i 0)) (g:=λi=>x.getD i 0) (λi hi acc ha=>h1 i hi acc (by omega)) h2) ?_
 rw [e];exact hk
theorem gatN{f:(Int×List Int)->Option (LO (Int×List Int) R)}{q:Nat->Bool}{id:Nat}{k:Nat->Int×List Int->Option R}{r:Option R}(hn:n<=1048576)
  (h1: ∀i,i<n->∀acc:List Int,acc.length<=1048576->f ((i:Int),acc)=some (.next (((i+1:Nat):Int),bif q i then acc++ [(i:Int)]else acc)))
  (h2: ∀acc:List Int,f ((n:Int),acc)=some (.brk id ((n:Int),acc)))
  (hk:k id ((n:Int),((List.range n).filter q).map fun(i:Nat)=>(i:Int))=r):Option.bind (Ap f ((0:Int),[])) (LO.fin k)=r:=
 Ag (Wq (q:=q) (g:=fun(i:Nat)=>(i:Int)) (λi hi acc ha=>h1 i hi acc (by omega)) h2) hk
theorem Q1{R:Type}{b:Bool}{acc:List Int}{v:Int}{i j:Int}(ha:acc.length<=1048576)(hj:i=j):
  (bif b then if acc.length+(v:: []).length<=17592186044416 then some (LO.next (R:=R) (i,acc++(v:: [])))else none else some (LO.next (i,acc)))=some (.next (j,bif b then acc++ [v]else acc)):=by
 subst hj;cases b
 ·rfl
 ·exact BU (by show acc.length+1<=_;omega) rfl
theorem CO{x:List α}(d:α)(hi:i<x.length):x.getD i d∈x:=by
 rw [gDE,gEE hi];exact List.getElem_mem hi
theorem BR{x y d:Int}:d∈Ba c x y↔ ∃f,f<ar c/\d=(f:Int)/\fT c f=x/\tT c f=y:=by
 unfold Ba;simp only [List.mem_map,List.mem_filter,List.mem_range,bAE,decide_eq_true_eq];exact⟨fun⟨f,⟨h1,h2,h3⟩,h4⟩=>⟨f,h1,h4.symm,h2,h3⟩,fun⟨f,h1,h2,h3,h4⟩=>⟨f,⟨h1,h3,h4⟩,h2.symm⟩⟩
theorem CS{x y:Int}:(Ba c x y).length<=ar c:=by
 unfold Ba;rw [List.length_map];have:=List.length_filter_le (λf=>decide (fT c f=x)&&decide (tT c f=y)) (List.range (ar c))
 rwa [List.length_range]at this
theorem CA(h:Sh c):ar c<=40:=h.hd.2.1
theorem Kg(h:Sh c):c.2.2.1.length=ar c:=h.hd.2.2.1
end
end Go.Ve.D

