/- Plain loops, plain numbers. -/
import Derived.Test.YtbbhfpbalccohaaGreatTq
import Derived.Laws.Runes
import Derived.Laws.BitsLemmas
import Derived.Test.YtbbhfpbalccohaaGreatUr6
import Derived.Test.YtbbhfpbalccohaaGreatTs
namespace Go.Ve
open Go
theorem Ax{X R:Type}{f:X->Option (LO X R)}{st:Nat->X}{n:Nat}{o:LO X R}(h1: ∀i,i<n->f (st i)=some (.next (st (i+1))))(h2:f (st n)=some o)(ho: ∀y,o≠.next y):Ag f (st 0)=some o:=by
 have key: ∀k i,i+k=n->Ag f (st i)=some o:=by
  intro k
  induction k with
  |zero=>
   intro i hi;obtain rfl:i=n:=by omega
   rw [Bl,h2];cases o with
   |next y=>exact absurd rfl (ho y)
   |brk id y=>rfl
   |ret r=>rfl
  |succ k ih=>
   intro i hi;rw [Bl,h1 i (by omega)]
   exact ih (i+1) (by omega)
 exact key n 0 (by omega)
theorem Bd{X R:Type}{f:X->Option (LO X R)}{st:Nat->X}{n:Nat}{p:Nat->Bool}{r:R}{o:LO X R}(h1: ∀i,i<n->f (st i)=some (bif p i then .next (st (i+1))else .ret r))(h2:f (st n)=some o)(ho: ∀y,o≠.next y):
  Ag f (st 0)=some (bif(List.range n).all p then o else .ret r):=by
 have key: ∀k i,i+k=n->Ag f (st i)=some (bif(List.range' i k).all p then o else .ret r):=by
  intro k
  induction k with
  |zero=>
   intro i hi;obtain rfl:i=n:=by omega
   rw [Bl,h2];cases o with
   |next y=>exact absurd rfl (ho y)
   |brk id y=>rfl
   |ret r=>rfl
  |succ k ih=>
   intro i hi;rw [Bl,h1 i (by omega),List.range'_succ,List.all_cons]
   cases hp:p i with
   |true=>
    simp only [cond_true,Bool.true_and];exact ih (i+1) (by omega)
   |false=>rfl
 rw [List.range_eq_range'];exact key n 0 (by omega)
theorem Ap{n:Int}(h0:0<=n)(h1:n<9223372036854775808):IntKind.wrap .i64 n=n:=wrap_small n h0 h1
theorem Ak{i n:Nat}:decide ((i:Int)<(n:Int))=decide (i<n):=by
 rw [Bool.eq_iff_iff];simp
theorem Ab{i n:Nat}(h:i<n):((0:Int)<=(i:Int)/\(i:Int)<(n:Int)):=by omega
theorem Hb{α:Type}{x:List α}{y:List α}{i:Nat}(d:α)(hy:y.length=x.length)(hi:i<x.length):(x.take i++y.drop i).set i (x.getD i d)=x.take (i+1)++y.drop (i+1):=by
 apply List.ext_getElem?;intro j;have hl:(x.take i).length=i:=by simp;omega
 by_cases h1:j=i
 ·subst h1
  rw [List.getElem?_set_self (by simp;omega),gAL (by simp;omega),List.getElem?_take_of_lt (by omega)]
  simp [hi]
 ·rw [List.getElem?_set_ne (Ne.symm h1)]
  by_cases h2:j<i
  ·rw [gAL (by omega),gAL (by simp;omega),List.getElem?_take_of_lt h2,List.getElem?_take_of_lt (by omega)]
  ·rw [gAR (by omega),gAR (by simp;omega),hl,List.length_take,List.getElem?_drop,List.getElem?_drop]
   congr 1
   omega
theorem UE{X R:Type}{f:X->Option (LO X R)}{st:Nat->X}{n:Nat}{p:Nat->Bool}{Q:R->Prop}{o:LO X R}
  (h1: ∀i,i<n->(p i=true->f (st i)=some (.next (st (i+1))))/\(p i=false->∃r,f (st i)=some (.ret r)/\Q r)) (h2:f (st n)=some o) (ho: ∀y,o≠.next y):
  ((List.range n).all p=true->Ag f (st 0)=some o)/\((List.range n).all p=false->∃r,Ag f (st 0)=some (.ret r)/\Q r):=by
 have key: ∀k i,i+k=n->((List.range' i k).all p=true->Ag f (st i)=some o)/\((List.range' i k).all p=false->∃r,Ag f (st i)=some (.ret r)/\Q r):=by
  intro k
  induction k with
  |zero=>
   intro i hi;obtain rfl:i=n:=by omega
   refine⟨fun _=>?_,(fun h=>by cases h)⟩
   rw [Bl,h2];cases o with
   |next y=>exact absurd rfl (ho y)
   |brk id y=>rfl
   |ret r=>rfl
  |succ k ih=>
   intro i hi;rw [List.range'_succ,List.all_cons];obtain⟨g1,g2⟩:=h1 i (by omega)
   cases hp:p i with
   |true=>
    rw [Bool.true_and];have e:Ag f (st i)=Ag f (st (i+1)):=by rw [Bl,g1 hp];rfl
    rw [e];exact ih (i+1) (by omega)
   |false=>
    refine⟨(fun h=>by cases h),fun _=>?_⟩
    obtain⟨r,hr,hq⟩:=g2 hp;exact⟨r,by rw [Bl,hr];rfl,hq⟩
 rw [List.range_eq_range'];exact key n 0 (by omega)
theorem Mq{X R:Type}{f:X->Option (LO X R)}{I:Nat->X->Prop}{Q:LO X R->Prop}{n:Nat}{x:X}(h0:I 0 x)
  (h1: ∀i,i<n->∀x,I i x->(∃y,f x=some (.next y)/\I (i+1) y)\/∃o,f x=some o/\(∀y,o≠.next y)/\Q o)
  (h2: ∀x,I n x->∃o,f x=some o/\(∀y,o≠.next y)/\Q o): ∃o,Ag f x=some o/\Q o:=by
 have fin: ∀x o,f x=some o->(∀y,o≠.next y)->Ag f x=some o:=by
  intro x o h ho;rw [Bl,h];cases o with
  |next y=>exact absurd rfl (ho y)
  |brk id y=>rfl
  |ret r=>rfl
 have key: ∀k i x,i+k=n->I i x->∃o,Ag f x=some o/\Q o:=by
  intro k
  induction k with
  |zero=>
   intro i x hi hx;obtain rfl:i=n:=by omega
   obtain⟨o,ho,hn,hq⟩:=h2 x hx;exact⟨o,fin x o ho hn,hq⟩
  |succ k ih=>
   intro i x hi hx;rcases h1 i (by omega) x hx with⟨y,hy,hI⟩|⟨o,ho,hn,hq⟩
   ·obtain⟨o,ho,hq⟩:=ih (i+1) y (by omega) hI
    refine⟨o,?_,hq⟩;rw [Bl,hy];exact ho
   ·exact⟨o,fin x o ho hn,hq⟩
 exact key n 0 x (by omega) h0
theorem Bx{n:Int}(h0: -9223372036854775808<=n)(h1:n<=9223372036854775807):IntKind.wrap .i64 n=n:=by
 rw [IntKind.wrap_i64];omega
theorem JG{α:Type}(d:α)(q:α->Bool): ∀x:List α,(List.range x.length).all (fun i=>q (x.getD i d))=x.all q
 | []=>rfl
 |a::x=>by
  rw [List.length_cons,List.range_succ_eq_map,List.all_cons,List.all_map,List.all_cons];have:=JG d q x;simp only [List.getD_cons_zero]
  congr 1
def inn(n a:Int):Bool:=decide (0<=a)&&decide (a<n)
theorem YY{n a:Int}(h:a<0):inn n a=false:=by simp [inn];omega
theorem YX{n a:Int}(h:n<=a):inn n a=false:=by simp [inn];omega
theorem Aav{n a:Int}(h:0<=a)(h':a<n):inn n a=true:=by simp [inn];omega
def wi(n:Int)(x:List Int):Bool:=x.all (inn n)
theorem Dr{n a:Int}:inn n a=true↔0<=a/\a<n:=by simp [inn]
theorem BB{n:Int}{x:List Int}(h:wi n x=true){i:Nat}(hi:i<x.length):0<=x.getD i 0/\x.getD i 0<n:=by
 rw [gDE,gEE hi];exact Dr.1 (aET.1 h _ (List.getElem_mem hi))
theorem Aa{α β:Type}{a:Option α}{v:α}{k:α->Option β}{r:Option β}(h:a=some v)(h2:k v=r):Option.bind a k=r:=by
 rw [h];exact h2
end Go.Ve


namespace Go.Ve.D
open Go Go.Ve
theorem p15{x:List Int}(h:x.length<=1048576):G15 x=some x:=by
 unfold G15;rw [if_pos (by omega)]
 refine Aa (v:=.brk 0 ((x.length:Int),x)) (Ax (st:=fun i=>((i:Int),x.take i++(List.replicate x.length (0:Int)).drop i)) (n:=x.length) (fun i hi=>?_) (by simp) (fun y=>by simp)) rfl
 have e:(x.take i++(List.replicate x.length (0:Int)).drop i).length=x.length:=by simp;omega
 simp only [Ak,hi,decide_true,cond_true,Ab hi,if_true,e,tNC,and_self];rw [Hb 0 (by simp) hi,Ap (by omega) (by omega)]
 rfl
theorem p125{x:List (List Int)}(h:x.length<=1048576)(hx: ∀y∈x,y.length<=1048576):G125 x=some x:=by
 unfold G125;rw [if_pos (by omega)]
 refine Aa (v:=.brk 0 ((x.length:Int),x)) (Ax (st:=fun i=>((i:Int),x.take i++(List.replicate x.length []).drop i)) (n:=x.length) (fun i hi=>?_) (by simp) (fun y=>by simp)) rfl
 have e:(x.take i++(List.replicate x.length ([]:List Int)).drop i).length=x.length:=by simp;omega
 have g:G15 (x.getD i [])=some (x.getD i []):=p15 (hx _ (by rw [gDE,gEE hi];simp))
 simp only [Ak,hi,decide_true,cond_true,Ab hi,if_true,e,tNC,and_self,g,Option.bind_some];rw [Hb [] (by simp) hi,Ap (by omega) (by omega)]
 rfl
def okC(c:Int×List Int×List Int×List Int×List (List Int)):Prop:=c.2.1.length<=1048576/\c.2.2.1.length<=1048576/\c.2.2.2.1.length<=1048576/\c.2.2.2.2.length<=1048576/\∀y∈c.2.2.2.2,y.length<=1048576
theorem p124{c}(h:okC c):G124 c=some c:=by
 obtain⟨h1,h2,h3,h4,h5⟩:=h;unfold G124;simp only [p15 h1,p15 h2,p15 h3,p125 h4 h5,Option.bind_some]
theorem p20{x:List Int}(h:x.length<=1048576):G20 (x,x)=some true:=by
 unfold G20;simp only [decide_true,Bool.not_true,cond_false];refine Aa (v:=.brk 0 (x.length:Int)) (Ax (st:=fun i=>(i:Int)) (n:=x.length) (fun i hi=>?_) (by simp) (fun y=>by simp)) rfl
 simp only [Ak,hi,decide_true,cond_true,Ab hi,if_true,tNC,and_self,Bool.not_true,cond_false];rw [Ap (by omega) (by omega)]
 rfl
theorem p18{x:List (List Int)}(h:x.length<=1048576)(hx: ∀y∈x,y.length<=1048576):G18 (x,x)=some true:=by
 unfold G18;simp only [decide_true,Bool.not_true,cond_false];refine Aa (v:=.brk 0 (x.length:Int)) (Ax (st:=fun i=>(i:Int)) (n:=x.length) (fun i hi=>?_) (by simp) (fun y=>by simp)) rfl
 have g:G20 (x.getD i [],x.getD i [])=some true:=p20 (hx _ (by rw [gDE,gEE hi];simp))
 simp only [Ak,hi,decide_true,cond_true,Ab hi,if_true,tNC,and_self,Bool.not_true,cond_false,g,Option.bind_some];rw [Ap (by omega) (by omega)]
 rfl
theorem p126{c}(h:okC c):G126 (c,c)=some true:=by
 obtain⟨h1,h2,h3,h4,h5⟩:=h;unfold G126;simp only [p20 h1,p20 h2,p20 h3,p18 h4 h5,Option.bind_some,decide_true,Bool.not_true,cond_false]
open Go Go.Ve
theorem p91{x:List Int}{b:Int}(hb:0<=b/\b<=1048576)(hx:x.length<=maxLen): ∃r,G91 (x,b)=some r/\(r<0\/(r=b-x.length/\0<=r)):=by
 unfold G91;have hm:maxLen=9223372036854775807:=by decide
 rw [hm]at hx;have e:IntKind.wrap .i64 (b-(x.length:Int))=b-x.length:=Bx (by omega) (by omega)
 simp only [e];by_cases h:b-(x.length:Int)<0
 ·exact⟨-1,by simp only [h,decide_true,cond_true],.inl (by decide)⟩
 ·exact⟨_,by simp only [h,decide_false,cond_false],.inr ⟨rfl,by omega⟩⟩
open Go Go.Ve
theorem VR:maxLen=9223372036854775807:=by decide
theorem Z1(a l h:Int):G127 (a,(l,h))=some (decide (l<=a)&&decide (a<=h)):=by
 unfold G127;by_cases h1:l<=a<;>simp [h1]
theorem p69(a l h:Int):G69 (a,(l,h))=some (decide (l<=a)&&decide (a<=h)):=by
 unfold G69;by_cases h1:l<=a<;>simp [h1]
theorem p69'(a n:Int)(hn:0<=n/\n<=9223372036854775807):G69 (a,((0:Int),IntKind.wrap .i64 (n-1)))=some (inn n a):=by
 rw [p69,Bx (by omega) (by omega)]
 unfold inn
 congr 2
 rw [Bool.eq_iff_iff];simp;omega
theorem W3{n:Int}{x:List Int}(hx:x.length<=1048576):G132 (n,x)=some (wi n x):=by
 unfold G132
 have h:=Bd (R:=Bool) (f:=(fun(v0:Int)=>(bif(decide (v0<((x.length:Nat):Int)))then(if(((0:Int)<=v0)/\(v0<((x.length:Nat):Int)))then(Option.bind (bif(decide ((x.getD (v0).toNat (0:Int))<(0:Int)))then(some true)else(if(((0:Int)<=v0)/\(v0<((x.length:Nat):Int)))then(some (decide (n<=(x.getD (v0).toNat (0:Int)))))else none)) (fun(v1:Bool)=>(bif v1 then(AM (some false))else(some (LO.next (IntKind.wrap .i64 (v0+(1:Int))))))))else none)else(some (LO.brk 0 v0)))))
  (st:=fun i=>(i:Int)) (n:=x.length) (p:=fun i=>inn n (x.getD i 0)) (r:=false) (o:=.brk 0 (x.length:Int)) (fun i hi=>by
   simp only [Ak,hi,decide_true,cond_true,Ab hi,if_true,tNC,and_self];rw [Ap (by omega) (by omega)]
   by_cases h1:x.getD i 0<0
   ·have:inn n (x.getD i 0)=false:=YY h1
    simp only [h1,decide_true,cond_true,Option.bind_some,this,cond_false];rfl
   ·by_cases h2:n<=x.getD i 0
    ·have:inn n (x.getD i 0)=false:=YX h2
     simp only [h1,h2,decide_false,decide_true,cond_true,cond_false,Option.bind_some,this];rfl
    ·have:inn n (x.getD i 0)=true:=Aav (by omega) (by omega)
     simp only [h1,h2,decide_false,cond_true,cond_false,Option.bind_some,this];rfl) (by simp) (fun y=>by simp)
 rw [JG 0 (inn n) x]at h;refine Aa h ?_;show _=some (wi n x);unfold wi;cases x.all (inn n)<;>rfl
theorem W2{n:Int}{x:List Int}(hn:0<=n/\n<=9223372036854775807)(hx:x.length<=1048576):G139 (x,n)=some (wi n x):=by
 unfold G139
 have h:=Bd (R:=Bool) (f:=(fun(v0:Int)=>(bif(decide (v0<((x.length:Nat):Int)))then(if(((0:Int)<=v0)/\(v0<((x.length:Nat):Int)))then(Option.bind (G69 ((x.getD (v0).toNat (0:Int)),((0:Int),(IntKind.wrap .i64 (n-(1:Int)))))) (fun(v1:Bool)=>(bif(!v1)then(AM (some false))else(some (LO.next (IntKind.wrap .i64 (v0+(1:Int))))))))else none)else(some (LO.brk 0 v0)))))
  (st:=fun i=>(i:Int)) (n:=x.length) (p:=fun i=>inn n (x.getD i 0)) (r:=false) (o:=.brk 0 (x.length:Int)) (fun i hi=>by
   simp only [Ak,hi,decide_true,cond_true,Ab hi,if_true,tNC,and_self,p69' _ _ hn,Option.bind_some];rw [Ap (by omega) (by omega)]
   cases inn n (x.getD i 0)<;>rfl) (by simp) (fun y=>by simp)
 rw [JG 0 (inn n) x]at h;refine Aa h ?_;show _=some (wi n x);unfold wi;cases x.all (inn n)<;>rfl
theorem p165{n:Int}{x:List Int}{m:Int}(hx:x.length<=1048576):G165 (x,(m,n))=some (decide ((x.length:Int)=m)&&wi n x):=by
 unfold G165;simp only [W3 hx,Option.bind_some];by_cases h:(x.length:Int)=m<;>simp [h]
open Go Go.Ve
abbrev Cat:=Int×List Int×List Int×List Int×List (List Int)
def BO(c:Cat)(f g:Nat):Bool:=
 bif !decide (c.2.2.1.getD f 0=c.2.1.getD g 0)then decide ((c.2.2.2.2.getD f []).getD g 0= -1)
 else inn c.2.1.length ((c.2.2.2.2.getD f []).getD g 0)&&(decide (c.2.1.getD ((c.2.2.2.2.getD f []).getD g 0).toNat 0=c.2.1.getD f 0)&&decide (c.2.2.1.getD ((c.2.2.2.2.getD f []).getD g 0).toNat 0=c.2.2.1.getD g 0))
def Db(c:Cat)(f:Nat):Bool:=decide ((c.2.2.2.2.getD f []).length=c.2.1.length)&&(List.range c.2.1.length).all (BO c f)
def Wb(c:Cat)(i:Nat):Bool:=decide (c.2.1.getD (c.2.2.2.1.getD i 0).toNat 0=i)&&decide (c.2.2.1.getD (c.2.2.2.1.getD i 0).toNat 0=i)
def Ii(c:Cat):Prop:=(0<=c.1/\c.1<=8)/\c.2.1.length<=40/\c.2.2.1.length=c.2.1.length/\wi c.1 c.2.1=true/\wi c.1 c.2.2.1=true/\c.2.2.2.2.length=c.2.1.length/\(c.2.2.2.1.length:Int)=c.1/\wi c.2.1.length c.2.2.2.1=true
instance(c:Cat):Decidable (Ii c):=by unfold Ii;infer_instance
def DP(c:Cat):Bool:=decide (Ii c)&&((List.range c.2.2.2.1.length).all (Wb c)&&(List.range c.2.1.length).all (Db c))
theorem p161i{c:Cat}(h:Ii c)(F:Int->Option (LO Int Bool))(hF:F=(fun(v6:Int)=>(bif(decide (v6<c.1))then(if(((0:Int)<=v6)/\(v6<((c.2.2.2.1.length:Nat):Int)))then(if(((0:Int)<=(c.2.2.2.1.getD (v6).toNat (0:Int)))/\((c.2.2.2.1.getD (v6).toNat (0:Int))<((c.2.1.length:Nat):Int)))then(Option.bind (bif(!decide ((c.2.1.getD ((c.2.2.2.1.getD (v6).toNat (0:Int))).toNat (0:Int))=v6))then(some true)else(if(((0:Int)<=v6)/\(v6<((c.2.2.2.1.length:Nat):Int)))then(if(((0:Int)<=(c.2.2.2.1.getD (v6).toNat (0:Int)))/\((c.2.2.2.1.getD (v6).toNat (0:Int))<((c.2.2.1.length:Nat):Int)))then(some (!decide ((c.2.2.1.getD ((c.2.2.2.1.getD (v6).toNat (0:Int))).toNat (0:Int))=v6)))else none)else none)) (fun(v7:Bool)=>(bif v7 then(AM (some false))else(some (LO.next (IntKind.wrap .i64 (v6+(1:Int))))))))else none)else none)else(some (LO.brk 0 v6))))):
  Ag F 0=some (bif(List.range c.2.2.2.1.length).all (Wb c)then .brk 0 c.1 else .ret false):=by
 obtain⟨a1,a2,a3,a4,a5,a6,a7,a8⟩:=h;subst hF;refine Bd (st:=fun i=>(i:Int)) (fun i hi=>?_) (by simp [a7]) (fun y=>by simp)
 have hlt:((i:Int)<c.1):=by omega
 have hg:=BB a8 hi;have hg':0<=c.2.2.2.1.getD i 0/\c.2.2.2.1.getD i 0<(c.2.2.1.length:Int):=by rw [a3];exact hg
 simp only [hlt,decide_true,cond_true,Ab hi,if_true,tNC,and_self,hg,hg'];rw [Ap (by omega) (by omega)]
 unfold Wb;by_cases b1:c.2.1.getD (c.2.2.2.1.getD i 0).toNat 0=(i:Int)
 ·by_cases b2:c.2.2.1.getD (c.2.2.2.1.getD i 0).toNat 0=(i:Int)
  ·simp only [b1,b2,decide_true,Bool.not_true,cond_false,cond_true,Option.bind_some,Bool.and_self];rfl
  ·simp only [b1,b2,decide_true,decide_false,Bool.not_true,Bool.not_false,cond_false,cond_true,Option.bind_some,Bool.and_false];rfl
 ·simp only [b1,decide_false,Bool.not_false,cond_false,cond_true,Option.bind_some,Bool.false_and];rfl
open Go Go.Ve
theorem Bs{c:Cat}(h: ¬Ii c):DP c=false:=by simp [DP,h]
theorem p161{c:Cat}(h:okC c):G161 c=some (DP c):=by
 obtain⟨h1,h2,h3,h4,h5⟩:=h;unfold G161;simp only [Z1,p165 h1,p165 h2,W3 h3,Option.bind_some,decide_true,Bool.true_and];by_cases c1:0<=c.1/\c.1<=8
 case neg=>
  have e:(decide (0<=c.1)&&decide (c.1<=8))=false:=by simp;omega
  simp only [e,Bool.not_false,cond_true,Option.bind_some,Bs fun h=>c1 h.1]
 have e1:(decide (0<=c.1)&&decide (c.1<=8))=true:=by simp [c1]
 simp only [e1,Bool.not_true,cond_false,Option.bind_some];by_cases c2:(40:Int)<(c.2.1.length:Int)
 case pos=>simp only [c2,decide_true,cond_true,Option.bind_some,Bs (c:=c) fun h=>absurd h.2.1 (by omega)]
 simp only [c2,decide_false,cond_false];cases c3:wi c.1 c.2.1 with
 |false=>simp only [Bool.not_false,cond_true,Option.bind_some,Bs fun h=>by have:=h.2.2.2.1;rw [c3]at this;cases this]
 |true=>
 simp only [Bool.not_true,cond_false,Option.bind_some];by_cases c4:(c.2.2.1.length:Int)=(c.2.1.length:Int)
 case neg=>simp only [c4,decide_false,Bool.false_and,Bool.not_false,cond_true,Option.bind_some,Bs fun h=>c4 (by rw [h.2.2.1])]
 simp only [dT c4,Bool.true_and];cases c5:wi c.1 c.2.2.1 with
 |false=>simp only [Bool.not_false,cond_true,Option.bind_some,Bs fun h=>by have:=h.2.2.2.2.1;rw [c5]at this;cases this]
 |true=>
 simp only [Bool.not_true,cond_false,Option.bind_some];by_cases c6:(c.2.2.2.2.length:Int)=(c.2.1.length:Int)
 case neg=>simp only [c6,decide_false,Bool.not_false,cond_true,Option.bind_some,Bs fun h=>c6 (by rw [h.2.2.2.2.2.1])]
 simp only [dT c6,Bool.not_true,cond_false];by_cases c7:(c.2.2.2.1.length:Int)=c.1
 case neg=>simp only [c7,decide_false,Bool.not_false,cond_true,Option.bind_some,Bs fun h=>c7 h.2.2.2.2.2.2.1]
 simp only [dT c7,Bool.not_true,cond_false];cases c8:wi c.2.1.length c.2.2.2.1 with
 |false=>simp only [Bool.not_false,cond_true,Option.bind_some,Bs fun h=>by have:=h.2.2.2.2.2.2.2;rw [c8]at this;cases this]
 |true=>
 simp only [Bool.not_true,cond_false,Option.bind_some];have hh:Ii c:=⟨c1,by omega,by omega,c3,c5,by omega,c7,c8⟩
 have hs:DP c=((List.range c.2.2.2.1.length).all (Wb c)&&(List.range c.2.1.length).all (Db c)):=by simp [DP,hh]
 rw [hs];have g:=p161i hh _ rfl;refine Aa g ?_;cases hi:(List.range c.2.2.2.1.length).all (Wb c)with
 |false=>rfl
 |true=>
 simp only [cond_true,Bool.true_and];obtain⟨a1,a2,a3,a4,a5,a6,a7,a8⟩:=hh;show(if 0=0 then _ else _)=_
 rw [if_pos rfl];refine Aa (v:=bif(List.range c.2.1.length).all (Db c)then .brk 2 (c.2.1.length:Int)else .ret false) (Bd (st:=fun i=>(i:Int)) (fun f hf=>?_) (by simp) (fun y=>by simp)) (by cases (List.range c.2.1.length).all (Db c)<;>rfl)
 have hf6:f<c.2.2.2.2.length:=by omega
 simp only [Ak,hf,hf6,decide_true,cond_true,Ab hf,Ab hf6,if_true,tNC,and_self];by_cases d1:((c.2.2.2.2.getD f []).length:Int)=(c.2.1.length:Int)
 case neg=>
  have:Db c f=false:=by unfold Db;simp only [show ¬ (c.2.2.2.2.getD f []).length=c.2.1.length by omega,decide_false,Bool.false_and]
  simp only [d1,decide_false,Bool.not_false,cond_true,this,cond_false];rfl
 have d2:(c.2.2.2.2.getD f []).length=c.2.1.length:=by omega
 have hr:Db c f=(List.range c.2.1.length).all (BO c f):=by unfold Db;simp only [d2,decide_true,Bool.true_and]
 simp only [dT d1,Bool.not_true,cond_false];rw [hr]
 refine Aa (v:=bif(List.range c.2.1.length).all (BO c f)then .brk 4 (c.2.1.length:Int)else .ret (.ret false)) (Bd (st:=fun i=>(i:Int)) (fun g hg=>?_) (by simp) (fun y=>by simp)) (by
  cases (List.range c.2.1.length).all (BO c f)with
  |false=>rfl
  |true=>
   show(if 4=4 then some (LO.next (IntKind.wrap .i64 ((f:Int)+1)))else none)=_
   rw [if_pos rfl,Ap (by omega) (by omega)];rfl)
 have hf3:f<c.2.2.1.length:=by omega
 have hg3:g<c.2.2.1.length:=by omega
 have hgr:(g:Int)<((c.2.2.2.2.getD f []).length:Int):=by omega
 simp only [Ak,hf,hg,hf3,hg3,hgr,decide_true,cond_true,Ab hf,Ab hg,Ab hf6,Ab hf3,Ab hg3,if_true,tNC,and_self];rw [Ap (show(0:Int)<=(g:Int)+1 by omega) (by omega)]
 unfold BO;obtain⟨k,hk⟩: ∃k,k=(c.2.2.2.2.getD f []).getD g 0:=⟨_,rfl⟩;simp only [<-hk];clear hk;by_cases e1:c.2.2.1.getD f 0=c.2.1.getD g 0
 case neg=>
  simp only [e1,decide_false,Bool.not_false,cond_true];by_cases e2:k= -1
  ·simp only [e2,decide_true,Bool.not_true,cond_false,cond_true];rfl
  ·simp only [e2,decide_false,Bool.not_false,cond_false,cond_true];rfl
 simp only [e1,decide_true,Bool.not_true,cond_false];by_cases e2:k<0
 case pos=>simp only [e2,decide_true,cond_true,Option.bind_some,YY e2,Bool.false_and,cond_false];rfl
 simp only [e2,decide_false,cond_false,Option.bind_some];by_cases e3:(c.2.1.length:Int)<=k
 case pos=>simp only [e3,decide_true,cond_true,Option.bind_some,YX e3,Bool.false_and,cond_false];rfl
 have e4:inn c.2.1.length k=true:=Aav (by omega) (by omega)
 have e5:0<=k/\k<(c.2.1.length:Int):=by omega
 have e6:0<=k/\k<(c.2.2.1.length:Int):=by omega
 simp only [e3,decide_false,cond_false,Option.bind_some,e4,e5,e6,and_self,if_true,Bool.true_and];by_cases e7:c.2.1.getD k.toNat 0=c.2.1.getD f 0
 case neg=>simp only [e7,decide_false,Bool.not_false,cond_true,cond_false,Option.bind_some,Bool.false_and];rfl
 simp only [e7,decide_true,Bool.not_true,cond_false,Bool.true_and];by_cases e8:c.2.2.1.getD k.toNat 0=c.2.2.1.getD g 0
 ·simp only [e8,decide_true,Bool.not_true,cond_false,cond_true,Option.bind_some];rfl
 ·simp only [e8,decide_false,Bool.not_false,cond_false,cond_true,Option.bind_some];rfl
open Go Go.Ve
theorem p157(c:Cat):G157 c=some (c.2.1.length:Int):=rfl
theorem p166{c:Cat}{a:Int}(h1:0<=a/\a<(c.2.1.length:Int))(h2:0<=a/\a<(c.2.2.1.length:Int)):G166 (c,a)=some (c.2.1.getD a.toNat 0,c.2.2.1.getD a.toNat 0):=by
 unfold G166;simp only [h1,h2,and_self,if_true]
theorem p163{c:Cat}(h:okC c):G163 c=some (DP c):=by
 obtain⟨h1,h2,h3,h4,h5⟩:=h;unfold G163;simp only [p157,p69 c.1 0 8,Option.bind_some];by_cases c1:0<=c.1/\c.1<=8
 case neg=>
  have e:(decide (0<=c.1)&&decide (c.1<=8))=false:=by simp;omega
  simp only [e,Bool.not_false,cond_true,Option.bind_some,Bs fun h=>c1 h.1]
 have e1:(decide (0<=c.1)&&decide (c.1<=8))=true:=by simp [c1]
 have hob:0<=c.1/\c.1<=9223372036854775807:=by omega
 have hm:(0:Int)<=(c.2.1.length:Int)/\(c.2.1.length:Int)<=9223372036854775807:=by omega
 simp only [e1,Bool.not_true,cond_false,Option.bind_some,W2 hob h1,W2 hob h2,W2 hm h3];by_cases c2:(40:Int)<(c.2.1.length:Int)
 case pos=>simp only [c2,decide_true,cond_true,Option.bind_some,Bs (c:=c) fun h=>absurd h.2.1 (by omega)]
 simp only [c2,decide_false,cond_false,Option.bind_some];by_cases c4:(c.2.2.1.length:Int)=(c.2.1.length:Int)
 case neg=>simp only [c4,decide_false,Bool.not_false,cond_true,Option.bind_some,Bs fun h=>c4 (by rw [h.2.2.1])]
 simp only [dT c4,Bool.not_true,cond_false,Option.bind_some];cases c3:wi c.1 c.2.1 with
 |false=>simp only [Bool.not_false,cond_true,Option.bind_some,Bs fun h=>by have:=h.2.2.2.1;rw [c3]at this;cases this]
 |true=>
 simp only [Bool.not_true,cond_false,Option.bind_some];cases c5:wi c.1 c.2.2.1 with
 |false=>simp only [Bool.not_false,cond_true,Option.bind_some,Bs fun h=>by have:=h.2.2.2.2.1;rw [c5]at this;cases this]
 |true=>
 simp only [Bool.not_true,cond_false,Option.bind_some];by_cases c7:(c.2.2.2.1.length:Int)=c.1
 case neg=>simp only [c7,decide_false,Bool.not_false,cond_true,Option.bind_some,Bs fun h=>c7 h.2.2.2.2.2.2.1]
 simp only [dT c7,Bool.not_true,cond_false];cases c8:wi c.2.1.length c.2.2.2.1 with
 |false=>simp only [Bool.not_false,cond_true,Option.bind_some,Bs fun h=>by have:=h.2.2.2.2.2.2.2;rw [c8]at this;cases this]
 |true=>
 simp only [Bool.not_true,cond_false,Option.bind_some];by_cases c6:(c.2.2.2.2.length:Int)=(c.2.1.length:Int)
 case neg=>simp only [c6,decide_false,Bool.not_false,cond_true,Option.bind_some,Bs fun h=>c6 (by rw [h.2.2.2.2.2.1])]
 simp only [dT c6,Bool.not_true,cond_false,Option.bind_some];have hh:Ii c:=⟨c1,by omega,by omega,c3,c5,by omega,c7,c8⟩
 have hs:DP c=((List.range c.2.2.2.1.length).all (Wb c)&&(List.range c.2.1.length).all (Db c)):=by simp [DP,hh]
 rw [hs];obtain⟨a1,a2,a3,a4,a5,a6,a7,a8⟩:=hh;refine Aa (v:=bif(List.range c.2.2.2.1.length).all (Wb c)then .brk 0 (c.2.2.2.1.length:Int)else .ret false) (Bd (st:=fun i=>(i:Int)) (fun i hi=>?_) (by simp) (fun y=>by simp)) ?_
 ·have hg:=BB a8 hi
  have hg':0<=c.2.2.2.1.getD i 0/\c.2.2.2.1.getD i 0<(c.2.2.1.length:Int):=by rw [a3];exact hg
  simp only [Ak,hi,decide_true,cond_true,Ab hi,if_true,tNC,and_self,p166 hg hg',Option.bind_some,Bool.and_true];rw [Ap (by omega) (by omega)]
  show(bif !Wb c i then _ else _)=_;cases Wb c i<;>rfl
 cases hi:(List.range c.2.2.2.1.length).all (Wb c)with
 |false=>rfl
 |true=>
 simp only [cond_true,Bool.true_and];show(if 0=0 then _ else _)=_
 rw [if_pos rfl];refine Aa (v:=bif(List.range c.2.1.length).all (Db c)then .brk 2 (c.2.1.length:Int)else .ret false) (Bd (st:=fun i=>(i:Int)) (fun f hf=>?_) (by simp [a6]) (fun y=>by simp)) (by cases (List.range c.2.1.length).all (Db c)<;>rfl)
 have hf6:f<c.2.2.2.2.length:=by omega
 simp only [Ak,hf6,decide_true,cond_true,Ab hf6,if_true,tNC,and_self];by_cases d1:((c.2.2.2.2.getD f []).length:Int)=(c.2.1.length:Int)
 case neg=>
  have:Db c f=false:=by unfold Db;simp only [show ¬ (c.2.2.2.2.getD f []).length=c.2.1.length by omega,decide_false,Bool.false_and]
  simp only [d1,decide_false,Bool.not_false,cond_true,this,cond_false];rfl
 have d2:(c.2.2.2.2.getD f []).length=c.2.1.length:=by omega
 have hr:Db c f=(List.range c.2.1.length).all (BO c f):=by unfold Db;simp only [d2,decide_true,Bool.true_and]
 simp only [dT d1,Bool.not_true,cond_false];rw [hr]
 refine Aa (v:=bif(List.range c.2.1.length).all (BO c f)then .brk 4 (c.2.1.length:Int)else .ret (.ret false)) (Bd (st:=fun i=>(i:Int)) (fun g hg=>?_) (by simp only [dF (show ¬ ((c.2.1.length:Int)<((c.2.2.2.2.getD f []).length:Int)) by omega),cond_false]) (fun y=>by simp)) (by
  cases (List.range c.2.1.length).all (BO c f)with
  |false=>rfl
  |true=>
   show(if 4=4 then some (LO.next (IntKind.wrap .i64 ((f:Int)+1)))else none)=_
   rw [if_pos rfl,Ap (by omega) (by omega)];rfl)
 have hf3:f<c.2.2.1.length:=by omega
 have hg3:g<c.2.2.1.length:=by omega
 have hgr:g<(c.2.2.2.2.getD f []).length:=by omega
 simp only [Ak,hf,hg,hf3,hg3,hgr,decide_true,cond_true,Ab hf,Ab hg,Ab hf6,Ab hf3,Ab hg3,Ab hgr,if_true,tNC,and_self,p69' _ _ hm,Option.bind_some];rw [Ap (show(0:Int)<=(g:Int)+1 by omega) (by omega)]
 unfold BO;obtain⟨k,hk⟩: ∃k,k=(c.2.2.2.2.getD f []).getD g 0:=⟨_,rfl⟩;simp only [<-hk];clear hk;by_cases e1:c.2.2.1.getD f 0=c.2.1.getD g 0
 case neg=>
  simp only [e1,decide_false,Bool.not_false,cond_true];by_cases e2:k= -1
  ·simp only [e2,decide_true,Bool.not_true,cond_false,cond_true];rfl
  ·simp only [e2,decide_false,Bool.not_false,cond_false,cond_true];rfl
 simp only [e1,decide_true,Bool.not_true,cond_false];cases e2:inn c.2.1.length k with
 |false=>simp only [Bool.not_false,cond_true,Option.bind_some,Bool.false_and,cond_false];rfl
 |true=>
 have e5:=Dr.1 e2;have e6:0<=k/\k<(c.2.2.1.length:Int):=by omega
 simp only [Bool.not_true,cond_false,p166 e5 e6,Option.bind_some,Bool.true_and,Bool.and_true];cases (decide (c.2.1.getD k.toNat 0=c.2.1.getD f 0)&&decide (c.2.2.1.getD k.toNat 0=c.2.2.1.getD g 0))<;>rfl
open Go Go.Ve
def T(c:Cat)(f g:Nat):Int:=(c.2.2.2.2.getD f []).getD g 0
def idn(c:Cat)(x:Int):Nat:=(c.2.2.2.1.getD x.toNat 0).toNat
def IP(c:Cat)(f:Nat):Bool:=decide (T c (idn c (c.2.1.getD f 0)) f=(f:Int))&&decide (T c f (idn c (c.2.2.1.getD f 0))=(f:Int))
def mt(c:Cat)(f g:Nat):Bool:=decide (c.2.2.1.getD f 0=c.2.1.getD g 0)
def Dz(c:Cat)(f g h:Nat):Bool:=bif mt c g h then decide (T c (T c f g).toNat h=T c f (T c g h).toNat)else true
def HZ(c:Cat):Bool:=(List.range c.2.1.length).all (IP c)&&(List.range c.2.1.length).all fun f=>(List.range c.2.1.length).all fun g=>bif mt c f g then(List.range c.2.1.length).all fun h=>Dz c f g h else true
structure Sh(c:Cat):Prop where
 hd:Ii c
 id: ∀x:Int,0<=x->x<c.1->(0<=c.2.2.2.1.getD x.toNat 0/\c.2.2.2.1.getD x.toNat 0<(c.2.1.length:Int))
 fr: ∀f,f<c.2.1.length->0<=c.2.1.getD f 0/\c.2.1.getD f 0<c.1
 to: ∀f,f<c.2.1.length->0<=c.2.2.1.getD f 0/\c.2.2.1.getD f 0<c.1
 row: ∀f,f<c.2.1.length->(c.2.2.2.2.getD f []).length=c.2.1.length
 neg: ∀f g,f<c.2.1.length->g<c.2.1.length->mt c f g=false->T c f g= -1
 pos: ∀f g,f<c.2.1.length->g<c.2.1.length->mt c f g=true->0<=T c f g/\T c f g<(c.2.1.length:Int)/\c.2.1.getD (T c f g).toNat 0=c.2.1.getD f 0/\c.2.2.1.getD (T c f g).toNat 0=c.2.2.1.getD g 0
theorem ZE{c:Cat}(h:DP c=true):Sh c:=by
 unfold DP at h;simp only [bAE,decide_eq_true_eq]at h;obtain⟨hh,hi,hr⟩:=h;have hr': ∀f,f<c.2.1.length->Db c f=true:=fun f hf=>aET.1 hr f (List.mem_range.2 hf)
 have hcell: ∀f g,f<c.2.1.length->g<c.2.1.length->BO c f g=true:=fun f g hf hg=>by
  have:=hr' f hf;unfold Db at this;rw [bAE]at this;exact aET.1 this.2 g (List.mem_range.2 hg)
 have h0:=hh;obtain⟨a1,a2,a3,a4,a5,a6,a7,a8⟩:=hh;refine⟨h0,fun x h1 h2=>BB a8 (by omega),fun f hf=>BB a4 hf,fun f hf=>BB a5 (by omega),fun f hf=>?_,fun f g hf hg hm=>?_,fun f g hf hg hm=>?_⟩
 ·have:=hr' f hf
  unfold Db at this;rw [bAE]at this;exact of_decide_eq_true this.1
 ·have:=hcell f g hf hg
  unfold BO at this;unfold mt at hm;rw [hm]at this;exact of_decide_eq_true this
 ·have:=hcell f g hf hg
  unfold BO at this;unfold mt at hm;rw [hm]at this;simp only [Bool.not_true,cond_false,bAE,decide_eq_true_eq]at this;exact⟨(Dr.1 this.1).1,(Dr.1 this.1).2,this.2.1,this.2.2⟩
theorem Bh{X R S:Type}{f:X->Option (LO X R)}{st:Nat->X}{n:Nat}{p:Nat->Bool}{Q:R->Prop}{o:LO X R}{k:LO X R->Option S}{Post:Option S->Prop}
  (h1: ∀i,i<n->(p i=true->f (st i)=some (.next (st (i+1))))/\(p i=false->∃r,f (st i)=some (.ret r)/\Q r)) (h2:f (st n)=some o) (ho: ∀y,o≠.next y)
  (hA:(List.range n).all p=true->Post (k o)) (hB:(List.range n).all p=false->∀r,Q r->Post (k (.ret r))):Post (Option.bind (Ag f (st 0)) k):=by
 obtain⟨g1,g2⟩:=UE h1 h2 ho;cases h:(List.range n).all p with
 |true=>rw [g1 h];exact hA h
 |false=>obtain⟨r,hr,hq⟩:=g2 h;rw [hr];exact hB h r hq
theorem inN{a:Int}{n:Nat}(h:0<=a/\a<(n:Int)):a.toNat<n:=by omega
theorem ZZ{c:Cat}(h:Sh c){f g:Int}(hf:0<=f/\f<(c.2.1.length:Int))(hg:0<=g/\g<(c.2.1.length:Int)):G167 (c,(f,g))=some (T c f.toNat g.toNat):=by
 unfold G167;have e1:c.2.2.2.2.length=c.2.1.length:=h.hd.2.2.2.2.2.1;have e2:=h.row f.toNat (inN hf);have h1:0<=f/\f<(c.2.2.2.2.length:Int):=by rw [e1];exact hf
 have h2:0<=g/\g<((c.2.2.2.2.getD f.toNat []).length:Int):=by rw [e2];exact hg
 simp only [h1,h2,and_self,if_true];rfl
theorem p164{c:Cat}(h:Sh c): ∃r,G164 c=some r/\(decide (r.1=0)=HZ c):=by
 have hh:=h.hd;obtain⟨a1,a2,a3,a4,a5,a6,a7,a8⟩:=hh;unfold G164;simp only [p157,Option.bind_some];refine Bh (Post:=fun(z:Option (Int×Int×Int×Int))=>∃r,z=some r/\(decide (r.1=0)=HZ c)) (st:=fun i=>(i:Int)) (n:=c.2.1.length) (p:=IP c) (Q:=fun(r:Int×Int×Int×Int)=>r.1≠0) (o:=.brk 0 (c.2.1.length:Int)) (fun f hf=>?_) (by simp) (fun y=>by simp) (fun hu=>?_) (fun hu r hr=>?_)
 ·have hf1:=h.fr f hf
  have ht1:=h.to f hf;have hi1:=h.id _ hf1.1 hf1.2;have hi2:=h.id _ ht1.1 ht1.2;have hfi:0<=c.2.1.getD f 0/\c.2.1.getD f 0<(c.2.2.2.1.length:Int):=by omega
  have hti:0<=c.2.2.1.getD f 0/\c.2.2.1.getD f 0<(c.2.2.2.1.length:Int):=by omega
  have hf3:f<c.2.2.1.length:=by omega
  simp only [Ak,hf,hf3,decide_true,cond_true,Ab hf,Ab hf3,if_true,tNC,and_self,hfi,hti,ZZ h hi1 (Ab hf),ZZ h (Ab hf) hi2,Option.bind_some];rw [Ap (by omega) (by omega)]
  show(IP c f=true->_)/\_;unfold IP idn;by_cases b1:T c (c.2.2.2.1.getD (c.2.1.getD f 0).toNat 0).toNat f=(f:Int)
  ·by_cases b2:T c f (c.2.2.2.1.getD (c.2.2.1.getD f 0).toNat 0).toNat=(f:Int)
   ·simp only [b1,b2,decide_true,Bool.not_true,cond_false,Option.bind_some,Bool.and_self]
    exact⟨fun _=>rfl,(fun h=>by cases h)⟩
   ·simp only [b1,b2,decide_true,decide_false,Bool.not_true,Bool.not_false,cond_false,cond_true,Option.bind_some,Bool.and_false]
    exact⟨(fun h=>by cases h),fun _=>⟨_,rfl,by simp⟩⟩
  ·simp only [b1,decide_false,Bool.not_false,cond_true,Option.bind_some,Bool.false_and]
   exact⟨(fun h=>by cases h),fun _=>⟨_,rfl,by simp⟩⟩
 ·show ∃r,(if 0=0 then _ else none)=some r/\_
  rw [if_pos rfl];refine Bh (Post:=fun(z:Option (Int×Int×Int×Int))=>∃r,z=some r/\(decide (r.1=0)=HZ c)) (st:=fun i=>(i:Int)) (n:=c.2.1.length) (p:=fun f=>(List.range c.2.1.length).all fun g=>bif mt c f g then(List.range c.2.1.length).all fun h=>Dz c f g h else true) (Q:=fun(r:Int×Int×Int×Int)=>r.1≠0) (o:=.brk 2 (c.2.1.length:Int)) (fun f hf=>?_) (by simp) (fun y=>by simp) (fun hv=>?_) (fun hv r hr=>?_)
  ·simp only [Ak,hf,decide_true,cond_true]
   refine Bh (Post:=fun(z:Option (LO Int (Int×Int×Int×Int)))=>(((List.range c.2.1.length).all fun g=>bif mt c f g then(List.range c.2.1.length).all fun h=>Dz c f g h else true)=true->z=some (.next ((f+1:Nat):Int)))/\(((List.range c.2.1.length).all fun g=>bif mt c f g then(List.range c.2.1.length).all fun h=>Dz c f g h else true)=false->∃r,z=some (.ret r)/\r.1≠0))
    (st:=fun i=>(i:Int)) (n:=c.2.1.length) (p:=fun g=>bif mt c f g then(List.range c.2.1.length).all fun h=>Dz c f g h else true) (Q:=fun(r:LO Int (Int×Int×Int×Int))=>∃r',r= .ret r'/\r'.1≠0) (o:=.brk 4 (c.2.1.length:Int)) (fun g hg=>?_) (by simp) (fun y=>by simp) (fun hw=>?_) (fun hw r hr=>?_)
   ·simp only [Ak,hg,decide_true,cond_true,ZZ h (Ab hf) (Ab hg),tNC,Option.bind_some]
    rw [Ap (show(0:Int)<=(g:Int)+1 by omega) (by omega)]
    cases hm:mt c f g with
    |false=>
     have:=h.neg f g hf hg hm;simp only [this,show((-1:Int)<0) by decide,decide_true,cond_true,cond_false]
     exact⟨fun _=>rfl,(fun h=>by cases h)⟩
    |true=>
     obtain⟨q1,q2,q3,q4⟩:=h.pos f g hf hg hm;simp only [show ¬ (T c f g<0) by omega,decide_false,cond_false,cond_true]
     refine Bh (Post:=fun(z:Option (LO Int (LO Int (Int×Int×Int×Int))))=>(((List.range c.2.1.length).all fun h=>Dz c f g h)=true->z=some (.next ((g+1:Nat):Int)))/\(((List.range c.2.1.length).all fun h=>Dz c f g h)=false->∃r,z=some (.ret r)/\∃r',r= .ret r'/\r'.1≠0))
      (st:=fun i=>(i:Int)) (n:=c.2.1.length) (p:=fun h=>Dz c f g h) (Q:=fun(r:LO Int (LO Int (Int×Int×Int×Int)))=>∃r',r= .ret (.ret r')/\r'.1≠0) (o:=.brk 6 (c.2.1.length:Int)) (fun k hk=>?_) (by simp) (fun y=>by simp) (fun hw=>?_) (fun hw r hr=>?_)
     ·simp only [Ak,hk,decide_true,cond_true,ZZ h (Ab hg) (Ab hk),tNC,Option.bind_some]
      rw [Ap (show(0:Int)<=(k:Int)+1 by omega) (by omega)]
      unfold Dz;cases hm2:mt c g k with
      |false=>
       have:=h.neg g k hg hk hm2;simp only [this,show ¬ ((0:Int)<=-1) by decide,decide_false,cond_false,Option.bind_some]
       exact⟨fun _=>rfl,(fun h=>by cases h)⟩
      |true=>
       obtain⟨w1,w2,w3,w4⟩:=h.pos g k hg hk hm2;simp only [w1,decide_true,cond_true,ZZ h (Ab hf) (Ab hg),ZZ h ⟨q1,q2⟩ (Ab hk),ZZ h (Ab hf) ⟨w1,w2⟩,tNC,Option.bind_some];by_cases b:T c (T c f g).toNat k=T c f (T c g k).toNat
       ·simp only [b,decide_true,Bool.not_true,cond_false]
        exact⟨fun _=>rfl,(fun h=>by cases h)⟩
       ·simp only [b,decide_false,Bool.not_false,cond_true]
        exact⟨(fun h=>by cases h),fun _=>⟨_,rfl,_,rfl,by simp⟩⟩
     ·refine⟨fun _=>?_,(fun h=>by rw [hw]at h;cases h)⟩
      show(if 6=6 then some (LO.next ((g:Int)+1))else none)=_
      rw [if_pos rfl];rfl
     ·obtain⟨r',rfl,hr'⟩:=hr
      exact⟨(fun h=>by rw [hw]at h;cases h),fun _=>⟨_,rfl,r',rfl,hr'⟩⟩
   ·refine⟨fun _=>?_,(fun h=>by rw [hw]at h;cases h)⟩
    show(if 4=4 then some (LO.next (IntKind.wrap .i64 ((f:Int)+1)))else none)=_
    rw [if_pos rfl,Ap (by omega) (by omega)];rfl
   ·obtain⟨r',rfl,hr'⟩:=hr
    exact⟨(fun h=>by rw [hw]at h;cases h),fun _=>⟨r',rfl,hr'⟩⟩
  ·exact⟨_,rfl,by unfold HZ;rw [hu,hv];rfl⟩
  ·exact⟨r,rfl,by unfold HZ;rw [hu,hv];simpa using hr⟩
 ·exact⟨r,rfl,by unfold HZ;rw [hu];simpa using hr⟩
open Go Go.Ve
theorem p162{c:Cat}(h:Sh c): ∃r,G162 c=some r/\(decide (r.1=0)=HZ c):=by
 have hh:=h.hd;obtain⟨a1,a2,a3,a4,a5,a6,a7,a8⟩:=hh;unfold G162;refine Bh (Post:=fun(z:Option (Int×Int×Int×Int))=>∃r,z=some r/\(decide (r.1=0)=HZ c)) (st:=fun i=>(i:Int)) (n:=c.2.1.length) (p:=IP c) (Q:=fun(r:Int×Int×Int×Int)=>r.1≠0) (o:=.brk 0 (c.2.1.length:Int)) (fun f hf=>?_) (by simp) (fun y=>by simp) (fun hu=>?_) (fun hu r hr=>?_)
 ·have hf1:=h.fr f hf
  have ht1:=h.to f hf;have hi1:=h.id _ hf1.1 hf1.2;have hi2:=h.id _ ht1.1 ht1.2;have hfi:0<=c.2.1.getD f 0/\c.2.1.getD f 0<(c.2.2.2.1.length:Int):=by omega
  have hti:0<=c.2.2.1.getD f 0/\c.2.2.1.getD f 0<(c.2.2.2.1.length:Int):=by omega
  have hf3:f<c.2.2.1.length:=by omega
  have hf6:f<c.2.2.2.2.length:=by omega
  have hi1':0<=c.2.2.2.1.getD (c.2.1.getD f 0).toNat 0/\c.2.2.2.1.getD (c.2.1.getD f 0).toNat 0<(c.2.2.2.2.length:Int):=by rw [a6];exact hi1
  have hr1:=h.row _ (inN hi1);have hr1':f<(c.2.2.2.2.getD (c.2.2.2.1.getD (c.2.1.getD f 0).toNat 0).toNat []).length:=by rw [hr1];exact hf
  have hi2':0<=c.2.2.2.1.getD (c.2.2.1.getD f 0).toNat 0/\c.2.2.2.1.getD (c.2.2.1.getD f 0).toNat 0<((c.2.2.2.2.getD f []).length:Int):=by rw [h.row f hf];exact hi2
  simp only [Ak,hf,hf3,hf6,decide_true,cond_true,Ab hf,Ab hf3,Ab hf6,if_true,tNC,and_self,hfi,hti,hi1',hi2',Ab hr1',hr1',Option.bind_some];rw [Ap (by omega) (by omega)]
  show(IP c f=true->_)/\_;unfold IP idn T;by_cases b1:(c.2.2.2.2.getD (c.2.2.2.1.getD (c.2.1.getD f 0).toNat 0).toNat []).getD f 0=(f:Int)
  ·by_cases b2:(c.2.2.2.2.getD f []).getD (c.2.2.2.1.getD (c.2.2.1.getD f 0).toNat 0).toNat 0=(f:Int)
   ·simp only [b1,b2,decide_true,Bool.not_true,cond_false,Option.bind_some,Bool.and_self]
    exact⟨fun _=>rfl,(fun h=>by cases h)⟩
   ·simp only [b1,b2,decide_true,decide_false,Bool.not_true,Bool.not_false,cond_false,cond_true,Option.bind_some,Bool.and_false]
    exact⟨(fun h=>by cases h),fun _=>⟨_,rfl,by simp⟩⟩
  ·simp only [b1,decide_false,Bool.not_false,cond_true,Option.bind_some,Bool.false_and]
   exact⟨(fun h=>by cases h),fun _=>⟨_,rfl,by simp⟩⟩
 ·show ∃r,(if 0=0 then _ else none)=some r/\_
  rw [if_pos rfl];refine Bh (Post:=fun(z:Option (Int×Int×Int×Int))=>∃r,z=some r/\(decide (r.1=0)=HZ c)) (st:=fun i=>(i:Int)) (n:=c.2.1.length) (p:=fun f=>(List.range c.2.1.length).all fun g=>bif mt c f g then(List.range c.2.1.length).all fun h=>Dz c f g h else true) (Q:=fun(r:Int×Int×Int×Int)=>r.1≠0) (o:=.brk 2 (c.2.1.length:Int)) (fun f hf=>?_) (by simp) (fun y=>by simp) (fun hv=>?_) (fun hv r hr=>?_)
  ·simp only [Ak,hf,decide_true,cond_true]
   refine Bh (Post:=fun(z:Option (LO Int (Int×Int×Int×Int)))=>(((List.range c.2.1.length).all fun g=>bif mt c f g then(List.range c.2.1.length).all fun h=>Dz c f g h else true)=true->z=some (.next ((f+1:Nat):Int)))/\(((List.range c.2.1.length).all fun g=>bif mt c f g then(List.range c.2.1.length).all fun h=>Dz c f g h else true)=false->∃r,z=some (.ret r)/\r.1≠0))
    (st:=fun i=>(i:Int)) (n:=c.2.1.length) (p:=fun g=>bif mt c f g then(List.range c.2.1.length).all fun h=>Dz c f g h else true) (Q:=fun(r:LO Int (Int×Int×Int×Int))=>∃r',r= .ret r'/\r'.1≠0) (o:=.brk 4 (c.2.1.length:Int)) (fun g hg=>?_) (by simp) (fun y=>by simp) (fun hw=>?_) (fun hw r hr=>?_)
   ·have hf3:f<c.2.2.1.length:=by omega
    have hg3:g<c.2.2.1.length:=by omega
    have hf6:f<c.2.2.2.2.length:=by omega
    have hg6:g<c.2.2.2.2.length:=by omega
    simp only [Ak,hg,hf3,decide_true,cond_true,Ab hg,Ab hf3,and_self,if_true,tNC];rw [Ap (show(0:Int)<=(g:Int)+1 by omega) (by omega)]
    show(((bif mt c f g then _ else true)=true)->(bif !mt c f g then _ else _)=_)/\(_->∃r,(bif !mt c f g then _ else _)=_/\_);cases hm:mt c f g with
    |false=>exact⟨fun _=>rfl,(fun h=>by cases h)⟩
    |true=>
     obtain⟨q1,q2,q3,q4⟩:=h.pos f g hf hg hm;simp only [Bool.not_true,cond_false,cond_true]
     refine Bh (Post:=fun(z:Option (LO Int (LO Int (Int×Int×Int×Int))))=>(((List.range c.2.1.length).all fun h=>Dz c f g h)=true->z=some (.next ((g+1:Nat):Int)))/\(((List.range c.2.1.length).all fun h=>Dz c f g h)=false->∃r,z=some (.ret r)/\∃r',r= .ret r'/\r'.1≠0))
      (st:=fun i=>(i:Int)) (n:=c.2.1.length) (p:=fun h=>Dz c f g h) (Q:=fun(r:LO Int (LO Int (Int×Int×Int×Int)))=>∃r',r= .ret (.ret r')/\r'.1≠0) (o:=.brk 6 (c.2.1.length:Int)) (fun k hk=>?_) (by simp) (fun y=>by simp) (fun hw=>?_) (fun hw r hr=>?_)
     ·have e1:(c.2.2.2.2.getD f []).length=c.2.1.length:=h.row f hf
      have e2:(c.2.2.2.2.getD g []).length=c.2.1.length:=h.row g hg;have e3:(c.2.2.2.2.getD (T c f g).toNat []).length=c.2.1.length:=h.row _ (inN ⟨q1,q2⟩);have hgf:g<(c.2.2.2.2.getD f []).length:=by omega
      have hkg:k<(c.2.2.2.2.getD g []).length:=by omega
      have hkt:k<(c.2.2.2.2.getD (T c f g).toNat []).length:=by omega
      have ht:0<=T c f g/\T c f g<(c.2.2.2.2.length:Int):=by omega
      simp only [Ak,hk,hg3,decide_true,cond_true,Ab hk,Ab hg3,Ab hf6,Ab hg6,Ab hgf,Ab hkg,hf6,hg6,hgf,hkg,and_self,if_true,tNC];rw [Ap (show(0:Int)<=(k:Int)+1 by omega) (by omega)]
      have eM:decide (c.2.2.1.getD g 0=c.2.1.getD k 0)=mt c g k:=rfl;have eT: ∀a b,(c.2.2.2.2.getD a []).getD b 0=T c a b:=fun _ _=>rfl
      have hkt':(k:Int)<((c.2.2.2.2.getD (T c f g).toNat []).length:Int):=by omega
      simp only [eM,eT,hkt',and_self,if_true];unfold Dz;cases hm2:mt c g k with
      |false=>exact⟨fun _=>rfl,(fun h=>by cases h)⟩
      |true=>
       obtain⟨w1,w2,w3,w4⟩:=h.pos g k hg hk hm2;have hw':0<=T c g k/\T c g k<((c.2.2.2.2.getD f []).length:Int):=by omega
       simp only [cond_true,ht,Ab hkt,hw',and_self,if_true,Option.bind_some];by_cases b:T c (T c f g).toNat k=T c f (T c g k).toNat
       ·simp only [b,decide_true,Bool.not_true,cond_false]
        exact⟨fun _=>rfl,(fun h=>by cases h)⟩
       ·simp only [b,decide_false,Bool.not_false,cond_true]
        exact⟨(fun h=>by cases h),fun _=>⟨_,rfl,_,rfl,by simp⟩⟩
     ·refine⟨fun _=>?_,(fun h=>by rw [hw]at h;cases h)⟩
      show(if 6=6 then some (LO.next ((g:Int)+1))else none)=_
      rw [if_pos rfl];rfl
     ·obtain⟨r',rfl,hr'⟩:=hr
      exact⟨(fun h=>by rw [hw]at h;cases h),fun _=>⟨_,rfl,r',rfl,hr'⟩⟩
   ·refine⟨fun _=>?_,(fun h=>by rw [hw]at h;cases h)⟩
    show(if 4=4 then some (LO.next (IntKind.wrap .i64 ((f:Int)+1)))else none)=_
    rw [if_pos rfl,Ap (by omega) (by omega)];rfl
   ·obtain⟨r',rfl,hr'⟩:=hr
    exact⟨(fun h=>by rw [hw]at h;cases h),fun _=>⟨r',rfl,hr'⟩⟩
  ·exact⟨_,rfl,by unfold HZ;rw [hu,hv];rfl⟩
  ·exact⟨r,rfl,by unfold HZ;rw [hu,hv];simpa using hr⟩
 ·exact⟨r,rfl,by unfold HZ;rw [hu];simpa using hr⟩
open Go Go.Ve
def Ir(c:Cat):Bool:=DP c&&HZ c
theorem p155{c:Cat}(h:okC c):G155 c=some (Ir c):=by
 unfold G155;simp only [p161 h,Option.bind_some];unfold Ir;cases hs:DP c with
 |false=>rfl
 |true=>
  obtain⟨r,hr,hl⟩:=p162 (ZE hs);simp only [hr,Option.bind_some,hl,Bool.not_true,cond_false,Bool.true_and]
theorem p156{c:Cat}(h:okC c):G156 c=some (Ir c):=by
 unfold G156;simp only [p163 h,Option.bind_some];unfold Ir;cases hs:DP c with
 |false=>rfl
 |true=>
  obtain⟨r,hr,hl⟩:=p164 (ZE hs);simp only [hr,Option.bind_some,hl,Bool.not_true,cond_false,Bool.true_and]
abbrev Qry:=List Int×List (Int×Int)×List (Int×Int)×List Int
def qHead(c:Cat)(q:Qry):Prop:=q.1.length<=4/\wi c.1 q.1=true/\q.2.1.length<=6/\q.2.2.1.length=q.2.1.length/\q.2.2.2.length<=4/\wi q.1.length q.2.2.2=true
instance(c:Cat)(q:Qry):Decidable (qHead c q):=by unfold qHead;infer_instance
open Go Go.Ve
open Go Go.Ve
end Go.Ve.D


namespace Go.Ve.D
open Go Go.Ve
theorem Ha{α:Type}{x:List α}(d:α){i:Nat}(hi:i<x.length):x.take i++ [x.getD i d]=x.take (i+1):=by
 rw [List.take_add_one];simp [hi]
theorem As{α:Type}{x:List α}(d:α){i:Nat}(hi:i<x.length):x.getD i d∈x:=by
 rw [gDE,gEE hi];exact List.getElem_mem hi
def mk(x:List Int)(k:Int):List Int:=(List.range x.length).map fun(i:Nat)=>k+(i:Int)
theorem Jc{x:List Int}{k:Int}:(mk x k).length=x.length:=by simp [mk]
theorem YT{x:List Int}{k:Int}{i:Nat}(hi:i<x.length):(mk x k).getD i 0=k+(i:Int):=by
 simp [mk,hi]
theorem p23{x:List Int}{k:Int}(h0:0<=k)(h1:k<=1152921504606846976)(h:x.length<=1048576):G23 (x,k)=some (k+(x.length:Int),mk x k):=by
 unfold G23;have hst:((k,((0:Int),x)):Int×Int×List Int)=(fun i:Nat=>(k+(i:Int),((i:Int),(mk x k).take i++x.drop i))) 0:=by simp
 simp only [hst];refine Aa (v:=.brk 0 (k+(x.length:Int),((x.length:Int),mk x k))) (Ax (st:=fun i:Nat=>(k+(i:Int),((i:Int),(mk x k).take i++x.drop i))) (n:=x.length) (fun i hi=>?_) ?_ (fun y=>by simp)) rfl
 ·have e:((mk x k).take i++x.drop i).length=x.length:=by simp [Jc];omega
  simp only [e,Ak,hi,decide_true,cond_true,Ab hi,if_true,tNC,and_self];have hm:=Hb (x:=mk x k) (y:=x) (i:=i) 0 Jc.symm (by rw [Jc];exact hi)
  rw [YT hi]at hm;rw [hm,Bx (by omega) (by omega),Ap (by omega) (by omega)]
  simp only [Int.natCast_add,Int.add_assoc];rfl
 ·have e:((mk x k).take x.length++x.drop x.length)=mk x k:=by
   rw [List.drop_length,List.append_nil];exact List.take_of_length_le (by rw [Jc];exact Nat.le_refl _)
  simp only [e,Jc,Ak,Nat.lt_irrefl,decide_false,cond_false]
def tot(x:List (List Int))(i:Nat):Nat:=((x.take i).map List.length).sum
theorem K7{x:List (List Int)}{i:Nat}(hi:i<x.length):tot x (i+1)=tot x i+(x.getD i []).length:=by
 unfold tot;rw [<-Ha [] hi];simp
theorem O4{x:List (List Int)}(hx: ∀y∈x,y.length<=1048576): ∀i,i<=x.length->tot x i<=i*1048576
 |0,_=>by simp [tot]
 |i+1,hi=>by
  rw [K7 (by omega)]
  have:=O4 hx i (by omega)
  have:=hx _ (As [] (show i<x.length by omega))
  omega
def mks(x:List (List Int))(k:Int):List (List Int):=(List.range x.length).map fun(i:Nat)=>mk (x.getD i []) (k+(tot x i:Int))
theorem C2{x:List (List Int)}{k:Int}:(mks x k).length=x.length:=by simp [mks]
theorem VP{x:List (List Int)}{k:Int}{i:Nat}(hi:i<x.length):(mks x k).getD i []=mk (x.getD i []) (k+(tot x i:Int)):=by
 simp [mks,hi]
theorem p25{x:List (List Int)}{k:Int}(h0:0<=k)(h1:k<=1125899906842624)(h:x.length<=1048576)(hx: ∀y∈x,y.length<=1048576):G25 (x,k)=some (k+(tot x x.length:Int),mks x k):=by
 unfold G25;have hst:((k,((0:Int),x)):Int×Int×List (List Int))=(fun i:Nat=>(k+(tot x i:Int),((i:Int),(mks x k).take i++x.drop i))) 0:=by simp [tot]
 simp only [hst];refine Aa (v:=.brk 0 (k+(tot x x.length:Int),((x.length:Int),mks x k))) (Ax (st:=fun i:Nat=>(k+(tot x i:Int),((i:Int),(mks x k).take i++x.drop i))) (n:=x.length) (fun i hi=>?_) ?_ (fun y=>by simp)) rfl
 ·have e:((mks x k).take i++x.drop i).length=x.length:=by simp [C2];omega
  have e2:((mks x k).take i++x.drop i).getD i []=x.getD i []:=by
   simp only [gDE];rw [gAR (by simp [C2];omega)]
   simp [C2,Nat.min_eq_left (Nat.le_of_lt hi)]
  have ht:=O4 hx i (Nat.le_of_lt hi);have hr:=hx _ (As [] hi);simp only [e,e2,Ak,hi,decide_true,cond_true,Ab hi,if_true,tNC,and_self,p23 (x:=x.getD i []) (k:=k+(tot x i:Int)) (by omega) (by omega) hr,Option.bind_some]
  have hm:=Hb (x:=mks x k) (y:=x) (i:=i) [] C2.symm (by rw [C2];exact hi)
  rw [VP hi]at hm;rw [hm,Ap (by omega) (by omega),K7 hi]
  simp only [Int.natCast_add,Int.add_assoc];rfl
 ·have e:((mks x k).take x.length++x.drop x.length)=mks x k:=by
   rw [List.drop_length,List.append_nil];exact List.take_of_length_le (by rw [C2];exact Nat.le_refl _)
  simp only [e,C2,Ak,Nat.lt_irrefl,decide_false,cond_false]
end Go.Ve.D


namespace Go.Ve.D
open Go Go.Ve
theorem L4{c:Cat}(h:Ir c=true):Sh c:=by
 unfold Ir at h;rw [bAE]at h;exact ZE h.1
theorem Y0{α R:Type}{f:(Int×List α)->Option (LO (Int×List α) R)}{n:Nat}{q:Nat->Bool}{g:Nat->α}{id:Nat}
  (h1: ∀i,i<n->∀acc:List α,acc.length<=i->f ((i:Int),acc)=some (.next (((i+1:Nat):Int),bif q i then acc++ [g i]else acc)))
  (h2: ∀acc:List α,f ((n:Int),acc)=some (.brk id ((n:Int),acc))):
  Ag f ((0:Int),[])=some (.brk id ((n:Int),((List.range n).filter q).map g)):=by
 have key: ∀i,(((List.range i).filter q).map g).length<=i:=fun i=>by
  rw [List.length_map];have:=List.length_filter_le q (List.range i);rwa [List.length_range]at this
 refine Ax (st:=fun i:Nat=>((i:Int),((List.range i).filter q).map g)) (n:=n) (fun i hi=>?_) (h2 _) (fun y=>by simp)
 rw [h1 i hi _ (key i),List.range_succ,List.filter_append,List.map_append]
 congr 3
 cases hq:q i<;>simp [hq]
def fT(c:Cat)(f:Nat):Int:=c.2.1.getD f 0
def tT(c:Cat)(f:Nat):Int:=c.2.2.1.getD f 0
def ar(c:Cat):Nat:=c.2.1.length
def W1(x:List Int):Bool:=(List.range (x.length-1)).all fun i=>!decide (x.getD (i+1) 0<=x.getD i 0)
def arrC(c:Cat)(w:List Int):Int:=bif !Ir c then 1 else bif !wi (ar c) w then 2 else 0
def AaV(c:Cat)(w:List Int):Int:=bif decide (arrC c w=0)&& !W1 w then 5 else arrC c w
end Go.Ve.D


namespace Go.Ve.D
open Go Go.Ve
theorem K2{n:Nat}{p q:Nat->Bool}(h: ∀i,i<n->p i=q i):(List.range n).all p=(List.range n).all q:=by
 rw [Bool.eq_iff_iff,aET,aET];exact⟨fun H i hi=>by rw [<-h i (List.mem_range.1 hi)];exact H i hi,fun H i hi=>by rw [h i (List.mem_range.1 hi)];exact H i hi⟩
end Go.Ve.D


namespace Go.Ve.D
open Go Go.Ve
def hit(c:Cat)(w:List Int)(f v:Nat)(b a:Int):Bool:=w.contains b&&decide (T c b.toNat f=T c a.toNat v)
end Go.Ve.D


namespace Go.Ve.D
open Go Go.Ve
theorem fm_len{m:Nat}{q:Nat->Bool}:(((List.range m).filter q).map fun(f:Nat)=>(f:Int)).length<=m:=by
 rw [List.length_map];have:=List.length_filter_le q (List.range m);rwa [List.length_range]at this
end Go.Ve.D

