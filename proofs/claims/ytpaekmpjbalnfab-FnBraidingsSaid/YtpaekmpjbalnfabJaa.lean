/- The source of numbers. -/
import Derived.Test.YtpaekmpjbalnfabUcb
import Derived.Test.YtpaekmpjbalnfabLa
import Derived.Test.YtpaekmpjbalnfabBda
import Derived.Test.YtpaekmpjbalnfabBba
namespace Go.Ve.D
open Go Go.Ve
abbrev Src:=List Int×(Int×Int)
def OkS(s:Src):Prop:=0<=s.2.1/\s.1.length<=4096/\∀b∈s.1,0<=b/\b<=255
theorem wr64(n:Int):IntKind.u64.wrap n=n % 18446744073709551616:=by simp [IntKind.wrap,IntKind.bits,IntKind.signed]
theorem and24(a:Int):0<=Zj .u64 a 16777215/\Zj .u64 a 16777215<=16777215:=by
 unfold Zj
 have h:(BitVec.ofInt IntKind.u64.bits a&&&BitVec.ofInt IntKind.u64.bits 16777215).toNat<=16777215:=by
  rw [BitVec.toNat_and];exact Nat.le_trans Nat.and_le_right (by decide)
 rw [wr64];omega
theorem AaA{s:Src}(h:OkS s)(i:Nat):0<=s.1.getD i 0/\s.1.getD i 0<=255:=by
 rw [gDE];by_cases hi:i<s.1.length
 ·rw [gEE hi]
  exact h.2.2 _ (List.getElem_mem hi)
 ·rw [List.getElem?_eq_none (by omega)]
  exact⟨Int.le_refl _,by decide⟩
def Num(n:Int)(r:Int×Src):Prop:=(0<=r.1/\(0<n->r.1<n)/\(n<=0->r.1=0))/\OkS r.2
theorem p41{z:Int}{s:Src}(h:OkS s):Tot (Num z) (G41 z s):=by
 unfold G41;have hn:=and24;refine Av (fun hz=>?_) (fun hz=>?_)
 ·have hz:=Ho hz
  exact Aa ⟨⟨Int.le_refl _,fun h=>h,fun _=>rfl⟩,h⟩
 have hz: ¬z<1:=WJ hz;have hz0:z≠0:=by omega
 have key: ∀A:Int,0<=A->0<=Int.tmod A z/\(0<z->Int.tmod A z<z)/\(z<=0->Int.tmod A z=0):=by
  intro A hA;rw [Int.tmod_eq_emod_of_nonneg hA];exact⟨Int.emod_nonneg _ hz0,fun hp=>Int.emod_lt_of_pos _ hp,fun hp=>by omega⟩
 refine Ac (by decide) (Av (fun ha=>?_) (fun _=>?_))
 ·have ha:=Ho ha
  refine Ac ⟨h.1,ha⟩ (Ac hz0 (Aa ⟨key _ ?_,?_⟩))
  ·obtain⟨a1,a2⟩:=hn (ZJ .u64 (IntKind.wrap .u64 ((IntKind.wrap .u64 (s.2.2*(6364136223846793005:Int)))+(1442695040888963407:Int))) (33:Int))
   obtain⟨b1,b2⟩:=AaA h s.2.1.toNat;rw [Az a1 (by omega),Az b1 (by omega),Az (by omega) (by omega)]
   omega
  ·have hl:=h.2.1
   have h0:=h.1;refine⟨?_,h.2⟩;show 0<=IntKind.wrap .i64 (s.2.1+1);rw [Az (by omega) (by omega)]
   omega
 ·refine Ac hz0 (Aa ⟨key _ ?_,h⟩)
  obtain⟨a1,a2⟩:=hn (ZJ .u64 (IntKind.wrap .u64 ((IntKind.wrap .u64 (s.2.2*(6364136223846793005:Int)))+(1442695040888963407:Int))) (33:Int));rw [Az a1 (by omega)]
  exact a1
def YT(x:List Int):Prop:=x.length<=4096/\∀b∈x,0<=b/\b<=255
theorem p38{x:List Int}(h:YT x):Tot OkS (G38 x):=by
 unfold G38;refine AF (n:=x.length) (fun i v=>v.1=(i:Int)/\v.2.1=x/\v.2.2.1=0) ⟨rfl,rfl,rfl⟩ (fun i hi v hv=>?_) fun v hv=>?_
 ·obtain⟨k,y,a,b⟩:=v
  obtain⟨rfl,rfl,rfl⟩:=hv;have hl:=h.1;refine AL (v:=true) ?_ ?_
  ·show(bif decide ((i:Int)<_)then some (decide ((i:Int)<4096))else _)=_
   rw [dT (by omega),dT (by omega)];rfl
  ·refine Ac (Ad hi) (Aa ⟨?_,rfl,rfl⟩)
   show IntKind.wrap .i64 ((i:Int)+1)=((i+1:Nat):Int);rw [Az (by omega) (by omega)];rfl
 ·obtain⟨k,y,a,b⟩:=v
  obtain⟨h1,h2,h3⟩:=hv;have e1:k=(x.length:Int):=h1;have e2:x=y:=h2.symm;have e3:a=0:=h3;clear h1 h2 h3;subst e1 e2 e3;refine AL (v:=false) ?_ (Aa (Ac rfl (Aa ⟨Int.le_refl _,h.1,h.2⟩)));show(bif decide _ then _ else some false)=_;rw [dF (by omega)];rfl
theorem p119{l:List Int}{s:Src}(h:OkS s)(hl:0<l.length):Tot (fun r=>OkS r.2) (G119 l s):=by
 unfold G119;refine Ap (p41 h) fun v hv=>?_
 obtain⟨⟨h1,h2,_⟩,h4⟩:=hv;exact Ac ⟨h1,h2 (by omega)⟩ (Aa h4)
theorem p79{n:Int}{s:Src}(h:OkS s):Tot (fun r=>OkS r.2) (G79 n s):=by
 unfold G79;refine Ap (p41 h) fun v hv=>Av (fun _=>?_) fun _=>?_
 ·exact Ap (p119 hv.2 (by simp)) fun w hw=>Aa hw
 ·exact Ap (p41 hv.2) fun w hw=>Aa hw.2
def okN(n:Nat)(t:List (List Int)):Prop:=t.length<=n/\∀y∈t,y.length<=n
theorem p39{s:Src}(h:OkS s):Tot (fun r=>okN 4 r.1/\OkS r.2) (G39 () s):=by
 unfold G39;refine Ap (p41 h) fun v hv=>?_
 have hs:=hv.2
 refine Av (fun _=>Ac trivial (Aa ⟨?_,hs⟩)) fun _=>Av (fun _=>Ac trivial (Aa ⟨?_,hs⟩)) fun _=>Av (fun _=>Ac trivial (Aa ⟨?_,hs⟩)) fun _=>Av (fun _=>Ac trivial (Aa ⟨?_,hs⟩)) fun _=>
  Av (fun _=>Ac trivial (Aa ⟨?_,hs⟩)) fun _=>Av (fun _=>Ac trivial (Aa ⟨?_,hs⟩)) fun _=>Av (fun _=>Ac trivial (Aa ⟨?_,hs⟩)) fun _=>Ac trivial (Aa ⟨?_,hs⟩)
 all_goals (dsimp only;exact⟨by decide,by decide⟩)
end Go.Ve.D


namespace Go.Ve.D
open Go Go.Ve
noncomputable section
theorem p101{x:List Int}(h:x.length<=1048576):G101 x=some x:=by
 unfold G101;rw [if_pos (by simp;omega)]
 rfl
theorem getN{n:Nat}{t:List (List Int)}(h:okN n t)(i:Nat):(t.getD i []).length<=n:=by
 rw [gDE];by_cases hi:i<t.length
 ·rw [gEE hi]
  exact h.2 _ (List.getElem_mem hi)
 ·rw [List.getElem?_eq_none (by omega)]
  exact Nat.zero_le _
theorem p53{t:List (List Int)}(h:okN 1048576 t):G53 t=some t:=by
 unfold G53;refine As (v:=.brk 0 ((t.length:Int),t)) (A8 (st:=fun i=>((i:Int),t.take i)) (n:=t.length) (fun i hi=>?_) ?_ (fun y=>by simp)) rfl
 ·have hl:=h.1
  simp only [Aw,hi,decide_true,cond_true,Ad hi,if_true,and_self,tNC,p101 (getN h i),Option.bind_some,List.length_take,List.length_cons,List.length_nil];rw [if_pos (by omega),Vd [] hi,wr1 hi (by omega)]
 ·simp
theorem p56{t:List (List Int)}(h:okN 1048576 t):G56 t=some ((1:Int),(List.replicate t.length (0:Int),(List.replicate t.length (0:Int),([(0:Int)],t)))):=by
 unfold G56;have hl:=h.1;rw [if_pos (by omega),if_pos (by omega),p53 h]
 simp
def Sq(n:Nat)(t:List (List Int)):Prop:=t.length=n/\∀i,i<n->(t.getD i []).length=n
theorem Sq.set{n:Nat}{t:List (List Int)}(h:Sq n t){i:Nat}{y:List Int}(hy:y.length=n):Sq n (t.set i y):=by
 refine⟨by rw [List.length_set];exact h.1,fun j hj=>?_⟩
 by_cases e:i=j
 ·subst e
  rw [gDE,List.getElem?_set_self (by rw [h.1];exact hj)]
  exact hy
 ·rw [gDE,List.getElem?_set_ne e,<-gDE]
  exact h.2 j hj
theorem Sq.okN{n m:Nat}{t:List (List Int)}(h:Sq n t)(hm:n<=m):okN m t:=⟨by rw [h.1];exact hm,fun y hy=>by
 obtain⟨i,hi,e⟩:=List.getElem_of_mem hy;have:=h.2 i (by rw [<-h.1];exact hi)
 rw [gDE,gEE hi]at this;have e2:y.length=n:=by rw [<-e];exact this
 omega⟩
theorem Sq.snoc{n i:Nat}{t:List (List Int)}(h:t.length=i/\∀j,j<i->(t.getD j []).length=n){y:List Int}(hy:y.length=n):(t++ [y]).length=i+1/\∀j,j<i+1->((t++ [y]).getD j []).length=n:=by
 refine⟨by simp [h.1],fun j hj=>?_⟩
 by_cases e:j<i
 ·rw [gDE,gAL (by omega),<-gDE]
  exact h.2 j e
 ·obtain rfl:j=i:=by omega
  rw [gDE,gAR (by omega)]
  simp [h.1,hy]
def warB{R:Type}(z:Int):(Int×List (List Int))->Option (LO (Int×List (List Int)) R):=(fun(v1:(Int×(List (List Int))))=>(bif(decide (v1.1<z))then(Option.bind (Ah (fun(v2:(Int×(List (List Int))))=>(bif(decide (v2.1<z))then(Option.bind (Ah (fun(v3:(Int×(List (List Int))))=>(bif(decide (v3.1<z))then(if(((0:Int)<=v2.1)/\(v2.1<((v3.2.length:Nat):Int)))then(if(((0:Int)<=v1.1)/\(v1.1<(((v3.2.getD (v2.1).toNat ([]:(List Int))).length:Nat):Int)))then(Option.bind (bif(decide (((v3.2.getD (v2.1).toNat ([]:(List Int))).getD (v1.1).toNat (0:Int))=(1:Int)))then(if(((0:Int)<=v1.1)/\(v1.1<((v3.2.length:Nat):Int)))then(if(((0:Int)<=v3.1)/\(v3.1<(((v3.2.getD (v1.1).toNat ([]:(List Int))).length:Nat):Int)))then(some (decide (((v3.2.getD (v1.1).toNat ([]:(List Int))).getD (v3.1).toNat (0:Int))=(1:Int))))else none)else none)else(some false)) (fun(v4:Bool)=>(bif v4 then(if(((0:Int)<=v2.1)/\(v2.1<((v3.2.length:Nat):Int)))then(if(((0:Int)<=v3.1)/\(v3.1<(((v3.2.getD (v2.1).toNat ([]:(List Int))).length:Nat):Int)))then(some (LO.next ((IntKind.wrap .i64 (v3.1+(1:Int))),(v3.2.set (v2.1).toNat ((v3.2.getD (v2.1).toNat ([]:(List Int))).set (v3.1).toNat (1:Int))))))else none)else none)else(some (LO.next ((IntKind.wrap .i64 (v3.1+(1:Int))),v3.2))))))else none)else none)else(some (LO.brk 8 (v3.1,v3.2))))) ((0:Int),v2.2)) (LO.fin fun i3 (v3:(Int×(List (List Int))))=>(if i3=8 then(some (LO.next ((IntKind.wrap .i64 (v2.1+(1:Int))),v3.2)))else none)))else(some (LO.brk 6 (v2.1,v2.2))))) ((0:Int),v1.2)) (LO.fin fun i2 (v2:(Int×(List (List Int))))=>(if i2=6 then(some (LO.next ((IntKind.wrap .i64 (v1.1+(1:Int))),v2.2)))else none)))else(some (LO.brk 4 (v1.1,v1.2)))))
theorem war{R:Type}{n:Nat}(hn:n<=1000){t:List (List Int)}(h:Sq n t){g:Nat->Int×List (List Int)->Option R}{Q:R->Prop}(hg: ∀k t',Sq n t'->Tot Q (g 4 (k,t'))):Tot Q (Option.bind (Ah (warB (n:Int)) ((0:Int),t)) (LO.fin g)):=by
 refine AF (n:=n) (fun i v=>v.1=(i:Int)/\Sq n v.2) ⟨rfl,h⟩ (fun a ha v hv=>?_) fun v hv=>?_
 ·obtain⟨k,t⟩:=v
  obtain⟨rfl,ht⟩:=hv;refine Bu (ltt ha) (AF (n:=n) (fun i v=>v.1=(i:Int)/\Sq n v.2) ⟨rfl,ht⟩ (fun b hb v hv=>?_) fun v hv=>?_)
  ·obtain⟨k,t⟩:=v
   obtain⟨rfl,ht⟩:=hv;refine Bu (ltt hb) (AF (n:=n) (fun i v=>v.1=(i:Int)/\Sq n v.2) ⟨rfl,ht⟩ (fun d hd v hv=>?_) fun v hv=>?_)
   ·obtain⟨k,t⟩:=v
    obtain⟨rfl,ht⟩:=hv;have h1:t.length=n:=ht.1;have h2: ∀i,i<n->(t.getD i []).length=n:=ht.2;have hb':((0:Int)<=(b:Int))/\((b:Int)<((t.length:Nat):Int)):=by omega
    have ha':((0:Int)<=(a:Int))/\((a:Int)<((t.length:Nat):Int)):=by omega
    have hr: ∀x y:Nat,x<n->y<n->((0:Int)<=(y:Int))/\((y:Int)<(((t.getD ((x:Int)).toNat []).length:Nat):Int)):=fun x y hx hy=>by
     rw [tNC,h2 x hx];omega
    refine Bu (ltt hd) (Ac hb' (Ac (hr b a hb ha) (Ap (P:=fun _=>True) (Av (fun _=>Ac ha' (Ac (hr a d ha hd) (Aa trivial))) fun _=>Aa trivial) fun v _=>Av (fun _=>Ac hb' (Ac (hr b d hb hd) (Aa ⟨wr1 hd (by omega),?_⟩))) fun _=>Aa ⟨wr1 hd (by omega),ht⟩)))
    refine ht.set ?_;rw [List.length_set,tNC];exact h2 b hb
   ·obtain⟨k,t⟩:=v
    obtain⟨rfl,ht⟩:=hv;exact AW ltf (Aa (Ac rfl (Aa ⟨wr1 hb (by omega),ht⟩)))
  ·obtain⟨k,t⟩:=v
   obtain⟨rfl,ht⟩:=hv;exact AW ltf (Aa (Ac rfl (Aa ⟨wr1 ha (by omega),ht⟩)))
 ·obtain⟨k,t⟩:=v
  obtain⟨rfl,ht⟩:=hv;exact AW ltf (Aa (hg _ _ ht))
theorem p40{n:Nat}(hn:n<=1000){s:Src}(h:OkS s):Tot (fun r=>Sq n r.1/\OkS r.2) (G40 (n:Int) s):=by
 unfold G40;refine AF (n:=n) (fun i v=>v.1=(i:Int)/\OkS (v.2.1,(v.2.2.1,v.2.2.2.1))/\(v.2.2.2.2.length=i/\∀j,j<i->(v.2.2.2.2.getD j []).length=n)) ⟨rfl,h,rfl,fun j hj=>by omega⟩ (fun a ha v hv=>?_) fun v hv=>?_
 ·obtain⟨k,s1,s2,s3,t⟩:=v
  obtain⟨rfl,hs,ht⟩:=hv;refine Bu (ltt ha) (Ac (by omega) (Ac ?_ (AF (n:=n-(a+1)) (fun i v=>v.1=((a+1+i:Nat):Int)/\OkS (v.2.1,(v.2.2.1,v.2.2.2.1))/\v.2.2.2.2.1=t/\v.2.2.2.2.2.length=n) ⟨wr1 ha (by omega),hs,rfl,?_⟩ (fun b hb v hv=>?_) fun v hv=>?_)))
  ·rw [tNC,List.length_replicate];omega
  ·rw [List.length_set,tNC,List.length_replicate]
  ·obtain⟨k,s4,s5,s6,t',r⟩:=v
   obtain⟨rfl,hs4,ht4,hr⟩:=hv;have hs4:OkS (s4,(s5,s6)):=hs4;have hab:a+1+b<n:=by omega
   refine Bu (ltt hab) (Ap (p41 hs4) fun w hw=>Ac ?_ (Aa ⟨wr1 hab (by omega),hw.2,ht4,?_⟩))
   ·have hr:r.length=n:=hr
    show(0:Int)<=((a+1+b:Nat):Int)/\((a+1+b:Nat):Int)<((r.length:Nat):Int);omega
   ·rw [List.length_set];exact hr
  ·obtain⟨k,s4,s5,s6,t',r⟩:=v
   obtain⟨hk,hs4,ht',hr⟩:=hv;have hs4:OkS (s4,(s5,s6)):=hs4
   have e1:k=((n:Nat):Int):=by
    have:k=((a+1+(n-(a+1)):Nat):Int):=hk;omega
   have e2:t'=t:=ht';have hr:r.length=n:=hr;clear hk ht';subst e1 e2;refine AW ltf (Aa (Ac rfl (Ac trivial (Ac ?_ (Aa ⟨wr1 ha (by omega),hs4,Sq.snoc ht hr⟩)))))
   have hl:t'.length=a:=ht.1;show t'.length+1<=_;omega
 ·obtain⟨k,s1,s2,s3,t⟩:=v
  obtain⟨rfl,hs,ht⟩:=hv;refine AW ltf (Aa (Ac rfl ?_));refine Av (fun h1=>?_) fun _=>?_
  ·have h1:(1:Int)<(n:Int):=Ho h1
   refine Ap (p41 hs) fun v hv=>Av (fun _=>?_) fun _=>?_
   ·have e:IntKind.wrap .i64 ((n:Int)-1)=((n-1:Nat):Int):=by
     rw [Az (by omega) (by omega)];omega
    have hl:t.length=n:=ht.1
    have hr:(t.getD (((n-1:Nat):Int)).toNat []).length=n:=by
     rw [tNC];exact ht.2 (n-1) (by omega)
    rw [e];refine Ac (by show(0:Int)<=_/\_<((t.length:Nat):Int);omega) (Ap (p41 hv.2) fun w hw=>Ac ?_ (war hn ?_ fun k t' ht'=>Ac rfl (Aa ⟨ht',hw.2⟩)))
    ·obtain⟨⟨g1,g2,_⟩,_⟩:=hw
     have:=g2 (by omega)
     show 0<=w.1/\w.1<(((t.getD (((n-1:Nat):Int)).toNat []).length:Nat):Int);omega
    ·exact Sq.set ht (by rw [List.length_set];exact hr)
   ·exact war hn ht fun k t' ht'=>Ac rfl (Aa ⟨ht',hv.2⟩)
  ·exact war hn ht fun k t' ht'=>Ac rfl (Aa ⟨ht',hs⟩)
end
end Go.Ve.D


namespace Go.Ve.D
open Go Go.Ve
noncomputable section
theorem okN.big{n:Nat}{t:List (List Int)}(h:okN n t)(hn:n<=1048576):t.length<=1048576/\∀y∈t,y.length<=1048576:=⟨Nat.le_trans h.1 hn,fun y hy=>Nat.le_trans (h.2 y hy) hn⟩
def MonT(t:List (List Int)):Prop:=0<t.length/\TB t t.length
theorem p50{t:List (List Int)}(h:okN 1000 t):Tot (fun b=>b=true->MonT t) (G50 t):=by
 unfold G50;obtain⟨h1,h2⟩:=h.big (by decide)
 refine Ap (P:=fun b=>b=true->MonT t) (Av (fun hp=>?_) fun _=>Aa (fun h=>by cases h)) fun b hb=>?_
 ·have hp:(0:Int)<((t.length:Nat):Int):=Ho hp
  refine AL (p99 h1 h2) (Aa fun hs=>⟨by omega,XB ?_⟩)
  unfold tbl;rw [hs,dT rfl];rfl
 ·refine Ap (P:=fun b=>b=true->MonT t) (Av (fun hp=>?_) fun _=>Aa (fun h=>by cases h)) fun b hb=>Aa hb
  have hm:=hb hp;exact AL (show G100 (t,((0:Nat):Int))=_ from p100 hm.2 hm.1 h1) (Aa fun _=>hm)
structure PreO(t:List (List Int))(n:Nat):Prop where
 sq:Sq n t
 refl: ∀i,i<n->cell t i i=1
 tr: ∀i j k,i<n->j<n->k<n->cell t i j=1->cell t j k=1->cell t i k=1
theorem sq_of{t:List (List Int)}{b:Int}(h:sqB t b=true):Sq t.length t:=by
 refine⟨rfl,fun i hi=>?_⟩
 have:=aET.1 h i (List.mem_range.2 hi);unfold Xk at this;rw [bAE,decide_eq_true_eq]at this;omega
theorem p49{t:List (List Int)}(h:okN 1000 t):Tot (fun b=>b=true->PreO t t.length) (G49 t):=by
 unfold G49;obtain⟨h1,h2⟩:=h.big (by decide)
 refine AL (p99 h1 h2) (Av (fun _=>Aa (fun h=>by cases h)) fun hb=>?_)
 have hb:sqB t 2=true:=by simpa using hb
 have hsq:=sq_of hb;obtain⟨n,hn⟩: ∃n,n=t.length:=⟨_,rfl⟩;rw [<-hn]at hsq⊢;have hn1:n<=1000:=by rw [hn];exact h.1
 have hr: ∀x y:Nat,x<n->y<n->((0:Int)<=(y:Int))/\((y:Int)<(((t.getD ((x:Int)).toNat []).length:Nat):Int)):=fun x y hx hy=>by
  rw [tNC,hsq.2 x hx];omega
 have hc: ∀x y:Nat,(t.getD ((x:Int)).toNat []).getD ((y:Int)).toNat 0=cell t x y:=fun x y=>by
  rw [tNC,tNC];rfl
 refine AF (n:=n) (fun i v=>v=(i:Int)/\∀a,a<i->cell t a a=1/\∀b c,b<n->c<n->cell t a b=1->cell t b c=1->cell t a c=1) ⟨rfl,fun a ha=>by omega⟩ (fun a ha v hv=>?_) fun v hv=>?_
 ·obtain⟨rfl,hI⟩:=hv
  refine Bu (ltt ha) (Ac (Ad ha) (Ac (hr a a ha ha) (Av (fun _=>Bs (Aa (fun h=>by cases h))) fun hd=>?_)))
  have hd:cell t a a=1:=by
   rw [hc]at hd;simpa using hd
  refine AF (n:=n) (fun i v=>v=(i:Int)/\∀b,b<i->∀c,c<n->cell t a b=1->cell t b c=1->cell t a c=1) ⟨rfl,fun a ha=>by omega⟩ (fun b hb v hv=>?_) fun v hv=>?_
  ·obtain⟨rfl,hJ⟩:=hv
   refine Bu (ltt hb) (AF (n:=n) (fun i v=>v=(i:Int)/\∀c,c<i->cell t a b=1->cell t b c=1->cell t a c=1) ⟨rfl,fun a ha=>by omega⟩ (fun c hcn v hv=>?_) fun v hv=>?_)
   ·obtain⟨rfl,hK⟩:=hv
    refine Bu (ltt hcn) (Ac (Ad ha) (Ac (hr a b ha hb) (Ap (P:=fun x=>x=(decide (cell t a b=1)&&decide (cell t b c=1))) (Av (fun e=>Ac (Ad hb) (Ac (hr b c hb hcn) (Aa ?_))) fun e=>Aa ?_) fun x hx=>?_)))
    ·rw [hc]at e
     rw [hc,e];rfl
    ·rw [hc]at e
     rw [e];rfl
    subst hx;refine Ap (P:=fun x=>x=((decide (cell t a b=1)&&decide (cell t b c=1))&& !decide (cell t a c=1))) (Av (fun e=>Ac (Ad ha) (Ac (hr a c ha hcn) (Aa ?_))) fun e=>Aa ?_) fun x hx=>?_
    ·rw [hc,e];rfl
    ·rw [e];rfl
    subst hx;refine Av (fun _=>Bs (Bs (Bs (Aa (fun h=>by cases h))))) fun e=>Aa ⟨wr1 hcn (by omega),fun d hd e1 e2=>?_⟩
    by_cases hdc:d<c
    ·exact hK d hdc e1 e2
    ·obtain rfl:d=c:=by omega
     rw [e1,e2]at e;simpa using e
   ·obtain⟨rfl,hK⟩:=hv
    refine AW ltf (Aa (Ac rfl (Aa ⟨wr1 hb (by omega),fun d hd c hcn e1 e2=>?_⟩)))
    by_cases hdb:d<b
    ·exact hJ d hdb c hcn e1 e2
    ·obtain rfl:d=b:=by omega
     exact hK c hcn e1 e2
  ·obtain⟨rfl,hJ⟩:=hv
   refine AW ltf (Aa (Ac rfl (Aa ⟨wr1 ha (by omega),fun d hd'=>?_⟩)))
   by_cases hda:d<a
   ·exact hI d hda
   ·obtain rfl:d=a:=by omega
    exact⟨hd,fun b c hb hcn=>hJ b hb c hcn⟩
 ·obtain⟨rfl,hI⟩:=hv
  exact AW ltf (Aa (Ac rfl (Aa fun _=>⟨hsq,fun i hi=>(hI i hi).1,fun i j k hi hj hk=>(hI i hi).2 j k hj hk⟩)))
structure Ki(t:List (List Int))(n i j:Nat)(F T:List Int):Prop where
 len:T.length=F.length
 le:F.length<=i*n+j
 inn: ∀k,k<F.length->(0<=F.getD k 0/\F.getD k 0<(n:Int))/\(0<=T.getD k 0/\T.getD k 0<(n:Int))
 rel: ∀k,k<F.length->cell t (F.getD k 0).toNat (T.getD k 0).toNat=1
 mem: ∀a b,(a<i\/(a=i/\b<j))->b<n->cell t a b=1->∃k,k<F.length/\F.getD k 0=(a:Int)/\T.getD k 0=(b:Int)
theorem Cr{F:List Int}{x:Int}{k:Nat}:(F++ [x]).getD k 0=if k<F.length then F.getD k 0 else if k=F.length then x else 0:=by
 simp only [gDE];by_cases h:k<F.length
 ·rw [gAL h,if_pos h]
 ·rw [gAR (by omega),if_neg h]
  by_cases e:k=F.length
  ·subst e;simp
  ·rw [if_neg e]
   have:0<k-F.length:=by omega
   rw [List.getElem?_eq_none (by simp;omega)];rfl
theorem Ki.zero{t:List (List Int)}{n:Nat}:Ki t n 0 0 [] []:=⟨rfl,by simp,fun k hk=>by simp at hk,fun k hk=>by simp at hk,fun a b h=>by omega⟩
theorem Ki.hit{t:List (List Int)}{n i j:Nat}{F T:List Int}(h:Ki t n i j F T)(hi:i<n)(hj:j<n)(hr:cell t i j=1):Ki t n i (j+1) (F++ [(i:Int)]) (T++ [(j:Int)]):=by
 have hl:=h.len;refine⟨by simp [hl],by have:=h.le;simp;omega,fun k hk=>?_,fun k hk=>?_,fun a b hab hb hc=>?_⟩
 ·rw [Cr,Cr,hl]
  by_cases e:k<F.length
  ·rw [if_pos e,if_pos e];exact h.inn k e
  ·have:k=F.length:=by simp at hk;omega
   rw [if_neg e,if_neg e,if_pos this,if_pos this];omega
 ·rw [Cr,Cr,hl]
  by_cases e:k<F.length
  ·rw [if_pos e,if_pos e];exact h.rel k e
  ·have:k=F.length:=by simp at hk;omega
   rw [if_neg e,if_neg e,if_pos this,if_pos this,tNC,tNC];exact hr
 ·by_cases e:a=i/\b=j
  ·obtain⟨rfl,rfl⟩:=e
   refine⟨F.length,by simp,?_,?_⟩
   ·rw [Cr,if_neg (Nat.lt_irrefl _),if_pos rfl]
   ·rw [Cr,hl,if_neg (Nat.lt_irrefl _),if_pos rfl]
  ·obtain⟨k,h1,h2,h3⟩:=h.mem a b (by omega) hb hc
   refine⟨k,by simp;omega,?_,?_⟩
   ·rw [Cr,if_pos h1];exact h2
   ·rw [Cr,hl,if_pos h1];exact h3
theorem Ki.miss{t:List (List Int)}{n i j:Nat}{F T:List Int}(h:Ki t n i j F T)(hm:cell t i j≠1):Ki t n i (j+1) F T:=by
 refine⟨h.len,by have:=h.le;omega,h.inn,h.rel,fun a b hab hb hc=>h.mem a b ?_ hb hc⟩
 by_cases e:a=i/\b=j
 ·obtain⟨rfl,rfl⟩:=e;exact absurd hc hm
 ·omega
theorem Ki.row{t:List (List Int)}{n i:Nat}{F T:List Int}(h:Ki t n i n F T):Ki t n (i+1) 0 F T:=
 ⟨h.len,by have:=h.le;rw [Nat.add_mul];omega,h.inn,h.rel,fun a b hab hb hc=>h.mem a b (by omega) hb hc⟩
theorem Ki.bound{t:List (List Int)}{n i j:Nat}{F T:List Int}(h:Ki t n i j F T)(hi:i*n+j<=n*n)(hn:n<=1000):F.length<=1000000:=by
 have h1:=h.le;have h2:n*n<=1000*1000:=Nat.mul_le_mul hn hn;omega
end
end Go.Ve.D


namespace Go.Ve.D
open Go Go.Ve
noncomputable section
structure PosC(t:List (List Int))(n:Nat)(c:Cat):Prop where
 ob:c.1=(n:Int)
 pos:Ki t n n 0 c.2.1 c.2.2.1
 ids:c.2.2.2.1.length=n
 co:Sq c.2.1.length c.2.2.2.2
theorem p51{t:List (List Int)}{n:Nat}(hsq:Sq n t)(hn:n<=1000):Tot (PosC t n) (G51 t):=by
 unfold G51;have htl:t.length=n:=hsq.1
 have hr: ∀x y:Nat,x<n->y<n->((0:Int)<=(y:Int))/\((y:Int)<(((t.getD ((x:Int)).toNat []).length:Nat):Int)):=fun x y hx hy=>by
  rw [tNC,hsq.2 x hx];omega
 have hc: ∀x y:Nat,(t.getD ((x:Int)).toNat []).getD ((y:Int)).toNat 0=cell t x y:=fun x y=>by
  rw [tNC,tNC];rfl
 have nb: ∀i j,i<n->j<=n->i*n+j<=n*n:=fun i j hi hj=>by
  have:(i+1)*n<=n*n:=Nat.mul_le_mul_right _ hi;rw [Nat.add_mul]at this;omega
 refine AF (n:=n) (fun i v=>v.1=(i:Int)/\(v.2.2.2.2.2.2.1.length=i/\∀j,j<i->(v.2.2.2.2.2.2.1.getD j []).length=n)/\Ki t n i 0 v.2.2.2.2.2.2.2.2.1 v.2.2.2.2.2.2.2.2.2.1/\v.2.2.2.2.2.2.2.1=(n:Int)/\v.2.2.2.2.2.2.2.2.2.2.1= []/\v.2.2.2.2.2.2.2.2.2.2.2= []) ⟨rfl,⟨rfl,fun j hj=>by omega⟩,Ki.zero,by show((t.length:Nat):Int)=_;omega,rfl,rfl⟩ (fun i hi v hv=>?_) fun v hv=>?_
 ·obtain⟨k,r0,r1,r2,r3,r4,nu,co,F,T,Id,Co⟩:=v
  obtain⟨(hk:k=(i:Int)),hnu,hp,hco,hId,hCo⟩:=hv;subst hk;refine Bu (by show decide ((i:Int)<((t.length:Nat):Int))=true;exact dT (by omega)) (AF (n:=n) (fun j v=>v.1=(j:Int)/\v.2.2.2.2.2.2.1=nu/\Ki t n i j v.2.2.2.2.2.2.2.2.1 v.2.2.2.2.2.2.2.2.2.1/\v.2.2.2.2.2.2.2.1=(n:Int)/\v.2.2.2.2.2.2.2.2.2.2.1= []/\v.2.2.2.2.2.2.2.2.2.2.2.1= []/\v.2.2.2.2.2.2.2.2.2.2.2.2.length=j) ⟨rfl,rfl,hp,hco,hId,hCo,rfl⟩ (fun j hj v hv=>?_) fun v hv=>?_)
  ·obtain⟨k,q0,q1,q2,q3,q4,nu2,co2,F2,T2,Id2,Co2,row⟩:=v
   obtain⟨(hk:k=(j:Int)),hnu2,hp2,hco2,hId2,hCo2,hrow⟩:=hv;subst hk;have hp2:Ki t n i j F2 T2:=hp2;have hrow:row.length=j:=hrow;have hb:=hp2.bound (nb i j hi (by omega)) hn
   have hb2:=hp2.len;refine Bu (by show decide ((j:Int)<((t.length:Nat):Int))=true;exact dT (by omega)) (Ac (by show row.length+1<=_;omega) (Ac (by show(0:Int)<=(i:Int)/\(i:Int)<((t.length:Nat):Int);omega) (Ac (hr i j hi hj) (Av (fun e=>?_) fun e=>?_))))
   ·have e:decide ((t.getD ((i:Int)).toNat []).getD ((j:Int)).toNat 0=1)=true:=e
    rw [hc]at e;refine Ac (by show F2.length+1<=_;omega) (Ac (by show T2.length+1<=_;omega) (Aa ⟨wr1 hj (by omega),hnu2,hp2.hit hi hj (Ho e),hco2,hId2,hCo2,?_⟩))
    show(row++_).length=j+1;rw [List.length_append,hrow];rfl
   ·have e:decide ((t.getD ((i:Int)).toNat []).getD ((j:Int)).toNat 0=1)=false:=e
    rw [hc]at e;refine Aa ⟨wr1 hj (by omega),hnu2,hp2.miss (WJ e),hco2,hId2,hCo2,?_⟩
    show(row++_).length=j+1;rw [List.length_append,hrow];rfl
  ·obtain⟨k,q0,q1,q2,q3,q4,nu2,co2,F2,T2,Id2,Co2,row⟩:=v
   obtain⟨(hk:k=(n:Int)),(hnu2:nu2=nu),hp2,hco2,hId2,hCo2,(hrow:row.length=n)⟩:=hv;have hl:nu.length=i:=hnu.1;subst hk hnu2;refine AW (by show decide ((n:Int)<((t.length:Nat):Int))=false;exact dF (by omega)) (Aa (Ac rfl (Ac trivial (Ac (by show nu2.length+1<=_;omega) (Aa ⟨wr1 hi (by omega),Sq.snoc hnu hrow,Ki.row hp2,hco2,hId2,hCo2⟩)))))
 ·obtain⟨k,r0,r1,r2,r3,r4,nu,co,F,T,Id,Co⟩:=v
  obtain⟨(hk:k=(n:Int)),(hnu:Sq n nu),(hp:Ki t n n 0 F T),(hco:co=(n:Int)),(hId:Id= []),(hCo:Co= [])⟩:=hv;subst hk hco hId hCo;have hb:=hp.bound (by omega) hn
  have hlen:=hp.len;refine AW (by show decide ((n:Int)<((t.length:Nat):Int))=false;exact dF (by omega)) (Aa (Ac rfl ?_))
  refine AF (n:=n) (fun i v=>v.1=(i:Int)/\v.2.2.2.2.2.2.1=nu/\v.2.2.2.2.2.2.2.2.1=F/\v.2.2.2.2.2.2.2.2.2.1=T/\v.2.2.2.2.2.2.2.1=(n:Int)/\v.2.2.2.2.2.2.2.2.2.2.1.length=i/\v.2.2.2.2.2.2.2.2.2.2.2= []) ⟨rfl,rfl,rfl,rfl,rfl,rfl,rfl⟩ (fun i hi v hv=>?_) fun v hv=>?_
  ·obtain⟨k,q0,q1,q2,q3,q4,nu2,co2,F2,T2,Id2,Co2⟩:=v
   obtain⟨(hk:k=(i:Int)),(hnu2:nu2=nu),hF2,hT2,hco2,(hId2:Id2.length=i),hCo2⟩:=hv;subst hk hnu2;refine Bu (by show decide ((i:Int)<((t.length:Nat):Int))=true;exact dT (by omega)) (Ac (by show(0:Int)<=(i:Int)/\(i:Int)<((nu2.length:Nat):Int);rw [hnu.1];omega) (Ac ?_ (Ac (by show Id2.length+1<=_;omega) (Aa ⟨wr1 hi (by omega),rfl,hF2,hT2,hco2,?_,hCo2⟩))))
   ·show(0:Int)<=(i:Int)/\(i:Int)<(((nu2.getD ((i:Int)).toNat []).length:Nat):Int)
    rw [tNC,hnu.2 i hi];omega
   ·show(Id2++_).length=i+1
    rw [List.length_append,hId2];rfl
  ·obtain⟨k,q0,q1,q2,q3,q4,nu2,co2,F2,T2,Id2,Co2⟩:=v
   obtain⟨(hk:k=(n:Int)),(hnu2:nu2=nu),(hF2:F2=F),(hT2:T2=T),(hco2:co2=(n:Int)),(hId2:Id2.length=n),(hCo2:Co2= [])⟩:=hv;subst hk hnu2 hF2 hT2 hco2 hCo2;refine AW (by show decide ((n:Int)<((t.length:Nat):Int))=false;exact dF (by omega)) (Aa (Ac rfl ?_))
   refine AF (n:=F2.length) (fun i v=>v.1=(i:Int)/\v.2.2.2.2.2.2.1=nu2/\v.2.2.2.2.2.2.2.2.1=F2/\v.2.2.2.2.2.2.2.2.2.1=T2/\v.2.2.2.2.2.2.2.1=(n:Int)/\v.2.2.2.2.2.2.2.2.2.2.1=Id2/\(v.2.2.2.2.2.2.2.2.2.2.2.length=i/\∀j,j<i->(v.2.2.2.2.2.2.2.2.2.2.2.getD j []).length=F2.length)) ⟨rfl,rfl,rfl,rfl,rfl,rfl,rfl,fun j hj=>by omega⟩ (fun f hf v hv=>?_) fun v hv=>?_
   ·obtain⟨k,q0,q1,q2,q3,q4,nu3,co3,F3,T3,Id3,Co3⟩:=v
    obtain⟨(hk:k=(f:Int)),(hnu3:nu3=nu2),(hF3:F3=F2),(hT3:T3=T2),hco3,hId3,hCo3⟩:=hv;have hl3:Co3.length=f:=hCo3.1;subst hk hnu3 hF3 hT3;refine Bu (ltt hf) (AF (n:=F3.length) (fun g v=>v.1=(g:Int)/\v.2.length=g) ⟨rfl,rfl⟩ (fun g hg v hv=>?_) fun v hv=>?_)
    ·obtain⟨k,row⟩:=v
     obtain⟨(hk:k=(g:Int)),(hrow:row.length=g)⟩:=hv;subst hk;obtain⟨⟨a1,a2⟩,_⟩:=hp.inn f hf;obtain⟨_,b1,b2⟩:=hp.inn g hg;have e1:F3.getD ((f:Int)).toNat 0=F3.getD f 0:=by rw [tNC]
     have e2:T3.getD ((g:Int)).toNat 0=T3.getD g 0:=by rw [tNC]
     refine Bu (ltt hg) (Ac (by show(0:Int)<=(f:Int)/\(f:Int)<((T3.length:Nat):Int);omega) (Ac (Ad hg) (Av (fun _=>?_) fun _=>?_)))
     ·refine Ac (Ad hf) (Ac ?_ (Ac (by show(0:Int)<=(g:Int)/\(g:Int)<((T3.length:Nat):Int);omega) (Ac ?_ (Ac (by show row.length+1<=_;omega) (Aa ⟨wr1 hg (by omega),?_⟩)))))
      ·show 0<=F3.getD ((f:Int)).toNat 0/\F3.getD ((f:Int)).toNat 0<((nu3.length:Nat):Int)
       rw [e1,hnu.1];omega
      ·show 0<=T3.getD ((g:Int)).toNat 0/\T3.getD ((g:Int)).toNat 0<(((nu3.getD (F3.getD ((f:Int)).toNat 0).toNat []).length:Nat):Int)
       rw [e1,e2,hnu.2 _ (by omega)];omega
      ·show(row++_).length=g+1
       rw [List.length_append,hrow];rfl
     ·refine Ac (by show row.length+1<=_;omega) (Aa ⟨wr1 hg (by omega),?_⟩)
      show(row++_).length=g+1;rw [List.length_append,hrow];rfl
    ·obtain⟨k,row⟩:=v
     obtain⟨(hk:k=(F3.length:Int)),(hrow:row.length=F3.length)⟩:=hv;subst hk;exact AW ltf (Aa (Ac rfl (Ac trivial (Ac (by show Co3.length+1<=_;omega) (Aa ⟨wr1 hf (by omega),rfl,rfl,rfl,hco3,hId3,Sq.snoc hCo3 hrow⟩)))))
   ·obtain⟨k,q0,q1,q2,q3,q4,nu3,co3,F3,T3,Id3,Co3⟩:=v
    obtain⟨(hk:k=(F2.length:Int)),hnu3,(hF3:F3=F2),(hT3:T3=T2),(hco3:co3=(n:Int)),(hId3:Id3=Id2),(hCo3:Sq F2.length Co3)⟩:=hv;subst hk hF3 hT3 hco3 hId3;exact AW ltf (Aa (Ac rfl (Aa ⟨rfl,hp,hId2,hCo3⟩)))
end
end Go.Ve.D

