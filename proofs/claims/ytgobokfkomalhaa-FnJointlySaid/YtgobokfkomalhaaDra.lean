/- The source of numbers. -/
import Derived.Test.YtgobokfkomalhaaUj
import Derived.Test.YtgobokfkomalhaaLt
namespace Go.Ve.D
open Go Go.Ve
abbrev Src:=List Int×(Int×Int)
variable{s:Src}
def OkS(s:Src):Prop:=0<=s.2.1/\s.1.length<=4096/\∀b∈s.1,0<=b/\b<=255
theorem wr64(n:Int):IntKind.u64.wrap n=n % 18446744073709551616:=by simp [IntKind.wrap,IntKind.bits,IntKind.signed]
theorem and24(a:Int):0<=Za .u64 a 16777215/\Za .u64 a 16777215<=16777215:=by
 unfold Za
 have h:(BitVec.ofInt IntKind.u64.bits a&&&BitVec.ofInt IntKind.u64.bits 16777215).toNat<=16777215:=by
  rw [BitVec.toNat_and];exact Nat.le_trans Nat.and_le_right (by decide)
 rw [wr64];omega
theorem Aaw(h:OkS s)(i:Nat):0<=s.1.getD i 0/\s.1.getD i 0<=255:=by
 rw [gDE];by_cases hi:i<s.1.length
 ·rw [gEE hi]
  exact h.2.2 _ (List.getElem_mem hi)
 ·rw [List.getElem?_eq_none (by omega)]
  exact⟨Int.le_refl _,by decide⟩
def Num(n:Int)(r:Int×Src):Prop:=(0<=r.1/\(0<n->r.1<n)/\(n<=0->r.1=0))/\OkS r.2
theorem p52{z:Int}(h:OkS s):Tot (Num z) (G52 z s):=by
 unfold G52;have hn:=and24;refine Ap (λhz=>?_) (λhz=>?_)
 ·have hz:=CK hz
  exact Aa ⟨⟨Int.le_refl _,λh=>h,λ_=>rfl⟩,h⟩
 have hz: ¬z<1:=Mf hz;have hz0:z≠0:=by omega
 have key: ∀A:Int,0<=A->0<=Int.tmod A z/\(0<z->Int.tmod A z<z)/\(z<=0->Int.tmod A z=0):=by
  intro A hA;rw [Int.tmod_eq_emod_of_nonneg hA];exact⟨Int.emod_nonneg _ hz0,λhp=>Int.emod_lt_of_pos _ hp,λhp=>by omega⟩
 refine Ab (by decide) (Ap (λha=>?_) (λ_=>?_))
 ·have ha:=CK ha
  refine Ab ⟨h.1,ha⟩ (Ab hz0 (Aa ⟨key _ ?_,?_⟩))
  ·obtain⟨a1,a2⟩:=hn (ZD .u64 (IntKind.wrap .u64 ((IntKind.wrap .u64 (s.2.2*(6364136223846793005:Int)))+(1442695040888963407:Int))) (33:Int))
   obtain⟨b1,b2⟩:=Aaw h s.2.1.toNat;rw [Ay a1 (by omega),Ay b1 (by omega),Ay (by omega) (by omega)]
   omega
  ·have hl:=h.2.1
   have h0:=h.1;refine⟨?_,h.2⟩;show 0<=IntKind.wrap .i64 (s.2.1+1);rw [Ay (by omega) (by omega)]
   omega
 ·refine Ab hz0 (Aa ⟨key _ ?_,h⟩)
  obtain⟨a1,a2⟩:=hn (ZD .u64 (IntKind.wrap .u64 ((IntKind.wrap .u64 (s.2.2*(6364136223846793005:Int)))+(1442695040888963407:Int))) (33:Int));rw [Ay a1 (by omega)]
  exact a1
def VW(x:List Int):Prop:=x.length<=4096/\∀b∈x,0<=b/\b<=255
theorem p21{x:List Int}(h:VW x):Tot OkS (G21 x):=by
 unfold G21;refine AC (n:=x.length) (λi v=>v.1=(i:Int)/\v.2.1=x/\v.2.2.1=0) ⟨rfl,rfl,rfl⟩ (λi hi v hv=>?_) λv hv=>?_
 ·obtain⟨k,y,a,b⟩:=v
  obtain⟨rfl,rfl,rfl⟩:=hv;have hl:=h.1;refine AL (v:=true) ?_ ?_
  ·show(bif decide ((i:Int)<_)then some (decide ((i:Int)<4096))else _)=_
   rw [dT (by omega),dT (by omega)];rfl
  ·refine Ab (Ad hi) (Aa ⟨?_,rfl,rfl⟩)
   show IntKind.wrap .i64 ((i:Int)+1)=((i+1:Nat):Int);rw [Ay (by omega) (by omega)];rfl
 ·obtain⟨k,y,a,b⟩:=v
  obtain⟨h1,h2,h3⟩:=hv;have e1:k=(x.length:Int):=h1;have e2:x=y:=h2.symm;have e3:a=0:=h3;clear h1 h2 h3;subst e1 e2 e3;refine AL (v:=false) ?_ (Aa (Ab rfl (Aa ⟨Int.le_refl _,h.1,h.2⟩)));show(bif decide _ then _ else some false)=_;rw [dF (by omega)];rfl
theorem p82{l:List Int}(h:OkS s)(hl:0<l.length):Tot (λr=>OkS r.2) (G82 l s):=by
 unfold G82;refine Ah (p52 h) λv hv=>?_
 obtain⟨⟨h1,h2,_⟩,h4⟩:=hv;exact Ab ⟨h1,h2 (by omega)⟩ (Aa h4)
end Go.Ve.D


namespace Go.Ve.D
open Go Go.Ve
noncomputable section
variable{v:Int}{t t0:LL}{a i j k n z:Nat}{α:Type}
def aF(c:Ca)(f:Nat):Int:=c.2.1.getD f 0
def aT(c:Ca)(f:Nat):Int:=c.2.2.1.getD f 0
def aI(c:Ca)(x:Nat):Int:=c.2.2.2.1.getD x 0
def en(t:LL)(i j:Nat):Int:=(t.getD i []).getD j 0
def aC(c:Ca)(f g:Nat):Int:=en c.2.2.2.2 f g
structure Sp(c:Ca)(n m:Nat):Prop where
 ob:c.1=(n:Int)
 lf:c.2.1.length=m
 lt:c.2.2.1.length=m
 li:c.2.2.2.1.length=n
 lc:c.2.2.2.2.length=m
 lr: ∀f,f<m->(c.2.2.2.2.getD f []).length=m
 fr: ∀f,f<m->∃x:Nat,x<n/\aF c f=x
 to: ∀f,f<m->∃x:Nat,x<n/\aT c f=x
 ix: ∀x,x<n->∃f:Nat,f<m/\aI c x=f
 cp: ∀f g,f<m->g<m->aT c f=aF c g->∃h:Nat,h<m/\aC c f g=h/\aF c h=aF c f/\aT c h=aT c g
 cn: ∀f g,f<m->g<m->aT c f≠aF c g->aC c f g<0
theorem ltD(h:i<n):decide ((i:Int)<(n:Int))=true:=dT (by omega)
theorem wrD(h:i<n)(hn:n<=1048576):IntKind.wrap .i64 ((i:Int)+1)=((i+1:Nat):Int):=by
 rw [Ay (by omega) (by omega)];rfl
theorem A7{x y:List α}{d:α}(h:k<x.length):(x++y).getD k d=x.getD k d:=by
 rw [gDE,gDE,gAL h]
theorem Dq{x:List α}{a d:α}:(x++ [a]).getD x.length d=a:=by
 rw [gDE,gAR (Nat.le_refl _)];simp
theorem Bz{x:List α}{r d:α}(hi:i<x.length):(x.set i r).getD a d=if a=i then r else x.getD a d:=by
 by_cases h:a=i
 ·subst h;simp [hi]
 ·rw [if_neg h,gDE,List.getElem?_set_ne (Ne.symm h),<-gDE]
def Sq(z:Nat)(t:LL):Prop:=t.length=z/\∀i,i<z->(t.getD i []).length=z
def one(t:LL)(i j:Nat):Prop:=en t i j=1
instance(t:LL)(i j:Nat):Decidable (one t i j):=inferInstanceAs (Decidable (en t i j=1))
theorem Vh(h:Sq z t)(hi:i<z):(0:Int)<=(i:Int)/\(i:Int)<(t.length:Int):=by rw [h.1];omega
theorem Ku(h:Sq z t)(hi:i<z)(hj:j<z):(0:Int)<=(j:Int)/\(j:Int)<((t.getD i []).length:Int):=by rw [h.2 i hi];omega
theorem YB(h:Sq z t)(hi:i<z):Sq z (t.set i ((t.getD i []).set j v)):=by
 refine⟨by rw [List.length_set];exact h.1,λa ha=>?_⟩
 rw [Bz (by rw [h.1];exact hi)]
 split
 ·rw [List.length_set];exact h.2 i hi
 ·exact h.2 a ha
theorem YZ(h:Sq z t){b:Nat}(hi:i<z)(hj:j<z):en (t.set i ((t.getD i []).set j v)) a b=if a=i/\b=j then v else en t a b:=by
 unfold en;rw [Bz (by rw [h.1];exact hi)]
 by_cases h1:a=i
 ·subst h1
  rw [if_pos rfl,Bz (by rw [h.2 a hi];exact hj)]
  by_cases h2:b=j
  ·rw [if_pos h2,if_pos ⟨rfl,h2⟩]
  ·rw [if_neg h2,if_neg (λh=>h2 h.2)]
 ·rw [if_neg h1,if_neg (λh=>h1 h.1)]
def Tr(z:Nat)(t:LL):Prop:=Sq z t/\(∀i,i<z->one t i i)/\∀i j m,i<z->j<z->m<z->one t i m->one t m j->one t i j
def wJ(z k:Nat)(t:LL):Prop:=Sq z t/\(∀i,i<z->one t i i)/\∀i j m,i<z->j<z->m<k->one t i m->one t m j->one t i j
def wK(z k:Nat)(t0:LL)(i j:Nat)(t:LL):Prop:=Sq z t/\∀a b,a<z->b<z->(one t a b↔one t0 a b\/((a<i\/a=i/\b<j)/\one t0 a k/\one t0 k b))
theorem wK_end(h0:wJ z k t0)(hk:k<z)(h:wK z k t0 z 0 t):wJ z (k+1) t:=by
 obtain⟨s0,d0,r0⟩:=h0
 have e: ∀a b,a<z->b<z->(one t a b↔one t0 a b\/(one t0 a k/\one t0 k b)):=λa b ha hb=>by
  rw [h.2 a b ha hb];exact⟨λh=>h.imp_right λh=>h.2,λh=>h.imp_right λh=>⟨.inl ha,h⟩⟩
 refine⟨h.1,λi hi=>(e i i hi hi).2 (.inl (d0 i hi)),λi j m hi hj hm h1 h2=>?_⟩
 have hmz:m<z:=by omega
 rw [e i m hi hmz]at h1;rw [e m j hmz hj]at h2;rw [e i j hi hj];by_cases hmk:m=k
 ·subst hmk
  exact .inr ⟨h1.elim id (·.1),h2.elim id (·.2)⟩
 ·have hmk:m<k:=by omega
  rcases h1 with h1|⟨h1,h1'⟩<;>rcases h2 with h2|⟨h2,h2'⟩
  ·exact .inl (r0 i j m hi hj hmk h1 h2)
  ·exact .inr ⟨r0 i k m hi hk hmk h1 h2,h2'⟩
  ·exact .inr ⟨h1,r0 k j m hk hj hmk h1' h2⟩
  ·exact .inr ⟨h1,h2'⟩
theorem wars{R:Type}(hz:z<=1000)(h0:Sq z t0)(hd: ∀i,i<z->one t0 i i){F1:Int×LL->Option (LO (Int×LL) R)}{F2:Int×LL->Int×LL->Option (LO (Int×LL) (LO (Int×LL) R))}{F3:Int×LL->Int×LL->Int×LL->Option (LO (Int×LL) (LO (Int×LL) (LO (Int×LL) R)))}
  (h1: ∀v,F1 v=bif decide (v.1<(z:Int))then Option.bind (Aq (F2 v) ((0:Int),v.2)) (LO.fin λi1 v1=>if i1=6 then some (LO.next (IntKind.i64.wrap (v.1+1),v1.2))else none)else some (LO.brk 4 v))
  (h2: ∀v w,F2 v w=bif decide (w.1<(z:Int))then Option.bind (Aq (F3 v w) ((0:Int),w.2)) (LO.fin λi1 v1=>if i1=8 then some (LO.next (IntKind.i64.wrap (w.1+1),v1.2))else none)else some (LO.brk 6 w))
  (h3: ∀v w u,F3 v w u=bif decide (u.1<(z:Int))then if 0<=w.1/\w.1<(u.2.length:Int)then if 0<=v.1/\v.1<((u.2.getD w.1.toNat []).length:Int)then Option.bind (bif decide (((u.2.getD w.1.toNat []).getD v.1.toNat 0)=1)then if 0<=v.1/\v.1<(u.2.length:Int)then if 0<=u.1/\u.1<((u.2.getD v.1.toNat []).length:Int)then some (decide (((u.2.getD v.1.toNat []).getD u.1.toNat 0)=1))else none else none else some false) (fun(v4:Bool)=>bif v4 then if 0<=w.1/\w.1<(u.2.length:Int)then if 0<=u.1/\u.1<((u.2.getD w.1.toNat []).length:Int)then some (LO.next (IntKind.i64.wrap (u.1+1),u.2.set w.1.toNat ((u.2.getD w.1.toNat []).set u.1.toNat 1)))else none else none else some (LO.next (IntKind.i64.wrap (u.1+1),u.2)))else none else none else some (LO.brk 8 u))
  {g:Nat->Int×LL->Option R} {Q:R->Prop} (hq: ∀t,Tr z t->Tot Q (g 4 ((z:Int),t))):Tot Q (Option.bind (Aq F1 ((0:Int),t0)) (LO.fin g)):=by
 refine AC (n:=z) (λk v=>v.1=(k:Int)/\wJ z k v.2) ⟨rfl,h0,hd,λi j m _ _ hm=>absurd hm (by omega)⟩ (λk hk v hv=>?_) λv hv=>?_
 ·obtain⟨_,t⟩:=v
  obtain⟨(rfl:_=(k:Int)),(hJ:wJ z k t)⟩:=hv;rw [h1];refine Bk (ltD hk) (AC (n:=z) (λi v=>v.1=(i:Int)/\wK z k t i 0 v.2) ⟨rfl,hJ.1,λa b ha hb=>⟨.inl,λh=>h.elim id λh=>by omega⟩⟩ (λi hi v hv=>?_) λv hv=>?_)
  ·obtain⟨_,t1⟩:=v
   obtain⟨(rfl:_=(i:Int)),(hK:wK z k t i 0 t1)⟩:=hv;rw [h2];refine Bk (ltD hi) (AC (n:=z) (λj v=>v.1=(j:Int)/\wK z k t i j v.2) ⟨rfl,hK⟩ (λj hj v hv=>?_) λv hv=>?_)
   ·obtain⟨_,t2⟩:=v
    obtain⟨(rfl:_=(j:Int)),(hK:wK z k t i j t2)⟩:=hv;rw [h3];have eik:one t2 i k↔one t i k:=by
     rw [hK.2 i k hi hk];exact⟨λh=>h.elim id λh=>h.2.1,.inl⟩
    have ekj:one t2 k j↔one t k j:=by
     rw [hK.2 k j hk hj];exact⟨λh=>h.elim id λh=>h.2.2,.inl⟩
    refine Bk (ltD hj) (Ab (Vh hK.1 hi) (Ab (Ku hK.1 hi hk) (Ah (P:=λb:Bool=>b=true↔one t i k/\one t k j) ?_ λb hb=>Ap (λe=>?_) λe=>?_)))
    ·refine Ap (λe=>Ab (Vh hK.1 hk) (Ab (Ku hK.1 hk hj) (Aa ?_))) λe=>Aa ?_
     ·rw [decide_eq_true_eq]
      exact⟨λh=>⟨eik.1 (CK e),ekj.1 h⟩,λh=>ekj.2 h.2⟩
     ·exact⟨(λh=>by cases h),λh=>absurd (eik.2 h.1) (Mf e)⟩
    ·have hb:=hb.1 e
     refine Ab (Vh hK.1 hi) (Ab (Ku hK.1 hi hj) (Aa ⟨wrD hj (by omega),YB hK.1 hi,λa b ha hb'=>?_⟩))
     show en _ a b=1↔_;rw [show en (t2.set ((i:Int)).toNat ((t2.getD ((i:Int)).toNat []).set ((j:Int)).toNat 1)) a b=_ from YZ hK.1 hi hj]
     split
     ·rename_i h;obtain⟨rfl,rfl⟩:=h
      exact⟨λ_=>.inr ⟨.inr ⟨rfl,by omega⟩,hb⟩,λ_=>rfl⟩
     ·rename_i h
      refine(hK.2 a b ha hb').trans ⟨λh=>h.imp_right λh=>⟨by omega,h.2⟩,λh'=>h'.imp_right λh'=>⟨by omega,h'.2⟩⟩
    ·refine Aa ⟨wrD hj (by omega),hK.1,λa b ha hb'=>(hK.2 a b ha hb').trans ⟨λh=>h.imp_right λh=>⟨by omega,h.2⟩,λh'=>h'.elim .inl λh'=>?_⟩⟩
     by_cases h:a=i/\b=j
     ·obtain⟨rfl,rfl⟩:=h
      rw [hb.2 h'.2]at e;cases e
     ·exact .inr ⟨by omega,h'.2⟩
   ·obtain⟨_,t2⟩:=v
    obtain⟨(rfl:_=(z:Int)),(hK:wK z k t i z t2)⟩:=hv;rw [h3];refine A8 ltf (Aa (Aa ⟨wrD hi (by omega),hK.1,λa b ha hb=>(hK.2 a b ha hb).trans ⟨λh=>h.imp_right λh=>⟨by omega,h.2⟩,λh'=>h'.imp_right λh'=>⟨by omega,h'.2⟩⟩⟩))
  ·obtain⟨_,t1⟩:=v
   obtain⟨(rfl:_=(z:Int)),(hK:wK z k t z 0 t1)⟩:=hv;rw [h2];exact A8 ltf (Aa (Aa ⟨wrD hk (by omega),wK_end hJ hk hK⟩))
 ·obtain⟨_,t⟩:=v
  obtain⟨(rfl:_=(z:Int)),(hJ:wJ z z t)⟩:=hv;rw [h1];exact A8 ltf (Aa (hq t hJ))
theorem p108(hn:n<=1000){s:Src}(h:OkS s):Tot (λr=>Tr n r.1/\OkS r.2) (G108 (n:Int) s):=by
 unfold G108;have hN:((n:Int)).toNat=n:=rfl;refine AC (n:=n) (λi v=>v.1=(i:Int)/\OkS (v.2.1,(v.2.2.1,v.2.2.2.1))/\v.2.2.2.2.length=i/\(∀a,a<i->(v.2.2.2.2.getD a []).length=n)/\∀a,a<i->one v.2.2.2.2 a a) ⟨rfl,h,rfl,λa ha=>by omega,λa ha=>by omega⟩ (λi hi v hv=>?_) λv hv=>?_
 ·obtain⟨_,s1,s2,s3,t⟩:=v
  obtain⟨(rfl:_=(i:Int)),(hs:OkS (s1,(s2,s3))),(ht:t.length=i),(hr: ∀a,a<i->(t.getD a []).length=n),(ho: ∀a,a<i->one t a a)⟩:=hv;have hrep:(List.replicate ((n:Int)).toNat (0:Int)).length=n:=by rw [List.length_replicate];rfl
  refine Bk (ltD hi) (Ab ⟨by omega,by omega,by omega,by omega⟩ (Ab (by rw [hrep];exact Ad hi) ?_))
  have h0:IntKind.wrap .i64 ((i:Int)+1)=(((i+1)+0:Nat):Int):=wrD hi (by omega)
  refine AC (n:=n-(i+1)) (λj v=>v.1=((i+1+j:Nat):Int)/\OkS (v.2.1,(v.2.2.1,v.2.2.2.1))/\v.2.2.2.2.1=t/\v.2.2.2.2.2.length=n/\v.2.2.2.2.2.getD i 0=1) ⟨h0,hs,rfl,by rw [List.length_set,hrep],?_⟩ (λj hj v hv=>?_) λv hv=>?_
  ·show((List.replicate ((n:Int)).toNat (0:Int)).set i 1).getD i 0=1
   rw [Bz (by rw [hrep];exact hi),if_pos rfl]
  ·obtain⟨_,s1,s2,s3,t',row⟩:=v
   obtain⟨(rfl:_=((i+1+j:Nat):Int)),(hs:OkS (s1,(s2,s3))),(e:t'=t),(hl:row.length=n),(hi1:row.getD i 0=1)⟩:=hv;subst e;refine Bk (ltD (by omega)) (Ah (p52 hs) λw hw=>Ab (by show(0:Int)<=((i+1+j:Nat):Int)/\((i+1+j:Nat):Int)<(row.length:Int);rw [hl];omega) (Aa ⟨wrD (n:=n) (by omega) (by omega),hw.2,rfl,by rw [List.length_set];exact hl,?_⟩))
   show(row.set (i+1+j) _).getD i 0=1;rw [Bz (by rw [hl];omega),if_neg (by omega)];exact hi1
  ·obtain⟨_,s1,s2,s3,t',row⟩:=v
   obtain⟨(rfl:_=((i+1+(n-(i+1)):Nat):Int)),(hs:OkS (s1,(s2,s3))),(e:t'=t),(hl:row.length=n),(hi1:row.getD i 0=1)⟩:=hv;subst e;refine A8 (dF (by show ¬ ((i+1+(n-(i+1)):Nat):Int)<(n:Int);omega)) (Aa (Ab rfl (Ab trivial (Ab (by show t'.length+1<=_;omega) (Aa ⟨wrD hi (by omega),hs,?_,λa ha=>?_,λa ha=>?_⟩)))))
   ·show(t'++ [row]).length=i+1
    rw [List.length_append,ht];rfl
   ·show((t'++ [row]).getD a []).length=n
    by_cases e:a=i
    ·subst e;rw [<-ht,Dq];exact hl
    ·rw [A7 (by omega)];exact hr a (by omega)
   ·show((t'++ [row]).getD a []).getD a 0=1
    by_cases e:a=i
    ·subst e;rw [<-ht,Dq,ht];exact hi1
    ·rw [A7 (by omega)];exact ho a (by omega)
 ·obtain⟨_,s1,s2,s3,t⟩:=v
  obtain⟨(rfl:_=(n:Int)),(hs:OkS (s1,(s2,s3))),(ht:t.length=n),(hr: ∀a,a<n->(t.getD a []).length=n),(ho: ∀a,a<n->one t a a)⟩:=hv;have hsq:Sq n t:=⟨ht,hr⟩;refine A8 ltf (Aa (Ap (λh1=>Ah (p52 hs) λw hw=>Ap (λ_=>?_) λ_=>?_) λ_=>?_))
  ·have h1:(1:Int)<n:=CK h1
   have w1:IntKind.wrap .i64 ((n:Int)-1)=((n-1:Nat):Int):=by rw [Ay (by omega) (by omega)];omega
   rw [w1];refine Ab (Vh hsq (by omega)) (Ah (p52 hw.2) λu hu=>?_)
   obtain⟨u0,u1⟩:=u;obtain⟨⟨(a1:0<=u0),(a2:0<(n:Int)->u0<(n:Int)),_⟩,hus⟩:=hu;have a2:=a2 (by omega)
   obtain⟨k,rfl⟩: ∃k:Nat,u0=(k:Int):=⟨u0.toNat,by omega⟩
   have hk:k<n:=by omega
   refine Ab (Ku hsq (by omega) hk) (wars hn (YB hsq (by omega)) (λi hi=>?_) (λv=>rfl) (λv w=>rfl) (λv w u=>rfl) λt ht=>Aa ⟨ht,hus⟩)
   show en _ i i=1;rw [show en (t.set (((n-1:Nat):Int)).toNat ((t.getD (((n-1:Nat):Int)).toNat []).set ((k:Int)).toNat 1)) i i=_ from YZ hsq (by omega) hk]
   split
   ·rfl
   ·exact ho i hi
  ·exact wars hn hsq ho (λv=>rfl) (λv w=>rfl) (λv w u=>rfl) λt ht=>Aa ⟨ht,hw.2⟩
  ·exact wars hn hsq ho (λv=>rfl) (λv w=>rfl) (λv w u=>rfl) λt ht=>Aa ⟨ht,hs⟩
end
end Go.Ve.D

