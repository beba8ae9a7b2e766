/- The source of numbers. -/
import Derived.Test.YtmmmafnkggaknaaGreatUn
import Derived.Test.YtmmmafnkggaknaaGreatLt
set_option linter.all false
namespace Go.Ve.D
open Go Go.Ve
abbrev Src:=List Int×(Int×Int)
variable{s:Src}
def OkS(s:Src):Prop:=0<=s.2.1/\s.1.length<=4096/\∀b∈s.1,0<=b/\b<=255
def wr64(n:Int):IntKind.u64.wrap n=n % 18446744073709551616:=by simp[IntKind.wrap,IntKind.bits,IntKind.signed]
def and24(a:Int):0<=YP .u64 a 16777215/\YP .u64 a 16777215<=16777215:=by
 unfold YP
 have h:(BitVec.ofInt IntKind.u64.bits a&&&BitVec.ofInt IntKind.u64.bits 16777215).toNat<=16777215:=by
  rw[BitVec.toNat_and];exact Nat.le_trans Nat.and_le_right (by decide)
 rw[wr64];omega
def Aar(h:OkS s)(i:Nat):0<=s.1.getD i 0/\s.1.getD i 0<=255:=by
 rw[gDE];by_cases e:i<s.1.length
 .rw[gEE e]
  exact h.2.2 _ (List.getElem_mem e)
 .rw[List.getElem?_eq_none (by omega)]
  exact⟨Int.le_refl _,by decide⟩
def Num(n:Int)(r:Int×Src):Prop:=(0<=r.1/\(0<n->r.1<n)/\(n<=0->r.1=0))/\OkS r.2
def p63{z:Int}(h:OkS s):Tot (Num z) (G63 z s):=by
 unfold G63;have U:=and24;refine Ak (λB=>?_) (λB=>?_)
 .have B:=BE B
  exact Aa ⟨⟨Int.le_refl _,λh=>h,λ_=>rfl⟩,h⟩
 have B:¬z<1:=IE B;have e:z≠0:=by omega
 have u:∀A:Int,0<=A->0<=Int.tmod A z/\(0<z->Int.tmod A z<z)/\(z<=0->Int.tmod A z=0):=by
  intro A W;rw[Int.tmod_eq_emod_of_nonneg W];exact⟨Int.emod_nonneg _ e,λJ=>Int.emod_lt_of_pos _ J,λJ=>by omega⟩
 refine Ab (by decide) (Ak (λE=>?_) (λ_=>?_))
 .have E:=BE E
  refine Ab ⟨h.1,E⟩ (Ab e (Aa ⟨u _ ?_,?_⟩))
  .obtain⟨a1,a2⟩:=U (Zk .u64 (IntKind.wrap .u64 ((IntKind.wrap .u64 (s.2.2*(6364136223846793005:Int)))+(1442695040888963407:Int))) (33:Int))
   obtain⟨Z,b2⟩:=Aar h s.2.1.toNat;rw[Ah a1 (by omega),Ah Z (by omega),Ah (by omega) (by omega)]
   omega
  .have hl:=h.2.1
   have h0:=h.1;refine⟨?_,h.2⟩;show 0<=IntKind.wrap .i64 (s.2.1+1);rw[Ah (by omega) (by omega)]
   omega
 .refine Ab e (Aa ⟨u _ ?_,h⟩)
  obtain⟨a1,a2⟩:=U (Zk .u64 (IntKind.wrap .u64 ((IntKind.wrap .u64 (s.2.2*(6364136223846793005:Int)))+(1442695040888963407:Int))) (33:Int));rw[Ah a1 (by omega)]
  exact a1
def Vs(x:List Int):Prop:=x.length<=4096/\∀b∈x,0<=b/\b<=255
theorem p24{x:List Int}(h:Vs x):Tot OkS (G24 x):=by
 unfold G24;refine As (n:=x.length) (λi v=>v.1=(i:Int)/\v.2.1=x/\v.2.2.1=0) ⟨rfl,rfl,rfl⟩ (λi E v e=>?_) λv e=>?_
 .obtain⟨k,y,a,b⟩:=v
  obtain⟨rfl,rfl,rfl⟩:=e;have Z:=h.1;refine A7 (v:=true) ?_ ?_
  .show(bif decide ((i:Int)<_)then some (decide ((i:Int)<4096))else _)=_
   rw[dT (by omega),dT (by omega)];rfl
  .refine Ab (Ac E) (Aa ⟨?_,rfl,rfl⟩)
   show IntKind.wrap .i64 ((i:Int)+1)=((i+1:Nat):Int);rw[Ah (by omega) (by omega)];rfl
 .obtain⟨k,y,a,b⟩:=v
  obtain⟨B,A,u⟩:=e;have W:k=(x.length:Int):=B;have U:x=y:=A.symm;have J:a=0:=u;clear B A u;subst W U J;refine A7 (v:=false) ?_ (Aa (Ab rfl (Aa ⟨Int.le_refl _,h.1,h.2⟩)));show(bif decide _ then _ else some false)=_;rw[dF (by omega)];rfl
theorem p72{l:List Int}(h:OkS s)(B:0<l.length):Tot (λr=>OkS r.2) (G72 l s):=by
 unfold G72;refine Ad (p63 h) λv e=>?_
 obtain⟨⟨A,u,_⟩,h4⟩:=e;exact Ab ⟨A,u (by omega)⟩ (Aa h4)
theorem p36{n:Int}(h:OkS s):Tot (λr=>OkS r.2) (G36 n s):=by
 unfold G36;refine Ad (p63 h) λv u=>Ak (λ_=>?_) λ_=>?_
 .exact Ad (p72 u.2 (by simp)) λw e=>Aa e
 .exact Ad (p63 u.2) λw e=>Aa e.2
end Go.Ve.D


namespace Go.Ve.D
open Go Go.Ve
noncomputable section
variable{v:Int}{t t0:LL}{a i j k n z:Nat}{α:Type}
def aF(c:Ca)(f:Nat):Int:=c.2.1.getD f 0
def aT(c:Ca)(f:Nat):Int:=c.2.2.1.getD f 0
def aI(c:Ca)(x:Nat):Int:=c.2.2.2.1.getD x 0
def en(t:LL)(i j:Nat):Int:=(t.getD i []).getD j 0
def aC(c:Ca)(f g:Nat):Int:=en c.2.2.2.2 f g
structure Sp(c:Ca)(n m:Nat):Prop where
 ob:c.1=(n:Int)
 lf:c.2.1.length=m
 lt:c.2.2.1.length=m
 li:c.2.2.2.1.length=n
 lc:c.2.2.2.2.length=m
 lr:∀f,f<m->(c.2.2.2.2.getD f []).length=m
 fr:∀f,f<m->∃x:Nat,x<n/\aF c f=x
 to:∀f,f<m->∃x:Nat,x<n/\aT c f=x
 ix:∀x,x<n->∃f:Nat,f<m/\aI c x=f
 cp:∀f g,f<m->g<m->aT c f=aF c g->∃h:Nat,h<m/\aC c f g=h/\aF c h=aF c f/\aT c h=aT c g
 cn:∀f g,f<m->g<m->aT c f≠aF c g->aC c f g<0
def ltD(h:i<n):decide ((i:Int)<(n:Int))=true:=dT (by omega)
def wrD(h:i<n)(e:n<=1048576):IntKind.wrap .i64 ((i:Int)+1)=((i+1:Nat):Int):=by
 rw[Ah (by omega) (by omega)];rfl
def AD{x y:List α}{d:α}(h:k<x.length):(x++y).getD k d=x.getD k d:=by
 rw[gDE,gDE,gAL h]
def Di{x:List α}{a d:α}:(x++[a]).getD x.length d=a:=by
 rw[gDE,gAR (Nat.le_refl _)];simp
def Bv{x:List α}{r d:α}(e:i<x.length):(x.set i r).getD a d=if a=i then r else x.getD a d:=by
 by_cases h:a=i
 .subst h;simp[e]
 .rw[if_neg h,gDE,List.getElem?_set_ne (Ne.symm h),<-gDE]
def Sq(z:Nat)(t:LL):Prop:=t.length=z/\∀i,i<z->(t.getD i []).length=z
def one(t:LL)(i j:Nat):Prop:=en t i j=1
instance(t:LL)(i j:Nat):Decidable (one t i j):=inferInstanceAs (Decidable (en t i j=1))
def UO(h:Sq z t)(e:i<z):(0:Int)<=(i:Int)/\(i:Int)<(t.length:Int):=by rw[h.1];omega
def Kc(h:Sq z t)(e:i<z)(u:j<z):(0:Int)<=(j:Int)/\(j:Int)<((t.getD i []).length:Int):=by rw[h.2 i e];omega
theorem Yb(h:Sq z t)(e:i<z):Sq z (t.set i ((t.getD i []).set j v)):=by
 refine⟨by rw[List.length_set];exact h.1,λa u=>?_⟩
 rw[Bv (by rw[h.1];exact e)]
 split
 .rw[List.length_set];exact h.2 i e
 .exact h.2 a u
def YD(h:Sq z t){b:Nat}(A:i<z)(B:j<z):en (t.set i ((t.getD i []).set j v)) a b=if a=i/\b=j then v else en t a b:=by
 unfold en;rw[Bv (by rw[h.1];exact A)]
 by_cases u:a=i
 .subst u
  rw[if_pos rfl,Bv (by rw[h.2 a A];exact B)]
  by_cases e:b=j
  .rw[if_pos e,if_pos ⟨rfl,e⟩]
  .rw[if_neg e,if_neg (λh=>e h.2)]
 .rw[if_neg u,if_neg (λh=>u h.1)]
def Tr(z:Nat)(t:LL):Prop:=Sq z t/\(∀i,i<z->one t i i)/\∀i j m,i<z->j<z->m<z->one t i m->one t m j->one t i j
def wJ(z k:Nat)(t:LL):Prop:=Sq z t/\(∀i,i<z->one t i i)/\∀i j m,i<z->j<z->m<k->one t i m->one t m j->one t i j
def wK(z k:Nat)(t0:LL)(i j:Nat)(t:LL):Prop:=Sq z t/\∀a b,a<z->b<z->(one t a b↔one t0 a b\/((a<i\/a=i/\b<j)/\one t0 a k/\one t0 k b))
theorem wK_end(h0:wJ z k t0)(hk:k<z)(h:wK z k t0 z 0 t):wJ z (k+1) t:=by
 obtain⟨s0,d0,Z⟩:=h0
 have e:∀a b,a<z->b<z->(one t a b↔one t0 a b\/(one t0 a k/\one t0 k b)):=λa b ha hb=>by
  rw[h.2 a b ha hb];exact⟨λh=>h.imp_right λh=>h.2,λh=>h.imp_right λh=>⟨.inl ha,h⟩⟩
 refine⟨h.1,λi B=>(e i i B B).2 (.inl (d0 i B)),λi j m B W hm A E=>?_⟩
 have J:m<z:=by omega
 rw[e i m B J]at A;rw[e m j J W]at E;rw[e i j B W];by_cases u:m=k
 .subst u
  exact .inr ⟨A.elim id (·.1),E.elim id (·.2)⟩
 .have u:m<k:=by omega
  rcases A with A|⟨A,h1'⟩<;>rcases E with E|⟨E,U⟩
  .exact .inl (Z i j m B W u A E)
  .exact .inr ⟨Z i k m B hk u A E,U⟩
  .exact .inr ⟨A,Z k j m hk W u h1' E⟩
  .exact .inr ⟨A,U⟩
theorem wars{R:Type}(hz:z<=1000)(h0:Sq z t0)(hd:∀i,i<z->one t0 i i){F1:Int×LL->Option (LO (Int×LL) R)}{F2:Int×LL->Int×LL->Option (LO (Int×LL) (LO (Int×LL) R))}{F3:Int×LL->Int×LL->Int×LL->Option (LO (Int×LL) (LO (Int×LL) (LO (Int×LL) R)))}
  (h1:∀v,F1 v=bif decide (v.1<(z:Int))then Option.bind (Aj (F2 v) ((0:Int),v.2)) (LO.fin λi1 v1=>if i1=6 then some (LO.next (IntKind.i64.wrap (v.1+1),v1.2))else none)else some (LO.brk 4 v))
  (h2:∀v w,F2 v w=bif decide (w.1<(z:Int))then Option.bind (Aj (F3 v w) ((0:Int),w.2)) (LO.fin λi1 v1=>if i1=8 then some (LO.next (IntKind.i64.wrap (w.1+1),v1.2))else none)else some (LO.brk 6 w))
  (h3:∀v w u,F3 v w u=bif decide (u.1<(z:Int))then if 0<=w.1/\w.1<(u.2.length:Int)then if 0<=v.1/\v.1<((u.2.getD w.1.toNat []).length:Int)then Option.bind (bif decide (((u.2.getD w.1.toNat []).getD v.1.toNat 0)=1)then if 0<=v.1/\v.1<(u.2.length:Int)then if 0<=u.1/\u.1<((u.2.getD v.1.toNat []).length:Int)then some (decide (((u.2.getD v.1.toNat []).getD u.1.toNat 0)=1))else none else none else some false) (fun(v4:Bool)=>bif v4 then if 0<=w.1/\w.1<(u.2.length:Int)then if 0<=u.1/\u.1<((u.2.getD w.1.toNat []).length:Int)then some (LO.next (IntKind.i64.wrap (u.1+1),u.2.set w.1.toNat ((u.2.getD w.1.toNat []).set u.1.toNat 1)))else none else none else some (LO.next (IntKind.i64.wrap (u.1+1),u.2)))else none else none else some (LO.brk 8 u))
  {g:Nat->Int×LL->Option R}{Q:R->Prop} (hq:∀t,Tr z t->Tot Q (g 4 ((z:Int),t))):Tot Q (Option.bind (Aj F1 ((0:Int),t0)) (LO.fin g)):=by
 refine As (n:=z) (λk v=>v.1=(k:Int)/\wJ z k v.2) ⟨rfl,h0,hd,λi j m _ _ hm=>absurd hm (by omega)⟩ (λk U v E=>?_) λv E=>?_
 .obtain⟨_,t⟩:=v
  obtain⟨(rfl:_=(k:Int)),(hJ:wJ z k t)⟩:=E;rw[h1];refine AU (ltD U) (As (n:=z) (λi v=>v.1=(i:Int)/\wK z k t i 0 v.2) ⟨rfl,hJ.1,λa b ha hb=>⟨.inl,λh=>h.elim id λh=>by omega⟩⟩ (λi J v E=>?_) λv E=>?_)
  .obtain⟨_,t1⟩:=v
   obtain⟨(rfl:_=(i:Int)),(A:wK z k t i 0 t1)⟩:=E;rw[h2];refine AU (ltD J) (As (n:=z) (λj v=>v.1=(j:Int)/\wK z k t i j v.2) ⟨rfl,A⟩ (λj W v E=>?_) λv E=>?_)
   .obtain⟨_,t2⟩:=v
    obtain⟨(rfl:_=(j:Int)),(A:wK z k t i j t2)⟩:=E;rw[h3];have eik:one t2 i k↔one t i k:=by
     rw[A.2 i k J U];exact⟨λh=>h.elim id λh=>h.2.1,.inl⟩
    have ekj:one t2 k j↔one t k j:=by
     rw[A.2 k j U W];exact⟨λh=>h.elim id λh=>h.2.2,.inl⟩
    refine AU (ltD W) (Ab (UO A.1 J) (Ab (Kc A.1 J U) (Ad (P:=λb:Bool=>b=true↔one t i k/\one t k j) ?_ λb hb=>Ak (λe=>?_) λe=>?_)))
    .refine Ak (λe=>Ab (UO A.1 U) (Ab (Kc A.1 U W) (Aa ?_))) λe=>Aa ?_
     .rw[decide_eq_true_eq]
      exact⟨λh=>⟨eik.1 (BE e),ekj.1 h⟩,λh=>ekj.2 h.2⟩
     .exact⟨(λh=>by cases h),λh=>absurd (eik.2 h.1) (IE e)⟩
    .have hb:=hb.1 e
     refine Ab (UO A.1 J) (Ab (Kc A.1 J W) (Aa ⟨wrD W (by omega),Yb A.1 J,λa b ha Z=>?_⟩))
     show en _ a b=1↔_;rw[show en (t2.set ((i:Int)).toNat ((t2.getD ((i:Int)).toNat []).set ((j:Int)).toNat 1)) a b=_ from YD A.1 J W]
     split
     .rename_i h;obtain⟨rfl,rfl⟩:=h
      exact⟨λ_=>.inr ⟨.inr ⟨rfl,by omega⟩,hb⟩,λ_=>rfl⟩
     .rename_i h
      refine(A.2 a b ha Z).trans ⟨λh=>h.imp_right λh=>⟨by omega,h.2⟩,λB=>B.imp_right λB=>⟨by omega,B.2⟩⟩
    .refine Aa ⟨wrD W (by omega),A.1,λa b ha Z=>(A.2 a b ha Z).trans ⟨λh=>h.imp_right λh=>⟨by omega,h.2⟩,λB=>B.elim .inl λB=>?_⟩⟩
     by_cases h:a=i/\b=j
     .obtain⟨rfl,rfl⟩:=h
      rw[hb.2 B.2]at e;cases e
     .exact .inr ⟨by omega,B.2⟩
   .obtain⟨_,t2⟩:=v
    obtain⟨(rfl:_=(z:Int)),(A:wK z k t i z t2)⟩:=E;rw[h3];refine AW ltf (Aa (Aa ⟨wrD J (by omega),A.1,λa b ha hb=>(A.2 a b ha hb).trans ⟨λh=>h.imp_right λh=>⟨by omega,h.2⟩,λB=>B.imp_right λB=>⟨by omega,B.2⟩⟩⟩))
  .obtain⟨_,t1⟩:=v
   obtain⟨(rfl:_=(z:Int)),(A:wK z k t z 0 t1)⟩:=E;rw[h2];exact AW ltf (Aa (Aa ⟨wrD U (by omega),wK_end hJ U A⟩))
 .obtain⟨_,t⟩:=v
  obtain⟨(rfl:_=(z:Int)),(hJ:wJ z z t)⟩:=E;rw[h1];exact AW ltf (Aa (hq t hJ))
theorem p141(hn:n<=1000){s:Src}(h:OkS s):Tot (λr=>Tr n r.1/\OkS r.2) (G141 (n:Int) s):=by
 unfold G141;have hN:((n:Int)).toNat=n:=rfl;refine As (n:=n) (λi v=>v.1=(i:Int)/\OkS (v.2.1,(v.2.2.1,v.2.2.2.1))/\v.2.2.2.2.length=i/\(∀a,a<i->(v.2.2.2.2.getD a []).length=n)/\∀a,a<i->one v.2.2.2.2 a a) ⟨rfl,h,rfl,λa ha=>by omega,λa ha=>by omega⟩ (λi hi v Z=>?_) λv Z=>?_
 .obtain⟨_,s1,W,U,t⟩:=v
  obtain⟨(rfl:_=(i:Int)),(hs:OkS (s1,(W,U))),(B:t.length=i),(hr:∀a,a<i->(t.getD a []).length=n),(ho:∀a,a<i->one t a a)⟩:=Z;have E:(List.replicate ((n:Int)).toNat (0:Int)).length=n:=by rw[List.length_replicate];rfl
  refine AU (ltD hi) (Ab ⟨by omega,by omega,by omega,by omega⟩ (Ab (by rw[E];exact Ac hi) ?_))
  have h0:IntKind.wrap .i64 ((i:Int)+1)=(((i+1)+0:Nat):Int):=wrD hi (by omega)
  refine As (n:=n-(i+1)) (λj v=>v.1=((i+1+j:Nat):Int)/\OkS (v.2.1,(v.2.2.1,v.2.2.2.1))/\v.2.2.2.2.1=t/\v.2.2.2.2.2.length=n/\v.2.2.2.2.2.getD i 0=1) ⟨h0,hs,rfl,by rw[List.length_set,E],?_⟩ (λj hj v Z=>?_) λv Z=>?_
  .show((List.replicate ((n:Int)).toNat (0:Int)).set i 1).getD i 0=1
   rw[Bv (by rw[E];exact hi),if_pos rfl]
  .obtain⟨_,s1,W,U,J,row⟩:=v
   obtain⟨(rfl:_=((i+1+j:Nat):Int)),(hs:OkS (s1,(W,U))),(e:J=t),(hl:row.length=n),(hi1:row.getD i 0=1)⟩:=Z;subst e;refine AU (ltD (by omega)) (Ad (p63 hs) λw hw=>Ab (by show(0:Int)<=((i+1+j:Nat):Int)/\((i+1+j:Nat):Int)<(row.length:Int);rw[hl];omega) (Aa ⟨wrD (n:=n) (by omega) (by omega),hw.2,rfl,by rw[List.length_set];exact hl,?_⟩))
   show(row.set (i+1+j) _).getD i 0=1;rw[Bv (by rw[hl];omega),if_neg (by omega)];exact hi1
  .obtain⟨_,s1,W,U,J,row⟩:=v
   obtain⟨(rfl:_=((i+1+(n-(i+1)):Nat):Int)),(hs:OkS (s1,(W,U))),(e:J=t),(hl:row.length=n),(hi1:row.getD i 0=1)⟩:=Z;subst e;refine AW (dF (by show ¬ ((i+1+(n-(i+1)):Nat):Int)<(n:Int);omega)) (Aa (Ab rfl (Ab trivial (Ab (by show J.length+1<=_;omega) (Aa ⟨wrD hi (by omega),hs,?_,λa ha=>?_,λa ha=>?_⟩)))))
   .show(J++[row]).length=i+1
    rw[List.length_append,B];rfl
   .show((J++[row]).getD a []).length=n
    by_cases e:a=i
    .subst e;rw[<-B,Di];exact hl
    .rw[AD (by omega)];exact hr a (by omega)
   .show((J++[row]).getD a []).getD a 0=1
    by_cases e:a=i
    .subst e;rw[<-B,Di,B];exact hi1
    .rw[AD (by omega)];exact ho a (by omega)
 .obtain⟨_,s1,W,U,t⟩:=v
  obtain⟨(rfl:_=(n:Int)),(hs:OkS (s1,(W,U))),(B:t.length=n),(hr:∀a,a<n->(t.getD a []).length=n),(ho:∀a,a<n->one t a a)⟩:=Z;have A:Sq n t:=⟨B,hr⟩;refine AW ltf (Aa (Ak (λh1=>Ad (p63 hs) λw hw=>Ak (λ_=>?_) λ_=>?_) λ_=>?_))
  .have h1:(1:Int)<n:=BE h1
   have w1:IntKind.wrap .i64 ((n:Int)-1)=((n-1:Nat):Int):=by rw[Ah (by omega) (by omega)];omega
   rw[w1];refine Ab (UO A (by omega)) (Ad (p63 hw.2) λu hu=>?_)
   obtain⟨u0,u1⟩:=u;obtain⟨⟨(a1:0<=u0),(a2:0<(n:Int)->u0<(n:Int)),_⟩,hus⟩:=hu;have a2:=a2 (by omega)
   obtain⟨k,rfl⟩:∃k:Nat,u0=(k:Int):=⟨u0.toNat,by omega⟩
   have hk:k<n:=by omega
   refine Ab (Kc A (by omega) hk) (wars hn (Yb A (by omega)) (λi hi=>?_) (λv=>rfl) (λv w=>rfl) (λv w u=>rfl) λt B=>Aa ⟨B,hus⟩)
   show en _ i i=1;rw[show en (t.set (((n-1:Nat):Int)).toNat ((t.getD (((n-1:Nat):Int)).toNat []).set ((k:Int)).toNat 1)) i i=_ from YD A (by omega) hk]
   split
   .rfl
   .exact ho i hi
  .exact wars hn A ho (λv=>rfl) (λv w=>rfl) (λv w u=>rfl) λt B=>Aa ⟨B,hw.2⟩
  .exact wars hn A ho (λv=>rfl) (λv w=>rfl) (λv w u=>rfl) λt B=>Aa ⟨B,hs⟩
end
end Go.Ve.D

