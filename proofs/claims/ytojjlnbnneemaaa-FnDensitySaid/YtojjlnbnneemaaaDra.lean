/- The source of numbers. -/
import Derived.Test.YtojjlnbnneemaaaUd
import Derived.Test.YtojjlnbnneemaaaLt
open Go.IntKind(u64 wrap signed i64)
set_option linter.all false
namespace Go.Ve.D
open Go Go.Ve
abbrev Src:=List Int×(Int×Int)
variable{s:Src}
def OkS(s:Src):Prop:=0<=s.2.1/\s.1.length<=4096/\∀b∈s.1,0<=b/\b<=255
def wr64(n:Int):u64.wrap n=n % 18446744073709551616:=by simp[wrap,IntKind.bits,signed]
def and24(a:Int):0<=Aaw .u64 a 16777215/\Aaw .u64 a 16777215<=16777215:=by
 unfold Aaw
 have h:(BitVec.ofInt u64.bits a&&&BitVec.ofInt u64.bits 16777215).toNat<=16777215:=by
  rw[BitVec.toNat_and];exact Nat.le_trans Nat.and_le_right (by decide)
 rw[wr64];omega
def Acd(h:OkS s)(i:Nat):0<=s.1.getD i 0/\s.1.getD i 0<=255:=by
 rw[gDE];by_cases u:i<s.1.length
 .rw[gEE u]
  exact h.2.2 _ (List.getElem_mem u)
 .rw[List.getElem?_eq_none (by omega)]
  exact⟨Int.le_refl _,by decide⟩
def Num(n:Int)(r:Int×Src):Prop:=(0<=r.1/\(0<n->r.1<n)/\(n<=0->r.1=0))/\OkS r.2
def p38{z:Int}(h:OkS s):Tot (Num z) (G38 z s):=by
 delta G38 lt gd l0 wz sc
 have O:=and24;refine An (λB=>?_) (λB=>?_)
 .have B:=B3 B
  exact Aa ⟨⟨Int.le_refl _,λh=>h,λ_=>rfl⟩,h⟩
 have B:¬z<1:=JW B;have u:z≠0:=by omega
 have key:∀A:Int,0<=A->0<=Int.tmod A z/\(0<z->Int.tmod A z<z)/\(z<=0->Int.tmod A z=0):=by
  intro A U;rw[Int.tmod_eq_emod_of_nonneg U];exact⟨Int.emod_nonneg _ u,λJ=>Int.emod_lt_of_pos _ J,λJ=>by omega⟩
 refine Ab (by decide) (An (λE=>?_) (λ_=>?_))
 .have E:=B3 E
  refine Ab ⟨h.1,E⟩ (Ab u (Aa ⟨key _ ?_,?_⟩))
  .obtain⟨a1,a2⟩:=O (Aa0 .u64 (wrap .u64 ((wrap .u64 (s.2.2*(6364136223846793005:Int)))+(1442695040888963407:Int))) (33:Int))
   obtain⟨W,b2⟩:=Acd h s.2.1.toNat;rw[Ah a1 (by omega),Ah W (by omega),Ah (by omega) (by omega)]
   omega
  .have Y:=h.2.1
   have Z:=h.1;refine⟨?_,h.2⟩;show 0<=wrap .i64 (s.2.1+1);rw[Ah (by omega) (by omega)]
   omega
 .refine Ab u (Aa ⟨key _ ?_,h⟩)
  obtain⟨a1,a2⟩:=O (Aa0 .u64 (wrap .u64 ((wrap .u64 (s.2.2*(6364136223846793005:Int)))+(1442695040888963407:Int))) (33:Int));rw[Ah a1 (by omega)]
  exact a1
def WI(x:List Int):Prop:=x.length<=4096/\∀b∈x,0<=b/\b<=255
theorem p35{x:List Int}(h:WI x):Tot OkS (G35 x):=by
 delta G35 lw an lt gd l0 sc nx bk
 refine Au (n:=x.length) (λi v=>v.1=(i:Int)/\v.2.1=x/\v.2.2.1=0) ⟨rfl,rfl,rfl⟩ (λi J v u=>?_) λv u=>?_
 .obtain⟨k,y,a,b⟩:=v
  obtain⟨rfl,rfl,rfl⟩:=u;have Y:=h.1;refine Bh (v:=true) ?_ ?_
  .show(bif decide ((i:Int)<_)then some (decide ((i:Int)<4096))else _)=_
   rw[dT (by omega),dT (by omega)];rfl
  .refine Ab (Ac J) (Aa ⟨?_,rfl,rfl⟩)
   show wrap .i64 ((i:Int)+1)=((i+1:Nat):Int);rw[Ah (by omega) (by omega)];rfl
 .obtain⟨k,y,a,b⟩:=v
  obtain⟨E,B,A⟩:=u;have W:k=(x.length:Int):=E;have U:x=y:=B.symm;have O:a=0:=A;clear E B A;subst W U O;refine Bh (v:=false) ?_ (Aa (Ab rfl (Aa ⟨Int.le_refl _,h.1,h.2⟩)));show(bif decide _ then _ else some false)=_;rw[dF (by omega)];rfl
theorem p127{l:List Int}(h:OkS s)(E:0<l.length):Tot (λr=>OkS r.2) (G127 l s):=by
 delta G127 gd l0
 refine Ad (p38 h) λv u=>?_
 obtain⟨⟨B,A,_⟩,h4⟩:=u;exact Ab ⟨B,A (by omega)⟩ (Aa h4)
theorem p74{n:Int}(h:OkS s):Tot (λr=>OkS r.2) (G74 n s):=by
 unfold G74;refine Ad (p38 h) λv A=>An (λ_=>?_) λ_=>?_
 .exact Ad (p127 A.2 (by simp)) λw u=>Aa u
 .exact Ad (p38 A.2) λw u=>Aa u.2
end Go.Ve.D


namespace Go.Ve.D
open Go Go.Ve
noncomputable section
variable{v:Int}{t t0:LL}{a i j k n z:Nat}{α:Type}
def aF(c:Ca)(f:Nat):Int:=c.2.1.getD f 0
def aT(c:Ca)(f:Nat):Int:=c.2.2.1.getD f 0
def aI(c:Ca)(x:Nat):Int:=c.2.2.2.1.getD x 0
def en(t:LL)(i j:Nat):Int:=(t.getD i []).getD j 0
def aC(c:Ca)(f g:Nat):Int:=en c.2.2.2.2 f g
structure Sp(c:Ca)(n m:Nat):Prop where
 ob:c.1=(n:Int)
 lf:c.2.1.length=m
 lt:c.2.2.1.length=m
 li:c.2.2.2.1.length=n
 lc:c.2.2.2.2.length=m
 lr:∀f,f<m->(c.2.2.2.2.getD f []).length=m
 fr:∀f,f<m->∃x:Nat,x<n/\aF c f=x
 to:∀f,f<m->∃x:Nat,x<n/\aT c f=x
 ix:∀x,x<n->∃f:Nat,f<m/\aI c x=f
 cp:∀f g,f<m->g<m->aT c f=aF c g->∃h:Nat,h<m/\aC c f g=h/\aF c h=aF c f/\aT c h=aT c g
 cn:∀f g,f<m->g<m->aT c f≠aF c g->aC c f g<0
def ltD(h:i<n):decide ((i:Int)<(n:Int))=true:=dT (by omega)
def wrD(h:i<n)(u:n<=1048576):wrap .i64 ((i:Int)+1)=((i+1:Nat):Int):=by
 rw[Ah (by omega) (by omega)];rfl
def AE{x y:List α}{d:α}(h:k<x.length):(x++y).getD k d=x.getD k d:=by
 rw[gDE,gDE,gAL h]
def Dt{x:List α}{a d:α}:(x++[a]).getD x.length d=a:=by
 rw[gDE,gAR (Nat.le_refl _)];simp
def BB{x:List α}{r d:α}(u:i<x.length):(x.set i r).getD a d=if a=i then r else x.getD a d:=by
 by_cases h:a=i
 .subst h;simp[u]
 .rw[if_neg h,gDE,List.getElem?_set_ne (Ne.symm h),<-gDE]
def Sq(z:Nat)(t:LL):Prop:=t.length=z/\∀i,i<z->(t.getD i []).length=z
def one(t:LL)(i j:Nat):Prop:=en t i j=1
instance(t:LL)(i j:Nat):Decidable (one t i j):=inferInstanceAs (Decidable (en t i j=1))
def VX(h:Sq z t)(u:i<z):(0:Int)<=(i:Int)/\(i:Int)<(t.length:Int):=by rw[h.1];omega
def KC(h:Sq z t)(u:i<z)(A:j<z):(0:Int)<=(j:Int)/\(j:Int)<((t.getD i []).length:Int):=by rw[h.2 i u];omega
theorem ZE(h:Sq z t)(u:i<z):Sq z (t.set i ((t.getD i []).set j v)):=by
 refine⟨by rw[List.length_set];exact h.1,λa A=>?_⟩
 rw[BB (by rw[h.1];exact u)]
 split
 .rw[List.length_set];exact h.2 i u
 .exact h.2 a A
def Aaj(h:Sq z t){b:Nat}(B:i<z)(E:j<z):en (t.set i ((t.getD i []).set j v)) a b=if a=i/\b=j then v else en t a b:=by
 unfold en;rw[BB (by rw[h.1];exact B)]
 by_cases A:a=i
 .subst A
  rw[if_pos rfl,BB (by rw[h.2 a B];exact E)]
  by_cases u:b=j
  .rw[if_pos u,if_pos ⟨rfl,u⟩]
  .rw[if_neg u,if_neg (λh=>u h.2)]
 .rw[if_neg A,if_neg (λh=>A h.1)]
def Tr(z:Nat)(t:LL):Prop:=Sq z t/\(∀i,i<z->one t i i)/\∀i j m,i<z->j<z->m<z->one t i m->one t m j->one t i j
def wJ(z k:Nat)(t:LL):Prop:=Sq z t/\(∀i,i<z->one t i i)/\∀i j m,i<z->j<z->m<k->one t i m->one t m j->one t i j
def wK(z k:Nat)(t0:LL)(i j:Nat)(t:LL):Prop:=Sq z t/\∀a b,a<z->b<z->(one t a b↔one t0 a b\/((a<i\/a=i/\b<j)/\one t0 a k/\one t0 k b))
theorem wK_end(h0:wJ z k t0)(Y:k<z)(h:wK z k t0 z 0 t):wJ z (k+1) t:=by
 obtain⟨s0,d0,r0⟩:=h0
 have e:∀a b,a<z->b<z->(one t a b↔one t0 a b\/(one t0 a k/\one t0 k b)):=λa b Z hb=>by
  rw[h.2 a b Z hb];exact⟨λh=>h.imp_right λh=>h.2,λh=>h.imp_right λh=>⟨.inl Z,h⟩⟩
 refine⟨h.1,λi B=>(e i i B B).2 (.inl (d0 i B)),λi j m B U hm A E=>?_⟩
 have J:m<z:=by omega
 rw[e i m B J]at A;rw[e m j J U]at E;rw[e i j B U];by_cases u:m=k
 .subst u
  exact .inr ⟨A.elim id (·.1),E.elim id (·.2)⟩
 .have u:m<k:=by omega
  rcases A with A|⟨A,W⟩<;>rcases E with E|⟨E,O⟩
  .exact .inl (r0 i j m B U u A E)
  .exact .inr ⟨r0 i k m B Y u A E,O⟩
  .exact .inr ⟨A,r0 k j m Y U u W E⟩
  .exact .inr ⟨A,O⟩
theorem wars{R:Type}(hz:z<=1000)(h0:Sq z t0)(hd:∀i,i<z->one t0 i i){F1:Int×LL->Option (LO (Int×LL) R)}{F2:Int×LL->Int×LL->Option (LO (Int×LL) (LO (Int×LL) R))}{F3:Int×LL->Int×LL->Int×LL->Option (LO (Int×LL) (LO (Int×LL) (LO (Int×LL) R)))}
  (h1:∀v,F1 v=bif decide (v.1<(z:Int))then Option.bind (A4 (F2 v) ((0:Int),v.2)) (LO.fin λi1 v1=>if i1=6 then some (LO.next (i64.wrap (v.1+1),v1.2))else none)else some (LO.brk 4 v))
  (h2:∀v w,F2 v w=bif decide (w.1<(z:Int))then Option.bind (A4 (F3 v w) ((0:Int),w.2)) (LO.fin λi1 v1=>if i1=8 then some (LO.next (i64.wrap (w.1+1),v1.2))else none)else some (LO.brk 6 w))
  (h3:∀v w u,F3 v w u=bif decide (u.1<(z:Int))then if 0<=w.1/\w.1<(u.2.length:Int)then if 0<=v.1/\v.1<((u.2.getD w.1.toNat []).length:Int)then Option.bind (bif decide (((u.2.getD w.1.toNat []).getD v.1.toNat 0)=1)then if 0<=v.1/\v.1<(u.2.length:Int)then if 0<=u.1/\u.1<((u.2.getD v.1.toNat []).length:Int)then some (decide (((u.2.getD v.1.toNat []).getD u.1.toNat 0)=1))else none else none else some false) (fun(v4:Bool)=>bif v4 then if 0<=w.1/\w.1<(u.2.length:Int)then if 0<=u.1/\u.1<((u.2.getD w.1.toNat []).length:Int)then some (LO.next (i64.wrap (u.1+1),u.2.set w.1.toNat ((u.2.getD w.1.toNat []).set u.1.toNat 1)))else none else none else some (LO.next (i64.wrap (u.1+1),u.2)))else none else none else some (LO.brk 8 u))
  {g:Nat->Int×LL->Option R}{Q:R->Prop} (hq:∀t,Tr z t->Tot Q (g 4 ((z:Int),t))):Tot Q (Option.bind (A4 F1 ((0:Int),t0)) (LO.fin g)):=by
 refine Au (n:=z) (λk v=>v.1=(k:Int)/\wJ z k v.2) ⟨rfl,h0,hd,λi j m _ _ hm=>absurd hm (by omega)⟩ (λk O v E=>?_) λv E=>?_
 .obtain⟨_,t⟩:=v
  obtain⟨(rfl:_=(k:Int)),(hJ:wJ z k t)⟩:=E;rw[h1];refine A5 (ltD O) (Au (n:=z) (λi v=>v.1=(i:Int)/\wK z k t i 0 v.2) ⟨rfl,hJ.1,λa b Z Y=>⟨.inl,λh=>h.elim id λh=>by omega⟩⟩ (λi J v E=>?_) λv E=>?_)
  .obtain⟨_,t1⟩:=v
   obtain⟨(rfl:_=(i:Int)),(A:wK z k t i 0 t1)⟩:=E;rw[h2];refine A5 (ltD J) (Au (n:=z) (λj v=>v.1=(j:Int)/\wK z k t i j v.2) ⟨rfl,A⟩ (λj U v E=>?_) λv E=>?_)
   .obtain⟨_,t2⟩:=v
    obtain⟨(rfl:_=(j:Int)),(A:wK z k t i j t2)⟩:=E;rw[h3];have eik:one t2 i k↔one t i k:=by
     rw[A.2 i k J O];exact⟨λh=>h.elim id λh=>h.2.1,.inl⟩
    have ekj:one t2 k j↔one t k j:=by
     rw[A.2 k j O U];exact⟨λh=>h.elim id λh=>h.2.2,.inl⟩
    refine A5 (ltD U) (Ab (VX A.1 J) (Ab (KC A.1 J O) (Ad (P:=λb:Bool=>b=true↔one t i k/\one t k j) ?_ λb Y=>An (λe=>?_) λe=>?_)))
    .refine An (λe=>Ab (VX A.1 O) (Ab (KC A.1 O U) (Aa ?_))) λe=>Aa ?_
     .rw[decide_eq_true_eq]
      exact⟨λh=>⟨eik.1 (B3 e),ekj.1 h⟩,λh=>ekj.2 h.2⟩
     .exact⟨(λh=>by cases h),λh=>absurd (eik.2 h.1) (JW e)⟩
    .have Y:=Y.1 e
     refine Ab (VX A.1 J) (Ab (KC A.1 J U) (Aa ⟨wrD U (by omega),ZE A.1 J,λa b Z W=>?_⟩))
     show en _ a b=1↔_;rw[show en (t2.set ((i:Int)).toNat ((t2.getD ((i:Int)).toNat []).set ((j:Int)).toNat 1)) a b=_ from Aaj A.1 J U]
     split
     .rename_i h;obtain⟨rfl,rfl⟩:=h
      exact⟨λ_=>.inr ⟨.inr ⟨rfl,by omega⟩,Y⟩,λ_=>rfl⟩
     .rename_i h
      refine(A.2 a b Z W).trans ⟨λh=>h.imp_right λh=>⟨by omega,h.2⟩,λB=>B.imp_right λB=>⟨by omega,B.2⟩⟩
    .refine Aa ⟨wrD U (by omega),A.1,λa b Z W=>(A.2 a b Z W).trans ⟨λh=>h.imp_right λh=>⟨by omega,h.2⟩,λB=>B.elim .inl λB=>?_⟩⟩
     by_cases h:a=i/\b=j
     .obtain⟨rfl,rfl⟩:=h
      rw[Y.2 B.2]at e;cases e
     .exact .inr ⟨by omega,B.2⟩
   .obtain⟨_,t2⟩:=v
    obtain⟨(rfl:_=(z:Int)),(A:wK z k t i z t2)⟩:=E;rw[h3];refine A8 ltf (Aa (Aa ⟨wrD J (by omega),A.1,λa b Z Y=>(A.2 a b Z Y).trans ⟨λh=>h.imp_right λh=>⟨by omega,h.2⟩,λB=>B.imp_right λB=>⟨by omega,B.2⟩⟩⟩))
  .obtain⟨_,t1⟩:=v
   obtain⟨(rfl:_=(z:Int)),(A:wK z k t z 0 t1)⟩:=E;rw[h2];exact A8 ltf (Aa (Aa ⟨wrD O (by omega),wK_end hJ O A⟩))
 .obtain⟨_,t⟩:=v
  obtain⟨(rfl:_=(z:Int)),(hJ:wJ z z t)⟩:=E;rw[h1];exact A8 ltf (Aa (hq t hJ))
theorem p37(hn:n<=1000){s:Src}(h:OkS s):Tot (λr=>Tr n r.1/\OkS r.2) (G37 (n:Int) s):=by
 delta G37 mB lw an l2 g2 k3 lt gd li q4 wz sc nx bk cp
 have hN:((n:Int)).toNat=n:=rfl;refine Au (n:=n) (λi v=>v.1=(i:Int)/\OkS (v.2.1,(v.2.2.1,v.2.2.2.1))/\v.2.2.2.2.length=i/\(∀a,a<i->(v.2.2.2.2.getD a []).length=n)/\∀a,a<i->one v.2.2.2.2 a a) ⟨rfl,h,rfl,λa ha=>by omega,λa ha=>by omega⟩ (λi hi v Y=>?_) λv Y=>?_
 .obtain⟨_,s1,W,U,t⟩:=v
  obtain⟨(rfl:_=(i:Int)),(J:OkS (s1,(W,U))),(B:t.length=i),(hr:∀a,a<i->(t.getD a []).length=n),(ho:∀a,a<i->one t a a)⟩:=Y;have E:(List.replicate ((n:Int)).toNat (0:Int)).length=n:=by rw[List.length_replicate];rfl
  refine A5 (ltD hi) (Ab ⟨by omega,by omega,by omega,by omega⟩ (Ab (by rw[E];exact Ac hi) ?_))
  have h0:wrap .i64 ((i:Int)+1)=(((i+1)+0:Nat):Int):=wrD hi (by omega)
  refine Au (n:=n-(i+1)) (λj v=>v.1=((i+1+j:Nat):Int)/\OkS (v.2.1,(v.2.2.1,v.2.2.2.1))/\v.2.2.2.2.1=t/\v.2.2.2.2.2.length=n/\v.2.2.2.2.2.getD i 0=1) ⟨h0,J,rfl,by rw[List.length_set,E],?_⟩ (λj hj v Y=>?_) λv Y=>?_
  .show((List.replicate ((n:Int)).toNat (0:Int)).set i 1).getD i 0=1
   rw[BB (by rw[E];exact hi),if_pos rfl]
  .obtain⟨_,s1,W,U,O,row⟩:=v
   obtain⟨(rfl:_=((i+1+j:Nat):Int)),(J:OkS (s1,(W,U))),(e:O=t),(hl:row.length=n),(Z:row.getD i 0=1)⟩:=Y;subst e;refine A5 (ltD (by omega)) (Ad (p38 J) λw hw=>Ab (by show(0:Int)<=((i+1+j:Nat):Int)/\((i+1+j:Nat):Int)<(row.length:Int);rw[hl];omega) (Aa ⟨wrD (n:=n) (by omega) (by omega),hw.2,rfl,by rw[List.length_set];exact hl,?_⟩))
   show(row.set (i+1+j) _).getD i 0=1;rw[BB (by rw[hl];omega),if_neg (by omega)];exact Z
  .obtain⟨_,s1,W,U,O,row⟩:=v
   obtain⟨(rfl:_=((i+1+(n-(i+1)):Nat):Int)),(J:OkS (s1,(W,U))),(e:O=t),(hl:row.length=n),(Z:row.getD i 0=1)⟩:=Y;subst e;refine A8 (dF (by show ¬ ((i+1+(n-(i+1)):Nat):Int)<(n:Int);omega)) (Aa (Ab rfl (Ab trivial (Ab (by show O.length+1<=_;omega) (Aa ⟨wrD hi (by omega),J,?_,λa ha=>?_,λa ha=>?_⟩)))))
   .show(O++[row]).length=i+1
    rw[List.length_append,B];rfl
   .show((O++[row]).getD a []).length=n
    by_cases e:a=i
    .subst e;rw[<-B,Dt];exact hl
    .rw[AE (by omega)];exact hr a (by omega)
   .show((O++[row]).getD a []).getD a 0=1
    by_cases e:a=i
    .subst e;rw[<-B,Dt,B];exact Z
    .rw[AE (by omega)];exact ho a (by omega)
 .obtain⟨_,s1,W,U,t⟩:=v
  obtain⟨(rfl:_=(n:Int)),(J:OkS (s1,(W,U))),(B:t.length=n),(hr:∀a,a<n->(t.getD a []).length=n),(ho:∀a,a<n->one t a a)⟩:=Y;have A:Sq n t:=⟨B,hr⟩;refine A8 ltf (Aa (An (λh1=>Ad (p38 J) λw hw=>An (λ_=>?_) λ_=>?_) λ_=>?_))
  .have h1:(1:Int)<n:=B3 h1
   have w1:wrap .i64 ((n:Int)-1)=((n-1:Nat):Int):=by rw[Ah (by omega) (by omega)];omega
   rw[w1];refine Ab (VX A (by omega)) (Ad (p38 hw.2) λu hu=>?_)
   obtain⟨u0,u1⟩:=u;obtain⟨⟨(a1:0<=u0),(a2:0<(n:Int)->u0<(n:Int)),_⟩,hus⟩:=hu;have a2:=a2 (by omega)
   obtain⟨k,rfl⟩:∃k:Nat,u0=(k:Int):=⟨u0.toNat,by omega⟩
   have hk:k<n:=by omega
   refine Ab (KC A (by omega) hk) (wars hn (ZE A (by omega)) (λi hi=>?_) (λv=>rfl) (λv w=>rfl) (λv w u=>rfl) λt B=>Aa ⟨B,hus⟩)
   show en _ i i=1;rw[show en (t.set (((n-1:Nat):Int)).toNat ((t.getD (((n-1:Nat):Int)).toNat []).set ((k:Int)).toNat 1)) i i=_ from Aaj A (by omega) hk]
   split
   .rfl
   .exact ho i hi
  .exact wars hn A ho (λv=>rfl) (λv w=>rfl) (λv w u=>rfl) λt B=>Aa ⟨B,hw.2⟩
  .exact wars hn A ho (λv=>rfl) (λv w=>rfl) (λv w u=>rfl) λt B=>Aa ⟨B,J⟩
end
end Go.Ve.D

