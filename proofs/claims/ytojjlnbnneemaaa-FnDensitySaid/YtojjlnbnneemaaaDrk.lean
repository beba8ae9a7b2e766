/- Draws: places, partitions. -/
import Derived.Test.YtojjlnbnneemaaaDri
open Nat(not_lt_zero le_refl)
open List(length_append range mem_range mem_cons replicate)
set_option linter.all false
namespace Go.Ve.D
open Go Go.Ve
noncomputable section
variable{x:LI}{n:Nat}
theorem p157{v:Int}(E:x.length<=1048576):Tot (λr:Int=>(∃q:Nat,r=(q:Int)/\q<x.length/\x.getD q 0=v/\∀j,j<q->x.getD j 0≠v)\/(r<0/\∀i,i<x.length->x.getD i 0≠v)) (G157 (x,v)):=by
 delta G157 lw lt gd l0 sc nx bk
 refine Au (n:=x.length) (λi u=>u=(i:Int)/\∀j,j<i->x.getD j 0≠v) ⟨rfl,λj h=>absurd h (not_lt_zero j)⟩ (λi B u A=>?_) λu A=>?_
 .obtain⟨rfl,A⟩:=A
  refine A5 (ltD B) (Ab (Ac B) (An (λe=>H6 (Aa (.inl ⟨i,rfl,B,B3 e,A⟩))) λe=>Aa ⟨wrD B E,λj J=>?_⟩))
  by_cases h:j=i
  .subst h;exact JW e
  .exact A j (by omega)
 .obtain⟨rfl,A⟩:=A
  exact A8 ltf (Aa (Ab rfl (Aa (.inr ⟨by decide,A⟩))))
theorem p86{L:LL}{y:LI}(Y:L.length<=1048576)(E:∀i,i<L.length->(L.getD i []).length<=1048576):Tot (λr:Int=>(∃q:Nat,r=(q:Int)/\q<L.length)\/(r<0/\y∉L)) (G86 (L,y)):=by
 delta G86 lw lt gd li sc nx bk
 refine Au (n:=L.length) (λi u=>u=(i:Int)/\∀j,j<i->L.getD j []≠y) ⟨rfl,λj h=>absurd h (not_lt_zero j)⟩ (λi B u A=>?_) λu A=>?_
 .obtain⟨rfl,A⟩:=A
  refine A5 (ltD B) (Ab (Ac B) (Ad (V6 (a:=L.getD i []) (b:=y) (E i B)) λb W=>An (λe=>H6 (Aa (.inl ⟨i,rfl,B⟩))) λe=>Aa ⟨wrD B Y,λj Z=>?_⟩))
  by_cases h:j=i
  .subst h
   intro U;rw[W.2 U]at e;cases e
  .exact A j (by omega)
 .obtain⟨rfl,A⟩:=A
  refine A8 ltf (Aa (Ab rfl (Aa (.inr ⟨by decide,λJ=>?_⟩))))
  obtain⟨k,O,e⟩:=Lo [] J;exact A k O e
def BO{α:Type}{x:List α}{v d:α}:(x++[v]).getD x.length d=v:=by simp
theorem p135(hx:x.length<=1048576):Tot (λr:LI=>r.length=x.length/\(∀i,i<x.length->∃q:Nat,r.getD i 0=(q:Int)/\q<x.length)/\∀i j,i<x.length->j<x.length->x.getD i 0=x.getD j 0->r.getD i 0=r.getD j 0) (G135 x):=by
 delta G135 mA ln lw lt gd l0 sc nx bk cp
 refine Au (n:=x.length) (λi v=>v.1=(i:Int)/\v.2.1.length=i/\v.2.2.length<=i/\(∀j,j<i->∃q:Nat,v.2.1.getD j 0=(q:Int)/\q<v.2.2.length/\v.2.2.getD q 0=x.getD j 0)/\∀q A,q<v.2.2.length->A<v.2.2.length->v.2.2.getD q 0=v.2.2.getD A 0->q=A) ⟨rfl,rfl,le_refl _,λj h=>absurd h (not_lt_zero j),λq A h=>absurd h (not_lt_zero q)⟩ (λi E v Z=>?_) λv Z=>?_
 .obtain⟨Y,r,u⟩:=v
  obtain⟨(rfl:Y=(i:Int)),(O:r.length=i),(h2:u.length<=i),(J:∀j,j<i->∃q:Nat,r.getD j 0=(q:Int)/\q<u.length/\u.getD q 0=x.getD j 0),(W:∀q A,q<u.length->A<u.length->u.getD q 0=u.getD A 0->q=A)⟩:=Z;refine A5 (ltD E) (Ab (Ac E) (Ad (p157 (x:=u) (v:=x.getD i 0) (by omega)) λw hw=>?_))
  rcases hw with⟨q,rfl,U,hqe,_⟩|⟨hn,U⟩
  .refine A8 (dF (by omega)) (Ab (by show r.length+1<=_;omega) (Aa ⟨wrD E hx,by show(r++[_]).length=i+1;rw[length_append,O];rfl,(show u.length<=i+1 by omega),λj hj=>?_,W⟩))
   by_cases e:j=i
   .subst e
    refine⟨q,?_,U,hqe⟩;show(r++[(q:Int)]).getD j 0=_;rw[<-O];exact BO
   .obtain⟨A,g1,g2,B⟩:=J j (by omega)
    refine⟨A,?_,g2,B⟩;show(r++[(q:Int)]).getD j 0=_;rw[AE (by omega)];exact g1
  .refine A5 (dT hn) (Ab (Ac E) (Ab (by show u.length+1<=_;omega) (Ab (by show r.length+1<=_;omega) (Aa ⟨wrD E hx,by show(r++[_]).length=i+1;rw[length_append,O];rfl,by show(u++[_]).length<=i+1;rw[length_append];show u.length+1<=_;omega,λj hj=>?_,λq A g1 g2 B=>?_⟩))))
   .by_cases e:j=i
    .subst e
     refine⟨u.length,?_,by show u.length<(u++[_]).length;rw[length_append];exact Nat.lt_succ_self _,BO⟩
     show(r++[(u.length:Int)]).getD j 0=_;rw[<-O];exact BO
    .obtain⟨A,g1,g2,B⟩:=J j (by omega)
     refine⟨A,?_,by show A<(u++[_]).length;rw[length_append];omega,?_⟩
     .show(r++[(u.length:Int)]).getD j 0=_
      rw[AE (by omega)];exact g1
     .show(u++[_]).getD A 0=_
      rw[AE g2];exact B
   .have g1:q<u.length+1:=by have:q<(u++[_]).length:=g1;rw[length_append]at this;exact this
    have g2:A<u.length+1:=by have:A<(u++[_]).length:=g2;rw[length_append]at this;exact this
    have B:(u++[x.getD i 0]).getD q 0=(u++[x.getD i 0]).getD A 0:=B;by_cases e:q=u.length
    .by_cases e':A=u.length
     .omega
     .rw[e,BO,AE (by omega)]at B
      exact absurd B.symm (U A (by omega))
    .by_cases e':A=u.length
     .rw[e',BO,AE (by omega)]at B
      exact absurd B (U q (by omega))
     .rw[AE (by omega),AE (by omega)]at B
      exact W q A (by omega) (by omega) B
 .obtain⟨Y,r,u⟩:=v
  obtain⟨(h0:Y=(x.length:Int)),(O:r.length=x.length),(h2:u.length<=x.length),(J:∀j,j<x.length->∃q:Nat,r.getD j 0=(q:Int)/\q<u.length/\u.getD q 0=x.getD j 0),(W:∀q A,q<u.length->A<u.length->u.getD q 0=u.getD A 0->q=A)⟩:=Z;subst h0;refine A8 ltf (Aa (Ab rfl (Aa ⟨O,λi E=>?_,λi j E hj he=>?_⟩)))
  .obtain⟨q,g1,g2,_⟩:=J i E
   exact⟨q,g1,by omega⟩
  .obtain⟨q,g1,g2,B⟩:=J i E
   obtain⟨A,k1,k2,k3⟩:=J j hj;show r.getD i 0=r.getD j 0;rw[g1,k1,W q A g2 k2 (by rw[B,k3,he])]
def Dv(n:Nat)(ps:LL):Prop:=ps.length<=65536/\∀k,k<ps.length->2<=(ps.getD k []).length/\∃a b:Nat,(ps.getD k []).getD 0 0=(a:Int)/\(ps.getD k []).getD 1 0=(b:Int)/\a<n/\b<n
def Aaz(n:Nat)(ps:LL)(r:LI):Prop:=r.length=n/\(∀i,i<n->∃q:Nat,r.getD i 0=(q:Int)/\q<n)/\∀k,k<ps.length->r.getD ((ps.getD k []).getD 0 0).toNat 0=r.getD ((ps.getD k []).getD 1 0).toNat 0
theorem p88{ps:LL}(hn:n<=65536)(hp:Dv n ps):Tot (Aaz n ps) (G88 ((n:Int),ps)):=by
 delta G88 mA lw an l2 lt gd li l0 sc nx bk cp
 refine Au (n:=n) (λi v=>v.1=(i:Int)/\v.2.length=i) ⟨rfl,rfl⟩ (λi hi v O=>?_) λv O=>?_
 .obtain⟨J,l⟩:=v
  obtain⟨(rfl:J=(i:Int)),(h1:l.length=i)⟩:=O;exact A5 (ltD hi) (Ab (by show l.length+1<=_;omega) (Aa ⟨wrD hi (by omega),by show(l++[_]).length=i+1;rw[length_append,h1];rfl⟩))
 obtain⟨J,l0⟩:=v;obtain⟨(h0:J=(n:Int)),(hl0:l0.length=n)⟩:=O;subst h0;refine A8 ltf (Aa (Ab rfl ?_));have h65:=hp.1;refine Au (n:=ps.length) (λk v=>v.1=(k:Int)/\v.2.length=n/\∀k',k'<k->v.2.getD ((ps.getD k' []).getD 0 0).toNat 0=v.2.getD ((ps.getD k' []).getD 1 0).toNat 0) ⟨rfl,hl0,λk h=>absurd h (not_lt_zero k)⟩ (λk W v O=>?_) λv O=>?_
 .obtain⟨J,l⟩:=v
  obtain⟨(rfl:J=(k:Int)),(hl:l.length=n),(he:∀k',k'<k->l.getD ((ps.getD k' []).getD 0 0).toNat 0=l.getD ((ps.getD k' []).getD 1 0).toNat 0)⟩:=O;obtain⟨h2,a,b,ha,hb,han,hbn⟩:=hp.2 k W;have i0:(0:Int)<=0/\(0:Int)<(((ps.getD k []).length:Nat):Int):=by omega
  have i1:(0:Int)<=1/\(1:Int)<(((ps.getD k []).length:Nat):Int):=by omega
  have ia:0<=(ps.getD k []).getD 0 0/\(ps.getD k []).getD 0 0<(l.length:Int):=by rw[ha];omega
  have ib:0<=(ps.getD k []).getD 1 0/\(ps.getD k []).getD 1 0<(l.length:Int):=by rw[hb];omega
  refine A5 (ltD W) (Ab (Ac W) (Ab i0 (Ab ia (Ab (Ac W) (Ab i1 (Ab ib ?_))))));obtain⟨A,hA⟩:∃A,A=l.getD ((ps.getD k []).getD 0 0).toNat 0:=⟨_,rfl⟩;obtain⟨B,hB⟩:∃B,B=l.getD ((ps.getD k []).getD 1 0).toNat 0:=⟨_,rfl⟩
  have fin:∀u:LI,u.length=n->(∀j,j<n->u.getD j 0=if l.getD j 0=B then A else l.getD j 0)->∀k',k'<k+1->u.getD ((ps.getD k' []).getD 0 0).toNat 0=u.getD ((ps.getD k' []).getD 1 0).toNat 0:=by
   intro u E Z k' hk';obtain⟨_,a',b',ha',hb',han',hbn'⟩:=hp.2 k' (by omega)
   have e1:=Z a' han';have e2:=Z b' hbn';rw[ha',hb',tNC,tNC,e1,e2];by_cases e:k'=k
   .subst e
    have fa:l.getD a' 0=A:=by rw[hA,ha',tNC]
    have fb:l.getD b' 0=B:=by rw[hB,hb',tNC]
    rw[fa,fb,if_pos rfl];split<;>rfl
   .have:=he k' (by omega)
    rw[ha',hb',tNC,tNC]at this;rw[this]
  refine Au (n:=n) (λi v=>v.1=(i:Int)/\v.2.length=n/\∀j,j<n->v.2.getD j 0=if j<i/\l.getD j 0=B then A else l.getD j 0) ⟨rfl,hl,λj _=>by rw[if_neg λh=>not_lt_zero j h.1]⟩ (λi hi v O=>?_) λv O=>?_
  .obtain⟨J,u⟩:=v
   obtain⟨(rfl:J=(i:Int)),(E:u.length=n),(Z:∀j,j<n->u.getD j 0=if j<i/\l.getD j 0=B then A else l.getD j 0)⟩:=O
   have g1:decide ((i:Int)<(u.length:Int))=true:=by rw[E];exact ltD hi
   have gi:(0:Int)<=(i:Int)/\(i:Int)<(u.length:Int):=by omega
   refine Bh (v:=!decide (A=B)) (by rw[hA,hB];exact(show(bif decide _ then _ else _)=_ from by rw[g1];rfl)) (An (λU=>Ab gi ?_) λU=>?_)
   .have ei:u.getD i 0=l.getD i 0:=by rw[Z i hi,if_neg λh=>Nat.lt_irrefl i h.1]
    refine An (λe=>Ab gi (Aa ⟨wrD hi (by omega),by show(u.set _ _).length=n;rw[List.length_set];exact E,λj Y=>?_⟩)) λe=>Aa ⟨wrD hi (by omega),E,λj Y=>?_⟩
    .have e:u.getD i 0=B:=by rw[hB];exact B3 e
     show(u.set i (l.getD ((ps.getD k []).getD 0 0).toNat 0)).getD j 0=_;rw[<-hA];by_cases ej:j=i
     .subst ej
      rw[if_pos ⟨Nat.lt_succ_self _,by rw[<-ei];exact e⟩]
      simp[E,Y]
     .have:(u.set i A).getD j 0=u.getD j 0:=by simp only[gDE,List.getElem?_set_ne (Ne.symm ej)]
      rw[this,Z j Y]
      have e3:(j<i/\l.getD j 0=B)=(j<i+1/\l.getD j 0=B):=by
       refine propext ⟨λh=>⟨by omega,h.2⟩,λh=>⟨by omega,h.2⟩⟩
      simp only[e3]
    .have e:¬u.getD i 0=B:=by rw[hB];exact JW e
     show u.getD j 0=_;rw[Z j Y];by_cases ej:j=i
     .subst ej
      rw[if_neg λh=>Nat.lt_irrefl j h.1,if_neg λh=>e (by rw[ei];exact h.2)]
     .have e3:(j<i/\l.getD j 0=B)=(j<i+1/\l.getD j 0=B):=by
       refine propext ⟨λh=>⟨by omega,h.2⟩,λh=>⟨by omega,h.2⟩⟩
      simp only[e3]
   .have U:A=B:=by
     rw[Bool.not_eq_false']at U;exact B3 U
    refine Aa (Ab rfl (Aa ⟨wrD W (by omega),E,fin u E λj Y=>?_⟩))
    rw[Z j Y,U];split<;>split<;>simp_all
  .obtain⟨J,u⟩:=v
   obtain⟨(h0:J=(n:Int)),(E:u.length=n),(Z:∀j,j<n->u.getD j 0=if j<n/\l.getD j 0=B then A else l.getD j 0)⟩:=O
   subst h0;refine Bh (v:=false) (by show(bif decide ((n:Int)<(u.length:Int))then _ else some false)=_;rw[E,ltf];rfl) (A8 rfl (Aa (Ab rfl (Aa ⟨wrD W (by omega),E,fin u E λj Y=>?_⟩))))
   rw[Z j Y];simp[Y]
 .obtain⟨J,l⟩:=v
  obtain⟨(h0:J=(ps.length:Int)),(hl:l.length=n),(he:∀k',k'<ps.length->l.getD ((ps.getD k' []).getD 0 0).toNat 0=l.getD ((ps.getD k' []).getD 1 0).toNat 0)⟩:=O;subst h0;refine A8 ltf (Aa (Ab rfl (Ad (p135 (x:=l) (by omega)) λr hr=>Aa ⟨by rw[<-hl];exact hr.1,by rw[<-hl];exact hr.2.1,λk W=>?_⟩)))
  obtain⟨_,a,b,ha,hb,han,hbn⟩:=hp.2 k W;have:=he k W;rw[ha,hb,tNC,tNC]at this⊢;exact hr.2.2 a b (by omega) (by omega) this
theorem p163(hx:x.length<=65536):Tot (λL:LL=>L.length=x.length/\∀i,i<x.length->∃q:Nat,L.getD i []=[(q:Int),(i:Int)]/\q<x.length/\x.getD q 0=x.getD i 0/\∀k,k<q->x.getD k 0≠x.getD i 0) (G163 x):=by
 delta G163 mB lw lt gd l0 sc nx bk cp
 refine Au (n:=x.length) (λi v=>v.1=(i:Int)/\v.2.length=i/\∀j,j<i->∃q:Nat,v.2.getD j []=[(q:Int),(j:Int)]/\q<x.length/\x.getD q 0=x.getD j 0/\∀k,k<q->x.getD k 0≠x.getD j 0) ⟨rfl,rfl,λj h=>absurd h (not_lt_zero j)⟩ (λi u v E=>?_) λv E=>?_
 .obtain⟨B,L⟩:=v
  obtain⟨(rfl:B=(i:Int)),(A:L.length=i),(W:∀j,j<i->∃q:Nat,L.getD j []=[(q:Int),(j:Int)]/\q<x.length/\x.getD q 0=x.getD j 0/\∀k,k<q->x.getD k 0≠x.getD j 0)⟩:=E;refine A5 (ltD u) (Ab (Ac u) (Ad (p157 (x:=x) (v:=x.getD i 0) (by omega)) λw Z=>?_))
  rcases Z with⟨q,rfl,U,O,J⟩|⟨_,U⟩
  .refine Ab trivial (Ab (by show L.length+1<=_;omega) (Aa ⟨wrD u (by omega),by show(L++[_]).length=i+1;rw[length_append,A];rfl,λj hj=>?_⟩))
   by_cases e:j=i
   .subst e
    refine⟨q,?_,U,O,J⟩;show(L++[[(q:Int),(j:Int)]]).getD j []=_;rw[<-A];exact BO
   .obtain⟨Y,g1,g2⟩:=W j (by omega)
    refine⟨Y,?_,g2⟩;show(L++[[(q:Int),(i:Int)]]).getD j []=_;rw[AE (by omega)];exact g1
  .exact absurd rfl (U i u)
 .obtain⟨B,L⟩:=v
  obtain⟨(h0:B=(x.length:Int)),A,W⟩:=E;subst h0;exact A8 ltf (Aa (Ab rfl (Aa ⟨A,W⟩)))
def clN(n:Nat)(p:LI):Nat:=((range n).filter λi=>(range i).all λj=>!decide (p.getD j 0=p.getD i 0)).length
def clN_lt{p r:LI}(h:∀i j,i<n->j<n->p.getD i 0=p.getD j 0->r.getD i 0=r.getD j 0){u v:Nat}(hu:u<n)(hv:v<n)(hne:p.getD u 0≠p.getD v 0)(he:r.getD u 0=r.getD v 0):clN n r<clN n p:=by
 have first:∀w,w<n->∃w',w'<=w/\p.getD w' 0=p.getD w 0/\∀j,j<w'->p.getD j 0≠p.getD w' 0:=by
  intro w
  induction w using Nat.strongRecOn with
  |ind w W=>
   intro hw;by_cases U:∀j,j<w->p.getD j 0≠p.getD w 0
   .exact⟨w,le_refl _,rfl,U⟩
   .obtain⟨j,A⟩:=Classical.not_forall.1 U
    obtain⟨hjw,E⟩:=Classical.not_imp.1 A;have E:p.getD j 0=p.getD w 0:=Classical.not_not.1 E;obtain⟨w',a1,a2,a3⟩:=W j hjw (by omega)
    exact⟨w',by omega,a2.trans E,a3⟩
 have key:∃i,i<n/\((range i).all λj=>!decide (p.getD j 0=p.getD i 0))=true/\((range i).all λj=>!decide (r.getD j 0=r.getD i 0))=false:=by
  obtain⟨J,u1,u2,u3⟩:=first u hu
  obtain⟨v',v1,v2,v3⟩:=first v hv
  have B:r.getD J 0=r.getD v' 0:=((h J u (by omega) hu u2).trans he).trans (h v v' hv (by omega) v2.symm)
  have Z:p.getD J 0≠p.getD v' 0:=λe=>hne (by rw[<-u2,<-v2,e])
  have mk:∀a b,a<b->b<n->(∀j,j<b->p.getD j 0≠p.getD b 0)->r.getD a 0=r.getD b 0->∃i,i<n/\((range i).all λj=>!decide (p.getD j 0=p.getD i 0))=true/\((range i).all λj=>!decide (r.getD j 0=r.getD i 0))=false:=by
   intro a b hab hb U Y;refine⟨b,hb,aET.2 λj A=>?_,?_⟩
   .rw[dF (U j (mem_range.1 A))];rfl
   .refine Bool.eq_false_iff.2 λht=>?_
    have:=aET.1 ht a (mem_range.2 hab);rw[dT Y]at this;cases this
  rcases Nat.lt_trichotomy J v' with e|e|e
  .exact mk J v' e (by omega) v3 B
  .exact absurd (by rw[e]) Z
  .exact mk v' J e (by omega) u3 B.symm
 obtain⟨i,hi,k1,k2⟩:=key
 have sub:∀j,j<n->((range j).all λk=>!decide (r.getD k 0=r.getD j 0))=true->((range j).all λk=>!decide (p.getD k 0=p.getD j 0))=true:=by
  intro j A B;refine aET.2 λk hk=>?_
  have hkj:=mem_range.1 hk;have:=aET.1 B k hk;rw[Bool.not_eq_true']at this;have:=of_decide_eq_false this;rw[dF λe=>this (h k j (by omega) A e)];rfl
 have gen:∀(l:List Nat),(∀j∈l,j<n)->(l.filter λi=>(range i).all λj=>!decide (r.getD j 0=r.getD i 0)).length<=(l.filter λi=>(range i).all λj=>!decide (p.getD j 0=p.getD i 0)).length/\(i∈l->(l.filter λi=>(range i).all λj=>!decide (r.getD j 0=r.getD i 0)).length<(l.filter λi=>(range i).all λj=>!decide (p.getD j 0=p.getD i 0)).length):=by
  intro l
  induction l with
  |nil=>intro _;exact⟨le_refl _,λh=>by cases h⟩
  |cons a l W=>
   intro hl;obtain⟨O,i2⟩:=W λj A=>hl j (mCM _ A)
   rw[List.filter_cons,List.filter_cons];cases B:(range a).all λj=>!decide (r.getD j 0=r.getD a 0)with
   |true=>
    rw[sub a (hl a (List.mem_cons_self ..)) B];refine⟨Nat.succ_le_succ O,λhm=>?_⟩
    rcases mem_cons.1 hm with e|e
    .subst e;rw[B]at k2;cases k2
    .exact Nat.succ_lt_succ (i2 e)
   |false=>
    cases hp:(range a).all λj=>!decide (p.getD j 0=p.getD a 0)with
    |true=>exact⟨Nat.le_succ_of_le O,λ_=>Nat.lt_succ_of_le O⟩
    |false=>
     refine⟨O,λhm=>?_⟩
     rcases mem_cons.1 hm with e|e
     .subst e;rw[hp]at k1;cases k1
     .exact i2 e
 exact(gen (range n) λj A=>mem_range.1 A).2 (mem_range.2 hi)
end
end Go.Ve.D


namespace Go.Ve.D
open Go Go.Ve
noncomputable section
variable{c:Ca}{ob:LI}{L:LLL}{bd i m n:Nat}{K:Nat->Nat->Prop}{α:Type}
def KE{x:List α}{v d:α}(h:i<x.length):(x.set i v).getD i d=v:=by simp[h]
def Jk{x:List α}{j:Nat}{v d:α}(h:j≠i):(x.set i v).getD j d=x.getD j d:=by simp only[gDE,List.getElem?_set_ne (Ne.symm h)]
structure Fre(c:Ca)(n m:Nat)(f:Sf):Prop where
 sh:(f.1,f.2.1,f.2.2.1,f.2.2.2.1,f.2.2.2.2.1)=c
 ls:f.2.2.2.2.2.1.length=n
 la:f.2.2.2.2.2.2.length=m
 sz:∀x,x<n->∃s:Nat,f.2.2.2.2.2.1.getD x 0=(s:Int)/\s<=8000
 ac:∀a x y s t:Nat,a<m->aF c a=(x:Int)->aT c a=(y:Int)->f.2.2.2.2.2.1.getD x 0=(s:Int)->f.2.2.2.2.2.1.getD y 0=(t:Int)->(f.2.2.2.2.2.2.getD a []).length=s/\∀e,e<s->∃d:Nat,(f.2.2.2.2.2.2.getD a []).getD e 0=(d:Int)/\d<t
def LsI(c:Ca)(m:Nat)(ob:LI)(n:Nat)(K:Nat->Nat->Prop)(bd:Nat)(L:LLL):Prop:=L.length=n/\(∀y,y<n->(L.getD y []).length<=bd)/\∀y,y<n->∀e,e∈L.getD y []↔ ∃k h:Nat,K k h/\k<ob.length/\h<m/\e=[(k:Int),(h:Int)]/\aF c h=ob.getD k 0/\aT c h=(y:Int)
theorem LsI.congr{K':Nat->Nat->Prop}{u:Nat}(h:LsI c m ob n K bd L)(E:bd<=u)(B:∀k h,k<ob.length->h<m->aF c h=ob.getD k 0->(K k h↔K' k h)):LsI c m ob n K' u L:=by
 obtain⟨U,O,J⟩:=h;refine⟨U,λy A=>Nat.le_trans (O y A) E,λy A e=>(J y A e).trans ⟨?_,?_⟩⟩
 .rintro ⟨k,i,a,b,d,g⟩
  exact⟨k,i,(B k i b d g.2.1).1 a,b,d,g⟩
 .rintro ⟨k,i,a,b,d,g⟩
  exact⟨k,i,(B k i b d g.2.1).2 a,b,d,g⟩
theorem LsI.add(h:LsI c m ob n K bd L){k y:Nat}(O:k<ob.length)(U:i<m)(W:aF c i=ob.getD k 0)(B:aT c i=(y:Int))(Z:y<n):LsI c m ob n (λk' i'=>K k' i'\/(k'=k/\i'=i)) (bd+1) (L.set y (L.getD y []++[[(k:Int),(i:Int)]])):=by
 obtain⟨Y,J,E⟩:=h;refine⟨by rw[List.length_set];exact Y,λz A=>?_,λz A e=>?_⟩
 .by_cases u:z=y
  .subst u
   rw[KE (by omega),length_append]
   have:=J z A;show(L.getD z []).length+1<=_;omega
  .rw[Jk u];have:=J z A;omega
 .by_cases u:z=y
  .subst u
   rw[KE (by omega),List.mem_append,List.mem_singleton,E z A]
   constructor
   .rintro (⟨k',i',a,g⟩|rfl)
    .exact⟨k',i',.inl a,g⟩
    .exact⟨k,i,.inr ⟨rfl,rfl⟩,O,U,rfl,W,B⟩
   .rintro ⟨k',i',a|⟨rfl,rfl⟩,g⟩
    .exact .inl ⟨k',i',a,g⟩
    .exact .inr g.2.2.1
  .rw[Jk u,E z A]
   constructor
   .rintro ⟨k',i',a,g⟩
    exact⟨k',i',.inl a,g⟩
   .rintro ⟨k',i',a|⟨rfl,rfl⟩,g⟩
    .exact⟨k',i',a,g⟩
    .exact absurd (g.2.2.2.2.symm.trans B) (λe=>u (by omega))
def p87(u:Sp c n m){f g:Nat}(A:f<m)(B:g<m):G87 (c,((f:Int),(g:Int)))=some (aC c f g):=by
 delta G87 l2 g2 q4 gd
 refine ifD (by show(0:Int)<=(f:Int)/\(f:Int)<(c.2.2.2.2.length:Int);rw[u.lc];omega) (ifD ?_ rfl)
 show(0:Int)<=(g:Int)/\(g:Int)<((c.2.2.2.2.getD f []).length:Int);rw[u.lr f A];omega
theorem p150(Z:Sp c n m)(hn:n<=1000)(hm:m<=1000)(ho:ob.length<=8):Tot (Fre c n m) (G150 (c,ob)):=by
 have hob:=Z.ob;have iF:∀{i:Nat},i<m->(0:Int)<=(i:Int)/\(i:Int)<(c.2.1.length:Int):=λh=>by rw[Z.lf];omega
 have iT:∀{i:Nat},i<m->(0:Int)<=(i:Int)/\(i:Int)<(c.2.2.1.length:Int):=λh=>by rw[Z.lt];omega
 have tF:∀{i:Nat},i<m->decide ((i:Int)<(c.2.1.length:Int))=true:=λh=>by rw[Z.lf];exact ltD h
 have fF:decide ((m:Int)<(c.2.1.length:Int))=false:=by rw[Z.lf];exact ltf
 have W:∀{a:Int}{x:Nat},a=(x:Int)->a.toNat=x:=λh=>by omega
 delta G150 mA mB ln lw l2 k4 k5 k6 k7 k8 lt gd li l0 q4 q9 sc nx bk cp
 refine Ab (by show(0:Int)<=c.1/\c.1<=c.1/\24*c.1<=_/\c.1<=_;omega) ?_
 refine Au (n:=ob.length) (λk v=>v.1=(k:Int)/\LsI c m ob n (λk' _=>k'<k) (k*m) v.2.2.2.2.2.2.2.2) ⟨rfl,by show(replicate _ _).length=n;rw[List.length_replicate,hob,tNC],λy U=>?_,λy U e=>?_⟩ (λk hk v E=>?_) λv E=>?_
 .show((replicate c.1.toNat ([]:LL)).getD y []).length<=_
  rw[hob,tNC];simp[U]
 .show e∈(replicate c.1.toNat ([]:LL)).getD y []↔_
  rw[hob,tNC];simp[U]
 .obtain⟨B,z1,z2,z3,z4,z5,z6,z7,L⟩:=v
  obtain⟨(rfl:B=(k:Int)),(J:LsI c m ob n (λk' _=>k'<k) (k*m) L)⟩:=E
  refine A5 (ltD hk) (Au (n:=m) (λi v=>v.1=(i:Int)/\LsI c m ob n (λk' i'=>k'<k\/(k'=k/\i'<i)) (k*m+i) v.2.2.2.2.2.2.2.2) ⟨rfl,J.congr (le_refl _) λk' i' _ _ _=>⟨.inl,λh=>h.elim id λh=>absurd h.2 (not_lt_zero i')⟩⟩ (λi Y v E=>?_) λv E=>?_)
  .obtain⟨B,z1,z2,z3,z4,z5,z6,z7,L⟩:=v
   obtain⟨(rfl:B=(i:Int)),(J:LsI c m ob n (λk' i'=>k'<k\/(k'=k/\i'<i)) (k*m+i) L)⟩:=E
   obtain⟨y,U,O⟩:=Z.to i Y;have u:c.2.2.1.getD i 0=(y:Int):=O;have hkm:k*m<=8*1000:=Nat.mul_le_mul (by omega) hm
   have iL:(0:Int)<=c.2.2.1.getD i 0/\c.2.2.1.getD i 0<(L.length:Int):=by rw[u,J.1];omega
   refine A5 (tF Y) (Ab (iF Y) (Ab (Ac hk) (An (λe=>Ab (iT Y) (Ab (iT Y) (Ab iL (Ab ⟨⟨iL,⟨le_refl _,le_refl _⟩,trivial⟩,?_⟩ (Aa ⟨wrD Y (by omega),?_⟩))))) λe=>Aa ⟨wrD Y (by omega),?_⟩)))
   .show(L.getD (c.2.2.1.getD i 0).toNat []).length+1<=_
    rw[W u];have:=J.2.1 y U;omega
   .show LsI c m ob n _ _ (L.set (c.2.2.1.getD i 0).toNat (L.getD (c.2.2.1.getD i 0).toNat []++[[(k:Int),(i:Int)]]))
    rw[W u];refine(J.add hk Y (B3 e) O U).congr (by omega) λk' i' _ _ _=>?_
    constructor
    .rintro ((h|h)|h)
     .exact .inl h
     .exact .inr ⟨h.1,by omega⟩
     .exact .inr ⟨h.1,by omega⟩
    .rintro (h|h)
     .exact .inl (.inl h)
     .by_cases e:i'=i
      .exact .inr ⟨h.1,e⟩
      .exact .inl (.inr ⟨h.1,by omega⟩)
   .have e:¬aF c i=ob.getD k 0:=JW e
    refine J.congr (by omega) λk' i' _ _ hf=>?_
    constructor
    .rintro (h|h)
     .exact .inl h
     .exact .inr ⟨h.1,by omega⟩
    .rintro (h|h)
     .exact .inl h
     .by_cases e':i'=i
      .rw[h.1,e']at hf;exact absurd hf e
      .exact .inr ⟨h.1,by omega⟩
  .obtain⟨B,z1,z2,z3,z4,z5,z6,z7,L⟩:=v
   obtain⟨(h0:B=(m:Int)),(J:LsI c m ob n (λk' i'=>k'<k\/(k'=k/\i'<m)) (k*m+m) L)⟩:=E
   subst h0;refine A8 fF (Aa (Ab rfl (Aa ⟨wrD hk (by omega),J.congr (by rw[Nat.succ_mul];exact le_refl _) λk' i' _ hi' _=>?_⟩)))
   constructor
   .rintro (h|h)<;>omega
   .intro h
    by_cases e:k'=k
    .exact .inr ⟨e,hi'⟩
    .exact .inl (by omega)
 obtain⟨B,z1,z2,z3,z4,z5,z6,z7,L⟩:=v;obtain⟨(h0:B=(ob.length:Int)),(J:LsI c m ob n (λk' _=>k'<ob.length) (ob.length*m) L)⟩:=E
 subst h0;have hom:ob.length*m<=8*1000:=Nat.mul_le_mul ho hm;have hbd:∀y,y<n->(L.getD y []).length<=8000:=λy U=>Nat.le_trans (J.2.1 y U) hom
 refine A8 ltf (Aa (Ab rfl (Bh (Acq Z hn hm) ?_)));refine Au (n:=n) (λi v=>v.1=(i:Int)/\v.2.2.2.2.2.2.2.2.1=L/\(v.2.2.2.2.2.2.2.2.2.1,v.2.2.2.2.2.2.2.2.2.2.1,v.2.2.2.2.2.2.2.2.2.2.2.1,v.2.2.2.2.2.2.2.2.2.2.2.2.1,v.2.2.2.2.2.2.2.2.2.2.2.2.2.1)=c/\v.2.2.2.2.2.2.2.2.2.2.2.2.2.2.2=[]/\v.2.2.2.2.2.2.2.2.2.2.2.2.2.2.1.length=i/\∀j,j<i->v.2.2.2.2.2.2.2.2.2.2.2.2.2.2.1.getD j 0=((L.getD j []).length:Int)) ⟨rfl,rfl,rfl,rfl,rfl,λj h=>absurd h (not_lt_zero j)⟩ (λi Y v E=>?_) λv E=>?_
 .obtain⟨B,z1,z2,z3,z4,z5,z6,z7,L',f1,f2,f3,f4,f5,S,A⟩:=v
  obtain⟨(rfl:B=(i:Int)),(h1:L'=L),(h2:(f1,f2,f3,f4,f5)=c),(h3:A=[]),(h4:S.length=i),(h5:∀j,j<i->S.getD j 0=((L.getD j []).length:Int))⟩:=E;subst h1 h3;have iL:(0:Int)<=(i:Int)/\(i:Int)<(L'.length:Int):=by rw[J.1];omega
  refine A5 (by show decide ((i:Int)<(L'.length:Int))=true;rw[J.1];exact ltD Y) (Ab iL (Ab (by show S.length+1<=_;omega) (Aa ⟨wrD Y (by omega),rfl,h2,rfl,by show(S++[_]).length=i+1;rw[length_append,h4];rfl,λj hj=>?_⟩)))
  show(S++[((L'.getD i []).length:Int)]).getD j 0=_;by_cases e:j=i
  .subst e;rw[<-h4];exact BO
  .rw[AE (by omega)];exact h5 j (by omega)
 obtain⟨B,z1,z2,z3,z4,z5,z6,z7,L',f1,f2,f3,f4,f5,S,A⟩:=v;obtain⟨(h0:B=(n:Int)),(h1:L'=L),(h2:(f1,f2,f3,f4,f5)=c),(h3:A=[]),(h4:S.length=n),(h5:∀j,j<n->S.getD j 0=((L.getD j []).length:Int))⟩:=E;subst h0 h1 h3;refine A8 (by show decide ((n:Int)<(L'.length:Int))=false;rw[J.1];exact ltf) (Aa (Ab rfl ?_))
 refine Au (n:=m) (λa v=>v.1=(a:Int)/\v.2.2.2.2.2.2.2.2.1=L'/\(v.2.2.2.2.2.2.2.2.2.1,v.2.2.2.2.2.2.2.2.2.2.1,v.2.2.2.2.2.2.2.2.2.2.2.1,v.2.2.2.2.2.2.2.2.2.2.2.2.1,v.2.2.2.2.2.2.2.2.2.2.2.2.2.1)=c/\v.2.2.2.2.2.2.2.2.2.2.2.2.2.2.1=S/\v.2.2.2.2.2.2.2.2.2.2.2.2.2.2.2.length=a/\∀b,b<a->∀x y:Nat,aF c b=(x:Int)->aT c b=(y:Int)->(v.2.2.2.2.2.2.2.2.2.2.2.2.2.2.2.getD b []).length=(L'.getD x []).length/\∀e,e<(L'.getD x []).length->∃d:Nat,(v.2.2.2.2.2.2.2.2.2.2.2.2.2.2.2.getD b []).getD e 0=(d:Int)/\d<(L'.getD y []).length) ⟨rfl,rfl,h2,rfl,rfl,λj h=>absurd h (not_lt_zero j)⟩ (λa ha v E=>?_) λv E=>?_
 .obtain⟨B,y1,y2,y3,y4,y5,y6,y7,L2,g1,g2,g3,g4,g5,S2,A⟩:=v
  obtain⟨(rfl:B=(a:Int)),(k1:L2=L'),(k2:(g1,g2,g3,g4,g5)=c),(k3:S2=S),(k4:A.length=a),(k5:∀b,b<a->∀x y:Nat,aF c b=(x:Int)->aT c b=(y:Int)->(A.getD b []).length=(L'.getD x []).length/\∀e,e<(L'.getD x []).length->∃d:Nat,(A.getD b []).getD e 0=(d:Int)/\d<(L'.getD y []).length)⟩:=E;subst k1 k3;obtain⟨x,hx,hfx⟩:=Z.fr a ha;obtain⟨y,U,O⟩:=Z.to a ha;have hfx':c.2.1.getD a 0=(x:Int):=hfx;have u:c.2.2.1.getD a 0=(y:Int):=O;have iX:(0:Int)<=c.2.1.getD a 0/\c.2.1.getD a 0<(L2.length:Int):=by rw[hfx',J.1];omega
  have iY:(0:Int)<=c.2.2.1.getD a 0/\c.2.2.1.getD a 0<(L2.length:Int):=by rw[u,J.1];omega
  refine A5 (tF ha) (Ab (iF ha) (Ab iX (Ab (iT ha) (Ab iY ?_))));refine Au (n:=(L2.getD x []).length) (λe v=>v.1=(x:Int)/\v.2.1=(y:Int)/\v.2.2.1=(e:Int)/\v.2.2.2.length=e/\∀j,j<e->∃d:Nat,v.2.2.2.getD j 0=(d:Int)/\d<(L2.getD y []).length) ⟨by show(((c.2.1.getD a 0).toNat:Nat):Int)=_;rw[W hfx'],by show(((c.2.2.1.getD a 0).toNat:Nat):Int)=_;rw[W u],rfl,rfl,λj h=>absurd h (not_lt_zero j)⟩ (λe he v E=>?_) λv E=>?_
  .obtain⟨B,v2,v3,l⟩:=v
   obtain⟨(q1:B=(x:Int)),(q2:v2=(y:Int)),(q3:v3=(e:Int)),(q4:l.length=e),(q5:∀j,j<e->∃d:Nat,l.getD j 0=(d:Int)/\d<(L2.getD y []).length)⟩:=E;subst q1 q2 q3;have hmem:(L2.getD x []).getD e []∈L2.getD x []:=CB he;obtain⟨k,h,hk0,hk,hh,hee,hfh,hth⟩:=(J.2.2 x hx _).1 hmem;obtain⟨t,ht,hct,hft,htt⟩:=Z.cp h a hh ha (hth.trans hfx.symm);have in0:(0:Int)<=0/\(0:Int)<((((L2.getD x []).getD e []).length:Nat):Int):=by rw[hee];exact(show(0:Int)<=0/\(0:Int)<2 by decide)
   have in1:(0:Int)<=1/\(1:Int)<((((L2.getD x []).getD e []).length:Nat):Int):=by rw[hee];exact(show(0:Int)<=1/\(1:Int)<2 by decide)
   refine A5 (ltD he) (Ab (Ac he) (Ab in0 (Ab (Ac he) (Ab in1 ?_))));refine Bh (v:=(t:Int)) ?_ ?_
   .show G87 (c,((((L2.getD x []).getD e []).getD 1 0),(a:Int)))=_
    rw[hee];exact(p87 Z hh ha).trans (congrArg some hct)
   have hin:[(k:Int),(t:Int)]∈L2.getD y []:=(J.2.2 y U _).2 ⟨k,t,hk,hk,ht,rfl,hft.trans hfh,htt.trans O⟩
   have hpl:Tot (λr:Int=>(∃q:Nat,r=(q:Int)/\q<(L2.getD y []).length)\/(r<0/\[(k:Int),(t:Int)]∉L2.getD y [])) (G86 (L2.getD y [],[(k:Int),(t:Int)])):=p86 (by have:=hbd y U;omega) λi Y=>by
    obtain⟨k',h',_,_,_,e',_⟩:=(J.2.2 y U _).1 (CB (d:=[]) Y);rw[e'];show 2<=_;omega
   refine Ad (P:=λr:Int=>∃q:Nat,r=(q:Int)/\q<(L2.getD y []).length) (Yf (P:=λr:Int=>(∃q:Nat,r=(q:Int)/\q<(L2.getD y []).length)\/(r<0/\[(k:Int),(t:Int)]∉L2.getD y [])) ?_ λr hr=>hr.resolve_right λh=>h.2 hin) λr hr=>Ab (by show l.length+1<=_;have:=hbd x hx;omega) (Aa ⟨rfl,rfl,wrD he (by have:=hbd x hx;omega),by show(l++[_]).length=e+1;rw[length_append,q4];rfl,λj hj=>?_⟩)
   .show Tot _ (G86 (L2.getD y [],(((L2.getD x []).getD e []).getD 0 0)::[(t:Int)]))
    rw[hee];exact hpl
   .show ∃d:Nat,(l++[r]).getD j 0=_/\_
    by_cases e':j=e
    .subst e'
     obtain⟨q,hq,hq2⟩:=hr;exact⟨q,by rw[<-hq,<-q4];exact BO,hq2⟩
    .rw[AE (by omega)];exact q5 j (by omega)
  .obtain⟨B,v2,v3,l⟩:=v
   obtain⟨(q1:B=(x:Int)),(q2:v2=(y:Int)),(q3:v3=((L2.getD x []).length:Int)),(q4:l.length=(L2.getD x []).length),(q5:∀j,j<(L2.getD x []).length->∃d:Nat,l.getD j 0=(d:Int)/\d<(L2.getD y []).length)⟩:=E;subst q1 q2 q3;refine A8 ltf (Aa (Ab rfl (Ab trivial (Ab (by show A.length+1<=_;omega) (Aa ⟨wrD ha (by omega),rfl,k2,rfl,by show(A++[_]).length=a+1;rw[length_append,k4];rfl,λb hb x' y' hx' hy'=>?_⟩)))))
   show((A++[l]).getD b []).length=_/\∀e,e<_->∃d:Nat,((A++[l]).getD b []).getD e 0=_/\_;by_cases e':b=a
   .subst e'
    obtain rfl:x'=x:=by have:=hx'.symm.trans hfx;omega
    obtain rfl:y'=y:=by have:=hy'.symm.trans O;omega
    have el:(A++[l]).getD b []=l:=by rw[<-k4];exact BO
    rw[el];exact⟨q4,q5⟩
   .rw[AE (by omega)];exact k5 b (by omega) x' y' hx' hy'
 .obtain⟨B,y1,y2,y3,y4,y5,y6,y7,L2,g1,g2,g3,g4,g5,S2,A⟩:=v
  obtain⟨(h0:B=(m:Int)),(k1:L2=L'),(k2:(g1,g2,g3,g4,g5)=c),(k3:S2=S),(k4:A.length=m),(k5:∀b,b<m->∀x y:Nat,aF c b=(x:Int)->aT c b=(y:Int)->(A.getD b []).length=(L'.getD x []).length/\∀e,e<(L'.getD x []).length->∃d:Nat,(A.getD b []).getD e 0=(d:Int)/\d<(L'.getD y []).length)⟩:=E;subst h0 k1 k3;refine A8 fF (Aa (Ab rfl (Aa ⟨k2,h4,k4,λx hx=>⟨_,h5 x hx,hbd x hx⟩,λa x y s t ha hx U hs ht=>?_⟩)))
  obtain⟨x',hx',hfx⟩:=Z.fr a ha;obtain⟨y',hy',O⟩:=Z.to a ha;have ex:x'=x:=by have:=hfx.symm.trans hx;omega
  have ey:y'=y:=by have:=O.symm.trans U;omega
  subst ex ey;have es:(L2.getD x' []).length=s:=by have:=(h5 x' hx').symm.trans hs;omega
  have et:(L2.getD y' []).length=t:=by have:=(h5 y' hy').symm.trans ht;omega
  have:=k5 a ha x' y' hx U;rw[es,et]at this;exact this
end
end Go.Ve.D

