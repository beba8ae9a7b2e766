/- The reference: which spans are related; labels are joined. -/
import Derived.Test.YtdhfaeiafmlhlaaCka
set_option linter.all false
namespace Go.Ve.D
open Go Go.Ve
variable{f:Int->Int}{ps:List (Nat×Nat)}{l:List Int}{i:Nat}{p:Nat×Nat}
abbrev Spn:=Int×Int×Int
variable{s:Spn}
def Vs(c:Cat)(t:Spn):Prop:=∃b a:Nat,b<ar c/\a<ar c/\t.2.1=(b:Int)/\t.2.2=(a:Int)/\fT c b=t.1/\fT c a=t.1
def Aaf(c:Cat)(w:List Int)(s t:Spn)(a b:Int):Bool:=(decide (T c a.toNat s.2.1.toNat=T c b.toNat t.2.1.toNat)&&w.contains (T c a.toNat s.2.1.toNat))&&decide (T c a.toNat s.2.2.toNat=T c b.toNat t.2.2.toNat)
def relS(c:Cat)(w:List Int)(s t:Spn)(z:Nat):Bool:=(Bk c (z:Int) s.1).any λa=>(Bk c (z:Int) t.1).any λb=>Aaf c w s t a b
def rel(c:Cat)(w:List Int)(s t:Spn):Bool:=(List.range c.1.toNat).any (relS c w s t)
def Ace:(QW s).length=3:=rfl
def row_0:(QW s).getD (0:Int).toNat 0=s.1:=rfl
def row_1:(QW s).getD (1:Int).toNat 0=s.2.1:=rfl
def row_2:(QW s).getD (2:Int).toNat 0=s.2.2:=rfl
def k03:((0:Int)<=(0:Int)/\(0:Int)<((3:Nat):Int))=True:=by simp
def k13:((0:Int)<=(1:Int)/\(1:Int)<((3:Nat):Int))=True:=by simp
def k23:((0:Int)<=(2:Int)/\(2:Int)<((3:Nat):Int))=True:=by simp
theorem p74{c:Cat}(h:Sh c){w:List Int}(hw:w.length<=1048576){t:Spn}(hs:Vs c s)(ht:Vs c t):G74 (c,(w,(QW s,QW t)))=some (rel c w s t):=by
 have hh:=h.hd;obtain⟨a1,a2,a3,a4,a5,a6,a7,a8⟩:=hh;have hm:ar c<=40:=a2;have A:c.2.1.length<=1048576:=by omega
 obtain⟨n,F⟩:∃n:Nat,c.1=(n:Int):=⟨c.1.toNat,by omega⟩
 obtain⟨s1,s2,b1,b2,Z,Y,_,_⟩:=hs;obtain⟨t1,t2,d1,d2,W,U,_,_⟩:=ht;unfold G74 rel;rw[F,tNC];simp only[F];refine AaT (st:=λi:Nat=>(i:Int)) (n:=n) (q:=relS c w s t) (Q:=λr:Bool=>r=true) (o:=.brk 0 (n:Int)) (Post:=λb (o:Option Bool)=>o=some b) (λz hz=>?_) ?_ (λy=>by simp) rfl (λr e=>by rw[e])
 rotate_left
 .simp only[Ad,Nat.lt_irrefl,decide_false,cond_false]
 simp only[Ad,hz,decide_true,cond_true,Ace,row_0,row_1,row_2,k03,k13,k23,if_true,p72 A a3,Option.bind_some]
 have E:relS c w s t z=(List.range (Bk c (z:Int) s.1).length).any λi=>(List.range (Bk c (z:Int) t.1).length).any λj=>Aaf c w s t ((Bk c (z:Int) s.1).getD i 0) ((Bk c (z:Int) t.1).getD j 0):=by
  unfold relS;rw[<-Hb (0:Int) (λa=>(Bk c (z:Int) t.1).any λb=>Aaf c w s t a b)]
  refine Hc λi _=>?_
  rw[Hb (0:Int) (λb=>Aaf c w s t _ b)]
 rw[E]
 refine AaT (st:=λi:Nat=>(i:Int)) (n:=(Bk c (z:Int) s.1).length) (q:=λi=>(List.range (Bk c (z:Int) t.1).length).any λj=>Aaf c w s t ((Bk c (z:Int) s.1).getD i 0) ((Bk c (z:Int) t.1).getD j 0)) (Q:=λr:LO Int Bool=>r=.ret true) (o:=.brk 2 ((Bk c (z:Int) s.1).length:Int))
  (Post:=λb (o:Option (LO Int Bool))=>(b=false->o=some (.next ((z+1:Nat):Int)))/\(b=true->∃r,o=some (.ret r)/\r=true)) (λi hi=>?_) ?_ (λy=>by simp) ⟨λ_=>?_,(λh=>by cases h)⟩ (λr e=>⟨(λh=>by cases h),λ_=>?_⟩)
 rotate_left
 .simp only[Ad,Nat.lt_irrefl,decide_false,cond_false]
 .show(if 2=2 then _ else none)=_
  rw[if_pos rfl,Aj (by omega) (by omega)];rfl
 .rw[e];exact⟨_,rfl,rfl⟩
 obtain⟨a,O,ea⟩:=Dt hi;have hal:=BJ (c:=c) (x:=(z:Int)) (y:=s.1);simp only[Ad,hi,decide_true,cond_true]
 refine AaT (st:=λi:Nat=>(i:Int)) (n:=(Bk c (z:Int) t.1).length) (q:=λj=>Aaf c w s t ((Bk c (z:Int) s.1).getD i 0) ((Bk c (z:Int) t.1).getD j 0)) (Q:=λr:LO Int (LO Int Bool)=>r=.ret (.ret true)) (o:=.brk 4 ((Bk c (z:Int) t.1).length:Int))
  (Post:=λb (o:Option (LO Int (LO Int Bool)))=>(b=false->o=some (.next ((i+1:Nat):Int)))/\(b=true->∃r,o=some (.ret r)/\r=.ret true)) (λj hj=>?_) ?_ (λy=>by simp) ⟨λ_=>?_,(λh=>by cases h)⟩ (λr e=>⟨(λh=>by cases h),λ_=>?_⟩)
 rotate_left
 .simp only[Ad,Nat.lt_irrefl,decide_false,cond_false]
 .show(if 4=4 then _ else none)=_
  rw[if_pos rfl,Aj (by omega) (by omega)];rfl
 .rw[e];exact⟨_,rfl,rfl⟩
 obtain⟨b,J,eb⟩:=Dt hj;have hbl:=BJ (c:=c) (x:=(z:Int)) (y:=t.1);simp only[Ad,hj,decide_true,cond_true,Aa hi,Aa hj,and_self,if_true,tNC,ea,eb,Z,Y,W,U,p73 hw,Option.bind_some,XN h (Aa O) (Aa b1),XN h (Aa O) (Aa b2),XN h (Aa J) (Aa d1),XN h (Aa J) (Aa d2)];rw[Aj (by omega) (by omega)]
 unfold Aaf;simp only[tNC,Z,Y,W,U];cases decide (T c a s1=T c b t1)with
 |false=>exact⟨λ_=>rfl,(λh=>by cases h)⟩
 |true=>
  cases w.contains (T c a s1)with
  |false=>exact⟨λ_=>rfl,(λh=>by cases h)⟩
  |true=>
   simp only[cond_true,Option.bind_some,Bool.true_and];refine⟨λB=>?_,λB=>?_⟩
   .rw[B];rfl
   .rw[B];exact⟨_,rfl,rfl⟩
def mgS(l:List Int)(p:Nat×Nat):List Int:=l.map λz=>if z=l.getD p.2 0 then l.getD p.1 0 else z
def Vr(p:Nat×Nat):List Int:=[(p.1:Int),(p.2:Int)]
def ZI:(Vr p).length=2:=rfl
def row2_0:(Vr p).getD (0:Int).toNat 0=(p.1:Int):=rfl
def row2_1:(Vr p).getD (1:Int).toNat 0=(p.2:Int):=rfl
def k02:((0:Int)<=(0:Int)/\(0:Int)<((2:Nat):Int))=True:=by simp
def k12:((0:Int)<=(1:Int)/\(1:Int)<((2:Nat):Int))=True:=by simp
def Aba:(mgS l p).length=l.length:=by simp[mgS]
def mgL(ps:List (Nat×Nat))(n:Nat):List Int:=ps.foldl mgS (Ig n)
def Kb{n:Nat}:∀(ps:List (Nat×Nat)) (l:List Int),(ps.foldl mgS l).length=l.length
 |[],_=>rfl
 |p::ps,l=>by rw[List.foldl_cons,Kb (n:=n) ps,Aba]
def Bw(hi:i<ps.length):(ps.map Vr).getD i []=Vr (ps.getD i (0,0)):=by simp[hi]
theorem ZU(hi:i<l.length):((l.take i).map f++l.drop i).set i (f (l.getD i 0))=(l.take (i+1)).map f++l.drop (i+1):=by
 apply List.ext_getElem?;intro j;rcases Nat.lt_trichotomy j i with h|h|h
 .rw[List.getElem?_set_ne (by omega)]
  simp[List.getElem?_append,h,show j<i+1 by omega,show j<l.length by omega,hi,show i<=l.length by omega,show i+1<=l.length by omega]
 .subst h
  rw[List.getElem?_set_self (by simp;omega)]
  simp[List.getElem?_append,hi,show j<=l.length by omega,show j+1<=l.length by omega]
 .rw[List.getElem?_set_ne (by omega)]
  simp[List.getElem?_append,List.getElem?_drop,show ¬j<i by omega,show ¬j<i+1 by omega,show i<=l.length by omega,show i+1<=l.length by omega,show i+(j-i)=j by omega,show i+1+(j-(i+1))=j by omega]
def Ue(hi:i<l.length):((l.take i).map f++l.drop i).getD i 0=l.getD i 0:=by
 simp[List.getElem?_append,show i<=l.length by omega]
theorem p75{n:Nat}(Y:n<=1048576)(hp:ps.length<=1048576)(W:∀p∈ps,p.1<n/\p.2<n):G75 ((n:Int),ps.map Vr)=some (cs (mgL ps n)).1:=by
 unfold G75;refine AC (v:=.brk 0 ((n:Int),Ig n)) (AL (st:=λi:Nat=>((i:Int),Ig i)) (n:=n) (λi hi=>?_) ?_ (λy=>by simp)) ?_
 .simp only[Ad,hi,decide_true,cond_true,BW,List.length_cons,List.length_nil]
  rw[if_pos (by omega),Aj (by omega) (by omega),OC];rfl
 .simp only[Ad,Nat.lt_irrefl,decide_false,cond_false]
 show Option.bind _ _=_;refine AC (v:=.brk 2 ((ps.length:Int),(ps.take ps.length).foldl mgS (Ig n))) (AL (st:=λi:Nat=>((i:Int),(ps.take i).foldl mgS (Ig n))) (n:=ps.length) (λi hi=>?_) ?_ (λy=>by simp)) ?_
 rotate_left
 .simp only[List.length_map,Ad,Nat.lt_irrefl,decide_false,cond_false]
 .rw[List.take_length]
  show(G129 (mgL ps n)).bind _=_;rw[p129 (by unfold mgL;rw[Kb (n:=n),BW];exact Y)];rfl
 have A:((ps.take i).foldl mgS (Ig n)).length=n:=by rw[Kb (n:=n),BW]
 rw[<-HC (0,0) hi,List.foldl_append];generalize (ps.take i).foldl mgS (Ig n)=l at A;have O:=W (ps.getD i (0,0)) (by rw[gDE,gEE hi];exact List.getElem_mem hi)
 have e:=Bw hi;generalize ps.getD i (0,0)=p at O e;obtain⟨p1,p2⟩:=O;subst A;simp only[List.length_map,Ad,hi,decide_true,cond_true,Aa hi,and_self,if_true,tNC,e,ZI,row2_0,row2_1,k02,k12,Aa p1,Aa p2];show Option.bind _ _=some (LO.next (((i+1:Nat):Int),mgS l p))
 by_cases F:l.getD p.1 0=l.getD p.2 0
 .have em:mgS l p=l:=by
   unfold mgS;rw[F]
   have:(λz=>if z=l.getD p.2 0 then l.getD p.2 0 else z)=id:=by
    funext z;split
    .rename_i h;exact h.symm
    .rfl
   rw[this,List.map_id]
  refine AC (v:=.brk 4 ((0:Int),l)) ?_ ?_
  .rw[A1]
   simp only[F,decide_true,Bool.not_true];cases decide ((0:Int)<((l.length:Nat):Int))<;>rfl
  .rw[em]
   show(if 4=4 then _ else none)=_
   rw[if_pos rfl,Aj (by omega) (by omega)];rfl
 .refine AC (v:=.brk 4 ((l.length:Int),mgS l p)) ?_ ?_
  .have es:(λi:Nat=>((i:Int),(l.take i).map (λz=>if z=l.getD p.2 0 then l.getD p.1 0 else z)++l.drop i)) 0=((0:Int),l):=by simp
   have en:mgS l p=(l.take l.length).map (λz=>if z=l.getD p.2 0 then l.getD p.1 0 else z)++l.drop l.length:=by simp[mgS]
   rw[en];rw[<-es];refine AL (st:=λi:Nat=>((i:Int),(l.take i).map (λz=>if z=l.getD p.2 0 then l.getD p.1 0 else z)++l.drop i)) (n:=l.length) (λk E=>?_) ?_ (λy=>by simp)
   .have B:((l.take k).map (λz=>if z=l.getD p.2 0 then l.getD p.1 0 else z)++l.drop k).length=l.length:=by simp;omega
    have ps:=ZU (f:=λz=>if z=l.getD p.2 0 then l.getD p.1 0 else z) E
    simp only[B,Ad,E,decide_true,cond_true,F,decide_false,Bool.not_false,Option.bind_some,Aa E,and_self,if_true,tNC,Ue E];rw[Aj (by omega) (by omega)]
    by_cases U:l.getD k 0=l.getD p.2 0
    .simp only[U,if_true]at ps
     simp only[U,decide_true,cond_true];rw[ps];rfl
    .simp only[U,if_false]at ps
     simp only[U,decide_false,cond_false]
     have J:((l.take k).map (λz=>if z=l.getD p.2 0 then l.getD p.1 0 else z)++l.drop k).set k (l.getD k 0)=(l.take k).map (λz=>if z=l.getD p.2 0 then l.getD p.1 0 else z)++l.drop k:=by
      apply List.ext_getElem?;intro j;by_cases hj:j=k
      .subst hj
       rw[List.getElem?_set_self (by rw[B];exact E)]
       have:=Ue (f:=λz=>if z=l.getD p.2 0 then l.getD p.1 0 else z) E
       rw[<-this,gDE,gEE (by rw[B];exact E)];rfl
      .rw[List.getElem?_set_ne (Ne.symm hj)]
     rw[<-ps,J];rfl
   .have Z:((l.take l.length).map (λz=>if z=l.getD p.2 0 then l.getD p.1 0 else z)++l.drop l.length).length=l.length:=by simp
    simp only[Z,Ad,Nat.lt_irrefl,decide_false,cond_false,Option.bind_some]
  .show(if 4=4 then _ else none)=_
   rw[if_pos rfl,Aj (by omega) (by omega)];rfl
end Go.Ve.D


namespace Go.Ve.D
open Go Go.Ve
variable{M:List (Spn×Int)}{j l:List Int}{n:Nat}{R:Nat->Nat->Prop}{done rf:Nat->Spn->Prop}
inductive Gen(R:Nat->Nat->Prop):Nat->Nat->Prop where
 |rel {x y:Nat}:R x y->Gen R x y
 |refl (x:Nat):Gen R x x
 |symm {x y:Nat}:Gen R x y->Gen R y x
 |trans {x y z:Nat}:Gen R x y->Gen R y z->Gen R x z
def LH{p:Nat×Nat}{x:Nat}(e:x<l.length):(mgS l p).getD x 0=if l.getD x 0=l.getD p.2 0 then l.getD p.1 0 else l.getD x 0:=by
 simp[mgS,e]
def Abb{R:Nat->Nat->Prop}{n:Nat}:∀(ps:List (Nat×Nat)) (l:List Int),l.length=n->(∀p∈ps,p.1<n/\p.2<n/\R p.1 p.2)->(∀x y,x<n->y<n->l.getD x 0=l.getD y 0->Gen R x y)->
  (∀x y,x<n->y<n->(ps.foldl mgS l).getD x 0=(ps.foldl mgS l).getD y 0->Gen R x y)/\(∀x y,x<n->y<n->l.getD x 0=l.getD y 0->(ps.foldl mgS l).getD x 0=(ps.foldl mgS l).getD y 0)/\∀p∈ps,(ps.foldl mgS l).getD p.1 0=(ps.foldl mgS l).getD p.2 0
 |[],l,_,_,h=>⟨h,λ_ _ _ _ h=>h,λp O=>by cases O⟩
 |p::ps,l,hl,O,h=>by
  obtain⟨p1,p2,pr⟩:=O p (List.mem_cons_self ..)
  have mono:∀x y,x<n->y<n->l.getD x 0=l.getD y 0->(mgS l p).getD x 0=(mgS l p).getD y 0:=λx y F E e=>by
   rw[LH (by omega),LH (by omega),e]
  have J:(mgS l p).getD p.1 0=(mgS l p).getD p.2 0:=by
   rw[LH (by omega),LH (by omega),if_pos rfl]
   split<;>rfl
  have back:∀x y,x<n->y<n->(mgS l p).getD x 0=(mgS l p).getD y 0->Gen R x y:=λx y F E e=>by
   rw[LH (by omega),LH (by omega)]at e
   have g:Gen R p.1 p.2:=.rel pr;by_cases B:l.getD x 0=l.getD p.2 0
   .by_cases A:l.getD y 0=l.getD p.2 0
    .exact h x y F E (by rw[B,A])
    .rw[if_pos B,if_neg A]at e
     exact(h x p.2 F p2 B).trans (g.symm.trans (h p.1 y p1 E e))
   .by_cases A:l.getD y 0=l.getD p.2 0
    .rw[if_neg B,if_pos A]at e
     exact(h x p.1 F p1 e).trans (g.trans (h p.2 y p2 E A.symm))
    .rw[if_neg B,if_neg A]at e
     exact h x y F E e
  obtain⟨q1,Y,Z⟩:=Abb ps (mgS l p) (by rw[Aba,hl]) (λp W=>O p (mCM _ W)) back
  refine⟨q1,λx y F E e=>Y x y F E (mono x y F E e),λq U=>?_⟩
  rcases List.mem_cons.1 U with rfl|U
  .exact Y _ _ p1 p2 J
  .exact Z q U
abbrev KT:Ty:=.pair (.int .i64) (.pair (.int .i64) (.int .i64))
def eqK{a b:Spn}:eqT KT a b=true↔a=b:=by
 obtain⟨a1,a2,a3⟩:=a;obtain⟨B,A,e⟩:=b;show((decide (a1=B)&&(decide (a2=A)&&decide (a3=e)))=true)↔_;simp
def H4{r:Spn}{v:Int}:∀{M:List (Spn×Int)},BO KT (.int .i64) r M=none->∀q,BO KT (.int .i64) q (Pr KT (.int .i64) r v M)=if q=r then some v else BO KT (.int .i64) q M
 |[],_,q=>by
  show(bif eqT KT q r then some v else none)=if q=r then some v else none
  cases h:eqT KT q r with
  |true=>rw[if_pos (eqK.1 h)];rfl
  |false=>rw[if_neg λe=>by rw[eqK.2 e]at h;cases h];rfl
 |e::M,h,q=>by
  have h:(bif eqT KT r e.1 then some e.2 else BO KT (.int .i64) r M)=none:=h;cases A:eqT KT r e.1 with
  |true=>rw[A]at h;cases h
  |false=>
   rw[A]at h;have h:BO KT (.int .i64) r M=none:=h;have E:=H4 (v:=v) h q;show BO KT (.int .i64) q (bif eqT KT r e.1 then(r,v)::M else e::Pr KT (.int .i64) r v M)=if q=r then some v else(bif eqT KT q e.1 then some e.2 else BO KT (.int .i64) q M)
   rw[A];show(bif eqT KT q e.1 then some e.2 else BO KT (.int .i64) q (Pr KT (.int .i64) r v M))=_;rw[E];by_cases B:q=r
   .subst B
    rw[if_pos rfl,A,if_pos rfl];rfl
   .rw[if_neg B,if_neg B]
structure Zf(n:Nat)(rf:Nat->Spn->Prop)(R:Nat->Nat->Prop)(j:List Int)(M:List (Spn×Int))(done:Nat->Spn->Prop):Prop where
 ok:okJ j
 len:j.length=n
 key:∀r v,BO KT (.int .i64) r M=some v->∃k:Nat,v=(k:Int)/\k<n/\rf k r
 hit:∀i r,done i r->∃k:Nat,BO KT (.int .i64) r M=some (k:Int)/\k<n/\root j k=root j i
 gen:∀x y,x<n->y<n->root j x=root j y->Gen R x y
theorem Zf.old(h:Zf n rf R j M done)(hR:∀a b r,a<n->b<n->rf a r->rf b r->R a b)(hdn:∀i r,done i r->i<n)
  {i:Nat}{r:Spn} (hi:i<n) (hr:rf i r) (hm:Wp KT (.int .i64) r M=true):
  ∃k:Nat,Zb KT (.int .i64) r M=(k:Int)/\∃c B,G82 ((k:Int),(i:Int)) j=some (c,B)/\Zf n rf R B M (λa q=>done a q\/(a=i/\q=r)):=by
 obtain⟨v,Y⟩:∃v,BO KT (.int .i64) r M=some v:=Option.isSome_iff_exists.1 hm;obtain⟨k,rfl,U,Z⟩:=h.key r v Y;obtain⟨c,B,q1,q2,q3,q4⟩:=p82 h.ok (a:=k) (b:=i) (by rw[h.len];exact U) (by rw[h.len];exact hi)
 have A:∀y,y<n->root B y=if root j y=max (root j k) (root j i)then min (root j k) (root j i)else root j y:=λy E=>q4 y (by rw[h.len];exact E)
 have mono:∀x y,x<n->y<n->root j x=root j y->root B x=root B y:=λx y F E e=>by rw[A x F,A y E,e]
 have O:root B k=root B i:=by
  rw[A k U,A i hi];split<;>split<;>omega
 refine⟨k,by unfold Zb;rw[Y];rfl,c,B,q1,q2,by rw[q3,h.len],h.key,?_,?_⟩
 .rintro a q (hd|⟨rfl,rfl⟩)
  .obtain⟨k2,g1,g2,g3⟩:=h.hit a q hd
   exact⟨k2,g1,g2,mono _ _ g2 (hdn a q hd) g3⟩
  .exact⟨k,Y,U,O⟩
 .intro x y F E e
  rw[A x F,A y E]at e;have gk:Gen R k i:=.rel (hR k i r U hi Z hr)
  have g:∀z,z<n->root j z=max (root j k) (root j i)\/root j z=min (root j k) (root j i)->Gen R z k:=λz hz hc=>by
   have:root j z=root j k\/root j z=root j i:=by omega
   rcases this with e|e
   .exact h.gen z k hz U e
   .exact(h.gen z i hz hi e).trans gk.symm
  by_cases W:root j x=max (root j k) (root j i)
  .by_cases J:root j y=max (root j k) (root j i)
   .exact h.gen x y F E (by rw[W,J])
   .rw[if_pos W,if_neg J]at e
    exact(g x F (.inl W)).trans (g y E (.inr e.symm)).symm
  .by_cases J:root j y=max (root j k) (root j i)
   .rw[if_neg W,if_pos J]at e
    exact(g x F (.inr e)).trans (g y E (.inl J)).symm
   .rw[if_neg W,if_neg J]at e
    exact h.gen x y F E e
def Zf.new(h:Zf n rf R j M done)
  {i:Nat}{r:Spn} (hi:i<n) (F:rf i r) (E:Wp KT (.int .i64) r M=false):Zf n rf R j (Pr KT (.int .i64) r (i:Int) M) (λa q=>done a q\/(a=i/\q=r)):=by
 have A:BO KT (.int .i64) r M=none:=by
  unfold Wp at E;cases J:BO KT (.int .i64) r M with
  |none=>rfl
  |some v=>rw[J]at E;cases E
 refine⟨h.ok,h.len,λq v B=>?_,?_,h.gen⟩
 .rw[H4 A]at B
  split at B
  .rename_i e;cases B;subst e;exact⟨i,rfl,hi,F⟩
  .exact h.key q v B
 .rintro a q (hd|⟨rfl,rfl⟩)
  .obtain⟨k2,g1,g2,O⟩:=h.hit a q hd
   refine⟨k2,?_,g2,O⟩;rw[H4 A,if_neg λe=>by rw[e,A]at g1;cases g1]
   exact g1
  .exact⟨a,by rw[H4 A,if_pos rfl],hi,rfl⟩
theorem ZB{m:List Int}(O:l.length=n)(J:m.length=n)(W:∀x y,x<n->y<n->l.getD x 0=l.getD y 0->Gen R x y)(U:∀x y,x<n->y<n->m.getD x 0=m.getD y 0->Gen R x y)
  (Y:∀x y,R x y->x<n/\y<n) (g1:∀x y,R x y->l.getD x 0=l.getD y 0) (g2:∀x y,R x y->m.getD x 0=m.getD y 0):(cs l).1=(cs m).1:=by
 have key:∀(k:List Int),(∀x y,R x y->k.getD x 0=k.getD y 0)->∀x y,Gen R x y->k.getD x 0=k.getD y 0:=by
  intro k E x y h
  induction h with
  |rel h=>exact E _ _ h
  |refl x=>rfl
  |symm _ F=>exact F.symm
  |trans _ _ B A=>exact B.trans A
 refine cs_ker (by rw[O,J]) λi k hi E=>⟨λe=>key m g2 _ _ (W i k (by omega) (by omega) e),λe=>key l g1 _ _ (U i k (by omega) (by omega) e)⟩
end Go.Ve.D


namespace Go.Ve.D
open Go Go.Ve
variable{c:Cat}{w:List Int}{S:List Spn}{i:Nat}
def rfP(c:Cat)(w:List Int)(t r:Spn):Prop:=∃a,a<ar c/\tT c a=t.1/\w.contains (T c a t.2.1.toNat)=true/\r=(fT c a,T c a t.2.1.toNat,T c a t.2.2.toNat)
theorem D7{x y z:Int}:z∈Bk c x y↔ ∃f,f<ar c/\fT c f=x/\tT c f=y/\z=(f:Int):=by
 unfold Bk;simp only[List.mem_map,List.mem_filter,List.mem_range,bAE,decide_eq_true_eq];constructor
 .rintro ⟨f,⟨B,A,e⟩,rfl⟩;exact⟨f,B,A,e,rfl⟩
 .rintro ⟨f,B,A,e,rfl⟩;exact⟨f,⟨B,A,e⟩,rfl⟩
theorem PO(h:Sh c){s t:Spn}:rel c w s t=true↔ ∃r,rfP c w s r/\rfP c w t r:=by
 unfold rel relS;simp only[List.any_eq_true,List.mem_range];constructor
 .rintro ⟨z,Z,x,W,y,U,hit⟩
  obtain⟨a,A,a1,a2,rfl⟩:=D7.1 W;obtain⟨b,F,Y,J,rfl⟩:=D7.1 U;unfold Aaf at hit;simp only[bAE,decide_eq_true_eq,tNC]at hit;obtain⟨⟨E,B⟩,e3⟩:=hit;exact⟨_,⟨a,A,a2,B,rfl⟩,⟨b,F,J,by rw[<-E];exact B,by rw[a1,Y,E,e3]⟩⟩
 .rintro ⟨r,⟨a,A,a2,a3,rfl⟩,⟨b,F,J,b3,e⟩⟩
  simp only[Prod.mk.injEq]at e;obtain⟨e0,E,B⟩:=e;have O:=h.fr a A;have O:0<=fT c a/\fT c a<c.1:=O;refine⟨(fT c a).toNat,by omega,(a:Int),D7.2 ⟨a,A,by omega,a2,rfl⟩,(b:Int),D7.2 ⟨b,F,by omega,J,rfl⟩,?_⟩
  unfold Aaf;simp only[bAE,decide_eq_true_eq,tNC];exact⟨⟨E,a3⟩,B⟩
def sAt(S:List Spn)(i:Nat):Spn:=S.getD i (0,0,0)
def rR(c:Cat)(w:List Int)(S:List Spn)(x y:Nat):Prop:=x<S.length/\y<S.length/\∃r,rfP c w (sAt S x) r/\rfP c w (sAt S y) r
def prI(c:Cat)(w:List Int)(S:List Spn)(i j:Nat):List (Nat×Nat):=bif rel c w (sAt S i) (sAt S j)then [(j,i)]else []
def prS(c:Cat)(w:List Int)(S:List Spn):List (Nat×Nat):=(List.range S.length).flatMap λi=>(List.range i).flatMap (prI c w S i)
theorem MQ{p:Nat×Nat}:p∈prS c w S↔p.1<p.2/\p.2<S.length/\rel c w (sAt S p.2) (sAt S p.1)=true:=by
 unfold prS;simp only[List.mem_flatMap,List.mem_range];constructor
 .rintro ⟨i,hi,j,hj,h⟩
  unfold prI at h;cases e:rel c w (sAt S i) (sAt S j)with
  |false=>rw[e]at h;cases h
  |true=>
   rw[e]at h;rw[List.mem_singleton.1 h];exact⟨hj,hi,e⟩
 .rintro ⟨E,B,A⟩
  refine⟨p.2,B,p.1,E,?_⟩;unfold prI;rw[A];exact List.mem_singleton.2 rfl
def XI{j:Nat}:(prI c w S i j).length<=1:=by
 unfold prI;cases rel c w (sAt S i) (sAt S j)<;>simp
theorem XH:((List.range i).flatMap (prI c w S i)).length<=i:=by
 have:=Jx (g:=prI c w S i) (K:=1) i λj _=>XI
 omega
theorem Acr(e:S.length<=200):(prS c w S).length<=40000:=by
 have A:=Jx (g:=λi=>(List.range i).flatMap (prI c w S i)) (K:=200) S.length λi hi=>by
  have:=XH (c:=c) (w:=w) (S:=S) (i:=i);show((List.range i).flatMap (prI c w S i)).length<=200;omega
 have:S.length*200<=200*200:=Nat.mul_le_mul_right _ e;unfold prS;omega
def Xk(hi:i<S.length):(S.map QW).getD i []=QW (sAt S i):=by simp[sAt,hi]
theorem p38(h:Sh c)(U:w.length<=1048576)(Y:S.length<=200)(O:∀i,i<S.length->Vs c (sAt S i)):G38 (c,(w,S.map QW))=some (cs (mgL (prS c w S) S.length)).1:=by
 unfold G38
 have e:[]++(List.range S.length).flatMap (λi=>((List.range i).flatMap (prI c w S i)).map Vr)=(prS c w S).map Vr:=by
  rw[List.nil_append];unfold prS;rw[List.map_flatMap]
 refine AC (v:=.brk 0 ((S.length:Int),(prS c w S).map Vr)) ?_ ?_
 .rw[<-e]
  refine Pk (K:=200) (L:=0) (λi hi=>?_) (λi hi A ha=>?_) (λA=>?_) [] (Nat.zero_le _)
  .rw[List.length_map]
   have:=XH (c:=c) (w:=w) (S:=S) (i:=i);omega
  .have J:A.length<=40000:=by
    have:i*200<=200*200:=Nat.mul_le_mul_right _ (by omega)
    omega
   simp only[List.length_map,Ad,hi,decide_true,cond_true];have Z:A++((List.range i).flatMap (prI c w S i)).map Vr=A++(List.range i).flatMap λj=>(prI c w S i j).map Vr:=by rw[List.map_flatMap]
   refine AC (v:=.brk 2 ((i:Int),A++((List.range i).flatMap (prI c w S i)).map Vr)) ?_ ?_
   .rw[Z]
    refine Pk (K:=1) (L:=A.length) (λj hj=>?_) (λj hj E W=>?_) (λE=>?_) A (Nat.le_refl _)
    .rw[List.length_map];exact XI
    .have B:j<S.length:=by omega
     simp only[Ad,hj,decide_true,cond_true,Aa hi,Aa B,and_self,if_true,tNC,Xk hi,Xk B,p74 h U (O i hi) (O j B),Option.bind_some];unfold prI;rw[Aj (by omega) (by omega)]
     cases rel c w (sAt S i) (sAt S j)with
     |false=>simp
     |true=>
      simp only[cond_true,List.length_cons,List.length_nil];rw[if_pos (by omega)];rfl
    .simp only[Ad,Nat.lt_irrefl,decide_false,cond_false]
   .show(if 2=2 then _ else none)=_
    rw[if_pos rfl,Aj (by omega) (by omega)];rfl
  .simp only[List.length_map,Ad,Nat.lt_irrefl,decide_false,cond_false]
 .show(G75 (((S.map QW).length:Nat),(prS c w S).map Vr)).bind _=_
  have F:=Acr (c:=c) (w:=w) Y;rw[List.length_map,p75 (by omega) (by omega) λp F=>by obtain⟨h1,h2,_⟩:=MQ.1 F;omega];rfl
end Go.Ve.D


namespace Go.Ve.D
open Go Go.Ve
variable{c:Cat}{x:Int}{S:List Spn}{i:Nat}
def Yj(hi:i<(C6 c x).length):∃f:Nat,f<ar c/\(C6 c x).getD i 0=(f:Int)/\tT c f=x:=by
 have e:(C6 c x).getD i 0∈C6 c x:=by
  rw[gDE,gEE hi];exact List.getElem_mem hi
 generalize (C6 c x).getD i 0=z at e;unfold C6 at e;simp only[List.mem_map,List.mem_filter,List.mem_range,decide_eq_true_eq]at e;obtain⟨f,⟨B,A⟩,rfl⟩:=e;exact⟨f,B,rfl,A⟩
def Yk{f:Nat}(B:f<ar c):∃i,i<(C6 c (tT c f)).length/\(C6 c (tT c f)).getD i 0=(f:Int):=by
 have A:(f:Int)∈C6 c (tT c f):=by
  unfold C6;simp only[List.mem_map,List.mem_filter,List.mem_range,decide_eq_true_eq];exact⟨f,⟨B,rfl⟩,rfl⟩
 obtain⟨i,hi,e⟩:=List.getElem_of_mem A;exact⟨i,hi,by rw[gDE,gEE hi];exact e⟩
theorem Yi:(C6 c x).length<=ar c:=by
 unfold C6;rw[List.length_map];have:=List.length_filter_le (λf=>decide (tT c f=x)) (List.range (ar c))
 rwa [List.length_range]at this
def rfA(c:Cat)(t:Spn)(a:Nat):Spn:=(fT c a,T c a t.2.1.toNat,T c a t.2.2.toNat)
def dnI(c:Cat)(w:List Int)(S:List Spn)(i k:Nat)(a:Nat)(r:Spn):Prop:=
 (a<i/\rfP c w (sAt S a) r)\/(a=i/\∃q b:Nat,q<k/\(C6 c (sAt S i).1).getD q 0=(b:Int)/\w.contains (T c b (sAt S i).2.1.toNat)=true/\r=rfA c (sAt S i) b)
theorem Zf.mono{n:Nat}{rf:Nat->Spn->Prop}{R:Nat->Nat->Prop}{j:List Int}{M:List (Spn×Int)}{d e:Nat->Spn->Prop}(h:Zf n rf R j M d)(hd:∀a r,e a r->d a r):Zf n rf R j M e:=
 ⟨h.ok,h.len,h.key,λi r A=>h.hit i r (hd i r A),h.gen⟩
abbrev UI(c:Cat)(w:List Int)(S:List Spn)(j:List Int)(M:List (Spn×Int))(d:Nat->Spn->Prop):Prop:=Zf S.length (λa r=>rfP c w (sAt S a) r) (rR c w S) j M d
def Acd:S.getD i (0,0,0)=sAt S i:=rfl
theorem p30042(h:Sh c){w:List Int}(hp:0<S.length)(hS:S.length<=200)(hV:∀i,i<S.length->Vs c (sAt S i)):
  ∃l,G30042 ((c,(w,mkB c w)),S)=some (cs l).1/\l.length=S.length/\(∀x y,x<S.length->y<S.length->l.getD x 0=l.getD y 0->Gen (rR c w S) x y)/\∀x y,rR c w S x y->l.getD x 0=l.getD y 0:=by
 have hh:=h.hd;obtain⟨a1,a2,a3,a4,a5,a6,a7,a8⟩:=hh;have W:ar c<=40:=a2;have hm2:c.2.1.length<=1048576:=by omega
 have hR:∀a b r,a<S.length->b<S.length->rfP c w (sAt S a) r->rfP c w (sAt S b) r->rR c w S a b:=λa b r O hb h1 h2=>⟨O,hb,r,h1,h2⟩
 unfold G30042;simp only[p79 (n:=S.length) (show S.length<=1048576 by omega),Option.bind_some]
 refine Nb (I:=λi (v:Int×List Int×List (Spn×Int))=>v.1=(i:Int)/\UI c w S v.2.1 v.2.2 (λa r=>a<i/\rfP c w (sAt S a) r)) (n:=S.length)
  (Q:=λo=>∃j M,o=LO.brk 0 ((S.length:Int),j,M)/\UI c w S j M (λa r=>a<S.length/\rfP c w (sAt S a) r))
  (Post:=λo:Option (List Int)=>∃l,o=some (cs l).1/\l.length=S.length/\(∀x y,x<S.length->y<S.length->l.getD x 0=l.getD y 0->Gen (rR c w S) x y)/\∀x y,rR c w S x y->l.getD x 0=l.getD y 0)
  ⟨rfl,XR,BW,(λr v E=>by cases E),(λi r hr=>by omega),λx y A U e=>by
   have e:root (Ig S.length) x=root (Ig S.length) y:=e;rw[N3 A,N3 U]at e;rw[e];exact .refl y⟩ (λi hi v E=>?_) (λv E=>?_) λo ho=>?_
 rotate_left
 .obtain⟨v1,v2,v3⟩:=v
  obtain⟨rfl,E⟩:=E;refine⟨_,?_,(λy=>by simp),v2,v3,rfl,E⟩
  simp only[Ad,Nat.lt_irrefl,decide_false,cond_false]
 .obtain⟨j,M,rfl,B⟩:=ho
  have hl:j.length=S.length:=B.len;obtain⟨j',hj⟩:=p83 B.ok (by omega) (by omega)
  have Y:∀x,x<S.length->(Aaa j).getD x 0=(root j x:Int):=λx A=>by simp[Aaa,hl,A]
  refine⟨Aaa j,?_,by simp[Aaa,hl],λx y A U e=>?_,λx y hxy=>?_⟩
  .show Option.bind (bif decide (0<((j.length:Nat):Int))then G83 () j else none) _=_
   rw[show decide (0<((j.length:Nat):Int))=true by simp;omega,cond_true,hj];rfl
  .rw[Y x A,Y y U]at e
   exact B.gen x y A U (by omega)
  .obtain⟨A,U,r,r1,r2⟩:=hxy
   obtain⟨k1,f1,_,g1⟩:=B.hit x r ⟨A,r1⟩;obtain⟨k2,f2,_,g2⟩:=B.hit y r ⟨U,r2⟩;rw[f1]at f2;have:k1=k2:=by have:=Option.some.inj f2;omega
   subst this;rw[Y x A,Y y U,<-g1,<-g2]
 -- a span
 obtain⟨v1,v2,v3⟩:=v;obtain⟨rfl,E⟩:=E;have E:UI c w S v2 v3 (λa r=>a<i/\rfP c w (sAt S a) r):=E
 left;obtain⟨b,g,hb,Y,eb,eg,fb,fg⟩:=hV i hi;generalize A:sAt S i=t at*;simp only[Ad,hi,decide_true,cond_true,Aa hi,and_self,if_true,tNC,Acd,A,p80 hm2 a3,Option.bind_some];have hil:=Yi (c:=c) (x:=t.1)
 refine Nb (I:=λk (u:Int×List Int×List (Spn×Int)×Int×Int×Int)=>u.1=(k:Int)/\u.2.2.2=t/\UI c w S u.2.1 u.2.2.1 (dnI c w S i k)) (n:=(C6 c t.1).length)
  (Q:=λo=>∃j M,o=LO.brk 2 (((C6 c t.1).length:Int),j,M,t)/\UI c w S j M (λa r=>a<i+1/\rfP c w (sAt S a) r))
  (Post:=λo:Option (LO (Int×List Int×List (Spn×Int)) (List Int))=>∃y,o=some (.next y)/\(y.1=((i+1:Nat):Int)/\UI c w S y.2.1 y.2.2 (λa r=>a<i+1/\rfP c w (sAt S a) r)))
  ⟨rfl,rfl,E.mono λa r hd=>?_⟩ (λk hk u B=>?_) (λu B=>?_) λo ho=>?_
 .rcases hd with hd|⟨_,q,_,hq,_⟩
  .exact hd
  .omega
 rotate_left
 .obtain⟨u1,Z,u3,J⟩:=u
  obtain⟨rfl,et,B⟩:=B;have et:J=t:=et;subst et;refine⟨_,?_,(λy=>by simp),Z,u3,rfl,B.mono λa r hd=>?_⟩
  .simp only[Ad,Nat.lt_irrefl,decide_false,cond_false]
  .obtain⟨O,hr⟩:=hd
   by_cases e:a=i
   .right
    subst e;rw[A]at hr;obtain⟨f,f1,f2,f3,rfl⟩:=hr;obtain⟨q,q1,q2⟩:=Yk f1;rw[f2]at q1 q2;refine⟨rfl,q,f,?_,?_,?_,?_⟩
    .exact q1
    .rw[A];exact q2
    .rw[A];exact f3
    .rw[A];rfl
   .exact .inl ⟨by omega,hr⟩
 .obtain⟨j,M,rfl,B⟩:=ho
  refine⟨(((i+1:Nat):Int),j,M),?_,rfl,B⟩;show(if 2=2 then _ else none)=_
  rw[if_pos rfl,Aj (by omega) (by omega)];rfl
 -- an arrow into its source
 obtain⟨u1,Z,u3,J⟩:=u;obtain⟨rfl,et,B⟩:=B;have et:J=t:=et;subst et;have B:UI c w S Z u3 (dnI c w S i k):=B;obtain⟨a,O,ea,ta⟩:=Yj hk;left;have mab:mt c a b=true:=dT (ta.trans fb.symm);obtain⟨t1,t2,_⟩:=h.pos a b O hb mab;obtain⟨m,W⟩:∃m:Nat,T c a b=(m:Int):=⟨(T c a b).toNat,by omega⟩
 have hmm:m<ar c:=by show m<c.2.1.length;omega
 have hac:a<c.2.1.length:=O;have n0:(0:Int)<(Z.length:Int):=by have:Z.length=S.length:=B.len;omega
 have eT:T c a J.2.1.toNat=(m:Int):=by rw[eb,tNC];exact W
 simp only[Ad,hk,decide_true,cond_true,Aa hk,and_self,if_true,tNC,ea,eb,eg,p81 h (Aa O) (Aa hb),p81 h (Aa O) (Aa Y),Option.bind_some,W,DR,Aa hmm,DS hmm,Aa hac];rw[Aj (by omega) (by omega)]
 have hdn:∀p r,dnI c w S i k p r->p<S.length:=λp r hd=>by
  rcases hd with hd|⟨rfl,_⟩
  .omega
  .exact hi
 have grow:∀(P:Prop),(∀r,P->dnI c w S i k i r)->True:=λ_ _=>trivial
 cases hc:w.contains (m:Int)with
 |false=>
  simp only[Bool.not_false,cond_true];refine⟨_,rfl,rfl,rfl,B.mono λp r hd=>?_⟩
  rcases hd with hd|⟨rfl,q,b',hq,e1,e2,e3⟩
  .exact .inl hd
  .refine .inr ⟨rfl,q,b',?_,e1,e2,e3⟩
   have:q≠k:=by
    rintro rfl
    rw[A,ea]at e1;have:b'=a:=by omega
    subst this;rw[A,eT,hc]at e2;cases e2
   omega
 |true=>
  simp only[Bool.not_true,cond_false]
  have er:((c.2.1.getD a 0,(m:Int),T c a g):Spn)=rfA c J a:=by
   unfold rfA;rw[eT,eg,tNC];rfl
  have hrf:rfP c w (sAt S i) (rfA c J a):=by
   rw[A];exact⟨a,O,ta,by rw[eT];exact hc,rfl⟩
  have F:∀p r,dnI c w S i (k+1) p r->dnI c w S i k p r\/(p=i/\r=rfA c J a):=λp r hd=>by
   rcases hd with hd|⟨rfl,q,b',hq,e1,e2,e3⟩
   .exact .inl (.inl hd)
   .by_cases e:q=k
    .subst e
     right;rw[A,ea]at e1;have:b'=a:=by omega
     subst this;exact⟨rfl,by rw[e3,A]⟩
    .exact .inl (.inr ⟨rfl,q,b',by omega,e1,e2,e3⟩)
  simp only[er];cases W:Wp KT (.int .i64) (rfA c J a) u3 with
  |true=>
   obtain⟨k0,g1,cc,j',g2,g3⟩:=B.old hR hdn hi hrf W;simp only[cond_true,n0,decide_true,g1,g2,Option.bind_some];exact⟨_,rfl,rfl,rfl,g3.mono F⟩
  |false=>
   simp only[cond_false];exact⟨_,rfl,rfl,rfl,(B.new hi hrf W).mono F⟩
end Go.Ve.D


namespace Go.Ve.D
open Go Go.Ve
variable{c:Cat}{x y:Int}{w:List Int}{S:List Spn}
def clsF(c:Cat)(w:List Int)(S:List Spn):List Int:=(cs (mgL (prS c w S) S.length)).1
theorem Xs(h:Sh c):(∀x y,x<S.length->y<S.length->(mgL (prS c w S) S.length).getD x 0=(mgL (prS c w S) S.length).getD y 0->Gen (rR c w S) x y)/\∀x y,rR c w S x y->(mgL (prS c w S) S.length).getD x 0=(mgL (prS c w S) S.length).getD y 0:=by
 obtain⟨W,q2,O⟩:=Abb (R:=rR c w S) (n:=S.length) (prS c w S) (Ig S.length) BW (λp Y=>by
  obtain⟨h1,U,Z⟩:=MQ.1 Y;obtain⟨r,B,A⟩:=(PO h).1 Z;exact⟨by omega,U,by omega,U,r,A,B⟩) λx y J E e=>by
   rw[Jo J,Jo E]at e;have:x=y:=by omega
   subst this;exact .refl x
 refine⟨W,λx y F=>?_⟩
 obtain⟨J,E,r,B,A⟩:=F;rcases Nat.lt_trichotomy x y with e|rfl|e
 .exact O (x,y) (MQ.2 ⟨e,E,(PO h).2 ⟨r,A,B⟩⟩)
 .rfl
 .exact(O (y,x) (MQ.2 ⟨e,J,(PO h).2 ⟨r,B,A⟩⟩)).symm
theorem p42(h:Sh c)(U:S.length<=200)(O:∀i,i<S.length->Vs c (sAt S i)):G42 ((c,(w,mkB c w)),S)=some (clsF c w S):=by
 unfold G42;by_cases B:S.length=0
 .rw[if_pos B]
  obtain rfl:S=[]:=List.length_eq_zero_iff.1 B;unfold G20042;simp only[List.length_nil];rw[p79 (n:=0) (by omega)]
  simp only[Option.bind_some];refine AC (v:=.brk 0 ((0:Int),Ig 0,[])) ?_ ?_
  .rw[A1];rfl
  .show(G10083 (Ig 0)).bind _=_
   have e:G10083 (Ig 0)=some []:=by
    show G10083 []=_;unfold G10083;rw[if_pos ⟨by simp,by simp,by simp,by simp⟩]
    refine AC (v:=.brk 0 ((0:Int),[])) ?_ ?_
    .rw[A1];rfl
    .show(G139 []).bind _=_
     rw[p139 (by simp)];rfl
   rw[e];rfl
 .rw[if_neg B]
  obtain⟨l,e,J,g1,g2⟩:=p30042 h (w:=w) (by omega) U O
  obtain⟨F,E⟩:=Xs h (w:=w) (S:=S);rw[e];unfold clsF
  congr 1
  exact ZB (R:=rR c w S) J (by unfold mgL;rw[Kb (n:=0),BW]) g1 F (λx y A=>⟨A.1,A.2.1⟩) g2 E
theorem spT_V:∀t∈spT c w x y,Vs c t:=by
 intro t A;unfold spT spU spB at A;simp only[List.mem_flatMap,List.mem_range]at A;obtain⟨u,_,i,hi,A⟩:=A;obtain⟨b,Z,J⟩:=Dt hi
 have B:(b:Int)∈Bk c (u:Int) x:=by
  rw[<-J,gDE,gEE hi];exact List.getElem_mem hi
 rw[J]at A;cases F:w.contains (b:Int)with
 |false=>rw[F]at A;cases A
 |true=>
  rw[F,cond_true,List.mem_map]at A;obtain⟨z,U,rfl⟩:=A;obtain⟨a,W,a1,_,rfl⟩:=D7.1 U;obtain⟨O,E,Y,_,e⟩:=D7.1 B;have:O=b:=by omega
  subst this;exact⟨O,a,E,W,rfl,rfl,Y,a1⟩
def AaU(i:Nat)(hi:i<(spT c w x y).length):Vs c (sAt (spT c w x y) i):=by
 refine spT_V (w:=w) (x:=x) (y:=y) _ ?_;unfold sAt;rw[gDE,gEE hi];exact List.getElem_mem hi
def ZM(c:Cat)(w:List Int)(x y:Int):List Int×Int:=bif decide (Jd c w x y=0)then(bif decide (200<((spT c w x y).length:Int))then([],3)else(clsF c w (spT c w x y),0))else([],Jd c w x y)
def p8(h:okC c)(A:w.length<=1048576)(x y:Int):G8 (c,(w,(x,y)))=some (ZM c w x y):=by
 unfold G8 ZM;simp only[Prod.eta,p36 h A,Option.bind_some];cases E:decide (Jd c w x y=0)with
 |false=>rfl
 |true=>
  have e:=Jq (YD (of_decide_eq_true E));simp only[Bool.not_true,cond_false,cond_true,p37 e A,Option.bind_some,spR_eq,List.length_map];cases B:decide (200<((spT c w x y).length:Int))with
  |true=>rfl
  |false=>
   have B:=of_decide_eq_false B;simp only[cond_false,p38 e A (show(spT c w x y).length<=200 by omega) AaU,Option.bind_some];rfl
def p11(h:okC c)(E:w.length<=1048576)(x y:Int):G11 (c,(w,(x,y)))=some (ZM c w x y):=by
 unfold G11 ZM;simp only[Prod.eta,p40 h E,Option.bind_some];cases A:decide (Jd c w x y=0)with
 |false=>simp only[cond_false,A,Bool.not_false,cond_true]
 |true=>
  have e:=Jq (YD (of_decide_eq_true A));simp only[cond_true,decide_true,Bool.not_true,cond_false,p41 e,Option.bind_some];cases B:decide (200<((spT c w x y).length:Int))with
  |true=>rfl
  |false=>
   have B:=of_decide_eq_false B;simp only[cond_false,p42 e (show(spT c w x y).length<=200 by omega) AaU,Option.bind_some]
theorem ZL:(ZM c w x y).1.length<=1048576:=by
 unfold ZM;cases decide (Jd c w x y=0)with
 |false=>exact Nat.zero_le _
 |true=>
  cases e:decide (200<((spT c w x y).length:Int))with
  |true=>exact Nat.zero_le _
  |false=>
   have e:=of_decide_eq_false e;have A:=(UM (mgL (prS c w (spT c w x y)) (spT c w x y).length).length (mgL (prS c w (spT c w x y)) (spT c w x y).length) (Nat.le_refl _)).1;rw[List.take_length]at A;have B:(mgL (prS c w (spT c w x y)) (spT c w x y).length).length=(spT c w x y).length:=by unfold mgL;rw[Kb (n:=0),BW]
   show(clsF c w (spT c w x y)).length<=_;unfold clsF;omega
theorem p3(x:Cat×List Int×Int×Int)(h:okT (PT S3.ps) x):G3 x=some true:=by
 obtain⟨c,w,x,y⟩:=x;obtain⟨⟨_,h1,h2,Z,J⟩,e,_⟩:=h;unfold G3;by_cases F:(1048576:Int)<((w.length:Nat):Int)
 .simp only[F,decide_true,cond_true]
 have e:w.length<=1048576:=by omega
 simp only[F,decide_false,cond_false,Prod.eta];obtain⟨O,e1,f1⟩:=p7 (c:=c) h1.1 h2.1 Z.1 J.1 (λy Y=>(J.2 y Y).1)
 simp only[e1,Option.bind_some];by_cases E:O<0
 .simp only[E,decide_true,cond_true]
 have A:=(f1.resolve_left E).2.2;have B:=ZL (c:=c) (w:=w) (x:=x) (y:=y);simp only[E,decide_false,cond_false,p9 A,p10 e,p8 A e,p11 A e,Option.bind_some];generalize ZM c w x y=r at B;obtain⟨k1,y1,a1,b1,c1⟩:=mk14 (c:=c) (k:=1) (by omega) (by omega) A
 obtain⟨k2,y2,a2,b2,c2,d2⟩:=mh15 (x:=w) (k:=k1) b1 (by omega) e
 obtain⟨k3,y3,a3,b3,c3,d3⟩:=mh15 (x:=r.1) (k:=1) (by omega) (by omega) B
 have W:¬ (k2<0):=by omega
 have U:¬ (k3<0):=by omega
 simp only[p12 B,p13 A,p12 e,a1,a2,a3,d3,W,U,Option.bind_some,Bool.not_true,cond_false,decide_true,decide_false]
end Go.Ve.D

