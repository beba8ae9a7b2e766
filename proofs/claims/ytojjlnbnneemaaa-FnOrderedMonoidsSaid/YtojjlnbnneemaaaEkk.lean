/- The category of a commutative monoid, on both sides, to the number; equal answers are alike. -/
import Derived.Test.YtojjlnbnneemaaaEkh
import Derived.Test.YtojjlnbnneemaaaEja
set_option linter.all false
namespace Go.Ve.D
open Go Go.Ve
noncomputable section
variable{c:Cat}{k:Nat}
variable {r t:List (List Int)}{n:Nat}
def zC:Cat:=(0,([],([],([],[]))))
def one(t:List (List Int)):Cat:=((1:Int),(List.replicate t.length (0:Int),(List.replicate t.length (0:Int),([(0:Int)],t))))
def Yd(t:List (List Int))(n:Nat):Prop:=∀a,a<n->∀b,b<n->cell t a b=cell t b a
open Classical in
def cmR(t:List (List Int)):MC×Int:=if Cn t t.length then(if Yd t t.length then(if t.length<=40 then(mkM (one t) 0 [[0]] t,0)else(zM,3))else(zM,5))else(zM,1)
open Classical in
def onR(t:List (List Int)):Cat×Int:=if Cn t t.length then(if t.length<=40 then(one t,0)else(zC,3))else(zC,1)
theorem p17x(A:okN 1000 t):Tot (λz=>z=onR t) (G17 t):=by
 unfold G17;obtain⟨b,J,E⟩:=p42x A;have M:=A.1;have L:okN 1048576 t:=⟨by omega,λy F=>Nat.le_trans (A.2 y F) (by omega)⟩
 refine AI J (Ak (λe=>Aa ?_) λe=>?_)
 .have:¬Cn t t.length:=λB=>by rw[E.2 B]at e;cases e
  unfold onR;rw[if_neg this];rfl
 have B:Cn t t.length:=E.1 (by simpa using e)
 unfold onR;rw[if_pos B];refine Ak (λe=>?_) λe=>?_
 .have e:=Bz e
  rw[if_neg (by omega)]
  exact Aa rfl
 .have e:=DF e
  rw[if_pos (by omega)]
  refine Ab ⟨by omega,by omega,by omega,by omega⟩ (Ab ⟨by omega,by omega,by omega,by omega⟩ (AI (p44 L) (Aa ?_)))
  rw[tNC];rfl
theorem p13x(U:okN 1000 t):Tot (λz=>z=cmR t) (G13 t):=by
 unfold G13;obtain⟨b,A,h1⟩:=p42x U;have hl:=U.1;have hN:okN 1048576 t:=⟨by omega,λy hy=>Nat.le_trans (U.2 y hy) (by omega)⟩
 refine AI A (Ak (λe=>Aa ?_) λe=>?_)
 .have:¬Cn t t.length:=λF=>by rw[h1.2 F]at e;cases e
  unfold cmR;rw[if_neg this];rfl
 have F:Cn t t.length:=h1.1 (by simpa using e)
 have M:∀x:Nat,x<t.length->((0:Int)<=(x:Int))/\((x:Int)<((t.length:Nat):Int)):=λx hx=>by omega
 have E:∀x y:Nat,x<t.length->y<t.length->((0:Int)<=(y:Int))/\((y:Int)<(((t.getD ((x:Int)).toNat []).length:Nat):Int)):=λx y hx hy=>by
  rw[tNC,F.tb.row x hx];omega
 have W:∀a b:Nat,(t.getD ((a:Int)).toNat []).getD ((b:Int)).toNat 0=cell t a b:=λa b=>by
  rw[tNC,tNC];rfl
 have Y:¬Yd t t.length->cmR t=(zM,5):=λh=>by unfold cmR;rw[if_pos F,if_neg h]
 refine Ao (n:=t.length) (λi v=>v.1=(i:Int)/\∀a,a<i->∀b,b<t.length->cell t a b=cell t b a) ⟨rfl,λa ha=>by omega⟩ (λa ha v B=>?_) λv B=>?_
 .obtain⟨k,m⟩:=v
  obtain⟨(J:k=(a:Int)),hI⟩:=B;subst J;refine AY (ltt ha) (Ab (M a ha) (Ao (n:=t.length) (λi v=>v.1=(i:Int)/\∀b,b<i->cell t a b=cell t b a) ⟨rfl,λa ha=>by omega⟩ (λb A v B=>?_) λv B=>?_))
  .obtain⟨k,m⟩:=v
   obtain⟨(J:k=(b:Int)),Z⟩:=B;subst J;refine AY (dT (E a b ha A).2) (Ab (E a b ha A) (Ab (M b A) (Ab (E b a A ha) (Ak (λe=>A4 (A4 (Aa ?_))) λe=>Aa ⟨wr1 A (by omega),Ct Z ?_⟩))))
   .have e:(!decide ((t.getD ((a:Int)).toNat []).getD ((b:Int)).toNat 0=(t.getD ((b:Int)).toNat []).getD ((a:Int)).toNat 0))=true:=e
    rw[Y λh=>?_]
    .rfl
    .rw[W,W,h a ha b A,dT rfl]at e
     cases e
   .have e:(!decide ((t.getD ((a:Int)).toNat []).getD ((b:Int)).toNat 0=(t.getD ((b:Int)).toNat []).getD ((a:Int)).toNat 0))=false:=e
    rw[W,W]at e;simpa using e
  .obtain⟨k,m⟩:=v
   obtain⟨(J:k=_),Z⟩:=B;subst J;exact AH (dF (by rw[tNC,F.tb.row a ha];omega)) (Aa (Ab rfl (Aa ⟨wr1 ha (by omega),Ct hI Z⟩)))
 .obtain⟨k,m⟩:=v
  obtain⟨(J:k=_),hI⟩:=B;subst J;refine AH ltf (Aa (Ab rfl (Ah (p17x U) λz L=>?_)))
  have hC:Yd t t.length:=hI;unfold cmR;unfold onR at L;rw[if_pos F]at L;rw[if_pos F,if_pos hC];by_cases O:t.length<=40
  .rw[if_pos O]at L⊢
   subst L;exact AH rfl (AI (p44 hN) (Aa rfl))
  .rw[if_neg O]at L⊢
   subst L;exact AY rfl (Aa rfl)
theorem p14x(Z:okN 1000 t):Tot (λz=>z=cmR t) (G14 t):=by
 unfold G14;obtain⟨b,F,W⟩:=p47x Z;have hl:=Z.1;have hN:okN 1048576 t:=⟨by omega,λy hy=>Nat.le_trans (Z.2 y hy) (by omega)⟩
 refine AI F (Ak (λe=>Aa ?_) λe=>?_)
 .have:¬Cn t t.length:=λM=>by rw[W.2 M]at e;cases e
  unfold cmR;rw[if_neg this];rfl
 have M:Cn t t.length:=W.1 (by simpa using e)
 have L:∀x:Nat,x<t.length->((0:Int)<=(x:Int))/\((x:Int)<((t.length:Nat):Int)):=λx hx=>by omega
 have J:∀x y:Nat,x<t.length->y<t.length->((0:Int)<=(y:Int))/\((y:Int)<(((t.getD ((x:Int)).toNat []).length:Nat):Int)):=λx y hx hy=>by
  rw[tNC,M.tb.row x hx];omega
 have O:∀a b:Nat,(t.getD ((a:Int)).toNat []).getD ((b:Int)).toNat 0=cell t a b:=λa b=>by
  rw[tNC,tNC];rfl
 have Y:¬Yd t t.length->cmR t=(zM,5):=λh=>by unfold cmR;rw[if_pos M,if_neg h]
 refine Ao (n:=t.length) (λi v=>v.1=(i:Int)/\∀a,a<i->∀b,b<a->cell t a b=cell t b a) ⟨rfl,λa ha=>by omega⟩ (λa ha v B=>?_) λv B=>?_
 .obtain⟨k,m⟩:=v
  obtain⟨(E:k=(a:Int)),U⟩:=B;subst E;refine AY (ltt ha) (Ao (n:=a) (λi v=>v.1=(i:Int)/\∀b,b<i->cell t a b=cell t b a) ⟨rfl,λa ha=>by omega⟩ (λb F v B=>?_) λv B=>?_)
  .obtain⟨k,m⟩:=v
   obtain⟨(E:k=(b:Int)),hJ⟩:=B;subst E;have A:b<t.length:=by omega
   refine AY (ltt F) (Ab (L a ha) (Ab (J a b ha A) (Ab (L b A) (Ab (J b a A ha) (Ak (λe=>A4 (A4 (Aa ?_))) λe=>Aa ⟨wr1 F (by omega),Ct hJ ?_⟩)))))
   .have e:(!decide ((t.getD ((a:Int)).toNat []).getD ((b:Int)).toNat 0=(t.getD ((b:Int)).toNat []).getD ((a:Int)).toNat 0))=true:=e
    rw[Y λh=>?_]
    .rfl
    .rw[O,O,h a ha b A,dT rfl]at e
     cases e
   .have e:(!decide ((t.getD ((a:Int)).toNat []).getD ((b:Int)).toNat 0=(t.getD ((b:Int)).toNat []).getD ((a:Int)).toNat 0))=false:=e
    rw[O,O]at e;simpa using e
  .obtain⟨k,m⟩:=v
   obtain⟨(E:k=_),hJ⟩:=B;subst E;exact AH ltf (Aa (Ab rfl (Aa ⟨wr1 ha (by omega),Ct U hJ⟩)))
 .obtain⟨k,m⟩:=v
  obtain⟨(E:k=_),U⟩:=B;subst E;refine AH ltf (Aa (Ab rfl ?_));have hC:Yd t t.length:=λa ha b F=>by
   by_cases W:b<a
   .exact U a ha b W
   .by_cases h2:a<b
    .exact(U b F a h2).symm
    .have:a=b:=by omega
     rw[this]
  unfold cmR;rw[if_pos M,if_pos hC];refine Ak (λe=>?_) λe=>?_
  .have e:=Bz e
   rw[if_neg (by omega)]
   exact Aa rfl
  .have e:=DF e
   rw[if_pos (by omega)]
   exact AI (p54 hN) (Ab trivial (AI (p50 hN) (Aa rfl)))
def zg{n i:Nat}:(List.replicate n (0:Int)).getD i 0=0:=by
 rw[gDE,List.getElem?_replicate];split<;>rfl
def one_f:fT (one t) k=0:=zg
def one_t:tT (one t) k=0:=zg
def one_i{x:Nat}(h:x<1):(one t).2.2.2.1.getD x 0=0:=by
 have:x=0:=by omega
 subst this;rfl
theorem Abx(F:Cn t t.length)(Z:t.length<=40):H5 (one t)=true:=by
 have E:(one t).2.1.length=t.length:=List.length_replicate ..;have L:∀i j,i<t.length->j<t.length->cell t i j=(tt t i j:Int):=λi j A U=>(B2 F.tb A U).2
 have J:∀i j,i<t.length->j<t.length->tt t i j<t.length:=λi j A U=>(B2 F.tb A U).1
 have h0:=F.pos;have Y:∀f g,T (one t) f g=cell t f g:=λf g=>rfl
 have wz:wi 1 (List.replicate t.length (0:Int))=true:=Np λi _=>by rw[zg];omega
 have hs:HJ (one t)=true:=by
  unfold HJ;rw[bAE,bAE];refine⟨dT ⟨⟨by show(0:Int)<=1;omega,by show(1:Int)<=8;omega⟩,by rw[E];exact Z,?_,wz,wz,E.symm,rfl,Np λi A=>?_⟩,Bq λi A=>?_,Bq λf e=>?_⟩
  .show(List.replicate t.length (0:Int)).length=(List.replicate t.length (0:Int)).length
   rfl
  .have A:i<1:=A
   rw[one_i A,E];omega
  .have A:i<1:=A
   have:i=0:=by omega
   subst this;unfold Xo;have a1:(one t).2.1.getD ((one t).2.2.2.1.getD 0 0).toNat 0=0:=zg;have a2:(one t).2.2.1.getD ((one t).2.2.2.1.getD 0 0).toNat 0=0:=zg;rw[a1,a2];rfl
  .have e:f<t.length:=E▸e
   unfold Iw;have a1:((one t).2.2.2.2.getD f []).length=t.length:=F.tb.row f e;rw[a1,E,dT rfl,Bool.true_and];refine Bq λg B=>?_
   have a2:((one t).2.2.2.2.getD f []).getD g 0=(tt t f g:Int):=L f g e B;have a3:∀k,(one t).2.1.getD k 0=0:=λk=>zg
   have a4:∀k,(one t).2.2.1.getD k 0=0:=λk=>zg
   have a5:inn t.length (tt t f g:Int)=true:=DE.2 (by have:=J f g e B;omega)
   unfold Cw;rw[a2,E];simp only[a3,a4,a5];rfl
 unfold H5;rw[hs,Bool.true_and];unfold MM;rw[E,bAE];have W:∀x:Int,x=0->idn (one t) x=0:=λx hx=>by subst hx;rfl
 refine⟨Bq λf e=>?_,Bq λf e=>Bq λg B=>?_⟩
 .unfold K2
  have u1:(one t).2.1.getD f 0=0:=zg;have u2:(one t).2.2.1.getD f 0=0:=zg;rw[u1,u2,W 0 rfl,Y,Y,L 0 f h0 e,L f 0 e h0,(F.un e).1,(F.un e).2];simp
 .have M:∀a b,mt (one t) a b=true:=λa b=>dT ((zg (n:=t.length)).trans zg.symm)
  rw[M,cond_true];refine Bq λk O=>?_
  unfold Kz;rw[M,cond_true];simp only[Y];rw[L f g e B,L g k B O,tNC,tNC,L _ k (J f g e B) O,L f _ e (J g k B O),F.as e B O];simp
theorem Abw(A:Cn t t.length)(Y:t.length<=40)(hC:Yd t t.length):OG (one t) 0 [[0]] t=true:=by
 have U:ar (one t)=t.length:=List.length_replicate ..;have L:∀i j,i<t.length->j<t.length->cell t i j=(tt t i j:Int):=λi j O M=>(B2 A.tb O M).2
 have e:∀i j,i<t.length->j<t.length->tt t i j<t.length:=λi j O M=>(B2 A.tb O M).1
 have W:∀f g,T (one t) f g=cell t f g:=λf g=>rfl
 have Z:=A.pos;have cc:∀i j,i<t.length->j<t.length->tt t i j=tt t j i:=λi j O M=>by unfold tt;rw[hC i O j M]
 unfold OG KU;rw[Abx A Y,U,A.tb.tbl];have a1:inn (one t).1 0=true:=by show inn 1 0=true;decide
 have a2:tbl [[0]] (one t).1=true:=by show tbl [[0]] 1=true;decide
 have a3:BU [[0]] ((0:Int)).toNat=true:=by decide
 have a4:BU t (idA (one t) ((0:Int)).toNat)=true:=A.wh;rw[a1,a2,a3,a4];simp only[Bool.true_and,Bool.and_true];rw[bAE,bAE];refine⟨?_,?_,?_⟩
 .unfold P3
  rw[U];refine Bq λf J=>Bq λg B=>?_
  unfold enC;simp only[one_f,one_t];rfl
 .unfold Q3
  refine Bq λx hx=>Bq λy hy=>?_
  have hx:x<1:=hx;have hy:y<1:=hy;have ex:x=0:=by omega
  have ey:y=0:=by omega
  subst ex ey;unfold idM;have:cell t 0 0=0:=by rw[L 0 0 Z Z,(A.un Z).1];rfl
  exact dT (show cell t 0 0=0 from this)
 .unfold Aah
  rw[U];refine Bq λf J=>Bq λh E=>?_
  unfold exF;rw[U,Bool.or_eq_true];refine .inr (Bq λg B=>Bq λk F=>?_)
  unfold exC;rw[Bool.or_eq_true];refine .inr (dT ?_);rw[W,W,W,L f h J E,L g k B F,L f g J B,L h k E F];simp only[tNC];rw[L _ _ (e f h J E) (e g k B F),L _ _ (e f g J B) (e h k E F),A.as J E (e g k B F),A.as J B (e h k E F),<-A.as E B F,<-A.as B E F,cc h g E B]
theorem p31{x:List Int}(h:x.length<=1048576):G31 (x,x)=some true:=by
 have key:Tot (λb=>b=true) (G31 (x,x)):=by
  unfold G31;refine AH (by simp) (Ao (n:=x.length) (λi v=>v=(i:Int)) rfl (λi B v A=>?_) λv A=>?_)
  .subst A
   exact AY (ltt B) (Ab ⟨by omega,by show(i:Int)<((x.length:Nat):Int);omega⟩ (Ab ⟨by omega,by show(i:Int)<((x.length:Nat):Int);omega⟩ (AH (by simp) (Aa (wr1 B (by omega))))))
  .subst A
   exact AH ltf (Aa (Ab rfl (Aa rfl)))
 obtain⟨v,A,e⟩:=key;rw[A,e]
theorem p51(h:okN 1048576 t):G51 (t,t)=some true:=by
 have E:=h.1
 have key:Tot (λb=>b=true) (G51 (t,t)):=by
  unfold G51;refine AH (by simp) (Ao (n:=t.length) (λi v=>v=(i:Int)) rfl (λi B v A=>?_) λv A=>?_)
  .subst A
   exact AY (ltt B) (Ab ⟨by omega,by show(i:Int)<((t.length:Nat):Int);omega⟩ (Ab ⟨by omega,by show(i:Int)<((t.length:Nat):Int);omega⟩ (AI (p31 (getN h _)) (AH rfl (Aa (wr1 B (by omega)))))))
  .subst A
   exact AH ltf (Aa (Ab rfl (Aa rfl)))
 obtain⟨v,A,e⟩:=key;rw[A,e]
def p18(h:okC c):G18 (c,c)=some true:=by
 obtain⟨c1,c2,c3,c4,c5⟩:=c;obtain⟨F,E,B,A,e⟩:=h;unfold G18;simp only[decide_true,cond_true];rw[p31 F];simp only[Option.bind_some,cond_true];rw[p31 E];simp only[Option.bind_some,cond_true];rw[p31 B];simp only[Option.bind_some,cond_true];rw[p51 ⟨A,e⟩];rfl
def p10{u:Int}{ob am:List (List Int)}(h:Acx c ob am):G10 (mkM c u ob am,mkM c u ob am)=some true:=by
 obtain⟨E,B,A⟩:=h;have e:G18 ((c.1,(c.2.1,(c.2.2.1,(c.2.2.2.1,c.2.2.2.2)))),(c.1,(c.2.1,(c.2.2.1,(c.2.2.2.1,c.2.2.2.2)))))=some true:=p18 E;unfold G10 mkM;simp only[e,Option.bind_some,cond_true,decide_true,p51 B,p51 A]
end
end Go.Ve.D


namespace Go.Ve.D
open Go Go.Ve
noncomputable section
variable{y:List Int}{n:Nat}{s:Src}
variable {r t:List (List Int)}{n:Nat}
def R01(y:List Int):Prop:=∀j,y.getD j 0=0\/y.getD j 0=1
def E01(t:List (List Int)):Prop:=∀i j,cell t i j=0\/cell t i j=1
theorem R01.set{y:List Int}{j:Nat}{v:Int}(h:R01 y)(e:v=0\/v=1):R01 (y.set j v):=λk=>by
 by_cases A:j<y.length
 .rw[X8 A]
  split
  .exact e
  .exact h k
 .rw[List.set_eq_of_length_le (by omega)];exact h k
theorem R01.snoc{v:Int}(h:R01 y)(e:v=0\/v=1):R01 (y++[v]):=λk=>by
 rw[BY];split
 .exact h k
 .split
  .exact e
  .exact .inl rfl
def R01.nil:R01 []:=λ_=>.inl rfl
def E01.nil:E01 []:=λ_ _=>.inl rfl
def E01.row(h:E01 t)(i:Nat):R01 (t.getD i []):=λj=>h i j
theorem E01.set{y:List Int}{i:Nat}(h:E01 t)(e:R01 y):E01 (t.set i y):=λk j=>by
 unfold cell;by_cases A:i<t.length
 .rw[X8 A]
  split
  .exact e j
  .exact h k j
 .rw[List.set_eq_of_length_le (by omega)];exact h k j
def getA{α:Type}{F:List α}{x d:α}{k:Nat}:(F++[x]).getD k d=if k<F.length then F.getD k d else if k=F.length then x else d:=by
 by_cases h:k<F.length
 .rw[if_pos h,gDE,gAL h,<-gDE]
 .rw[if_neg h]
  by_cases e:k=F.length
  .rw[if_pos e,gDE,gAR (by omega),e];simp
  .rw[if_neg e,gDE,List.getElem?_eq_none (by simp;omega)];rfl
theorem E01.snoc(h:E01 t)(e:R01 y):E01 (t++[y]):=λk j=>by
 unfold cell;rw[getA];split
 .exact h k j
 .split
  .exact e j
  .exact .inl rfl
def Zq(n:Nat)(t:List (List Int)):Prop:=Sq n t/\E01 t
def Zq.set{y:List Int}{i:Nat}(h:Zq n t)(e:y.length=n)(A:R01 y):Zq n (t.set i y):=⟨h.1.set e,h.2.set A⟩
def Zq.h01(h:Zq n t):H01 t n:=⟨h.1,λi j _ _=>h.2 i j⟩
def SqS(t:List (List Int)):Prop:=∃n,0<n/\n<=4/\Sq n t
theorem SqS.big(h:SqS t):okN 1000 t:=by
 obtain⟨n,_,A,e⟩:=h;exact e.okN (by omega)
structure OKN(m:MC):Prop where
 ok:okC (catM m)
 tf:(catM m).2.2.1.length=(catM m).2.1.length
 ob:okN 1000 (obM m)
def Good2(r:MC×Src):Prop:=OKN r.1/\OkS r.2
theorem PJ(hn:n<=8)(B:nP r n<=40):okC (Cs r n):=by
 have e:okC ((n:Int),(Fs r n,(Ts r n,(idN r n n,CO r n (nP r n))))):=by
  refine⟨?_,?_,?_,?_,λy A=>?_⟩
  .show(Fs r n).length<=_
   rw[show(Fs r n).length=nP r n from List.length_map ..];omega
  .show(Ts r n).length<=_
   rw[show(Ts r n).length=nP r n from List.length_map ..];omega
  .show(idN r n n).length<=_
   simp[idN];omega
  .show(CO r n (nP r n)).length<=_
   simp[CO];omega
  .obtain⟨f,E,rfl⟩:=List.mem_map.1 (show y∈CO r n (nP r n)from A)
   simp[Wu];omega
 exact e
def Aby(hn:n<=8):okC (dC n):=by
 rw[<-M0];exact PJ hn (by rw[Zn];omega)
theorem QJ(h:okN 1000 t):okC (one t):=by
 have A:=h.1;refine⟨?_,?_,?_,?_,λy e=>?_⟩
 .show(List.replicate t.length (0:Int)).length<=_
  simp;omega
 .show(List.replicate t.length (0:Int)).length<=_
  simp;omega
 .show 1<=_
  omega
 .show t.length<=_
  omega
 .exact Nat.le_trans (h.2 y e) (by omega)
def p16n(B:okN 1000 t):Tot (λz=>z.2=0->OKN z.1) (G16 t):=L3 (p16x B) λz F e=>by
 subst F;unfold dsR at e⊢;by_cases E:Cn t t.length
 .rw[if_pos E]at e⊢
  by_cases A:t.length<=8
  .rw[if_pos A]
   exact⟨Aby A,rfl,B⟩
  .rw[if_neg A]at e
   cases e
 .rw[if_neg E]at e
  cases e
def p14n(A:okN 1000 t):Tot (λz=>z.2=0->OKN z.1) (G14 t):=L3 (p14x A) λz J e=>by
 subst J;unfold cmR at e⊢;by_cases B:Cn t t.length
 .rw[if_pos B]at e⊢
  by_cases E:Yd t t.length
  .rw[if_pos E]at e⊢
   by_cases F:t.length<=40
   .rw[if_pos F]
    exact⟨QJ A,rfl,by show okN 1000 [[0]];exact⟨by decide,by decide⟩⟩
   .rw[if_neg F]at e
    cases e
  .rw[if_neg E]at e
   cases e
 .rw[if_neg B]at e
  cases e
def om_ok(F:okN 1000 t)(e:(omR r t n).2=0):OKN (omR r t n).1:=by
 unfold omR at e⊢;by_cases E:HB r n/\Cn t t.length/\n=t.length
 .rw[if_pos E]at e⊢
  by_cases B:Cmp r t n
  .rw[if_pos B]at e⊢
   by_cases A:n<=8/\nP r n<=40
   .rw[if_pos A]
    refine⟨PJ A.1 A.2,?_,F⟩;show(Ts r n).length=(Fs r n).length;rw[List.length_map,List.length_map]
   .rw[if_neg A]at e
    cases e
  .rw[if_neg B]at e
   cases e
 .rw[if_neg E]at e
  cases e
def p9n(J:okN 1000 r)(F:okN 1000 t):Tot (λz=>z.2=0->OKN z.1) (G9 (r,t)):=by
 by_cases E:sqB r 2=true
 .have L:=sq_of E
  have H:H01 r r.length:=⟨L,λi j M U=>by
   have A:=aET.1 E i (List.mem_range.2 M);unfold rowB at A;rw[bAE]at A;have:=IZ A.2 (i:=j) (by rw[L.2 i M];exact U)
   unfold cell;omega⟩
  exact L3 (p9x H F J.1) λz O Y=>by
   subst O;exact om_ok F Y
 .obtain⟨A,W⟩:=J.big (by decide)
  have e:G46 r=some false:=by
   unfold G46;rw[p98 A W];simp[E]
  unfold G9;refine AI e (Ah (P:=λv=>v=true) (Aa rfl) λv B=>?_)
  subst B
  exact Ah (P:=λv=>v=true) (Aa rfl) λv B=>by
   subst B;exact Aa (λh=>by cases h)
def AaF:(dsR z2).2=0:=by
 obtain⟨b,e,B⟩:=p47x AaE;rw[z2_mon]at e;have A:Cn z2 z2.length:=B.1 (Option.some.inj e).symm;unfold dsR;rw[if_pos A,if_pos (by decide)]
def z2_n:Tot (λz=>OKN z.1) (G16 z2):=by
 obtain⟨v,B,e⟩:=p16x AaE;obtain⟨w,A,E⟩:=p16n AaE;refine⟨v,B,?_⟩;rw[B]at A;have:=Option.some.inj A;subst this;exact E (by rw[e];exact AaF)
theorem war2{R:Type}(hn:n<=1000){t:List (List Int)}(h:Zq n t){g:Nat->Int×List (List Int)->Option R}{Q:R->Prop}(U:∀k L,Zq n L->Tot Q (g 4 (k,L))):Tot Q (Option.bind (Ar (warB (n:Int)) ((0:Int),t)) (LO.fin g)):=by
 refine Ao (n:=n) (λi v=>v.1=(i:Int)/\Zq n v.2) ⟨rfl,h⟩ (λa ha v A=>?_) λv A=>?_
 .obtain⟨k,t⟩:=v
  obtain⟨rfl,e⟩:=A;refine AY (ltt ha) (Ao (n:=n) (λi v=>v.1=(i:Int)/\Zq n v.2) ⟨rfl,e⟩ (λb E v A=>?_) λv A=>?_)
  .obtain⟨k,t⟩:=v
   obtain⟨rfl,e⟩:=A;refine AY (ltt E) (Ao (n:=n) (λi v=>v.1=(i:Int)/\Zq n v.2) ⟨rfl,e⟩ (λd hd v A=>?_) λv A=>?_)
   .obtain⟨k,t⟩:=v
    obtain⟨rfl,e⟩:=A;have Y:t.length=n:=e.1.1;have M:∀i,i<n->(t.getD i []).length=n:=e.1.2;have B:((0:Int)<=(b:Int))/\((b:Int)<((t.length:Nat):Int)):=by omega
    have J:((0:Int)<=(a:Int))/\((a:Int)<((t.length:Nat):Int)):=by omega
    have F:∀x y:Nat,x<n->y<n->((0:Int)<=(y:Int))/\((y:Int)<(((t.getD ((x:Int)).toNat []).length:Nat):Int)):=λx y O W=>by
     rw[tNC,M x O];omega
    refine AY (ltt hd) (Ab B (Ab (F b a E ha) (Ah (P:=λ_=>True) (Ak (λ_=>Ab J (Ab (F a d ha hd) (Aa trivial))) λ_=>Aa trivial) λv _=>Ak (λ_=>Ab B (Ab (F b d E hd) (Aa ⟨wr1 hd (by omega),?_⟩))) λ_=>Aa ⟨wr1 hd (by omega),e⟩)))
    refine e.set ?_ ((e.2.row _).set (.inr rfl));rw[List.length_set,tNC];exact M b E
   .obtain⟨k,t⟩:=v
    obtain⟨rfl,e⟩:=A;exact AH ltf (Aa (Ab rfl (Aa ⟨wr1 E (by omega),e⟩)))
  .obtain⟨k,t⟩:=v
   obtain⟨rfl,e⟩:=A;exact AH ltf (Aa (Ab rfl (Aa ⟨wr1 ha (by omega),e⟩)))
 .obtain⟨k,t⟩:=v
  obtain⟨rfl,e⟩:=A;exact AH ltf (Aa (U _ _ e))
theorem p37s(hn:n<=1000)(h:OkS s):Tot (λr=>Zq n r.1/\OkS r.2) (G37 (n:Int) s):=by
 unfold G37;refine Ao (n:=n) (λi v=>v.1=(i:Int)/\OkS (v.2.1,(v.2.2.1,v.2.2.2.1))/\(v.2.2.2.2.length=i/\∀j,j<i->(v.2.2.2.2.getD j []).length=n)/\E01 v.2.2.2.2) ⟨rfl,h,⟨rfl,λj hj=>by omega⟩,E01.nil⟩ (λa ha v E=>?_) λv E=>?_
 .obtain⟨k,s1,s2,s3,t⟩:=v
  obtain⟨rfl,W,J,(M:E01 t)⟩:=E;refine AY (ltt ha) (Ab (by omega) (Ab ?_ (Ao (n:=n-(a+1)) (λi v=>v.1=((a+1+i:Nat):Int)/\OkS (v.2.1,(v.2.2.1,v.2.2.2.1))/\v.2.2.2.2.1=t/\v.2.2.2.2.2.length=n/\R01 v.2.2.2.2.2) ⟨wr1 ha (by omega),W,rfl,?_,R01.set (λj=>.inl zg) (.inr rfl)⟩ (λb hb v E=>?_) λv E=>?_)))
  .rw[tNC,List.length_replicate];omega
  .rw[List.length_set,tNC,List.length_replicate]
  .obtain⟨k,s4,Z,Y,L,r⟩:=v
   obtain⟨rfl,B,ht4,F,hR⟩:=E;have B:OkS (s4,(Z,Y)):=B;have U:a+1+b<n:=by omega
   refine AY (ltt U) (Ah (p38 B) λw O=>Ab ?_ (Aa ⟨wr1 U (by omega),O.2,ht4,?_,R01.set hR (by have:=O.1;obtain⟨g1,g2,_⟩:=this;have:=g2 (by omega);show w.1=0\/w.1=1;omega)⟩))
   .have F:r.length=n:=F
    show(0:Int)<=((a+1+b:Nat):Int)/\((a+1+b:Nat):Int)<((r.length:Nat):Int);omega
   .rw[List.length_set];exact F
  .obtain⟨k,s4,Z,Y,L,r⟩:=v
   obtain⟨hk,B,A,F,(hR:R01 r)⟩:=E;have B:OkS (s4,(Z,Y)):=B
   have e1:k=((n:Nat):Int):=by
    have:k=((a+1+(n-(a+1)):Nat):Int):=hk;omega
   have e2:L=t:=A;have F:r.length=n:=F;clear hk A;subst e1 e2;refine AH ltf (Aa (Ab rfl (Ab trivial (Ab ?_ (Aa ⟨wr1 ha (by omega),B,Sq.snoc J F,M.snoc hR⟩)))))
   have hl:L.length=a:=J.1;show L.length+1<=_;omega
 .obtain⟨k,s1,s2,s3,t⟩:=v
  obtain⟨rfl,W,J,(M:E01 t)⟩:=E;refine AH ltf (Aa (Ab rfl ?_));refine Ak (λh1=>?_) λ_=>?_
  .have h1:(1:Int)<(n:Int):=Bz h1
   refine Ah (p38 W) λv E=>Ak (λ_=>?_) λ_=>?_
   .have e:IntKind.wrap .i64 ((n:Int)-1)=((n-1:Nat):Int):=by
     rw[AL (by omega) (by omega)];omega
    have hl:t.length=n:=J.1
    have F:(t.getD (((n-1:Nat):Int)).toNat []).length=n:=by
     rw[tNC];exact J.2 (n-1) (by omega)
    rw[e];refine Ab (by show(0:Int)<=_/\_<((t.length:Nat):Int);omega) (Ah (p38 E.2) λw O=>Ab ?_ (war2 hn ?_ λk L A=>Ab rfl (Aa ⟨A,O.2⟩)))
    .obtain⟨⟨g1,g2,_⟩,_⟩:=O
     have:=g2 (by omega)
     show 0<=w.1/\w.1<(((t.getD (((n-1:Nat):Int)).toNat []).length:Nat):Int);omega
    .exact Zq.set ⟨J,M⟩ (by rw[List.length_set];exact F) ((M.row _).set (.inr rfl))
   .exact war2 hn ⟨J,M⟩ λk L A=>Ab rfl (Aa ⟨A,E.2⟩)
  .exact war2 hn ⟨J,M⟩ λk L A=>Ab rfl (Aa ⟨A,W⟩)
def p36s(h:OkS s):Tot (λr=>SqS r.1/\OkS r.2) (G36 () s):=by
 unfold G36;refine Ah (p38 h) λv A=>?_
 have e:=A.2
 refine Ak (λ_=>Ab trivial (Aa ⟨?_,e⟩)) λ_=>Ak (λ_=>Ab trivial (Aa ⟨?_,e⟩)) λ_=>Ak (λ_=>Ab trivial (Aa ⟨?_,e⟩)) λ_=>Ak (λ_=>Ab trivial (Aa ⟨?_,e⟩)) λ_=>
  Ak (λ_=>Ab trivial (Aa ⟨?_,e⟩)) λ_=>Ak (λ_=>Ab trivial (Aa ⟨?_,e⟩)) λ_=>Ak (λ_=>Ab trivial (Aa ⟨?_,e⟩)) λ_=>Ab trivial (Aa ⟨?_,e⟩)
 all_goals (dsimp only;first|exact⟨1,by decide,by decide,rfl,by decide⟩|exact⟨2,by decide,by decide,rfl,by decide⟩|exact⟨3,by decide,by decide,rfl,by decide⟩|exact⟨4,by decide,by decide,rfl,by decide⟩)
theorem p39n(h:OkS s):Tot Good2 (G39 () s):=by
 unfold G39;refine Ao (n:=10) (λi v=>v.1=(i:Int)/\OkS (v.2.1,(v.2.2.1,v.2.2.2.1))) ⟨rfl,h⟩ (λi hi v E=>?_) λv E=>?_
 .obtain⟨k,s1,s2,s3,m⟩:=v
  obtain⟨(F:k=(i:Int)),(hs:OkS (s1,(s2,s3)))⟩:=E;subst F;have w1:=wr1 (n:=10) hi (by decide)
  refine AY (by show decide ((i:Int)<10)=true;exact dT (by omega)) (Ah (p38 hs) λv1 hv1=>?_)
  have Y:=hv1.2;refine Ak (λ_=>?_) λ_=>Ak (λ_=>?_) λ_=>Ak (λ_=>?_) λ_=>?_
  .refine Ah (p36s Y) λv2 A=>Ah (p16n A.1.big) λv3 M=>Ak (λe=>?_) λ_=>Aa ⟨w1,A.2⟩
   exact A4 (Aa ⟨M (Bz e),A.2⟩)
  .refine Ah (p36s Y) λv2 A=>Ah (p14n A.1.big) λv3 M=>Ak (λe=>?_) λ_=>Aa ⟨w1,A.2⟩
   exact A4 (Aa ⟨M (Bz e),A.2⟩)
  .refine Ah (p38 Y) λv2 A=>?_
   obtain⟨d,src2⟩:=v2;obtain⟨⟨(g1:0<=d),(g2:(0:Int)<2->d<2),_⟩,(hs2:OkS src2)⟩:=A;have g2:=g2 (by decide)
   obtain⟨n,hn,hn1⟩:∃n:Nat,IntKind.wrap .i64 (2+d)=(n:Int)/\n<=3:=⟨(2+d).toNat,by rw[AL (by omega) (by omega)];omega,by omega⟩
   rw[show IntKind.wrap .i64 (2+(d,src2).1)=(n:Int)from hn]
   refine Ao (n:=n) (λi v=>v.1=(i:Int)/\(v.2.1.length=i/\∀j,j<i->(v.2.1.getD j []).length=n)/\(v.2.2.length=i/\∀j,j<i->(v.2.2.getD j []).length=n)) ⟨rfl,⟨rfl,λj hj=>by omega⟩,rfl,λj hj=>by omega⟩ (λa ha v E=>?_) λv E=>?_
   .obtain⟨k,rel,tab⟩:=v
    obtain⟨(F:k=(a:Int)),(L:rel.length=a/\∀j,j<a->(rel.getD j []).length=n),(J:tab.length=a/\∀j,j<a->(tab.getD j []).length=n)⟩:=E;subst F;have l1:=L.1;have l2:=J.1;refine AY (ltt ha) (Ao (n:=n) (λi v=>v.1=(i:Int)/\v.2.1.length=i/\v.2.2.length=i) ⟨rfl,rfl,rfl⟩ (λb hb v E=>?_) λv E=>?_)
    .obtain⟨k,row,B⟩:=v
     obtain⟨(F:k=(b:Int)),(h1:row.length=b),(h2:B.length=b)⟩:=E;subst F;refine AY (ltt hb) (Ak (λ_=>?_) λ_=>?_)
     .refine Ab (by show row.length+1<=_;omega) (Ab (by show B.length+1<=_;omega) (Aa ⟨wr1 hb (by omega),?_,?_⟩))
      .show(row++_).length=b+1
       rw[List.length_append,h1];rfl
      .show(B++_).length=b+1
       rw[List.length_append,h2];rfl
     .refine Ab (by show row.length+1<=_;omega) (Ab (by show B.length+1<=_;omega) (Aa ⟨wr1 hb (by omega),?_,?_⟩))
      .show(row++_).length=b+1
       rw[List.length_append,h1];rfl
      .show(B++_).length=b+1
       rw[List.length_append,h2];rfl
    .obtain⟨k,row,B⟩:=v
     obtain⟨(F:k=(n:Int)),(h1:row.length=n),(h2:B.length=n)⟩:=E;subst F;exact AH ltf (Aa (Ab rfl (Ab trivial (Ab (by show rel.length+1<=_;omega) (Ab trivial (Ab (by show tab.length+1<=_;omega) (Aa ⟨wr1 ha (by omega),Sq.snoc L h1,Sq.snoc J h2⟩)))))))
   .obtain⟨k,rel,tab⟩:=v
    obtain⟨(F:k=(n:Int)),(L:Sq n rel),(J:Sq n tab)⟩:=E;subst F;refine AH ltf (Aa (Ab rfl (Ah (p38 hs2) λv4 hv4=>?_)))
    have hs4:=hv4.2;refine Ak (λ_=>?_) λ_=>?_
    .refine Ao (n:=n) (λi v=>v.1=(i:Int)/\OkS (v.2.1,(v.2.2.1,v.2.2.2.1))/\Sq n v.2.2.2.2.2.2.2.2.2.2.2.2.2.2.2.2.2.2.2.2.1/\Sq n v.2.2.2.2.2.2.2.2.2.2.2.2.2.2.2.2.2.2.2.2.2) ⟨rfl,hs4,L,J⟩ (λa ha v E=>?_) λv E=>?_
     .obtain⟨k,r⟩:=v
      obtain⟨(F:k=(a:Int)),Z,U,ha3⟩:=E;subst F;have hl:=U.1;refine AY (by show decide ((a:Int)<(((r.2.2.2.2.2.2.2.2.2.2.2.2.2.2.2.2.2.2.2.1).length:Nat):Int))=true;exact dT (by have:(r.2.2.2.2.2.2.2.2.2.2.2.2.2.2.2.2.2.2.2.1).length=n:=hl;omega)) (Ao (n:=a) (λi v=>v.1=(i:Int)/\OkS (v.2.1,(v.2.2.1,v.2.2.2.1))/\Sq n v.2.2.2.2.2.2.2.2.2.2.2.2.2.2.2.2.2.2.2.2.1/\Sq n v.2.2.2.2.2.2.2.2.2.2.2.2.2.2.2.2.2.2.2.2.2) ⟨rfl,Z,U,ha3⟩ (λb hb v E=>?_) λv E=>?_)
      .obtain⟨k,r⟩:=v
       obtain⟨(F:k=(b:Int)),hb1,hb2,hb3⟩:=E;subst F;obtain⟨R,hR⟩:∃R,R=r.2.2.2.2.2.2.2.2.2.2.2.2.2.2.2.2.2.2.2.1:=⟨_,rfl⟩;have hSq:Sq n R:=by rw[hR];exact hb2
       have O:b<n:=by omega
       have hin:∀x:Nat,x<n->((0:Int)<=(x:Int))/\((x:Int)<((R.length:Nat):Int)):=λx hx=>by rw[hSq.1];omega
       have hrow:∀x y:Nat,x<n->y<n->((0:Int)<=(y:Int))/\((y:Int)<(((R.getD ((x:Int)).toNat []).length:Nat):Int)):=λx y hx hy=>by
        rw[tNC,hSq.2 x hx];omega
       obtain⟨R2,hR2⟩:∃R2,R2=R.set ((a:Int)).toNat ((R.getD ((a:Int)).toNat []).set ((b:Int)).toNat ((R.getD ((b:Int)).toNat []).getD ((a:Int)).toNat 0)):=⟨_,rfl⟩;have W:Sq n R2:=by
        rw[hR2];exact hSq.set (by rw[List.length_set,tNC];exact hSq.2 a ha)
       have i7:((0:Int)<=(b:Int))/\((b:Int)<((R2.length:Nat):Int)):=by rw[W.1];omega
       have i8:((0:Int)<=(a:Int))/\((a:Int)<(((R2.getD ((b:Int)).toNat []).length:Nat):Int)):=by rw[tNC,W.2 b O];omega
       rw[hR2,hR]at i7 i8;have i1:=hin a ha;have i2:=hrow a b ha O;have i4:=hin b O;have i5:=hrow b a O ha;rw[hR]at i1 i2 i4 i5;refine AY (ltt hb) (Ab i1 (Ab i2 (Ab i1 (Ab i4 (Ab i5 (Ab i2 (Ab i7 (Ab i8 (Aa ⟨wr1 hb (by omega),hb1,?_,hb3⟩)))))))))
       have hS2:=W;rw[hR2,hR]at hS2;refine Sq.set hS2 ?_;rw[List.length_set,tNC];exact hS2.2 b O
      .obtain⟨k,r⟩:=v
       obtain⟨(F:k=(a:Int)),hb1,hb2,hb3⟩:=E;subst F;exact AH ltf (Aa (Ab rfl (Aa ⟨wr1 ha (by omega),hb1,hb2,hb3⟩)))
     .obtain⟨k,r⟩:=v
      obtain⟨(F:k=(n:Int)),Z,U,ha3⟩:=E;subst F;have hl:(r.2.2.2.2.2.2.2.2.2.2.2.2.2.2.2.2.2.2.2.1).length=n:=U.1;refine AH (by show decide ((n:Int)<(((r.2.2.2.2.2.2.2.2.2.2.2.2.2.2.2.2.2.2.2.1).length:Nat):Int))=false;exact dF (by omega)) (Aa (Ab rfl (Ah (p9n (U.okN (by omega)) (ha3.okN (by omega))) λv6 hv6=>Ak (λe=>A4 (Aa ⟨hv6 (Bz e),Z⟩)) λ_=>Aa ⟨w1,Z⟩)))
    .exact Ah (p9n (L.okN (by omega)) (J.okN (by omega))) λv5 hv5=>Ak (λe=>A4 (Aa ⟨hv5 (Bz e),hs4⟩)) λ_=>Aa ⟨w1,hs4⟩
  .refine Ah (p36s Y) λv2 A=>Ah (p37s (n:=v2.1.length) A.1.big.1 A.2) λv3 M=>Ah (p9n (M.1.1.okN A.1.big.1) A.1.big) λv4 hv4=>Ak (λe=>A4 (Aa ⟨hv4 (Bz e),M.2⟩)) λ_=>Aa ⟨w1,M.2⟩
 .obtain⟨k,s1,s2,s3,m⟩:=v
  obtain⟨(F:k=10),(hs:OkS (s1,(s2,s3)))⟩:=E;subst F;exact AH (by show decide ((10:Int)<10)=false;decide) (Aa (Ab rfl (Ab trivial (Ah z2_n λv E=>Aa ⟨E,hs⟩))))
end
end Go.Ve.D


namespace Go.Ve.D
open Go Go.Ve IntKind
noncomputable section
variable{x:List Int}
variable {r t:List (List Int)}{n:Nat}
def relB(m:MC):Option (LL×LL):=((Ar (fun(A:Int×LL)=>bif decide (A.1<m.1)then(Ar (fun(e:Int×LI)=>bif decide (e.1<m.1)then(G40 ((m.1,m.2.1,m.2.2.1,m.2.2.2.1,m.2.2.2.2.1),A.1,e.1)).bind λB=>if(e.2.length+((X7 1 (B.length:Int))::[]).length)<=17592186044416 then some (LO.next (i64.wrap (e.1+1),e.2++((X7 1 (B.length:Int))::[])))else none else some (LO.brk 2 e)) (0,[])).bind (LO.fin λE e=>if E=2 then if True then if(A.2.length+(e.2::[]).length)<=5864062014805 then some (LO.next (i64.wrap (A.1+1),A.2++(e.2::[])))else none else none else none)else some (LO.brk 0 A)) (0,[])).bind (LO.fin λF A=>if F=0 then some (A.2,m.2.2.2.2.2.2.1)else none))
def Aco(v:LL×LL):Prop:=∃n,n<=1000/\H01 v.1 n/\okN 1000 v.2
def min01(k:Nat):X7 1 (k:Int)=0\/X7 1 (k:Int)=1:=by
 unfold X7;split<;>omega
theorem Wz{m:MC}(h:OKN m)(hn:m.1=(((obM m).length:Nat):Int)):Tot Aco (relB m):=by
 unfold relB;obtain⟨n,e⟩:∃n,n=(obM m).length:=⟨_,rfl⟩;have W:n<=1000:=by rw[e];exact h.ob.1
 rw[<-e]at hn;have lt:∀i:Nat,i<n->decide ((i:Int)<m.1)=true:=λi L=>dT (by omega)
 have U:decide ((n:Int)<m.1)=false:=dF (by omega)
 have Y:∀x y,G40 ((m.1,(m.2.1,(m.2.2.1,(m.2.2.2.1,m.2.2.2.2.1)))),(x,y))=some (KT (catM m) x y):=λx y=>p40 h.ok.1 h.tf x y
 refine Ao (n:=n) (λi v=>v.1=(i:Int)/\(v.2.length=i/\∀j,j<i->(v.2.getD j []).length=n)/\E01 v.2) ⟨rfl,⟨rfl,λj J=>by omega⟩,E01.nil⟩ (λi L v A=>?_) λv A=>?_
 .obtain⟨k,t⟩:=v
  obtain⟨(B:k=_),(E:t.length=i/\∀j,j<i->(t.getD j []).length=n),(O:E01 t)⟩:=A;subst B;refine AY (lt i L) (Ao (n:=n) (λj v=>v.1=(j:Int)/\v.2.length=j/\R01 v.2) ⟨rfl,rfl,R01.nil⟩ (λj J v A=>?_) λv A=>?_)
  .obtain⟨k,y⟩:=v
   obtain⟨(B:k=_),(F:y.length=j),(M:R01 y)⟩:=A;subst B;refine AY (lt j J) (AI (Y _ _) (Ab (by show y.length+1<=_;omega) (Aa ⟨wr1 J (by omega),?_,R01.snoc M (min01 _)⟩)))
   show(y++[_]).length=j+1;rw[List.length_append,F];rfl
  .obtain⟨k,y⟩:=v
   obtain⟨(B:k=_),(F:y.length=n),(M:R01 y)⟩:=A;subst B;have:=E.1;exact AH U (Aa (Ab rfl (Ab trivial (Ab (by show t.length+1<=_;omega) (Aa ⟨wr1 L (by omega),Sq.snoc E F,O.snoc M⟩)))))
 .obtain⟨k,t⟩:=v
  obtain⟨(B:k=_),E,(O:E01 t)⟩:=A;subst B;exact AH U (Aa (Ab rfl (Aa ⟨n,W,⟨E,λi j _ _=>O i j⟩,h.ob⟩)))
def okN.set{m:Nat}{y:List Int}{i:Nat}(h:okN m t)(A:y.length<=m):okN m (t.set i y):=⟨by rw[List.length_set];exact h.1,λz e=>by
 rcases List.mem_or_eq_of_mem_set e with h1|h1
 .exact h.2 z h1
 .rw[h1];exact A⟩
theorem p7(hx:QL x):Tot Aco (G7 x):=by
 unfold G7;refine Ah (p35 hx) λv0 h0=>Ah (p36s h0) λJ U=>Ah (p38 U.2) λF Y=>Ab (by decide) ?_
 obtain⟨n,n0,n4,L⟩:=U.1
 obtain⟨k,hk,hz⟩:∃k:Nat,k<=5/\IntKind.wrap .i64 (((J.1.length:Nat):Int)+IntKind.wrap .i64 (Int.tdiv F.1 19))=(k:Int):=by
  obtain⟨⟨g1,g2,_⟩,_⟩:=Y;have g2:=g2 (by decide)
  have hd:Int.tdiv F.1 19=0\/Int.tdiv F.1 19=1:=by
   rw[Int.tdiv_eq_ediv_of_nonneg g1];omega
  have hl:=L.1;have w0:IntKind.wrap .i64 0=0:=by decide
  have Z:IntKind.wrap .i64 1=1:=by decide
  rcases hd with e|e
  .exact⟨n,by omega,by rw[e,w0,AL (by omega) (by omega)];omega⟩
  .exact⟨n+1,by omega,by rw[e,Z,AL (by omega) (by omega)];omega⟩
 rw[hz];have hl:=L.1;have hr:=L.2 0 n0;have E:=U.1.big;have A:∀v,okN 1000 (J.1.set ((0:Int)).toNat ((J.1.getD ((0:Int)).toNat []).set ((0:Int)).toNat v)):=λv=>E.set (by rw[List.length_set];exact getN E _)
 refine Ah (p37s (by omega) Y.2) λv3 B=>Ah (p38 B.2) λv4 W=>Ak (λ_=>?_) λ_=>?_
 .refine Ab (by omega) (Ah (p38 W.2) λv5 O=>Ab (by omega) (Ah (p38 O.2) λv6 h6=>Ak (λ_=>?_) λ_=>?_))
  .refine Ah (p39n h6.2) λv7 M=>Ak (λe=>Wz M.1 (Bz e).symm) λ_=>Aa ⟨k,by omega,B.1.h01,A _⟩
  .exact Aa ⟨k,by omega,B.1.h01,A _⟩
 .refine Ah (p38 W.2) λv5 O=>Ak (λ_=>?_) λ_=>?_
  .refine Ah (p39n O.2) λv7 M=>Ak (λe=>Wz M.1 (Bz e).symm) λ_=>Aa ⟨k,by omega,B.1.h01,E⟩
  .exact Aa ⟨k,by omega,B.1.h01,E⟩
theorem p53(U:QL x):Tot (okN 1000) (G53 x):=by
 unfold G53;refine Ah (p35 U) λv0 Z=>Ah (p36s Z) λA B=>Ah (p38 B.2) λv2 L=>?_
 obtain⟨n,n0,n4,F⟩:=B.1;have W:=F.1;have e:=B.1.big
 have e1:IntKind.wrap .i64 (((A.1.length:Nat):Int)+1)=((n+1:Nat):Int):=by
  rw[W,AL (by omega) (by omega)];omega
 refine Ak (λ_=>?_) λ_=>Ak (λ_=>?_) λ_=>Ak (λ_=>?_) λ_=>Aa e
 .refine Ah (p38 L.2) λE Y=>?_
  obtain⟨⟨g1,g2,_⟩,h3'⟩:=Y;have g2:=g2 (by omega)
  refine Ab ⟨g1,g2⟩ (Ah (p38 h3') λv4 J=>Ah (p38 J.2) λv5 h5=>Ab ?_ (Aa (e.set ?_)))
  .obtain⟨⟨f1,M,_⟩,_⟩:=J
   have M:=M (by omega)
   have:=F.2 E.1.toNat (by omega)
   omega
  .rw[List.length_set];exact getN e _
 .rw[e1]
  refine Ab ⟨by omega,by omega,by omega,by omega⟩ (Ab trivial (Ab (by show A.1.length+1<=_;omega) (Aa ⟨?_,λy O=>?_⟩)))
  .show(A.1++[_]).length<=_
   rw[List.length_append];show A.1.length+1<=_;omega
  .rcases List.mem_append.1 O with h|h
   .exact e.2 y h
   .rw[List.mem_singleton.1 h,List.length_replicate,tNC];omega
 .exact Ah (p38 L.2) λE _=>Ak (λ_=>Aa ⟨by decide,by decide⟩) λ_=>Aa e
end
end Go.Ve.D


namespace Go.Ve.D
open Go Go.Ve IntKind
noncomputable section
variable {r t:List (List Int)}{n:Nat}
def MOK(m:MC):Prop:=Acx (catM m) (obM m) (amM m)
def p10m{m:MC}(h:MOK m):G10 (m,m)=some true:=p10 h
theorem Nn:MOK zM:=⟨⟨Nat.zero_le _,Nat.zero_le _,Nat.zero_le _,Nat.zero_le _,λy e=>(by cases e)⟩,⟨Nat.zero_le _,λy e=>(by cases e)⟩,⟨Nat.zero_le _,λy e=>(by cases e)⟩⟩
def Z0:([[0]]:List (List Int)).length<=1048576/\∀y∈([[0]]:List (List Int)),y.length<=1048576:=⟨by decide,by decide⟩
def Kx(h:okN 1000 t):t.length<=1048576/\∀y∈t,y.length<=1048576:=h.big (by decide)
theorem Z1(F:okN 1000 t):MOK (omR r t n).1:=by
 unfold omR;by_cases B:HB r n/\Cn t t.length/\n=t.length
 .rw[if_pos B]
  by_cases A:Cmp r t n
  .rw[if_pos A]
   by_cases e:n<=8/\nP r n<=40
   .rw[if_pos e]
    refine⟨PJ e.1 e.2,Kx F,?_,λy E=>?_⟩
    .show(amP r t n).length<=_
     simp[amP];omega
    .obtain⟨f,J,rfl⟩:=List.mem_map.1 (show y∈amP r t n from E)
     simp;omega
   .rw[if_neg e];exact Nn
  .rw[if_neg A];exact Nn
 .rw[if_neg B];exact Nn
def om_mon(e:(omR r t n).2=0):G11 (omR r t n).1=some true\/¬okN 1000 t:=by
 by_cases J:okN 1000 t
 .refine .inl ?_
  have A:=Z1 (r:=r) (n:=n) J;unfold omR at e A⊢;by_cases B:HB r n/\Cn t t.length/\n=t.length
  .rw[if_pos B]at e A⊢
   by_cases F:Cmp r t n
   .rw[if_pos F]at e A⊢
    by_cases E:n<=8/\nP r n<=40
    .rw[if_pos E]at A⊢
     unfold G11;have:=p52 (u:=0) A;rw[show G52 (mkM (Cs r n) 0 t (amP r t n))=_ from p52 A]
     rw[QE B.1 (by rw[B.2.2];exact B.2.1) F E.1 E.2];rfl
    .rw[if_neg E]at e
     cases e
   .rw[if_neg F]at e
    cases e
  .rw[if_neg B]at e
   cases e
 .exact .inr J
def ds_mok(A:okN 1000 t):MOK (dsR t).1:=by
 unfold dsR;by_cases B:Cn t t.length
 .rw[if_pos B]
  by_cases e:t.length<=8
  .rw[if_pos e]
   exact⟨Aby e,Kx A,Kx A⟩
  .rw[if_neg e];exact Nn
 .rw[if_neg B];exact Nn
def ds_0(e:(dsR t).2=0):Cn t t.length/\t.length<=8/\dsR t=(mkM (dC t.length) 0 t t,0):=by
 unfold dsR at e⊢;by_cases B:Cn t t.length
 .rw[if_pos B]at e⊢
  by_cases A:t.length<=8
  .rw[if_pos A]
   exact⟨B,A,rfl⟩
  .rw[if_neg A]at e;cases e
 .rw[if_neg B]at e;cases e
def cm_mok(e:okN 1000 t):MOK (cmR t).1:=by
 unfold cmR;by_cases E:Cn t t.length
 .rw[if_pos E]
  by_cases B:Yd t t.length
  .rw[if_pos B]
   by_cases A:t.length<=40
   .rw[if_pos A]
    exact⟨QJ e,Z0,Kx e⟩
   .rw[if_neg A];exact Nn
  .rw[if_neg B];exact Nn
 .rw[if_neg E];exact Nn
def cm_0(e:(cmR t).2=0):Cn t t.length/\Yd t t.length/\t.length<=40/\cmR t=(mkM (one t) 0 [[0]] t,0)/\onR t=(one t,0):=by
 unfold cmR at e⊢;unfold onR;by_cases B:Cn t t.length
 .rw[if_pos B]at e⊢
  by_cases E:Yd t t.length
  .rw[if_pos E]at e⊢
   by_cases A:t.length<=40
   .rw[if_pos A,if_pos B,if_pos A]
    exact⟨B,E,A,rfl,rfl⟩
   .rw[if_neg A]at e;cases e
  .rw[if_neg E]at e;cases e
 .rw[if_neg B]at e;cases e
def p11{c:Cat}{u:Int}{ob am:List (List Int)}(ok:Acx c ob am):G11 (mkM c u ob am)=some (OG c u ob am):=by
 unfold G11;rw[p52 ok];rfl
def AbQ(m:MC)(t:LL):Option Bool:=(Ar (fun(e:Int×Int×LI×LI×LI×LL×Int×LL×LL×LL)=>bif decide (e.1<t.length)then if(0<=(t.length:Int))/\(((t.length:Int)<=(t.length:Int))/\(((8*(t.length:Int))<=281474976710656)/\((t.length:Int)<=9223372036854775807)))then if 0<=e.1/\e.1<(List.replicate ((t.length:Int)).toNat (0:Int)).length then if True then if(e.2.2.2.2.2.2.2.2.2.length+(((List.replicate ((t.length:Int)).toNat (0:Int)).set e.1.toNat 1)::[]).length)<=5864062014805 then some (LO.next (i64.wrap (e.1+1),e.2.1,e.2.2.1,e.2.2.2.1,e.2.2.2.2.1,e.2.2.2.2.2.1,e.2.2.2.2.2.2.1,e.2.2.2.2.2.2.2.1,e.2.2.2.2.2.2.2.2.1,e.2.2.2.2.2.2.2.2.2++(((List.replicate ((t.length:Int)).toNat (0:Int)).set e.1.toNat 1)::[])))else none else none else none else none else some (LO.brk 0 e)) (0,m.1,m.2.1,m.2.2.1,m.2.2.2.1,m.2.2.2.2.1,m.2.2.2.2.2.1,m.2.2.2.2.2.2.1,m.2.2.2.2.2.2.2,[])).bind (LO.fin λJ e=>if J=0 then(G8 (e.2.2.2.2.2.2.2.2.2,t)).bind λB=>(G11 (e.2.1,e.2.2.1,e.2.2.2.1,e.2.2.2.2.1,e.2.2.2.2.2.1,e.2.2.2.2.2.2.1,e.2.2.2.2.2.2.2.1,e.2.2.2.2.2.2.2.2.1)).bind λF=>Option.bind (bif F then some (decide (B.2=0))else some false) (fun(E:Bool)=>Option.bind (bif E then(G10 (B.1,e.2.1,e.2.2.1,e.2.2.2.1,e.2.2.2.2.1,e.2.2.2.2.2.1,e.2.2.2.2.2.2.1,e.2.2.2.2.2.2.2.1,e.2.2.2.2.2.2.2.2.1)).bind λA=>some A else some false) (fun(A:Bool)=>some A))else none)
theorem AbP(Y:okN 1000 t)(B:Cn t t.length)(h8:t.length<=8):Tot (λb=>b=true) (AbQ (mkM (dC t.length) 0 t t) t):=by
 unfold AbQ;refine Ao (n:=t.length) (λi v=>v.1=(i:Int)/\v.2.1=(dC t.length).1/\v.2.2.1=(dC t.length).2.1/\v.2.2.2.1=(dC t.length).2.2.1/\v.2.2.2.2.1=(dC t.length).2.2.2.1/\v.2.2.2.2.2.1=(dC t.length).2.2.2.2/\v.2.2.2.2.2.2.1=0/\v.2.2.2.2.2.2.2.1=t/\v.2.2.2.2.2.2.2.2.1=t/\v.2.2.2.2.2.2.2.2.2=(List.range i).map λi=>(List.replicate t.length (0:Int)).set i 1) ⟨rfl,rfl,rfl,rfl,rfl,rfl,rfl,rfl,rfl,rfl⟩ (λi hi v A=>?_) λv A=>?_
 .obtain⟨k,r0,r1,r2,r3,r4,r5,r6,e,rel⟩:=v
  obtain⟨(hk:k=(i:Int)),W,U,O,M,L,J,F,E,(Z:rel=_)⟩:=A;subst hk Z;refine AY (ltt hi) (Ab (by omega) (Ab ?_ (Ab trivial (Ab ?_ (Aa ⟨wr1 hi (by omega),W,U,O,M,L,J,F,E,?_⟩)))))
  .show(0:Int)<=(i:Int)/\(i:Int)<(((List.replicate (((t.length:Nat):Int)).toNat (0:Int)).length:Nat):Int)
   rw[List.length_replicate,tNC];omega
  .show((List.range i).map λi=>(List.replicate t.length (0:Int)).set i 1).length+1<=_
   rw[List.length_map,List.length_range];omega
  .show((List.range i).map λi=>(List.replicate t.length (0:Int)).set i 1)++[(List.replicate (((t.length:Nat):Int)).toNat (0:Int)).set ((i:Int)).toNat 1]=_
   rw[tNC,tNC];exact HI
 .obtain⟨k,r0,r1,r2,r3,r4,r5,r6,e,rel⟩:=v
  obtain⟨(hk:k=_),(W:r0=_),(U:r1=_),(O:r2=_),(M:r3=_),(L:r4=_),(J:r5=_),(F:r6=_),(E:e=_),(Z:rel=dI t.length)⟩:=A;subst hk W U O M L J F E Z;have hq:nP (dI e.length) e.length<=40:=by rw[Zn];omega
  have e1:omR (dI e.length) e e.length=(mkM (dC e.length) 0 e e,0):=by
   unfold omR;rw[if_pos ⟨Aal,B,rfl⟩,if_pos (Aam B),if_pos ⟨h8,hq⟩,M0,dI_am B]
  have e2:OG (dC e.length) 0 e e=true:=by
   have:=QE Aal B (Aam B) h8 hq;rw[M0,dI_am B]at this;exact this
  have ok:Acx (dC e.length) e e:=⟨Aby h8,Kx Y,Kx Y⟩;refine AH ltf (Aa (Ab rfl (Ah (p8x dI_01 Y (by omega)) λv A=>?_)))
  rw[e1]at A;subst A;refine AI (show G11 (mkM (dC e.length) 0 e e)=some true by rw[p11 ok,e2]) (Ah (P:=λv=>v=true) (AY rfl (Aa rfl)) λv A=>?_)
  subst A;refine Ah (P:=λv=>v=true) (AY rfl (AI (show G10 (mkM (dC e.length) 0 e e,mkM (dC e.length) 0 e e)=some true from p10 ok) (Aa rfl))) λv A=>Aa A
theorem law3{x:List Int}(L:QL x):Tot (λb=>b=true) (G3 x):=by
 unfold G3;refine AI rfl (Ak (λ_=>Aa rfl) λ_=>Ah (p7 L) λW h1=>?_)
 obtain⟨r,t⟩:=W;obtain⟨n,hn,hH,B⟩:=h1;have hH:H01 r n:=hH;have B:okN 1000 t:=B;refine Ah (p8x hH B hn) λv2 h2=>Ah (p9x hH B hn) λv3 h3=>?_
 subst h2 h3;refine Ah (P:=λv=>v=false) (AH (by simp) (AI (p10m (Z1 B)) (Aa rfl))) λv4 h4=>?_
 subst h4;refine AH rfl (Ah (P:=λv=>v=false) (Ak (λe=>AI ((om_mon (Bz e)).resolve_right (λh=>h B)) (Aa rfl)) λ_=>Aa rfl) λv5 h5=>?_)
 subst h5;refine AH rfl (Ah (P:=okN 1000) (Ah (p53 L) λv h=>Aa h) λs A=>?_)
 refine Ah (p13x A) λv7 h7=>Ah (p14x A) λv8 Z=>Ah (p15x A) λv9 Y=>Ah (p16x A) λU F=>?_
 subst h7 Z Y F;refine Ah (P:=λv=>v=false) (AH (by simp) (AI (p10m (cm_mok A)) (Aa rfl))) λv h=>?_
 subst h;refine Ah (P:=λv=>v=false) (AH rfl (Aa (by simp))) λv h=>?_
 subst h;refine Ah (P:=λv=>v=false) (AH rfl (AI (p10m (ds_mok A)) (Aa rfl))) λv h=>?_
 subst h;refine AH rfl ?_
 have fin:∀(o:Option Bool),((dsR s).2=0->o=AbQ (dsR s).1 s)->Tot (λb=>b=true) (bif !decide ((dsR s).2=0)then some true else o):=λo ho=>by
  refine Ak (λ_=>Aa rfl) λe=>?_
  have M:(dsR s).2=0:=by simpa using e
  obtain⟨g1,g2,J⟩:=ds_0 M;rw[ho M,J];exact AbP A g1 g2
 refine Ak (λe=>?_) λ_=>fin _ λ_=>rfl
 obtain⟨g1,g2,J,g4,g5⟩:=cm_0 (Bz e);refine Ah (p17x A) λO E=>?_
 subst E;rw[g4,g5];have ok:Acx (one s) [[0]] s:=⟨QJ A,Z0,Kx A⟩;refine AI (show G11 (mkM (one s) 0 [[0]] s)=some true by rw[p11 ok,Abw g1 J g2]) (Ah (P:=λv=>v=false) (AH rfl (Aa rfl)) λv h=>?_)
 subst h;refine Ah (P:=λv=>v=false) (AH rfl (AI (show G18 (one s,one s)=some true from p18 (QJ A)) (Aa rfl))) λv h=>?_
 subst h;exact AH rfl (fin _ λ_=>rfl)
def u8_in{n:Int}(h:(Lit.int .u8 n).wf=true):0<=n/\n<=255:=by
 have h:(decide (IntKind.u8.min<=n)&&decide (n<=IntKind.u8.max))=true:=h;rw[bAE,decide_eq_true_eq,decide_eq_true_eq]at h;have A:IntKind.u8.min=0:=by decide
 have e:IntKind.u8.max=255:=by decide
 omega
theorem p3(x:List Int)(h:okT (PT S3.ps) x):G3 x=some true:=by
 have h:x.length<=maxLen/\∀n∈x,(Lit.int .u8 n).wf=true:=h;by_cases A:x.length<=4096
 .obtain⟨b,e,rfl⟩:=law3 ⟨A,λb e=>u8_in (h.2 b e)⟩
  exact e
 .unfold G3
  exact Cf (v:=true) (congrArg some (dT (by omega))) rfl
end
end Go.Ve.D

