/- The product of two categories. -/
import Derived.Test.YtmmmafnkggaknaaGreatDrc
set_option linter.all false
namespace Go.Ve.D
open Go Go.Ve
noncomputable section
variable{c d:Ca}{a b m m2 n n2:Nat}{α:Type}
def fl{α:Type}(m m2:Nat)(F:Nat->Nat->α):List α:=(List.range m).flatMap λa=>(List.range m2).map (F a)
def HI{F:Nat->Nat->α}:fl a m2 F++(List.range m2).map (F a)=fl (a+1) m2 F:=by
 unfold fl;rw[List.range_succ,List.flatMap_append];simp
def BW{α:Type}{m2:Nat}{F:Nat->Nat->α}:∀{m:Nat},(fl m m2 F).length=m*m2
 |0=>by simp[fl]
 |m+1=>by rw[<-HI,List.length_append,BW,C4,Nat.succ_mul]
def Iy{α:Type}{m2:Nat}{F:Nat->Nat->α}{d:α}{a b:Nat}(u:b<m2):∀{m:Nat},a<m->(fl m m2 F).getD (a*m2+b) d=F a b
 |0,h=>absurd h (Nat.not_lt_zero _)
 |m+1,h=>by
  rw[<-HI];by_cases e:a=m
  .subst e;rw[VU BW,L7 u]
  .have A:a<m:=by omega
   rw[AD ?_,Iy u A];have:=Nat.mul_le_mul_right m2 (show a+1<=m by omega)
   rw[Nat.succ_mul]at this;rw[BW];omega
def D9(u:a<m)(e:b<m2):a*m2+b<m*m2:=by
 have:=Nat.mul_le_mul_right m2 (show a+1<=m by omega)
 rw[Nat.succ_mul]at this;omega
def Xn{e A:Nat}(E:b<m2)(B:A<m2)(h:a*m2+b=e*m2+A):a=e/\b=A:=by
 have u:a=e:=by
  rcases Nat.lt_trichotomy a e with u|u|u
  .have:=Nat.mul_le_mul_right m2 (show a+1<=e by omega);rw[Nat.succ_mul]at this;omega
  .exact u
  .have:=Nat.mul_le_mul_right m2 (show e+1<=a by omega);rw[Nat.succ_mul]at this;omega
 subst u;exact⟨rfl,by omega⟩
def Bt{k:Nat}(h:k<m*m2):∃a b,a<m/\b<m2/\k=a*m2+b:=by
 have e:0<m2:=by
  rcases Nat.eq_zero_or_pos m2 with e|e
  .subst e;omega
  .exact e
 refine⟨k/m2,k % m2,Nat.div_lt_of_lt_mul (by rw[Nat.mul_comm];exact h),Nat.mod_lt _ e,?_⟩
 have:=Nat.div_add_mod k m2;rw[Nat.mul_comm]at this;exact this.symm
theorem wmul{p q r:Nat}(u:p<=1000)(e:q<=1000)(A:r<=1000000):IntKind.wrap .i64 (IntKind.wrap .i64 ((p:Int)*(q:Int))+(r:Int))=((p*q+r:Nat):Int):=by
 have h:=Nat.mul_le_mul u e;rw[<-Int.natCast_mul,Ah (n:=((p*q:Nat):Int)) (by omega) (by omega),Ah (by omega) (by omega)];omega
abbrev Sv7(k ob:Int)(fr to id:LI)(e:LL):Int×Int×LI×LI×LI×LL×Ca:=(k,((0:Int),(([]:LI),(([]:LI),(([]:LI),(([]:LL),(ob,(fr,(to,(id,e))))))))))
def pI(c d:Ca)(m2 x y:Nat):Int:=IntKind.wrap .i64 (IntKind.wrap .i64 (aI c x*(m2:Int))+aI d y)
def pF(c d:Ca)(n2 a b:Nat):Int:=IntKind.wrap .i64 (IntKind.wrap .i64 (aF c a*(n2:Int))+aF d b)
def pT(c d:Ca)(n2 a b:Nat):Int:=IntKind.wrap .i64 (IntKind.wrap .i64 (aT c a*(n2:Int))+aT d b)
def pC(c d:Ca)(m2 a b f g:Nat):Int:=if 0<=aC c a f/\0<=aC d b g then IntKind.wrap .i64 (IntKind.wrap .i64 (aC c a f*(m2:Int))+aC d b g)else-1
def prC(c d:Ca)(n m n2 m2:Nat):Ca:=(IntKind.wrap .i64 ((n:Int)*(n2:Int)),(fl m m2 (pF c d n2),(fl m m2 (pT c d n2),(fl n n2 (pI c d m2),fl m m2 λa b=>fl m m2 (pC c d m2 a b)))))
def fl_0{F:Nat->Nat->α}:fl 0 m2 F=[]:=rfl
def flx{F:Nat->Nat->α}:fl a m2 F++(List.range 0).map (F a)=fl a m2 F:=by simp
theorem p118'(B:Sp c n m)(hd:Sp d n2 m2)(b1:n<=1000)(b2:m<=1000)(b3:n2<=1000)(b4:m2<=1000):G118 (c,d)=some (prC c d n m n2 m2):=by
 have e0:=B.ob;have e1:=B.lf;have e2:=hd.lf;have e3:=hd.lt;have e4:=hd.ob;have e5:=hd.li;have e6:=B.lc;have e7:=hd.lc;have e8:=B.li;have e9:=B.lt;have sz:∀{a b p q:Nat},a<p->b<q->p<=1000->q<=1000->a*q+b+1<=1000000:=λA u hp hq=>by
  have h1:=D9 A u;have h2:=Nat.mul_le_mul hp hq;omega
 unfold G118
 dsimp only
 rw[e0,e1,e2,e4];refine Ae (itD (st:=λx:Nat=>Sv7 x (IntKind.wrap .i64 ((n:Int)*(n2:Int))) [] [] (fl x n2 (pI c d m2)) []) (n:=n) (o:=.brk 0 (Sv7 n (IntKind.wrap .i64 ((n:Int)*(n2:Int))) [] [] (fl n n2 (pI c d m2)) [])) rfl (λx W=>?_) (LS rfl) (λy=>by simp)) (ifD rfl ?_)
 .refine LP W (Ae (itD (st:=λy:Nat=>Sv7 y (IntKind.wrap .i64 ((n:Int)*(n2:Int))) [] [] (fl x n2 (pI c d m2)++(List.range y).map (pI c d m2 x)) []) (n:=n2) (o:=.brk 2 (Sv7 n2 (IntKind.wrap .i64 ((n:Int)*(n2:Int))) [] [] (fl x n2 (pI c d m2)++(List.range n2).map (pI c d m2 x)) [])) ?_ (λy U=>?_) (LS rfl) (λy=>by simp)) (ifD rfl ?_))
  .rw[flx];rfl
  .refine LP U (ifD (by show(0:Int)<=(x:Int)/\(x:Int)<(c.2.2.2.1.length:Int);omega) (ifD (by show(0:Int)<=(y:Int)/\(y:Int)<(d.2.2.2.1.length:Int);omega) (ifD ?_ ?_)))
   .show(_++_:LI).length+1<=17592186044416
    have:=sz W U b1 b3;rw[List.length_append,BW,C4];omega
   .show some (LO.next (Sv7 (IntKind.wrap .i64 ((y:Int)+1)) _ [] [] ((fl x n2 (pI c d m2)++(List.range y).map (pI c d m2 x))++[pI c d m2 x y]) []))=_
    rw[Vz (F:=pI c d m2 x),wrD U (by omega)]
  .show some (LO.next (Sv7 (IntKind.wrap .i64 ((x:Int)+1)) _ [] [] (fl x n2 (pI c d m2)++(List.range n2).map (pI c d m2 x)) []))=_
   rw[HI,wrD W (by omega)]
 dsimp only
 refine Ae (itD (st:=λa:Nat=>Sv7 a (IntKind.wrap .i64 ((n:Int)*(n2:Int))) (fl a m2 (pF c d n2)) (fl a m2 (pT c d n2)) (fl n n2 (pI c d m2)) (fl a m2 λa b=>fl m m2 (pC c d m2 a b))) (n:=m) (o:=.brk 4 (Sv7 m (IntKind.wrap .i64 ((n:Int)*(n2:Int))) (fl m m2 (pF c d n2)) (fl m m2 (pT c d n2)) (fl n n2 (pI c d m2)) (fl m m2 λa b=>fl m m2 (pC c d m2 a b)))) rfl (λa A=>?_) (LS rfl) (λy=>by simp)) (ifD rfl rfl)
 refine LP A (Ae (itD (st:=λb:Nat=>Sv7 b (IntKind.wrap .i64 ((n:Int)*(n2:Int))) (fl a m2 (pF c d n2)++(List.range b).map (pF c d n2 a)) (fl a m2 (pT c d n2)++(List.range b).map (pT c d n2 a)) (fl n n2 (pI c d m2)) ((fl a m2 λa b=>fl m m2 (pC c d m2 a b))++(List.range b).map λb=>fl m m2 (pC c d m2 a b))) (n:=m2) (o:=.brk 6 (Sv7 m2 (IntKind.wrap .i64 ((n:Int)*(n2:Int))) (fl a m2 (pF c d n2)++(List.range m2).map (pF c d n2 a)) (fl a m2 (pT c d n2)++(List.range m2).map (pT c d n2 a)) (fl n n2 (pI c d m2)) ((fl a m2 λa b=>fl m m2 (pC c d m2 a b))++(List.range m2).map λb=>fl m m2 (pC c d m2 a b)))) ?_ (λb u=>?_) (LS rfl) (λy=>by simp)) (ifD rfl ?_))
 .rw[flx,flx,flx (F:=λa b=>fl m m2 (pC c d m2 a b))];rfl
 .have hsz:=sz A u b2 b4
  refine LP u (ifD (Ac A) (ifD (Ac u) (ifD ?_ (ifD (by show(0:Int)<=(a:Int)/\(a:Int)<(c.2.2.1.length:Int);omega) (ifD (by show(0:Int)<=(b:Int)/\(b:Int)<(d.2.2.1.length:Int);omega) (ifD ?_ ?_))))))
  .show(_++_:LI).length+1<=17592186044416
   rw[List.length_append,BW,C4];omega
  .show(_++_:LI).length+1<=17592186044416
   rw[List.length_append,BW,C4];omega
  have ia:(0:Int)<=(a:Int)/\(a:Int)<(c.2.2.2.2.length:Int):=by omega
  have ib:(0:Int)<=(b:Int)/\(b:Int)<(d.2.2.2.2.length:Int):=by omega
  refine Ae (itD (st:=λf:Nat=>((f:Int),fl f m2 (pC c d m2 a b))) (n:=m) (o:=.brk 8 ((m:Int),fl m m2 (pC c d m2 a b))) rfl (λf hf=>?_) (LS rfl) (λy=>by simp)) (ifD rfl (ifD trivial (ifD ?_ ?_)))
  .have jf:(0:Int)<=(f:Int)/\(f:Int)<((c.2.2.2.2.getD a []).length:Int):=by rw[B.lr a A];omega
   refine LP hf (Ae (itD (st:=λg:Nat=>((g:Int),fl f m2 (pC c d m2 a b)++(List.range g).map (pC c d m2 a b f))) (n:=m2) (o:=.brk 10 ((m2:Int),fl f m2 (pC c d m2 a b)++(List.range m2).map (pC c d m2 a b f))) (by rw[flx];rfl) (λg Z=>?_) (LS rfl) (λy=>by simp)) (ifD rfl ?_))
   .have jg:(0:Int)<=(g:Int)/\(g:Int)<((d.2.2.2.2.getD b []).length:Int):=by rw[hd.lr b u];omega
    have e:(fl f m2 (pC c d m2 a b)++(List.range g).map (pC c d m2 a b f)).length+1<=17592186044416:=by
     have:=sz hf Z b2 b4;rw[List.length_append,BW,C4];omega
    have E:∀{R:Type} v,v=pC c d m2 a b f g->some (LO.next (R:=R) (IntKind.wrap .i64 ((g:Int)+1),(fl f m2 (pC c d m2 a b)++(List.range g).map (pC c d m2 a b f))++[v]))=some (LO.next (((g+1:Nat):Int),fl f m2 (pC c d m2 a b)++(List.range (g+1)).map (pC c d m2 a b f))):=λv hv=>by
     rw[hv,Vz (F:=pC c d m2 a b f),wrD Z (by omega)]
    refine LP Z (ifD ia (ifD jf (Ae (v:=decide (0<=aC c a f)&&decide (0<=aC d b g)) ?_ ?_)))
    .show(bif decide (0<=aC c a f)then _ else _)=_
     cases decide (0<=aC c a f)
     .rfl
     .exact ifD ib (ifD jg rfl)
    .by_cases J:0<=aC c a f/\0<=aC d b g
     .rw[dT J.1,dT J.2]
      exact ifD ia (ifD jf (ifD ib (ifD jg (ifD e (E _ (by unfold pC;rw[if_pos J];rfl))))))
     .have:(decide (0<=aC c a f)&&decide (0<=aC d b g))=false:=by
       rw[Bool.and_eq_false_iff,decide_eq_false_iff_not,decide_eq_false_iff_not];by_cases h1:0<=aC c a f
       .exact .inr λh2=>J ⟨h1,h2⟩
       .exact .inl h1
      rw[this];exact ifD e (E _ (by unfold pC;rw[if_neg J]))
   .show some (LO.next (IntKind.wrap .i64 ((f:Int)+1),fl f m2 (pC c d m2 a b)++(List.range m2).map (pC c d m2 a b f)))=_
    rw[HI,wrD hf (by omega)]
  .show(_++_:LL).length+1<=5864062014805
   rw[List.length_append,BW,C4];omega
  .show some (LO.next (Sv7 (IntKind.wrap .i64 ((b:Int)+1)) _ ((fl a m2 (pF c d n2)++(List.range b).map (pF c d n2 a))++[pF c d n2 a b]) ((fl a m2 (pT c d n2)++(List.range b).map (pT c d n2 a))++[pT c d n2 a b]) _ (((fl a m2 λa b=>fl m m2 (pC c d m2 a b))++(List.range b).map λb=>fl m m2 (pC c d m2 a b))++[fl m m2 (pC c d m2 a b)])))=_
   rw[Vz (F:=pF c d n2 a),Vz (F:=pT c d n2 a),Vz (F:=λb=>fl m m2 (pC c d m2 a b)),wrD u (by omega)]
 .show some (LO.next (Sv7 (IntKind.wrap .i64 ((a:Int)+1)) _ (fl a m2 (pF c d n2)++(List.range m2).map (pF c d n2 a)) (fl a m2 (pT c d n2)++(List.range m2).map (pT c d n2 a)) _ ((fl a m2 λa b=>fl m m2 (pC c d m2 a b))++(List.range m2).map λb=>fl m m2 (pC c d m2 a b))))=_
  rw[HI,HI,HI (F:=λa b=>fl m m2 (pC c d m2 a b)),wrD A (by omega)]
theorem ZB(hc:Sp c n m)(hd:Sp d n2 m2)(b1:n<=1000)(b2:m<=1000)(b3:n2<=1000)(b4:m2<=1000):Sp (prC c d n m n2 m2) (n*n2) (m*m2):=by
 have F:∀a b x y:Nat,a<m->b<m2->aF c a=x->aF d b=y->x<n->y<n2->aF (prC c d n m n2 m2) (a*m2+b)=((x*n2+y:Nat):Int):=λa b x y B A e e' J E=>by
  show(fl m m2 (pF c d n2)).getD _ _=_;rw[Iy A B];unfold pF;rw[e,e',wmul (by omega) b3 (by omega)]
 have T:∀a b x y:Nat,a<m->b<m2->aT c a=x->aT d b=y->x<n->y<n2->aT (prC c d n m n2 m2) (a*m2+b)=((x*n2+y:Nat):Int):=λa b x y B A e e' J E=>by
  show(fl m m2 (pT c d n2)).getD _ _=_;rw[Iy A B];unfold pT;rw[e,e',wmul (by omega) b3 (by omega)]
 have R:∀a b:Nat,a<m->b<m2->(prC c d n m n2 m2).2.2.2.2.getD (a*m2+b) []=fl m m2 (pC c d m2 a b):=λa b B A=>Iy (F:=λa b=>fl m m2 (pC c d m2 a b)) A B
 have C:∀a b f g:Nat,a<m->b<m2->f<m->g<m2->aC (prC c d n m n2 m2) (a*m2+b) (f*m2+g)=pC c d m2 a b f g:=λa b f g B A W U=>by
  show((prC c d n m n2 m2).2.2.2.2.getD (a*m2+b) []).getD (f*m2+g) 0=_;rw[R a b B A,Iy U W]
 refine⟨?_,BW,BW,BW,BW,λk Z=>?_,λk Z=>?_,λk Z=>?_,λk Z=>?_,λk l Z hl he=>?_,λk l Z hl he=>?_⟩
 .show IntKind.wrap .i64 ((n:Int)*(n2:Int))=_
  have:=wmul (p:=n) (q:=n2) (r:=0) b1 b3 (by omega)
  have h:=Nat.mul_le_mul b1 b3;rw[<-Int.natCast_mul,Ah (by omega) (by omega)]
 .obtain⟨a,b,B,A,rfl⟩:=Bt Z
  rw[R a b B A,BW]
 .obtain⟨a,b,B,A,rfl⟩:=Bt Z
  obtain⟨x,J,e⟩:=hc.fr a B;obtain⟨y,E,e'⟩:=hd.fr b A;exact⟨_,D9 J E,F a b x y B A e e' J E⟩
 .obtain⟨a,b,B,A,rfl⟩:=Bt Z
  obtain⟨x,J,e⟩:=hc.to a B;obtain⟨y,E,e'⟩:=hd.to b A;exact⟨_,D9 J E,T a b x y B A e e' J E⟩
 .obtain⟨x,y,J,E,rfl⟩:=Bt Z
  obtain⟨a,B,e⟩:=hc.ix x J;obtain⟨b,A,e'⟩:=hd.ix y E;refine⟨a*m2+b,D9 B A,?_⟩;show(fl n n2 (pI c d m2)).getD _ _=_;rw[Iy E J];unfold pI;rw[e,e',wmul (by omega) b4 (by omega)]
 .obtain⟨a,b,B,A,rfl⟩:=Bt Z
  obtain⟨f,g,W,U,rfl⟩:=Bt hl;obtain⟨x,J,e1⟩:=hc.to a B;obtain⟨y,E,e2⟩:=hd.to b A;obtain⟨x',hx',e3⟩:=hc.fr f W;obtain⟨y',hy',e4⟩:=hd.fr g U;rw[T a b x y B A e1 e2 J E,F f g x' y' W U e3 e4 hx' hy']at he;obtain⟨rfl,rfl⟩:=Xn E hy' (show x*n2+y=x'*n2+y' by omega)
  obtain⟨h1,a1,a2,a3,a4⟩:=hc.cp a f B W (by rw[e1,e3])
  obtain⟨h2,c1,c2,c3,c4⟩:=hd.cp b g A U (by rw[e2,e4])
  obtain⟨u,hu,f1⟩:=hc.fr a B;obtain⟨v,hv,f2⟩:=hd.fr b A;obtain⟨u',hu',f3⟩:=hc.to f W;obtain⟨v',hv',f4⟩:=hd.to g U;refine⟨h1*m2+h2,D9 a1 c1,?_,?_,?_⟩
  .rw[C a b f g B A W U];unfold pC
   rw[a2,c2,if_pos (by omega),wmul (by omega) b4 (by omega)]
  .rw[F h1 h2 u v a1 c1 (a3.trans f1) (c3.trans f2) hu hv,F a b u v B A f1 f2 hu hv]
  .rw[T h1 h2 u' v' a1 c1 (a4.trans f3) (c4.trans f4) hu' hv',T f g u' v' W U f3 f4 hu' hv']
 .obtain⟨a,b,B,A,rfl⟩:=Bt Z
  obtain⟨f,g,W,U,rfl⟩:=Bt hl;obtain⟨x,J,e1⟩:=hc.to a B;obtain⟨y,E,e2⟩:=hd.to b A;obtain⟨x',hx',e3⟩:=hc.fr f W;obtain⟨y',hy',e4⟩:=hd.fr g U;rw[T a b x y B A e1 e2 J E,F f g x' y' W U e3 e4 hx' hy']at he;rw[C a b f g B A W U];unfold pC;rw[if_neg ?_]
  .decide
  .rintro ⟨p1,p2⟩
   by_cases h1:aT c a=aF c f
   .by_cases h2:aT d b=aF d g
    .refine he ?_
     have:x=x':=by omega
     have:y=y':=by omega
     subst x y;rfl
    .have:=hd.cn b g A U h2;omega
   .have:=hc.cn a f B W h1;omega
def p118(e:Sp c n m)(hd:Sp d n2 m2)(E:n<=1000)(B:m<=1000)(A:n2<=1000)(u:m2<=1000):Tot (λr=>Sp r (n*n2) (m*m2)) (G118 (c,d)):=
 ⟨_,p118' e hd E B A u,ZB e hd E B A u⟩
end
end Go.Ve.D


namespace Go.Ve.D
open Go Go.Ve
noncomputable section
variable{c d:Ca}{m m2 n n2:Nat}
def opC(c:Ca)(m:Nat):Ca:=(c.1,(c.2.2.1,(c.2.1,(c.2.2.2.1,(List.range m).map λf=>(List.range m).map λg=>aC c g f))))
def op_sp(h:Sp c n m):Sp (opC c m) n m:=by
 have C:∀f g,f<m->g<m->aC (opC c m) f g=aC c g f:=λf g u A=>by
  show(((List.range m).map λf=>(List.range m).map λg=>aC c g f).getD f []).getD g 0=_
  rw[L7 u,L7 A]
 refine⟨h.ob,h.lt,h.lf,h.li,C4,λf u=>?_,h.to,h.fr,h.ix,λf g u A B=>?_,λf g u A B=>?_⟩
 .show(((List.range m).map λf=>(List.range m).map λg=>aC c g f).getD f []).length=m
  rw[L7 u,C4]
 .obtain⟨k,W,U,J,E⟩:=h.cp g f A u (Eq.symm B)
  exact⟨k,W,(C f g u A).trans U,E,J⟩
 .rw[C f g u A];exact h.cn g f A u λe=>B (Eq.symm e)
def p146(h:Sp c n m)(J:n<=1000)(E:m<=1000):Tot (λr=>Sp r n m) (G146 c):=by
 have A:=h.lf;have B:=h.lc;refine⟨opC c m,?_,op_sp h⟩;unfold G146;refine Ae (WC (by rw[h.lt];omega)) (Ae (WC (by rw[h.lf];omega)) (Ae (WC (by rw[h.li];omega)) ?_))
 rw[A];refine Ae (itD (st:=λf:Nat=>Sv7 f c.1 c.2.2.1 c.2.1 c.2.2.2.1 ((List.range f).map λf=>(List.range m).map λg=>aC c g f)) (n:=m) (o:=.brk 0 (Sv7 m c.1 c.2.2.1 c.2.1 c.2.2.2.1 ((List.range m).map λf=>(List.range m).map λg=>aC c g f))) rfl (λf u=>?_) (LS rfl) (λy=>by simp)) (ifD rfl rfl)
 refine LP u (Ae (itD (st:=λg:Nat=>((g:Int),(List.range g).map λg=>aC c g f)) (n:=m) (o:=.brk 2 ((m:Int),(List.range m).map λg=>aC c g f)) rfl (λg e=>LP e (ifD (by show(0:Int)<=(g:Int)/\(g:Int)<(c.2.2.2.2.length:Int);omega) (ifD (by show(0:Int)<=(f:Int)/\(f:Int)<((c.2.2.2.2.getD g []).length:Int);rw[h.lr g e];omega) (ifD (by rw[C4];show g+1<=_;omega) ?_)))) (LS rfl) (λy=>by simp)) (ifD rfl (ifD trivial (ifD (by rw[C4];show f+1<=_;omega) ?_))))
 .show some (LO.next (IntKind.wrap .i64 ((g:Int)+1),(List.range g).map (λg=>aC c g f)++[aC c g f]))=_
  rw[Xp (F:=λg=>aC c g f),wrD e (by omega)]
 .show some (LO.next (Sv7 (IntKind.wrap .i64 ((f:Int)+1)) c.1 c.2.2.1 c.2.1 c.2.2.2.1 ((List.range f).map (λf=>(List.range m).map λg=>aC c g f)++[(List.range m).map λg=>aC c g f])))=_
  rw[Xp (F:=λf=>(List.range m).map λg=>aC c g f),wrD u (by omega)]
def W5(A:Sp c n m)(hd:Sp d n2 m2)(J:n<=1000)(E:n2<=1000):
  (∀f,f<m->(∃x:Nat,x<n/\aF (Ja c d n m n2 m2) f=x)/\∃x:Nat,x<n/\aT (Ja c d n m n2 m2) f=x)/\∀f,f<m2->(∃x:Nat,x<n2/\aF (Ja c d n m n2 m2) (m+f)=((n+x:Nat):Int))/\∃x:Nat,x<n2/\aT (Ja c d n m n2 m2) (m+f)=((n+x:Nat):Int):=by
 refine⟨λf u=>⟨?_,?_⟩,λf u=>⟨?_,?_⟩⟩
 .obtain⟨x,B,e⟩:=A.fr f u
  exact⟨x,B,(AD (by rw[A.lf];exact u)).trans e⟩
 .obtain⟨x,B,e⟩:=A.to f u
  exact⟨x,B,(AD (by rw[A.lt];exact u)).trans e⟩
 .obtain⟨x,B,e⟩:=hd.fr f u
  refine⟨x,B,?_⟩;show(_++_:LI).getD _ _=_;rw[VU A.lf,L7 u,e,A.ob,Ah (by omega) (by omega)];omega
 .obtain⟨x,B,e⟩:=hd.to f u
  refine⟨x,B,?_⟩;show(_++_:LI).getD _ _=_;rw[VU A.lt,L7 u,e,A.ob,Ah (by omega) (by omega)];omega
def jF(r:Ca)(n n2:Nat):LI:=r.2.1++fl n n2 λx _=>(x:Int)
def jT(r:Ca)(n n2:Nat):LI:=r.2.2.1++fl n n2 λ_ y=>IntKind.wrap .i64 ((n:Int)+(y:Int))
def jC(r:Ca)(n n2 M f g:Nat):Int:=if(jT r n n2).getD f 0=(jF r n n2).getD g 0 then(if f<M/\g<M then aC r f g else IntKind.wrap .i64 (IntKind.wrap .i64 (IntKind.wrap .i64 ((M:Int)+IntKind.wrap .i64 ((jF r n n2).getD f 0*(n2:Int)))+(jT r n n2).getD g 0)-(n:Int)))else-1
def joC(r:Ca)(n n2 M:Nat):Ca:=(r.1,(jF r n n2,(jT r n n2,(r.2.2.2.1,(List.range (M+n*n2)).map λf=>(List.range (M+n*n2)).map λg=>jC r n n2 M f g))))
theorem p147'(hc:Sp c n m)(hd:Sp d n2 m2)(b1:n<=500)(b2:m<=500)(b3:n2<=500)(b4:m2<=500):G147 (c,d)=some (joC (Ja c d n m n2 m2) n n2 (m+m2)):=by
 have e0:=hc.ob;have e4:=hd.ob;have hs:=UN hc hd (by omega) (by omega) (by omega) (by omega)
 have A:=p117' hc hd (by omega) (by omega) (by omega) (by omega)
 generalize Ja c d n m n2 m2=r at hs A;generalize hM:m+m2=M at hs;have hM1:M<=1000:=by omega
 have g1:=hs.lf;have g2:=hs.lt;have g6:=hs.lc;have hnn:n*n2<=500*500:=Nat.mul_le_mul b1 b3;unfold G147;refine Ae A ?_
 dsimp only
 rw[e0,e4,g1];have sz:∀{a b:Nat},a<n->b<n2->a*n2+b+1<=250000:=λha hb=>by
  have h1:=D9 ha hb;omega
 refine Ae (itD (st:=λx:Nat=>Sv7 x r.1 (r.2.1++fl x n2 λx _=>(x:Int)) (r.2.2.1++fl x n2 λ_ y=>IntKind.wrap .i64 ((n:Int)+(y:Int))) r.2.2.2.1 r.2.2.2.2) (n:=n) (o:=.brk 0 (Sv7 n r.1 (jF r n n2) (jT r n n2) r.2.2.2.1 r.2.2.2.2)) ?_ (λx U=>?_) (LS rfl) (λy=>by simp)) (ifD rfl ?_)
 .rw[fl_0,fl_0,List.append_nil,List.append_nil];rfl
 .refine LP U (Ae (itD (st:=λy:Nat=>Sv7 y r.1 (r.2.1++(fl x n2 (λx _=>(x:Int))++(List.range y).map λ_=>(x:Int))) (r.2.2.1++(fl x n2 (λ_ y=>IntKind.wrap .i64 ((n:Int)+(y:Int)))++(List.range y).map fun(y:Nat)=>IntKind.wrap .i64 ((n:Int)+(y:Int)))) r.2.2.2.1 r.2.2.2.2) (n:=n2) (o:=.brk 2 (Sv7 n2 r.1 (r.2.1++(fl x n2 (λx _=>(x:Int))++(List.range n2).map λ_=>(x:Int))) (r.2.2.1++(fl x n2 (λ_ y=>IntKind.wrap .i64 ((n:Int)+(y:Int)))++(List.range n2).map fun(y:Nat)=>IntKind.wrap .i64 ((n:Int)+(y:Int)))) r.2.2.2.1 r.2.2.2.2)) ?_ (λy J=>?_) (LS rfl) (λy=>by simp)) (ifD rfl ?_))
  .rw[List.range_zero,List.map_nil,List.map_nil,List.append_nil,List.append_nil];rfl
  .refine LP J (ifD ?_ (ifD ?_ ?_))
   .show(_++_:LI).length+1<=17592186044416
    have:=sz U J;rw[List.length_append,List.length_append,BW,C4,g1];omega
   .show(_++_:LI).length+1<=17592186044416
    have:=sz U J;rw[List.length_append,List.length_append,BW,C4,g2];omega
   .show some (LO.next (Sv7 (IntKind.wrap .i64 ((y:Int)+1)) _ ((r.2.1++(fl x n2 (λx _=>(x:Int))++(List.range y).map λ_=>(x:Int)))++[(x:Int)]) ((r.2.2.1++(fl x n2 (λ_ y=>IntKind.wrap .i64 ((n:Int)+(y:Int)))++(List.range y).map fun(y:Nat)=>IntKind.wrap .i64 ((n:Int)+(y:Int))))++[IntKind.wrap .i64 ((n:Int)+(y:Int))]) _ _))=_
    rw[List.append_assoc,List.append_assoc,List.append_assoc,List.append_assoc,Xp (F:=λ_=>(x:Int)),Xp (F:=fun(y:Nat)=>IntKind.wrap .i64 ((n:Int)+(y:Int))),wrD J (by omega)]
  .show some (LO.next (Sv7 (IntKind.wrap .i64 ((x:Int)+1)) _ (r.2.1++(fl x n2 (λx _=>(x:Int))++(List.range n2).map λ_=>(x:Int))) (r.2.2.1++(fl x n2 (λ_ y=>IntKind.wrap .i64 ((n:Int)+(y:Int)))++(List.range n2).map fun(y:Nat)=>IntKind.wrap .i64 ((n:Int)+(y:Int)))) _ _))=_
   rw[HI (F:=λx _=>(x:Int)),HI (F:=λ_ y=>IntKind.wrap .i64 ((n:Int)+(y:Int))),wrD U (by omega)]
 dsimp only
 have hF:(jF r n n2).length=M+n*n2:=by unfold jF;rw[List.length_append,BW,g1]
 have hT:(jT r n n2).length=M+n*n2:=by unfold jT;rw[List.length_append,BW,g2]
 rw[hF,hT];have hK:M+n*n2<=1048576:=by omega
 have hJ:joC r n n2 M=(r.1,(jF r n n2,(jT r n n2,(r.2.2.2.1,(List.range (M+n*n2)).map λf=>(List.range (M+n*n2)).map λg=>jC r n n2 M f g)))):=rfl
 rw[hJ];generalize M+n*n2=K at hK;refine Ae (itD (st:=λf:Nat=>((f:Int),(List.range f).map λf=>(List.range K).map λg=>jC r n n2 M f g)) (n:=K) (o:=.brk 4 ((K:Int),(List.range K).map λf=>(List.range K).map λg=>jC r n n2 M f g)) rfl (λf Z=>?_) (LS rfl) (λy=>by simp)) (ifD rfl rfl)
 refine LP Z (Ae (itD (st:=λg:Nat=>((g:Int),(List.range g).map λg=>jC r n n2 M f g)) (n:=K) (o:=.brk 6 ((K:Int),(List.range K).map λg=>jC r n n2 M f g)) rfl (λg W=>?_) (LS rfl) (λy=>by simp)) (ifD rfl (ifD trivial (ifD (by rw[C4];show f+1<=_;omega) ?_))))
 .have e:((List.range g).map λg=>jC r n n2 M f g).length+1<=17592186044416:=by rw[C4];omega
  have B:∀{R:Type} v,v=jC r n n2 M f g->some (LO.next (R:=R) (IntKind.wrap .i64 ((g:Int)+1),(List.range g).map (λg=>jC r n n2 M f g)++[v]))=some (LO.next (((g+1:Nat):Int),(List.range (g+1)).map λg=>jC r n n2 M f g)):=λv hv=>by
   rw[hv,Xp (F:=λg=>jC r n n2 M f g),wrD W hK]
  refine LP W (ifD (Ac Z) (ifD (Ac W) ?_));show(bif !decide ((jT r n n2).getD f 0=(jF r n n2).getD g 0)then _ else _)=_;by_cases E:(jT r n n2).getD f 0=(jF r n n2).getD g 0
  .rw[dT E]
   refine Ae (v:=decide (f<M)&&decide (g<M)) ?_ ?_
   .show(bif decide ((f:Int)<(M:Int))then some (decide ((g:Int)<(M:Int)))else _)=_
    rw[Am,Am];cases decide (f<M)<;>rfl
   .by_cases u:f<M/\g<M
    .rw[dT u.1,dT u.2]
     exact ifD (by show(0:Int)<=(f:Int)/\(f:Int)<(r.2.2.2.2.length:Int);omega) (ifD (by show(0:Int)<=(g:Int)/\(g:Int)<((r.2.2.2.2.getD f []).length:Int);rw[hs.lr f u.1];omega) (ifD e (B _ (by unfold jC;rw[if_pos E,if_pos u];rfl))))
    .have:(decide (f<M)&&decide (g<M))=false:=by
      rw[Bool.and_eq_false_iff,decide_eq_false_iff_not,decide_eq_false_iff_not];omega
     rw[this];exact ifD (Ac Z) (ifD (Ac W) (ifD e (B _ (by unfold jC;rw[if_pos E,if_neg u];rfl))))
  .rw[dF E]
   exact ifD e (B _ (by unfold jC;rw[if_neg E]))
 .show some (LO.next (IntKind.wrap .i64 ((f:Int)+1),(List.range f).map (λf=>(List.range K).map λg=>jC r n n2 M f g)++[(List.range K).map λg=>jC r n n2 M f g]))=_
  rw[Xp (F:=λf=>(List.range K).map λg=>jC r n n2 M f g),wrD Z hK]
theorem ZZ{r:Ca}(hs:Sp r (n+n2) (m+m2))(b1:n<=500)(b2:m<=500)(b3:n2<=500)(b4:m2<=500)(hA:∀f,f<m->(∃x:Nat,x<n/\aF r f=x)/\∃x:Nat,x<n/\aT r f=x)(hB:∀f,f<m2->(∃x:Nat,x<n2/\aF r (m+f)=((n+x:Nat):Int))/\∃x:Nat,x<n2/\aT r (m+f)=((n+x:Nat):Int)):
  Sp (joC r n n2 (m+m2)) (n+n2) (m+m2+n*n2):=by
 have hnn:n*n2<=500*500:=Nat.mul_le_mul b1 b3;generalize hM:m+m2=M at hs;have F1:∀f,f<M->(jF r n n2).getD f 0=aF r f:=λf B=>AD (by rw[hs.lf];exact B)
 have T1:∀f,f<M->(jT r n n2).getD f 0=aT r f:=λf B=>AD (by rw[hs.lt];exact B)
 have F2:∀x y,x<n->y<n2->(jF r n n2).getD (M+(x*n2+y)) 0=(x:Int):=λx y A J=>by
  unfold jF;rw[VU hs.lf,Iy J A]
 have T2:∀x y,x<n->y<n2->(jT r n n2).getD (M+(x*n2+y)) 0=((n+y:Nat):Int):=λx y A J=>by
  unfold jT;rw[VU hs.lt,Iy J A,Ah (by omega) (by omega)];omega
 have C:∀f g,f<M+n*n2->g<M+n*n2->aC (joC r n n2 M) f g=jC r n n2 M f g:=λf g B Z=>by
  show(((List.range (M+n*n2)).map λf=>(List.range (M+n*n2)).map λg=>jC r n n2 M f g).getD f []).getD g 0=_
  rw[L7 B,L7 Z]
 -- where an arrow goes
 have E:∀f,f<M+n*n2->(f<M/\((∃x:Nat,x<n/\aF r f=x)/\∃x:Nat,x<n/\aT r f=x\/False))\/(f<M/\(∃x:Nat,x<n2/\aF r f=((n+x:Nat):Int))/\∃x:Nat,x<n2/\aT r f=((n+x:Nat):Int))\/∃x y,x<n/\y<n2/\f=M+(x*n2+y):=λf B=>by
  rcases Dk B with h|⟨k,h,rfl⟩
  .rw[<-hM]at h
   rcases Dk h with h'|⟨f',h',rfl⟩
   .obtain⟨a,x,b,e⟩:=hA f h'
    exact .inl ⟨by omega,a,x,.inl ⟨b,e⟩⟩
   .exact .inr (.inl ⟨by omega,hB f' h'⟩)
  .obtain⟨x,y,A,J,rfl⟩:=Bt h
   exact .inr (.inr ⟨x,y,A,J,rfl⟩)
 have new:∀f g a b:Nat,f<M+n*n2->g<M+n*n2->(jT r n n2).getD f 0=(jF r n n2).getD g 0->¬ (f<M/\g<M)->a<n->b<n2->(jF r n n2).getD f 0=a->(jT r n n2).getD g 0=((n+b:Nat):Int)->∃h:Nat,h<M+n*n2/\aC (joC r n n2 M) f g=h/\aF (joC r n n2 M) h=aF (joC r n n2 M) f/\aT (joC r n n2 M) h=aT (joC r n n2 M) g:=λf g a b B Z W u ha hb e1 e2=>by
  have U:=D9 ha hb;have h2:=Nat.mul_le_mul (show a<=500 by omega) b3
  refine⟨M+(a*n2+b),by omega,?_,(F2 a b ha hb).trans e1.symm,(T2 a b ha hb).trans e2.symm⟩
  rw[C f g B Z];unfold jC;rw[if_pos W,if_neg u,e1,e2,<-Int.natCast_mul,Ah (n:=((a*n2:Nat):Int)) (by omega) (by omega),Ah (n:=(M:Int)+((a*n2:Nat):Int)) (by omega) (by omega),Ah (n:=(M:Int)+((a*n2:Nat):Int)+((n+b:Nat):Int)) (by omega) (by omega),Ah (by omega) (by omega)]
  omega
 refine⟨hs.ob,?_,?_,hs.li,C4,λf B=>?_,λf B=>?_,λf B=>?_,λx A=>?_,λf g B Z W=>?_,λf g B Z W=>?_⟩
 .show(jF r n n2).length=_
  unfold jF;rw[List.length_append,BW,hs.lf]
 .show(jT r n n2).length=_
  unfold jT;rw[List.length_append,BW,hs.lt]
 .show(((List.range (M+n*n2)).map λf=>(List.range (M+n*n2)).map λg=>jC r n n2 M f g).getD f []).length=_
  rw[L7 B,C4]
 .rcases Dk B with h|⟨k,h,rfl⟩
  .obtain⟨x,A,e⟩:=hs.fr f h
   exact⟨x,A,(F1 f h).trans e⟩
  .obtain⟨x,y,A,J,rfl⟩:=Bt h
   exact⟨x,by omega,F2 x y A J⟩
 .rcases Dk B with h|⟨k,h,rfl⟩
  .obtain⟨x,A,e⟩:=hs.to f h
   exact⟨x,A,(T1 f h).trans e⟩
  .obtain⟨x,y,A,J,rfl⟩:=Bt h
   exact⟨n+y,by omega,T2 x y A J⟩
 .obtain⟨f,B,e⟩:=hs.ix x A
  exact⟨f,by omega,e⟩
 .have W:(jT r n n2).getD f 0=(jF r n n2).getD g 0:=W
  by_cases u:f<M/\g<M
  .obtain⟨k,U,h2,h3,h4⟩:=hs.cp f g u.1 u.2 (by rw[<-T1 f u.1,<-F1 g u.2];exact W)
   refine⟨k,by omega,?_,(F1 k U).trans (h3.trans (F1 f u.1).symm),(T1 k U).trans (h4.trans (T1 g u.2).symm)⟩
   rw[C f g B Z];unfold jC;rw[if_pos W,if_pos u];exact h2
  .rcases E f B with⟨U,⟨a,ha,ea⟩,b,hb⟩|⟨U,⟨a,ha,ea⟩,b,hb,eb⟩|⟨x,y,A,J,rfl⟩
   .obtain⟨x,y,A,J,rfl⟩:∃x y,x<n/\y<n2/\g=M+(x*n2+y):=by
     rcases E g Z with h|h|h
     .exact absurd ⟨U,h.1⟩ u
     .exact absurd ⟨U,h.1⟩ u
     .exact h
    exact new _ _ a y B Z W u ha J ((F1 f U).trans ea) (T2 x y A J)
   .obtain⟨x,y,A,J,rfl⟩:∃x y,x<n/\y<n2/\g=M+(x*n2+y):=by
     rcases E g Z with h|h|h
     .exact absurd ⟨U,h.1⟩ u
     .exact absurd ⟨U,h.1⟩ u
     .exact h
    rw[T1 f U,eb,F2 x y A J]at W;omega
   .rcases E g Z with⟨U,⟨a,ha,ea⟩,b,hb⟩|⟨U,⟨a,ha,ea⟩,b,hb,eb⟩|⟨x',y',hx',hy',rfl⟩
    .rw[T2 x y A J,F1 g U,ea]at W;omega
    .exact new _ _ x b B Z W u A hb (F2 x y A J) ((T1 g U).trans eb)
    .rw[T2 x y A J,F2 x' y' hx' hy']at W;omega
 .rw[C f g B Z];unfold jC
  rw[if_neg (show ¬ (jT r n n2).getD f 0=(jF r n n2).getD g 0 from W)];decide
def p147(e:Sp c n m)(hd:Sp d n2 m2)(E:n<=500)(B:m<=500)(A:n2<=500)(u:m2<=500):Tot (λr=>Sp r (n+n2) (m+m2+n*n2)) (G147 (c,d)):=by
 have h:=W5 e hd (by omega) (by omega)
 exact⟨_,p147' e hd E B A u,ZZ (UN e hd (by omega) (by omega) (by omega) (by omega)) E B A u h.1 h.2⟩
end
end Go.Ve.D

