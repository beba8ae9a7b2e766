/- The product of two categories. -/
import Derived.Test.YtojjlnbnneemaaaDrc
open List(range length_append append_nil map_nil append_assoc)
open Nat(succ_mul mul_le_mul)
open Go.IntKind(wrap)
set_option linter.all false
namespace Go.Ve.D
open Go Go.Ve
noncomputable section
variable{c d:Ca}{a b m m2 n n2:Nat}{α:Type}
def fl{α:Type}(m m2:Nat)(F:Nat->Nat->α):List α:=(range m).flatMap λa=>(range m2).map (F a)
def HQ{F:Nat->Nat->α}:fl a m2 F++(range m2).map (F a)=fl (a+1) m2 F:=by
 unfold fl;rw[List.range_succ,List.flatMap_append];simp
def BX{α:Type}{m2:Nat}{F:Nat->Nat->α}:∀{m:Nat},(fl m m2 F).length=m*m2
 |0=>by simp[fl]
 |m+1=>by rw[<-HQ,length_append,BX,Df,succ_mul]
def IJ{α:Type}{m2:Nat}{F:Nat->Nat->α}{d:α}{a b:Nat}(u:b<m2):∀{m:Nat},a<m->(fl m m2 F).getD (a*m2+b) d=F a b
 |0,h=>absurd h (Nat.not_lt_zero _)
 |m+1,h=>by
  rw[<-HQ];by_cases e:a=m
  .subst e;rw[Xk BX,MU u]
  .have A:a<m:=by omega
   rw[AE ?_,IJ u A];have:=Nat.mul_le_mul_right m2 (show a+1<=m by omega)
   rw[succ_mul]at this;rw[BX];omega
def Hb(A:a<m)(u:b<m2):a*m2+b<m*m2:=by
 have:=Nat.mul_le_mul_right m2 (show a+1<=m by omega)
 rw[succ_mul]at this;omega
def YQ{u B:Nat}(J:b<m2)(E:B<m2)(h:a*m2+b=u*m2+B):a=u/\b=B:=by
 have A:a=u:=by
  rcases Nat.lt_trichotomy a u with A|A|A
  .have:=Nat.mul_le_mul_right m2 (show a+1<=u by omega);rw[succ_mul]at this;omega
  .exact A
  .have:=Nat.mul_le_mul_right m2 (show u+1<=a by omega);rw[succ_mul]at this;omega
 subst A;exact⟨rfl,by omega⟩
def Bw{k:Nat}(h:k<m*m2):∃a b,a<m/\b<m2/\k=a*m2+b:=by
 have u:0<m2:=by
  rcases Nat.eq_zero_or_pos m2 with u|u
  .subst u;omega
  .exact u
 refine⟨k/m2,k % m2,Nat.div_lt_of_lt_mul (by rw[Nat.mul_comm];exact h),Nat.mod_lt _ u,?_⟩
 have:=Nat.div_add_mod k m2;rw[Nat.mul_comm]at this;exact this.symm
theorem wmul{p q r:Nat}(A:p<=1000)(u:q<=1000)(B:r<=1000000):wrap .i64 (wrap .i64 ((p:Int)*(q:Int))+(r:Int))=((p*q+r:Nat):Int):=by
 have h:=mul_le_mul A u;rw[<-Int.natCast_mul,Ah (n:=((p*q:Nat):Int)) (by omega) (by omega),Ah (by omega) (by omega)];omega
abbrev Sv7(k ob:Int)(fr to id:LI)(u:LL):Int×Int×LI×LI×LI×LL×Ca:=(k,((0:Int),(([]:LI),(([]:LI),(([]:LI),(([]:LL),(ob,(fr,(to,(id,u))))))))))
def pI(c d:Ca)(m2 x y:Nat):Int:=wrap .i64 (wrap .i64 (aI c x*(m2:Int))+aI d y)
def pF(c d:Ca)(n2 a b:Nat):Int:=wrap .i64 (wrap .i64 (aF c a*(n2:Int))+aF d b)
def pT(c d:Ca)(n2 a b:Nat):Int:=wrap .i64 (wrap .i64 (aT c a*(n2:Int))+aT d b)
def pC(c d:Ca)(m2 a b f g:Nat):Int:=if 0<=aC c a f/\0<=aC d b g then wrap .i64 (wrap .i64 (aC c a f*(m2:Int))+aC d b g)else-1
def prC(c d:Ca)(n m n2 m2:Nat):Ca:=(wrap .i64 ((n:Int)*(n2:Int)),(fl m m2 (pF c d n2),(fl m m2 (pT c d n2),(fl n n2 (pI c d m2),fl m m2 λa b=>fl m m2 (pC c d m2 a b)))))
def fl_0{F:Nat->Nat->α}:fl 0 m2 F=[]:=rfl
def flx{F:Nat->Nat->α}:fl a m2 F++(range 0).map (F a)=fl a m2 F:=by simp
theorem p166'(E:Sp c n m)(hd:Sp d n2 m2)(b1:n<=1000)(b2:m<=1000)(b3:n2<=1000)(b4:m2<=1000):G166 (c,d)=some (prC c d n m n2 m2):=by
 have e0:=E.ob;have e1:=E.lf;have e2:=hd.lf;have e3:=hd.lt;have e4:=hd.ob;have e5:=hd.li;have e6:=E.lc;have e7:=hd.lc;have e8:=E.li;have e9:=E.lt;have sz:∀{a b p q:Nat},a<p->b<q->p<=1000->q<=1000->a*q+b+1<=1000000:=λB A hp hq=>by
  have h1:=Hb B A;have h2:=mul_le_mul hp hq;omega
 delta G166 mA mB ln lw an l2 g2 k6 k8 lt gd l0 q4 q9 wz sc nx bk cp
 dsimp only
 rw[e0,e1,e2,e4];refine Ao (itD (st:=λx:Nat=>Sv7 x (wrap .i64 ((n:Int)*(n2:Int))) [] [] (fl x n2 (pI c d m2)) []) (n:=n) (o:=.brk 0 (Sv7 n (wrap .i64 ((n:Int)*(n2:Int))) [] [] (fl n n2 (pI c d m2)) [])) rfl (λx W=>?_) (MD rfl) (λy=>by simp)) (ifD rfl ?_)
 .refine MC W (Ao (itD (st:=λy:Nat=>Sv7 y (wrap .i64 ((n:Int)*(n2:Int))) [] [] (fl x n2 (pI c d m2)++(range y).map (pI c d m2 x)) []) (n:=n2) (o:=.brk 2 (Sv7 n2 (wrap .i64 ((n:Int)*(n2:Int))) [] [] (fl x n2 (pI c d m2)++(range n2).map (pI c d m2 x)) [])) ?_ (λy U=>?_) (MD rfl) (λy=>by simp)) (ifD rfl ?_))
  .rw[flx];rfl
  .refine MC U (ifD (by show(0:Int)<=(x:Int)/\(x:Int)<(c.2.2.2.1.length:Int);omega) (ifD (by show(0:Int)<=(y:Int)/\(y:Int)<(d.2.2.2.1.length:Int);omega) (ifD ?_ ?_)))
   .show(_++_:LI).length+1<=17592186044416
    have:=sz W U b1 b3;rw[length_append,BX,Df];omega
   .show some (LO.next (Sv7 (wrap .i64 ((y:Int)+1)) _ [] [] ((fl x n2 (pI c d m2)++(range y).map (pI c d m2 x))++[pI c d m2 x y]) []))=_
    rw[WR (F:=pI c d m2 x),wrD U (by omega)]
  .show some (LO.next (Sv7 (wrap .i64 ((x:Int)+1)) _ [] [] (fl x n2 (pI c d m2)++(range n2).map (pI c d m2 x)) []))=_
   rw[HQ,wrD W (by omega)]
 dsimp only
 refine Ao (itD (st:=λa:Nat=>Sv7 a (wrap .i64 ((n:Int)*(n2:Int))) (fl a m2 (pF c d n2)) (fl a m2 (pT c d n2)) (fl n n2 (pI c d m2)) (fl a m2 λa b=>fl m m2 (pC c d m2 a b))) (n:=m) (o:=.brk 4 (Sv7 m (wrap .i64 ((n:Int)*(n2:Int))) (fl m m2 (pF c d n2)) (fl m m2 (pT c d n2)) (fl n n2 (pI c d m2)) (fl m m2 λa b=>fl m m2 (pC c d m2 a b)))) rfl (λa B=>?_) (MD rfl) (λy=>by simp)) (ifD rfl rfl)
 refine MC B (Ao (itD (st:=λb:Nat=>Sv7 b (wrap .i64 ((n:Int)*(n2:Int))) (fl a m2 (pF c d n2)++(range b).map (pF c d n2 a)) (fl a m2 (pT c d n2)++(range b).map (pT c d n2 a)) (fl n n2 (pI c d m2)) ((fl a m2 λa b=>fl m m2 (pC c d m2 a b))++(range b).map λb=>fl m m2 (pC c d m2 a b))) (n:=m2) (o:=.brk 6 (Sv7 m2 (wrap .i64 ((n:Int)*(n2:Int))) (fl a m2 (pF c d n2)++(range m2).map (pF c d n2 a)) (fl a m2 (pT c d n2)++(range m2).map (pT c d n2 a)) (fl n n2 (pI c d m2)) ((fl a m2 λa b=>fl m m2 (pC c d m2 a b))++(range m2).map λb=>fl m m2 (pC c d m2 a b)))) ?_ (λb A=>?_) (MD rfl) (λy=>by simp)) (ifD rfl ?_))
 .rw[flx,flx,flx (F:=λa b=>fl m m2 (pC c d m2 a b))];rfl
 .have hsz:=sz B A b2 b4
  refine MC A (ifD (Ac B) (ifD (Ac A) (ifD ?_ (ifD (by show(0:Int)<=(a:Int)/\(a:Int)<(c.2.2.1.length:Int);omega) (ifD (by show(0:Int)<=(b:Int)/\(b:Int)<(d.2.2.1.length:Int);omega) (ifD ?_ ?_))))))
  .show(_++_:LI).length+1<=17592186044416
   rw[length_append,BX,Df];omega
  .show(_++_:LI).length+1<=17592186044416
   rw[length_append,BX,Df];omega
  have ia:(0:Int)<=(a:Int)/\(a:Int)<(c.2.2.2.2.length:Int):=by omega
  have ib:(0:Int)<=(b:Int)/\(b:Int)<(d.2.2.2.2.length:Int):=by omega
  refine Ao (itD (st:=λf:Nat=>((f:Int),fl f m2 (pC c d m2 a b))) (n:=m) (o:=.brk 8 ((m:Int),fl m m2 (pC c d m2 a b))) rfl (λf Z=>?_) (MD rfl) (λy=>by simp)) (ifD rfl (ifD trivial (ifD ?_ ?_)))
  .have jf:(0:Int)<=(f:Int)/\(f:Int)<((c.2.2.2.2.getD a []).length:Int):=by rw[E.lr a B];omega
   refine MC Z (Ao (itD (st:=λg:Nat=>((g:Int),fl f m2 (pC c d m2 a b)++(range g).map (pC c d m2 a b f))) (n:=m2) (o:=.brk 10 ((m2:Int),fl f m2 (pC c d m2 a b)++(range m2).map (pC c d m2 a b f))) (by rw[flx];rfl) (λg Y=>?_) (MD rfl) (λy=>by simp)) (ifD rfl ?_))
   .have jg:(0:Int)<=(g:Int)/\(g:Int)<((d.2.2.2.2.getD b []).length:Int):=by rw[hd.lr b A];omega
    have u:(fl f m2 (pC c d m2 a b)++(range g).map (pC c d m2 a b f)).length+1<=17592186044416:=by
     have:=sz Z Y b2 b4;rw[length_append,BX,Df];omega
    have J:∀{R:Type} v,v=pC c d m2 a b f g->some (LO.next (R:=R) (wrap .i64 ((g:Int)+1),(fl f m2 (pC c d m2 a b)++(range g).map (pC c d m2 a b f))++[v]))=some (LO.next (((g+1:Nat):Int),fl f m2 (pC c d m2 a b)++(range (g+1)).map (pC c d m2 a b f))):=λv hv=>by
     rw[hv,WR (F:=pC c d m2 a b f),wrD Y (by omega)]
    refine MC Y (ifD ia (ifD jf (Ao (v:=decide (0<=aC c a f)&&decide (0<=aC d b g)) ?_ ?_)))
    .show(bif decide (0<=aC c a f)then _ else _)=_
     cases decide (0<=aC c a f)
     .rfl
     .exact ifD ib (ifD jg rfl)
    .by_cases O:0<=aC c a f/\0<=aC d b g
     .rw[dT O.1,dT O.2]
      exact ifD ia (ifD jf (ifD ib (ifD jg (ifD u (J _ (by unfold pC;rw[if_pos O];rfl))))))
     .have:(decide (0<=aC c a f)&&decide (0<=aC d b g))=false:=by
       rw[Bool.and_eq_false_iff,decide_eq_false_iff_not,decide_eq_false_iff_not];by_cases h1:0<=aC c a f
       .exact .inr λh2=>O ⟨h1,h2⟩
       .exact .inl h1
      rw[this];exact ifD u (J _ (by unfold pC;rw[if_neg O]))
   .show some (LO.next (wrap .i64 ((f:Int)+1),fl f m2 (pC c d m2 a b)++(range m2).map (pC c d m2 a b f)))=_
    rw[HQ,wrD Z (by omega)]
  .show(_++_:LL).length+1<=5864062014805
   rw[length_append,BX,Df];omega
  .show some (LO.next (Sv7 (wrap .i64 ((b:Int)+1)) _ ((fl a m2 (pF c d n2)++(range b).map (pF c d n2 a))++[pF c d n2 a b]) ((fl a m2 (pT c d n2)++(range b).map (pT c d n2 a))++[pT c d n2 a b]) _ (((fl a m2 λa b=>fl m m2 (pC c d m2 a b))++(range b).map λb=>fl m m2 (pC c d m2 a b))++[fl m m2 (pC c d m2 a b)])))=_
   rw[WR (F:=pF c d n2 a),WR (F:=pT c d n2 a),WR (F:=λb=>fl m m2 (pC c d m2 a b)),wrD A (by omega)]
 .show some (LO.next (Sv7 (wrap .i64 ((a:Int)+1)) _ (fl a m2 (pF c d n2)++(range m2).map (pF c d n2 a)) (fl a m2 (pT c d n2)++(range m2).map (pT c d n2 a)) _ ((fl a m2 λa b=>fl m m2 (pC c d m2 a b))++(range m2).map λb=>fl m m2 (pC c d m2 a b))))=_
  rw[HQ,HQ,HQ (F:=λa b=>fl m m2 (pC c d m2 a b)),wrD B (by omega)]
theorem Abf(Y:Sp c n m)(hd:Sp d n2 m2)(b1:n<=1000)(b2:m<=1000)(b3:n2<=1000)(b4:m2<=1000):Sp (prC c d n m n2 m2) (n*n2) (m*m2):=by
 have F:∀a b x y:Nat,a<m->b<m2->aF c a=x->aF d b=y->x<n->y<n2->aF (prC c d n m n2 m2) (a*m2+b)=((x*n2+y:Nat):Int):=λa b x y B A e e' J E=>by
  show(fl m m2 (pF c d n2)).getD _ _=_;rw[IJ A B];unfold pF;rw[e,e',wmul (by omega) b3 (by omega)]
 have T:∀a b x y:Nat,a<m->b<m2->aT c a=x->aT d b=y->x<n->y<n2->aT (prC c d n m n2 m2) (a*m2+b)=((x*n2+y:Nat):Int):=λa b x y B A e e' J E=>by
  show(fl m m2 (pT c d n2)).getD _ _=_;rw[IJ A B];unfold pT;rw[e,e',wmul (by omega) b3 (by omega)]
 have R:∀a b:Nat,a<m->b<m2->(prC c d n m n2 m2).2.2.2.2.getD (a*m2+b) []=fl m m2 (pC c d m2 a b):=λa b B A=>IJ (F:=λa b=>fl m m2 (pC c d m2 a b)) A B
 have C:∀a b f g:Nat,a<m->b<m2->f<m->g<m2->aC (prC c d n m n2 m2) (a*m2+b) (f*m2+g)=pC c d m2 a b f g:=λa b f g B A U O=>by
  show((prC c d n m n2 m2).2.2.2.2.getD (a*m2+b) []).getD (f*m2+g) 0=_;rw[R a b B A,IJ O U]
 refine⟨?_,BX,BX,BX,BX,λk W=>?_,λk W=>?_,λk W=>?_,λk W=>?_,λk l W hl he=>?_,λk l W hl he=>?_⟩
 .show wrap .i64 ((n:Int)*(n2:Int))=_
  have:=wmul (p:=n) (q:=n2) (r:=0) b1 b3 (by omega)
  have h:=mul_le_mul b1 b3;rw[<-Int.natCast_mul,Ah (by omega) (by omega)]
 .obtain⟨a,b,B,A,rfl⟩:=Bw W
  rw[R a b B A,BX]
 .obtain⟨a,b,B,A,rfl⟩:=Bw W
  obtain⟨x,J,e⟩:=Y.fr a B;obtain⟨y,E,e'⟩:=hd.fr b A;exact⟨_,Hb J E,F a b x y B A e e' J E⟩
 .obtain⟨a,b,B,A,rfl⟩:=Bw W
  obtain⟨x,J,e⟩:=Y.to a B;obtain⟨y,E,e'⟩:=hd.to b A;exact⟨_,Hb J E,T a b x y B A e e' J E⟩
 .obtain⟨x,y,J,E,rfl⟩:=Bw W
  obtain⟨a,B,e⟩:=Y.ix x J;obtain⟨b,A,e'⟩:=hd.ix y E;refine⟨a*m2+b,Hb B A,?_⟩;show(fl n n2 (pI c d m2)).getD _ _=_;rw[IJ E J];unfold pI;rw[e,e',wmul (by omega) b4 (by omega)]
 .obtain⟨a,b,B,A,rfl⟩:=Bw W
  obtain⟨f,g,U,O,rfl⟩:=Bw hl;obtain⟨x,J,e1⟩:=Y.to a B;obtain⟨y,E,e2⟩:=hd.to b A;obtain⟨x',hx',e3⟩:=Y.fr f U;obtain⟨y',Z,e4⟩:=hd.fr g O;rw[T a b x y B A e1 e2 J E,F f g x' y' U O e3 e4 hx' Z]at he;obtain⟨rfl,rfl⟩:=YQ E Z (show x*n2+y=x'*n2+y' by omega)
  obtain⟨h1,a1,a2,a3,a4⟩:=Y.cp a f B U (by rw[e1,e3])
  obtain⟨h2,c1,c2,c3,c4⟩:=hd.cp b g A O (by rw[e2,e4])
  obtain⟨u,hu,f1⟩:=Y.fr a B;obtain⟨v,hv,f2⟩:=hd.fr b A;obtain⟨u',hu',f3⟩:=Y.to f U;obtain⟨v',hv',f4⟩:=hd.to g O;refine⟨h1*m2+h2,Hb a1 c1,?_,?_,?_⟩
  .rw[C a b f g B A U O];unfold pC
   rw[a2,c2,if_pos (by omega),wmul (by omega) b4 (by omega)]
  .rw[F h1 h2 u v a1 c1 (a3.trans f1) (c3.trans f2) hu hv,F a b u v B A f1 f2 hu hv]
  .rw[T h1 h2 u' v' a1 c1 (a4.trans f3) (c4.trans f4) hu' hv',T f g u' v' U O f3 f4 hu' hv']
 .obtain⟨a,b,B,A,rfl⟩:=Bw W
  obtain⟨f,g,U,O,rfl⟩:=Bw hl;obtain⟨x,J,e1⟩:=Y.to a B;obtain⟨y,E,e2⟩:=hd.to b A;obtain⟨x',hx',e3⟩:=Y.fr f U;obtain⟨y',Z,e4⟩:=hd.fr g O;rw[T a b x y B A e1 e2 J E,F f g x' y' U O e3 e4 hx' Z]at he;rw[C a b f g B A U O];unfold pC;rw[if_neg ?_]
  .decide
  .rintro ⟨p1,p2⟩
   by_cases h1:aT c a=aF c f
   .by_cases h2:aT d b=aF d g
    .refine he ?_
     have:x=x':=by omega
     have:y=y':=by omega
     subst x y;rfl
    .have:=hd.cn b g A O h2;omega
   .have:=Y.cn a f B U h1;omega
def p166(u:Sp c n m)(hd:Sp d n2 m2)(J:n<=1000)(E:m<=1000)(B:n2<=1000)(A:m2<=1000):Tot (λr=>Sp r (n*n2) (m*m2)) (G166 (c,d)):=
 ⟨_,p166' u hd J E B A,Abf u hd J E B A⟩
end
end Go.Ve.D


namespace Go.Ve.D
open Go Go.Ve
noncomputable section
variable{c d:Ca}{m m2 n n2:Nat}
def opC(c:Ca)(m:Nat):Ca:=(c.1,(c.2.2.1,(c.2.1,(c.2.2.2.1,(range m).map λf=>(range m).map λg=>aC c g f))))
def op_sp(h:Sp c n m):Sp (opC c m) n m:=by
 have C:∀f g,f<m->g<m->aC (opC c m) f g=aC c g f:=λf g u A=>by
  show(((range m).map λf=>(range m).map λg=>aC c g f).getD f []).getD g 0=_
  rw[MU u,MU A]
 refine⟨h.ob,h.lt,h.lf,h.li,Df,λf u=>?_,h.to,h.fr,h.ix,λf g u A B=>?_,λf g u A B=>?_⟩
 .show(((range m).map λf=>(range m).map λg=>aC c g f).getD f []).length=m
  rw[MU u,Df]
 .obtain⟨k,U,O,J,E⟩:=h.cp g f A u (Eq.symm B)
  exact⟨k,U,(C f g u A).trans O,E,J⟩
 .rw[C f g u A];exact h.cn g f A u λe=>B (Eq.symm e)
def p142(h:Sp c n m)(O:n<=1000)(J:m<=1000):Tot (λr=>Sp r n m) (G142 c):=by
 have B:=h.lf;have E:=h.lc;refine⟨opC c m,?_,op_sp h⟩
 delta G142 mA mB lw l2 g2 k8 lt q4 q9 sc nx bk cp gd
 refine Ao (X2 (by rw[h.lt];omega)) (Ao (X2 (by rw[h.lf];omega)) (Ao (X2 (by rw[h.li];omega)) ?_))
 rw[B];refine Ao (itD (st:=λf:Nat=>Sv7 f c.1 c.2.2.1 c.2.1 c.2.2.2.1 ((range f).map λf=>(range m).map λg=>aC c g f)) (n:=m) (o:=.brk 0 (Sv7 m c.1 c.2.2.1 c.2.1 c.2.2.2.1 ((range m).map λf=>(range m).map λg=>aC c g f))) rfl (λf A=>?_) (MD rfl) (λy=>by simp)) (ifD rfl rfl)
 refine MC A (Ao (itD (st:=λg:Nat=>((g:Int),(range g).map λg=>aC c g f)) (n:=m) (o:=.brk 2 ((m:Int),(range m).map λg=>aC c g f)) rfl (λg u=>MC u (ifD (by show(0:Int)<=(g:Int)/\(g:Int)<(c.2.2.2.2.length:Int);omega) (ifD (by show(0:Int)<=(f:Int)/\(f:Int)<((c.2.2.2.2.getD g []).length:Int);rw[h.lr g u];omega) (ifD (by rw[Df];show g+1<=_;omega) ?_)))) (MD rfl) (λy=>by simp)) (ifD rfl (ifD trivial (ifD (by rw[Df];show f+1<=_;omega) ?_))))
 .show some (LO.next (wrap .i64 ((g:Int)+1),(range g).map (λg=>aC c g f)++[aC c g f]))=_
  rw[YT (F:=λg=>aC c g f),wrD u (by omega)]
 .show some (LO.next (Sv7 (wrap .i64 ((f:Int)+1)) c.1 c.2.2.1 c.2.1 c.2.2.2.1 ((range f).map (λf=>(range m).map λg=>aC c g f)++[(range m).map λg=>aC c g f])))=_
  rw[YT (F:=λf=>(range m).map λg=>aC c g f),wrD A (by omega)]
def Yt(A:Sp c n m)(hd:Sp d n2 m2)(J:n<=1000)(E:n2<=1000):
  (∀f,f<m->(∃x:Nat,x<n/\aF (Jh c d n m n2 m2) f=x)/\∃x:Nat,x<n/\aT (Jh c d n m n2 m2) f=x)/\∀f,f<m2->(∃x:Nat,x<n2/\aF (Jh c d n m n2 m2) (m+f)=((n+x:Nat):Int))/\∃x:Nat,x<n2/\aT (Jh c d n m n2 m2) (m+f)=((n+x:Nat):Int):=by
 refine⟨λf u=>⟨?_,?_⟩,λf u=>⟨?_,?_⟩⟩
 .obtain⟨x,B,e⟩:=A.fr f u
  exact⟨x,B,(AE (by rw[A.lf];exact u)).trans e⟩
 .obtain⟨x,B,e⟩:=A.to f u
  exact⟨x,B,(AE (by rw[A.lt];exact u)).trans e⟩
 .obtain⟨x,B,e⟩:=hd.fr f u
  refine⟨x,B,?_⟩;show(_++_:LI).getD _ _=_;rw[Xk A.lf,MU u,e,A.ob,Ah (by omega) (by omega)];omega
 .obtain⟨x,B,e⟩:=hd.to f u
  refine⟨x,B,?_⟩;show(_++_:LI).getD _ _=_;rw[Xk A.lt,MU u,e,A.ob,Ah (by omega) (by omega)];omega
def jF(r:Ca)(n n2:Nat):LI:=r.2.1++fl n n2 λx _=>(x:Int)
def jT(r:Ca)(n n2:Nat):LI:=r.2.2.1++fl n n2 λ_ y=>wrap .i64 ((n:Int)+(y:Int))
def jC(r:Ca)(n n2 M f g:Nat):Int:=if(jT r n n2).getD f 0=(jF r n n2).getD g 0 then(if f<M/\g<M then aC r f g else wrap .i64 (wrap .i64 (wrap .i64 ((M:Int)+wrap .i64 ((jF r n n2).getD f 0*(n2:Int)))+(jT r n n2).getD g 0)-(n:Int)))else-1
def joC(r:Ca)(n n2 M:Nat):Ca:=(r.1,(jF r n n2,(jT r n n2,(r.2.2.2.1,(range (M+n*n2)).map λf=>(range (M+n*n2)).map λg=>jC r n n2 M f g))))
theorem p169'(hc:Sp c n m)(hd:Sp d n2 m2)(b1:n<=500)(b2:m<=500)(b3:n2<=500)(b4:m2<=500):G169 (c,d)=some (joC (Jh c d n m n2 m2) n n2 (m+m2)):=by
 have e0:=hc.ob;have e4:=hd.ob;have J:=VW hc hd (by omega) (by omega) (by omega) (by omega)
 have B:=p165' hc hd (by omega) (by omega) (by omega) (by omega)
 generalize Jh c d n m n2 m2=r at J B;generalize hM:m+m2=M at J;have hM1:M<=1000:=by omega
 have g1:=J.lf;have g2:=J.lt;have g6:=J.lc;have hnn:n*n2<=500*500:=mul_le_mul b1 b3
 delta G169 mA mB ln lw an l2 g2 k4 k6 lt gd l0 q4 q9 wz sc nx bk cp
 refine Ao B ?_
 dsimp only
 rw[e0,e4,g1];have sz:∀{a b:Nat},a<n->b<n2->a*n2+b+1<=250000:=λha hb=>by
  have h1:=Hb ha hb;omega
 refine Ao (itD (st:=λx:Nat=>Sv7 x r.1 (r.2.1++fl x n2 λx _=>(x:Int)) (r.2.2.1++fl x n2 λ_ y=>wrap .i64 ((n:Int)+(y:Int))) r.2.2.2.1 r.2.2.2.2) (n:=n) (o:=.brk 0 (Sv7 n r.1 (jF r n n2) (jT r n n2) r.2.2.2.1 r.2.2.2.2)) ?_ (λx W=>?_) (MD rfl) (λy=>by simp)) (ifD rfl ?_)
 .rw[fl_0,fl_0,append_nil,append_nil];rfl
 .refine MC W (Ao (itD (st:=λy:Nat=>Sv7 y r.1 (r.2.1++(fl x n2 (λx _=>(x:Int))++(range y).map λ_=>(x:Int))) (r.2.2.1++(fl x n2 (λ_ y=>wrap .i64 ((n:Int)+(y:Int)))++(range y).map fun(y:Nat)=>wrap .i64 ((n:Int)+(y:Int)))) r.2.2.2.1 r.2.2.2.2) (n:=n2) (o:=.brk 2 (Sv7 n2 r.1 (r.2.1++(fl x n2 (λx _=>(x:Int))++(range n2).map λ_=>(x:Int))) (r.2.2.1++(fl x n2 (λ_ y=>wrap .i64 ((n:Int)+(y:Int)))++(range n2).map fun(y:Nat)=>wrap .i64 ((n:Int)+(y:Int)))) r.2.2.2.1 r.2.2.2.2)) ?_ (λy U=>?_) (MD rfl) (λy=>by simp)) (ifD rfl ?_))
  .rw[List.range_zero,map_nil,map_nil,append_nil,append_nil];rfl
  .refine MC U (ifD ?_ (ifD ?_ ?_))
   .show(_++_:LI).length+1<=17592186044416
    have:=sz W U;rw[length_append,length_append,BX,Df,g1];omega
   .show(_++_:LI).length+1<=17592186044416
    have:=sz W U;rw[length_append,length_append,BX,Df,g2];omega
   .show some (LO.next (Sv7 (wrap .i64 ((y:Int)+1)) _ ((r.2.1++(fl x n2 (λx _=>(x:Int))++(range y).map λ_=>(x:Int)))++[(x:Int)]) ((r.2.2.1++(fl x n2 (λ_ y=>wrap .i64 ((n:Int)+(y:Int)))++(range y).map fun(y:Nat)=>wrap .i64 ((n:Int)+(y:Int))))++[wrap .i64 ((n:Int)+(y:Int))]) _ _))=_
    rw[append_assoc,append_assoc,append_assoc,append_assoc,YT (F:=λ_=>(x:Int)),YT (F:=fun(y:Nat)=>wrap .i64 ((n:Int)+(y:Int))),wrD U (by omega)]
  .show some (LO.next (Sv7 (wrap .i64 ((x:Int)+1)) _ (r.2.1++(fl x n2 (λx _=>(x:Int))++(range n2).map λ_=>(x:Int))) (r.2.2.1++(fl x n2 (λ_ y=>wrap .i64 ((n:Int)+(y:Int)))++(range n2).map fun(y:Nat)=>wrap .i64 ((n:Int)+(y:Int)))) _ _))=_
   rw[HQ (F:=λx _=>(x:Int)),HQ (F:=λ_ y=>wrap .i64 ((n:Int)+(y:Int))),wrD W (by omega)]
 dsimp only
 have hF:(jF r n n2).length=M+n*n2:=by unfold jF;rw[length_append,BX,g1]
 have hT:(jT r n n2).length=M+n*n2:=by unfold jT;rw[length_append,BX,g2]
 rw[hF,hT];have hK:M+n*n2<=1048576:=by omega
 have hJ:joC r n n2 M=(r.1,(jF r n n2,(jT r n n2,(r.2.2.2.1,(range (M+n*n2)).map λf=>(range (M+n*n2)).map λg=>jC r n n2 M f g)))):=rfl
 rw[hJ];generalize M+n*n2=K at hK;refine Ao (itD (st:=λf:Nat=>((f:Int),(range f).map λf=>(range K).map λg=>jC r n n2 M f g)) (n:=K) (o:=.brk 4 ((K:Int),(range K).map λf=>(range K).map λg=>jC r n n2 M f g)) rfl (λf Z=>?_) (MD rfl) (λy=>by simp)) (ifD rfl rfl)
 refine MC Z (Ao (itD (st:=λg:Nat=>((g:Int),(range g).map λg=>jC r n n2 M f g)) (n:=K) (o:=.brk 6 ((K:Int),(range K).map λg=>jC r n n2 M f g)) rfl (λg Y=>?_) (MD rfl) (λy=>by simp)) (ifD rfl (ifD trivial (ifD (by rw[Df];show f+1<=_;omega) ?_))))
 .have u:((range g).map λg=>jC r n n2 M f g).length+1<=17592186044416:=by rw[Df];omega
  have E:∀{R:Type} v,v=jC r n n2 M f g->some (LO.next (R:=R) (wrap .i64 ((g:Int)+1),(range g).map (λg=>jC r n n2 M f g)++[v]))=some (LO.next (((g+1:Nat):Int),(range (g+1)).map λg=>jC r n n2 M f g)):=λv hv=>by
   rw[hv,YT (F:=λg=>jC r n n2 M f g),wrD Y hK]
  refine MC Y (ifD (Ac Z) (ifD (Ac Y) ?_));show(bif !decide ((jT r n n2).getD f 0=(jF r n n2).getD g 0)then _ else _)=_;by_cases O:(jT r n n2).getD f 0=(jF r n n2).getD g 0
  .rw[dT O]
   refine Ao (v:=decide (f<M)&&decide (g<M)) ?_ ?_
   .show(bif decide ((f:Int)<(M:Int))then some (decide ((g:Int)<(M:Int)))else _)=_
    rw[Af,Af];cases decide (f<M)<;>rfl
   .by_cases A:f<M/\g<M
    .rw[dT A.1,dT A.2]
     exact ifD (by show(0:Int)<=(f:Int)/\(f:Int)<(r.2.2.2.2.length:Int);omega) (ifD (by show(0:Int)<=(g:Int)/\(g:Int)<((r.2.2.2.2.getD f []).length:Int);rw[J.lr f A.1];omega) (ifD u (E _ (by unfold jC;rw[if_pos O,if_pos A];rfl))))
    .have:(decide (f<M)&&decide (g<M))=false:=by
      rw[Bool.and_eq_false_iff,decide_eq_false_iff_not,decide_eq_false_iff_not];omega
     rw[this];exact ifD (Ac Z) (ifD (Ac Y) (ifD u (E _ (by unfold jC;rw[if_pos O,if_neg A];rfl))))
  .rw[dF O]
   exact ifD u (E _ (by unfold jC;rw[if_neg O]))
 .show some (LO.next (wrap .i64 ((f:Int)+1),(range f).map (λf=>(range K).map λg=>jC r n n2 M f g)++[(range K).map λg=>jC r n n2 M f g]))=_
  rw[YT (F:=λf=>(range K).map λg=>jC r n n2 M f g),wrD Z hK]
theorem AbB{r:Ca}(U:Sp r (n+n2) (m+m2))(b1:n<=500)(b2:m<=500)(b3:n2<=500)(b4:m2<=500)(hA:∀f,f<m->(∃x:Nat,x<n/\aF r f=x)/\∃x:Nat,x<n/\aT r f=x)(hB:∀f,f<m2->(∃x:Nat,x<n2/\aF r (m+f)=((n+x:Nat):Int))/\∃x:Nat,x<n2/\aT r (m+f)=((n+x:Nat):Int)):
  Sp (joC r n n2 (m+m2)) (n+n2) (m+m2+n*n2):=by
 have hnn:n*n2<=500*500:=mul_le_mul b1 b3;generalize hM:m+m2=M at U;have F1:∀f,f<M->(jF r n n2).getD f 0=aF r f:=λf B=>AE (by rw[U.lf];exact B)
 have T1:∀f,f<M->(jT r n n2).getD f 0=aT r f:=λf B=>AE (by rw[U.lt];exact B)
 have F2:∀x y,x<n->y<n2->(jF r n n2).getD (M+(x*n2+y)) 0=(x:Int):=λx y A J=>by
  unfold jF;rw[Xk U.lf,IJ J A]
 have T2:∀x y,x<n->y<n2->(jT r n n2).getD (M+(x*n2+y)) 0=((n+y:Nat):Int):=λx y A J=>by
  unfold jT;rw[Xk U.lt,IJ J A,Ah (by omega) (by omega)];omega
 have C:∀f g,f<M+n*n2->g<M+n*n2->aC (joC r n n2 M) f g=jC r n n2 M f g:=λf g B Y=>by
  show(((range (M+n*n2)).map λf=>(range (M+n*n2)).map λg=>jC r n n2 M f g).getD f []).getD g 0=_
  rw[MU B,MU Y]
 -- where an arrow goes
 have E:∀f,f<M+n*n2->(f<M/\((∃x:Nat,x<n/\aF r f=x)/\∃x:Nat,x<n/\aT r f=x\/False))\/(f<M/\(∃x:Nat,x<n2/\aF r f=((n+x:Nat):Int))/\∃x:Nat,x<n2/\aT r f=((n+x:Nat):Int))\/∃x y,x<n/\y<n2/\f=M+(x*n2+y):=λf B=>by
  rcases Dw B with h|⟨k,h,rfl⟩
  .rw[<-hM]at h
   rcases Dw h with h'|⟨f',h',rfl⟩
   .obtain⟨a,x,b,e⟩:=hA f h'
    exact .inl ⟨by omega,a,x,.inl ⟨b,e⟩⟩
   .exact .inr (.inl ⟨by omega,hB f' h'⟩)
  .obtain⟨x,y,A,J,rfl⟩:=Bw h
   exact .inr (.inr ⟨x,y,A,J,rfl⟩)
 have new:∀f g a b:Nat,f<M+n*n2->g<M+n*n2->(jT r n n2).getD f 0=(jF r n n2).getD g 0->¬ (f<M/\g<M)->a<n->b<n2->(jF r n n2).getD f 0=a->(jT r n n2).getD g 0=((n+b:Nat):Int)->∃h:Nat,h<M+n*n2/\aC (joC r n n2 M) f g=h/\aF (joC r n n2 M) h=aF (joC r n n2 M) f/\aT (joC r n n2 M) h=aT (joC r n n2 M) g:=λf g a b B Y W u ha Z e1 e2=>by
  have O:=Hb ha Z;have h2:=mul_le_mul (show a<=500 by omega) b3
  refine⟨M+(a*n2+b),by omega,?_,(F2 a b ha Z).trans e1.symm,(T2 a b ha Z).trans e2.symm⟩
  rw[C f g B Y];unfold jC;rw[if_pos W,if_neg u,e1,e2,<-Int.natCast_mul,Ah (n:=((a*n2:Nat):Int)) (by omega) (by omega),Ah (n:=(M:Int)+((a*n2:Nat):Int)) (by omega) (by omega),Ah (n:=(M:Int)+((a*n2:Nat):Int)+((n+b:Nat):Int)) (by omega) (by omega),Ah (by omega) (by omega)]
  omega
 refine⟨U.ob,?_,?_,U.li,Df,λf B=>?_,λf B=>?_,λf B=>?_,λx A=>?_,λf g B Y W=>?_,λf g B Y W=>?_⟩
 .show(jF r n n2).length=_
  unfold jF;rw[length_append,BX,U.lf]
 .show(jT r n n2).length=_
  unfold jT;rw[length_append,BX,U.lt]
 .show(((range (M+n*n2)).map λf=>(range (M+n*n2)).map λg=>jC r n n2 M f g).getD f []).length=_
  rw[MU B,Df]
 .rcases Dw B with h|⟨k,h,rfl⟩
  .obtain⟨x,A,e⟩:=U.fr f h
   exact⟨x,A,(F1 f h).trans e⟩
  .obtain⟨x,y,A,J,rfl⟩:=Bw h
   exact⟨x,by omega,F2 x y A J⟩
 .rcases Dw B with h|⟨k,h,rfl⟩
  .obtain⟨x,A,e⟩:=U.to f h
   exact⟨x,A,(T1 f h).trans e⟩
  .obtain⟨x,y,A,J,rfl⟩:=Bw h
   exact⟨n+y,by omega,T2 x y A J⟩
 .obtain⟨f,B,e⟩:=U.ix x A
  exact⟨f,by omega,e⟩
 .have W:(jT r n n2).getD f 0=(jF r n n2).getD g 0:=W
  by_cases u:f<M/\g<M
  .obtain⟨k,O,h2,h3,h4⟩:=U.cp f g u.1 u.2 (by rw[<-T1 f u.1,<-F1 g u.2];exact W)
   refine⟨k,by omega,?_,(F1 k O).trans (h3.trans (F1 f u.1).symm),(T1 k O).trans (h4.trans (T1 g u.2).symm)⟩
   rw[C f g B Y];unfold jC;rw[if_pos W,if_pos u];exact h2
  .rcases E f B with⟨O,⟨a,ha,ea⟩,b,Z⟩|⟨O,⟨a,ha,ea⟩,b,Z,eb⟩|⟨x,y,A,J,rfl⟩
   .obtain⟨x,y,A,J,rfl⟩:∃x y,x<n/\y<n2/\g=M+(x*n2+y):=by
     rcases E g Y with h|h|h
     .exact absurd ⟨O,h.1⟩ u
     .exact absurd ⟨O,h.1⟩ u
     .exact h
    exact new _ _ a y B Y W u ha J ((F1 f O).trans ea) (T2 x y A J)
   .obtain⟨x,y,A,J,rfl⟩:∃x y,x<n/\y<n2/\g=M+(x*n2+y):=by
     rcases E g Y with h|h|h
     .exact absurd ⟨O,h.1⟩ u
     .exact absurd ⟨O,h.1⟩ u
     .exact h
    rw[T1 f O,eb,F2 x y A J]at W;omega
   .rcases E g Y with⟨O,⟨a,ha,ea⟩,b,Z⟩|⟨O,⟨a,ha,ea⟩,b,Z,eb⟩|⟨x',y',hx',hy',rfl⟩
    .rw[T2 x y A J,F1 g O,ea]at W;omega
    .exact new _ _ x b B Y W u A Z (F2 x y A J) ((T1 g O).trans eb)
    .rw[T2 x y A J,F2 x' y' hx' hy']at W;omega
 .rw[C f g B Y];unfold jC
  rw[if_neg (show ¬ (jT r n n2).getD f 0=(jF r n n2).getD g 0 from W)];decide
def p169(u:Sp c n m)(hd:Sp d n2 m2)(J:n<=500)(E:m<=500)(B:n2<=500)(A:m2<=500):Tot (λr=>Sp r (n+n2) (m+m2+n*n2)) (G169 (c,d)):=by
 have h:=Yt u hd (by omega) (by omega)
 exact⟨_,p169' u hd J E B A,AbB (VW u hd (by omega) (by omega) (by omega) (by omega)) J E B A h.1 h.2⟩
end
end Go.Ve.D

