/- The product of two categories. -/
import Derived.Test.YtgobokfkomalhaaDrc
namespace Go.Ve.D
open Go Go.Ve
noncomputable section
variable{c d:Ca}{a b m m2 n n2:Nat}{α:Type}
def fl{α:Type}(m m2:Nat)(F:Nat->Nat->α):List α:=(List.range m).flatMap λa=>(List.range m2).map (F a)
theorem HP{F:Nat->Nat->α}:fl a m2 F++(List.range m2).map (F a)=fl (a+1) m2 F:=by
 unfold fl;rw [List.range_succ,List.flatMap_append];simp
theorem BX{α:Type}{m2:Nat}{F:Nat->Nat->α}: ∀ {m:Nat},(fl m m2 F).length=m*m2
 |0=>by simp [fl]
 |m+1=>by rw [<-HP,List.length_append,BX,C6,Nat.succ_mul]
theorem II{α:Type}{m2:Nat}{F:Nat->Nat->α}{d:α}{a b:Nat}(hb:b<m2): ∀ {m:Nat},a<m->(fl m m2 F).getD (a*m2+b) d=F a b
 |0,h=>absurd h (Nat.not_lt_zero _)
 |m+1,h=>by
  rw [<-HP];by_cases e:a=m
  ·subst e;rw [Wp BX,MB hb]
  ·have h1:a<m:=by omega
   rw [A7 ?_,II hb h1];have:=Nat.mul_le_mul_right m2 (show a+1<=m by omega)
   rw [Nat.succ_mul]at this;rw [BX];omega
theorem Hd(ha:a<m)(hb:b<m2):a*m2+b<m*m2:=by
 have:=Nat.mul_le_mul_right m2 (show a+1<=m by omega)
 rw [Nat.succ_mul]at this;omega
theorem XJ{a' b':Nat}(hb:b<m2)(hb':b'<m2)(h:a*m2+b=a'*m2+b'):a=a'/\b=b':=by
 have h1:a=a':=by
  rcases Nat.lt_trichotomy a a' with h1|h1|h1
  ·have:=Nat.mul_le_mul_right m2 (show a+1<=a' by omega);rw [Nat.succ_mul]at this;omega
  ·exact h1
  ·have:=Nat.mul_le_mul_right m2 (show a'+1<=a by omega);rw [Nat.succ_mul]at this;omega
 subst h1;exact⟨rfl,by omega⟩
theorem By{k:Nat}(h:k<m*m2): ∃a b,a<m/\b<m2/\k=a*m2+b:=by
 have h0:0<m2:=by
  rcases Nat.eq_zero_or_pos m2 with h0|h0
  ·subst h0;omega
  ·exact h0
 refine⟨k/m2,k % m2,Nat.div_lt_of_lt_mul (by rw [Nat.mul_comm];exact h),Nat.mod_lt _ h0,?_⟩
 have:=Nat.div_add_mod k m2;rw [Nat.mul_comm]at this;exact this.symm
theorem wmul{p q r:Nat}(hp:p<=1000)(hq:q<=1000)(hr:r<=1000000):IntKind.wrap .i64 (IntKind.wrap .i64 ((p:Int)*(q:Int))+(r:Int))=((p*q+r:Nat):Int):=by
 have h:=Nat.mul_le_mul hp hq;rw [<-Int.natCast_mul,Ay (n:=((p*q:Nat):Int)) (by omega) (by omega),Ay (by omega) (by omega)];omega
abbrev Sv7(k ob:Int)(fr to id:LI)(cm:LL):Int×Int×LI×LI×LI×LL×Ca:=(k,((0:Int),(([]:LI),(([]:LI),(([]:LI),(([]:LL),(ob,(fr,(to,(id,cm))))))))))
def pI(c d:Ca)(m2 x y:Nat):Int:=IntKind.wrap .i64 (IntKind.wrap .i64 (aI c x*(m2:Int))+aI d y)
def pF(c d:Ca)(n2 a b:Nat):Int:=IntKind.wrap .i64 (IntKind.wrap .i64 (aF c a*(n2:Int))+aF d b)
def pT(c d:Ca)(n2 a b:Nat):Int:=IntKind.wrap .i64 (IntKind.wrap .i64 (aT c a*(n2:Int))+aT d b)
def pC(c d:Ca)(m2 a b f g:Nat):Int:=if 0<=aC c a f/\0<=aC d b g then IntKind.wrap .i64 (IntKind.wrap .i64 (aC c a f*(m2:Int))+aC d b g)else-1
def prC(c d:Ca)(n m n2 m2:Nat):Ca:=(IntKind.wrap .i64 ((n:Int)*(n2:Int)),(fl m m2 (pF c d n2),(fl m m2 (pT c d n2),(fl n n2 (pI c d m2),fl m m2 λa b=>fl m m2 (pC c d m2 a b)))))
theorem fl_0{F:Nat->Nat->α}:fl 0 m2 F= []:=rfl
theorem flx{F:Nat->Nat->α}:fl a m2 F++(List.range 0).map (F a)=fl a m2 F:=by simp
theorem p104'(hc:Sp c n m)(hd:Sp d n2 m2)(b1:n<=1000)(b2:m<=1000)(b3:n2<=1000)(b4:m2<=1000):G104 (c,d)=some (prC c d n m n2 m2):=by
 have e0:=hc.ob;have e1:=hc.lf;have e2:=hd.lf;have e3:=hd.lt;have e4:=hd.ob;have e5:=hd.li;have e6:=hc.lc;have e7:=hd.lc;have e8:=hc.li;have e9:=hc.lt;have sz: ∀ {a b p q:Nat},a<p->b<q->p<=1000->q<=1000->a*q+b+1<=1000000:=λha hb hp hq=>by
  have h1:=Hd ha hb;have h2:=Nat.mul_le_mul hp hq;omega
 unfold G104
 dsimp only
 rw [e0,e1,e2,e4];refine Ai (itD (st:=λx:Nat=>Sv7 x (IntKind.wrap .i64 ((n:Int)*(n2:Int))) [] [] (fl x n2 (pI c d m2)) []) (n:=n) (o:=.brk 0 (Sv7 n (IntKind.wrap .i64 ((n:Int)*(n2:Int))) [] [] (fl n n2 (pI c d m2)) [])) rfl (λx hx=>?_) (Mm rfl) (λy=>by simp)) (ifD rfl ?_)
 ·refine Ml hx (Ai (itD (st:=λy:Nat=>Sv7 y (IntKind.wrap .i64 ((n:Int)*(n2:Int))) [] [] (fl x n2 (pI c d m2)++(List.range y).map (pI c d m2 x)) []) (n:=n2) (o:=.brk 2 (Sv7 n2 (IntKind.wrap .i64 ((n:Int)*(n2:Int))) [] [] (fl x n2 (pI c d m2)++(List.range n2).map (pI c d m2 x)) [])) ?_ (λy hy=>?_) (Mm rfl) (λy=>by simp)) (ifD rfl ?_))
  ·rw [flx];rfl
  ·refine Ml hy (ifD (by show(0:Int)<=(x:Int)/\(x:Int)<(c.2.2.2.1.length:Int);omega) (ifD (by show(0:Int)<=(y:Int)/\(y:Int)<(d.2.2.2.1.length:Int);omega) (ifD ?_ ?_)))
   ·show(_++_:LI).length+1<=17592186044416
    have:=sz hx hy b1 b3;rw [List.length_append,BX,C6];omega
   ·show some (LO.next (Sv7 (IntKind.wrap .i64 ((y:Int)+1)) _ [] [] ((fl x n2 (pI c d m2)++(List.range y).map (pI c d m2 x))++ [pI c d m2 x y]) []))=_
    rw [V3 (F:=pI c d m2 x),wrD hy (by omega)]
  ·show some (LO.next (Sv7 (IntKind.wrap .i64 ((x:Int)+1)) _ [] [] (fl x n2 (pI c d m2)++(List.range n2).map (pI c d m2 x)) []))=_
   rw [HP,wrD hx (by omega)]
 dsimp only
 refine Ai (itD (st:=λa:Nat=>Sv7 a (IntKind.wrap .i64 ((n:Int)*(n2:Int))) (fl a m2 (pF c d n2)) (fl a m2 (pT c d n2)) (fl n n2 (pI c d m2)) (fl a m2 λa b=>fl m m2 (pC c d m2 a b))) (n:=m) (o:=.brk 4 (Sv7 m (IntKind.wrap .i64 ((n:Int)*(n2:Int))) (fl m m2 (pF c d n2)) (fl m m2 (pT c d n2)) (fl n n2 (pI c d m2)) (fl m m2 λa b=>fl m m2 (pC c d m2 a b)))) rfl (λa ha=>?_) (Mm rfl) (λy=>by simp)) (ifD rfl rfl)
 refine Ml ha (Ai (itD (st:=λb:Nat=>Sv7 b (IntKind.wrap .i64 ((n:Int)*(n2:Int))) (fl a m2 (pF c d n2)++(List.range b).map (pF c d n2 a)) (fl a m2 (pT c d n2)++(List.range b).map (pT c d n2 a)) (fl n n2 (pI c d m2)) ((fl a m2 λa b=>fl m m2 (pC c d m2 a b))++(List.range b).map λb=>fl m m2 (pC c d m2 a b))) (n:=m2) (o:=.brk 6 (Sv7 m2 (IntKind.wrap .i64 ((n:Int)*(n2:Int))) (fl a m2 (pF c d n2)++(List.range m2).map (pF c d n2 a)) (fl a m2 (pT c d n2)++(List.range m2).map (pT c d n2 a)) (fl n n2 (pI c d m2)) ((fl a m2 λa b=>fl m m2 (pC c d m2 a b))++(List.range m2).map λb=>fl m m2 (pC c d m2 a b)))) ?_ (λb hb=>?_) (Mm rfl) (λy=>by simp)) (ifD rfl ?_))
 ·rw [flx,flx,flx (F:=λa b=>fl m m2 (pC c d m2 a b))];rfl
 ·have hsz:=sz ha hb b2 b4
  refine Ml hb (ifD (Ad ha) (ifD (Ad hb) (ifD ?_ (ifD (by show(0:Int)<=(a:Int)/\(a:Int)<(c.2.2.1.length:Int);omega) (ifD (by show(0:Int)<=(b:Int)/\(b:Int)<(d.2.2.1.length:Int);omega) (ifD ?_ ?_))))))
  ·show(_++_:LI).length+1<=17592186044416
   rw [List.length_append,BX,C6];omega
  ·show(_++_:LI).length+1<=17592186044416
   rw [List.length_append,BX,C6];omega
  have ia:(0:Int)<=(a:Int)/\(a:Int)<(c.2.2.2.2.length:Int):=by omega
  have ib:(0:Int)<=(b:Int)/\(b:Int)<(d.2.2.2.2.length:Int):=by omega
  refine Ai (itD (st:=λf:Nat=>((f:Int),fl f m2 (pC c d m2 a b))) (n:=m) (o:=.brk 8 ((m:Int),fl m m2 (pC c d m2 a b))) rfl (λf hf=>?_) (Mm rfl) (λy=>by simp)) (ifD rfl (ifD trivial (ifD ?_ ?_)))
  ·have jf:(0:Int)<=(f:Int)/\(f:Int)<((c.2.2.2.2.getD a []).length:Int):=by rw [hc.lr a ha];omega
   refine Ml hf (Ai (itD (st:=λg:Nat=>((g:Int),fl f m2 (pC c d m2 a b)++(List.range g).map (pC c d m2 a b f))) (n:=m2) (o:=.brk 10 ((m2:Int),fl f m2 (pC c d m2 a b)++(List.range m2).map (pC c d m2 a b f))) (by rw [flx];rfl) (λg hg=>?_) (Mm rfl) (λy=>by simp)) (ifD rfl ?_))
   ·have jg:(0:Int)<=(g:Int)/\(g:Int)<((d.2.2.2.2.getD b []).length:Int):=by rw [hd.lr b hb];omega
    have hlen:(fl f m2 (pC c d m2 a b)++(List.range g).map (pC c d m2 a b f)).length+1<=17592186044416:=by
     have:=sz hf hg b2 b4;rw [List.length_append,BX,C6];omega
    have hst: ∀ {R:Type} v,v=pC c d m2 a b f g->some (LO.next (R:=R) (IntKind.wrap .i64 ((g:Int)+1),(fl f m2 (pC c d m2 a b)++(List.range g).map (pC c d m2 a b f))++ [v]))=some (LO.next (((g+1:Nat):Int),fl f m2 (pC c d m2 a b)++(List.range (g+1)).map (pC c d m2 a b f))):=λv hv=>by
     rw [hv,V3 (F:=pC c d m2 a b f),wrD hg (by omega)]
    refine Ml hg (ifD ia (ifD jf (Ai (v:=decide (0<=aC c a f)&&decide (0<=aC d b g)) ?_ ?_)))
    ·show(bif decide (0<=aC c a f)then _ else _)=_
     cases decide (0<=aC c a f)
     ·rfl
     ·exact ifD ib (ifD jg rfl)
    ·by_cases h0:0<=aC c a f/\0<=aC d b g
     ·rw [dT h0.1,dT h0.2]
      exact ifD ia (ifD jf (ifD ib (ifD jg (ifD hlen (hst _ (by unfold pC;rw [if_pos h0];rfl))))))
     ·have:(decide (0<=aC c a f)&&decide (0<=aC d b g))=false:=by
       rw [Bool.and_eq_false_iff,decide_eq_false_iff_not,decide_eq_false_iff_not];by_cases h1:0<=aC c a f
       ·exact .inr λh2=>h0 ⟨h1,h2⟩
       ·exact .inl h1
      rw [this];exact ifD hlen (hst _ (by unfold pC;rw [if_neg h0]))
   ·show some (LO.next (IntKind.wrap .i64 ((f:Int)+1),fl f m2 (pC c d m2 a b)++(List.range m2).map (pC c d m2 a b f)))=_
    rw [HP,wrD hf (by omega)]
  ·show(_++_:LL).length+1<=5864062014805
   rw [List.length_append,BX,C6];omega
  ·show some (LO.next (Sv7 (IntKind.wrap .i64 ((b:Int)+1)) _ ((fl a m2 (pF c d n2)++(List.range b).map (pF c d n2 a))++ [pF c d n2 a b]) ((fl a m2 (pT c d n2)++(List.range b).map (pT c d n2 a))++ [pT c d n2 a b]) _ (((fl a m2 λa b=>fl m m2 (pC c d m2 a b))++(List.range b).map λb=>fl m m2 (pC c d m2 a b))++ [fl m m2 (pC c d m2 a b)])))=_
   rw [V3 (F:=pF c d n2 a),V3 (F:=pT c d n2 a),V3 (F:=λb=>fl m m2 (pC c d m2 a b)),wrD hb (by omega)]
 ·show some (LO.next (Sv7 (IntKind.wrap .i64 ((a:Int)+1)) _ (fl a m2 (pF c d n2)++(List.range m2).map (pF c d n2 a)) (fl a m2 (pT c d n2)++(List.range m2).map (pT c d n2 a)) _ ((fl a m2 λa b=>fl m m2 (pC c d m2 a b))++(List.range m2).map λb=>fl m m2 (pC c d m2 a b))))=_
  rw [HP,HP,HP (F:=λa b=>fl m m2 (pC c d m2 a b)),wrD ha (by omega)]
theorem ZT(hc:Sp c n m)(hd:Sp d n2 m2)(b1:n<=1000)(b2:m<=1000)(b3:n2<=1000)(b4:m2<=1000):Sp (prC c d n m n2 m2) (n*n2) (m*m2):=by
 have F: ∀a b x y:Nat,a<m->b<m2->aF c a=x->aF d b=y->x<n->y<n2->aF (prC c d n m n2 m2) (a*m2+b)=((x*n2+y:Nat):Int):=λa b x y ha hb e e' hx hy=>by
  show(fl m m2 (pF c d n2)).getD _ _=_;rw [II hb ha];unfold pF;rw [e,e',wmul (by omega) b3 (by omega)]
 have T: ∀a b x y:Nat,a<m->b<m2->aT c a=x->aT d b=y->x<n->y<n2->aT (prC c d n m n2 m2) (a*m2+b)=((x*n2+y:Nat):Int):=λa b x y ha hb e e' hx hy=>by
  show(fl m m2 (pT c d n2)).getD _ _=_;rw [II hb ha];unfold pT;rw [e,e',wmul (by omega) b3 (by omega)]
 have R: ∀a b:Nat,a<m->b<m2->(prC c d n m n2 m2).2.2.2.2.getD (a*m2+b) []=fl m m2 (pC c d m2 a b):=λa b ha hb=>II (F:=λa b=>fl m m2 (pC c d m2 a b)) hb ha
 have C: ∀a b f g:Nat,a<m->b<m2->f<m->g<m2->aC (prC c d n m n2 m2) (a*m2+b) (f*m2+g)=pC c d m2 a b f g:=λa b f g ha hb hf hg=>by
  show((prC c d n m n2 m2).2.2.2.2.getD (a*m2+b) []).getD (f*m2+g) 0=_;rw [R a b ha hb,II hg hf]
 refine⟨?_,BX,BX,BX,BX,λk hk=>?_,λk hk=>?_,λk hk=>?_,λk hk=>?_,λk l hk hl he=>?_,λk l hk hl he=>?_⟩
 ·show IntKind.wrap .i64 ((n:Int)*(n2:Int))=_
  have:=wmul (p:=n) (q:=n2) (r:=0) b1 b3 (by omega)
  have h:=Nat.mul_le_mul b1 b3;rw [<-Int.natCast_mul,Ay (by omega) (by omega)]
 ·obtain⟨a,b,ha,hb,rfl⟩:=By hk
  rw [R a b ha hb,BX]
 ·obtain⟨a,b,ha,hb,rfl⟩:=By hk
  obtain⟨x,hx,e⟩:=hc.fr a ha;obtain⟨y,hy,e'⟩:=hd.fr b hb;exact⟨_,Hd hx hy,F a b x y ha hb e e' hx hy⟩
 ·obtain⟨a,b,ha,hb,rfl⟩:=By hk
  obtain⟨x,hx,e⟩:=hc.to a ha;obtain⟨y,hy,e'⟩:=hd.to b hb;exact⟨_,Hd hx hy,T a b x y ha hb e e' hx hy⟩
 ·obtain⟨x,y,hx,hy,rfl⟩:=By hk
  obtain⟨a,ha,e⟩:=hc.ix x hx;obtain⟨b,hb,e'⟩:=hd.ix y hy;refine⟨a*m2+b,Hd ha hb,?_⟩;show(fl n n2 (pI c d m2)).getD _ _=_;rw [II hy hx];unfold pI;rw [e,e',wmul (by omega) b4 (by omega)]
 ·obtain⟨a,b,ha,hb,rfl⟩:=By hk
  obtain⟨f,g,hf,hg,rfl⟩:=By hl;obtain⟨x,hx,e1⟩:=hc.to a ha;obtain⟨y,hy,e2⟩:=hd.to b hb;obtain⟨x',hx',e3⟩:=hc.fr f hf;obtain⟨y',hy',e4⟩:=hd.fr g hg;rw [T a b x y ha hb e1 e2 hx hy,F f g x' y' hf hg e3 e4 hx' hy']at he;obtain⟨rfl,rfl⟩:=XJ hy hy' (show x*n2+y=x'*n2+y' by omega)
  obtain⟨h1,a1,a2,a3,a4⟩:=hc.cp a f ha hf (by rw [e1,e3])
  obtain⟨h2,c1,c2,c3,c4⟩:=hd.cp b g hb hg (by rw [e2,e4])
  obtain⟨u,hu,f1⟩:=hc.fr a ha;obtain⟨v,hv,f2⟩:=hd.fr b hb;obtain⟨u',hu',f3⟩:=hc.to f hf;obtain⟨v',hv',f4⟩:=hd.to g hg;refine⟨h1*m2+h2,Hd a1 c1,?_,?_,?_⟩
  ·rw [C a b f g ha hb hf hg];unfold pC
   rw [a2,c2,if_pos (by omega),wmul (by omega) b4 (by omega)]
  ·rw [F h1 h2 u v a1 c1 (a3.trans f1) (c3.trans f2) hu hv,F a b u v ha hb f1 f2 hu hv]
  ·rw [T h1 h2 u' v' a1 c1 (a4.trans f3) (c4.trans f4) hu' hv',T f g u' v' hf hg f3 f4 hu' hv']
 ·obtain⟨a,b,ha,hb,rfl⟩:=By hk
  obtain⟨f,g,hf,hg,rfl⟩:=By hl;obtain⟨x,hx,e1⟩:=hc.to a ha;obtain⟨y,hy,e2⟩:=hd.to b hb;obtain⟨x',hx',e3⟩:=hc.fr f hf;obtain⟨y',hy',e4⟩:=hd.fr g hg;rw [T a b x y ha hb e1 e2 hx hy,F f g x' y' hf hg e3 e4 hx' hy']at he;rw [C a b f g ha hb hf hg];unfold pC;rw [if_neg ?_]
  ·decide
  ·rintro ⟨p1,p2⟩
   by_cases h1:aT c a=aF c f
   ·by_cases h2:aT d b=aF d g
    ·refine he ?_
     have:x=x':=by omega
     have:y=y':=by omega
     subst x y;rfl
    ·have:=hd.cn b g hb hg h2;omega
   ·have:=hc.cn a f ha hf h1;omega
theorem p104(hc:Sp c n m)(hd:Sp d n2 m2)(b1:n<=1000)(b2:m<=1000)(b3:n2<=1000)(b4:m2<=1000):Tot (λr=>Sp r (n*n2) (m*m2)) (G104 (c,d)):=
 ⟨_,p104' hc hd b1 b2 b3 b4,ZT hc hd b1 b2 b3 b4⟩
end
end Go.Ve.D


namespace Go.Ve.D
open Go Go.Ve
noncomputable section
variable{c d:Ca}{m m2 n n2:Nat}
def opC(c:Ca)(m:Nat):Ca:=(c.1,(c.2.2.1,(c.2.1,(c.2.2.2.1,(List.range m).map λf=>(List.range m).map λg=>aC c g f))))
theorem op_sp(h:Sp c n m):Sp (opC c m) n m:=by
 have C: ∀f g,f<m->g<m->aC (opC c m) f g=aC c g f:=λf g hf hg=>by
  show(((List.range m).map λf=>(List.range m).map λg=>aC c g f).getD f []).getD g 0=_
  rw [MB hf,MB hg]
 refine⟨h.ob,h.lt,h.lf,h.li,C6,λf hf=>?_,h.to,h.fr,h.ix,λf g hf hg he=>?_,λf g hf hg he=>?_⟩
 ·show(((List.range m).map λf=>(List.range m).map λg=>aC c g f).getD f []).length=m
  rw [MB hf,C6]
 ·obtain⟨k,h1,h2,h3,h4⟩:=h.cp g f hg hf (Eq.symm he)
  exact⟨k,h1,(C f g hf hg).trans h2,h4,h3⟩
 ·rw [C f g hf hg];exact h.cn g f hg hf λe=>he (Eq.symm e)
theorem p88(h:Sp c n m)(b1:n<=1000)(b2:m<=1000):Tot (λr=>Sp r n m) (G88 c):=by
 have e1:=h.lf;have e6:=h.lc;refine⟨opC c m,?_,op_sp h⟩;unfold G88;refine Ai (p98 (by rw [h.lt];omega)) (Ai (p98 (by rw [h.lf];omega)) (Ai (p98 (by rw [h.li];omega)) ?_))
 rw [e1];refine Ai (itD (st:=λf:Nat=>Sv7 f c.1 c.2.2.1 c.2.1 c.2.2.2.1 ((List.range f).map λf=>(List.range m).map λg=>aC c g f)) (n:=m) (o:=.brk 0 (Sv7 m c.1 c.2.2.1 c.2.1 c.2.2.2.1 ((List.range m).map λf=>(List.range m).map λg=>aC c g f))) rfl (λf hf=>?_) (Mm rfl) (λy=>by simp)) (ifD rfl rfl)
 refine Ml hf (Ai (itD (st:=λg:Nat=>((g:Int),(List.range g).map λg=>aC c g f)) (n:=m) (o:=.brk 2 ((m:Int),(List.range m).map λg=>aC c g f)) rfl (λg hg=>Ml hg (ifD (by show(0:Int)<=(g:Int)/\(g:Int)<(c.2.2.2.2.length:Int);omega) (ifD (by show(0:Int)<=(f:Int)/\(f:Int)<((c.2.2.2.2.getD g []).length:Int);rw [h.lr g hg];omega) (ifD (by rw [C6];show g+1<=_;omega) ?_)))) (Mm rfl) (λy=>by simp)) (ifD rfl (ifD trivial (ifD (by rw [C6];show f+1<=_;omega) ?_))))
 ·show some (LO.next (IntKind.wrap .i64 ((g:Int)+1),(List.range g).map (λg=>aC c g f)++ [aC c g f]))=_
  rw [XO (F:=λg=>aC c g f),wrD hg (by omega)]
 ·show some (LO.next (Sv7 (IntKind.wrap .i64 ((f:Int)+1)) c.1 c.2.2.1 c.2.1 c.2.2.2.1 ((List.range f).map (λf=>(List.range m).map λg=>aC c g f)++ [(List.range m).map λg=>aC c g f])))=_
  rw [XO (F:=λf=>(List.range m).map λg=>aC c g f),wrD hf (by omega)]
theorem Xs(hc:Sp c n m)(hd:Sp d n2 m2)(b1:n<=1000)(b3:n2<=1000):
  (∀f,f<m->(∃x:Nat,x<n/\aF (Ji c d n m n2 m2) f=x)/\∃x:Nat,x<n/\aT (Ji c d n m n2 m2) f=x)/\∀f,f<m2->(∃x:Nat,x<n2/\aF (Ji c d n m n2 m2) (m+f)=((n+x:Nat):Int))/\∃x:Nat,x<n2/\aT (Ji c d n m n2 m2) (m+f)=((n+x:Nat):Int):=by
 refine⟨λf hf=>⟨?_,?_⟩,λf hf=>⟨?_,?_⟩⟩
 ·obtain⟨x,hx,e⟩:=hc.fr f hf
  exact⟨x,hx,(A7 (by rw [hc.lf];exact hf)).trans e⟩
 ·obtain⟨x,hx,e⟩:=hc.to f hf
  exact⟨x,hx,(A7 (by rw [hc.lt];exact hf)).trans e⟩
 ·obtain⟨x,hx,e⟩:=hd.fr f hf
  refine⟨x,hx,?_⟩;show(_++_:LI).getD _ _=_;rw [Wp hc.lf,MB hf,e,hc.ob,Ay (by omega) (by omega)];omega
 ·obtain⟨x,hx,e⟩:=hd.to f hf
  refine⟨x,hx,?_⟩;show(_++_:LI).getD _ _=_;rw [Wp hc.lt,MB hf,e,hc.ob,Ay (by omega) (by omega)];omega
def jF(r:Ca)(n n2:Nat):LI:=r.2.1++fl n n2 λx _=>(x:Int)
def jT(r:Ca)(n n2:Nat):LI:=r.2.2.1++fl n n2 λ_ y=>IntKind.wrap .i64 ((n:Int)+(y:Int))
def jC(r:Ca)(n n2 M f g:Nat):Int:=if(jT r n n2).getD f 0=(jF r n n2).getD g 0 then(if f<M/\g<M then aC r f g else IntKind.wrap .i64 (IntKind.wrap .i64 (IntKind.wrap .i64 ((M:Int)+IntKind.wrap .i64 ((jF r n n2).getD f 0*(n2:Int)))+(jT r n n2).getD g 0)-(n:Int)))else-1
def joC(r:Ca)(n n2 M:Nat):Ca:=(r.1,(jF r n n2,(jT r n n2,(r.2.2.2.1,(List.range (M+n*n2)).map λf=>(List.range (M+n*n2)).map λg=>jC r n n2 M f g))))
theorem p112'(hc:Sp c n m)(hd:Sp d n2 m2)(b1:n<=500)(b2:m<=500)(b3:n2<=500)(b4:m2<=500):G112 (c,d)=some (joC (Ji c d n m n2 m2) n n2 (m+m2)):=by
 have e0:=hc.ob;have e4:=hd.ob;have hs:=Vg hc hd (by omega) (by omega) (by omega) (by omega)
 have hsum:=p103' hc hd (by omega) (by omega) (by omega) (by omega)
 generalize Ji c d n m n2 m2=r at hs hsum;generalize hM:m+m2=M at hs;have hM1:M<=1000:=by omega
 have g1:=hs.lf;have g2:=hs.lt;have g6:=hs.lc;have hnn:n*n2<=500*500:=Nat.mul_le_mul b1 b3;unfold G112;refine Ai hsum ?_
 dsimp only
 rw [e0,e4,g1];have sz: ∀ {a b:Nat},a<n->b<n2->a*n2+b+1<=250000:=λha hb=>by
  have h1:=Hd ha hb;omega
 refine Ai (itD (st:=λx:Nat=>Sv7 x r.1 (r.2.1++fl x n2 λx _=>(x:Int)) (r.2.2.1++fl x n2 λ_ y=>IntKind.wrap .i64 ((n:Int)+(y:Int))) r.2.2.2.1 r.2.2.2.2) (n:=n) (o:=.brk 0 (Sv7 n r.1 (jF r n n2) (jT r n n2) r.2.2.2.1 r.2.2.2.2)) ?_ (λx hx=>?_) (Mm rfl) (λy=>by simp)) (ifD rfl ?_)
 ·rw [fl_0,fl_0,List.append_nil,List.append_nil];rfl
 ·refine Ml hx (Ai (itD (st:=λy:Nat=>Sv7 y r.1 (r.2.1++(fl x n2 (λx _=>(x:Int))++(List.range y).map λ_=>(x:Int))) (r.2.2.1++(fl x n2 (λ_ y=>IntKind.wrap .i64 ((n:Int)+(y:Int)))++(List.range y).map fun(y:Nat)=>IntKind.wrap .i64 ((n:Int)+(y:Int)))) r.2.2.2.1 r.2.2.2.2) (n:=n2) (o:=.brk 2 (Sv7 n2 r.1 (r.2.1++(fl x n2 (λx _=>(x:Int))++(List.range n2).map λ_=>(x:Int))) (r.2.2.1++(fl x n2 (λ_ y=>IntKind.wrap .i64 ((n:Int)+(y:Int)))++(List.range n2).map fun(y:Nat)=>IntKind.wrap .i64 ((n:Int)+(y:Int)))) r.2.2.2.1 r.2.2.2.2)) ?_ (λy hy=>?_) (Mm rfl) (λy=>by simp)) (ifD rfl ?_))
  ·rw [List.range_zero,List.map_nil,List.map_nil,List.append_nil,List.append_nil];rfl
  ·refine Ml hy (ifD ?_ (ifD ?_ ?_))
   ·show(_++_:LI).length+1<=17592186044416
    have:=sz hx hy;rw [List.length_append,List.length_append,BX,C6,g1];omega
   ·show(_++_:LI).length+1<=17592186044416
    have:=sz hx hy;rw [List.length_append,List.length_append,BX,C6,g2];omega
   ·show some (LO.next (Sv7 (IntKind.wrap .i64 ((y:Int)+1)) _ ((r.2.1++(fl x n2 (λx _=>(x:Int))++(List.range y).map λ_=>(x:Int)))++ [(x:Int)]) ((r.2.2.1++(fl x n2 (λ_ y=>IntKind.wrap .i64 ((n:Int)+(y:Int)))++(List.range y).map fun(y:Nat)=>IntKind.wrap .i64 ((n:Int)+(y:Int))))++ [IntKind.wrap .i64 ((n:Int)+(y:Int))]) _ _))=_
    rw [List.append_assoc,List.append_assoc,List.append_assoc,List.append_assoc,XO (F:=λ_=>(x:Int)),XO (F:=fun(y:Nat)=>IntKind.wrap .i64 ((n:Int)+(y:Int))),wrD hy (by omega)]
  ·show some (LO.next (Sv7 (IntKind.wrap .i64 ((x:Int)+1)) _ (r.2.1++(fl x n2 (λx _=>(x:Int))++(List.range n2).map λ_=>(x:Int))) (r.2.2.1++(fl x n2 (λ_ y=>IntKind.wrap .i64 ((n:Int)+(y:Int)))++(List.range n2).map fun(y:Nat)=>IntKind.wrap .i64 ((n:Int)+(y:Int)))) _ _))=_
   rw [HP (F:=λx _=>(x:Int)),HP (F:=λ_ y=>IntKind.wrap .i64 ((n:Int)+(y:Int))),wrD hx (by omega)]
 dsimp only
 have hF:(jF r n n2).length=M+n*n2:=by unfold jF;rw [List.length_append,BX,g1]
 have hT:(jT r n n2).length=M+n*n2:=by unfold jT;rw [List.length_append,BX,g2]
 rw [hF,hT];have hK:M+n*n2<=1048576:=by omega
 have hJ:joC r n n2 M=(r.1,(jF r n n2,(jT r n n2,(r.2.2.2.1,(List.range (M+n*n2)).map λf=>(List.range (M+n*n2)).map λg=>jC r n n2 M f g)))):=rfl
 rw [hJ];generalize M+n*n2=K at hK;refine Ai (itD (st:=λf:Nat=>((f:Int),(List.range f).map λf=>(List.range K).map λg=>jC r n n2 M f g)) (n:=K) (o:=.brk 4 ((K:Int),(List.range K).map λf=>(List.range K).map λg=>jC r n n2 M f g)) rfl (λf hf=>?_) (Mm rfl) (λy=>by simp)) (ifD rfl rfl)
 refine Ml hf (Ai (itD (st:=λg:Nat=>((g:Int),(List.range g).map λg=>jC r n n2 M f g)) (n:=K) (o:=.brk 6 ((K:Int),(List.range K).map λg=>jC r n n2 M f g)) rfl (λg hg=>?_) (Mm rfl) (λy=>by simp)) (ifD rfl (ifD trivial (ifD (by rw [C6];show f+1<=_;omega) ?_))))
 ·have hlen:((List.range g).map λg=>jC r n n2 M f g).length+1<=17592186044416:=by rw [C6];omega
  have hst: ∀ {R:Type} v,v=jC r n n2 M f g->some (LO.next (R:=R) (IntKind.wrap .i64 ((g:Int)+1),(List.range g).map (λg=>jC r n n2 M f g)++ [v]))=some (LO.next (((g+1:Nat):Int),(List.range (g+1)).map λg=>jC r n n2 M f g)):=λv hv=>by
   rw [hv,XO (F:=λg=>jC r n n2 M f g),wrD hg hK]
  refine Ml hg (ifD (Ad hf) (ifD (Ad hg) ?_));show(bif !decide ((jT r n n2).getD f 0=(jF r n n2).getD g 0)then _ else _)=_;by_cases he:(jT r n n2).getD f 0=(jF r n n2).getD g 0
  ·rw [dT he]
   refine Ai (v:=decide (f<M)&&decide (g<M)) ?_ ?_
   ·show(bif decide ((f:Int)<(M:Int))then some (decide ((g:Int)<(M:Int)))else _)=_
    rw [Bh,Bh];cases decide (f<M)<;>rfl
   ·by_cases hfg:f<M/\g<M
    ·rw [dT hfg.1,dT hfg.2]
     exact ifD (by show(0:Int)<=(f:Int)/\(f:Int)<(r.2.2.2.2.length:Int);omega) (ifD (by show(0:Int)<=(g:Int)/\(g:Int)<((r.2.2.2.2.getD f []).length:Int);rw [hs.lr f hfg.1];omega) (ifD hlen (hst _ (by unfold jC;rw [if_pos he,if_pos hfg];rfl))))
    ·have:(decide (f<M)&&decide (g<M))=false:=by
      rw [Bool.and_eq_false_iff,decide_eq_false_iff_not,decide_eq_false_iff_not];omega
     rw [this];exact ifD (Ad hf) (ifD (Ad hg) (ifD hlen (hst _ (by unfold jC;rw [if_pos he,if_neg hfg];rfl))))
  ·rw [dF he]
   exact ifD hlen (hst _ (by unfold jC;rw [if_neg he]))
 ·show some (LO.next (IntKind.wrap .i64 ((f:Int)+1),(List.range f).map (λf=>(List.range K).map λg=>jC r n n2 M f g)++ [(List.range K).map λg=>jC r n n2 M f g]))=_
  rw [XO (F:=λf=>(List.range K).map λg=>jC r n n2 M f g),wrD hf hK]
theorem Aaa{r:Ca}(hs:Sp r (n+n2) (m+m2))(b1:n<=500)(b2:m<=500)(b3:n2<=500)(b4:m2<=500)(hA: ∀f,f<m->(∃x:Nat,x<n/\aF r f=x)/\∃x:Nat,x<n/\aT r f=x)(hB: ∀f,f<m2->(∃x:Nat,x<n2/\aF r (m+f)=((n+x:Nat):Int))/\∃x:Nat,x<n2/\aT r (m+f)=((n+x:Nat):Int)):
  Sp (joC r n n2 (m+m2)) (n+n2) (m+m2+n*n2):=by
 have hnn:n*n2<=500*500:=Nat.mul_le_mul b1 b3;generalize hM:m+m2=M at hs;have F1: ∀f,f<M->(jF r n n2).getD f 0=aF r f:=λf hf=>A7 (by rw [hs.lf];exact hf)
 have T1: ∀f,f<M->(jT r n n2).getD f 0=aT r f:=λf hf=>A7 (by rw [hs.lt];exact hf)
 have F2: ∀x y,x<n->y<n2->(jF r n n2).getD (M+(x*n2+y)) 0=(x:Int):=λx y hx hy=>by
  unfold jF;rw [Wp hs.lf,II hy hx]
 have T2: ∀x y,x<n->y<n2->(jT r n n2).getD (M+(x*n2+y)) 0=((n+y:Nat):Int):=λx y hx hy=>by
  unfold jT;rw [Wp hs.lt,II hy hx,Ay (by omega) (by omega)];omega
 have C: ∀f g,f<M+n*n2->g<M+n*n2->aC (joC r n n2 M) f g=jC r n n2 M f g:=λf g hf hg=>by
  show(((List.range (M+n*n2)).map λf=>(List.range (M+n*n2)).map λg=>jC r n n2 M f g).getD f []).getD g 0=_
  rw [MB hf,MB hg]
 -- where an arrow goes
 have E: ∀f,f<M+n*n2->(f<M/\((∃x:Nat,x<n/\aF r f=x)/\∃x:Nat,x<n/\aT r f=x\/False))\/(f<M/\(∃x:Nat,x<n2/\aF r f=((n+x:Nat):Int))/\∃x:Nat,x<n2/\aT r f=((n+x:Nat):Int))\/∃x y,x<n/\y<n2/\f=M+(x*n2+y):=λf hf=>by
  rcases Dr hf with h|⟨k,h,rfl⟩
  ·rw [<-hM]at h
   rcases Dr h with h'|⟨f',h',rfl⟩
   ·obtain⟨a,x,b,e⟩:=hA f h'
    exact .inl ⟨by omega,a,x,.inl ⟨b,e⟩⟩
   ·exact .inr (.inl ⟨by omega,hB f' h'⟩)
  ·obtain⟨x,y,hx,hy,rfl⟩:=By h
   exact .inr (.inr ⟨x,y,hx,hy,rfl⟩)
 have new: ∀f g a b:Nat,f<M+n*n2->g<M+n*n2->(jT r n n2).getD f 0=(jF r n n2).getD g 0->¬ (f<M/\g<M)->a<n->b<n2->(jF r n n2).getD f 0=a->(jT r n n2).getD g 0=((n+b:Nat):Int)->∃h:Nat,h<M+n*n2/\aC (joC r n n2 M) f g=h/\aF (joC r n n2 M) h=aF (joC r n n2 M) f/\aT (joC r n n2 M) h=aT (joC r n n2 M) g:=λf g a b hf hg he hfg ha hb e1 e2=>by
  have h1:=Hd ha hb;have h2:=Nat.mul_le_mul (show a<=500 by omega) b3
  refine⟨M+(a*n2+b),by omega,?_,(F2 a b ha hb).trans e1.symm,(T2 a b ha hb).trans e2.symm⟩
  rw [C f g hf hg];unfold jC;rw [if_pos he,if_neg hfg,e1,e2,<-Int.natCast_mul,Ay (n:=((a*n2:Nat):Int)) (by omega) (by omega),Ay (n:=(M:Int)+((a*n2:Nat):Int)) (by omega) (by omega),Ay (n:=(M:Int)+((a*n2:Nat):Int)+((n+b:Nat):Int)) (by omega) (by omega),Ay (by omega) (by omega)]
  omega
 refine⟨hs.ob,?_,?_,hs.li,C6,λf hf=>?_,λf hf=>?_,λf hf=>?_,λx hx=>?_,λf g hf hg he=>?_,λf g hf hg he=>?_⟩
 ·show(jF r n n2).length=_
  unfold jF;rw [List.length_append,BX,hs.lf]
 ·show(jT r n n2).length=_
  unfold jT;rw [List.length_append,BX,hs.lt]
 ·show(((List.range (M+n*n2)).map λf=>(List.range (M+n*n2)).map λg=>jC r n n2 M f g).getD f []).length=_
  rw [MB hf,C6]
 ·rcases Dr hf with h|⟨k,h,rfl⟩
  ·obtain⟨x,hx,e⟩:=hs.fr f h
   exact⟨x,hx,(F1 f h).trans e⟩
  ·obtain⟨x,y,hx,hy,rfl⟩:=By h
   exact⟨x,by omega,F2 x y hx hy⟩
 ·rcases Dr hf with h|⟨k,h,rfl⟩
  ·obtain⟨x,hx,e⟩:=hs.to f h
   exact⟨x,hx,(T1 f h).trans e⟩
  ·obtain⟨x,y,hx,hy,rfl⟩:=By h
   exact⟨n+y,by omega,T2 x y hx hy⟩
 ·obtain⟨f,hf,e⟩:=hs.ix x hx
  exact⟨f,by omega,e⟩
 ·have he:(jT r n n2).getD f 0=(jF r n n2).getD g 0:=he
  by_cases hfg:f<M/\g<M
  ·obtain⟨k,h1,h2,h3,h4⟩:=hs.cp f g hfg.1 hfg.2 (by rw [<-T1 f hfg.1,<-F1 g hfg.2];exact he)
   refine⟨k,by omega,?_,(F1 k h1).trans (h3.trans (F1 f hfg.1).symm),(T1 k h1).trans (h4.trans (T1 g hfg.2).symm)⟩
   rw [C f g hf hg];unfold jC;rw [if_pos he,if_pos hfg];exact h2
  ·rcases E f hf with⟨h1,⟨a,ha,ea⟩,b,hb⟩|⟨h1,⟨a,ha,ea⟩,b,hb,eb⟩|⟨x,y,hx,hy,rfl⟩
   ·obtain⟨x,y,hx,hy,rfl⟩: ∃x y,x<n/\y<n2/\g=M+(x*n2+y):=by
     rcases E g hg with h|h|h
     ·exact absurd ⟨h1,h.1⟩ hfg
     ·exact absurd ⟨h1,h.1⟩ hfg
     ·exact h
    exact new _ _ a y hf hg he hfg ha hy ((F1 f h1).trans ea) (T2 x y hx hy)
   ·obtain⟨x,y,hx,hy,rfl⟩: ∃x y,x<n/\y<n2/\g=M+(x*n2+y):=by
     rcases E g hg with h|h|h
     ·exact absurd ⟨h1,h.1⟩ hfg
     ·exact absurd ⟨h1,h.1⟩ hfg
     ·exact h
    rw [T1 f h1,eb,F2 x y hx hy]at he;omega
   ·rcases E g hg with⟨h1,⟨a,ha,ea⟩,b,hb⟩|⟨h1,⟨a,ha,ea⟩,b,hb,eb⟩|⟨x',y',hx',hy',rfl⟩
    ·rw [T2 x y hx hy,F1 g h1,ea]at he;omega
    ·exact new _ _ x b hf hg he hfg hx hb (F2 x y hx hy) ((T1 g h1).trans eb)
    ·rw [T2 x y hx hy,F2 x' y' hx' hy']at he;omega
 ·rw [C f g hf hg];unfold jC
  rw [if_neg (show ¬ (jT r n n2).getD f 0=(jF r n n2).getD g 0 from he)];decide
theorem p112(hc:Sp c n m)(hd:Sp d n2 m2)(b1:n<=500)(b2:m<=500)(b3:n2<=500)(b4:m2<=500):Tot (λr=>Sp r (n+n2) (m+m2+n*n2)) (G112 (c,d)):=by
 have h:=Xs hc hd (by omega) (by omega)
 exact⟨_,p112' hc hd b1 b2 b3 b4,Aaa (Vg hc hd (by omega) (by omega) (by omega) (by omega)) b1 b2 b3 b4 h.1 h.2⟩
end
end Go.Ve.D

