/- The draw of a category and arrows does not panic. -/
import Derived.Test.YtgobokfkomalhaaDri
import Derived.Test.YtgobokfkomalhaaJyc
namespace Go.Ve.D
open Go Go.Ve
noncomputable section
theorem okD_C{c:Ca}(h:okD c):okC c:=by
 obtain⟨a,b,d,e,f⟩:=h;exact⟨by omega,by omega,by omega,by omega,λy hy=>by have:=f y hy;omega⟩
theorem p51{s:Src}(h:OkS s):Tot (λr=>okD r.1.1/\OkS r.2) (G51 () s):=by
 unfold G51;exact Ah (p81 (by decide) (by decide) h) λv0 h0=>Ah (p52 h0.2) λv1 h1=>Ap (λ_=>Ah (p82 h1.2 (by show 0<4;omega)) λv2 h2=>Aa ⟨h0.1,h2⟩) λ_=>Ah (p52 h1.2) λv2 h2=>Aa ⟨h0.1,h2.2⟩
theorem p54(c:Ca)(f:Int):Tot (λb:Bool=>b=true->0<=f/\f<(c.2.1.length:Int)) (G54 (c,f)):=by
 unfold G54;refine Ah (P:=λb:Bool=>b=true->0<=f/\f<(c.2.1.length:Int)) (Ap (λh=>Aa λh2=>⟨CK h,CK h2⟩) λ_=>Aa λh=>by cases h) λv h=>Aa h
theorem p20{s:Src}(h:OkS s):Tot (λr=>okD r.1.1/\r.1.2.length<=8) (G20 true s):=by
 unfold G20;refine Ah (p51 h) λv0 h0=>?_
 obtain⟨⟨⟨c1,c2,c3,c4,c5⟩,f⟩,s0⟩:=v0;obtain⟨hc,hs0⟩:=h0;have hc:okD (c1,c2,c3,c4,c5):=hc;have hl:c2.length<=2000:=hc.1;refine Ah (p52 hs0) λv1 h1=>?_
 obtain⟨k0,s1⟩:=v1;obtain⟨⟨n0,n1,_⟩,hs1⟩:=h1;have n0:0<=k0:=n0;have n1:k0<3:=n1 (by decide)
 refine Hq (I:=λv=>∃j:Nat,v.1=(j:Int)/\OkS (v.2.1,v.2.2.1,v.2.2.2.1)/\(v.2.2.2.2.2.2.2.2.2.1,v.2.2.2.2.2.2.2.2.2.2.1,v.2.2.2.2.2.2.2.2.2.2.2.1,v.2.2.2.2.2.2.2.2.2.2.2.2.1,v.2.2.2.2.2.2.2.2.2.2.2.2.2.1)=((c1,c2,c3,c4,c5):Ca)/\v.2.2.2.2.2.2.2.2.2.2.2.2.2.2.length+j<=3) (λv=>v.1.toNat) ⟨k0.toNat,by show k0=_;omega,hs1,rfl,by show 1+k0.toNat<=3;omega⟩ (λv hv=>?_)
 obtain⟨k,a1,a2,a3,e1,e2,e3,e4,e5,d1,d2,d3,d4,d5,L⟩:=v;obtain⟨j,hk,ha,hd,hL⟩:=hv;have hk:k=(j:Int):=hk;have ha:OkS (a1,a2,a3):=ha;have hL:L.length+j<=3:=hL;have hd:((d1,d2,d3,d4,d5):Ca)=(c1,c2,c3,c4,c5):=hd;cases hd;subst hk;refine Ah (P:=λb:Bool=>b=true->0<j) (Ap (λhj=>?_) λ_=>Aa λh=>by cases h) λv3 h3=>?_
 ·have hj:0<(j:Int):=CK hj
  exact AL (p53 (okD_C hc)) (Aa λ_=>by omega)
 refine Ah (P:=λb:Bool=>b=true->0<j/\0<=f/\f<(c2.length:Int)) (Ap (λh=>Ah (p54 _ f) λv4 h4=>Aa λh'=>⟨h3 h,h4 h'⟩) λ_=>Aa λh=>by cases h) λv4 h4=>?_
 refine Ap (λh=>?_) λ_=>Aa (Ab rfl (Ah (p52 ha) λw hw=>Ap (λ_=>Aa ⟨hc,Nat.zero_le _⟩) λ_=>Aa ⟨hc,by show L.length<=8;omega⟩))
 obtain⟨g1,g2,g3⟩:=h4 h;have hn:0<c2.length:=by omega
 refine Ah (p52 ha) λv5 h5=>?_
 obtain⟨g,b1,b2,b3⟩:=v5;obtain⟨⟨m0,m1,_⟩,hb⟩:=h5;have m0:0<=g:=m0;have m1:g<(c2.length:Int):=m1 (by show(0:Int)<(c2.length:Int);omega)
 have hb:OkS (b1,b2,b3):=hb
 have hend: ∀ (g t1 t2 t3 e1 e2 e3 e4 e5),OkS (t1,t2,t3)->Tot (LoT (λy=>(λv:Int×LI×Int×Int×Int×LI×LI×LI×LL×Int×LI×LI×LI×LL×LI=>∃j:Nat,v.1=(j:Int)/\OkS (v.2.1,v.2.2.1,v.2.2.2.1)/\(v.2.2.2.2.2.2.2.2.2.1,v.2.2.2.2.2.2.2.2.2.2.1,v.2.2.2.2.2.2.2.2.2.2.2.1,v.2.2.2.2.2.2.2.2.2.2.2.2.1,v.2.2.2.2.2.2.2.2.2.2.2.2.2.1)=((c1,c2,c3,c4,c5):Ca)/\v.2.2.2.2.2.2.2.2.2.2.2.2.2.2.length+j<=3) y/\y.1.toNat<(j:Int).toNat) (λi2 (v2:Int×LI×Int×Int×Int×LI×LI×LI×LL×Int×LI×LI×LI×LL×LI)=>if i2=0 then(G52 30 (v2.2.1,v2.2.2.1,v2.2.2.2.1)).bind λv3=>bif decide (v3.1=0)then some (((v2.2.2.2.2.2.2.2.2.2.1,v2.2.2.2.2.2.2.2.2.2.2.1,v2.2.2.2.2.2.2.2.2.2.2.2.1,v2.2.2.2.2.2.2.2.2.2.2.2.2.1,v2.2.2.2.2.2.2.2.2.2.2.2.2.2.1),[]),v3.2)else some (((v2.2.2.2.2.2.2.2.2.2.1,v2.2.2.2.2.2.2.2.2.2.2.1,v2.2.2.2.2.2.2.2.2.2.2.2.1,v2.2.2.2.2.2.2.2.2.2.2.2.2.1,v2.2.2.2.2.2.2.2.2.2.2.2.2.2.1),v2.2.2.2.2.2.2.2.2.2.2.2.2.2.2),v3.2)else none) (λr:(Ca×LI)×Bx=>okD r.1.1/\r.1.2.length<=8)) (if(L.length+(g:: []).length)<=17592186044416 then some (LO.next (IntKind.wrap .i64 ((j:Int)-1),t1,t2,t3,e1,e2,e3,e4,e5,c1,c2,c3,c4,c5,L++(g:: [])))else none):=by
  intro g t1 t2 t3 e1 e2 e3 e4 e5 ht;refine Ab (by show L.length+1<=_;omega) (Aa ⟨⟨j-1,?_,ht,rfl,?_⟩,?_⟩)
  ·show IntKind.wrap .i64 ((j:Int)-1)=_
   rw [Ay (by omega) (by omega)];omega
  ·show(L++ [g]).length+(j-1)<=3
   rw [List.length_append];show L.length+1+(j-1)<=3;omega
  ·show(IntKind.wrap .i64 ((j:Int)-1)).toNat<_
   rw [Ay (by omega) (by omega)];omega
 refine AC (n:=c2.length) (λi v=>v.2.1=(i:Int)/\(0<=v.1/\v.1<(c2.length:Int))/\OkS (v.2.2.1,v.2.2.2.1,v.2.2.2.2.1)/\v.2.2.2.2.2=(e1,e2,e3,e4,e5,c1,c2,c3,c4,c5,L)) ⟨rfl,⟨m0,m1⟩,hb,rfl⟩ (λi hi v hv=>?_) λv hv=>?_
 ·obtain⟨g,q,t1,t2,t3,r⟩:=v
  obtain⟨h1,h2,h3,h4⟩:=hv;have h1:q=(i:Int):=h1;have h2:0<=g/\g<(c2.length:Int):=h2;have h3:OkS (t1,t2,t3):=h3;have h4:r=(e1,e2,e3,e4,e5,c1,c2,c3,c4,c5,L):=h4;subst h1 h4;refine Bk (ltD hi) (Ah (p52 h3) λv7 h7=>Ap (λ_=>?_) λ_=>Aa (Ab rfl (hend g _ _ _ e1 e2 e3 e4 e5 h7.2)))
  refine Ah (P:=λ_=>True) (Bk rfl (Ab h2 (Ab ⟨g2,g3⟩ (Aa trivial)))) λv8 _=>Ah (P:=λ_=>True) (Ap (λ_=>Aa trivial) λ_=>A8 rfl (Aa trivial)) λv9 _=>Ap (λ_=>Aa (Ab rfl (hend g _ _ _ e1 e2 e3 e4 e5 h7.2))) λ_=>?_
  have hz:(c2.length:Int)≠0:=by omega
  refine Ab hz (Aa ⟨?_,⟨?_,?_⟩,h7.2,rfl⟩)
  ·show IntKind.wrap .i64 ((i:Int)+1)=_
   exact wrD hi (by omega)
  ·show 0<=Int.tmod (IntKind.wrap .i64 (g+1)) _
   rw [Ay (by omega) (by omega),Int.tmod_eq_emod_of_nonneg (by omega)]
   exact Int.emod_nonneg _ hz
  ·show Int.tmod (IntKind.wrap .i64 (g+1)) _<_
   rw [Ay (by omega) (by omega),Int.tmod_eq_emod_of_nonneg (by omega)]
   exact Int.emod_lt_of_pos _ (show(0:Int)<(c2.length:Int) by omega)
 ·obtain⟨g,q,t1,t2,t3,r⟩:=v
  obtain⟨h1,h2,h3,h4⟩:=hv;have h1:q=(c2.length:Int):=h1;have h3:OkS (t1,t2,t3):=h3;have h4:r=(e1,e2,e3,e4,e5,c1,c2,c3,c4,c5,L):=h4;subst h1 h4;exact A8 ltf (Aa (Ab rfl (hend g _ _ _ e1 e2 e3 e4 e5 h3)))
theorem p6{x:LI}(h:VW x):Tot (λr:Ca×LI=>okC r.1/\r.2.length<=8) (G6 x):=by
 unfold G6;exact Ah (p21 h) λv0 hs=>Ah (p20 hs) λv1 hv1=>Aa ⟨okD_C hv1.1,hv1.2⟩
end
end Go.Ve.D


namespace Go.Ve.D
open Go Go.Ve
noncomputable section
variable{c:Cat}{x y:Int}{A X:LI}{i j:Nat}{E:Nat->Nat->Int}
theorem p58(hm:c.2.1.length<=1048576)(ht:c.2.2.1.length=c.2.1.length)(x y:Int):G58 (c,(x,y))=some (Dw c x y):=by
 obtain⟨c1,c2,c3,c4,c5⟩:=c;unfold G58;simp only at hm ht⊢;refine Ai (v:=.brk 0 ((c2.length:Int),Dw (c1,(c2,(c3,(c4,c5)))) x y)) (Ws (λi hi acc ha=>?_) λacc=>?_) rfl
 ·simp only [Bh,hi,decide_true,cond_true,Ad hi,if_true,and_self,tNC,List.length_cons,List.length_nil,ht]
  rw [Ay (by omega) (by omega),if_pos (show acc.length+(0+1)<=17592186044416 by omega)]
  show Option.bind (bif decide (c2.getD i 0=x)then some (decide (c3.getD i 0=y))else some false) _=_;show _=some (LO.next (((i+1:Nat):Int),bif decide (c2.getD i 0=x)&&decide (c3.getD i 0=y)then acc++ [(i:Int)]else acc))
  cases decide (c2.getD i 0=x)<;>cases decide (c3.getD i 0=y)<;>rfl
 ·simp only [Bh,Nat.lt_irrefl,decide_false,cond_false]
theorem Wj(hi:i<(Dw c x y).length):0<=(Dw c x y).getD i 0/\(Dw c x y).getD i 0<(c.2.1.length:Int):=by
 obtain⟨f,hf,h,_⟩:=Hh.1 (He (0:Int) hi);rw [h];have:f<c.2.1.length:=hf;omega
theorem hom_ne(hij:i<j)(hj:j<(Dw c x y).length):(Dw c x y).getD i 0≠(Dw c x y).getD j 0:=by
 have hp:(Dw c x y).Pairwise (·≠·):=by
  unfold Dw;rw [List.pairwise_map];exact(List.nodup_range.filter _).imp λh e=>h (by omega)
 rw [List.pairwise_iff_getElem]at hp;have:=hp i j (by omega) hj hij
 rw [gDE,gDE,gEE hj,gEE (by omega)]
 exact this
theorem WA{x:LI}{k:Nat}:(x.drop k).getD j 0=x.getD (k+j) 0:=by
 rw [gDE,gDE,List.getElem?_drop]
def Cnc(n m:Nat)(E:Nat->Nat->Int):Prop:=∀i j,i<j->j<n->∃w,w<m/\E i w≠E j w
theorem p10057(hX:X.length<=1048576)(hA:A.length<=1048576)(hE: ∀i w,i<X.length->w<A.length->G59 (X.getD i 0,((w:Int),(c,A)))=some (E i w)):Tot (λb:Bool=>b=true↔Cnc X.length A.length E) (G10057 (X,((A.length:Int),(c,A)))):=by
 unfold G10057;refine AC (n:=X.length) (λi v=>v=(i:Int)/\∀a b,a<i->a<b->b<X.length->∃w,w<A.length/\E a w≠E b w) ⟨rfl,λa _ h=>absurd h (Nat.not_lt_zero a)⟩ (λi hi v hv=>?_) λv hv=>?_
 ·obtain⟨rfl,hv⟩:=hv
  refine Bk (ltd hi) (Ab (Ad hi) ?_);rw [wr hi hX];refine Ab ⟨by omega,by show((i+1:Nat):Int)<=(X.length:Int);omega,Int.le_refl _⟩ ?_
  have hYl:(X.drop (((i+1:Nat):Int)).toNat).length=X.length-(i+1):=List.length_drop;have hYg: ∀j,(X.drop (((i+1:Nat):Int)).toNat).getD j 0=X.getD (i+1+j) 0:=λj=>WA
  refine AC (n:=(X.drop (((i+1:Nat):Int)).toNat).length) (λj v=>v=(j:Int)/\∀b,b<j->∃w,w<A.length/\E i w≠E (i+1+b) w) ⟨rfl,λb h=>absurd h (Nat.not_lt_zero b)⟩ (λj hj u hu=>?_) λu hu=>?_
  ·obtain⟨rfl,hu⟩:=hu
   refine Bk (ltd hj) (Ab (Ad hj) ?_);refine AC (n:=A.length) (λk v=>v.2=(k:Int)/\(v.1=true->∀w,w<k->E i w=E (i+1+j) w)/\(v.1=false->∃w,w<A.length/\E i w≠E (i+1+j) w)) ⟨rfl,λ_ w h=>absurd h (Nat.not_lt_zero w),λh=>by cases h⟩ (λk hk v hv=>?_) λv hv=>?_
   ·obtain⟨v1,v2⟩:=v
    obtain⟨(h2:v2=(k:Int)),(h3:v1=true->_),(h4:v1=false->_)⟩:=hv;subst h2;cases v1 with
    |false=>
     refine AL (v:=false) (HU (ltd hk) rfl) (A8 rfl (Aa (Ab rfl (A8 rfl (Aa ⟨wr hj (by omega),λb hb=>?_⟩)))))
     by_cases e:b=j
     ·subst e;exact h4 rfl
     ·exact hu b (by omega)
    |true=>
     refine AL (v:=true) (HU (ltd hk) rfl) (Bk rfl (AL (hE i k hi hk) (AL (v:=E (i+1+j) k) ?_ (Aa ⟨wr hk hA,λhe w hw=>?_,λhe=>⟨k,hk,of_decide_eq_false he⟩⟩))))
     ·show G59 ((X.drop (((i+1:Nat):Int)).toNat).getD j 0,((k:Int),(c,A)))=_
      rw [hYg];exact hE _ _ (by omega) hk
     ·by_cases e:w=k
      ·subst e;exact of_decide_eq_true he
      ·exact h3 rfl w (by omega)
   ·obtain⟨v1,v2⟩:=v
    obtain⟨(rfl:v2=(A.length:Int)),(h3:v1=true->_),(h4:v1=false->_)⟩:=hv;refine AL (v:=false) (CN ltn rfl) (A8 rfl (Aa (Ab rfl (Ap (λe=>?_) λe=>Aa ⟨wr hj (by omega),λb hb=>?_⟩))))
    ·refine Ct (Ct (Aa ⟨(λh=>by cases h),λhc=>?_⟩))
     obtain⟨w,hw,hne⟩:=hc i (i+1+j) (by omega) (by omega)
     exact absurd (h3 e w hw) hne
    ·by_cases e':b=j
     ·subst e';exact h4 e
     ·exact hu b (by omega)
  ·obtain⟨rfl,hu⟩:=hu
   refine A8 ltn (Aa (Ab rfl (Aa ⟨rfl,λa b h1 h2 h3=>?_⟩)))
   by_cases e:a=i
   ·subst e
    have:=hu (b-(a+1)) (by omega)
    rw [show a+1+(b-(a+1))=b by omega]at this
    exact this
   ·exact hv a b (by omega) h2 h3
 ·obtain⟨rfl,hv⟩:=hv
  exact A8 ltn (Aa (Ab rfl (Aa ⟨λ_ a b h1 h2=>hv a b (by omega) h1 h2,λ_=>rfl⟩)))
theorem p20057(hX:X.length<=1048576)(hA:A.length<=1048576)(hE: ∀i w,i<X.length->w<A.length->G86 (X.getD i 0,((w:Int),(c,A)))=some (E i w)):Tot (λb:Bool=>b=true↔Cnc X.length A.length E) (G20057 (X,((A.length:Int),(c,A)))):=by
 unfold G20057;refine AC (n:=X.length) (λi v=>v=(i:Int)/\∀a b,a<i->a<b->b<X.length->∃w,w<A.length/\E a w≠E b w) ⟨rfl,λa _ h=>absurd h (Nat.not_lt_zero a)⟩ (λi hi v hv=>?_) λv hv=>?_
 ·obtain⟨rfl,hv⟩:=hv
  refine Bk (ltd hi) (Ab (Ad hi) ?_);rw [wr hi hX];refine Ab ⟨by omega,by show((i+1:Nat):Int)<=(X.length:Int);omega,Int.le_refl _⟩ ?_
  have hYl:(X.drop (((i+1:Nat):Int)).toNat).length=X.length-(i+1):=List.length_drop;have hYg: ∀j,(X.drop (((i+1:Nat):Int)).toNat).getD j 0=X.getD (i+1+j) 0:=λj=>WA
  refine AC (n:=(X.drop (((i+1:Nat):Int)).toNat).length) (λj v=>v=(j:Int)/\∀b,b<j->∃w,w<A.length/\E i w≠E (i+1+b) w) ⟨rfl,λb h=>absurd h (Nat.not_lt_zero b)⟩ (λj hj u hu=>?_) λu hu=>?_
  ·obtain⟨rfl,hu⟩:=hu
   refine Bk (ltd hj) (Ab (Ad hj) ?_);refine AC (n:=A.length) (λk v=>v.2=(k:Int)/\(v.1=true->∀w,w<k->E i w=E (i+1+j) w)/\(v.1=false->∃w,w<A.length/\E i w≠E (i+1+j) w)) ⟨rfl,λ_ w h=>absurd h (Nat.not_lt_zero w),λh=>by cases h⟩ (λk hk v hv=>?_) λv hv=>?_
   ·obtain⟨v1,v2⟩:=v
    obtain⟨(h2:v2=(k:Int)),(h3:v1=true->_),(h4:v1=false->_)⟩:=hv;subst h2;cases v1 with
    |false=>
     refine AL (v:=false) (HU (ltd hk) rfl) (A8 rfl (Aa (Ab rfl (A8 rfl (Aa ⟨wr hj (by omega),λb hb=>?_⟩)))))
     by_cases e:b=j
     ·subst e;exact h4 rfl
     ·exact hu b (by omega)
    |true=>
     refine AL (v:=true) (HU (ltd hk) rfl) (Bk rfl (AL (hE i k hi hk) (AL (v:=E (i+1+j) k) ?_ (Aa ⟨wr hk hA,λhe w hw=>?_,λhe=>⟨k,hk,of_decide_eq_false he⟩⟩))))
     ·show G86 ((X.drop (((i+1:Nat):Int)).toNat).getD j 0,((k:Int),(c,A)))=_
      rw [hYg];exact hE _ _ (by omega) hk
     ·by_cases e:w=k
      ·subst e;exact of_decide_eq_true he
      ·exact h3 rfl w (by omega)
   ·obtain⟨v1,v2⟩:=v
    obtain⟨(rfl:v2=(A.length:Int)),(h3:v1=true->_),(h4:v1=false->_)⟩:=hv;refine AL (v:=false) (CN ltn rfl) (A8 rfl (Aa (Ab rfl (Ap (λe=>?_) λe=>Aa ⟨wr hj (by omega),λb hb=>?_⟩))))
    ·refine Ct (Ct (Aa ⟨(λh=>by cases h),λhc=>?_⟩))
     obtain⟨w,hw,hne⟩:=hc i (i+1+j) (by omega) (by omega)
     exact absurd (h3 e w hw) hne
    ·by_cases e':b=j
     ·subst e';exact h4 e
     ·exact hu b (by omega)
  ·obtain⟨rfl,hu⟩:=hu
   refine A8 ltn (Aa (Ab rfl (Aa ⟨rfl,λa b h1 h2 h3=>?_⟩)))
   by_cases e:a=i
   ·subst e
    have:=hu (b-(a+1)) (by omega)
    rw [show a+1+(b-(a+1))=b by omega]at this
    exact this
   ·exact hv a b (by omega) h2 h3
 ·obtain⟨rfl,hv⟩:=hv
  exact A8 ltn (Aa (Ab rfl (Aa ⟨λ_ a b h1 h2=>hv a b (by omega) h1 h2,λ_=>rfl⟩)))
def JM(c:Cat)(x:Int)(A:LI):Prop:=∀g h,g<ar c->h<ar c->g≠h->fT c g=fT c h->tT c g=x->tT c h=x->∃w,w<A.length/\T c g (A.getD w 0).toNat≠T c h (A.getD w 0).toNat
theorem YR{x:LI}{a:Int}(h:a∈x): ∃i,i<x.length/\x.getD i 0=a:=by
 obtain⟨i,hi,e⟩:=List.getElem_of_mem h;exact⟨i,hi,by rw [gDE,gEE hi];exact e⟩
theorem Mn{s:Int}:Cnc (Dw c s x).length A.length (λi w=>T c ((Dw c s x).getD i 0).toNat (A.getD w 0).toNat)↔ ∀g h,g<ar c->h<ar c->g≠h->fT c g=s->fT c h=s->tT c g=x->tT c h=x->∃w,w<A.length/\T c g (A.getD w 0).toNat≠T c h (A.getD w 0).toNat:=by
 constructor
 ·intro hc g h hg hh hne g1 h1 g2 h2
  obtain⟨i,hi,ei⟩:=YR (Hh.2 ⟨g,hg,rfl,g1,g2⟩);obtain⟨j,hj,ej⟩:=YR (Hh.2 ⟨h,hh,rfl,h1,h2⟩);rcases Nat.lt_trichotomy i j with e|e|e
  ·obtain⟨w,hw,he⟩:=hc i j e hj
   simp only [ei,ej,tNC]at he;exact⟨w,hw,he⟩
  ·subst e;omega
  ·obtain⟨w,hw,he⟩:=hc j i e hi
   simp only [ei,ej,tNC]at he;exact⟨w,hw,λh=>he h.symm⟩
 ·intro hc i j hij hj
  obtain⟨a,ha,ea,a1,a2⟩:=Hh.1 (He (0:Int) (show i<(Dw c s x).length by omega))
  obtain⟨d,hd,ed,d1,d2⟩:=Hh.1 (He (0:Int) hj);have hne:=hom_ne hij hj;obtain⟨w,hw,he⟩:=hc a d ha hd (λe=>hne (by rw [ea,ed,e])) a1 d1 a2 d2
  exact⟨w,hw,by simp only [ea,ed,tNC];exact he⟩
theorem UH{n:Nat}{w:LI}(hw:wi n w=true)(hi:i<w.length):0<=w.getD i 0/\w.getD i 0<(n:Int):=by
 obtain⟨f,hf,e⟩:=getW hw hi;omega
theorem p23(hc:Bj c=true)(hl:A.length<=1048576)(hA:wi (ar c) A=true):Tot (λb:Bool=>b=true↔JM c x A) (G23 (c,(x,A))):=by
 have hs:=Bb hc;have hl':=Ds hs;have ht:=Jl hs;have h0:=hs.hd.1;obtain⟨n,hn⟩: ∃n:Nat,c.1=(n:Int):=⟨c.1.toNat,by omega⟩
 unfold G23;refine AC (n:=n) (λi v=>v=(i:Int)/\∀g h,g<ar c->h<ar c->g≠h->fT c g=fT c h->fT c g<(i:Int)->tT c g=x->tT c h=x->∃w,w<A.length/\T c g (A.getD w 0).toNat≠T c h (A.getD w 0).toNat) ⟨rfl,λg h hg _ _ _ h4=>?_⟩ (λi hi v hv=>?_) λv hv=>?_
 ·have:=(hs.fr g hg).1
  exact absurd h4 (by show ¬fT c g<((0:Nat):Int);have:0<=fT c g:=this;omega)
 ·obtain⟨rfl,hv⟩:=hv
  refine Bk (by show decide ((i:Int)<c.1)=true;rw [hn];exact ltd hi) (AL (p58 (by show ar c<=_;omega) ht _ _) (Ah (p10057 (X:=Dw c (i:Int) x) (A:=A) (c:=c) (E:=λi' w=>T c ((Dw c (i:Int) x).getD i' 0).toNat (A.getD w 0).toNat) (by have:=Mb (c:=c) (x:=(i:Int)) (y:=x);omega) hl ?_) λb hb=>Ap (λe=>Ct (Aa ?_)) λe=>Aa ?_))
  ·intro k w hk hw
   unfold G59;exact Dd (Ad hw) (Ai (p60 hs (Wj hk) (UH hA hw)) rfl)
  ·refine⟨(λh=>by cases h),λh=>?_⟩
   have:b=true:=hb.2 (Mn.2 λg k hg hk hne g1 k1 g2 k2=>h g k hg hk hne (g1.trans k1.symm) g2 k2)
   rw [this]at e;cases e
  ·refine⟨wr hi (by omega),λg h hg hh hne h1 h2 h3 h4=>?_⟩
   have e:b=true:=by cases b with|true=>rfl|false=>cases e
   by_cases ei:fT c g=(i:Int)
   ·exact Mn.1 (hb.1 e) g h hg hh hne ei (h1.symm.trans ei) h3 h4
   ·exact hv g h hg hh hne h1 (by omega) h3 h4
 ·obtain⟨rfl,hv⟩:=hv
  refine A8 (by show decide ((n:Int)<c.1)=false;rw [hn];exact ltn) (Aa (Ab rfl (Aa ⟨λ_ g h hg hh hne h1=>hv g h hg hh hne h1 ?_,λ_=>rfl⟩)))
  have:=(hs.fr g hg).2;rw [<-hn];exact this
end
end Go.Ve.D

