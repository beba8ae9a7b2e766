/- Jointly monomorphic arrows: the opposite category, the reference. -/
import Derived.Test.YtgobokfkomalhaaOjb
import Derived.Test.YtgobokfkomalhaaJyc
namespace Go.Ve.D
open Go Go.Ve
noncomputable section
variable{c:Cat}{x:Int}{A:LI}
theorem YS(h:Sh c){t:Int}:Dw c x t=Dw (opO c) t x:=by
 unfold Dw;rw [VV h]
 congr 1
 refine List.filter_congr λf _=>?_
 show(decide (fT c f=x)&&decide (tT c f=t))=(decide (tT c f=t)&&decide (fT c f=x));exact Bool.and_comm _ _
theorem p67(hc:Bj c=true)(hl:A.length<=1048576)(hA:wi (ar c) A=true):Tot (λb:Bool=>b=true↔JM (opO c) x A) (G67 (c,(x,A))):=by
 have hs:=Bb hc;have hl':=Ds hs;have ht:=Jl hs;have h0:=hs.hd.1;have har:=VV hs;obtain⟨n,hn⟩: ∃n:Nat,c.1=(n:Int):=⟨c.1.toNat,by omega⟩
 unfold G67;refine AC (n:=n) (λi v=>v=(i:Int)/\∀g h,g<ar (opO c)->h<ar (opO c)->g≠h->fT (opO c) g=fT (opO c) h->fT (opO c) g<(i:Int)->tT (opO c) g=x->tT (opO c) h=x->∃w,w<A.length/\T (opO c) g (A.getD w 0).toNat≠T (opO c) h (A.getD w 0).toNat) ⟨rfl,λg h hg _ _ _ h4=>?_⟩ (λi hi v hv=>?_) λv hv=>?_
 ·have:0<=fT (opO c) g:=(hs.to g (by rw [har]at hg;exact hg)).1
  exact absurd h4 (by show ¬fT (opO c) g<((0:Nat):Int);omega)
 ·obtain⟨rfl,hv⟩:=hv
  refine Bk (by show decide ((i:Int)<c.1)=true;rw [hn];exact ltd hi) (AL (p58 (by show ar c<=_;omega) ht _ _) ?_)
  have eh:Dw c x (i:Int)=Dw (opO c) (i:Int) x:=YS hs;have hln:(Dw (opO c) (i:Int) x).length<=1048576:=by have:=Mb (c:=opO c) (x:=(i:Int)) (y:=x);omega
  rw [eh];refine Ah (p20057 (X:=Dw (opO c) (i:Int) x) (A:=A) (c:=c) (E:=λi' w=>T (opO c) ((Dw (opO c) (i:Int) x).getD i' 0).toNat (A.getD w 0).toNat) hln hl ?_) λb hb=>Ap (λe=>Ct (Aa ?_)) λe=>Aa ?_
  ·intro k w hk hw
   obtain⟨f,hf,ef⟩: ∃f:Nat,f<ar c/\(Dw (opO c) (i:Int) x).getD k 0=(f:Int):=by
    obtain⟨f,hf,h,_⟩:=Hh.1 (He (0:Int) hk);exact⟨f,by rw [har]at hf;exact hf,h⟩
   obtain⟨a,ha,ea⟩:=getW hA hw;rw [ef,ea];unfold G86;refine Dd (Ad hw) ?_;show Option.bind (G60 (c,(A.getD w 0,(f:Int)))) _=_;rw [ea];refine Ai (p60 hs (Ad ha) (Ad hf)) ?_;show some (T c a f)=some (T (opO c) f a);rw [XG hs hf ha]
  ·refine⟨(λh=>by cases h),λh=>?_⟩
   have:b=true:=hb.2 (Mn.2 λg k hg hk hne g1 k1 g2 k2=>h g k hg hk hne (g1.trans k1.symm) g2 k2)
   rw [this]at e;cases e
  ·refine⟨wr hi (by omega),λg h hg hh hne h1 h2 h3 h4=>?_⟩
   have e:b=true:=by cases b with|true=>rfl|false=>cases e
   by_cases ei:fT (opO c) g=(i:Int)
   ·exact Mn.1 (hb.1 e) g h hg hh hne ei (h1.symm.trans ei) h3 h4
   ·exact hv g h hg hh hne h1 (by omega) h3 h4
 ·obtain⟨rfl,hv⟩:=hv
  refine A8 (by show decide ((n:Int)<c.1)=false;rw [hn];exact ltn) (Aa (Ab rfl (Aa ⟨λ_ g h hg hh hne h1=>hv g h hg hh hne h1 ?_,λ_=>rfl⟩)))
  have:=(hs.to g (by rw [har]at hg;exact hg)).2
  rw [<-hn];exact this
theorem jm_lt:(∀g h,g<h->h<ar c->fT c g=fT c h->tT c g=tT c h->tT c g=x->∃w,w<A.length/\T c g (A.getD w 0).toNat≠T c h (A.getD w 0).toNat)↔JM c x A:=by
 constructor
 ·intro hc g h hg hh hne h1 h2 h3
  rcases Nat.lt_or_gt_of_ne hne with e|e
  ·exact hc g h e hh h1 (h2.trans h3.symm) h2
  ·obtain⟨w,hw,he⟩:=hc h g e hg h1.symm (h3.trans h2.symm) h3
   exact⟨w,hw,λh=>he h.symm⟩
 ·intro hc g h e hh h1 h2 h3
  exact hc g h (by omega) hh (by omega) h1 h3 (h2.symm.trans h3)
theorem p26(hs:Sh c)(hl:A.length<=1048576)(hA:wi (ar c) A=true)(h0:0<A.length):Tot (λb:Bool=>b=true↔JM c (fT c (A.getD 0 0).toNat) A) (G26 (c,A)):=by
 have hl':=Ds hs;have ht:=Jl hs;have a0:=UH hA h0;have iF: ∀ {i:Nat},i<ar c->(0:Int)<=(i:Int)/\(i:Int)<(c.2.1.length:Int):=λh=>Ad h
 have iT: ∀ {i:Nat},i<ar c->(0:Int)<=(i:Int)/\(i:Int)<(c.2.2.1.length:Int):=λh=>by rw [ht];exact Ad h
 have iC: ∀ {i:Nat},i<ar c->(0:Int)<=(i:Int)/\(i:Int)<(c.2.2.2.2.length:Int):=λh=>by rw [hs.hd.2.2.2.2.2.1];exact Ad h
 have iR: ∀ {g w:Nat},g<ar c->w<A.length->(0:Int)<=A.getD w 0/\A.getD w 0<((c.2.2.2.2.getD g []).length:Int):=λhg hw=>by rw [hs.row _ hg];exact UH hA hw
 refine Pf (P:=λb:Bool=>b=true↔ ∀g h,g<h->h<ar c->fT c g=fT c h->tT c g=tT c h->tT c g=fT c (A.getD 0 0).toNat->∃w,w<A.length/\T c g (A.getD w 0).toNat≠T c h (A.getD w 0).toNat) ?_ λv hv=>hv.trans jm_lt
 unfold G26;refine AC (n:=ar c) (λi v=>v=(i:Int)/\∀g h,g<i->g<h->h<ar c->fT c g=fT c h->tT c g=tT c h->tT c g=fT c (A.getD 0 0).toNat->∃w,w<A.length/\T c g (A.getD w 0).toNat≠T c h (A.getD w 0).toNat) ⟨rfl,λg h e=>absurd e (Nat.not_lt_zero g)⟩ (λi hi v hv=>?_) λv hv=>?_
 ·obtain⟨rfl,hv⟩:=hv
  refine Bk (ltd hi) ?_;rw [wr hi (by omega)]
  refine AC (n:=ar c-(i+1)) (λj v=>v=((i+1+j:Nat):Int)/\∀h,i<h->h<i+1+j->fT c i=fT c h->tT c i=tT c h->tT c i=fT c (A.getD 0 0).toNat->∃w,w<A.length/\T c i (A.getD w 0).toNat≠T c h (A.getD w 0).toNat) ⟨rfl,λh e e'=>by omega⟩ (λj hj u hu=>?_) λu hu=>?_
  ·obtain⟨rfl,hu⟩:=hu
   have hh:i+1+j<ar c:=by omega
   have step: ∀ {o:Option (LO Int (LO Int Bool))},o=some (LO.next (IntKind.wrap .i64 (((i+1+j:Nat):Int)+1)))->True:=λ_=>trivial
   refine Bk (ltd hh) (Ab (iF hi) (Ab (iF hh) (Ah (P:=λb:Bool=>b=true↔fT c i=fT c (i+1+j)/\tT c i=tT c (i+1+j)) (Ap (λe=>Ab (iT hi) (Ab (iT hh) (Aa ⟨λh=>⟨CK e,CK h⟩,λh=>dT h.2⟩))) λe=>Aa ⟨(λh=>by cases h),λh=>absurd h.1 (Mf e)⟩) λv2 h2=>?_)))
   refine Ah (P:=λb:Bool=>b=true↔fT c i=fT c (i+1+j)/\tT c i=tT c (i+1+j)/\tT c i=fT c (A.getD 0 0).toNat) (Ap (λe=>Ab (iT hi) (Ab (by show(0:Int)<=0/\(0:Int)<(A.length:Int);omega) (Ab a0 (Aa ⟨λh=>⟨(h2.1 e).1,(h2.1 e).2,CK h⟩,λh=>dT h.2.2⟩)))) λe=>Aa ⟨(λh=>by cases h),λh=>by rw [h2.2 ⟨h.1,h.2.1⟩]at e;cases e⟩) λv3 h3=>?_
   refine AC (n:=A.length) (λk v=>v.2=(k:Int)/\(v.1=true->v3=true/\∀w,w<k->T c i (A.getD w 0).toNat=T c (i+1+j) (A.getD w 0).toNat)/\(v.1=false->v3=false\/∃w,w<A.length/\T c i (A.getD w 0).toNat≠T c (i+1+j) (A.getD w 0).toNat)) ⟨rfl,λe=>⟨e,λw h=>absurd h (Nat.not_lt_zero w)⟩,λe=>.inl e⟩ (λk hk v hv=>?_) λv hv=>?_
   ·obtain⟨v1,v2⟩:=v
    obtain⟨(g2:v2=(k:Int)),(g3:v1=true->_),(g4:v1=false->_)⟩:=hv;subst g2;cases v1 with
    |false=>
     refine AL (v:=false) rfl (A8 rfl (Aa (Ab rfl (A8 rfl (Aa ⟨?_,λh e1 e2 e3 e4 e5=>?_⟩)))))
     ·show IntKind.wrap .i64 (((i+1+j:Nat):Int)+1)=_
      rw [wr hh (by omega)];rfl
     ·by_cases e:h=i+1+j
      ·subst e
       rcases g4 rfl with g|g
       ·rw [h3.2 ⟨e3,e4,e5⟩]at g;cases g
       ·exact g
      ·exact hu h e1 (by omega) e3 e4 e5
    |true=>
     obtain⟨t3,tw⟩:=g3 rfl;refine AL (v:=true) (congrArg some (ltd hk)) (Bk rfl (Ab (iC hi) (Ab (Ad hk) (Ab (iR hi hk) (Ab (iC hh) (Ab (Ad hk) (Ab (iR hh hk) (Aa ⟨wr hk hl,λhe=>⟨t3,λw hw=>?_⟩,λhe=>.inr ⟨k,hk,of_decide_eq_false he⟩⟩))))))))
     by_cases e:w=k
     ·subst e;exact of_decide_eq_true he
     ·exact tw w (by omega)
   ·obtain⟨v1,v2⟩:=v
    obtain⟨(g2:v2=(A.length:Int)),(g3:v1=true->_),(g4:v1=false->_)⟩:=hv;subst g2;refine AL (v:=false) (by cases v1 with|true=>exact congrArg some ltn|false=>rfl) (A8 rfl (Aa (Ab rfl (Ap (λe=>?_) λe=>Aa ⟨?_,λh e1 e2 e3 e4 e5=>?_⟩))))
    ·obtain⟨t3,tw⟩:=g3 e
     obtain⟨q1,q2,q3⟩:=h3.1 t3;refine Ct (Ct (Aa ⟨(λh=>by cases h),λhc=>?_⟩))
     obtain⟨w,hw,hne⟩:=hc i (i+1+j) (by omega) hh q1 q2 q3
     exact absurd (tw w hw) hne
    ·show IntKind.wrap .i64 (((i+1+j:Nat):Int)+1)=_
     rw [wr hh (by omega)];rfl
    ·by_cases e':h=i+1+j
     ·subst e'
      rcases g4 e with g|g
      ·rw [h3.2 ⟨e3,e4,e5⟩]at g;cases g
      ·exact g
     ·exact hu h e1 (by omega) e3 e4 e5
  ·obtain⟨rfl,hu⟩:=hu
   have e:i+1+(ar c-(i+1))=ar c:=by omega
   rw [e]at hu⊢;refine A8 ltn (Aa (Ab rfl (Aa ⟨rfl,λg h h1 h2 h3=>?_⟩)))
   by_cases e:g=i
   ·subst e;exact hu h h2 h3
   ·exact hv g h (by omega) h2 h3
 ·obtain⟨rfl,hv⟩:=hv
  exact A8 ltn (Aa (Ab rfl (Aa ⟨λ_ g h h1 h2=>hv g h (by omega) h1 h2,λ_=>rfl⟩)))
end
end Go.Ve.D


namespace Go.Ve.D
open Go Go.Ve
noncomputable section
variable{c:Cat}{A:LI}
theorem p64{x:LI}(h:x.length<=1048576):G64 x=some x:=by
 unfold G64;exact Dd (by show 0+x.length<=_;omega) rfl
theorem p66(h:Sh c){f g:Nat}(hf:f<ar c)(hg:g<ar c):G66 ((f:Int),((g:Int),c))=some (T c g f):=Ai (p60 h (Ad hg) (Ad hf)) rfl
theorem p10065(h:Sh c):G10065 c (c.1,c.2.2.1,c.2.1,c.2.2.2.1,[])=some ((),opO c):=by
 have hl:=Ds h;have ht:c.2.2.1.length=ar c:=Jl h;obtain⟨F,hF⟩: ∃F:Nat->List Int,F=λf=>opQ c f:=⟨_,rfl⟩
 obtain⟨V,hV⟩: ∃V:Nat->Nat->Int,V=λf g=>bif decide (fT c f=tT c g)then T c g f else-1:=⟨_,rfl⟩
 have hFV: ∀f,F f=(List.range (ar c)).map (V f):=λf=>by rw [hF,hV];rfl
 have ret:((),opO c)=((),(c.1,(c.2.2.1,(c.2.1,(c.2.2.2.1,fill (ar c) F [] (ar c)))))):=by rw [YW,hF];rfl
 rw [ret];unfold G10065;have e56:G56 (c.1,c.2.2.1,c.2.1,c.2.2.2.1,([]:LL))=some ((ar c:Nat):Int):=by rw [p56];exact congrArg (λn:Nat=>some (n:Int)) ht
 refine Ai e56 (Dd ⟨by omega,by omega,by omega,by omega⟩ ?_)
 have e0:(List.replicate ((ar c:Nat):Int).toNat ([]:List Int))=fill (ar c) F [] 0:=YX;have e0':(List.replicate ((ar c:Nat):Int).toNat ([]:List Int)).length=ar c:=by rw [List.length_replicate];omega
 refine Ai (MF (st:=λi:Nat=>((i:Int),(c.1,(c.2.2.1,(c.2.1,(c.2.2.2.1,fill (ar c) F [] i)))))) (n:=ar c) (o:=.brk 0 ((ar c:Int),(c.1,(c.2.2.1,(c.2.1,(c.2.2.2.1,fill (ar c) F [] (ar c))))))) (by rw [e0];rfl) (λi hi=>?_) (CN (by rw [e0'];exact ltn) rfl) (λy=>by simp)) rfl
 have hs: ∀a,i<((fill (ar c) F [] i).set i a).length:=λa=>by rw [List.length_set,I6];exact hi
 have hs':i<(fill (ar c) F [] i).length:=by rw [I6];exact hi
 have er:List.replicate ((ar c:Nat):Int).toNat (0:Int)=fill (ar c) (V i) 0 0:=YX;refine HU (by rw [e0'];exact ltd hi) (Dd ⟨by omega,by omega,by omega,by omega⟩ (Dd (Ad hs') (Dd (Ad (hs _)) ?_)))
 have iF: ∀ {j:Nat},j<ar c->(0:Int)<=(j:Int)/\(j:Int)<(c.2.1.length:Int):=λh=>Ad h
 have iT: ∀ {j:Nat},j<ar c->(0:Int)<=(j:Int)/\(j:Int)<(c.2.2.1.length:Int):=λh=>by rw [ht];exact Ad h
 refine Ai (MF (st:=λj:Nat=>((j:Int),(c.1,(c.2.2.1,(c.2.1,(c.2.2.2.1,(fill (ar c) F [] i).set i (fill (ar c) (V i) 0 j))))))) (n:=ar c) (o:=.brk 2 ((ar c:Int),(c.1,(c.2.2.1,(c.2.1,(c.2.2.2.1,(fill (ar c) F [] i).set i (fill (ar c) (V i) 0 (ar c)))))))) ?_ (λj hj=>?_) (CN ?_ rfl) (λy=>by simp)) ?_
 ·show((0:Int),_)=((0:Int),_)
  rw [er];rfl
 ·have q1:decide ((j:Int)<((((fill (ar c) F [] i).set i (List.replicate ((ar c:Nat):Int).toNat (0:Int))).getD i []).length:Int))=true:=by
   rw [DV hs',List.length_replicate];exact dT (by omega)
  have q2:(0:Int)<=(j:Int)/\(j:Int)<((((fill (ar c) F [] i).set i (fill (ar c) (V i) 0 j)).getD i []).length:Int):=by
   rw [DV hs',I6];exact Ad hj
  have e1:((fill (ar c) F [] i).set i (fill (ar c) (V i) 0 j)).set i ((((fill (ar c) F [] i).set i (fill (ar c) (V i) 0 j)).getD i []).set j (-1))=(fill (ar c) F [] i).set i ((fill (ar c) (V i) 0 j).set j (-1)):=by
   rw [DV hs',Ly]
  refine HU q1 (Dd (Ad (hs _)) (Dd q2 (Dd (iF hi) (Dd (iT hj) ?_))));show(bif decide (fT c i=tT c j)then _ else _)=_;cases hm:decide (fT c i=tT c j)with
  |false=>
   show some (LO.next (IntKind.wrap .i64 ((j:Int)+1),c.1,c.2.2.1,c.2.1,c.2.2.2.1,((fill (ar c) F [] i).set i (fill (ar c) (V i) 0 j)).set i ((((fill (ar c) F [] i).set i (fill (ar c) (V i) 0 j)).getD i []).set j (-1))))=_
   have e2:(-1:Int)=V i j:=by rw [hV];show _=bif decide (fT c i=tT c j)then _ else _;rw [hm];rfl
   rw [e1,e2,Me hj,wr hj (by omega)]
  |true=>
   have hv:T c j i=V i j:=by rw [hV];show _=bif decide (fT c i=tT c j)then _ else _;rw [hm];rfl
   have e3:((fill (ar c) F [] i).set i ((fill (ar c) (V i) 0 j).set j (-1))).getD i []=(fill (ar c) (V i) 0 j).set j (-1):=DV hs';refine Dd ?_ (Ai (p66 h hi hj) (Dd ?_ ?_))
   ·show(0:Int)<=(i:Int)/\(i:Int)<((((fill (ar c) F [] i).set i (fill (ar c) (V i) 0 j)).set i ((((fill (ar c) F [] i).set i (fill (ar c) (V i) 0 j)).getD i []).set j (-1))).length:Int)
    rw [e1];exact Ad (hs _)
   ·show(0:Int)<=(j:Int)/\(j:Int)<(((((fill (ar c) F [] i).set i (fill (ar c) (V i) 0 j)).set i ((((fill (ar c) F [] i).set i (fill (ar c) (V i) 0 j)).getD i []).set j (-1))).getD i []).length:Int)
    rw [e1,e3,List.length_set,I6];exact Ad hj
   ·show some (LO.next (IntKind.wrap .i64 ((j:Int)+1),c.1,c.2.2.1,c.2.1,c.2.2.2.1,(((fill (ar c) F [] i).set i (fill (ar c) (V i) 0 j)).set i ((((fill (ar c) F [] i).set i (fill (ar c) (V i) 0 j)).getD i []).set j (-1))).set i (((((fill (ar c) F [] i).set i (fill (ar c) (V i) 0 j)).set i ((((fill (ar c) F [] i).set i (fill (ar c) (V i) 0 j)).getD i []).set j (-1))).getD i []).set j (T c j i))))=_
    rw [e1,e3,Ly,Ly,hv,Me hj,wr hj (by omega)]
 ·show decide (((ar c:Nat):Int)<((((fill (ar c) F [] i).set i (List.replicate ((ar c:Nat):Int).toNat (0:Int))).getD i []).length:Int))=false
  rw [DV hs',List.length_replicate];exact dF (by omega)
 ·show some (LO.next (IntKind.wrap .i64 ((i:Int)+1),c.1,c.2.2.1,c.2.1,c.2.2.2.1,(fill (ar c) F [] i).set i (fill (ar c) (V i) 0 (ar c))))=_
  rw [YW,<-hFV,Me hi,wr hi (by omega)]
theorem p28(h:Sh c):G28 c=some (opO c):=by
 have hl:=Ds h;have ht:c.2.2.1.length=ar c:=Jl h;obtain⟨a1,a2,a3,a4,a5,a6,a7,a8⟩:=h.hd;unfold G28;refine Ai (p64 (by omega)) (Ai (p64 (by omega)) (Ai (p64 (by omega)) (Ai (p10065 h) rfl)))
theorem p9(h:okC c)(hc:Bj c=true):G9 c=some (opO c,0):=by
 unfold G9;refine Ai (p27 h) ?_;rw [hc];exact Ai (p28 (Bb hc)) rfl
theorem op_ok(hc:Bj c=true):okC (opO c):=by
 obtain⟨a1,a2,a3,a4,a5,a6,a7,a8⟩:=(Bb (NC hc)).hd;have hr:=(Bb (NC hc)).row;refine⟨by omega,by omega,by omega,by omega,λy hy=>?_⟩
 obtain⟨i,hi,rfl⟩:=List.getElem_of_mem hy;have:=hr i (by rw [a6]at hi;exact hi)
 rw [gDE,gEE hi]at this;show((opO c).2.2.2.2[i]).length<=_;have e:((opO c).2.2.2.2[i]).length=(opO c).2.1.length:=this;omega
def jmB(c:Cat)(x:Int)(A:LI):Bool:=@decide (JM c x A) (Classical.propDecidable _)
theorem Pg{x:Int}{o:Option Bool}(h:Tot (λb:Bool=>b=true↔JM c x A) o):o=some (jmB c x A):=by
 obtain⟨v,rfl,hv⟩:=h;refine congrArg some ?_;unfold jmB;have: @decide (JM c x A) (Classical.propDecidable _)=true↔JM c x A:=@decide_eq_true_iff _ (Classical.propDecidable _);cases v with
 |true=>exact(this.2 (hv.1 rfl)).symm
 |false=>
  cases hd: @decide (JM c x A) (Classical.propDecidable _)with
  |false=>rfl
  |true=>exact hv.2 (this.1 hd)
def IP(c:Cat)(A:LI):Bool:=(List.range A.length).all λk=>decide (fT c (A.getD k 0).toNat=fT c (A.getD 0 0).toNat)
def jR(c:Cat)(A:LI):Bool×Int:=bif !Bj c then(false,1)else bif !wi (ar c) A then(false,2)else bif decide (A.length=0)|| !IP c A then(false,5)else(jmB c (fT c (A.getD 0 0).toNat) A,0)
theorem p7(h:okC c)(hl:A.length<=1048576):G7 (c,A)=some (jR c A):=by
 unfold G7 jR;refine Ai (p22 h hl) ?_;unfold Aax;cases hc:Bj c with
 |false=>rfl
 |true=>
  cases hA:wi (ar c) A with
  |false=>rfl
  |true=>
   have hg: ∀k,k<A.length->0<=A.getD k 0/\A.getD k 0<(c.2.1.length:Int):=λk hk=>UH hA hk
   refine(chkG (n:=A.length) (p:=λk=>decide (fT c (A.getD k 0).toNat=fT c (A.getD 0 0).toNat)) (id:=0) (r:=(false,(5:Int))) (v:=bif decide (A.length=0)then(false,(5:Int))else(jmB c (fT c (A.getD 0 0).toNat) A,(0:Int))) (λi hi=>HU (ltd hi) (Dd (Ad hi) (Dd (hg i hi) (Dd (by show(0:Int)<=0/\(0:Int)<(A.length:Int);omega) (Dd (hg 0 (by omega)) ?_))))) (CN ltn rfl) λhall=>?_).trans ?_
   ·show(bif !decide (fT c (A.getD i 0).toNat=fT c (A.getD 0 0).toNat)then B4 (some (false,(5:Int)))else some (LO.next (IntKind.wrap .i64 ((i:Int)+1))))=_
    rw [wr hi hl];cases decide (fT c (A.getD i 0).toNat=fT c (A.getD 0 0).toNat)<;>rfl
   ·refine Dd rfl ?_
    by_cases h0:A.length=0
    ·rw [dT (show((A.length:Nat):Int)=0 by omega),dT h0];rfl
    ·rw [dF (show ¬ ((A.length:Nat):Int)=0 by omega),dF h0]
     refine Dd (by show(0:Int)<=0/\(0:Int)<(A.length:Int);omega) (Dd (hg 0 (by omega)) (Ai (Pg (p23 hc hl hA)) rfl))
   ·show some (bif IP c A then _ else _)=_
    cases IP c A with
    |true=>cases decide (A.length=0)<;>rfl
    |false=>cases decide (A.length=0)<;>rfl
theorem p24(h:okC c)(hl:A.length<=1048576):G24 (c,A)=some (bif !Bj c then 1 else bif !wi (ar c) A then 2 else bif decide (A.length=0)then 5 else 0):=by
 unfold G24;refine Ai (p53 h) ?_;cases hc:Bj c with
 |false=>rfl
 |true=>
  refine Ai (p61 hl) ?_;show(bif !wi (ar c) A then _ else _)=_;cases hA:wi (ar c) A with
  |false=>rfl
  |true=>
   show(bif decide (((A.length:Nat):Int)=0)then some (5:Int)else some 0)=_;by_cases h0:A.length=0
   ·rw [dT (show((A.length:Nat):Int)=0 by omega),dT h0];rfl
   ·rw [dF (show ¬ ((A.length:Nat):Int)=0 by omega),dF h0];rfl
theorem p25(hl:A.length<=1048576)(hA:wi (ar c) A=true)(h0:0<A.length):G25 (c.2.1,A)=some (IP c A):=by
 have hg: ∀k,k<A.length->0<=A.getD k 0/\A.getD k 0<(c.2.1.length:Int):=λk hk=>UH hA hk
 refine(show Tot (λb:Bool=>b=true↔ ∀k,k<A.length->fT c (A.getD k 0).toNat=fT c (A.getD 0 0).toNat) (G25 (c.2.1,A))from ?_).elim λb hb=>?_
 ·unfold G25
  refine AC (n:=A.length-1) (λi v=>v=((i+1:Nat):Int)/\∀k,k<i+1->fT c (A.getD k 0).toNat=fT c (A.getD 0 0).toNat) ⟨rfl,λk hk=>by rw [show k=0 by omega]⟩ (λi hi v hv=>?_) λv hv=>?_
  ·obtain⟨rfl,hv⟩:=hv
   have hi1:i+1<A.length:=by omega
   refine Bk (ltd hi1) (Ab (Ad hi1) (Ab (hg _ hi1) (Ab (by show(0:Int)<=0/\(0:Int)<(A.length:Int);omega) (Ab (hg 0 h0) (Ap (λe=>Ct (Aa ⟨(λh=>by cases h),λh=>?_⟩)) λe=>Aa ⟨wr hi1 hl,λk hk=>?_⟩)))))
   ·have:fT c (A.getD (i+1) 0).toNat=fT c (A.getD 0 0).toNat:=h _ hi1
    have e:(!decide (fT c (A.getD (i+1) 0).toNat=fT c (A.getD 0 0).toNat))=true:=e;rw [dT this]at e;cases e
   ·by_cases ek:k=i+1
    ·subst ek
     have e:(!decide (fT c (A.getD (i+1) 0).toNat=fT c (A.getD 0 0).toNat))=false:=e;rw [Bool.not_eq_false']at e;exact of_decide_eq_true e
    ·exact hv k (by omega)
  ·obtain⟨rfl,hv⟩:=hv
   have e:A.length-1+1=A.length:=by omega
   rw [e]at hv⊢;exact A8 ltn (Aa (Ab rfl (Aa ⟨λ_=>hv,λ_=>rfl⟩)))
 ·rw [hb.1]
  refine congrArg some ?_
  have:IP c A=true↔ ∀k,k<A.length->fT c (A.getD k 0).toNat=fT c (A.getD 0 0).toNat:=by
   unfold IP;rw [aET];exact⟨λh k hk=>of_decide_eq_true (h k (List.mem_range.2 hk)),λh k hk=>dT (h k (List.mem_range.1 hk))⟩
  exact Bool.eq_iff_iff.2 (hb.2.trans this.symm)
theorem p8(h:okC c)(hl:A.length<=1048576):G8 (c,A)=some (jR c A):=by
 unfold G8 jR;refine Ai (p24 h hl) ?_;cases hc:Bj c with
 |false=>rfl
 |true=>
  cases hA:wi (ar c) A with
  |false=>rfl
  |true=>
   by_cases h0:A.length=0
   ·rw [dT h0];rfl
   ·rw [dF h0]
    refine Ai (p25 hl hA (Nat.pos_of_ne_zero h0)) ?_;cases IP c A with
    |false=>rfl
    |true=>exact Ai (Pg (p26 (Bb hc) hl hA (Nat.pos_of_ne_zero h0))) rfl
end
end Go.Ve.D

