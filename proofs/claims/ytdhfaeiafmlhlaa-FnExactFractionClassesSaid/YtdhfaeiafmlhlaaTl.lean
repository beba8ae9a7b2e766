/- The typed machine: a region that draws its order; code. -/
import Derived.Test.YtdhfaeiafmlhlaaTk
set_option linter.all false
namespace Go.Ve
variable{a:Act}{ops:Array Oper}{C:Ctx}{E:Env}{B:List (Nat×Nat)}{i n:Nat}{P:Program}{s:St}{R:Type}{w:World}
theorem vdrawB{C:Ctx}{h:Cw}{id:Nat}{Q:Exit->Act->World->Prop}{σ:List V}{t0:Nat->V}{X:Nat->Prop}(B:List (Nat×Nat))(n:Nat)(fs:List Nat){Kt:(Nat->V)->Prop}{a:Act}{w:World}(hm:P.follows .mixedOrders=true)(Y:QOK ops n)
  (hv:vq P h ops σ (ops.toList.take n) Kt t0) (hX:∀x,X x->∀j,AG ops j≠some x) (hB1:(B.map (·.1)).Nodup) (hB2:(B.map (·.2)).Nodup) (hB3:∀p∈B,p.1<h.n/\p.2<σ.length/\σ.getD p.2 .dead=.dead/\∀j,AG ops j≠some p.1)
  (hKt:∀Q':Exit->Act->World->Prop,(∀a w,Q .normal a w->Q' .normal a w)->∀t a w,Kt t->(∀x,X x->x∈B.map (·.1)\/AM (t x)=false)/\(∀p∈B,K6 (t p.1))/\(AQ C h.n (promA ((ops.toList.take n).map (·.dst)) (backs B ⟨t,σ⟩)) a w->wpList P ops Q' (ops.toList.drop n) a w))
  (hr:UW ops n\/(FLS ops n fs/\FlT P ops fs/\∀t a w,Kt t->AQ C h.n (promA ((ops.toList.take n).map (·.dst)) (backs B ⟨t,σ⟩)) a w->FlH P ops n fs a w))
  (hp0:∃D ρ F T,PR C h.n σ ρ F t0 a {w with drawn:=w.drawn+1} D T/\(∀x b,T x b->X x)/\∀p∈B,a.tmps.getD p.1 undef=ρ p.2):(Code.region id ops true).wp P Q a w:=by
 refine wp_region_any hm ?_;obtain⟨r,m,U,hK⟩:=Zj (n:=n) (t0:=t0) (K:=Kt) Y.le Y n 0 (λ_=>.dead) (λ_=>[]) (by omega) (by simpa [Cg]using hv) (λj hj=>by omega)
 have W:HeadInv .any ops n (Array.replicate ops.size false):=
  ⟨by simp,λj oj _ Z=>(by rw[getD_replicate_false]at Z;cases Z),λt _ ht=>getD_in (by simpa using ht) (getD_replicate_false _ _)⟩
 obtain⟨D,ρ,F,T,A,hTX,hBv⟩:=hp0
 have hpt:∀x,pt ops n r m t0 (Array.replicate ops.size false) x=t0 x\/(pt ops n r m t0 (Array.replicate ops.size false) x=.dead/\∃k,AG ops k=some x):=by
  intro x;unfold pt;cases ho:CB ops n x with
  |none=>exact .inl (Id n λi _ hs=>by rw[getD_replicate_false]at hs;cases hs)
  |some k=>
   right;show(if(Array.replicate ops.size false).getD k false=true then _ else V.dead)=_/\_
   rw[getD_replicate_false];exact⟨rfl,k,(Bi ho).2⟩
 have hp1:PR C h.n σ ρ F (pt ops n r m t0 (Array.replicate ops.size false)) a {w with drawn:=w.drawn+1} D T:=by
  refine⟨A.df,A.sz,λx hx=>?_,A.wr,λx hx=>?_,A.tD,A.tF,A.tT,A.tn,A.fr,A.Fn,A.D1,A.D2,A.rt,A.ml,A.tx⟩
  .rcases hpt x with e|e
   .rw[e];exact A.dd x hx
   .exact e.1
  .rcases hpt x with e|⟨e,k,hk⟩
   .rw[e];exact A.tm x hx
   .rw[e]
    exact λb hb=>hX x (hTX x b hb) k hk
 have O:∀a1 w D T,PR C h.n σ ρ F (Cg ops r m t0 n) a1 w D T->(∀x b,T x b->Qt ops n X x)->(∀x,(∀i,i<n->AG ops i≠some x)->a1.tmps[x]? =a.tmps[x]?)->AQ C h.n (promA ((ops.toList.take n).map (·.dst)) (backs B ⟨Cg ops r m t0 n,σ⟩)) a1 w:=by
  intro a1 w D T A hT hA;obtain⟨hfree,hobj,_⟩:=hKt Q (λ_ _ h=>h) _ a1 w hK
  obtain⟨F',T',hp',hT'⟩:=PR.backs B _ _ _ _ A hB1 hB2 λp hpB=>by
   obtain⟨g1,g2,g3,g4⟩:=hB3 p hpB;refine⟨g1,g2,g3,?_,hobj p hpB⟩;rw[<-hBv p hpB,Array.getD_eq_getD_getElem?,Array.getD_eq_getD_getElem?,hA p.1 λi _=>g4 i]
  refine PR.close _ _ _ _ _ _ hp' λx b ho=>?_
  obtain⟨ho,hxB⟩:=hT' x b ho;rcases hT x b ho with⟨i,hi,hd⟩|hx
  .obtain⟨oi,hoi,_⟩:=Y.dst i hi
   refine List.mem_map.2 ⟨oi,?_,by simpa [AG,hoi]using hd⟩
   refine List.mem_of_getElem? (i:=i) ?_;rw[List.getElem?_take,if_pos hi,Array.getElem?_toList];exact hoi
  .exfalso
   by_cases hxn:x<h.n
   .exact AB _ _ _ ((hfree x hx).resolve_left hxB) (A.tm x hxn) b ho
   .exact A.tx x b (Nat.le_of_not_lt hxn) ho
 have hfu:unl (Array.replicate ops.size false) n+(ops.size-n)<=ops.size:=by
  have:unl (Array.replicate ops.size false) n<=n:=by
   unfold unl;have:=List.countP_le_length (p:=λi=>!(Array.replicate ops.size false).getD i true) (l:=List.range n)
   simpa using this
  have:=Y.le;omega
 have J:∀Q':Exit->Act->World->Prop,(∀a w,Q .normal a w->Q' .normal a w)->∀a1 w D T,PR C h.n σ ρ F (Cg ops r m t0 n) a1 w D T->(∀x b,T x b->Qt ops n X x)->(∀x,(∀i,i<n->AG ops i≠some x)->a1.tmps[x]? =a.tmps[x]?)->wpList P ops Q' (ops.toList.drop n) a1 w:=λQ' hQ' a1 w D T A hT hA=>(hKt Q' hQ' _ a1 w hK).2.2 (O a1 w D T A hT hA)
 rcases hr with htl|⟨fl,hft,hfh⟩
 .exact AcZ (X:=X) (a0:=a) Y htl (Aa8 Y U) U (J Q λ_ _ h=>h) (J (QN Q) λ_ _ h=>⟨rfl,h⟩) ops.size _ a _ D T W hfu hp1 (λx b hb=>.inr (hTX x b hb)) (λ_ _=>rfl) (λj _ Z=>by rw[getD_replicate_false]at Z;cases Z)
 .exact Aag (X:=X) (a0:=a) Y fl hft.keep (Aa8 Y U) U (J Q λ_ _ h=>h) (J (QN Q) λ_ _ h=>⟨rfl,h⟩) (λa1 w D T A hT hA=>hfh _ a1 w hK (O a1 w D T A hT hA)) ops.size _ a _ D T W hfu hp1 (λx b hb=>.inr (hTX x b hb)) (λ_ _=>rfl) (λj _ Z=>by rw[getD_replicate_false]at Z;cases Z)
def P0(l:List Oper)(s:St):Bool:=l.all λo=>match o.dst with
 |some d=>!(s.t d).own||(s.t d).stay
 |none=>true
def Lf(E:Env)(ops:Array Oper)(o:Oper):Option Nat:=match o.op with
 |.assign (.tmp y)=>bif dX E y then some y else none
 |.move (.tmp y)=>bif dX E y then some y else none
 |.store _ (.tmp y) _=>bif dX E y then some y else none
 |op=>match IQ op with
  |some (f,xs)=>match Ke E.U f with
   |some e=>match xs.toList[e.S.k]? with
    |some (.tmp z)=>match alS E.h ops o z with
     |some y=>some y
     |none=>bif dX E z then some z else none
    |_=>none
   |none=>none
  |none=>none
theorem Zq{o:Oper}{y:Nat}(h:((dX E y&&(J9 o y||stB o y))||ucB E ops o y)=true):Lf E ops o=some y:=by
 rw[Bool.or_eq_true]at h;rcases h with h|h
 .rw[bAE]at h
  obtain⟨Z,h⟩:=h;rw[Bool.or_eq_true]at h;rcases h with h|h
  .unfold J9 at h
   unfold Lf;split at h
   .simp_all
   .simp_all
   .cases h
  .unfold stB at h
   unfold Lf;split at h
   .simp_all
   .cases h
 .unfold ucB at h
  split at h
  case h_2=>cases h
  rename_i f xs F;split at h
  case h_2=>cases h
  rename_i e U;split at h
  case h_2=>cases h
  rename_i z J;obtain⟨W,A⟩:=UQ F;rw[A]at F;unfold Lf;rw[A];simp only[F,U,J];cases O:alS E.h ops o z with
  |some Y=>
   simp_all
  |none=>
   rw[O]at h;have h:(dX E z&&Nat.beq z y)=true:=h;rw[bAE]at h;rw[h.1,bqE h.2];rfl
def yL(E:Env)(ops:Array Oper):List Nat:=(ops.toList.filterMap λo=>match Lf E ops o with
 |some y=>bif Hg ops y then some y else none
 |none=>none).eraseDups
def yOK(E:Env)(ops:Array Oper):Bool:=ops.toList.all λo=>match Lf E ops o with
 |some y=>Hg ops y
 |none=>true
def goneB(E:Env)(ops:Array Oper)(o:Oper)(y:Nat):Bool:=(dX E y&&J9 o y)||(match IQ o.op with
 |some (f,xs)=>match Ke E.U f with
  |some e=>e.S.eat&&(match xs.toList[e.S.k]? with
   |some (.tmp z)=>(match alS E.h ops o z with
    |some A=>Nat.beq A y
    |none=>dX E z&&Nat.beq z y)
   |_=>false)
  |none=>false
 |none=>false)
def bL(E:Env)(ops:Array Oper)(s:St):List (Nat×Nat):=(yL E ops).filterMap λy=>bif ops.toList.any (λo=>goneB E ops o y)then none else match Cn s y with
 |some id=>some (y,id)
 |none=>none
def bOK(n:Nat)(ops:Array Oper)(B:List (Nat×Nat))(s:St):Bool:=ndB (B.map (·.1))&&ndB (B.map (·.2))&&B.all λp=>Nat.blt p.1 n&&Nat.blt p.2 s.r.length&&Hg ops p.1&&(match s.r.getD p.2 .dead with
 |.dead=>true
 |_=>false)
def Le{R:Type}(E:Env)(n:Nat)(ops:Array Oper)(B:List (Nat×Nat))(chk:Bool)(tail:St->(St->Option R)->Option R)(s:St)(K:St->Option R):Option R:=
 bif chk&&yOK E ops&&bOK E.h.n ops B s then
  Wn E true ops (Y9 n (ops.toList.take n)) s λs1=>
   bif P0 (ops.toList.take n) s1&&(yL E ops).all (λy=>(B.map (·.1)).contains y|| !(s1.t y).own)&&B.all (λp=>Hh (s1.t p.1))then tail ((s1.backs B).promA ((ops.toList.take n).map (·.dst))) K else none
 else none
def needL(ops:Array Oper)(n:Nat):List Nat:=(List.range n).reverse.foldl (λe i=>bif e.any λj=>Region.waitsFor .any ops j i then i::e else e) [n]
def VV(ops:Array Oper)(n:Nat):List Nat:=(List.range n).filter λi=>!(needL ops n).contains i
def AbV{R:Type}(E:Env)(ops:Array Oper)(n:Nat)(fs:List Nat)(s:St)(K:St->Option R):Option R:=match ops.toList.drop n with
 |[o1,o2,o3]=>bif o1.guard.isNone&&o2.guard.isNone&&o3.guard.isNone then(match WW E s (fs.filterMap λf=>ops[f]?) o1 o2 o3 with
  |some A=>oif A.p A.dec (K A.s)
  |none=>none)else none
 |_=>none
def NK{R:Type}(E:Env)(n:Nat)(ops:Array Oper)(B:List (Nat×Nat))(s:St)(K:St->Option R):Option R:=
 bif Is ops n then Le E n ops B true (λs K=>tops E ops (Y9 ops.size (ops.toList.drop n)) s K) s K
 else Le E n ops B (Q6 ops n&&flsB ops n (VV ops n)&&flT E ops (VV ops n)) (AbV E ops n (VV ops n)) s K
theorem HU:∀{l:List Nat},ndB l=true->l.Nodup
 |[],_=>List.nodup_nil
 |a::l,h=>by
  have h:(!l.contains a&&ndB l)=true:=h;rw[bAE,Bool.not_eq_true']at h;refine List.nodup_cons.2 ⟨λe=>?_,HU h.2⟩
  grind
def DP{a b:List Oper}:Aq (a++b) i=(Aq a i&&Aq b i):=by
 unfold Aq;simp
theorem yB_mem(e:yOK E ops=true)(h:yB E ops i=true):i∈yL E ops:=by
 obtain⟨o,A,F⟩:=List.any_eq_true.1 h;have O:=aET.1 e o A;have J:=Zq F;refine List.mem_eraseDups.2 (List.mem_filterMap.2 ⟨o,A,?_⟩)
 grind
theorem yL_nd(h:i∈yL E ops):∀j,AG ops j≠some i:=by
 obtain⟨o,_,e⟩:=List.mem_filterMap.1 (List.mem_eraseDups.1 h);split at e
 .rename_i y F
  cases A:Hg ops y with
  |false=>grind
  |true=>
   rw[A]at e;cases e;exact CC A
 grind
theorem bOKn{K:St->Option R}{z:R}(h:NK E n ops B s K=some z):∀p∈B,p.1<E.h.n:=by
 have key:∀(chk:Bool) (tail:St->(St->Option R)->Option R),Le E n ops B chk tail s K=some z->∀p∈B,p.1<E.h.n:=by
  intro chk tail h p A;unfold Le at h;cases e:bOK E.h.n ops B s with
  |false=>grind
  |true=>
   unfold bOK at e;rw[bAE]at e;have:=aET.1 e.2 p A;simp only[bAE]at this;exact blE this.1.1.1
 unfold NK at h
 grind
theorem NJ{C:Ctx}(hE:EOK P E)(hm:P.follows .mixedOrders=true){id n:Nat}{ops:Array Oper}{B:List (Nat×Nat)}{s:St}{K:St->Option R}{z:R}{a:Act}{w:World}{Q:Exit->Act->World->Prop}
  (hpr:∃D ρ F T,PR C E.h.n s.den.σ ρ F s.den.t a {w with drawn:=w.drawn+1} D T/\(∀x b,T x b->x∈yL E ops)/\∀p∈B,a.tmps.getD p.1 undef=ρ p.2)
  {chk:Bool}{tail:St->(St->Option R)->Option R}{fs:List Nat} (h:Le E n ops B chk tail s K=some z) (hqk:chk=true->QOK ops n)
  (htail:∀(Q':Exit->Act->World->Prop) (s2:St) (a:Act) (w:World),AQ C E.h.n s2.den a w->tail s2 K=some z->(∀s' a' w',Kp (Aq (ops.toList.drop n)) s2 s'->AQ C E.h.n s'.den a' w'->K s'=some z->Q' .normal a' w')->wpList P ops Q' (ops.toList.drop n) a w)
  (hr:chk=true->UW ops n\/(FLS ops n fs/\FlT P ops fs/\∀(s2:St) (a:Act) (w:World),AQ C E.h.n s2.den a w->tail s2 K=some z->FlH P ops n fs a w))
  (hK:∀s' a' w',(∀i,(Aq ops.toList i&& !(yL E ops).contains i)=true->(∀p∈B,p.1≠i)->(s.t i).stay=true->s'.t i=s.t i)->(∀id,id<s.r.length->(∀p∈B,p.2≠id)->(s.r.getD id .dead).isRo=true->s'.r.getD id .dead=s.r.getD id .dead)->s.r.length<=s'.r.length->AQ C E.h.n s'.den a' w'->K s'=some z->Q .normal a' w'):(Code.region id ops true).wp P Q a w:=by
 unfold Le at h;obtain⟨Y,h⟩:=A9 h;rw[bAE,bAE]at Y;obtain⟨⟨Y,hyk⟩,hbk⟩:=Y;unfold bOK at hbk;rw[bAE,bAE]at hbk;obtain⟨⟨hb1,hb2⟩,hb3⟩:=hbk;have hB:∀p∈B,p.1<E.h.n/\p.2<s.r.length/\Hg ops p.1=true/\s.r.getD p.2 .dead=.dead:=by
  intro p hp;have:=aET.1 hb3 p hp;simp only[bAE]at this;obtain⟨⟨⟨g1,g2⟩,g3⟩,g4⟩:=this;refine⟨blE g1,blE g2,g3,?_⟩;split at g4
  .assumption
  .cases g4
 let K1:St->Option R:=λs1=>bif P0 (ops.toList.take n) s1&&(yL E ops).all (λy=>(B.map (·.1)).contains y|| !(s1.t y).own)&&B.all (λp=>Hh (s1.t p.1))then tail ((s1.backs B).promA ((ops.toList.take n).map (·.dst))) K else none
 have hv:=Zo hE (ops:=ops) (K:=K1) (z:=z) (Kt:=λt=>∃s1:St,s1.r=s.r/\(∀i,Aq ops.toList i=true->yB E ops i=false->s1.t i=s.t i)/\VLe t s1.den.t/\K1 s1=some z) (Y9 n (ops.toList.take n)) s s.den.t (λo ho=>by rw[Cm]at ho;exact List.mem_of_mem_take ho) (λi=>.inl rfl) h
  (λs' t' h1 h2 h3 h4=>⟨s',h1,h2,h3,h4⟩)
 rw[Cm]at hv
 have Z:∀t,(∃s1:St,s1.r=s.r/\(∀i,Aq ops.toList i=true->yB E ops i=false->s1.t i=s.t i)/\VLe t s1.den.t/\K1 s1=some z)->∃s1:St,s1.r=s.r/\(∀i,Aq ops.toList i=true->yB E ops i=false->s1.t i=s.t i)/\tail ((s1.backs B).promA ((ops.toList.take n).map (·.dst))) K=some z/\
   (∀x,x∈yL E ops->x∈B.map (·.1)\/AM (t x)=false)/\(∀p∈B,K6 (t p.1))/\∀a1 w1,AQ C E.h.n (promA ((ops.toList.take n).map (·.dst)) (backs B ⟨t,s.den.σ⟩)) a1 w1->AQ C E.h.n ((s1.backs B).promA ((ops.toList.take n).map (·.dst))).den a1 w1:=by
  rintro t ⟨s1,J,ht1,hvl,A⟩
  have A:(bif P0 (ops.toList.take n) s1&&(yL E ops).all (λy=>(B.map (·.1)).contains y|| !(s1.t y).own)&&B.all (λp=>Hh (s1.t p.1))then tail ((s1.backs B).promA ((ops.toList.take n).map (·.dst))) K else none)=some z:=A
  obtain⟨ho,A⟩:=A9 A;rw[bAE,bAE]at ho;obtain⟨⟨ho,hyo⟩,hro⟩:=ho
  have W:∀p∈B,Hh (s1.t p.1)=true/\t p.1=s1.den.t p.1:=by
   intro p hp;have h1:=aET.1 hro p hp;refine⟨h1,?_⟩;rcases hvl p.1 with e|e
   .exact e
   .obtain⟨_,h3,⟨s0,sz,nn,f,h4,_⟩,_⟩:=Cj h1
    have e1:(s1.t p.1).v s1.r=.dead:=e.1;rw[h3,h4]at e1;cases e1
  refine⟨s1,J,ht1,A,λx hx=>?_,λp hp=>?_,λa1 w1 U=>?_⟩
  .have h1:=aET.1 hyo x hx
   rw[Bool.or_eq_true]at h1;rcases h1 with h1|h1
   .exact .inl (by simpa using h1)
   right
   have h2:AM (s1.den.t x)=false:=by
    show AM ((s1.t x).v s1.r)=false;rw[Sl.own_v];simpa using h1
   rcases hvl x with e|e
   .rw[e];exact h2
   .exact e.2
  .obtain⟨g1,g2⟩:=W p hp
   rw[g2];show K6 ((s1.t p.1).v s1.r);rw[(Cj g1).2.1];exact(Cj g1).2.2.1
  have hP:AaE ((ops.toList.take n).map (·.dst)) ⟨t,s.den.σ⟩ s1:=by
   refine⟨by show s.r.map Ab.v=s1.r.map Ab.v;rw[J],λi=>?_,λi hi=>⟨λhoi=>?_,?_⟩⟩
   .rcases hvl i with e|e
    .show Ax (t i) _
     rw[e];exact Ax.refl _
    .rw[e.1];exact Ax.dead _
   .obtain⟨o,ho1,ho2⟩:=List.mem_map.1 hi
    have:=aET.1 ho o ho1;rw[ho2]at this;simp only[Bool.or_eq_true,Bool.not_eq_true']at this;rcases this with h|h
    .rw[hoi]at h;cases h
    .exact h
   .rcases hvl i with e|e
    .exact .inl e
    .right
     refine⟨?_,e.2⟩
     have:AM ((s1.t i).v s1.r)=false:=by
      show AM (s1.den.t i)=false;rw[e.1];rfl
     rw[Sl.own_v]at this;exact this
  have hP2:=KH B _ _ hP (HU hb1) λp hp=>by
   obtain⟨g1,g2⟩:=W p hp;obtain⟨_,k2,k3,_⟩:=hB p hp;refine⟨λhm=>?_,by rw[J];exact k2,g2,g1⟩
   obtain⟨o,ho1,ho2⟩:=List.mem_map.1 hm;obtain⟨j,hj⟩:=List.mem_iff_getElem?.1 (List.mem_of_mem_take ho1);refine CC k3 j ?_;unfold AG;rw[<-Array.getElem?_toList,hj];exact ho2
  obtain⟨g1,g2⟩:=J4 _ _ _ hP2;exact U.sub (by rw[g2]) (λi _=>by rw[g2];exact Sub.refl _) g1
 refine vdrawB (X:=λx=>x∈yL E ops) B n fs hm (hqk Y) hv (λx hx=>yL_nd hx) (HU hb1) (HU hb2) (λp hp=>?_) ?_ ((hr Y).imp (λh=>h) fun⟨k1,k2,k3⟩=>⟨k1,k2,λt a1 w1 hkt U=>by
  obtain⟨s1,_,_,A,_,_,hsr⟩:=Z t hkt;exact k3 _ _ _ (hsr _ _ U) A⟩) hpr
 .obtain⟨g1,g2,g3,g4⟩:=hB p hp
  refine⟨g1,by simpa [St.den]using g2,?_,CC g3⟩
  show(s.r.map Ab.v).getD p.2 .dead=.dead;rw[Aw,g4];rfl
 intro Q' hQ' t a1 w1 hkt;obtain⟨s1,J,ht1,A,hfx,hfp,hsr⟩:=Z t hkt;refine⟨hfx,hfp,λU=>?_⟩
 have hs2:=hsr _ _ U
 .skip
  obtain⟨b1,b2,b3⟩:=Ns B s1
  have hsp:∀i,(Aq ops.toList i&& !(yL E ops).contains i)=true->Aq ops.toList i=true/\yB E ops i=false:=by
   intro i hi;rw[bAE,Bool.not_eq_true']at hi;refine⟨hi.1,?_⟩;cases hy:yB E ops i with
   |false=>rfl
   |true=>
    have:=yB_mem hyk hy;have:(yL E ops).contains i=true:=by simpa using this
    rw[hi.2]at this;cases this
  have k1:=HQ (ops.toList.take n) (s1.backs B)
  have O:∀i,(Aq ops.toList i&& !(yL E ops).contains i)=true->Aq (ops.toList.take n) i=true/\Aq (ops.toList.drop n) i=true:=by
   intro i hi;have hi:=(hsp i hi).1;rw[<-List.take_append_drop n ops.toList,DP,bAE]at hi;exact hi
  refine htail Q' _ a1 w1 hs2 A λs' a' w' hk hs' hz=>hQ' _ _ (hK s' a' w' (λi hi hiB hst=>?_) (λid hl hiB hrr=>?_) ?_ hs' hz)
  .have e1:s1.t i=s.t i:=ht1 i (hsp i hi).1 (hsp i hi).2
   have e2:(s1.backs B).t i=s1.t i:=b1 i hiB (by rw[e1];exact hst)
   have e3:=k1.t i (O i hi).1 (by rw[e2,e1];exact hst)
   rw[hk.t i (O i hi).2 (by rw[e3,e2,e1];exact hst),e3,e2,e1]
  .have e2:(s1.backs B).r.getD id .dead=s.r.getD id .dead:=(b2 id hiB).trans (by rw[J])
   have hl2:id<(s1.backs B).r.length:=by rw[b3,J];exact hl
   have e3:=k1.r id hl2 (by rw[e2];exact hrr)
   rw[hk.r id (Nat.lt_of_lt_of_le hl2 k1.l) (by rw[e3,e2];exact hrr),e3,e2]
  .have:s.r.length=(s1.backs B).r.length:=by rw[b3,J]
   rw[this];exact Nat.le_trans k1.l hk.l
def WM{C:Ctx}(hE:EOK P E)(hm:P.follows .mixedOrders=true){id n:Nat}{ops:Array Oper}{B:List (Nat×Nat)}{s:St}{K:St->Option R}{z:R}{a:Act}{w:World}{Q:Exit->Act->World->Prop}
  (hpr:∃D ρ F T,PR C E.h.n s.den.σ ρ F s.den.t a {w with drawn:=w.drawn+1} D T/\(∀x b,T x b->x∈yL E ops)/\∀p∈B,a.tmps.getD p.1 undef=ρ p.2)
  (h:NK E n ops B s K=some z) (hK:∀s' a' w',(∀i,(Aq ops.toList i&& !(yL E ops).contains i)=true->(∀p∈B,p.1≠i)->(s.t i).stay=true->s'.t i=s.t i)->(∀id,id<s.r.length->(∀p∈B,p.2≠id)->(s.r.getD id .dead).isRo=true->s'.r.getD id .dead=s.r.getD id .dead)->s.r.length<=s'.r.length->AQ C E.h.n s'.den a' w'->K s'=some z->Q .normal a' w'):(Code.region id ops true).wp P Q a w:=by
 unfold NK at h;cases hq:Is ops n with
 |true=>
  rw[hq]at h;obtain⟨h1,h2⟩:=N9 hq;refine NJ (fs:=[]) hE hm hpr h (λ_=>h1) (λQ' U a w hs J hk=>?_) (λ_=>.inl h2) hK
  have e:ops.toList.drop n=(Y9 ops.size (ops.toList.drop n)).flatMap Seg.ops:=(Cm _ _).symm;rw[e];refine WH hE _ _ a w hs J λs' a' w' hkp hs' hz=>hk s' a' w' ?_ hs' hz
  rw[Cm]at hkp;exact hkp
 |false=>
  rw[hq]at h;simp only[cond_false]at h
  have Z:∀U,AbV E ops n (VV ops n) U K=some z->∃O Y W A,ops.toList.drop n=[O,Y,W]/\O.guard=none/\Y.guard=none/\W.guard=none/\WW E U ((VV ops n).filterMap λf=>ops[f]?) O Y W=some A/\A.p/\K A.s=some z:=by
   intro U J;unfold AbV at J;split at J
   case h_2=>cases J
   rename_i O Y W hd;obtain⟨hg,J⟩:=A9 J;simp only[bAE,Option.isNone_iff_eq_none]at hg;split at J
   case h_2=>cases J
   rename_i A hA;unfold oif at J;split at J
   .rename_i hp
    exact⟨O,Y,W,A,hd,hg.1.1,hg.1.2,hg.2,hA,hp,J⟩
   .cases J
  refine NJ (fs:=VV ops n) hE hm hpr h (λhc=>?_) (λQ' U a w hs J hk=>?_) (λhc=>?_) hK
  .rw[bAE,bAE]at hc
   exact JZ hc.1.1
  .obtain⟨O,Y,W,A,hd,g1,g2,g3,hA,hp,hKA⟩:=Z U J
   rw[hd]at hk⊢;have w1:∀(o:Oper) (a:Act),o.guard=none->Region.wanted o (yielded ops a.tmps)=true:=λo a hg=>by simp[Region.wanted,hg]
   unfold wpList;rw[if_pos (w1 O a g1)];refine .inl (Oper.wp_mono (λa1 w1' h1=>?_) (WU (Q:=Q') hE.Θ hA hp hs (next:=λa' w'=>Q' .normal a' w') λa' w' hs'=>hk A.s a' w' (WV hA) hs' hKA))
   unfold wpList;rw[if_pos (w1 Y a1 g2)];refine .inl (Oper.wp_mono (λa2 w2' h2=>?_) h1)
   unfold wpList;rw[if_pos (w1 W a2 g3)];exact .inl h2
  .rw[bAE,bAE]at hc
   refine .inr ⟨Yt hc.1.2,Abp hE.Θ hc.2,λU a w hs J=>?_⟩
   obtain⟨O,Y,W,A,hd,g1,g2,g3,hA,hp,hKA⟩:=Z U J;have hon:ops[n]? =some O:=by
    have h1:(ops.toList.drop n)[0]? =some O:=by rw[hd];rfl
    rw[List.getElem?_drop]at h1;simpa using h1
   refine Acf hE.Θ hA hp hs hon (λf hf o ho=>List.mem_filterMap.2 ⟨f,hf,ho⟩) (Abp hE.Θ hc.2)
def AbR{R:Type}(E:Env)(n:Nat)(ops:Array Oper)(s:St)(K:St->Option R):Option R:=match OW (ops.toList.flatMap (capsF E.h.fz)) s with
 |some e=>match Ky (yL E ops) e with
  |some s1=>NK E n ops (bL E ops e) s1 K
  |none=>none
 |none=>none
theorem Zp(hE:EOK P E)(Y:P.follows .mixedOrders=true){id n:Nat}{ops:Array Oper}{K:St->Option R}{z:R}{Q:Exit->Act->World->Prop}(hs:AQ C E.h.n s.den a w)
  (h:AbR E n ops s K=some z) (hK:∀s' a' w',Kp (Aq ops.toList) s s'->AQ C E.h.n s'.den a' w'->K s'=some z->Q .normal a' w'):(Code.region id ops true).wp P Q a w:=by
 unfold AbR at h;split at h
 case h_2=>cases h
 rename_i s0 hg;split at h
 case h_2=>cases h
 rename_i s1 hd;have U:∀p∈bL E ops s0,p.1∈yL E ops/\Cn s0 p.1=some p.2:=by
  intro p J;obtain⟨y,hy,he⟩:=List.mem_filterMap.1 J
  grind
 refine WM hE Y ?_ h λs' a' w' q1 q2 q3=>hK s' a' w' ?_
 .obtain⟨D,ρ,F,T,hpr,hT,W⟩:=O7 hd (Jt _ hg hs) (Below.drew w)
  exact⟨D,ρ,F,T,hpr,hT,λp J=>W p.1 p.2 (bOKn h p J) (U p J).2⟩
 have k1:=Ju _ hg;have k2:=O8 hd
 have hnY:∀i,(s0.t i).stay=true->(yL E ops).contains i=false:=by
  intro i A;cases hc:(yL E ops).contains i with
  |false=>rfl
  |true=>
   have Y:i∈yL E ops:=by simpa using hc
   exfalso;unfold Ky at hd;split at hd
   .rename_i hY
    rw[hY]at Y;cases Y
   split at hd
   case h_2=>cases hd
   rename_i ids Z;obtain⟨id,_,hid⟩:=(Kl Z).1 i Y;rw[(Ch hid).2.1]at A;cases A
 have k3:Kp (Aq ops.toList) s0 s':=by
  refine⟨λi hi A=>?_,λid hl O=>?_,Nat.le_trans k2.l q3⟩
  .have e:=k2.t i rfl A
   have hiY:=hnY i A;rw[q1 i (by rw[hi,hiY];rfl) (λp J he=>?_) (by rw[e];exact A),e]
   have:=(U p J).1;rw[he]at this;have:(yL E ops).contains i=true:=by simpa using this
   rw[hiY]at this;cases this
  .have e:=k2.r id hl O
   rw[q2 id (Nat.lt_of_lt_of_le hl k2.l) (λp J he=>?_) (by rw[e];exact O),e]
   have:=(Ch (U p J).2).1;rw[he,O]at this;cases this
 exact k1.trans k3 (λ_ _=>rfl) λ_ hi=>hi
end Go.Ve


namespace Go.Ve
inductive LK where
 |val (n:Nat) (agg:Bool)
 |ref (id:Nat)
 |ptr (id:Nat)
 |pth (id:Nat) (p:AX)
 |mrf (id:Nat) (p:AX)
 |no
def eqP:AX->AX->Bool
 |[],[]=>true
 |(i,k)::p,(i',k')::q=>Nat.beq i i'&&Nat.beq k k'&&eqP p q
 |_,_=>false
def Abq:∀p q:AX,eqP p q=true->p=q
 |[],[],_=>rfl
 |(i,k)::p,(i',k')::q,h=>by
  have h:(Nat.beq i i'&&Nat.beq k k'&&eqP p q)=true:=h;simp only[bAE]at h;rw[bqE h.1.1,bqE h.1.2,Abq p q h.2]
 |[],_::_,h=>by cases h
 |_::_,[],h=>by cases h
def okV:Cl->Bool
 |.c t _ _=>t.one
 |_=>false
def lk:Sl->LK
 |.one (.c t _ _)=>bif t.one then .val 1 false else .no
 |.one (.rf id [])=>.ref id
 |.one (.rp id [] 0 0)=>.ptr id
 |.one (.rf id (a::q))=>.pth id (a::q)
 |.one (.rm id p)=>.mrf id p
 |.agg l=>bif l.all okV then .val l.length true else .no
 |_=>.no
def dyC:Cl->Option Dy
 |.c t d x=>bif t.one&& !(Cl.c t d x).own then some ⟨t,x⟩else none
 |_=>none
def dyL:List Cl->Option (List Dy)
 |[]=>some []
 |y::l=>match dyC y with
  |some z=>match dyL l with
   |some m=>some (z::m)
   |none=>none
  |none=>none
def Dy.cl(y:Dy):Cl:=.c y.t 0 y.x
def dyP:AX->List Dy
 |[]=>[]
 |(i,_)::p=>⟨.int .i64,(Int.ofNat i:Int)⟩::dyP p
def ZC:AX->AX->Bool
 |[],[]=>true
 |(_,k)::p,(_,k')::q=>Nat.beq k k'&&ZC p q
 |_,_=>false
def Dy.nat:Dy->Nat
 |⟨.int _,x⟩=>Int.toNat x
 |_=>0
def V6:AX->List Dy->AX
 |[],_=>[]
 |(_,k)::p,y::cs=>(y.nat,k)::V6 p cs
 |(_,k)::p,[]=>(0,k)::V6 p []
def Yo(k:LK)(y:Sl):Option (List Dy×List (Nat×Nat)):=match k,y with
 |.val _ false,.one c=>match dyC c with
  |some z=>some ([z],[])
  |none=>none
 |.val n true,.agg l=>bif Nat.beq l.length n then(match dyL l with
  |some m=>some (m,[])
  |none=>none)else none
 |.ref id,.one (.rf id' [])=>some ([],[(id,id')])
 |.ptr id,.one (.rp id' [] 0 0)=>some ([],[(id,id')])
 |.pth id p,.one (.rf id' p')=>bif ZC p p' then some (dyP p',[(id,id')])else none
 |.mrf id p,.one (.rm id' p')=>bif eqP p p' then some ([],[(id,id')])else none
 |.no,_=>some ([],[])
 |_,_=>none
def V2(t0:Nat->Sl)(t:Nat->Sl):List Nat->Option (List Dy×List (Nat×Nat))
 |[]=>some ([],[])
 |d::L=>match Yo (lk (t0 d)) (t d)with
  |some (a,b)=>match V2 t0 t L with
   |some (a',b')=>some (a++a',b++b')
   |none=>none
  |none=>none
def piF(m:List (Nat×Nat))(i:Nat):Nat:=match m with
 |[]=>i
 |(a,b)::m=>bif Nat.beq a i then b else piF m i
def dyA:List Cl->Option (List Dy)
 |[]=>some []
 |.c t _ x::l=>bif t.one then(match dyA l with
  |some m=>some (⟨t,x⟩::m)
  |none=>none)else none
 |_::_=>none
def Abk:Ab->Option (List Dy)
 |.arr _ t _ xs=>some [⟨.sl t,xs⟩]
 |.obj _ l=>dyA l
 |.opt _ _ _ _=>none
 |.mp _ k v x=>some [⟨.mp k v,x⟩]
 |.dead=>none
def Aah(r:List Ab)(π:Nat->Nat):List Nat->Option (List Dy)
 |[]=>some []
 |id::l=>match Abk (r.getD (π id) .dead)with
  |some a=>match Aah r π l with
   |some b=>some (a++b)
   |none=>none
  |none=>none
def Yw(k:LK)(cs:List Dy):Sl×List Dy:=match k with
 |.val _ false=>(match cs with
  |y::_=>.one y.cl
  |[]=>.one .dead,cs.drop 1)
 |.val n true=>(.agg ((cs.take n).map Dy.cl),cs.drop n)
 |.ref id=>(.one (.rf id []),cs)
 |.ptr id=>(.one (.rp id [] 0 0),cs)
 |.pth id p=>(.one (.rf id (V6 p cs)),cs.drop p.length)
 |.mrf id p=>(.one (.rm id p),cs)
 |.no=>(.one .dead,cs)
def K7(t0:Nat->Sl):List Nat->List Dy->(Nat->Sl)->(Nat->Sl)×List Dy
 |[],cs,t=>(t,cs)
 |d::L,cs,t=>K7 t0 L (Yw (lk (t0 d)) cs).2 (AK t d (Yw (lk (t0 d)) cs).1)
def Ku:List Cl->List Dy->List Cl×List Dy
 |[],cs=>([],cs)
 |.c t d _::l,y::cs=>(match(if h:y.t=t then some (h▸y.x)else none:Option t.T)with
  |some x=>.c t d x
  |none=>.dead)::(Ku l cs).1|>λm=>(m,(Ku l cs).2)
 |_::l,cs=>(.dead::(Ku l cs).1,(Ku l cs).2)
def Yx:Ab->List Dy->Ab×List Dy
 |.arr _ t d _,y::cs=>(match y with
  |⟨.sl t',xs⟩=>if h:t'=t then .arr false t d (h▸xs)else .dead
  |_=>.dead,cs)
 |.arr _ _ _ _,[]=>(.dead,[])
 |.obj _ l,cs=>(.obj false (Ku l cs).1,(Ku l cs).2)
 |.opt _ _ _ _,cs=>(.dead,cs)
 |.mp _ k v _,y::cs=>(match IP (.mp k v) y with
  |some xs=>.mp false k v xs
  |none=>.dead,cs)
 |.mp _ _ _ _,[]=>(.dead,[])
 |.dead,cs=>(.dead,cs)
def Hr(e:List Ab):List Nat->List Dy->List Ab->List Ab
 |[],_,r=>r
 |id::l,cs,r=>Hr e l (Yx (e.getD id .dead) cs).2 (r.set id (Yx (e.getD id .dead) cs).1)
def BG:Ab->Ab
 |.arr _ t d xs=>.arr true t d xs
 |.obj _ l=>.obj true l
 |.opt _ t d x=>.opt true t d x
 |.mp _ k v x=>.mp true k v x
 |.dead=>.dead
def Bf(ro:Bool)(b:List Oper)(L Rh:List Nat)(e:St)(cs:List Dy):St:=
 let base:Nat->Sl:=λi=>bif Aq b i&&(e.t i).stay then e.t i else .one .dead
 let f:=K7 e.t L cs base
 ⟨f.1,Hr e.r Rh f.2 (bif ro then e.r.map BG else e.r)⟩
end Go.Ve


namespace Go.Ve
variable{c:Cl}{r r':List Ab}{a rest:List Dy}{n:Nat}{π:Nat->Nat}{y:Sl}
def ZD:List Cl->List Cl->Bool
 |[],[]=>true
 |.c t d _::l,.c t' d' _::m=>decide (t'=t)&&Nat.beq d' d&&ZD l m
 |_,_=>false
def Acc:Ab->Ab->Bool
 |.arr _ t d _,.arr _ t' d' _=>decide (t'=t)&&Nat.beq d' d
 |.obj _ l,.obj _ m=>ZD l m
 |.mp _ k v _,.mp _ k' v' _=>decide (k'=k)&&decide (v'=v)
 |_,_=>false
def Zk:Ab->Ab
 |.arr _ t d xs=>.arr false t d xs
 |.obj _ l=>.obj false l
 |.opt _ t d x=>.opt false t d x
 |.mp _ k v x=>.mp false k v x
 |.dead=>.dead
def unRo_v(r:Ab):(Zk r).v=r.v/\(Zk r).len=r.len:=by cases r<;>first|trivial|exact⟨rfl,Qc⟩
def MI(r:Ab):(BG r).v=r.v/\(BG r).len=r.len:=by cases r<;>first|trivial|exact⟨rfl,Qc⟩
def JO(r:Ab)(i:Nat):(BG r).cells i=r.cells i:=by cases r<;>cases i<;>rfl
def Vp(c:Cl)(b e:Bool):BG (c.node b)=BG (c.node e):=by
 cases c with
 |c t d x=>cases t<;>cases d<;>rfl
 |_=>rfl
def Zy(r:Ab):BG (Zk r)=BG r:=by cases r<;>rfl
def JN(r:Ab):BG (BG r)=BG r:=by cases r<;>rfl
def AaC:∀(q:AX) (r r':Ab),BG r=BG r'->(r.at' q).len=(r'.at' q).len
 |[],r,r',h=>by
  show r.len=r'.len;rw[<-(MI r).2,<-(MI r').2,h]
 |(i,k)::q,r,r',h=>by
  show((((r.cells i).getD k .dead).node r.ro).at' q).len=((((r'.cells i).getD k .dead).node r'.ro).at' q).len;have e:r.cells i=r'.cells i:=by rw[<-JO r,<-JO r',h]
  rw[e];exact AaC q _ _ (Vp _ _ _)
theorem LY:∀(p e:AX) (rest:List Dy),ZC p e=true->V6 p (dyP e++rest)=e/\(dyP e++rest).drop p.length=rest
 |[],[],rest,_=>⟨rfl,rfl⟩
 |(i,k)::p,(i',k')::e,rest,h=>by
  have h:(Nat.beq k k'&&ZC p e)=true:=h;rw[bAE]at h;obtain⟨a,b⟩:=LY p e rest h.2;have A:=bqE h.1;subst A;refine⟨?_,b⟩;show(Int.toNat (Int.ofNat i'),k)::V6 p (dyP e++rest)=_
  simp_all
 |[],_::_,_,h=>by cases h
 |_::_,[],_,h=>by cases h
theorem V7:∀(l m:List Cl) (a:List Dy) (rest:List Dy),ZD l m=true->dyA m=some a->Ku l (a++rest)=(m,rest):=by
 intro l
 induction l with
 |nil=>intro m a rest h e;cases m with
  |nil=>cases e;rfl
  |cons y m=>cases y<;>cases h
 |cons y l J=>
  intro m a rest h e;cases m with
  |nil=>cases y<;>cases h
  |cons z m=>
   cases y with
   |c t d x=>
    cases z with
    |c t' F A=>
     have h:(decide (t'=t)&&Nat.beq F d&&ZD l m)=true:=h;simp only[bAE,decide_eq_true_eq]at h;obtain⟨⟨rfl,hd⟩,hl⟩:=h;have hd:=bqE hd;subst hd
     have e:(bif t'.one then(match dyA m with
      |some m=>some ((⟨t',A⟩:Dy)::m)
      |none=>none)else none)=some a:=e
     obtain⟨U,e⟩:=A9 e;split at e
     case h_2=>cases e
     rename_i b O;cases e
     show((match(if h:t'=t' then some (h▸A)else none:Option t'.T)with
      |some x=>Cl.c t' F x
      |none=>.dead)::(Ku l (b++rest)).1,(Ku l (b++rest)).2)=_
     rw[J m b rest hl O];simp
    |_=>cases h
   |_=>cases z<;>cases h
def Ql{old new:Ab}(h:Acc old new=true)(F:Abk new=some a):Yx old (a++rest)=(Zk new,rest):=by
 cases old with
 |arr ro t d xs=>
  cases new with
  |arr A t' J e=>
   have h:(decide (t'=t)&&Nat.beq J d)=true:=h;simp only[bAE,decide_eq_true_eq]at h;obtain⟨rfl,hd⟩:=h;have hd:=bqE hd;subst hd;cases F;show((if h:t'=t' then Ab.arr false t' J (h▸e)else .dead),rest)=_
   simp[Zk]
  |_=>cases h
 |obj ro l=>
  cases new with
  |obj A m=>
   show(Ab.obj false (Ku l (a++rest)).1,(Ku l (a++rest)).2)=_;rw[V7 l m a rest h F];rfl
  |_=>cases h
 |dead=>trivial
 |opt=>trivial
 |mp ro k v xs=>
  cases new with
  |mp A k' v' e=>
   have h:(decide (k'=k)&&decide (v'=v))=true:=h;simp only[bAE,decide_eq_true_eq]at h;obtain⟨rfl,rfl⟩:=h;cases F
   show(match IP (.mp k' v') ⟨.mp k' v',e⟩with
    |some xs=>Ab.mp false k' v' xs
    |none=>.dead,rest)=_
   simp[Zk,IP]
  |_=>cases h
def I7(k:LK)(y:Sl):Sl:=match k,y with
 |.val _ false,.one c=>(match dyC c with
  |some z=>.one z.cl
  |none=>.one .dead)
 |.val _ true,.agg l=>(match dyL l with
  |some m=>.agg (m.map Dy.cl)
  |none=>.one .dead)
 |.ref id,_=>.one (.rf id [])
 |.ptr id,_=>.one (.rp id [] 0 0)
 |.pth id _,.one (.rf _ p')=>.one (.rf id p')
 |.mrf id p,_=>.one (.rm id p)
 |_,_=>.one .dead
theorem V5{k:LK}{m:List (Nat×Nat)}(h:Yo k y=some (a,m)):Yw k (a++rest)=(I7 k y,rest):=by
 unfold Yo at h;split at h
 .split at h
  case h_2=>cases h
  rename_i z J;cases h;unfold Yw I7;simp[J]
 .rename_i n l
  obtain⟨F,h⟩:=A9 h;split at h
  case h_2=>cases h
  rename_i z J;cases h
  have e:∀(l:List Cl) (z:List Dy),dyL l=some z->z.length=l.length:=by
   intro l
   induction l with
   |nil=>intro z h;cases h;rfl
   |cons y l W=>
    intro z h;unfold dyL at h
    grind
  have Z:=e l a J;have Y:=bqE F;unfold Yw I7
  grind
 .cases h;rfl
 .cases h;rfl
 .rename_i id p id' A
  obtain⟨F,h⟩:=A9 h;cases h;obtain⟨U,O⟩:=LY p A rest F;show(Sl.one (.rf id (V6 p (dyP A++rest))),(dyP A++rest).drop p.length)=(Sl.one (.rf id A),rest);rw[U,O]
 .obtain⟨F,h⟩:=A9 h
  cases h;rfl
 .cases h;rfl
 .cases h
def Mb(t0 t':Nat->Sl):List Nat->(Nat->Sl)->Nat->Sl
 |[],t=>t
 |d::L,t=>Mb t0 t' L (AK t d (I7 (lk (t0 d)) (t' d)))
def LZ{t0 t':Nat->Sl}:∀(L:List Nat) (a rest:List Dy) (m:List (Nat×Nat)) (t:Nat->Sl),V2 t0 t' L=some (a,m)->K7 t0 L (a++rest) t=(Mb t0 t' L t,rest)
 |[],a,rest,m,t,h=>by cases h;rfl
 |d::L,a,rest,m,t,h=>by
  unfold V2 at h;split at h
  case h_2=>grind
  rename_i a1 J A;split at h
  case h_2=>grind
  rename_i a2 F e;cases h;unfold K7;rw[List.append_assoc,V5 A];exact LZ L a2 rest F _ e
theorem Ma{t0 t':Nat->Sl}:∀(L:List Nat) (t:Nat->Sl) (i:Nat),Mb t0 t' L t i=if L.contains i then I7 (lk (t0 i)) (t' i)else t i
 |[],t,i=>rfl
 |d::L,t,i=>by
  unfold Mb;rw[Ma L];by_cases hi:L.contains i=true
  .grind
  .rw[if_neg hi]
   by_cases hd:i=d
   .subst hd
    rw[if_pos (by simp)]
    unfold AK;simp
   .have:(d::L).contains i=false:=by
     grind
    rw[this,A4 hd];rfl
def Bo(r':List Ab)(π:Nat->Nat):List Nat->List Ab->List Ab
 |[],r=>r
 |id::l,r=>Bo r' π l (r.set id (Zk (r'.getD (π id) .dead)))
def LX{e r':List Ab}{π:Nat->Nat}:∀(Rh:List Nat) (a:List Dy) (r:List Ab),Rh.all (λi=>Acc (e.getD i .dead) (r'.getD (π i) .dead))=true->Aah r' π Rh=some a->Hr e Rh a r=Bo r' π Rh r
 |[],a,r,_,h=>rfl
 |id::l,a,r,hs,h=>by
  rw[List.all_cons,bAE]at hs;unfold Aah at h;split at h
  case h_2=>grind
  rename_i a1 F;split at h
  case h_2=>grind
  rename_i a2 A;cases h;unfold Hr;rw[Ql hs.1 F];exact LX l a2 _ hs.2 A
def Mc{r':List Ab}{π:Nat->Nat}:∀(Rh:List Nat) (r:List Ab),(Bo r' π Rh r).length=r.length
 |[],_=>rfl
 |id::l,r=>by unfold Bo;rw[Mc l,List.length_set]
def Md{r':List Ab}{π:Nat->Nat}:∀(Rh:List Nat) (r:List Ab) (i:Nat),i<r.length->(Bo r' π Rh r).getD i .dead=if Rh.contains i then Zk (r'.getD (π i) .dead)else r.getD i .dead
 |[],r,i,_=>rfl
 |id::l,r,i,hi=>by
  unfold Bo;rw[Md l _ i (by grind)]
  grind
def Abl(m:List (Nat×Nat))(L Rh:List Nat)(e s':St)(keep:Nat):Bool:=
 (List.range e.r.length).all (λi=>Nat.blt (piF m i) s'.r.length)&&
 (List.range e.r.length).all (λi=>(List.range e.r.length).all λj=>Nat.beq i j|| !Nat.beq (piF m i) (piF m j))&&
 (List.range e.r.length).all (λi=>Rh.contains i||Nat.beq (piF m i) i)&&
 Rh.all (λi=>Acc (e.r.getD i .dead) (s'.r.getD (piF m i) .dead))&&
 m.all (λp=>Nat.beq (piF m p.1) p.2&&Nat.blt p.1 e.r.length)&&
 (List.range keep).all (λi=>Nat.beq (piF m i) i)
def Aai(L Rh:List Nat)(e s':St)(keep:Nat):Option (List Dy):=match V2 e.t s'.t L with
 |some (a,m)=>bif Abl m L Rh e s' keep then(match Aah s'.r (piF m) Rh with
  |some c=>some (a++c)
  |none=>none)else none
 |none=>none
theorem dyC_v{z:Dy}(h:dyC c=some z):c.v r=z.cl.v r':=by
 unfold dyC at h;split at h
 case h_2=>grind
 rename_i t d x;cases e:(t.one&& !(Cl.c t d x).own)with
 |false=>grind
 |true=>
  rw[e]at h;cases h;simp[Bool.not_eq_true']at e
  cases t<;>cases d<;>first|rfl|(cases x with
   |none=>rfl
   |some _=>exact absurd e.2 (by intro h;cases h))|exact nomatch e.2|rfl
def Lq(h:c.stay=true):B1 π n (c.v r) (c.v r'):=by
 cases c with
 |c t d x=>cases t<;>first|exact B1.tyV0 (.clo _ _) x _ (List.mem_singleton.2 rfl)|(cases x<;>first|rfl|exact .inr (Sub.refl _))|exact ren_nr (λ_ _ _ _ h=>by cases h) (λ_ _ _ _ h=>by cases h) (λ_ _ _ h=>by cases h) (λ_ _ h=>by cases h)
 |dead=>exact .inl rfl
 |nil=>exact .inr (Sub.refl _)
 |nilp=>exact .inr (Sub.refl _)
 |nilf=>exact .inr (Sub.refl _)
 |nilm=>exact .inr (Sub.refl _)
 |_=>cases h
theorem ZN(h:y.stay=true):B1 π n (y.v r) (y.v r'):=by
 have agg:∀l:List Cl,l.all Cl.stay=true->B1 π n (Ai (l.map (Cl.v r))) (Ai (l.map (Cl.v r'))):=by
  intro l h;refine Q2 (by simp) λk e=>?_
  rw[AE (f:=Cl.v r) (a:=.dead) rfl,AE (f:=Cl.v r') (a:=.dead) rfl];have e:k<l.length:=by simpa using e
  refine Lq (aET.1 h _ ?_)
  grind
 cases y with
 |one c=>exact Lq h
 |new l=>exact .inr (Sub.refl _)
 |agg l=>exact agg l h
 |pk t l=>
  refine Aa0 (by simp) λk e=>?_
  rw[AE (f:=Cl.v r) (a:=.dead) rfl,AE (f:=Cl.v r') (a:=.dead) rfl];have e:k<l.length:=by simpa using e
  refine Lq (aET.1 h _ ?_)
  grind
 |tup l=>
  refine Xr (by simp) λk e=>?_
  have e:k<l.length:=by simpa using e
  simp only[gDE,List.getElem?_map,gEE e,Option.map_some,Option.getD_some];have A:=aET.1 h l[k] (List.getElem_mem e);generalize l[k]=p at A;obtain⟨b,m⟩:=p;cases b with
  |true=>exact agg m A
  |false=>
   cases m with
   |nil=>exact .inl rfl
   |cons y m=>exact Lq (by grind)
theorem Kn{C:Ctx}{N:Nat}{ro:Bool}{b:List Oper}{L Rh:List Nat}{A s':St}{keep:Nat}{cs:List Dy}{a:Act}{w:World}(h:AQ C N s'.den a w)(hg:Aai L Rh A s' keep=some cs)(hk:C.m<=keep)(hk0:C.m<=A.r.length)
  (ht:∀i,L.contains i=false->Aq b i=true->(A.t i).stay=true->s'.t i=A.t i)
  (hr:∀id,id<A.r.length->Rh.contains id=false->(s'.r.getD id .dead).v=(A.r.getD id .dead).v/\(s'.r.getD id .dead).len=(A.r.getD id .dead).len)
  (hq:∀id,id<A.r.length->Rh.contains id=false->∀q:AX,((s'.r.getD id .dead).at' q).len=((A.r.getD id .dead).at' q).len):AQ C N (Bf ro b L Rh A cs).den a w:=by
 unfold Aai at hg;split at hg
 case h_2=>cases hg
 rename_i av m Z;obtain⟨hok,hg⟩:=A9 hg;split at hg
 case h_2=>cases hg
 rename_i cv hgr;cases hg;unfold Abl at hok;simp only[bAE]at hok;obtain⟨⟨⟨⟨⟨o1,o2⟩,o3⟩,o4⟩,o5⟩,o6⟩:=hok
 let base:Nat->Sl:=λi=>bif Aq b i&&(A.t i).stay then A.t i else .one .dead
 let F:List Ab:=bif ro then A.r.map BG else A.r
 have hr0l:F.length=A.r.length:=by cases ro<;>simp[F]
 have hr0g:∀i,(F.getD i .dead).v=(A.r.getD i .dead).v/\(F.getD i .dead).len=(A.r.getD i .dead).len:=by
  intro i;cases ro with
  |false=>exact⟨rfl,rfl⟩
  |true=>
   have e:F.getD i .dead=BG (A.r.getD i .dead):=by
    show(A.r.map BG).getD i .dead=_;simp only[gDE,List.getElem?_map];cases A.r[i]? <;>rfl
   rw[e];exact MI _
 have hT:Bf ro b L Rh A (av++cv)=⟨Mb A.t s'.t L base,Bo s'.r (piF m) Rh F⟩:=by
  show(⟨(K7 A.t L (av++cv) base).1,Hr A.r Rh (K7 A.t L (av++cv) base).2 F⟩:St)=_;rw[LZ L av cv m base Z];simp only;rw[LX Rh cv F o4 hgr]
 rw[hT];have hlen:(Bo s'.r (piF m) Rh F).length=A.r.length:=by rw[Mc,hr0l]
 have J:((Bo s'.r (piF m) Rh F).map Ab.v).length=A.r.length:=by rw[List.length_map,hlen]
 have hget:∀i,i<A.r.length->(Bo s'.r (piF m) Rh F).getD i .dead=if Rh.contains i then Zk (s'.r.getD (piF m i) .dead)else F.getD i .dead:=λi hi=>Md Rh F i (by rw[hr0l];exact hi)
 have hgv:∀i,i<A.r.length->((Bo s'.r (piF m) Rh F).getD i .dead).v=(s'.r.getD (piF m i) .dead).v/\((Bo s'.r (piF m) Rh F).getD i .dead).len=(s'.r.getD (piF m i) .dead).len:=by
  intro i hi;rw[hget i hi];cases hc:Rh.contains i with
  |true=>simp only[if_true];exact unRo_v _
  |false=>
   simp only[Bool.false_eq_true,if_false];have:=aET.1 o3 i (List.mem_range.2 hi);rw[hc,Bool.false_or]at this;rw[bqE this,(hr0g i).1,(hr0g i).2,(hr i hi hc).1,(hr i hi hc).2];exact⟨rfl,rfl⟩
 have hgq:∀i,i<A.r.length->∀q:AX,(((Bo s'.r (piF m) Rh F).getD i .dead).at' q).len=((s'.r.getD (piF m i) .dead).at' q).len:=by
  intro i hi q;rw[hget i hi];cases hc:Rh.contains i with
  |true=>simp only[if_true];exact AaC q _ _ (Zy _)
  |false=>
   simp only[Bool.false_eq_true,if_false];have:=aET.1 o3 i (List.mem_range.2 hi);rw[hc,Bool.false_or]at this;rw[bqE this,hq i hi hc q];refine AaC q _ _ ?_;cases ro with
   |false=>rfl
   |true=>
    have e:F.getD i .dead=BG (A.r.getD i .dead):=by
     show(A.r.map BG).getD i .dead=_;simp only[gDE,List.getElem?_map];cases A.r[i]? <;>rfl
    rw[e];exact JN _
 refine h.perm (π:=piF m) (λi hi=>?_) (λi j hi hj he=>?_) (λi hi=>?_) (λi hi=>?_) ?_ λi=>?_
 .have hi:i<A.r.length:=by rw[<-J];exact hi
  show _<(s'.r.map Ab.v).length;rw[List.length_map];exact blE (aET.1 o1 i (List.mem_range.2 hi))
 .have hi:i<A.r.length:=by rw[<-J];exact hi
  have hj:j<A.r.length:=by rw[<-J];exact hj
  have:=aET.1 (aET.1 o2 i (List.mem_range.2 hi)) j (List.mem_range.2 hj);rw[he,Nat.beq_refl,Bool.or_eq_true]at this;rcases this with h|h
  .exact bqE h
  .cases h
 .have hi:i<A.r.length:=by rw[<-J];exact hi
  show Sub ((s'.r.map Ab.v).getD (piF m i) .dead) (((Bo s'.r (piF m) Rh F).map Ab.v).getD i .dead);rw[Aw,Aw,(hgv i hi).1];exact Sub.refl _
 .exact bqE (aET.1 o6 i (List.mem_range.2 (Nat.lt_of_lt_of_le hi hk)))
 .show C.m<=((Bo s'.r (piF m) Rh F).map Ab.v).length
  rw[J];exact hk0
 .show B1 (piF m) ((Bo s'.r (piF m) Rh F).map Ab.v).length ((s'.t i).v s'.r) ((Mb A.t s'.t L base i).v (Bo s'.r (piF m) Rh F))
  rw[Ma,J];cases hc:L.contains i with
  |false=>
   simp only[Bool.false_eq_true,if_false];show B1 _ _ _ ((bif Aq b i&&(A.t i).stay then A.t i else .one .dead:Sl).v _);cases hb:(Aq b i&&(A.t i).stay)with
   |false=>exact B1.dead _ _ _
   |true=>
    rw[bAE]at hb;rw[ht i hc hb.1 hb.2];exact ZN hb.2
  |true=>
   simp only[if_true]
   -- the slot's own part of what was grabbed
   have hpart:∀(L:List Nat) (av:List Dy) (m0:List (Nat×Nat)),V2 A.t s'.t L=some (av,m0)->L.contains i=true->∃a1 m1,Yo (lk (A.t i)) (s'.t i)=some (a1,m1)/\∀p∈m1,p∈m0:=by
    intro L
    induction L with
    |nil=>intro av m0 _ h;cases h
    |cons d L ih=>
     intro av m0 Z hc;unfold V2 at Z;split at Z
     case h_2=>cases Z
     rename_i a1 b1 O;split at Z
     case h_2=>cases Z
     rename_i a2 b2 h2;cases Z;by_cases hd:i=d
     .subst hd
      exact⟨a1,b1,O,λp W=>List.mem_append_left _ W⟩
     .have:L.contains i=true:=by
       rw[List.contains_cons]at hc;have hne:(i==d)=false:=by simpa using hd
       rw[hne,Bool.false_or]at hc;exact hc
      obtain⟨a3,m3,h3,h4⟩:=ih a2 b2 h2 this;exact⟨a3,m3,h3,λp W=>List.mem_append_right _ (h4 p W)⟩
   obtain⟨a1,m1,O,hm1⟩:=hpart L av m Z hc;generalize lk (A.t i)=k at O;generalize s'.t i=y at O;unfold Yo at O;split at O
   .rename_i c
    split at O
    case h_2=>cases O
    rename_i z hz;unfold I7;simp only[hz];have e:=dyC_v (r:=s'.r) (r':=Bo s'.r (piF m) Rh F) hz;show B1 _ _ (c.v s'.r) (z.cl.v (Bo s'.r (piF m) Rh F));rw[e];exact Lq (r:=Bo s'.r (piF m) Rh F) (r':=Bo s'.r (piF m) Rh F) (c:=z.cl) rfl
   .rename_i n l
    obtain⟨hb,O⟩:=A9 O;split at O
    case h_2=>cases O
    rename_i z hz;unfold I7;simp only[hz]
    have key:∀(l:List Cl) (z:List Dy),dyL l=some z->l.map (Cl.v s'.r)=(z.map Dy.cl).map (Cl.v (Bo s'.r (piF m) Rh F)):=by
     intro l
     induction l with
     |nil=>intro z h;cases h;rfl
     |cons y l ih=>
      intro z h;unfold dyL at h;split at h
      case h_2=>cases h
      rename_i z1 hz1;split at h
      case h_2=>cases h
      rename_i z2 hz2;cases h;simp only[List.map_cons];rw[dyC_v hz1,ih z2 hz2]
    show B1 _ _ (Ai (l.map (Cl.v s'.r))) (Ai ((z.map Dy.cl).map (Cl.v (Bo s'.r (piF m) Rh F))));rw[key l z hz];refine Q2 rfl λk hk=>?_
    rw[AE (f:=Cl.v (Bo s'.r (piF m) Rh F)) (a:=.dead) rfl];cases hx:(z.map Dy.cl)[k]? with
    |none=>simp only[gDE,hx];exact .inl rfl
    |some x=>
     simp only[gDE,hx,Option.getD_some];obtain⟨u,_,hu⟩:=List.mem_map.1 (List.mem_of_getElem? hx);rw[<-hu];exact Lq (c:=u.cl) rfl
   .rename_i id id'
    cases O;have W:=aET.1 o5 (id,id') (hm1 _ (List.mem_singleton.2 rfl));rw[bAE]at W;have U:piF m id=id':=bqE W.1;have Y:id<A.r.length:=blE W.2;refine .inr ⟨id,Y,U,?_⟩;show V.rs id [] 0 ((Bo s'.r (piF m) Rh F).getD id .dead).len=V.rs id [] 0 (s'.r.getD id' .dead).len;rw[(hgv id Y).2,U]
   .rename_i id id'
    cases O;have W:=aET.1 o5 (id,id') (hm1 _ (List.mem_singleton.2 rfl));rw[bAE]at W;have U:piF m id=id':=bqE W.1;have Y:id<A.r.length:=blE W.2;exact .inr ⟨id,Y,U,rfl⟩
   .rename_i id p id' p'
    obtain⟨hb,O⟩:=A9 O;cases O;have W:=aET.1 o5 (id,id') (hm1 _ (List.mem_singleton.2 rfl));rw[bAE]at W;have U:piF m id=id':=bqE W.1;have Y:id<A.r.length:=blE W.2;refine .inr ⟨id,Y,U,?_⟩;show V.rs id p' 0 (((Bo s'.r (piF m) Rh F).getD id .dead).at' p').len=V.rs id p' 0 ((s'.r.getD id' .dead).at' p').len;rw[hgq id Y p',U]
   .rename_i id p id' p'
    obtain⟨hb,O⟩:=A9 O;cases O;have W:=aET.1 o5 (id,id') (hm1 _ (List.mem_singleton.2 rfl));rw[bAE]at W;have U:piF m id=id':=bqE W.1;have Y:id<A.r.length:=blE W.2;rw[<-Abq p p' hb];exact .inr ⟨id,Y,U,rfl⟩
   .unfold I7
    exact B1.dead _ _ _
   .cases O
end Go.Ve

