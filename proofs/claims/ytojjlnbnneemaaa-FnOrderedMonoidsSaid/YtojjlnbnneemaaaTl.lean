/- The typed machine: a region that draws its order; code. -/
import Derived.Test.YtojjlnbnneemaaaTk
set_option linter.all false
namespace Go.Ve
variable{a:Act}{ops:Array Oper}{C:Ctx}{E:Env}{B:List (Nat×Nat)}{i n:Nat}{P:Program}{s:St}{R:Type}{w:World}
theorem vdrawB{C:Ctx}{h:Cz}{id:Nat}{Q:Exit->Act->World->Prop}{σ:List V}{t0:Nat->V}{X:Nat->Prop}(B:List (Nat×Nat))(n:Nat)(fs:List Nat){Kt:(Nat->V)->Prop}{a:Act}{w:World}(hm:P.follows .mixedOrders=true)(U:QOK ops n)
  (hv:vq P h ops σ (ops.toList.take n) Kt t0) (hX:∀x,X x->∀j,AK ops j≠some x) (hB1:(B.map (·.1)).Nodup) (hB2:(B.map (·.2)).Nodup) (hB3:∀p∈B,p.1<h.n/\p.2<σ.length/\σ.getD p.2 .dead=.dead/\∀j,AK ops j≠some p.1)
  (hKt:∀Q':Exit->Act->World->Prop,(∀a w,Q .normal a w->Q' .normal a w)->∀t a w,Kt t->(∀x,X x->x∈B.map (·.1)\/AS (t x)=false)/\(∀p∈B,KR (t p.1))/\(AU C h.n (promA ((ops.toList.take n).map (·.dst)) (backs B ⟨t,σ⟩)) a w->wpList P ops Q' (ops.toList.drop n) a w))
  (hr:Um ops n\/(FLS ops n fs/\FlT P ops fs/\∀t a w,Kt t->AU C h.n (promA ((ops.toList.take n).map (·.dst)) (backs B ⟨t,σ⟩)) a w->FlH P ops n fs a w))
  (hp0:∃D ρ F T,PR C h.n σ ρ F t0 a {w with drawn:=w.drawn+1} D T/\(∀x b,T x b->X x)/\∀p∈B,a.tmps.getD p.1 undef=ρ p.2):(Code.region id ops true).wp P Q a w:=by
 refine wp_region_any hm ?_;obtain⟨r,m,M,hK⟩:=Yf (n:=n) (t0:=t0) (K:=Kt) U.le U n 0 (λ_=>.dead) (λ_=>[]) (by omega) (by simpa [Ch]using hv) (λj hj=>by omega)
 have O:HeadInv .any ops n (Array.replicate ops.size false):=
  ⟨by simp,λj oj _ W=>(by rw[getD_replicate_false]at W;cases W),λt _ ht=>getD_in (by simpa using ht) (getD_replicate_false _ _)⟩
 obtain⟨D,ρ,F,T,A,hTX,hBv⟩:=hp0
 have hpt:∀x,pt ops n r m t0 (Array.replicate ops.size false) x=t0 x\/(pt ops n r m t0 (Array.replicate ops.size false) x=.dead/\∃k,AK ops k=some x):=by
  intro x;unfold pt;cases ho:CT ops n x with
  |none=>exact .inl (Ik n λi _ hs=>by rw[getD_replicate_false]at hs;cases hs)
  |some k=>
   right;show(if(Array.replicate ops.size false).getD k false=true then _ else V.dead)=_/\_
   rw[getD_replicate_false];exact⟨rfl,k,(Bn ho).2⟩
 have hp1:PR C h.n σ ρ F (pt ops n r m t0 (Array.replicate ops.size false)) a {w with drawn:=w.drawn+1} D T:=by
  refine⟨A.df,A.sz,λx hx=>?_,A.wr,λx hx=>?_,A.tD,A.tF,A.tT,A.tn,A.fr,A.Fn,A.D1,A.D2,A.rt,A.ml,A.tx⟩
  .rcases hpt x with e|e
   .rw[e];exact A.dd x hx
   .exact e.1
  .rcases hpt x with e|⟨e,k,hk⟩
   .rw[e];exact A.tm x hx
   .rw[e]
    exact λb hb=>hX x (hTX x b hb) k hk
 have L:∀a1 w D T,PR C h.n σ ρ F (Ch ops r m t0 n) a1 w D T->(∀x b,T x b->P9 ops n X x)->(∀x,(∀i,i<n->AK ops i≠some x)->a1.tmps[x]? =a.tmps[x]?)->AU C h.n (promA ((ops.toList.take n).map (·.dst)) (backs B ⟨Ch ops r m t0 n,σ⟩)) a1 w:=by
  intro a1 w D T A hT hA;obtain⟨Z,hobj,_⟩:=hKt Q (λ_ _ h=>h) _ a1 w hK
  obtain⟨F',T',hp',hT'⟩:=PR.backs B _ _ _ _ A hB1 hB2 λp Y=>by
   obtain⟨g1,g2,g3,g4⟩:=hB3 p Y;refine⟨g1,g2,g3,?_,hobj p Y⟩;rw[<-hBv p Y,Array.getD_eq_getD_getElem?,Array.getD_eq_getD_getElem?,hA p.1 λi _=>g4 i]
  refine PR.close _ _ _ _ _ _ hp' λx b ho=>?_
  obtain⟨ho,hxB⟩:=hT' x b ho;rcases hT x b ho with⟨i,hi,hd⟩|hx
  .obtain⟨oi,hoi,_⟩:=U.dst i hi
   refine List.mem_map.2 ⟨oi,?_,by simpa [AK,hoi]using hd⟩
   refine List.mem_of_getElem? (i:=i) ?_;rw[List.getElem?_take,if_pos hi,Array.getElem?_toList];exact hoi
  .exfalso
   by_cases hxn:x<h.n
   .exact AF _ _ _ ((Z x hx).resolve_left hxB) (A.tm x hxn) b ho
   .exact A.tx x b (Nat.le_of_not_lt hxn) ho
 have hfu:unl (Array.replicate ops.size false) n+(ops.size-n)<=ops.size:=by
  have:unl (Array.replicate ops.size false) n<=n:=by
   unfold unl;have:=List.countP_le_length (p:=λi=>!(Array.replicate ops.size false).getD i true) (l:=List.range n)
   simpa using this
  have:=U.le;omega
 have J:∀Q':Exit->Act->World->Prop,(∀a w,Q .normal a w->Q' .normal a w)->∀a1 w D T,PR C h.n σ ρ F (Ch ops r m t0 n) a1 w D T->(∀x b,T x b->P9 ops n X x)->(∀x,(∀i,i<n->AK ops i≠some x)->a1.tmps[x]? =a.tmps[x]?)->wpList P ops Q' (ops.toList.drop n) a1 w:=λQ' hQ' a1 w D T A hT hA=>(hKt Q' hQ' _ a1 w hK).2.2 (L a1 w D T A hT hA)
 rcases hr with htl|⟨fl,hft,hfh⟩
 .exact Ab0 (X:=X) (a0:=a) U htl (Z5 U M) M (J Q λ_ _ h=>h) (J (QN Q) λ_ _ h=>⟨rfl,h⟩) ops.size _ a _ D T O hfu hp1 (λx b hb=>.inr (hTX x b hb)) (λ_ _=>rfl) (λj _ W=>by rw[getD_replicate_false]at W;cases W)
 .exact Y9 (X:=X) (a0:=a) U fl hft.keep (Z5 U M) M (J Q λ_ _ h=>h) (J (QN Q) λ_ _ h=>⟨rfl,h⟩) (λa1 w D T A hT hA=>hfh _ a1 w hK (L a1 w D T A hT hA)) ops.size _ a _ D T O hfu hp1 (λx b hb=>.inr (hTX x b hb)) (λ_ _=>rfl) (λj _ W=>by rw[getD_replicate_false]at W;cases W)
def PF(l:List Oper)(s:St):Bool:=l.all λo=>match o.dst with
 |some d=>!(s.t d).own||(s.t d).stay
 |none=>true
def K7(E:Env)(ops:Array Oper)(o:Oper):Option Nat:=match o.op with
 |.assign (.tmp y)=>bif dX E y then some y else none
 |.move (.tmp y)=>bif dX E y then some y else none
 |.store _ (.tmp y) _=>bif dX E y then some y else none
 |op=>match IT op with
  |some (f,xs)=>match J8 E.U f with
   |some e=>match xs.toList[e.S.k]? with
    |some (.tmp z)=>match alS E.h ops o z with
     |some y=>some y
     |none=>bif dX E z then some z else none
    |_=>none
   |none=>none
  |none=>none
theorem Yo{o:Oper}{y:Nat}(h:((dX E y&&(J6 o y||stB o y))||ucB E ops o y)=true):K7 E ops o=some y:=by
 rw[Bool.or_eq_true]at h;rcases h with h|h
 .rw[bAE]at h
  obtain⟨W,h⟩:=h;rw[Bool.or_eq_true]at h;rcases h with h|h
  .unfold J6 at h
   unfold K7;split at h
   .simp_all
   .simp_all
   .cases h
  .unfold stB at h
   unfold K7;split at h
   .simp_all
   .cases h
 .unfold ucB at h
  split at h
  case h_2=>cases h
  rename_i f xs F;split at h
  case h_2=>cases h
  rename_i e M;split at h
  case h_2=>cases h
  rename_i z J;obtain⟨O,A⟩:=Uh F;rw[A]at F;unfold K7;rw[A];simp only[F,M,J];cases L:alS E.h ops o z with
  |some U=>
   simp_all
  |none=>
   rw[L]at h;have h:(dX E z&&Nat.beq z y)=true:=h;rw[bAE]at h;rw[h.1,bqE h.2];rfl
def yL(E:Env)(ops:Array Oper):List Nat:=(ops.toList.filterMap λo=>match K7 E ops o with
 |some y=>bif Hn ops y then some y else none
 |none=>none).eraseDups
def yOK(E:Env)(ops:Array Oper):Bool:=ops.toList.all λo=>match K7 E ops o with
 |some y=>Hn ops y
 |none=>true
def goneB(E:Env)(ops:Array Oper)(o:Oper)(y:Nat):Bool:=(dX E y&&J6 o y)||(match IT o.op with
 |some (f,xs)=>match J8 E.U f with
  |some e=>e.S.eat&&(match xs.toList[e.S.k]? with
   |some (.tmp z)=>(match alS E.h ops o z with
    |some A=>Nat.beq A y
    |none=>dX E z&&Nat.beq z y)
   |_=>false)
  |none=>false
 |none=>false)
def bL(E:Env)(ops:Array Oper)(s:St):List (Nat×Nat):=(yL E ops).filterMap λy=>bif ops.toList.any (λo=>goneB E ops o y)then none else match Cr s y with
 |some id=>some (y,id)
 |none=>none
def bOK(n:Nat)(ops:Array Oper)(B:List (Nat×Nat))(s:St):Bool:=ndB (B.map (·.1))&&ndB (B.map (·.2))&&B.all λp=>Nat.blt p.1 n&&Nat.blt p.2 s.r.length&&Hn ops p.1&&(match s.r.getD p.2 .dead with
 |.dead=>true
 |_=>false)
def K6{R:Type}(E:Env)(n:Nat)(ops:Array Oper)(B:List (Nat×Nat))(chk:Bool)(tail:St->(St->Option R)->Option R)(s:St)(K:St->Option R):Option R:=
 bif chk&&yOK E ops&&bOK E.h.n ops B s then
  VF E true ops (X5 n (ops.toList.take n)) s λs1=>
   bif PF (ops.toList.take n) s1&&(yL E ops).all (λy=>(B.map (·.1)).contains y|| !(s1.t y).own)&&B.all (λp=>Ho (s1.t p.1))then tail ((s1.backs B).promA ((ops.toList.take n).map (·.dst))) K else none
 else none
def needL(ops:Array Oper)(n:Nat):List Nat:=(List.range n).reverse.foldl (λe i=>bif e.any λj=>Region.waitsFor .any ops j i then i::e else e) [n]
def Vd(ops:Array Oper)(n:Nat):List Nat:=(List.range n).filter λi=>!(needL ops n).contains i
def AaU{R:Type}(E:Env)(ops:Array Oper)(n:Nat)(fs:List Nat)(s:St)(K:St->Option R):Option R:=match ops.toList.drop n with
 |[o1,o2,o3]=>bif o1.guard.isNone&&o2.guard.isNone&&o3.guard.isNone then(match Wa E s (fs.filterMap λf=>ops[f]?) o1 o2 o3 with
  |some A=>oif A.p A.dec (K A.s)
  |none=>none)else none
 |_=>none
def Nt{R:Type}(E:Env)(n:Nat)(ops:Array Oper)(B:List (Nat×Nat))(s:St)(K:St->Option R):Option R:=
 bif Ix ops n then K6 E n ops B true (λs K=>tops E ops (X5 ops.size (ops.toList.drop n)) s K) s K
 else K6 E n ops B (Qw ops n&&flsB ops n (Vd ops n)&&flT E ops (Vd ops n)) (AaU E ops n (Vd ops n)) s K
def J5{a b:List Oper}:Au (a++b) i=(Au a i&&Au b i):=by
 unfold Au;simp
theorem yB_mem(e:yOK E ops=true)(h:yB E ops i=true):i∈yL E ops:=by
 obtain⟨o,ho,A⟩:=List.any_eq_true.1 h;have J:=aET.1 e o ho;have F:=Yo A;refine List.mem_eraseDups.2 (List.mem_filterMap.2 ⟨o,ho,?_⟩)
 grind
theorem yL_nd(h:i∈yL E ops):∀j,AK ops j≠some i:=by
 obtain⟨o,_,e⟩:=List.mem_filterMap.1 (List.mem_eraseDups.1 h);split at e
 .rename_i y F
  cases A:Hn ops y with
  |false=>grind
  |true=>
   rw[A]at e;cases e;exact CU A
 grind
theorem bOKn{K:St->Option R}{z:R}(h:Nt E n ops B s K=some z):∀p∈B,p.1<E.h.n:=by
 have key:∀(chk:Bool) (tail:St->(St->Option R)->Option R),K6 E n ops B chk tail s K=some z->∀p∈B,p.1<E.h.n:=by
  intro chk tail h p A;unfold K6 at h;cases e:bOK E.h.n ops B s with
  |false=>grind
  |true=>
   unfold bOK at e;rw[bAE]at e;have:=aET.1 e.2 p A;simp only[bAE]at this;exact blE this.1.1.1
 unfold Nt at h
 grind
theorem Ns{C:Ctx}(hE:EOK P E)(hm:P.follows .mixedOrders=true){id n:Nat}{ops:Array Oper}{B:List (Nat×Nat)}{s:St}{K:St->Option R}{z:R}{a:Act}{w:World}{Q:Exit->Act->World->Prop}
  (hpr:∃D ρ F T,PR C E.h.n s.den.σ ρ F s.den.t a {w with drawn:=w.drawn+1} D T/\(∀x b,T x b->x∈yL E ops)/\∀p∈B,a.tmps.getD p.1 undef=ρ p.2)
  {chk:Bool}{tail:St->(St->Option R)->Option R}{fs:List Nat} (h:K6 E n ops B chk tail s K=some z) (hqk:chk=true->QOK ops n)
  (htail:∀(Q':Exit->Act->World->Prop) (s2:St) (a:Act) (w:World),AU C E.h.n s2.den a w->tail s2 K=some z->(∀s' a' w',Kp (Au (ops.toList.drop n)) s2 s'->AU C E.h.n s'.den a' w'->K s'=some z->Q' .normal a' w')->wpList P ops Q' (ops.toList.drop n) a w)
  (hr:chk=true->Um ops n\/(FLS ops n fs/\FlT P ops fs/\∀(s2:St) (a:Act) (w:World),AU C E.h.n s2.den a w->tail s2 K=some z->FlH P ops n fs a w))
  (hK:∀s' a' w',(∀i,(Au ops.toList i&& !(yL E ops).contains i)=true->(∀p∈B,p.1≠i)->(s.t i).stay=true->s'.t i=s.t i)->(∀id,id<s.r.length->(∀p∈B,p.2≠id)->(s.r.getD id .dead).isRo=true->s'.r.getD id .dead=s.r.getD id .dead)->s.r.length<=s'.r.length->AU C E.h.n s'.den a' w'->K s'=some z->Q .normal a' w'):(Code.region id ops true).wp P Q a w:=by
 unfold K6 at h;obtain⟨W,h⟩:=A7 h;rw[bAE,bAE]at W;obtain⟨⟨W,hyk⟩,hbk⟩:=W;unfold bOK at hbk;rw[bAE,bAE]at hbk;obtain⟨⟨hb1,hb2⟩,hb3⟩:=hbk;have hB:∀p∈B,p.1<E.h.n/\p.2<s.r.length/\Hn ops p.1=true/\s.r.getD p.2 .dead=.dead:=by
  intro p hp;have:=aET.1 hb3 p hp;simp only[bAE]at this;obtain⟨⟨⟨g1,g2⟩,g3⟩,g4⟩:=this;refine⟨blE g1,blE g2,g3,?_⟩;split at g4
  .assumption
  .cases g4
 let K1:St->Option R:=λs1=>bif PF (ops.toList.take n) s1&&(yL E ops).all (λy=>(B.map (·.1)).contains y|| !(s1.t y).own)&&B.all (λp=>Ho (s1.t p.1))then tail ((s1.backs B).promA ((ops.toList.take n).map (·.dst))) K else none
 have hv:=Yl hE (ops:=ops) (K:=K1) (z:=z) (Kt:=λt=>∃s1:St,s1.r=s.r/\(∀i,Au ops.toList i=true->yB E ops i=false->s1.t i=s.t i)/\VLe t s1.den.t/\K1 s1=some z) (X5 n (ops.toList.take n)) s s.den.t (λo ho=>by rw[Cq]at ho;exact List.mem_of_mem_take ho) (λi=>.inl rfl) h
  (λs' t' Z h2 h3 h4=>⟨s',Z,h2,h3,h4⟩)
 rw[Cq]at hv
 have Y:∀t,(∃s1:St,s1.r=s.r/\(∀i,Au ops.toList i=true->yB E ops i=false->s1.t i=s.t i)/\VLe t s1.den.t/\K1 s1=some z)->∃s1:St,s1.r=s.r/\(∀i,Au ops.toList i=true->yB E ops i=false->s1.t i=s.t i)/\tail ((s1.backs B).promA ((ops.toList.take n).map (·.dst))) K=some z/\
   (∀x,x∈yL E ops->x∈B.map (·.1)\/AS (t x)=false)/\(∀p∈B,KR (t p.1))/\∀a1 w1,AU C E.h.n (promA ((ops.toList.take n).map (·.dst)) (backs B ⟨t,s.den.σ⟩)) a1 w1->AU C E.h.n ((s1.backs B).promA ((ops.toList.take n).map (·.dst))).den a1 w1:=by
  rintro t ⟨s1,J,ht1,hvl,A⟩
  have A:(bif PF (ops.toList.take n) s1&&(yL E ops).all (λy=>(B.map (·.1)).contains y|| !(s1.t y).own)&&B.all (λp=>Ho (s1.t p.1))then tail ((s1.backs B).promA ((ops.toList.take n).map (·.dst))) K else none)=some z:=A
  obtain⟨ho,A⟩:=A7 A;rw[bAE,bAE]at ho;obtain⟨⟨ho,hyo⟩,hro⟩:=ho
  have U:∀p∈B,Ho (s1.t p.1)=true/\t p.1=s1.den.t p.1:=by
   intro p hp;have Z:=aET.1 hro p hp;refine⟨Z,?_⟩;rcases hvl p.1 with e|e
   .exact e
   .obtain⟨_,h3,⟨s0,sz,nn,f,h4,_⟩,_⟩:=Ck Z
    have e1:(s1.t p.1).v s1.r=.dead:=e.1;rw[h3,h4]at e1;cases e1
  refine⟨s1,J,ht1,A,λx hx=>?_,λp hp=>?_,λa1 w1 O=>?_⟩
  .have Z:=aET.1 hyo x hx
   rw[Bool.or_eq_true]at Z;rcases Z with Z|Z
   .exact .inl (by simpa using Z)
   right
   have h2:AS (s1.den.t x)=false:=by
    show AS ((s1.t x).v s1.r)=false;rw[Sl.own_v];simpa using Z
   rcases hvl x with e|e
   .rw[e];exact h2
   .exact e.2
  .obtain⟨g1,g2⟩:=U p hp
   rw[g2];show KR ((s1.t p.1).v s1.r);rw[(Ck g1).2.1];exact(Ck g1).2.2.1
  have hP:ZC ((ops.toList.take n).map (·.dst)) ⟨t,s.den.σ⟩ s1:=by
   refine⟨by show s.r.map Ac.v=s1.r.map Ac.v;rw[J],λi=>?_,λi L=>⟨λhoi=>?_,?_⟩⟩
   .rcases hvl i with e|e
    .show As (t i) _
     rw[e];exact As.refl _
    .rw[e.1];exact As.dead _
   .obtain⟨o,ho1,ho2⟩:=List.mem_map.1 L
    have:=aET.1 ho o ho1;rw[ho2]at this;simp only[Bool.or_eq_true,Bool.not_eq_true']at this;rcases this with h|h
    .rw[hoi]at h;cases h
    .exact h
   .rcases hvl i with e|e
    .exact .inl e
    .right
     refine⟨?_,e.2⟩
     have:AS ((s1.t i).v s1.r)=false:=by
      show AS (s1.den.t i)=false;rw[e.1];rfl
     rw[Sl.own_v]at this;exact this
  have hP2:=Ky B _ _ hP (D6 hb1) λp hp=>by
   obtain⟨g1,g2⟩:=U p hp;obtain⟨_,k2,k3,_⟩:=hB p hp;refine⟨λhm=>?_,by rw[J];exact k2,g2,g1⟩
   obtain⟨o,ho1,ho2⟩:=List.mem_map.1 hm;obtain⟨j,hj⟩:=List.mem_iff_getElem?.1 (List.mem_of_mem_take ho1);refine CU k3 j ?_;unfold AK;rw[<-Array.getElem?_toList,hj];exact ho2
  obtain⟨g1,g2⟩:=JY _ _ _ hP2;exact O.sub (by rw[g2]) (λi _=>by rw[g2];exact Sub.refl _) g1
 refine vdrawB (X:=λx=>x∈yL E ops) B n fs hm (hqk W) hv (λx hx=>yL_nd hx) (D6 hb1) (D6 hb2) (λp hp=>?_) ?_ ((hr W).imp (λh=>h) fun⟨k1,k2,k3⟩=>⟨k1,k2,λt a1 w1 hkt O=>by
  obtain⟨s1,_,_,A,_,_,hsr⟩:=Y t hkt;exact k3 _ _ _ (hsr _ _ O) A⟩) hpr
 .obtain⟨g1,g2,g3,g4⟩:=hB p hp
  refine⟨g1,by simpa [St.den]using g2,?_,CU g3⟩
  show(s.r.map Ac.v).getD p.2 .dead=.dead;rw[Aq,g4];rfl
 intro Q' hQ' t a1 w1 hkt;obtain⟨s1,J,ht1,A,hfx,hfp,hsr⟩:=Y t hkt;refine⟨hfx,hfp,λO=>?_⟩
 have hs2:=hsr _ _ O
 .skip
  obtain⟨b1,b2,b3⟩:=M9 B s1
  have hsp:∀i,(Au ops.toList i&& !(yL E ops).contains i)=true->Au ops.toList i=true/\yB E ops i=false:=by
   intro i L;rw[bAE,Bool.not_eq_true']at L;refine⟨L.1,?_⟩;cases hy:yB E ops i with
   |false=>rfl
   |true=>
    have:=yB_mem hyk hy;have:(yL E ops).contains i=true:=by simpa using this
    rw[L.2]at this;cases this
  have k1:=HV (ops.toList.take n) (s1.backs B)
  have M:∀i,(Au ops.toList i&& !(yL E ops).contains i)=true->Au (ops.toList.take n) i=true/\Au (ops.toList.drop n) i=true:=by
   intro i L;have L:=(hsp i L).1;rw[<-List.take_append_drop n ops.toList,J5,bAE]at L;exact L
  refine htail Q' _ a1 w1 hs2 A λs' a' w' hk hs' hz=>hQ' _ _ (hK s' a' w' (λi L hiB hst=>?_) (λid hl hiB hrr=>?_) ?_ hs' hz)
  .have e1:s1.t i=s.t i:=ht1 i (hsp i L).1 (hsp i L).2
   have e2:(s1.backs B).t i=s1.t i:=b1 i hiB (by rw[e1];exact hst)
   have e3:=k1.t i (M i L).1 (by rw[e2,e1];exact hst)
   rw[hk.t i (M i L).2 (by rw[e3,e2,e1];exact hst),e3,e2,e1]
  .have e2:(s1.backs B).r.getD id .dead=s.r.getD id .dead:=(b2 id hiB).trans (by rw[J])
   have hl2:id<(s1.backs B).r.length:=by rw[b3,J];exact hl
   have e3:=k1.r id hl2 (by rw[e2];exact hrr)
   rw[hk.r id (Nat.lt_of_lt_of_le hl2 k1.l) (by rw[e3,e2];exact hrr),e3,e2]
  .have:s.r.length=(s1.backs B).r.length:=by rw[b3,J]
   rw[this];exact Nat.le_trans k1.l hk.l
def V1{C:Ctx}(hE:EOK P E)(hm:P.follows .mixedOrders=true){id n:Nat}{ops:Array Oper}{B:List (Nat×Nat)}{s:St}{K:St->Option R}{z:R}{a:Act}{w:World}{Q:Exit->Act->World->Prop}
  (hpr:∃D ρ F T,PR C E.h.n s.den.σ ρ F s.den.t a {w with drawn:=w.drawn+1} D T/\(∀x b,T x b->x∈yL E ops)/\∀p∈B,a.tmps.getD p.1 undef=ρ p.2)
  (h:Nt E n ops B s K=some z) (hK:∀s' Y w',(∀i,(Au ops.toList i&& !(yL E ops).contains i)=true->(∀p∈B,p.1≠i)->(s.t i).stay=true->s'.t i=s.t i)->(∀id,id<s.r.length->(∀p∈B,p.2≠id)->(s.r.getD id .dead).isRo=true->s'.r.getD id .dead=s.r.getD id .dead)->s.r.length<=s'.r.length->AU C E.h.n s'.den Y w'->K s'=some z->Q .normal Y w'):(Code.region id ops true).wp P Q a w:=by
 unfold Nt at h;cases hq:Ix ops n with
 |true=>
  rw[hq]at h;obtain⟨h1,h2⟩:=NW hq;refine Ns (fs:=[]) hE hm hpr h (λ_=>h1) (λQ' M a w hs J hk=>?_) (λ_=>.inl h2) hK
  have e:ops.toList.drop n=(X5 ops.size (ops.toList.drop n)).flatMap Seg.ops:=(Cq _ _).symm;rw[e];refine VU hE _ _ a w hs J λs' Y w' hkp Z hz=>hk s' Y w' ?_ Z hz
  rw[Cq]at hkp;exact hkp
 |false=>
  rw[hq]at h;simp only[cond_false]at h
  have W:∀M,AaU E ops n (Vd ops n) M K=some z->∃L U O A,ops.toList.drop n=[L,U,O]/\L.guard=none/\U.guard=none/\O.guard=none/\Wa E M ((Vd ops n).filterMap λf=>ops[f]?) L U O=some A/\A.p/\K A.s=some z:=by
   intro M J;unfold AaU at J;split at J
   case h_2=>cases J
   rename_i L U O hd;obtain⟨hg,J⟩:=A7 J;simp only[bAE,Option.isNone_iff_eq_none]at hg;split at J
   case h_2=>cases J
   rename_i A hA;unfold oif at J;split at J
   .rename_i hp
    exact⟨L,U,O,A,hd,hg.1.1,hg.1.2,hg.2,hA,hp,J⟩
   .cases J
  refine Ns (fs:=Vd ops n) hE hm hpr h (λhc=>?_) (λQ' M a w hs J hk=>?_) (λhc=>?_) hK
  .rw[bAE,bAE]at hc
   exact JT hc.1.1
  .obtain⟨L,U,O,A,hd,g1,g2,g3,hA,hp,hKA⟩:=W M J
   rw[hd]at hk⊢;have w1:∀(o:Oper) (a:Act),o.guard=none->Region.wanted o (yielded ops a.tmps)=true:=λo a hg=>by simp[Region.wanted,hg]
   unfold wpList;rw[if_pos (w1 L a g1)];refine .inl (Oper.wp_mono (λa1 w1' h1=>?_) (V8 (Q:=Q') hE.Θ hA hp hs (next:=λY w'=>Q' .normal Y w') λY w' Z=>hk A.s Y w' (V9 hA) Z hKA))
   unfold wpList;rw[if_pos (w1 U a1 g2)];refine .inl (Oper.wp_mono (λa2 w2' h2=>?_) h1)
   unfold wpList;rw[if_pos (w1 O a2 g3)];exact .inl h2
  .rw[bAE,bAE]at hc
   refine .inr ⟨Xy hc.1.2,Aag hE.Θ hc.2,λM a w hs J=>?_⟩
   obtain⟨L,U,O,A,hd,g1,g2,g3,hA,hp,hKA⟩:=W M J;have hon:ops[n]? =some L:=by
    have h1:(ops.toList.drop n)[0]? =some L:=by rw[hd];rfl
    rw[List.getElem?_drop]at h1;simpa using h1
   refine Abb hE.Θ hA hp hs hon (λf hf o ho=>List.mem_filterMap.2 ⟨f,hf,ho⟩) (Aag hE.Θ hc.2)
def AaQ{R:Type}(E:Env)(n:Nat)(ops:Array Oper)(s:St)(K:St->Option R):Option R:=match OI (ops.toList.flatMap (capsF E.h.fz)) s with
 |some e=>match Kq (yL E ops) e with
  |some s1=>Nt E n ops (bL E ops e) s1 K
  |none=>none
 |none=>none
theorem Yn(hE:EOK P E)(U:P.follows .mixedOrders=true){id n:Nat}{ops:Array Oper}{K:St->Option R}{z:R}{Q:Exit->Act->World->Prop}(hs:AU C E.h.n s.den a w)
  (h:AaQ E n ops s K=some z) (hK:∀s' a' w',Kp (Au ops.toList) s s'->AU C E.h.n s'.den a' w'->K s'=some z->Q .normal a' w'):(Code.region id ops true).wp P Q a w:=by
 unfold AaQ at h;split at h
 case h_2=>cases h
 rename_i Z hg;split at h
 case h_2=>cases h
 rename_i s1 hd;have M:∀p∈bL E ops Z,p.1∈yL E ops/\Cr Z p.1=some p.2:=by
  intro p J;obtain⟨y,hy,he⟩:=List.mem_filterMap.1 J
  grind
 refine V1 hE U ?_ h λs' a' w' q1 q2 q3=>hK s' a' w' ?_
 .obtain⟨D,ρ,F,T,hpr,hT,O⟩:=OU hd (Jv _ hg hs) (Below.drew w)
  exact⟨D,ρ,F,T,hpr,hT,λp J=>O p.1 p.2 (bOKn h p J) (M p J).2⟩
 have k1:=Jw _ hg;have k2:=OV hd
 have hnY:∀i,(Z.t i).stay=true->(yL E ops).contains i=false:=by
  intro i A;cases hc:(yL E ops).contains i with
  |false=>rfl
  |true=>
   have U:i∈yL E ops:=by simpa using hc
   exfalso;unfold Kq at hd;split at hd
   .rename_i hY
    rw[hY]at U;cases U
   split at hd
   case h_2=>cases hd
   rename_i ids W;obtain⟨id,_,hid⟩:=(Kf W).1 i U;rw[(Ci hid).2.1]at A;cases A
 have k3:Kp (Au ops.toList) Z s':=by
  refine⟨λi hi A=>?_,λid hl L=>?_,Nat.le_trans k2.l q3⟩
  .have e:=k2.t i rfl A
   have Y:=hnY i A;rw[q1 i (by rw[hi,Y];rfl) (λp J he=>?_) (by rw[e];exact A),e]
   have:=(M p J).1;rw[he]at this;have:(yL E ops).contains i=true:=by simpa using this
   rw[Y]at this;cases this
  .have e:=k2.r id hl L
   rw[q2 id (Nat.lt_of_lt_of_le hl k2.l) (λp J he=>?_) (by rw[e];exact L),e]
   have:=(Ci (M p J).2).1;rw[he,L]at this;cases this
 exact k1.trans k3 (λ_ _=>rfl) λ_ hi=>hi
end Go.Ve


namespace Go.Ve
inductive LK where
 |val (n:Nat) (agg:Bool)
 |ref (id:Nat)
 |ptr (id:Nat)
 |pth (id:Nat) (p:AW)
 |mrf (id:Nat) (p:AW)
 |prp (id:Nat) (p:AW) (j k:Nat)
 |fn (g:Nat) (l:List (Option (Nat×AW×Nat×Nat)))
 |no
def okV:Cl->Bool
 |.c t _ _=>t.one
 |_=>false
def okF:Cl->Bool
 |.rp _ _ _ _=>true
 |y=>okV y
def kcOf:Cl->Option (Nat×AW×Nat×Nat)
 |.rp id p j k=>some (id,p,j,k)
 |_=>none
def lk:Sl->LK
 |.one (.c t _ _)=>bif t.one then .val 1 false else .no
 |.one (.rf id [])=>.ref id
 |.one (.rp id [] 0 0)=>.ptr id
 |.one (.rf id (a::q))=>.pth id (a::q)
 |.one (.rm id p)=>.mrf id p
 |.one (.rp id p j k)=>.prp id p j k
 |.pk (.cl g) l=>bif l.all okF then .fn g (l.map kcOf)else .no
 |.agg l=>bif l.all okV then .val l.length true else .no
 |_=>.no
def dyC:Cl->Option Dy
 |.c t d x=>bif t.one&& !(Cl.c t d x).own then some ⟨t,x⟩else none
 |_=>none
def dyL:List Cl->Option (List Dy)
 |[]=>some []
 |y::l=>match dyC y with
  |some z=>match dyL l with
   |some m=>some (z::m)
   |none=>none
  |none=>none
def Dy.cl(y:Dy):Cl:=.c y.t 0 y.x
def dyP:AW->List Dy
 |[]=>[]
 |(i,_)::p=>⟨.int .i64,(Int.ofNat i:Int)⟩::dyP p
def YA:AW->AW->Bool
 |[],[]=>true
 |(_,k)::p,(_,k')::q=>Nat.beq k k'&&YA p q
 |_,_=>false
def Dy.nat:Dy->Nat
 |⟨.int _,x⟩=>Int.toNat x
 |_=>0
def Vo:AW->List Dy->AW
 |[],_=>[]
 |(_,k)::p,y::cs=>(y.nat,k)::Vo p cs
 |(_,k)::p,[]=>(0,k)::Vo p []
def MU:List (Option (Nat×AW×Nat×Nat))->List Cl->Option (List Dy×List (Nat×Nat))
 |[],[]=>some ([],[])
 |none::ks,y::l=>match dyC y with
  |some z=>match MU ks l with
   |some (a,m)=>some (z::a,m)
   |none=>none
  |none=>none
 |some (id,p,j,k)::ks,.rp id' p' j' k'::l=>bif eqP p p'&&Nat.beq j j'&&Nat.beq k k' then(match MU ks l with
  |some (a,m)=>some (a,(id,id')::m)
  |none=>none)else none
 |_,_=>none
def Hw:List (Option (Nat×AW×Nat×Nat))->List Dy->List Cl×List Dy
 |[],cs=>([],cs)
 |none::ks,y::cs=>(y.cl::(Hw ks cs).1,(Hw ks cs).2)
 |none::ks,[]=>(.dead::(Hw ks []).1,(Hw ks []).2)
 |some (id,p,j,k)::ks,cs=>(.rp id p j k::(Hw ks cs).1,(Hw ks cs).2)
def Xs(k:LK)(y:Sl):Option (List Dy×List (Nat×Nat)):=match k,y with
 |.val _ false,.one c=>match dyC c with
  |some z=>some ([z],[])
  |none=>none
 |.val n true,.agg l=>bif Nat.beq l.length n then(match dyL l with
  |some m=>some (m,[])
  |none=>none)else none
 |.ref id,.one (.rf id' [])=>some ([],[(id,id')])
 |.ptr id,.one (.rp id' [] 0 0)=>some ([],[(id,id')])
 |.pth id p,.one (.rf id' p')=>bif YA p p' then some (dyP p',[(id,id')])else none
 |.mrf id p,.one (.rm id' p')=>bif eqP p p' then some ([],[(id,id')])else none
 |.prp id p j k,.one (.rp id' p' j' k')=>bif eqP p p'&&Nat.beq j j'&&Nat.beq k k' then some ([],[(id,id')])else none
 |.fn g ks,.pk (.cl g') l=>bif Nat.beq g g' then MU ks l else none
 |.no,_=>some ([],[])
 |_,_=>none
def Vl(t0:Nat->Sl)(t:Nat->Sl):List Nat->Option (List Dy×List (Nat×Nat))
 |[]=>some ([],[])
 |d::L=>match Xs (lk (t0 d)) (t d)with
  |some (a,b)=>match Vl t0 t L with
   |some (a',b')=>some (a++a',b++b')
   |none=>none
  |none=>none
def piF(m:List (Nat×Nat))(i:Nat):Nat:=match m with
 |[]=>i
 |(a,b)::m=>bif Nat.beq a i then b else piF m i
def dyA:List Cl->Option (List Dy)
 |[]=>some []
 |.c t _ x::l=>bif t.one then(match dyA l with
  |some m=>some (⟨t,x⟩::m)
  |none=>none)else none
 |_::_=>none
def Aaa:Ac->Option (List Dy)
 |.arr _ t _ xs=>some [⟨.sl t,xs⟩]
 |.obj _ l=>dyA l
 |.opt _ _ _ _=>none
 |.mp _ k v x=>some [⟨.mp k v,x⟩]
 |.dead=>none
def Za(r:List Ac)(π:Nat->Nat):List Nat->Option (List Dy)
 |[]=>some []
 |id::l=>match Aaa (r.getD (π id) .dead)with
  |some a=>match Za r π l with
   |some b=>some (a++b)
   |none=>none
  |none=>none
def XB(k:LK)(cs:List Dy):Sl×List Dy:=match k with
 |.val _ false=>(match cs with
  |y::_=>.one y.cl
  |[]=>.one .dead,cs.drop 1)
 |.val n true=>(.agg ((cs.take n).map Dy.cl),cs.drop n)
 |.ref id=>(.one (.rf id []),cs)
 |.ptr id=>(.one (.rp id [] 0 0),cs)
 |.pth id p=>(.one (.rf id (Vo p cs)),cs.drop p.length)
 |.mrf id p=>(.one (.rm id p),cs)
 |.prp id p j k=>(.one (.rp id p j k),cs)
 |.fn g ks=>(.pk (.cl g) (Hw ks cs).1,(Hw ks cs).2)
 |.no=>(.one .dead,cs)
def KV(t0:Nat->Sl):List Nat->List Dy->(Nat->Sl)->(Nat->Sl)×List Dy
 |[],cs,t=>(t,cs)
 |d::L,cs,t=>KV t0 L (XB (lk (t0 d)) cs).2 (AQ t d (XB (lk (t0 d)) cs).1)
def Kl:List Cl->List Dy->List Cl×List Dy
 |[],cs=>([],cs)
 |.c t d _::l,y::cs=>(match(if h:y.t=t then some (h▸y.x)else none:Option t.T)with
  |some x=>.c t d x
  |none=>.dead)::(Kl l cs).1|>λm=>(m,(Kl l cs).2)
 |_::l,cs=>(.dead::(Kl l cs).1,(Kl l cs).2)
def XC:Ac->List Dy->Ac×List Dy
 |.arr _ t d _,y::cs=>(match y with
  |⟨.sl t',xs⟩=>if h:t'=t then .arr false t d (h▸xs)else .dead
  |_=>.dead,cs)
 |.arr _ _ _ _,[]=>(.dead,[])
 |.obj _ l,cs=>(.obj false (Kl l cs).1,(Kl l cs).2)
 |.opt _ _ _ _,cs=>(.dead,cs)
 |.mp _ k v _,y::cs=>(match IS (.mp k v) y with
  |some xs=>.mp false k v xs
  |none=>.dead,cs)
 |.mp _ _ _ _,[]=>(.dead,[])
 |.dead,cs=>(.dead,cs)
def Hv(r0:List Ac):List Nat->List Dy->List Ac->List Ac
 |[],_,r=>r
 |id::l,cs,r=>Hv r0 l (XC (r0.getD id .dead) cs).2 (r.set id (XC (r0.getD id .dead) cs).1)
def BH:Ac->Ac
 |.arr _ t d xs=>.arr true t d xs
 |.obj _ l=>.obj true l
 |.opt _ t d x=>.opt true t d x
 |.mp _ k v x=>.mp true k v x
 |.dead=>.dead
def BD(ro:Bool)(b:List Oper)(L Rh:List Nat)(e:St)(cs:List Dy):St:=
 let base:Nat->Sl:=λi=>bif Au b i&&(e.t i).stay then e.t i else .one .dead
 let f:=KV e.t L cs base
 ⟨f.1,Hv e.r Rh f.2 (bif ro then e.r.map BH else e.r)⟩
end Go.Ve


namespace Go.Ve
variable{c:Cl}{r r':List Ac}{a rest:List Dy}{n:Nat}{π:Nat->Nat}{y:Sl}
def YB:List Cl->List Cl->Bool
 |[],[]=>true
 |.c t d _::l,.c t' d' _::m=>decide (t'=t)&&Nat.beq d' d&&YB l m
 |_,_=>false
def Aba:Ac->Ac->Bool
 |.arr _ t d _,.arr _ t' d' _=>decide (t'=t)&&Nat.beq d' d
 |.obj _ l,.obj _ m=>YB l m
 |.mp _ k v _,.mp _ k' v' _=>decide (k'=k)&&decide (v'=v)
 |_,_=>false
def Yg:Ac->Ac
 |.arr _ t d xs=>.arr false t d xs
 |.obj _ l=>.obj false l
 |.opt _ t d x=>.opt false t d x
 |.mp _ k v x=>.mp false k v x
 |.dead=>.dead
def unRo_v(r:Ac):(Yg r).v=r.v/\(Yg r).len=r.len:=by cases r<;>first|trivial|exact⟨rfl,PV⟩
def Ml(r:Ac):(BH r).v=r.v/\(BH r).len=r.len:=by cases r<;>first|trivial|exact⟨rfl,PV⟩
def JM(r:Ac)(i:Nat):(BH r).cells i=r.cells i:=by cases r<;>cases i<;>rfl
def UL(c:Cl)(b e:Bool):BH (c.node b)=BH (c.node e):=by
 cases c with
 |c t d x=>cases t<;>cases d<;>rfl
 |_=>rfl
def Yx(r:Ac):BH (Yg r)=BH r:=by cases r<;>rfl
def JL(r:Ac):BH (BH r)=BH r:=by cases r<;>rfl
def Zz:∀(q:AW) (r r':Ac),BH r=BH r'->(r.at' q).len=(r'.at' q).len
 |[],r,r',h=>by
  show r.len=r'.len;rw[<-(Ml r).2,<-(Ml r').2,h]
 |(i,k)::q,r,r',h=>by
  show((((r.cells i).getD k .dead).node r.ro).at' q).len=((((r'.cells i).getD k .dead).node r'.ro).at' q).len;have e:r.cells i=r'.cells i:=by rw[<-JM r,<-JM r',h]
  rw[e];exact Zz q _ _ (UL _ _ _)
theorem Ly:∀(p e:AW) (rest:List Dy),YA p e=true->Vo p (dyP e++rest)=e/\(dyP e++rest).drop p.length=rest
 |[],[],rest,_=>⟨rfl,rfl⟩
 |(i,k)::p,(i',k')::e,rest,h=>by
  have h:(Nat.beq k k'&&YA p e)=true:=h;rw[bAE]at h;obtain⟨a,b⟩:=Ly p e rest h.2;have A:=bqE h.1;subst A;refine⟨?_,b⟩;show(Int.toNat (Int.ofNat i'),k)::Vo p (dyP e++rest)=_
  simp_all
 |[],_::_,_,h=>by cases h
 |_::_,[],_,h=>by cases h
theorem Vp:∀(l m:List Cl) (a:List Dy) (rest:List Dy),YB l m=true->dyA m=some a->Kl l (a++rest)=(m,rest):=by
 intro l
 induction l with
 |nil=>intro m a rest h ha;cases m with
  |nil=>cases ha;rfl
  |cons y m=>cases y<;>cases h
 |cons y l J=>
  intro m a rest h ha;cases m with
  |nil=>cases y<;>cases h
  |cons z m=>
   cases y with
   |c t d x=>
    cases z with
    |c e F A=>
     have h:(decide (e=t)&&Nat.beq F d&&YB l m)=true:=h;simp only[bAE,decide_eq_true_eq]at h;obtain⟨⟨rfl,hd⟩,hl⟩:=h;have hd:=bqE hd;subst hd
     have ha:(bif e.one then(match dyA m with
      |some m=>some ((⟨e,A⟩:Dy)::m)
      |none=>none)else none)=some a:=ha
     obtain⟨ho,ha⟩:=A7 ha;split at ha
     case h_2=>cases ha
     rename_i b L;cases ha
     show((match(if h:e=e then some (h▸A)else none:Option e.T)with
      |some x=>Cl.c e F x
      |none=>.dead)::(Kl l (b++rest)).1,(Kl l (b++rest)).2)=_
     rw[J m b rest hl L];simp
    |_=>cases h
   |_=>cases z<;>cases h
def P0{old new:Ac}(h:Aba old new=true)(ha:Aaa new=some a):XC old (a++rest)=(Yg new,rest):=by
 cases old with
 |arr ro t d xs=>
  cases new with
  |arr A F J e=>
   have h:(decide (F=t)&&Nat.beq J d)=true:=h;simp only[bAE,decide_eq_true_eq]at h;obtain⟨rfl,hd⟩:=h;have hd:=bqE hd;subst hd;cases ha;show((if h:F=F then Ac.arr false F J (h▸e)else .dead),rest)=_
   simp[Yg]
  |_=>cases h
 |obj ro l=>
  cases new with
  |obj A m=>
   show(Ac.obj false (Kl l (a++rest)).1,(Kl l (a++rest)).2)=_;rw[Vp l m a rest h ha];rfl
  |_=>cases h
 |dead=>trivial
 |opt=>trivial
 |mp ro k v xs=>
  cases new with
  |mp A k' v' e=>
   have h:(decide (k'=k)&&decide (v'=v))=true:=h;simp only[bAE,decide_eq_true_eq]at h;obtain⟨rfl,rfl⟩:=h;cases ha
   show(match IS (.mp k' v') ⟨.mp k' v',e⟩with
    |some xs=>Ac.mp false k' v' xs
    |none=>.dead,rest)=_
   simp[Yg,IS]
  |_=>cases h
def Ii:List (Option (Nat×AW×Nat×Nat))->List Cl->List Cl
 |none::ks,y::l=>(match dyC y with
  |some z=>z.cl
  |none=>.dead)::Ii ks l
 |some (id,p,j,k)::ks,_::l=>.rp id p j k::Ii ks l
 |_,_=>[]
theorem IP:∀{ks:List (Option (Nat×AW×Nat×Nat))}{l:List Cl}{a rest:List Dy}{m:List (Nat×Nat)},MU ks l=some (a,m)->Hw ks (a++rest)=(Ii ks l,rest)
 |[],[],_,_,_,h=>by cases h;rfl
 |none::ks,y::l,a,rest,m,h=>by
  unfold MU at h;split at h
  case h_2=>cases h
  rename_i z J;split at h
  case h_2=>cases h
  rename_i A F e;cases h;have:=IP (rest:=rest) e
  show(z.cl::(Hw ks (A++rest)).1,(Hw ks (A++rest)).2)=((match dyC y with
   |some z=>z.cl
   |none=>.dead)::Ii ks l,rest)
  rw[this,J]
 |some (id,p,j,k)::ks,y::l,a,rest,m,h=>by
  unfold MU at h;split at h
  case h_1=>simp_all
  case h_2=>simp_all
  case h_4=>cases h
  rename_i M L;cases M;cases L;obtain⟨_,h⟩:=A7 h;split at h
  case h_2=>cases h
  rename_i A F e;cases h;have:=IP (rest:=rest) e;show(Cl.rp id p j k::(Hw ks (a++rest)).1,(Hw ks (a++rest)).2)=_;rw[this];rfl
 |[],_::_,_,_,_,h=>by cases h
 |none::_,[],_,_,_,h=>by cases h
 |some _::_,[],_,_,_,h=>by cases h
def Jd(k:LK)(y:Sl):Sl:=match k,y with
 |.val _ false,.one c=>(match dyC c with
  |some z=>.one z.cl
  |none=>.one .dead)
 |.val _ true,.agg l=>(match dyL l with
  |some m=>.agg (m.map Dy.cl)
  |none=>.one .dead)
 |.ref id,_=>.one (.rf id [])
 |.ptr id,_=>.one (.rp id [] 0 0)
 |.pth id _,.one (.rf _ p')=>.one (.rf id p')
 |.mrf id p,_=>.one (.rm id p)
 |.prp id p j k,_=>.one (.rp id p j k)
 |.fn g ks,.pk _ l=>.pk (.cl g) (Ii ks l)
 |_,_=>.one .dead
theorem Vn{k:LK}{m:List (Nat×Nat)}(h:Xs k y=some (a,m)):XB k (a++rest)=(Jd k y,rest):=by
 unfold Xs at h;split at h
 .split at h
  case h_2=>cases h
  rename_i z J;cases h;unfold XB Jd;simp[J]
 .rename_i n l
  obtain⟨e,h⟩:=A7 h;split at h
  case h_2=>cases h
  rename_i z J;cases h
  have A:∀(l:List Cl) (z:List Dy),dyL l=some z->z.length=l.length:=by
   intro l
   induction l with
   |nil=>intro z h;cases h;rfl
   |cons y l O=>
    intro z h;unfold dyL at h
    grind
  have U:=A l a J;have hn:=bqE e;unfold XB Jd
  grind
 .cases h;rfl
 .cases h;rfl
 .rename_i id p id' F
  obtain⟨e,h⟩:=A7 h;cases h;obtain⟨M,L⟩:=Ly p F rest e;show(Sl.one (.rf id (Vo p (dyP F++rest))),(dyP F++rest).drop p.length)=(Sl.one (.rf id F),rest);rw[M,L]
 .obtain⟨e,h⟩:=A7 h
  cases h;rfl
 .obtain⟨e,h⟩:=A7 h
  cases h;rfl
 .rename_i g ks W l
  obtain⟨e,h⟩:=A7 h;show(Sl.pk (.cl g) (Hw ks (a++rest)).1,(Hw ks (a++rest)).2)=(Sl.pk (.cl g) (Ii ks l),rest);rw[IP h]
 .cases h;rfl
 .cases h
def LM(t0 e:Nat->Sl):List Nat->(Nat->Sl)->Nat->Sl
 |[],t=>t
 |d::L,t=>LM t0 e L (AQ t d (Jd (lk (t0 d)) (e d)))
def Lz{t0 e:Nat->Sl}:∀(L:List Nat) (a rest:List Dy) (m:List (Nat×Nat)) (t:Nat->Sl),Vl t0 e L=some (a,m)->KV t0 L (a++rest) t=(LM t0 e L t,rest)
 |[],a,rest,m,t,h=>by cases h;rfl
 |d::L,a,rest,m,t,h=>by
  unfold Vl at h;split at h
  case h_2=>grind
  rename_i a1 M F;split at h
  case h_2=>grind
  rename_i a2 J A;cases h;unfold KV;rw[List.append_assoc,Vn F];exact Lz L a2 rest J _ A
theorem LJ{t0 e:Nat->Sl}:∀(L:List Nat) (t:Nat->Sl) (i:Nat),LM t0 e L t i=if L.contains i then Jd (lk (t0 i)) (e i)else t i
 |[],t,i=>rfl
 |d::L,t,i=>by
  unfold LM;rw[LJ L];by_cases A:L.contains i=true
  .grind
  .rw[if_neg A]
   by_cases hd:i=d
   .subst hd
    rw[if_pos (by simp)]
    unfold AQ;simp
   .have:(d::L).contains i=false:=by
     grind
    rw[this,Ba hd];rfl
def Bf(r':List Ac)(π:Nat->Nat):List Nat->List Ac->List Ac
 |[],r=>r
 |id::l,r=>Bf r' π l (r.set id (Yg (r'.getD (π id) .dead)))
def Lx{r0 r':List Ac}{π:Nat->Nat}:∀(Rh:List Nat) (a:List Dy) (r:List Ac),Rh.all (λi=>Aba (r0.getD i .dead) (r'.getD (π i) .dead))=true->Za r' π Rh=some a->Hv r0 Rh a r=Bf r' π Rh r
 |[],a,r,_,h=>rfl
 |id::l,a,r,hs,h=>by
  rw[List.all_cons,bAE]at hs;unfold Za at h;split at h
  case h_2=>grind
  rename_i a1 A;split at h
  case h_2=>grind
  rename_i a2 e;cases h;unfold Hv;rw[P0 hs.1 A];exact Lx l a2 _ hs.2 e
def LN{r':List Ac}{π:Nat->Nat}:∀(Rh:List Nat) (r:List Ac),(Bf r' π Rh r).length=r.length
 |[],_=>rfl
 |id::l,r=>by unfold Bf;rw[LN l,List.length_set]
def LP{r':List Ac}{π:Nat->Nat}:∀(Rh:List Nat) (r:List Ac) (i:Nat),i<r.length->(Bf r' π Rh r).getD i .dead=if Rh.contains i then Yg (r'.getD (π i) .dead)else r.getD i .dead
 |[],r,i,_=>rfl
 |id::l,r,i,hi=>by
  unfold Bf;rw[LP l _ i (by grind)]
  grind
def Aab(m:List (Nat×Nat))(L Rh:List Nat)(e s':St)(keep:Nat):Bool:=
 (List.range e.r.length).all (λi=>Nat.blt (piF m i) s'.r.length)&&
 (List.range e.r.length).all (λi=>(List.range e.r.length).all λj=>Nat.beq i j|| !Nat.beq (piF m i) (piF m j))&&
 (List.range e.r.length).all (λi=>Rh.contains i||Nat.beq (piF m i) i)&&
 Rh.all (λi=>Aba (e.r.getD i .dead) (s'.r.getD (piF m i) .dead))&&
 m.all (λp=>Nat.beq (piF m p.1) p.2&&Nat.blt p.1 e.r.length)&&
 (List.range keep).all (λi=>Nat.beq (piF m i) i)
def Ab1(L Rh:List Nat)(e s':St)(keep:Nat):Option (List Dy):=match Vl e.t s'.t L with
 |some (a,m)=>bif Aab m L Rh e s' keep then(match Za s'.r (piF m) Rh with
  |some c=>some (a++c)
  |none=>none)else none
 |none=>none
theorem Acb{z:Dy}(h:dyC c=some z):c.v r=z.cl.v r':=by
 unfold dyC at h;split at h
 case h_2=>grind
 rename_i t d x;cases e:(t.one&& !(Cl.c t d x).own)with
 |false=>grind
 |true=>
  rw[e]at h;cases h;simp[Bool.not_eq_true']at e
  cases t<;>cases d<;>first|rfl|(cases x with
   |none=>rfl
   |some _=>exact absurd e.2 (by intro h;cases h))|exact nomatch e.2|rfl
def JR(h:c.stay=true):Hd π n (c.v r) (c.v r'):=by
 cases c with
 |c t d x=>cases t<;>first|exact Hd.tyV0 (.clo _ _) x _ (List.mem_singleton.2 rfl)|(cases x<;>first|rfl|exact .inr (Sub.refl _))|exact ren_nr (λ_ _ _ _ h=>by cases h) (λ_ _ _ _ h=>by cases h) (λ_ _ _ h=>by cases h) (λ_ _ h=>by cases h)
 |dead=>exact .inl rfl
 |nil=>exact .inr (Sub.refl _)
 |nilp=>exact .inr (Sub.refl _)
 |nilf=>exact .inr (Sub.refl _)
 |nilm=>exact .inr (Sub.refl _)
 |_=>cases h
theorem YG(h:y.stay=true):Hd π n (y.v r) (y.v r'):=by
 have agg:∀l:List Cl,l.all Cl.stay=true->Hd π n (Aj (l.map (Cl.v r))) (Aj (l.map (Cl.v r'))):=by
  intro l h;refine ZV (by simp) λk e=>?_
  rw[AG (f:=Cl.v r) (a:=.dead) rfl,AG (f:=Cl.v r') (a:=.dead) rfl];have e:k<l.length:=by simpa using e
  refine JR (aET.1 h _ ?_)
  grind
 cases y with
 |one c=>exact JR h
 |new l=>exact .inr (Sub.refl _)
 |agg l=>exact agg l h
 |pk t l=>
  refine ZU (by simp) λk e=>?_
  rw[AG (f:=Cl.v r) (a:=.dead) rfl,AG (f:=Cl.v r') (a:=.dead) rfl];have e:k<l.length:=by simpa using e
  refine JR (aET.1 h _ ?_)
  grind
 |tup l=>
  refine Abj (by simp) λk e=>?_
  have e:k<l.length:=by simpa using e
  simp only[gDE,List.getElem?_map,gEE e,Option.map_some,Option.getD_some];have A:=aET.1 h l[k] (List.getElem_mem e);generalize l[k]=p at A;obtain⟨b,m⟩:=p;cases b with
  |true=>exact agg m A
  |false=>
   cases m with
   |nil=>exact .inl rfl
   |cons y m=>exact JR (by grind)
theorem PX{C:Ctx}{N:Nat}{ro:Bool}{b:List Oper}{L Rh:List Nat}{A s':St}{keep:Nat}{cs:List Dy}{a:Act}{w:World}(h:AU C N s'.den a w)(hg:Ab1 L Rh A s' keep=some cs)(hk:C.m<=keep)(hk0:C.m<=A.r.length)
  (ht:∀i,L.contains i=false->Au b i=true->(A.t i).stay=true->s'.t i=A.t i)
  (hr:∀id,id<A.r.length->Rh.contains id=false->(s'.r.getD id .dead).v=(A.r.getD id .dead).v/\(s'.r.getD id .dead).len=(A.r.getD id .dead).len)
  (hq:∀id,id<A.r.length->Rh.contains id=false->∀q:AW,((s'.r.getD id .dead).at' q).len=((A.r.getD id .dead).at' q).len):AU C N (BD ro b L Rh A cs).den a w:=by
 unfold Ab1 at hg;split at hg
 case h_2=>cases hg
 rename_i av m Z;obtain⟨hok,hg⟩:=A7 hg;split at hg
 case h_2=>cases hg
 rename_i cv hgr;cases hg;unfold Aab at hok;simp only[bAE]at hok;obtain⟨⟨⟨⟨⟨o1,o2⟩,o3⟩,o4⟩,o5⟩,o6⟩:=hok
 let base:Nat->Sl:=λi=>bif Au b i&&(A.t i).stay then A.t i else .one .dead
 let r0:List Ac:=bif ro then A.r.map BH else A.r
 have hr0l:r0.length=A.r.length:=by cases ro<;>simp[r0]
 have hr0g:∀i,(r0.getD i .dead).v=(A.r.getD i .dead).v/\(r0.getD i .dead).len=(A.r.getD i .dead).len:=by
  intro i;cases ro with
  |false=>exact⟨rfl,rfl⟩
  |true=>
   have e:r0.getD i .dead=BH (A.r.getD i .dead):=by
    show(A.r.map BH).getD i .dead=_;simp only[gDE,List.getElem?_map];cases A.r[i]? <;>rfl
   rw[e];exact Ml _
 have hT:BD ro b L Rh A (av++cv)=⟨LM A.t s'.t L base,Bf s'.r (piF m) Rh r0⟩:=by
  show(⟨(KV A.t L (av++cv) base).1,Hv A.r Rh (KV A.t L (av++cv) base).2 r0⟩:St)=_;rw[Lz L av cv m base Z];simp only;rw[Lx Rh cv r0 o4 hgr]
 rw[hT];have hlen:(Bf s'.r (piF m) Rh r0).length=A.r.length:=by rw[LN,hr0l]
 have J:((Bf s'.r (piF m) Rh r0).map Ac.v).length=A.r.length:=by rw[List.length_map,hlen]
 have hget:∀i,i<A.r.length->(Bf s'.r (piF m) Rh r0).getD i .dead=if Rh.contains i then Yg (s'.r.getD (piF m i) .dead)else r0.getD i .dead:=λi O=>LP Rh r0 i (by rw[hr0l];exact O)
 have hgv:∀i,i<A.r.length->((Bf s'.r (piF m) Rh r0).getD i .dead).v=(s'.r.getD (piF m i) .dead).v/\((Bf s'.r (piF m) Rh r0).getD i .dead).len=(s'.r.getD (piF m i) .dead).len:=by
  intro i O;rw[hget i O];cases hc:Rh.contains i with
  |true=>simp only[if_true];exact unRo_v _
  |false=>
   simp only[Bool.false_eq_true,if_false];have:=aET.1 o3 i (List.mem_range.2 O);rw[hc,Bool.false_or]at this;rw[bqE this,(hr0g i).1,(hr0g i).2,(hr i O hc).1,(hr i O hc).2];exact⟨rfl,rfl⟩
 have hgq:∀i,i<A.r.length->∀q:AW,(((Bf s'.r (piF m) Rh r0).getD i .dead).at' q).len=((s'.r.getD (piF m i) .dead).at' q).len:=by
  intro i O q;rw[hget i O];cases hc:Rh.contains i with
  |true=>simp only[if_true];exact Zz q _ _ (Yx _)
  |false=>
   simp only[Bool.false_eq_true,if_false];have:=aET.1 o3 i (List.mem_range.2 O);rw[hc,Bool.false_or]at this;rw[bqE this,hq i O hc q];refine Zz q _ _ ?_;cases ro with
   |false=>rfl
   |true=>
    have e:r0.getD i .dead=BH (A.r.getD i .dead):=by
     show(A.r.map BH).getD i .dead=_;simp only[gDE,List.getElem?_map];cases A.r[i]? <;>rfl
    rw[e];exact JL _
 refine h.perm (π:=piF m) (λi O=>?_) (λi j O hj he=>?_) (λi O=>?_) (λi O=>?_) ?_ λi=>?_
 .have O:i<A.r.length:=by rw[<-J];exact O
  show _<(s'.r.map Ac.v).length;rw[List.length_map];exact blE (aET.1 o1 i (List.mem_range.2 O))
 .have O:i<A.r.length:=by rw[<-J];exact O
  have hj:j<A.r.length:=by rw[<-J];exact hj
  have:=aET.1 (aET.1 o2 i (List.mem_range.2 O)) j (List.mem_range.2 hj);rw[he,Nat.beq_refl,Bool.or_eq_true]at this;rcases this with h|h
  .exact bqE h
  .cases h
 .have O:i<A.r.length:=by rw[<-J];exact O
  show Sub ((s'.r.map Ac.v).getD (piF m i) .dead) (((Bf s'.r (piF m) Rh r0).map Ac.v).getD i .dead);rw[Aq,Aq,(hgv i O).1];exact Sub.refl _
 .exact bqE (aET.1 o6 i (List.mem_range.2 (Nat.lt_of_lt_of_le O hk)))
 .show C.m<=((Bf s'.r (piF m) Rh r0).map Ac.v).length
  rw[J];exact hk0
 .show Hd (piF m) ((Bf s'.r (piF m) Rh r0).map Ac.v).length ((s'.t i).v s'.r) ((LM A.t s'.t L base i).v (Bf s'.r (piF m) Rh r0))
  rw[LJ,J];cases hc:L.contains i with
  |false=>
   simp only[Bool.false_eq_true,if_false];show Hd _ _ _ ((bif Au b i&&(A.t i).stay then A.t i else .one .dead:Sl).v _);cases Y:(Au b i&&(A.t i).stay)with
   |false=>exact Hd.dead _ _ _
   |true=>
    rw[bAE]at Y;rw[ht i hc Y.1 Y.2];exact YG Y.2
  |true=>
   simp only[if_true]
   -- the slot's own part of what was grabbed
   have hpart:∀(L:List Nat) (av:List Dy) (m0:List (Nat×Nat)),Vl A.t s'.t L=some (av,m0)->L.contains i=true->∃a1 m1,Xs (lk (A.t i)) (s'.t i)=some (a1,m1)/\∀p∈m1,p∈m0:=by
    intro L
    induction L with
    |nil=>intro av m0 _ h;cases h
    |cons d L ih=>
     intro av m0 Z hc;unfold Vl at Z;split at Z
     case h_2=>cases Z
     rename_i a1 b1 M;split at Z
     case h_2=>cases Z
     rename_i a2 b2 h2;cases Z;by_cases hd:i=d
     .subst hd
      exact⟨a1,b1,M,λp F=>List.mem_append_left _ F⟩
     .have:L.contains i=true:=by
       rw[List.contains_cons]at hc;have hne:(i==d)=false:=by simpa using hd
       rw[hne,Bool.false_or]at hc;exact hc
      obtain⟨a3,m3,h3,h4⟩:=ih a2 b2 h2 this;exact⟨a3,m3,h3,λp F=>List.mem_append_right _ (h4 p F)⟩
   obtain⟨a1,m1,M,hm1⟩:=hpart L av m Z hc;generalize lk (A.t i)=k at M;generalize s'.t i=y at M;unfold Xs at M;split at M
   .rename_i c
    split at M
    case h_2=>cases M
    rename_i z hz;unfold Jd;simp only[hz];have e:=Acb (r:=s'.r) (r':=Bf s'.r (piF m) Rh r0) hz;show Hd _ _ (c.v s'.r) (z.cl.v (Bf s'.r (piF m) Rh r0));rw[e];exact JR (r:=Bf s'.r (piF m) Rh r0) (r':=Bf s'.r (piF m) Rh r0) (c:=z.cl) rfl
   .rename_i n l
    obtain⟨Y,M⟩:=A7 M;split at M
    case h_2=>cases M
    rename_i z hz;unfold Jd;simp only[hz]
    have key:∀(l:List Cl) (z:List Dy),dyL l=some z->l.map (Cl.v s'.r)=(z.map Dy.cl).map (Cl.v (Bf s'.r (piF m) Rh r0)):=by
     intro l
     induction l with
     |nil=>intro z h;cases h;rfl
     |cons y l ih=>
      intro z h;unfold dyL at h;split at h
      case h_2=>cases h
      rename_i z1 hz1;split at h
      case h_2=>cases h
      rename_i z2 hz2;cases h;simp only[List.map_cons];rw[Acb hz1,ih z2 hz2]
    show Hd _ _ (Aj (l.map (Cl.v s'.r))) (Aj ((z.map Dy.cl).map (Cl.v (Bf s'.r (piF m) Rh r0))));rw[key l z hz];refine ZV rfl λk hk=>?_
    rw[AG (f:=Cl.v (Bf s'.r (piF m) Rh r0)) (a:=.dead) rfl];cases hx:(z.map Dy.cl)[k]? with
    |none=>simp only[gDE,hx];exact .inl rfl
    |some x=>
     simp only[gDE,hx,Option.getD_some];obtain⟨u,_,hu⟩:=List.mem_map.1 (List.mem_of_getElem? hx);rw[<-hu];exact JR (c:=u.cl) rfl
   .rename_i id id'
    cases M;have F:=aET.1 o5 (id,id') (hm1 _ (List.mem_singleton.2 rfl));rw[bAE]at F;have U:piF m id=id':=bqE F.1;have W:id<A.r.length:=blE F.2;refine .inr ⟨id,W,U,?_⟩;show V.rs id [] 0 ((Bf s'.r (piF m) Rh r0).getD id .dead).len=V.rs id [] 0 (s'.r.getD id' .dead).len;rw[(hgv id W).2,U]
   .rename_i id id'
    cases M;have F:=aET.1 o5 (id,id') (hm1 _ (List.mem_singleton.2 rfl));rw[bAE]at F;have U:piF m id=id':=bqE F.1;have W:id<A.r.length:=blE F.2;exact .inr ⟨id,W,U,rfl⟩
   .rename_i id p id' p'
    obtain⟨Y,M⟩:=A7 M;cases M;have F:=aET.1 o5 (id,id') (hm1 _ (List.mem_singleton.2 rfl));rw[bAE]at F;have U:piF m id=id':=bqE F.1;have W:id<A.r.length:=blE F.2;refine .inr ⟨id,W,U,?_⟩;show V.rs id p' 0 (((Bf s'.r (piF m) Rh r0).getD id .dead).at' p').len=V.rs id p' 0 ((s'.r.getD id' .dead).at' p').len;rw[hgq id W p',U]
   .rename_i id p id' p'
    obtain⟨Y,M⟩:=A7 M;cases M;have F:=aET.1 o5 (id,id') (hm1 _ (List.mem_singleton.2 rfl));rw[bAE]at F;have U:piF m id=id':=bqE F.1;have W:id<A.r.length:=blE F.2;rw[<-OR p p' Y];exact .inr ⟨id,W,U,rfl⟩
   .rename_i id p j k id' p' j' k'
    obtain⟨Y,M⟩:=A7 M;cases M;simp only[bAE]at Y;have F:=aET.1 o5 (id,id') (hm1 _ (List.mem_singleton.2 rfl));rw[bAE]at F;have U:piF m id=id':=bqE F.1;have W:id<A.r.length:=blE F.2;rw[<-OR p p' Y.1.1,<-bqE Y.1.2,<-bqE Y.2];exact .inr ⟨id,W,U,rfl⟩
   .rename_i g ks g' l
    obtain⟨Y,hk1⟩:=A7 M;have hg:=bqE Y;subst hg
    have key:∀(ks:List (Option (Nat×AW×Nat×Nat))) (l:List Cl) (a:List Dy) (m1:List (Nat×Nat)),MU ks l=some (a,m1)->(∀p∈m1,p∈m)->(Ii ks l).length=l.length/\∀k,Hd (piF m) A.r.length ((l.map (Cl.v s'.r)).getD k .dead) (((Ii ks l).map (Cl.v (Bf s'.r (piF m) Rh r0))).getD k .dead):=by
     intro ks
     induction ks with
     |nil=>
      intro l a m1 h _;cases l with
      |nil=>exact⟨rfl,λk=>Hd.dead _ _ _⟩
      |cons y l=>cases h
     |cons x ks ih=>
      intro l a m1 h hm;cases l with
      |nil=>cases x<;>cases h
      |cons y l=>
       cases x with
       |none=>
        unfold MU at h;split at h
        case h_2=>cases h
        rename_i z hz;split at h
        case h_2=>cases h
        rename_i a2 m2 h2;cases h;obtain⟨i1,i2⟩:=ih l a2 _ h2 hm;refine⟨congrArg (· +1) i1,λk=>?_⟩
        cases k with
        |zero=>
         show Hd _ _ (y.v s'.r) ((match dyC y with
          |some z=>z.cl
          |none=>.dead:Cl).v _)
         rw[hz];show Hd _ _ (y.v s'.r) (z.cl.v _);rw[Acb (r:=s'.r) (r':=Bf s'.r (piF m) Rh r0) hz];exact JR (r:=Bf s'.r (piF m) Rh r0) (r':=Bf s'.r (piF m) Rh r0) (c:=z.cl) rfl
        |succ k=>exact i2 k
       |some x=>
        obtain⟨id,p,j,k0⟩:=x;unfold MU at h;split at h
        case h_1=>simp_all
        case h_2=>simp_all
        case h_4=>cases h
        rename_i e1 e2;cases e1;cases e2;obtain⟨Y,h⟩:=A7 h;split at h
        case h_2=>cases h
        rename_i a2 m2 h2;cases h;obtain⟨i1,i2⟩:=ih l _ m2 h2 λp F=>hm p (mCM _ F)
        refine⟨congrArg (· +1) i1,λk=>?_⟩
        cases k with
        |zero=>
         simp only[bAE]at Y;have F:=aET.1 o5 _ (hm _ (List.mem_cons_self ..));rw[bAE]at F;rw[<-OR _ _ Y.1.1,<-bqE Y.1.2,<-bqE Y.2];exact .inr ⟨id,blE F.2,bqE F.1,rfl⟩
        |succ k=>exact i2 k
    obtain⟨i1,i2⟩:=key ks l a1 m1 hk1 hm1;show Hd _ _ (pkL (.cl g) (l.map (Cl.v s'.r))) (pkL (.cl g) ((Ii ks l).map (Cl.v (Bf s'.r (piF m) Rh r0))));exact ZU (by simp[i1]) λk _=>i2 k
   .unfold Jd
    exact Hd.dead _ _ _
   .cases M
end Go.Ve

