/- The typed machine: a region that draws its order; code. -/
import Derived.Test.YteakdlfnmhlifaaTk
open Array(replicate)
open List(mem_map range mem_filterMap mem_singleton getElem?_map mem_range)
open Bool(or_eq_true not_eq_true' false_eq_true)
open Nat(beq blt)
set_option linter.all false
namespace Go.Ve
variable{a:Act}{ops:Array Oper}{C:Ctx}{E:Env}{B:List (Nat×Nat)}{i n:Nat}{P:Program}{s:St}{R:Type}{w:World}
theorem vdrawB{C:Ctx}{h:Cd}{id:Nat}{Q:Exit->Act->World->Prop}{σ:List V}{t0:Nat->V}{X:Nat->Prop}(B:List (Nat×Nat))(n:Nat)(fs:List Nat){Kt:(Nat->V)->Prop}{a:Act}{w:World}(hm:P.follows .mixedOrders=true)(U:QOK ops n)
  (hv:vq P h ops σ (ops.toList.take n) Kt t0) (hX:∀x,X x->∀j,AF ops j≠some x) (hB1:(B.map (·.1)).Nodup) (hB2:(B.map (·.2)).Nodup) (hB3:∀p∈B,p.1<h.n/\p.2<σ.length/\σ.getD p.2 .dead=.dead/\∀j,AF ops j≠some p.1)
  (hKt:∀Q':Exit->Act->World->Prop,(∀a w,Q .normal a w->Q' .normal a w)->∀t a w,Kt t->(∀x,X x->x∈B.map (·.1)\/AK (t x)=false)/\(∀p∈B,Ld (t p.1))/\(AN C h.n (promA ((ops.toList.take n).map (·.dst)) (backs B ⟨t,σ⟩)) a w->wpList P ops Q' (ops.toList.drop n) a w))
  (hr:Vj ops n\/(FLS ops n fs/\FlT P ops fs/\∀t a w,Kt t->AN C h.n (promA ((ops.toList.take n).map (·.dst)) (backs B ⟨t,σ⟩)) a w->FlH P ops n fs a w))
  (hp0:∃D ρ F T,PR C h.n σ ρ F t0 a {w with drawn:=w.drawn+1} D T/\(∀x b,T x b->X x)/\∀p∈B,a.tmps.getD p.1 undef=ρ p.2):(Code.region id ops true).wp P Q a w:=by
 refine wp_region_any hm ?_;obtain⟨r,m,J,hK⟩:=ZA (n:=n) (t0:=t0) (K:=Kt) U.le U n 0 (λ_=>.dead) (λ_=>[]) (by omega) (by simpa [Ce]using hv) (λj hj=>by omega)
 have O:HeadInv .any ops n (replicate ops.size false):=
  ⟨by simp,λj oj _ W=>(by rw[getD_replicate_false]at W;cases W),λt _ ht=>getD_in (by simpa using ht) (getD_replicate_false _ _)⟩
 obtain⟨D,ρ,F,T,u,hTX,hBv⟩:=hp0
 have hpt:∀x,pt ops n r m t0 (replicate ops.size false) x=t0 x\/(pt ops n r m t0 (replicate ops.size false) x=.dead/\∃k,AF ops k=some x):=by
  intro x;unfold pt;cases Z:CJ ops n x with
  |none=>exact .inl (Im n λi _ hs=>by rw[getD_replicate_false]at hs;cases hs)
  |some k=>
   right;show(if(replicate ops.size false).getD k false=true then _ else V.dead)=_/\_
   rw[getD_replicate_false];exact⟨rfl,k,(Bk Z).2⟩
 have hp1:PR C h.n σ ρ F (pt ops n r m t0 (replicate ops.size false)) a {w with drawn:=w.drawn+1} D T:=by
  refine⟨u.df,u.sz,λx hx=>?_,u.wr,λx hx=>?_,u.tD,u.tF,u.tT,u.tn,u.fr,u.Fn,u.D1,u.D2,u.rt,u.ml,u.tx⟩
  .rcases hpt x with e|e
   .rw[e];exact u.dd x hx
   .exact e.1
  .rcases hpt x with e|⟨e,k,hk⟩
   .rw[e];exact u.tm x hx
   .rw[e]
    exact λb hb=>hX x (hTX x b hb) k hk
 have H:∀a1 w D T,PR C h.n σ ρ F (Ce ops r m t0 n) a1 w D T->(∀x b,T x b->QQ ops n X x)->(∀x,(∀i,i<n->AF ops i≠some x)->a1.tmps[x]? =a.tmps[x]?)->AN C h.n (promA ((ops.toList.take n).map (·.dst)) (backs B ⟨Ce ops r m t0 n,σ⟩)) a1 w:=by
  intro a1 w D T u hT hA;obtain⟨hfree,hobj,_⟩:=hKt Q (λ_ _ h=>h) _ a1 w hK
  obtain⟨F',T',hp',hT'⟩:=PR.backs B _ _ _ _ u hB1 hB2 λp Y=>by
   obtain⟨g1,g2,g3,g4⟩:=hB3 p Y;refine⟨g1,g2,g3,?_,hobj p Y⟩;rw[<-hBv p Y,Array.getD_eq_getD_getElem?,Array.getD_eq_getD_getElem?,hA p.1 λi _=>g4 i]
  refine PR.close _ _ _ _ _ _ hp' λx b Z=>?_
  obtain⟨Z,hxB⟩:=hT' x b Z;rcases hT x b Z with⟨i,hi,hd⟩|hx
  .obtain⟨oi,hoi,_⟩:=U.dst i hi
   refine mem_map.2 ⟨oi,?_,by simpa [AF,hoi]using hd⟩
   refine List.mem_of_getElem? (i:=i) ?_;rw[List.getElem?_take,if_pos hi,Array.getElem?_toList];exact hoi
  .exfalso
   by_cases hxn:x<h.n
   .exact AC _ _ _ ((hfree x hx).resolve_left hxB) (u.tm x hxn) b Z
   .exact u.tx x b (Nat.le_of_not_lt hxn) Z
 have hfu:unl (replicate ops.size false) n+(ops.size-n)<=ops.size:=by
  have:unl (replicate ops.size false) n<=n:=by
   unfold unl;have:=List.countP_le_length (p:=λi=>!(replicate ops.size false).getD i true) (l:=range n)
   simpa using this
  have:=U.le;omega
 have A:∀Q':Exit->Act->World->Prop,(∀a w,Q .normal a w->Q' .normal a w)->∀a1 w D T,PR C h.n σ ρ F (Ce ops r m t0 n) a1 w D T->(∀x b,T x b->QQ ops n X x)->(∀x,(∀i,i<n->AF ops i≠some x)->a1.tmps[x]? =a.tmps[x]?)->wpList P ops Q' (ops.toList.drop n) a1 w:=λQ' hQ' a1 w D T u hT hA=>(hKt Q' hQ' _ a1 w hK).2.2 (H a1 w D T u hT hA)
 rcases hr with htl|⟨fl,hft,hfh⟩
 .exact Adf (X:=X) (a0:=a) U htl (Abt U J) J (A Q λ_ _ h=>h) (A (QN Q) λ_ _ h=>⟨rfl,h⟩) ops.size _ a _ D T O hfu hp1 (λx b hb=>.inr (hTX x b hb)) (λ_ _=>rfl) (λj _ W=>by rw[getD_replicate_false]at W;cases W)
 .exact AaB (X:=X) (a0:=a) U fl hft.keep (Abt U J) J (A Q λ_ _ h=>h) (A (QN Q) λ_ _ h=>⟨rfl,h⟩) (λa1 w D T u hT hA=>hfh _ a1 w hK (H a1 w D T u hT hA)) ops.size _ a _ D T O hfu hp1 (λx b hb=>.inr (hTX x b hb)) (λ_ _=>rfl) (λj _ W=>by rw[getD_replicate_false]at W;cases W)
def Ql(l:List Oper)(s:St):Bool:=l.all λo=>match o.dst with
 |some d=>!(s.t d).own||(s.t d).stay
 |none=>true
def Ll(E:Env)(ops:Array Oper)(o:Oper):Option Nat:=match o.op with
 |.assign (.tmp y)=>bif dX E y then some y else none
 |.move (.tmp y)=>bif dX E y then some y else none
 |.store _ (.tmp y) _=>bif dX E y then some y else none
 |op=>match IV op with
  |some (f,xs)=>match Kk E.U f with
   |some e=>match xs.toList[e.S.k]? with
    |some (.tmp z)=>match alS E.h ops o z with
     |some y=>some y
     |none=>bif dX E z then some z else none
    |_=>none
   |none=>none
  |none=>none
theorem ZL{o:Oper}{y:Nat}(h:((dX E y&&(Kh o y||stB o y))||ucB E ops o y)=true):Ll E ops o=some y:=by
 rw[or_eq_true]at h;rcases h with h|h
 .rw[bAE]at h
  obtain⟨W,h⟩:=h;rw[or_eq_true]at h;rcases h with h|h
  .unfold Kh at h
   unfold Ll;split at h
   .simp_all
   .simp_all
   .cases h
  .unfold stB at h
   unfold Ll;split at h
   .simp_all
   .cases h
 .unfold ucB at h
  split at h
  case h_2=>cases h
  rename_i f xs A;split at h
  case h_2=>cases h
  rename_i e J;split at h
  case h_2=>cases h
  rename_i z F;obtain⟨O,u⟩:=Vd A;rw[u]at A;unfold Ll;rw[u];simp only[A,J,F];cases H:alS E.h ops o z with
  |some U=>
   simp_all
  |none=>
   rw[H]at h;have h:(dX E z&&beq z y)=true:=h;rw[bAE]at h;rw[h.1,bqE h.2];rfl
def yL(E:Env)(ops:Array Oper):List Nat:=(ops.toList.filterMap λo=>match Ll E ops o with
 |some y=>bif Hs ops y then some y else none
 |none=>none).eraseDups
def yOK(E:Env)(ops:Array Oper):Bool:=ops.toList.all λo=>match Ll E ops o with
 |some y=>Hs ops y
 |none=>true
def goneB(E:Env)(ops:Array Oper)(o:Oper)(y:Nat):Bool:=(dX E y&&Kh o y)||(match IV o.op with
 |some (f,xs)=>match Kk E.U f with
  |some e=>e.S.eat&&(match xs.toList[e.S.k]? with
   |some (.tmp z)=>(match alS E.h ops o z with
    |some u=>beq u y
    |none=>dX E z&&beq z y)
   |_=>false)
  |none=>false
 |none=>false)
def bL(E:Env)(ops:Array Oper)(s:St):List (Nat×Nat):=(yL E ops).filterMap λy=>bif ops.toList.any (λo=>goneB E ops o y)then none else match Cm s y with
 |some id=>some (y,id)
 |none=>none
def bOK(n:Nat)(ops:Array Oper)(B:List (Nat×Nat))(s:St):Bool:=ndB (B.map (·.1))&&ndB (B.map (·.2))&&B.all λp=>blt p.1 n&&blt p.2 s.r.length&&Hs ops p.1&&(match s.r.getD p.2 .dead with
 |.dead=>true
 |_=>false)
def Lk{R:Type}(E:Env)(n:Nat)(ops:Array Oper)(B:List (Nat×Nat))(chk:Bool)(tail:St->(St->Option R)->Option R)(s:St)(K:St->Option R):Option R:=
 bif chk&&yOK E ops&&bOK E.h.n ops B s then
  WF E true ops (Zr n (ops.toList.take n)) s λs1=>
   bif Ql (ops.toList.take n) s1&&(yL E ops).all (λy=>(B.map (·.1)).contains y|| !(s1.t y).own)&&B.all (λp=>H9 (s1.t p.1))then tail ((s1.backs B).promA ((ops.toList.take n).map (·.dst))) K else none
 else none
def needL(ops:Array Oper)(n:Nat):List Nat:=(range n).reverse.foldl (λe i=>bif e.any λj=>Region.waitsFor .any ops j i then i::e else e) [n]
def Wf(ops:Array Oper)(n:Nat):List Nat:=(range n).filter λi=>!(needL ops n).contains i
def Ace{R:Type}(E:Env)(ops:Array Oper)(n:Nat)(fs:List Nat)(s:St)(K:St->Option R):Option R:=match ops.toList.drop n with
 |[o1,o2,o3]=>bif o1.guard.isNone&&o2.guard.isNone&&o3.guard.isNone then(match Xd E s (fs.filterMap λf=>ops[f]?) o1 o2 o3 with
  |some A=>oif A.p A.dec (K A.s)
  |none=>none)else none
 |_=>none
def NY{R:Type}(E:Env)(n:Nat)(ops:Array Oper)(B:List (Nat×Nat))(s:St)(K:St->Option R):Option R:=
 bif Iy ops n then Lk E n ops B true (λs K=>tops E ops (Zr ops.size (ops.toList.drop n)) s K) s K
 else Lk E n ops B (Ur ops n&&flsB ops n (Wf ops n)&&flT E ops (Wf ops n)) (Ace E ops n (Wf ops n)) s K
def Kg{a b:List Oper}:Au (a++b) i=(Au a i&&Au b i):=by
 unfold Au;simp
theorem yB_mem(e:yOK E ops=true)(h:yB E ops i=true):i∈yL E ops:=by
 obtain⟨o,u,A⟩:=List.any_eq_true.1 h;have H:=aET.1 e o u;have F:=ZL A;refine List.mem_eraseDups.2 (mem_filterMap.2 ⟨o,u,?_⟩)
 grind
theorem yL_nd(h:i∈yL E ops):∀j,AF ops j≠some i:=by
 obtain⟨o,_,e⟩:=mem_filterMap.1 (List.mem_eraseDups.1 h);split at e
 .rename_i y A
  cases u:Hs ops y with
  |false=>grind
  |true=>
   rw[u]at e;cases e;exact CK u
 grind
theorem bOKn{K:St->Option R}{z:R}(h:NY E n ops B s K=some z):∀p∈B,p.1<E.h.n:=by
 have key:∀(chk:Bool) (tail:St->(St->Option R)->Option R),Lk E n ops B chk tail s K=some z->∀p∈B,p.1<E.h.n:=by
  intro chk tail h p u;unfold Lk at h;cases e:bOK E.h.n ops B s with
  |false=>grind
  |true=>
   unfold bOK at e;rw[bAE]at e;have:=aET.1 e.2 p u;simp only[bAE]at this;exact blE this.1.1.1
 unfold NY at h
 grind
theorem NX{C:Ctx}(hE:EOK P E)(hm:P.follows .mixedOrders=true){id n:Nat}{ops:Array Oper}{B:List (Nat×Nat)}{s:St}{K:St->Option R}{z:R}{a:Act}{w:World}{Q:Exit->Act->World->Prop}
  (hpr:∃D ρ F T,PR C E.h.n s.den.σ ρ F s.den.t a {w with drawn:=w.drawn+1} D T/\(∀x b,T x b->x∈yL E ops)/\∀p∈B,a.tmps.getD p.1 undef=ρ p.2)
  {chk:Bool}{tail:St->(St->Option R)->Option R}{fs:List Nat} (h:Lk E n ops B chk tail s K=some z) (hqk:chk=true->QOK ops n)
  (htail:∀(Q':Exit->Act->World->Prop) (s2:St) (a:Act) (w:World),AN C E.h.n s2.den a w->tail s2 K=some z->(∀s' a' w',Kp (Au (ops.toList.drop n)) s2 s'->AN C E.h.n s'.den a' w'->K s'=some z->Q' .normal a' w')->wpList P ops Q' (ops.toList.drop n) a w)
  (hr:chk=true->Vj ops n\/(FLS ops n fs/\FlT P ops fs/\∀(s2:St) (a:Act) (w:World),AN C E.h.n s2.den a w->tail s2 K=some z->FlH P ops n fs a w))
  (hK:∀s' a' w',(∀i,(Au ops.toList i&& !(yL E ops).contains i)=true->(∀p∈B,p.1≠i)->(s.t i).stay=true->s'.t i=s.t i)->(∀id,id<s.r.length->(∀p∈B,p.2≠id)->(s.r.getD id .dead).isRo=true->s'.r.getD id .dead=s.r.getD id .dead)->s.r.length<=s'.r.length->AN C E.h.n s'.den a' w'->K s'=some z->Q .normal a' w'):(Code.region id ops true).wp P Q a w:=by
 unfold Lk at h;obtain⟨U,h⟩:=A1 h;rw[bAE,bAE]at U;obtain⟨⟨U,hyk⟩,hbk⟩:=U;unfold bOK at hbk;rw[bAE,bAE]at hbk;obtain⟨⟨hb1,hb2⟩,hb3⟩:=hbk;have hB:∀p∈B,p.1<E.h.n/\p.2<s.r.length/\Hs ops p.1=true/\s.r.getD p.2 .dead=.dead:=by
  intro p Z;have:=aET.1 hb3 p Z;simp only[bAE]at this;obtain⟨⟨⟨g1,g2⟩,g3⟩,g4⟩:=this;refine⟨blE g1,blE g2,g3,?_⟩;split at g4
  .assumption
  .cases g4
 let K1:St->Option R:=λs1=>bif Ql (ops.toList.take n) s1&&(yL E ops).all (λy=>(B.map (·.1)).contains y|| !(s1.t y).own)&&B.all (λp=>H9 (s1.t p.1))then tail ((s1.backs B).promA ((ops.toList.take n).map (·.dst))) K else none
 have hv:=ZI hE (ops:=ops) (K:=K1) (z:=z) (Kt:=λt=>∃s1:St,s1.r=s.r/\(∀i,Au ops.toList i=true->yB E ops i=false->s1.t i=s.t i)/\VLe t s1.den.t/\K1 s1=some z) (Zr n (ops.toList.take n)) s s.den.t (λo ho=>by rw[Ck]at ho;exact List.mem_of_mem_take ho) (λi=>.inl rfl) h
  (λs' t' Y h2 h3 h4=>⟨s',Y,h2,h3,h4⟩)
 rw[Ck]at hv
 have W:∀t,(∃s1:St,s1.r=s.r/\(∀i,Au ops.toList i=true->yB E ops i=false->s1.t i=s.t i)/\VLe t s1.den.t/\K1 s1=some z)->∃s1:St,s1.r=s.r/\(∀i,Au ops.toList i=true->yB E ops i=false->s1.t i=s.t i)/\tail ((s1.backs B).promA ((ops.toList.take n).map (·.dst))) K=some z/\
   (∀x,x∈yL E ops->x∈B.map (·.1)\/AK (t x)=false)/\(∀p∈B,Ld (t p.1))/\∀a1 w1,AN C E.h.n (promA ((ops.toList.take n).map (·.dst)) (backs B ⟨t,s.den.σ⟩)) a1 w1->AN C E.h.n ((s1.backs B).promA ((ops.toList.take n).map (·.dst))).den a1 w1:=by
  rintro t ⟨s1,A,ht1,hvl,u⟩
  have u:(bif Ql (ops.toList.take n) s1&&(yL E ops).all (λy=>(B.map (·.1)).contains y|| !(s1.t y).own)&&B.all (λp=>H9 (s1.t p.1))then tail ((s1.backs B).promA ((ops.toList.take n).map (·.dst))) K else none)=some z:=u
  obtain⟨ho,u⟩:=A1 u;rw[bAE,bAE]at ho;obtain⟨⟨ho,hyo⟩,hro⟩:=ho
  have O:∀p∈B,H9 (s1.t p.1)=true/\t p.1=s1.den.t p.1:=by
   intro p Z;have Y:=aET.1 hro p Z;refine⟨Y,?_⟩;rcases hvl p.1 with e|e
   .exact e
   .obtain⟨_,h3,⟨s0,sz,nn,f,h4,_⟩,_⟩:=CA Y
    have e1:(s1.t p.1).v s1.r=.dead:=e.1;rw[h3,h4]at e1;cases e1
  refine⟨s1,A,ht1,u,λx hx=>?_,λp Z=>?_,λa1 w1 J=>?_⟩
  .have Y:=aET.1 hyo x hx
   rw[or_eq_true]at Y;rcases Y with Y|Y
   .exact .inl (by simpa using Y)
   right
   have h2:AK (s1.den.t x)=false:=by
    show AK ((s1.t x).v s1.r)=false;rw[Sl.own_v];simpa using Y
   rcases hvl x with e|e
   .rw[e];exact h2
   .exact e.2
  .obtain⟨g1,g2⟩:=O p Z
   rw[g2];show Ld ((s1.t p.1).v s1.r);rw[(CA g1).2.1];exact(CA g1).2.2.1
  have hP:Aa5 ((ops.toList.take n).map (·.dst)) ⟨t,s.den.σ⟩ s1:=by
   refine⟨by show s.r.map Ab.v=s1.r.map Ab.v;rw[A],λi=>?_,λi hi=>⟨λhoi=>?_,?_⟩⟩
   .rcases hvl i with e|e
    .show An (t i) _
     rw[e];exact An.refl _
    .rw[e.1];exact An.dead _
   .obtain⟨o,ho1,ho2⟩:=mem_map.1 hi
    have:=aET.1 ho o ho1;rw[ho2]at this;simp only[or_eq_true,not_eq_true']at this;rcases this with h|h
    .rw[hoi]at h;cases h
    .exact h
   .rcases hvl i with e|e
    .exact .inl e
    .right
     refine⟨?_,e.2⟩
     have:AK ((s1.t i).v s1.r)=false:=by
      show AK (s1.den.t i)=false;rw[e.1];rfl
     rw[Sl.own_v]at this;exact this
  have hP2:=KT B _ _ hP (D4 hb1) λp Z=>by
   obtain⟨g1,g2⟩:=O p Z;obtain⟨_,k2,k3,_⟩:=hB p Z;refine⟨λhm=>?_,by rw[A];exact k2,g2,g1⟩
   obtain⟨o,ho1,ho2⟩:=mem_map.1 hm;obtain⟨j,hj⟩:=List.mem_iff_getElem?.1 (List.mem_of_mem_take ho1);refine CK k3 j ?_;unfold AF;rw[<-Array.getElem?_toList,hj];exact ho2
  obtain⟨g1,g2⟩:=J8 _ _ _ hP2;exact J.sub (by rw[g2]) (λi _=>by rw[g2];exact Sub.refl _) g1
 refine vdrawB (X:=λx=>x∈yL E ops) B n fs hm (hqk U) hv (λx hx=>yL_nd hx) (D4 hb1) (D4 hb2) (λp Z=>?_) ?_ ((hr U).imp (λh=>h) fun⟨k1,k2,k3⟩=>⟨k1,k2,λt a1 w1 hkt J=>by
  obtain⟨s1,_,_,u,_,_,hsr⟩:=W t hkt;exact k3 _ _ _ (hsr _ _ J) u⟩) hpr
 .obtain⟨g1,g2,g3,g4⟩:=hB p Z
  refine⟨g1,by simpa [St.den]using g2,?_,CK g3⟩
  show(s.r.map Ab.v).getD p.2 .dead=.dead;rw[Ak,g4];rfl
 intro Q' hQ' t a1 w1 hkt;obtain⟨s1,A,ht1,u,hfx,hfp,hsr⟩:=W t hkt;refine⟨hfx,hfp,λJ=>?_⟩
 have hs2:=hsr _ _ J
 .skip
  obtain⟨b1,b2,b3⟩:=NE B s1
  have hsp:∀i,(Au ops.toList i&& !(yL E ops).contains i)=true->Au ops.toList i=true/\yB E ops i=false:=by
   intro i hi;rw[bAE,not_eq_true']at hi;refine⟨hi.1,?_⟩;cases hy:yB E ops i with
   |false=>rfl
   |true=>
    have:=yB_mem hyk hy;have:(yL E ops).contains i=true:=by simpa using this
    rw[hi.2]at this;cases this
  have k1:=H0 (ops.toList.take n) (s1.backs B)
  have H:∀i,(Au ops.toList i&& !(yL E ops).contains i)=true->Au (ops.toList.take n) i=true/\Au (ops.toList.drop n) i=true:=by
   intro i hi;have hi:=(hsp i hi).1;rw[<-List.take_append_drop n ops.toList,Kg,bAE]at hi;exact hi
  refine htail Q' _ a1 w1 hs2 u λs' a' w' hk hs' hz=>hQ' _ _ (hK s' a' w' (λi hi hiB hst=>?_) (λid hl hiB hrr=>?_) ?_ hs' hz)
  .have e1:s1.t i=s.t i:=ht1 i (hsp i hi).1 (hsp i hi).2
   have e2:(s1.backs B).t i=s1.t i:=b1 i hiB (by rw[e1];exact hst)
   have e3:=k1.t i (H i hi).1 (by rw[e2,e1];exact hst)
   rw[hk.t i (H i hi).2 (by rw[e3,e2,e1];exact hst),e3,e2,e1]
  .have e2:(s1.backs B).r.getD id .dead=s.r.getD id .dead:=(b2 id hiB).trans (by rw[A])
   have hl2:id<(s1.backs B).r.length:=by rw[b3,A];exact hl
   have e3:=k1.r id hl2 (by rw[e2];exact hrr)
   rw[hk.r id (Nat.lt_of_lt_of_le hl2 k1.l) (by rw[e3,e2];exact hrr),e3,e2]
  .have:s.r.length=(s1.backs B).r.length:=by rw[b3,A]
   rw[this];exact Nat.le_trans k1.l hk.l
def W5{C:Ctx}(hE:EOK P E)(hm:P.follows .mixedOrders=true){id n:Nat}{ops:Array Oper}{B:List (Nat×Nat)}{s:St}{K:St->Option R}{z:R}{a:Act}{w:World}{Q:Exit->Act->World->Prop}
  (hpr:∃D ρ F T,PR C E.h.n s.den.σ ρ F s.den.t a {w with drawn:=w.drawn+1} D T/\(∀x b,T x b->x∈yL E ops)/\∀p∈B,a.tmps.getD p.1 undef=ρ p.2)
  (h:NY E n ops B s K=some z) (hK:∀s' Y w',(∀i,(Au ops.toList i&& !(yL E ops).contains i)=true->(∀p∈B,p.1≠i)->(s.t i).stay=true->s'.t i=s.t i)->(∀id,id<s.r.length->(∀p∈B,p.2≠id)->(s.r.getD id .dead).isRo=true->s'.r.getD id .dead=s.r.getD id .dead)->s.r.length<=s'.r.length->AN C E.h.n s'.den Y w'->K s'=some z->Q .normal Y w'):(Code.region id ops true).wp P Q a w:=by
 unfold NY at h;cases hq:Iy ops n with
 |true=>
  rw[hq]at h;obtain⟨h1,h2⟩:=Om hq;refine NX (fs:=[]) hE hm hpr h (λ_=>h1) (λQ' J a w hs u hk=>?_) (λ_=>.inl h2) hK
  have e:ops.toList.drop n=(Zr ops.size (ops.toList.drop n)).flatMap Seg.ops:=(Ck _ _).symm;rw[e];refine W1 hE _ _ a w hs u λs' Y w' hkp Z hz=>hk s' Y w' ?_ Z hz
  rw[Ck]at hkp;exact hkp
 |false=>
  rw[hq]at h;simp only[cond_false]at h
  have W:∀J,Ace E ops n (Wf ops n) J K=some z->∃H U O A,ops.toList.drop n=[H,U,O]/\H.guard=none/\U.guard=none/\O.guard=none/\Xd E J ((Wf ops n).filterMap λf=>ops[f]?) H U O=some A/\A.p/\K A.s=some z:=by
   intro J u;unfold Ace at u;split at u
   case h_2=>cases u
   rename_i H U O hd;obtain⟨hg,u⟩:=A1 u;simp only[bAE,Option.isNone_iff_eq_none]at hg;split at u
   case h_2=>cases u
   rename_i A hA;unfold oif at u;split at u
   .rename_i hp
    exact⟨H,U,O,A,hd,hg.1.1,hg.1.2,hg.2,hA,hp,u⟩
   .cases u
  refine NX (fs:=Wf ops n) hE hm hpr h (λhc=>?_) (λQ' J a w hs u hk=>?_) (λhc=>?_) hK
  .rw[bAE,bAE]at hc
   exact J4 hc.1.1
  .obtain⟨H,U,O,A,hd,g1,g2,g3,hA,hp,hKA⟩:=W J u
   rw[hd]at hk⊢;have w1:∀(o:Oper) (a:Act),o.guard=none->Region.wanted o (yielded ops a.tmps)=true:=λo a hg=>by simp[Region.wanted,hg]
   unfold wpList;rw[if_pos (w1 H a g1)];refine .inl (Oper.wp_mono (λa1 w1' h1=>?_) (Xb (Q:=Q') hE.Θ hA hp hs (next:=λY w'=>Q' .normal Y w') λY w' Z=>hk A.s Y w' (Xc hA) Z hKA))
   unfold wpList;rw[if_pos (w1 U a1 g2)];refine .inl (Oper.wp_mono (λa2 w2' h2=>?_) h1)
   unfold wpList;rw[if_pos (w1 O a2 g3)];exact .inl h2
  .rw[bAE,bAE]at hc
   refine .inr ⟨YR hc.1.2,AbG hE.Θ hc.2,λJ a w hs u=>?_⟩
   obtain⟨H,U,O,A,hd,g1,g2,g3,hA,hp,hKA⟩:=W J u;have hon:ops[n]? =some H:=by
    have h1:(ops.toList.drop n)[0]? =some H:=by rw[hd];rfl
    rw[List.getElem?_drop]at h1;simpa using h1
   refine Acy hE.Θ hA hp hs hon (λf hf o ho=>mem_filterMap.2 ⟨f,hf,ho⟩) (AbG hE.Θ hc.2)
def Aca{R:Type}(E:Env)(n:Nat)(ops:Array Oper)(s:St)(K:St->Option R):Option R:=match Pa (ops.toList.flatMap (capsF E.h.fz)) s with
 |some e=>match KF (yL E ops) e with
  |some s1=>NY E n ops (bL E ops e) s1 K
  |none=>none
 |none=>none
theorem ZK(hE:EOK P E)(U:P.follows .mixedOrders=true){id n:Nat}{ops:Array Oper}{K:St->Option R}{z:R}{Q:Exit->Act->World->Prop}(hs:AN C E.h.n s.den a w)
  (h:Aca E n ops s K=some z) (hK:∀s' a' w',Kp (Au ops.toList) s s'->AN C E.h.n s'.den a' w'->K s'=some z->Q .normal a' w'):(Code.region id ops true).wp P Q a w:=by
 unfold Aca at h;split at h
 case h_2=>cases h
 rename_i Z hg;split at h
 case h_2=>cases h
 rename_i s1 hd;have J:∀p∈bL E ops Z,p.1∈yL E ops/\Cm Z p.1=some p.2:=by
  intro p A;obtain⟨y,hy,he⟩:=mem_filterMap.1 A
  grind
 refine W5 hE U ?_ h λs' a' w' q1 q2 q3=>hK s' a' w' ?_
 .obtain⟨D,ρ,F,T,hpr,hT,O⟩:=Pm hd (JB _ hg hs) (Below.drew w)
  exact⟨D,ρ,F,T,hpr,hT,λp A=>O p.1 p.2 (bOKn h p A) (J p A).2⟩
 have k1:=JC _ hg;have k2:=Pn hd
 have hnY:∀i,(Z.t i).stay=true->(yL E ops).contains i=false:=by
  intro i u;cases hc:(yL E ops).contains i with
  |false=>rfl
  |true=>
   have U:i∈yL E ops:=by simpa using hc
   exfalso;unfold KF at hd;split at hd
   .rename_i hY
    rw[hY]at U;cases U
   split at hd
   case h_2=>cases hd
   rename_i ids W;obtain⟨id,_,hid⟩:=(Kv W).1 i U;rw[(Cf hid).2.1]at u;cases u
 have k3:Kp (Au ops.toList) Z s':=by
  refine⟨λi hi u=>?_,λid hl H=>?_,Nat.le_trans k2.l q3⟩
  .have e:=k2.t i rfl u
   have Y:=hnY i u;rw[q1 i (by rw[hi,Y];rfl) (λp A he=>?_) (by rw[e];exact u),e]
   have:=(J p A).1;rw[he]at this;have:(yL E ops).contains i=true:=by simpa using this
   rw[Y]at this;cases this
  .have e:=k2.r id hl H
   rw[q2 id (Nat.lt_of_lt_of_le hl k2.l) (λp A he=>?_) (by rw[e];exact H),e]
   have:=(Cf (J p A).2).1;rw[he,H]at this;cases this
 exact k1.trans k3 (λ_ _=>rfl) λ_ hi=>hi
end Go.Ve


namespace Go.Ve
inductive LK where
 |val (n:Nat) (agg:Bool)
 |ref (id:Nat)
 |ptr (id:Nat)
 |pth (id:Nat) (p:AG)
 |mrf (id:Nat) (p:AG)
 |prp (id:Nat) (p:AG) (j k:Nat)
 |fn (g:Nat) (l:List (Option (Nat×AG×Nat×Nat)))
 |no
def okV:Cl->Bool
 |.c t _ _=>t.one
 |_=>false
def okF:Cl->Bool
 |.rp _ _ _ _=>true
 |y=>okV y
def kcOf:Cl->Option (Nat×AG×Nat×Nat)
 |.rp id p j k=>some (id,p,j,k)
 |_=>none
def lk:Sl->LK
 |.one (.c t _ _)=>bif t.one then .val 1 false else .no
 |.one (.rf id [])=>.ref id
 |.one (.rp id [] 0 0)=>.ptr id
 |.one (.rf id (a::q))=>.pth id (a::q)
 |.one (.rm id p)=>.mrf id p
 |.one (.rp id p j k)=>.prp id p j k
 |.pk (.cl g) l=>bif l.all okF then .fn g (l.map kcOf)else .no
 |.agg l=>bif l.all okV then .val l.length true else .no
 |_=>.no
def dyC:Cl->Option Dy
 |.c t d x=>bif t.one&& !(Cl.c t d x).own then some ⟨t,x⟩else none
 |_=>none
def dyL:List Cl->Option (List Dy)
 |[]=>some []
 |y::l=>match dyC y with
  |some z=>match dyL l with
   |some m=>some (z::m)
   |none=>none
  |none=>none
def Dy.cl(y:Dy):Cl:=.c y.t 0 y.x
def dyP:AG->List Dy
 |[]=>[]
 |(i,_)::p=>⟨.int .i64,(Int.ofNat i:Int)⟩::dyP p
def ZY:AG->AG->Bool
 |[],[]=>true
 |(_,k)::p,(_,k')::q=>beq k k'&&ZY p q
 |_,_=>false
def Dy.nat:Dy->Nat
 |⟨.int _,x⟩=>Int.toNat x
 |_=>0
def Wo:AG->List Dy->AG
 |[],_=>[]
 |(_,k)::p,y::cs=>(y.nat,k)::Wo p cs
 |(_,k)::p,[]=>(0,k)::Wo p []
def Nq:List (Option (Nat×AG×Nat×Nat))->List Cl->Option (List Dy×List (Nat×Nat))
 |[],[]=>some ([],[])
 |none::ks,y::l=>match dyC y with
  |some z=>match Nq ks l with
   |some (a,m)=>some (z::a,m)
   |none=>none
  |none=>none
 |some (id,p,j,k)::ks,.rp id' p' j' k'::l=>bif eqP p p'&&beq j j'&&beq k k' then(match Nq ks l with
  |some (a,m)=>some (a,(id,id')::m)
  |none=>none)else none
 |_,_=>none
def HD:List (Option (Nat×AG×Nat×Nat))->List Dy->List Cl×List Dy
 |[],cs=>([],cs)
 |none::ks,y::cs=>(y.cl::(HD ks cs).1,(HD ks cs).2)
 |none::ks,[]=>(.dead::(HD ks []).1,(HD ks []).2)
 |some (id,p,j,k)::ks,cs=>(.rp id p j k::(HD ks cs).1,(HD ks cs).2)
def YJ(k:LK)(y:Sl):Option (List Dy×List (Nat×Nat)):=match k,y with
 |.val _ false,.one c=>match dyC c with
  |some z=>some ([z],[])
  |none=>none
 |.val n true,.agg l=>bif beq l.length n then(match dyL l with
  |some m=>some (m,[])
  |none=>none)else none
 |.ref id,.one (.rf id' [])=>some ([],[(id,id')])
 |.ptr id,.one (.rp id' [] 0 0)=>some ([],[(id,id')])
 |.pth id p,.one (.rf id' p')=>bif ZY p p' then some (dyP p',[(id,id')])else none
 |.mrf id p,.one (.rm id' p')=>bif eqP p p' then some ([],[(id,id')])else none
 |.prp id p j k,.one (.rp id' p' j' k')=>bif eqP p p'&&beq j j'&&beq k k' then some ([],[(id,id')])else none
 |.fn g ks,.pk (.cl g') l=>bif beq g g' then Nq ks l else none
 |.no,_=>some ([],[])
 |_,_=>none
def Wl(t0:Nat->Sl)(t:Nat->Sl):List Nat->Option (List Dy×List (Nat×Nat))
 |[]=>some ([],[])
 |d::L=>match YJ (lk (t0 d)) (t d)with
  |some (a,b)=>match Wl t0 t L with
   |some (a',b')=>some (a++a',b++b')
   |none=>none
  |none=>none
def piF(m:List (Nat×Nat))(i:Nat):Nat:=match m with
 |[]=>i
 |(a,b)::m=>bif beq a i then b else piF m i
def dyA:List Cl->Option (List Dy)
 |[]=>some []
 |.c t _ x::l=>bif t.one then(match dyA l with
  |some m=>some (⟨t,x⟩::m)
  |none=>none)else none
 |_::_=>none
def AbB:Ab->Option (List Dy)
 |.arr _ t _ xs=>some [⟨.sl t,xs⟩]
 |.obj _ l=>dyA l
 |.opt _ _ _ _=>none
 |.mp _ k v x=>some [⟨.mp k v,x⟩]
 |.dead=>none
def AaD(r:List Ab)(π:Nat->Nat):List Nat->Option (List Dy)
 |[]=>some []
 |id::l=>match AbB (r.getD (π id) .dead)with
  |some a=>match AaD r π l with
   |some b=>some (a++b)
   |none=>none
  |none=>none
def YU(k:LK)(cs:List Dy):Sl×List Dy:=match k with
 |.val _ false=>(match cs with
  |y::_=>.one y.cl
  |[]=>.one .dead,cs.drop 1)
 |.val n true=>(.agg ((cs.take n).map Dy.cl),cs.drop n)
 |.ref id=>(.one (.rf id []),cs)
 |.ptr id=>(.one (.rp id [] 0 0),cs)
 |.pth id p=>(.one (.rf id (Wo p cs)),cs.drop p.length)
 |.mrf id p=>(.one (.rm id p),cs)
 |.prp id p j k=>(.one (.rp id p j k),cs)
 |.fn g ks=>(.pk (.cl g) (HD ks cs).1,(HD ks cs).2)
 |.no=>(.one .dead,cs)
def Le(t0:Nat->Sl):List Nat->List Dy->(Nat->Sl)->(Nat->Sl)×List Dy
 |[],cs,t=>(t,cs)
 |d::L,cs,t=>Le t0 L (YU (lk (t0 d)) cs).2 (AJ t d (YU (lk (t0 d)) cs).1)
def KA:List Cl->List Dy->List Cl×List Dy
 |[],cs=>([],cs)
 |.c t d _::l,y::cs=>(match(if h:y.t=t then some (h▸y.x)else none:Option t.T)with
  |some x=>.c t d x
  |none=>.dead)::(KA l cs).1|>λm=>(m,(KA l cs).2)
 |_::l,cs=>(.dead::(KA l cs).1,(KA l cs).2)
def YV:Ab->List Dy->Ab×List Dy
 |.arr _ t d _,y::cs=>(match y with
  |⟨.sl t',xs⟩=>if h:t'=t then .arr false t d (h▸xs)else .dead
  |_=>.dead,cs)
 |.arr _ _ _ _,[]=>(.dead,[])
 |.obj _ l,cs=>(.obj false (KA l cs).1,(KA l cs).2)
 |.opt _ _ _ _,cs=>(.dead,cs)
 |.mp _ k v _,y::cs=>(match IU (.mp k v) y with
  |some xs=>.mp false k v xs
  |none=>.dead,cs)
 |.mp _ _ _ _,[]=>(.dead,[])
 |.dead,cs=>(.dead,cs)
def HC(r0:List Ab):List Nat->List Dy->List Ab->List Ab
 |[],_,r=>r
 |id::l,cs,r=>HC r0 l (YV (r0.getD id .dead) cs).2 (r.set id (YV (r0.getD id .dead) cs).1)
def BH:Ab->Ab
 |.arr _ t d xs=>.arr true t d xs
 |.obj _ l=>.obj true l
 |.opt _ t d x=>.opt true t d x
 |.mp _ k v x=>.mp true k v x
 |.dead=>.dead
def BB(ro:Bool)(b:List Oper)(L Rh:List Nat)(e:St)(cs:List Dy):St:=
 let base:Nat->Sl:=λi=>bif Au b i&&(e.t i).stay then e.t i else .one .dead
 let f:=Le e.t L cs base
 ⟨f.1,HC e.r Rh f.2 (bif ro then e.r.map BH else e.r)⟩
end Go.Ve


namespace Go.Ve
variable{c:Cl}{r r':List Ab}{a rest:List Dy}{n:Nat}{π:Nat->Nat}{y:Sl}
def ZZ:List Cl->List Cl->Bool
 |[],[]=>true
 |.c t d _::l,.c t' d' _::m=>decide (t'=t)&&beq d' d&&ZZ l m
 |_,_=>false
def Acv:Ab->Ab->Bool
 |.arr _ t d _,.arr _ t' d' _=>decide (t'=t)&&beq d' d
 |.obj _ l,.obj _ m=>ZZ l m
 |.mp _ k v _,.mp _ k' v' _=>decide (k'=k)&&decide (v'=v)
 |_,_=>false
def ZB:Ab->Ab
 |.arr _ t d xs=>.arr false t d xs
 |.obj _ l=>.obj false l
 |.opt _ t d x=>.opt false t d x
 |.mp _ k v x=>.mp false k v x
 |.dead=>.dead
def unRo_v(r:Ab):(ZB r).v=r.v/\(ZB r).len=r.len:=by cases r<;>first|trivial|exact⟨rfl,Qz⟩
def MK(r:Ab):(BH r).v=r.v/\(BH r).len=r.len:=by cases r<;>first|trivial|exact⟨rfl,Qz⟩
def JV(r:Ab)(i:Nat):(BH r).cells i=r.cells i:=by cases r<;>cases i<;>rfl
def VI(c:Cl)(b e:Bool):BH (c.node b)=BH (c.node e):=by
 cases c with
 |c t d x=>cases t<;>cases d<;>rfl
 |_=>rfl
def ZV(r:Ab):BH (ZB r)=BH r:=by cases r<;>rfl
def JU(r:Ab):BH (BH r)=BH r:=by cases r<;>rfl
def Aa2:∀(q:AG) (r r':Ab),BH r=BH r'->(r.at' q).len=(r'.at' q).len
 |[],r,r',h=>by
  show r.len=r'.len;rw[<-(MK r).2,<-(MK r').2,h]
 |(i,k)::q,r,r',h=>by
  show((((r.cells i).getD k .dead).node r.ro).at' q).len=((((r'.cells i).getD k .dead).node r'.ro).at' q).len;have e:r.cells i=r'.cells i:=by rw[<-JV r,<-JV r',h]
  rw[e];exact Aa2 q _ _ (VI _ _ _)
theorem L4:∀(p e:AG) (rest:List Dy),ZY p e=true->Wo p (dyP e++rest)=e/\(dyP e++rest).drop p.length=rest
 |[],[],rest,_=>⟨rfl,rfl⟩
 |(i,k)::p,(i',k')::e,rest,h=>by
  have h:(beq k k'&&ZY p e)=true:=h;rw[bAE]at h;obtain⟨a,b⟩:=L4 p e rest h.2;have u:=bqE h.1;subst u;refine⟨?_,b⟩;show(Int.toNat (Int.ofNat i'),k)::Wo p (dyP e++rest)=_
  simp_all
 |[],_::_,_,h=>by cases h
 |_::_,[],_,h=>by cases h
theorem Wp:∀(l m:List Cl) (a:List Dy) (rest:List Dy),ZZ l m=true->dyA m=some a->KA l (a++rest)=(m,rest):=by
 intro l
 induction l with
 |nil=>intro m a rest h e;cases m with
  |nil=>cases e;rfl
  |cons y m=>cases y<;>cases h
 |cons y l H=>
  intro m a rest h e;cases m with
  |nil=>cases y<;>cases h
  |cons z m=>
   cases y with
   |c t d x=>
    cases z with
    |c u F A=>
     have h:(decide (u=t)&&beq F d&&ZZ l m)=true:=h;simp only[bAE,decide_eq_true_eq]at h;obtain⟨⟨rfl,hd⟩,hl⟩:=h;have hd:=bqE hd;subst hd
     have e:(bif u.one then(match dyA m with
      |some m=>some ((⟨u,A⟩:Dy)::m)
      |none=>none)else none)=some a:=e
     obtain⟨O,e⟩:=A1 e;split at e
     case h_2=>cases e
     rename_i b J;cases e
     show((match(if h:u=u then some (h▸A)else none:Option u.T)with
      |some x=>Cl.c u F x
      |none=>.dead)::(KA l (b++rest)).1,(KA l (b++rest)).2)=_
     rw[H m b rest hl J];simp
    |_=>cases h
   |_=>cases z<;>cases h
def QG{old new:Ab}(h:Acv old new=true)(F:AbB new=some a):YV old (a++rest)=(ZB new,rest):=by
 cases old with
 |arr ro t d xs=>
  cases new with
  |arr u A H e=>
   have h:(decide (A=t)&&beq H d)=true:=h;simp only[bAE,decide_eq_true_eq]at h;obtain⟨rfl,hd⟩:=h;have hd:=bqE hd;subst hd;cases F;show((if h:A=A then Ab.arr false A H (h▸e)else .dead),rest)=_
   simp[ZB]
  |_=>cases h
 |obj ro l=>
  cases new with
  |obj u m=>
   show(Ab.obj false (KA l (a++rest)).1,(KA l (a++rest)).2)=_;rw[Wp l m a rest h F];rfl
  |_=>cases h
 |dead=>trivial
 |opt=>trivial
 |mp ro k v xs=>
  cases new with
  |mp u k' v' e=>
   have h:(decide (k'=k)&&decide (v'=v))=true:=h;simp only[bAE,decide_eq_true_eq]at h;obtain⟨rfl,rfl⟩:=h;cases F
   show(match IU (.mp k' v') ⟨.mp k' v',e⟩with
    |some xs=>Ab.mp false k' v' xs
    |none=>.dead,rest)=_
   simp[ZB,IU]
  |_=>cases h
def Ij:List (Option (Nat×AG×Nat×Nat))->List Cl->List Cl
 |none::ks,y::l=>(match dyC y with
  |some z=>z.cl
  |none=>.dead)::Ij ks l
 |some (id,p,j,k)::ks,_::l=>.rp id p j k::Ij ks l
 |_,_=>[]
theorem IQ:∀{ks:List (Option (Nat×AG×Nat×Nat))}{l:List Cl}{a rest:List Dy}{m:List (Nat×Nat)},Nq ks l=some (a,m)->HD ks (a++rest)=(Ij ks l,rest)
 |[],[],_,_,_,h=>by cases h;rfl
 |none::ks,y::l,a,rest,m,h=>by
  unfold Nq at h;split at h
  case h_2=>cases h
  rename_i z F;split at h
  case h_2=>cases h
  rename_i u A e;cases h;have:=IQ (rest:=rest) e
  show(z.cl::(HD ks (u++rest)).1,(HD ks (u++rest)).2)=((match dyC y with
   |some z=>z.cl
   |none=>.dead)::Ij ks l,rest)
  rw[this,F]
 |some (id,p,j,k)::ks,y::l,a,rest,m,h=>by
  unfold Nq at h;split at h
  case h_1=>simp_all
  case h_2=>simp_all
  case h_4=>cases h
  rename_i J H;cases J;cases H;obtain⟨_,h⟩:=A1 h;split at h
  case h_2=>cases h
  rename_i u A e;cases h;have:=IQ (rest:=rest) e;show(Cl.rp id p j k::(HD ks (a++rest)).1,(HD ks (a++rest)).2)=_;rw[this];rfl
 |[],_::_,_,_,_,h=>by cases h
 |none::_,[],_,_,_,h=>by cases h
 |some _::_,[],_,_,_,h=>by cases h
def Jf(k:LK)(y:Sl):Sl:=match k,y with
 |.val _ false,.one c=>(match dyC c with
  |some z=>.one z.cl
  |none=>.one .dead)
 |.val _ true,.agg l=>(match dyL l with
  |some m=>.agg (m.map Dy.cl)
  |none=>.one .dead)
 |.ref id,_=>.one (.rf id [])
 |.ptr id,_=>.one (.rp id [] 0 0)
 |.pth id _,.one (.rf _ p')=>.one (.rf id p')
 |.mrf id p,_=>.one (.rm id p)
 |.prp id p j k,_=>.one (.rp id p j k)
 |.fn g ks,.pk _ l=>.pk (.cl g) (Ij ks l)
 |_,_=>.one .dead
theorem Wn{k:LK}{m:List (Nat×Nat)}(h:YJ k y=some (a,m)):YU k (a++rest)=(Jf k y,rest):=by
 unfold YJ at h;split at h
 .split at h
  case h_2=>cases h
  rename_i z F;cases h;unfold YU Jf;simp[F]
 .rename_i n l
  obtain⟨e,h⟩:=A1 h;split at h
  case h_2=>cases h
  rename_i z F;cases h
  have u:∀(l:List Cl) (z:List Dy),dyL l=some z->z.length=l.length:=by
   intro l
   induction l with
   |nil=>intro z h;cases h;rfl
   |cons y l O=>
    intro z h;unfold dyL at h
    grind
  have W:=u l a F;have U:=bqE e;unfold YU Jf
  grind
 .cases h;rfl
 .cases h;rfl
 .rename_i id p id' A
  obtain⟨e,h⟩:=A1 h;cases h;obtain⟨J,H⟩:=L4 p A rest e;show(Sl.one (.rf id (Wo p (dyP A++rest))),(dyP A++rest).drop p.length)=(Sl.one (.rf id A),rest);rw[J,H]
 .obtain⟨e,h⟩:=A1 h
  cases h;rfl
 .obtain⟨e,h⟩:=A1 h
  cases h;rfl
 .rename_i g ks Y l
  obtain⟨e,h⟩:=A1 h;show(Sl.pk (.cl g) (HD ks (a++rest)).1,(HD ks (a++rest)).2)=(Sl.pk (.cl g) (Ij ks l),rest);rw[IQ h]
 .cases h;rfl
 .cases h
def Mg(t0 e:Nat->Sl):List Nat->(Nat->Sl)->Nat->Sl
 |[],t=>t
 |d::L,t=>Mg t0 e L (AJ t d (Jf (lk (t0 d)) (e d)))
def L5{t0 e:Nat->Sl}:∀(L:List Nat) (a rest:List Dy) (m:List (Nat×Nat)) (t:Nat->Sl),Wl t0 e L=some (a,m)->Le t0 L (a++rest) t=(Mg t0 e L t,rest)
 |[],a,rest,m,t,h=>by cases h;rfl
 |d::L,a,rest,m,t,h=>by
  unfold Wl at h;split at h
  case h_2=>grind
  rename_i a1 H A;split at h
  case h_2=>grind
  rename_i a2 F u;cases h;unfold Le;rw[List.append_assoc,Wn A];exact L5 L a2 rest F _ u
theorem Mf{t0 e:Nat->Sl}:∀(L:List Nat) (t:Nat->Sl) (i:Nat),Mg t0 e L t i=if L.contains i then Jf (lk (t0 i)) (e i)else t i
 |[],t,i=>rfl
 |d::L,t,i=>by
  unfold Mg;rw[Mf L];by_cases hi:L.contains i=true
  .grind
  .rw[if_neg hi]
   by_cases hd:i=d
   .subst hd
    rw[if_pos (by simp)]
    unfold AJ;simp
   .have:(d::L).contains i=false:=by
     grind
    rw[this,A5 hd];rfl
def Bb(r':List Ab)(π:Nat->Nat):List Nat->List Ab->List Ab
 |[],r=>r
 |id::l,r=>Bb r' π l (r.set id (ZB (r'.getD (π id) .dead)))
def L3{r0 r':List Ab}{π:Nat->Nat}:∀(Rh:List Nat) (a:List Dy) (r:List Ab),Rh.all (λi=>Acv (r0.getD i .dead) (r'.getD (π i) .dead))=true->AaD r' π Rh=some a->HC r0 Rh a r=Bb r' π Rh r
 |[],a,r,_,h=>rfl
 |id::l,a,r,hs,h=>by
  rw[List.all_cons,bAE]at hs;unfold AaD at h;split at h
  case h_2=>grind
  rename_i a1 u;split at h
  case h_2=>grind
  rename_i a2 e;cases h;unfold HC;rw[QG hs.1 u];exact L3 l a2 _ hs.2 e
def Mh{r':List Ab}{π:Nat->Nat}:∀(Rh:List Nat) (r:List Ab),(Bb r' π Rh r).length=r.length
 |[],_=>rfl
 |id::l,r=>by unfold Bb;rw[Mh l,List.length_set]
def Mi{r':List Ab}{π:Nat->Nat}:∀(Rh:List Nat) (r:List Ab) (i:Nat),i<r.length->(Bb r' π Rh r).getD i .dead=if Rh.contains i then ZB (r'.getD (π i) .dead)else r.getD i .dead
 |[],r,i,_=>rfl
 |id::l,r,i,hi=>by
  unfold Bb;rw[Mi l _ i (by grind)]
  grind
def AbC(m:List (Nat×Nat))(L Rh:List Nat)(e s':St)(keep:Nat):Bool:=
 (range e.r.length).all (λi=>blt (piF m i) s'.r.length)&&
 (range e.r.length).all (λi=>(range e.r.length).all λj=>beq i j|| !beq (piF m i) (piF m j))&&
 (range e.r.length).all (λi=>Rh.contains i||beq (piF m i) i)&&
 Rh.all (λi=>Acv (e.r.getD i .dead) (s'.r.getD (piF m i) .dead))&&
 m.all (λp=>beq (piF m p.1) p.2&&blt p.1 e.r.length)&&
 (range keep).all (λi=>beq (piF m i) i)
def Adi(L Rh:List Nat)(e s':St)(keep:Nat):Option (List Dy):=match Wl e.t s'.t L with
 |some (a,m)=>bif AbC m L Rh e s' keep then(match AaD s'.r (piF m) Rh with
  |some c=>some (a++c)
  |none=>none)else none
 |none=>none
theorem Adu{z:Dy}(h:dyC c=some z):c.v r=z.cl.v r':=by
 unfold dyC at h;split at h
 case h_2=>grind
 rename_i t d x;cases e:(t.one&& !(Cl.c t d x).own)with
 |false=>grind
 |true=>
  rw[e]at h;cases h;simp[not_eq_true']at e
  cases t<;>cases d<;>first|rfl|(cases x with
   |none=>rfl
   |some _=>exact absurd e.2 (by intro h;cases h))|exact nomatch e.2|rfl
def J2(h:c.stay=true):BS π n (c.v r) (c.v r'):=by
 cases c with
 |c t d x=>cases t<;>first|exact BS.tyV0 (.clo _ _) x _ (mem_singleton.2 rfl)|(cases x<;>first|rfl|exact .inr (Sub.refl _))|exact ren_nr (λ_ _ _ _ h=>by cases h) (λ_ _ _ _ h=>by cases h) (λ_ _ _ h=>by cases h) (λ_ _ h=>by cases h)
 |dead=>exact .inl rfl
 |nil=>exact .inr (Sub.refl _)
 |nilp=>exact .inr (Sub.refl _)
 |nilf=>exact .inr (Sub.refl _)
 |nilm=>exact .inr (Sub.refl _)
 |_=>cases h
theorem Z6(h:y.stay=true):BS π n (y.v r) (y.v r'):=by
 have agg:∀l:List Cl,l.all Cl.stay=true->BS π n (Ag (l.map (Cl.v r))) (Ag (l.map (Cl.v r'))):=by
  intro l h;refine Um (by simp) λk e=>?_
  rw[Az (f:=Cl.v r) (a:=.dead) rfl,Az (f:=Cl.v r') (a:=.dead) rfl];have e:k<l.length:=by simpa using e
  refine J2 (aET.1 h _ ?_)
  grind
 cases y with
 |one c=>exact J2 h
 |new l=>exact .inr (Sub.refl _)
 |agg l=>exact agg l h
 |pk t l=>
  refine XK (by simp) λk e=>?_
  rw[Az (f:=Cl.v r) (a:=.dead) rfl,Az (f:=Cl.v r') (a:=.dead) rfl];have e:k<l.length:=by simpa using e
  refine J2 (aET.1 h _ ?_)
  grind
 |tup l=>
  refine XJ (by simp) λk e=>?_
  have e:k<l.length:=by simpa using e
  simp only[gDE,getElem?_map,gEE e,Option.map_some,Option.getD_some];have u:=aET.1 h l[k] (List.getElem_mem e);generalize l[k]=p at u;obtain⟨b,m⟩:=p;cases b with
  |true=>exact agg m u
  |false=>
   cases m with
   |nil=>exact .inl rfl
   |cons y m=>exact J2 (by grind)
theorem QC{C:Ctx}{N:Nat}{ro:Bool}{b:List Oper}{L Rh:List Nat}{A s':St}{keep:Nat}{cs:List Dy}{a:Act}{w:World}(h:AN C N s'.den a w)(hg:Adi L Rh A s' keep=some cs)(hk:C.m<=keep)(hk0:C.m<=A.r.length)
  (ht:∀i,L.contains i=false->Au b i=true->(A.t i).stay=true->s'.t i=A.t i)
  (hr:∀id,id<A.r.length->Rh.contains id=false->(s'.r.getD id .dead).v=(A.r.getD id .dead).v/\(s'.r.getD id .dead).len=(A.r.getD id .dead).len)
  (hq:∀id,id<A.r.length->Rh.contains id=false->∀q:AG,((s'.r.getD id .dead).at' q).len=((A.r.getD id .dead).at' q).len):AN C N (BB ro b L Rh A cs).den a w:=by
 unfold Adi at hg;split at hg
 case h_2=>cases hg
 rename_i av m Y;obtain⟨hok,hg⟩:=A1 hg;split at hg
 case h_2=>cases hg
 rename_i cv hgr;cases hg;unfold AbC at hok;simp only[bAE]at hok;obtain⟨⟨⟨⟨⟨o1,o2⟩,o3⟩,o4⟩,o5⟩,o6⟩:=hok
 let base:Nat->Sl:=λi=>bif Au b i&&(A.t i).stay then A.t i else .one .dead
 let r0:List Ab:=bif ro then A.r.map BH else A.r
 have hr0l:r0.length=A.r.length:=by cases ro<;>simp[r0]
 have hr0g:∀i,(r0.getD i .dead).v=(A.r.getD i .dead).v/\(r0.getD i .dead).len=(A.r.getD i .dead).len:=by
  intro i;cases ro with
  |false=>exact⟨rfl,rfl⟩
  |true=>
   have e:r0.getD i .dead=BH (A.r.getD i .dead):=by
    show(A.r.map BH).getD i .dead=_;simp only[gDE,getElem?_map];cases A.r[i]? <;>rfl
   rw[e];exact MK _
 have hT:BB ro b L Rh A (av++cv)=⟨Mg A.t s'.t L base,Bb s'.r (piF m) Rh r0⟩:=by
  show(⟨(Le A.t L (av++cv) base).1,HC A.r Rh (Le A.t L (av++cv) base).2 r0⟩:St)=_;rw[L5 L av cv m base Y];simp only;rw[L3 Rh cv r0 o4 hgr]
 rw[hT];have hlen:(Bb s'.r (piF m) Rh r0).length=A.r.length:=by rw[Mh,hr0l]
 have H:((Bb s'.r (piF m) Rh r0).map Ab.v).length=A.r.length:=by rw[List.length_map,hlen]
 have hget:∀i,i<A.r.length->(Bb s'.r (piF m) Rh r0).getD i .dead=if Rh.contains i then ZB (s'.r.getD (piF m i) .dead)else r0.getD i .dead:=λi hi=>Mi Rh r0 i (by rw[hr0l];exact hi)
 have hgv:∀i,i<A.r.length->((Bb s'.r (piF m) Rh r0).getD i .dead).v=(s'.r.getD (piF m i) .dead).v/\((Bb s'.r (piF m) Rh r0).getD i .dead).len=(s'.r.getD (piF m i) .dead).len:=by
  intro i hi;rw[hget i hi];cases hc:Rh.contains i with
  |true=>simp only[if_true];exact unRo_v _
  |false=>
   simp only[false_eq_true,if_false];have:=aET.1 o3 i (mem_range.2 hi);rw[hc,Bool.false_or]at this;rw[bqE this,(hr0g i).1,(hr0g i).2,(hr i hi hc).1,(hr i hi hc).2];exact⟨rfl,rfl⟩
 have hgq:∀i,i<A.r.length->∀q:AG,(((Bb s'.r (piF m) Rh r0).getD i .dead).at' q).len=((s'.r.getD (piF m i) .dead).at' q).len:=by
  intro i hi q;rw[hget i hi];cases hc:Rh.contains i with
  |true=>simp only[if_true];exact Aa2 q _ _ (ZV _)
  |false=>
   simp only[false_eq_true,if_false];have:=aET.1 o3 i (mem_range.2 hi);rw[hc,Bool.false_or]at this;rw[bqE this,hq i hi hc q];refine Aa2 q _ _ ?_;cases ro with
   |false=>rfl
   |true=>
    have e:r0.getD i .dead=BH (A.r.getD i .dead):=by
     show(A.r.map BH).getD i .dead=_;simp only[gDE,getElem?_map];cases A.r[i]? <;>rfl
    rw[e];exact JU _
 refine h.perm (π:=piF m) (λi hi=>?_) (λi j hi hj he=>?_) (λi hi=>?_) (λi hi=>?_) ?_ λi=>?_
 .have hi:i<A.r.length:=by rw[<-H];exact hi
  show _<(s'.r.map Ab.v).length;rw[List.length_map];exact blE (aET.1 o1 i (mem_range.2 hi))
 .have hi:i<A.r.length:=by rw[<-H];exact hi
  have hj:j<A.r.length:=by rw[<-H];exact hj
  have:=aET.1 (aET.1 o2 i (mem_range.2 hi)) j (mem_range.2 hj);rw[he,Nat.beq_refl,or_eq_true]at this;rcases this with h|h
  .exact bqE h
  .cases h
 .have hi:i<A.r.length:=by rw[<-H];exact hi
  show Sub ((s'.r.map Ab.v).getD (piF m i) .dead) (((Bb s'.r (piF m) Rh r0).map Ab.v).getD i .dead);rw[Ak,Ak,(hgv i hi).1];exact Sub.refl _
 .exact bqE (aET.1 o6 i (mem_range.2 (Nat.lt_of_lt_of_le hi hk)))
 .show C.m<=((Bb s'.r (piF m) Rh r0).map Ab.v).length
  rw[H];exact hk0
 .show BS (piF m) ((Bb s'.r (piF m) Rh r0).map Ab.v).length ((s'.t i).v s'.r) ((Mg A.t s'.t L base i).v (Bb s'.r (piF m) Rh r0))
  rw[Mf,H];cases hc:L.contains i with
  |false=>
   simp only[false_eq_true,if_false];show BS _ _ _ ((bif Au b i&&(A.t i).stay then A.t i else .one .dead:Sl).v _);cases W:(Au b i&&(A.t i).stay)with
   |false=>exact BS.dead _ _ _
   |true=>
    rw[bAE]at W;rw[ht i hc W.1 W.2];exact Z6 W.2
  |true=>
   simp only[if_true]
   -- the slot's own part of what was grabbed
   have hpart:∀(L:List Nat) (av:List Dy) (m0:List (Nat×Nat)),Wl A.t s'.t L=some (av,m0)->L.contains i=true->∃a1 m1,YJ (lk (A.t i)) (s'.t i)=some (a1,m1)/\∀p∈m1,p∈m0:=by
    intro L
    induction L with
    |nil=>intro av m0 _ h;cases h
    |cons d L ih=>
     intro av m0 Y hc;unfold Wl at Y;split at Y
     case h_2=>cases Y
     rename_i a1 b1 J;split at Y
     case h_2=>cases Y
     rename_i a2 b2 h2;cases Y;by_cases hd:i=d
     .subst hd
      exact⟨a1,b1,J,λp F=>List.mem_append_left _ F⟩
     .have:L.contains i=true:=by
       rw[List.contains_cons]at hc;have hne:(i==d)=false:=by simpa using hd
       rw[hne,Bool.false_or]at hc;exact hc
      obtain⟨a3,m3,h3,h4⟩:=ih a2 b2 h2 this;exact⟨a3,m3,h3,λp F=>List.mem_append_right _ (h4 p F)⟩
   obtain⟨a1,m1,J,Z⟩:=hpart L av m Y hc;generalize lk (A.t i)=k at J;generalize s'.t i=y at J;unfold YJ at J;split at J
   .rename_i c
    split at J
    case h_2=>cases J
    rename_i z hz;unfold Jf;simp only[hz];have e:=Adu (r:=s'.r) (r':=Bb s'.r (piF m) Rh r0) hz;show BS _ _ (c.v s'.r) (z.cl.v (Bb s'.r (piF m) Rh r0));rw[e];exact J2 (r:=Bb s'.r (piF m) Rh r0) (r':=Bb s'.r (piF m) Rh r0) (c:=z.cl) rfl
   .rename_i n l
    obtain⟨W,J⟩:=A1 J;split at J
    case h_2=>cases J
    rename_i z hz;unfold Jf;simp only[hz]
    have key:∀(l:List Cl) (z:List Dy),dyL l=some z->l.map (Cl.v s'.r)=(z.map Dy.cl).map (Cl.v (Bb s'.r (piF m) Rh r0)):=by
     intro l
     induction l with
     |nil=>intro z h;cases h;rfl
     |cons y l ih=>
      intro z h;unfold dyL at h;split at h
      case h_2=>cases h
      rename_i z1 hz1;split at h
      case h_2=>cases h
      rename_i z2 hz2;cases h;simp only[List.map_cons];rw[Adu hz1,ih z2 hz2]
    show BS _ _ (Ag (l.map (Cl.v s'.r))) (Ag ((z.map Dy.cl).map (Cl.v (Bb s'.r (piF m) Rh r0))));rw[key l z hz];refine Um rfl λk hk=>?_
    rw[Az (f:=Cl.v (Bb s'.r (piF m) Rh r0)) (a:=.dead) rfl];cases hx:(z.map Dy.cl)[k]? with
    |none=>simp only[gDE,hx];exact .inl rfl
    |some x=>
     simp only[gDE,hx,Option.getD_some];obtain⟨u,_,hu⟩:=mem_map.1 (List.mem_of_getElem? hx);rw[<-hu];exact J2 (c:=u.cl) rfl
   .rename_i id id'
    cases J;have F:=aET.1 o5 (id,id') (Z _ (mem_singleton.2 rfl));rw[bAE]at F;have O:piF m id=id':=bqE F.1;have U:id<A.r.length:=blE F.2;refine .inr ⟨id,U,O,?_⟩;show V.rs id [] 0 ((Bb s'.r (piF m) Rh r0).getD id .dead).len=V.rs id [] 0 (s'.r.getD id' .dead).len;rw[(hgv id U).2,O]
   .rename_i id id'
    cases J;have F:=aET.1 o5 (id,id') (Z _ (mem_singleton.2 rfl));rw[bAE]at F;have O:piF m id=id':=bqE F.1;have U:id<A.r.length:=blE F.2;exact .inr ⟨id,U,O,rfl⟩
   .rename_i id p id' p'
    obtain⟨W,J⟩:=A1 J;cases J;have F:=aET.1 o5 (id,id') (Z _ (mem_singleton.2 rfl));rw[bAE]at F;have O:piF m id=id':=bqE F.1;have U:id<A.r.length:=blE F.2;refine .inr ⟨id,U,O,?_⟩;show V.rs id p' 0 (((Bb s'.r (piF m) Rh r0).getD id .dead).at' p').len=V.rs id p' 0 ((s'.r.getD id' .dead).at' p').len;rw[hgq id U p',O]
   .rename_i id p id' p'
    obtain⟨W,J⟩:=A1 J;cases J;have F:=aET.1 o5 (id,id') (Z _ (mem_singleton.2 rfl));rw[bAE]at F;have O:piF m id=id':=bqE F.1;have U:id<A.r.length:=blE F.2;rw[<-Pj p p' W];exact .inr ⟨id,U,O,rfl⟩
   .rename_i id p j k id' p' j' k'
    obtain⟨W,J⟩:=A1 J;cases J;simp only[bAE]at W;have F:=aET.1 o5 (id,id') (Z _ (mem_singleton.2 rfl));rw[bAE]at F;have O:piF m id=id':=bqE F.1;have U:id<A.r.length:=blE F.2;rw[<-Pj p p' W.1.1,<-bqE W.1.2,<-bqE W.2];exact .inr ⟨id,U,O,rfl⟩
   .rename_i g ks g' l
    obtain⟨W,hk1⟩:=A1 J;have hg:=bqE W;subst hg
    have key:∀(ks:List (Option (Nat×AG×Nat×Nat))) (l:List Cl) (a:List Dy) (m1:List (Nat×Nat)),Nq ks l=some (a,m1)->(∀p∈m1,p∈m)->(Ij ks l).length=l.length/\∀k,BS (piF m) A.r.length ((l.map (Cl.v s'.r)).getD k .dead) (((Ij ks l).map (Cl.v (Bb s'.r (piF m) Rh r0))).getD k .dead):=by
     intro ks
     induction ks with
     |nil=>
      intro l a m1 h _;cases l with
      |nil=>exact⟨rfl,λk=>BS.dead _ _ _⟩
      |cons y l=>cases h
     |cons x ks ih=>
      intro l a m1 h hm;cases l with
      |nil=>cases x<;>cases h
      |cons y l=>
       cases x with
       |none=>
        unfold Nq at h;split at h
        case h_2=>cases h
        rename_i z hz;split at h
        case h_2=>cases h
        rename_i a2 m2 h2;cases h;obtain⟨i1,i2⟩:=ih l a2 _ h2 hm;refine⟨congrArg (· +1) i1,λk=>?_⟩
        cases k with
        |zero=>
         show BS _ _ (y.v s'.r) ((match dyC y with
          |some z=>z.cl
          |none=>.dead:Cl).v _)
         rw[hz];show BS _ _ (y.v s'.r) (z.cl.v _);rw[Adu (r:=s'.r) (r':=Bb s'.r (piF m) Rh r0) hz];exact J2 (r:=Bb s'.r (piF m) Rh r0) (r':=Bb s'.r (piF m) Rh r0) (c:=z.cl) rfl
        |succ k=>exact i2 k
       |some x=>
        obtain⟨id,p,j,k0⟩:=x;unfold Nq at h;split at h
        case h_1=>simp_all
        case h_2=>simp_all
        case h_4=>cases h
        rename_i e1 e2;cases e1;cases e2;obtain⟨W,h⟩:=A1 h;split at h
        case h_2=>cases h
        rename_i a2 m2 h2;cases h;obtain⟨i1,i2⟩:=ih l _ m2 h2 λp F=>hm p (mCM _ F)
        refine⟨congrArg (· +1) i1,λk=>?_⟩
        cases k with
        |zero=>
         simp only[bAE]at W;have F:=aET.1 o5 _ (hm _ (List.mem_cons_self ..));rw[bAE]at F;rw[<-Pj _ _ W.1.1,<-bqE W.1.2,<-bqE W.2];exact .inr ⟨id,blE F.2,bqE F.1,rfl⟩
        |succ k=>exact i2 k
    obtain⟨i1,i2⟩:=key ks l a1 m1 hk1 Z;show BS _ _ (pkL (.cl g) (l.map (Cl.v s'.r))) (pkL (.cl g) ((Ij ks l).map (Cl.v (Bb s'.r (piF m) Rh r0))));exact XK (by simp[i1]) λk _=>i2 k
   .unfold Jf
    exact BS.dead _ _ _
   .cases J
end Go.Ve

