/- The typed machine: a region that draws its order; code. -/
import Derived.Test.YtojjlnbnneemaaaTk
open Array(replicate)
open List(mem_map range mem_filterMap mem_singleton getElem?_map mem_range)
open Bool(or_eq_true not_eq_true' false_eq_true)
open Nat(beq blt)
set_option linter.all false
namespace Go.Ve
variable{a:Act}{ops:Array Oper}{C:Ctx}{E:Env}{B:List (Nat×Nat)}{i n:Nat}{P:Program}{s:St}{R:Type}{w:World}
theorem vdrawB{C:Ctx}{h:Cy}{id:Nat}{Q:Exit->Act->World->Prop}{σ:List V}{t0:Nat->V}{X:Nat->Prop}(B:List (Nat×Nat))(n:Nat)(fs:List Nat){Kt:(Nat->V)->Prop}{a:Act}{w:World}(hm:P.follows .mixedOrders=true)(W:QOK ops n)
  (hv:vq P h ops σ (ops.toList.take n) Kt t0) (hX:∀x,X x->∀j,AH ops j≠some x) (hB1:(B.map (·.1)).Nodup) (hB2:(B.map (·.2)).Nodup) (hB3:∀p∈B,p.1<h.n/\p.2<σ.length/\σ.getD p.2 .dead=.dead/\∀j,AH ops j≠some p.1)
  (hKt:∀Q':Exit->Act->World->Prop,(∀a w,Q .normal a w->Q' .normal a w)->∀t a w,Kt t->(∀x,X x->x∈B.map (·.1)\/AN (t x)=false)/\(∀p∈B,Kn (t p.1))/\(AQ C h.n (promA ((ops.toList.take n).map (·.dst)) (backs B ⟨t,σ⟩)) a w->wpList P ops Q' (ops.toList.drop n) a w))
  (hr:QU ops n\/(FLS ops n fs/\FlT P ops fs/\∀t a w,Kt t->AQ C h.n (promA ((ops.toList.take n).map (·.dst)) (backs B ⟨t,σ⟩)) a w->FlH P ops n fs a w))
  (hp0:∃D ρ F T,PR C h.n σ ρ F t0 a {w with drawn:=w.drawn+1} D T/\(∀x b,T x b->X x)/\∀p∈B,a.tmps.getD p.1 undef=ρ p.2):(Code.region id ops true).wp P Q a w:=by
 refine wp_region_any hm ?_;obtain⟨r,m,O,hK⟩:=Yc (n:=n) (t0:=t0) (K:=Kt) W.le W n 0 (λ_=>.dead) (λ_=>[]) (by omega) (by simpa [Ci]using hv) (λj hj=>by omega)
 have U:HeadInv .any ops n (replicate ops.size false):=
  ⟨by simp,λj oj _ Y=>(by rw[getD_replicate_false]at Y;cases Y),λt _ ht=>getD_in (by simpa using ht) (getD_replicate_false _ _)⟩
 obtain⟨D,ρ,F,T,u,hTX,hBv⟩:=hp0
 have hpt:∀x,pt ops n r m t0 (replicate ops.size false) x=t0 x\/(pt ops n r m t0 (replicate ops.size false) x=.dead/\∃k,AH ops k=some x):=by
  intro x;unfold pt;cases ho:CJ ops n x with
  |none=>exact .inl (HZ n λi _ hs=>by rw[getD_replicate_false]at hs;cases hs)
  |some k=>
   right;show(if(replicate ops.size false).getD k false=true then _ else V.dead)=_/\_
   rw[getD_replicate_false];exact⟨rfl,k,(Bl ho).2⟩
 have hp1:PR C h.n σ ρ F (pt ops n r m t0 (replicate ops.size false)) a {w with drawn:=w.drawn+1} D T:=by
  refine⟨u.df,u.sz,λx hx=>?_,u.wr,λx hx=>?_,u.tD,u.tF,u.tT,u.tn,u.fr,u.Fn,u.D1,u.D2,u.rt,u.ml,u.tx⟩
  .rcases hpt x with e|e
   .rw[e];exact u.dd x hx
   .exact e.1
  .rcases hpt x with e|⟨e,k,hk⟩
   .rw[e];exact u.tm x hx
   .rw[e]
    exact λb hb=>hX x (hTX x b hb) k hk
 have J:∀a1 w D T,PR C h.n σ ρ F (Ci ops r m t0 n) a1 w D T->(∀x b,T x b->PB ops n X x)->(∀x,(∀i,i<n->AH ops i≠some x)->a1.tmps[x]? =a.tmps[x]?)->AQ C h.n (promA ((ops.toList.take n).map (·.dst)) (backs B ⟨Ci ops r m t0 n,σ⟩)) a1 w:=by
  intro a1 w D T u hT hA;obtain⟨hfree,hobj,_⟩:=hKt Q (λ_ _ h=>h) _ a1 w hK
  obtain⟨F',T',hp',hT'⟩:=PR.backs B _ _ _ _ u hB1 hB2 λp Z=>by
   obtain⟨g1,g2,g3,g4⟩:=hB3 p Z;refine⟨g1,g2,g3,?_,hobj p Z⟩;rw[<-hBv p Z,Array.getD_eq_getD_getElem?,Array.getD_eq_getD_getElem?,hA p.1 λi _=>g4 i]
  refine PR.close _ _ _ _ _ _ hp' λx b ho=>?_
  obtain⟨ho,hxB⟩:=hT' x b ho;rcases hT x b ho with⟨i,hi,hd⟩|hx
  .obtain⟨oi,hoi,_⟩:=W.dst i hi
   refine mem_map.2 ⟨oi,?_,by simpa [AH,hoi]using hd⟩
   refine List.mem_of_getElem? (i:=i) ?_;rw[List.getElem?_take,if_pos hi,Array.getElem?_toList];exact hoi
  .exfalso
   by_cases hxn:x<h.n
   .exact AF _ _ _ ((hfree x hx).resolve_left hxB) (u.tm x hxn) b ho
   .exact u.tx x b (Nat.le_of_not_lt hxn) ho
 have hfu:unl (replicate ops.size false) n+(ops.size-n)<=ops.size:=by
  have:unl (replicate ops.size false) n<=n:=by
   unfold unl;have:=List.countP_le_length (p:=λi=>!(replicate ops.size false).getD i true) (l:=range n)
   simpa using this
  have:=W.le;omega
 have A:∀Q':Exit->Act->World->Prop,(∀a w,Q .normal a w->Q' .normal a w)->∀a1 w D T,PR C h.n σ ρ F (Ci ops r m t0 n) a1 w D T->(∀x b,T x b->PB ops n X x)->(∀x,(∀i,i<n->AH ops i≠some x)->a1.tmps[x]? =a.tmps[x]?)->wpList P ops Q' (ops.toList.drop n) a1 w:=λQ' hQ' a1 w D T u hT hA=>(hKt Q' hQ' _ a1 w hK).2.2 (J a1 w D T u hT hA)
 rcases hr with htl|⟨fl,hft,hfh⟩
 .exact AbS (X:=X) (a0:=a) W htl (ZY W O) O (A Q λ_ _ h=>h) (A (QN Q) λ_ _ h=>⟨rfl,h⟩) ops.size _ a _ D T U hfu hp1 (λx b hb=>.inr (hTX x b hb)) (λ_ _=>rfl) (λj _ Y=>by rw[getD_replicate_false]at Y;cases Y)
 .exact Y3 (X:=X) (a0:=a) W fl hft.keep (ZY W O) O (A Q λ_ _ h=>h) (A (QN Q) λ_ _ h=>⟨rfl,h⟩) (λa1 w D T u hT hA=>hfh _ a1 w hK (J a1 w D T u hT hA)) ops.size _ a _ D T U hfu hp1 (λx b hb=>.inr (hTX x b hb)) (λ_ _=>rfl) (λj _ Y=>by rw[getD_replicate_false]at Y;cases Y)
def Pa(l:List Oper)(s:St):Bool:=l.all λo=>match o.dst with
 |some d=>!(s.t d).own||(s.t d).stay
 |none=>true
def Ky(E:Env)(ops:Array Oper)(o:Oper):Option Nat:=match o.op with
 |.assign (.tmp y)=>bif dX E y then some y else none
 |.move (.tmp y)=>bif dX E y then some y else none
 |.store _ (.tmp y) _=>bif dX E y then some y else none
 |op=>match It op with
  |some (f,xs)=>match JD E.U f with
   |some e=>match xs.toList[e.S.k]? with
    |some (.tmp z)=>match alS E.h ops o z with
     |some y=>some y
     |none=>bif dX E z then some z else none
    |_=>none
   |none=>none
  |none=>none
theorem Yl{o:Oper}{y:Nat}(h:((dX E y&&(JB o y||stB o y))||ucB E ops o y)=true):Ky E ops o=some y:=by
 rw[or_eq_true]at h;rcases h with h|h
 .rw[bAE]at h
  obtain⟨Z,h⟩:=h;rw[or_eq_true]at h;rcases h with h|h
  .unfold JB at h
   unfold Ky;split at h
   .simp_all
   .simp_all
   .cases h
  .unfold stB at h
   unfold Ky;split at h
   .simp_all
   .cases h
 .unfold ucB at h
  split at h
  case h_2=>cases h
  rename_i f xs A;split at h
  case h_2=>cases h
  rename_i e U;split at h
  case h_2=>cases h
  rename_i z J;obtain⟨W,u⟩:=QQ A;rw[u]at A;unfold Ky;rw[u];simp only[A,U,J];cases O:alS E.h ops o z with
  |some Y=>
   simp_all
  |none=>
   rw[O]at h;have h:(dX E z&&beq z y)=true:=h;rw[bAE]at h;rw[h.1,bqE h.2];rfl
def yL(E:Env)(ops:Array Oper):List Nat:=(ops.toList.filterMap λo=>match Ky E ops o with
 |some y=>bif D4 ops y then some y else none
 |none=>none).eraseDups
def yOK(E:Env)(ops:Array Oper):Bool:=ops.toList.all λo=>match Ky E ops o with
 |some y=>D4 ops y
 |none=>true
def goneB(E:Env)(ops:Array Oper)(o:Oper)(y:Nat):Bool:=(dX E y&&JB o y)||(match It o.op with
 |some (f,xs)=>match JD E.U f with
  |some e=>e.S.eat&&(match xs.toList[e.S.k]? with
   |some (.tmp z)=>(match alS E.h ops o z with
    |some u=>beq u y
    |none=>dX E z&&beq z y)
   |_=>false)
  |none=>false
 |none=>false)
def bL(E:Env)(ops:Array Oper)(s:St):List (Nat×Nat):=(yL E ops).filterMap λy=>bif ops.toList.any (λo=>goneB E ops o y)then none else match Cu s y with
 |some id=>some (y,id)
 |none=>none
def bOK(n:Nat)(ops:Array Oper)(B:List (Nat×Nat))(s:St):Bool:=ndB (B.map (·.1))&&ndB (B.map (·.2))&&B.all λp=>blt p.1 n&&blt p.2 s.r.length&&D4 ops p.1&&(match s.r.getD p.2 .dead with
 |.dead=>true
 |_=>false)
def Kx{R:Type}(E:Env)(n:Nat)(ops:Array Oper)(B:List (Nat×Nat))(chk:Bool)(tail:St->(St->Option R)->Option R)(s:St)(K:St->Option R):Option R:=
 bif chk&&yOK E ops&&bOK E.h.n ops B s then
  Va E true ops (X1 n (ops.toList.take n)) s λs1=>
   bif Pa (ops.toList.take n) s1&&(yL E ops).all (λy=>(B.map (·.1)).contains y|| !(s1.t y).own)&&B.all (λp=>D5 (s1.t p.1))then tail ((s1.backs B).promA ((ops.toList.take n).map (·.dst))) K else none
 else none
def needL(ops:Array Oper)(n:Nat):List Nat:=(range n).reverse.foldl (λu i=>bif u.any λj=>Region.waitsFor .any ops j i then i::u else u) [n]
def UJ(ops:Array Oper)(n:Nat):List Nat:=(range n).filter λi=>!(needL ops n).contains i
def AaO{R:Type}(E:Env)(ops:Array Oper)(n:Nat)(fs:List Nat)(s:St)(K:St->Option R):Option R:=match ops.toList.drop n with
 |[o1,o2,o3]=>bif o1.guard.isNone&&o2.guard.isNone&&o3.guard.isNone then(match VK E s (fs.filterMap λf=>ops[f]?) o1 o2 o3 with
  |some A=>oif A.p A.dec (K A.s)
  |none=>none)else none
 |_=>none
def M0{R:Type}(E:Env)(n:Nat)(ops:Array Oper)(B:List (Nat×Nat))(s:St)(K:St->Option R):Option R:=
 bif Ia ops n then Kx E n ops B true (λs K=>tops E ops (X1 ops.size (ops.toList.drop n)) s K) s K
 else Kx E n ops B (Qa ops n&&flsB ops n (UJ ops n)&&flT E ops (UJ ops n)) (AaO E ops n (UJ ops n)) s K
theorem HG:∀{l:List Nat},ndB l=true->l.Nodup
 |[],_=>List.nodup_nil
 |a::l,h=>by
  have h:(!l.contains a&&ndB l)=true:=h;rw[bAE,not_eq_true']at h;refine List.nodup_cons.2 ⟨λu=>?_,HG h.2⟩
  grind
def JA{a b:List Oper}:As (a++b) i=(As a i&&As b i):=by
 unfold As;simp
theorem yB_mem(u:yOK E ops=true)(h:yB E ops i=true):i∈yL E ops:=by
 obtain⟨o,A,J⟩:=List.any_eq_true.1 h;have U:=aET.1 u o A;have O:=Yl J;refine List.mem_eraseDups.2 (mem_filterMap.2 ⟨o,A,?_⟩)
 grind
theorem yL_nd(h:i∈yL E ops):∀j,AH ops j≠some i:=by
 obtain⟨o,_,u⟩:=mem_filterMap.1 (List.mem_eraseDups.1 h);split at u
 .rename_i y J
  cases A:D4 ops y with
  |false=>grind
  |true=>
   rw[A]at u;cases u;exact CK A
 grind
theorem bOKn{K:St->Option R}{z:R}(h:M0 E n ops B s K=some z):∀p∈B,p.1<E.h.n:=by
 have key:∀(chk:Bool) (tail:St->(St->Option R)->Option R),Kx E n ops B chk tail s K=some z->∀p∈B,p.1<E.h.n:=by
  intro chk tail h p A;unfold Kx at h;cases u:bOK E.h.n ops B s with
  |false=>grind
  |true=>
   unfold bOK at u;rw[bAE]at u;have:=aET.1 u.2 p A;simp only[bAE]at this;exact blE this.1.1.1
 unfold M0 at h
 grind
theorem MZ{C:Ctx}(hE:EOK P E)(hm:P.follows .mixedOrders=true){id n:Nat}{ops:Array Oper}{B:List (Nat×Nat)}{s:St}{K:St->Option R}{z:R}{a:Act}{w:World}{Q:Exit->Act->World->Prop}
  (hpr:∃D ρ F T,PR C E.h.n s.den.σ ρ F s.den.t a {w with drawn:=w.drawn+1} D T/\(∀x b,T x b->x∈yL E ops)/\∀p∈B,a.tmps.getD p.1 undef=ρ p.2)
  {chk:Bool}{tail:St->(St->Option R)->Option R}{fs:List Nat} (h:Kx E n ops B chk tail s K=some z) (hqk:chk=true->QOK ops n)
  (htail:∀(Q':Exit->Act->World->Prop) (s2:St) (a:Act) (w:World),AQ C E.h.n s2.den a w->tail s2 K=some z->(∀s' a' w',Kp (As (ops.toList.drop n)) s2 s'->AQ C E.h.n s'.den a' w'->K s'=some z->Q' .normal a' w')->wpList P ops Q' (ops.toList.drop n) a w)
  (hr:chk=true->QU ops n\/(FLS ops n fs/\FlT P ops fs/\∀(s2:St) (a:Act) (w:World),AQ C E.h.n s2.den a w->tail s2 K=some z->FlH P ops n fs a w))
  (hK:∀s' a' w',(∀i,(As ops.toList i&& !(yL E ops).contains i)=true->(∀p∈B,p.1≠i)->(s.t i).stay=true->s'.t i=s.t i)->(∀id,id<s.r.length->(∀p∈B,p.2≠id)->(s.r.getD id .dead).isRo=true->s'.r.getD id .dead=s.r.getD id .dead)->s.r.length<=s'.r.length->AQ C E.h.n s'.den a' w'->K s'=some z->Q .normal a' w'):(Code.region id ops true).wp P Q a w:=by
 unfold Kx at h;obtain⟨Y,h⟩:=Bc h;rw[bAE,bAE]at Y;obtain⟨⟨Y,hyk⟩,hbk⟩:=Y;unfold bOK at hbk;rw[bAE,bAE]at hbk;obtain⟨⟨hb1,hb2⟩,hb3⟩:=hbk;have hB:∀p∈B,p.1<E.h.n/\p.2<s.r.length/\D4 ops p.1=true/\s.r.getD p.2 .dead=.dead:=by
  intro p hp;have:=aET.1 hb3 p hp;simp only[bAE]at this;obtain⟨⟨⟨g1,g2⟩,g3⟩,g4⟩:=this;refine⟨blE g1,blE g2,g3,?_⟩;split at g4
  .assumption
  .cases g4
 let K1:St->Option R:=λs1=>bif Pa (ops.toList.take n) s1&&(yL E ops).all (λy=>(B.map (·.1)).contains y|| !(s1.t y).own)&&B.all (λp=>D5 (s1.t p.1))then tail ((s1.backs B).promA ((ops.toList.take n).map (·.dst))) K else none
 have hv:=Yj hE (ops:=ops) (K:=K1) (z:=z) (Kt:=λt=>∃s1:St,s1.r=s.r/\(∀i,As ops.toList i=true->yB E ops i=false->s1.t i=s.t i)/\VLe t s1.den.t/\K1 s1=some z) (X1 n (ops.toList.take n)) s s.den.t (λo ho=>by rw[Ct]at ho;exact List.mem_of_mem_take ho) (λi=>.inl rfl) h
  (λs' t' h1 h2 h3 h4=>⟨s',h1,h2,h3,h4⟩)
 rw[Ct]at hv
 have Z:∀t,(∃s1:St,s1.r=s.r/\(∀i,As ops.toList i=true->yB E ops i=false->s1.t i=s.t i)/\VLe t s1.den.t/\K1 s1=some z)->∃s1:St,s1.r=s.r/\(∀i,As ops.toList i=true->yB E ops i=false->s1.t i=s.t i)/\tail ((s1.backs B).promA ((ops.toList.take n).map (·.dst))) K=some z/\
   (∀x,x∈yL E ops->x∈B.map (·.1)\/AN (t x)=false)/\(∀p∈B,Kn (t p.1))/\∀a1 w1,AQ C E.h.n (promA ((ops.toList.take n).map (·.dst)) (backs B ⟨t,s.den.σ⟩)) a1 w1->AQ C E.h.n ((s1.backs B).promA ((ops.toList.take n).map (·.dst))).den a1 w1:=by
  rintro t ⟨s1,A,ht1,hvl,u⟩
  have u:(bif Pa (ops.toList.take n) s1&&(yL E ops).all (λy=>(B.map (·.1)).contains y|| !(s1.t y).own)&&B.all (λp=>D5 (s1.t p.1))then tail ((s1.backs B).promA ((ops.toList.take n).map (·.dst))) K else none)=some z:=u
  obtain⟨ho,u⟩:=Bc u;rw[bAE,bAE]at ho;obtain⟨⟨ho,hyo⟩,hro⟩:=ho
  have W:∀p∈B,D5 (s1.t p.1)=true/\t p.1=s1.den.t p.1:=by
   intro p hp;have h1:=aET.1 hro p hp;refine⟨h1,?_⟩;rcases hvl p.1 with e|e
   .exact e
   .obtain⟨_,h3,⟨s0,sz,nn,f,h4,_⟩,_⟩:=Co h1
    have e1:(s1.t p.1).v s1.r=.dead:=e.1;rw[h3,h4]at e1;cases e1
  refine⟨s1,A,ht1,u,λx hx=>?_,λp hp=>?_,λa1 w1 U=>?_⟩
  .have h1:=aET.1 hyo x hx
   rw[or_eq_true]at h1;rcases h1 with h1|h1
   .exact .inl (by simpa using h1)
   right
   have h2:AN (s1.den.t x)=false:=by
    show AN ((s1.t x).v s1.r)=false;rw[Sl.own_v];simpa using h1
   rcases hvl x with e|e
   .rw[e];exact h2
   .exact e.2
  .obtain⟨g1,g2⟩:=W p hp
   rw[g2];show Kn ((s1.t p.1).v s1.r);rw[(Co g1).2.1];exact(Co g1).2.2.1
  have hP:Zo ((ops.toList.take n).map (·.dst)) ⟨t,s.den.σ⟩ s1:=by
   refine⟨by show s.r.map Ae.v=s1.r.map Ae.v;rw[A],λi=>?_,λi J=>⟨λhoi=>?_,?_⟩⟩
   .rcases hvl i with e|e
    .show Ay (t i) _
     rw[e];exact Ay.refl _
    .rw[e.1];exact Ay.dead _
   .obtain⟨o,ho1,ho2⟩:=mem_map.1 J
    have:=aET.1 ho o ho1;rw[ho2]at this;simp only[or_eq_true,not_eq_true']at this;rcases this with h|h
    .rw[hoi]at h;cases h
    .exact h
   .rcases hvl i with e|e
    .exact .inl e
    .right
     refine⟨?_,e.2⟩
     have:AN ((s1.t i).v s1.r)=false:=by
      show AN (s1.den.t i)=false;rw[e.1];rfl
     rw[Sl.own_v]at this;exact this
  have hP2:=J3 B _ _ hP (HG hb1) λp hp=>by
   obtain⟨g1,g2⟩:=W p hp;obtain⟨_,k2,k3,_⟩:=hB p hp;refine⟨λhm=>?_,by rw[A];exact k2,g2,g1⟩
   obtain⟨o,ho1,ho2⟩:=mem_map.1 hm;obtain⟨j,hj⟩:=List.mem_iff_getElem?.1 (List.mem_of_mem_take ho1);refine CK k3 j ?_;unfold AH;rw[<-Array.getElem?_toList,hj];exact ho2
  obtain⟨g1,g2⟩:=Jw _ _ _ hP2;exact U.sub (by rw[g2]) (λi _=>by rw[g2];exact Sub.refl _) g1
 refine vdrawB (X:=λx=>x∈yL E ops) B n fs hm (hqk Y) hv (λx hx=>yL_nd hx) (HG hb1) (HG hb2) (λp hp=>?_) ?_ ((hr Y).imp (λh=>h) fun⟨k1,k2,k3⟩=>⟨k1,k2,λt a1 w1 hkt U=>by
  obtain⟨s1,_,_,u,_,_,hsr⟩:=Z t hkt;exact k3 _ _ _ (hsr _ _ U) u⟩) hpr
 .obtain⟨g1,g2,g3,g4⟩:=hB p hp
  refine⟨g1,by simpa [St.den]using g2,?_,CK g3⟩
  show(s.r.map Ae.v).getD p.2 .dead=.dead;rw[Ax,g4];rfl
 intro Q' hQ' t a1 w1 hkt;obtain⟨s1,A,ht1,u,hfx,hfp,hsr⟩:=Z t hkt;refine⟨hfx,hfp,λU=>?_⟩
 have hs2:=hsr _ _ U
 .skip
  obtain⟨b1,b2,b3⟩:=MH B s1
  have hsp:∀i,(As ops.toList i&& !(yL E ops).contains i)=true->As ops.toList i=true/\yB E ops i=false:=by
   intro i J;rw[bAE,not_eq_true']at J;refine⟨J.1,?_⟩;cases hy:yB E ops i with
   |false=>rfl
   |true=>
    have:=yB_mem hyk hy;have:(yL E ops).contains i=true:=by simpa using this
    rw[J.2]at this;cases this
  have k1:=HD (ops.toList.take n) (s1.backs B)
  have O:∀i,(As ops.toList i&& !(yL E ops).contains i)=true->As (ops.toList.take n) i=true/\As (ops.toList.drop n) i=true:=by
   intro i J;have J:=(hsp i J).1;rw[<-List.take_append_drop n ops.toList,JA,bAE]at J;exact J
  refine htail Q' _ a1 w1 hs2 u λs' a' w' hk hs' hz=>hQ' _ _ (hK s' a' w' (λi J hiB hst=>?_) (λid hl hiB hrr=>?_) ?_ hs' hz)
  .have e1:s1.t i=s.t i:=ht1 i (hsp i J).1 (hsp i J).2
   have e2:(s1.backs B).t i=s1.t i:=b1 i hiB (by rw[e1];exact hst)
   have e3:=k1.t i (O i J).1 (by rw[e2,e1];exact hst)
   rw[hk.t i (O i J).2 (by rw[e3,e2,e1];exact hst),e3,e2,e1]
  .have e2:(s1.backs B).r.getD id .dead=s.r.getD id .dead:=(b2 id hiB).trans (by rw[A])
   have hl2:id<(s1.backs B).r.length:=by rw[b3,A];exact hl
   have e3:=k1.r id hl2 (by rw[e2];exact hrr)
   rw[hk.r id (Nat.lt_of_lt_of_le hl2 k1.l) (by rw[e3,e2];exact hrr),e3,e2]
  .have:s.r.length=(s1.backs B).r.length:=by rw[b3,A]
   rw[this];exact Nat.le_trans k1.l hk.l
def VC{C:Ctx}(hE:EOK P E)(hm:P.follows .mixedOrders=true){id n:Nat}{ops:Array Oper}{B:List (Nat×Nat)}{s:St}{K:St->Option R}{z:R}{a:Act}{w:World}{Q:Exit->Act->World->Prop}
  (hpr:∃D ρ F T,PR C E.h.n s.den.σ ρ F s.den.t a {w with drawn:=w.drawn+1} D T/\(∀x b,T x b->x∈yL E ops)/\∀p∈B,a.tmps.getD p.1 undef=ρ p.2)
  (h:M0 E n ops B s K=some z) (hK:∀s' Z w',(∀i,(As ops.toList i&& !(yL E ops).contains i)=true->(∀p∈B,p.1≠i)->(s.t i).stay=true->s'.t i=s.t i)->(∀id,id<s.r.length->(∀p∈B,p.2≠id)->(s.r.getD id .dead).isRo=true->s'.r.getD id .dead=s.r.getD id .dead)->s.r.length<=s'.r.length->AQ C E.h.n s'.den Z w'->K s'=some z->Q .normal Z w'):(Code.region id ops true).wp P Q a w:=by
 unfold M0 at h;cases hq:Ia ops n with
 |true=>
  rw[hq]at h;obtain⟨h1,h2⟩:=Nr hq;refine MZ (fs:=[]) hE hm hpr h (λ_=>h1) (λQ' O a w hs u hk=>?_) (λ_=>.inl h2) hK
  have e:ops.toList.drop n=(X1 ops.size (ops.toList.drop n)).flatMap Seg.ops:=(Ct _ _).symm;rw[e];refine Vw hE _ _ a w hs u λs' Z w' hkp hs' hz=>hk s' Z w' ?_ hs' hz
  rw[Ct]at hkp;exact hkp
 |false=>
  rw[hq]at h;simp only[cond_false]at h
  have Y:∀O,AaO E ops n (UJ ops n) O K=some z->∃J W U A,ops.toList.drop n=[J,W,U]/\J.guard=none/\W.guard=none/\U.guard=none/\VK E O ((UJ ops n).filterMap λf=>ops[f]?) J W U=some A/\A.p/\K A.s=some z:=by
   intro O u;unfold AaO at u;split at u
   case h_2=>cases u
   rename_i J W U hd;obtain⟨hg,u⟩:=Bc u;simp only[bAE,Option.isNone_iff_eq_none]at hg;split at u
   case h_2=>cases u
   rename_i A hA;unfold oif at u;split at u
   .rename_i hp
    exact⟨J,W,U,A,hd,hg.1.1,hg.1.2,hg.2,hA,hp,u⟩
   .cases u
  refine MZ (fs:=UJ ops n) hE hm hpr h (λhc=>?_) (λQ' O a w hs u hk=>?_) (λhc=>?_) hK
  .rw[bAE,bAE]at hc
   exact Js hc.1.1
  .obtain⟨J,W,U,A,hd,g1,g2,g3,hA,hp,hKA⟩:=Y O u
   rw[hd]at hk⊢;have w1:∀(o:Oper) (a:Act),o.guard=none->Region.wanted o (yielded ops a.tmps)=true:=λo a hg=>by simp[Region.wanted,hg]
   unfold wpList;rw[if_pos (w1 J a g1)];refine .inl (Oper.wp_mono (λa1 w1' h1=>?_) (VI (Q:=Q') hE.Θ hA hp hs (next:=λZ w'=>Q' .normal Z w') λZ w' hs'=>hk A.s Z w' (VJ hA) hs' hKA))
   unfold wpList;rw[if_pos (w1 W a1 g2)];refine .inl (Oper.wp_mono (λa2 w2' h2=>?_) h1)
   unfold wpList;rw[if_pos (w1 U a2 g3)];exact .inl h2
  .rw[bAE,bAE]at hc
   refine .inr ⟨Xo hc.1.2,Aaf hE.Θ hc.2,λO a w hs u=>?_⟩
   obtain⟨J,W,U,A,hd,g1,g2,g3,hA,hp,hKA⟩:=Y O u;have hon:ops[n]? =some J:=by
    have h1:(ops.toList.drop n)[0]? =some J:=by rw[hd];rfl
    rw[List.getElem?_drop]at h1;simpa using h1
   refine Aa4 hE.Θ hA hp hs hon (λf hf o ho=>mem_filterMap.2 ⟨f,hf,ho⟩) (Aaf hE.Θ hc.2)
def AaK{R:Type}(E:Env)(n:Nat)(ops:Array Oper)(s:St)(K:St->Option R):Option R:=match N4 (ops.toList.flatMap (capsF E.h.fz)) s with
 |some u=>match JV (yL E ops) u with
  |some s1=>M0 E n ops (bL E ops u) s1 K
  |none=>none
 |none=>none
theorem Yk(hE:EOK P E)(W:P.follows .mixedOrders=true){id n:Nat}{ops:Array Oper}{K:St->Option R}{z:R}{Q:Exit->Act->World->Prop}(hs:AQ C E.h.n s.den a w)
  (h:AaK E n ops s K=some z) (hK:∀s' a' w',Kp (As ops.toList) s s'->AQ C E.h.n s'.den a' w'->K s'=some z->Q .normal a' w'):(Code.region id ops true).wp P Q a w:=by
 unfold AaK at h;split at h
 case h_2=>cases h
 rename_i s0 hg;split at h
 case h_2=>cases h
 rename_i s1 hd;have O:∀p∈bL E ops s0,p.1∈yL E ops/\Cu s0 p.1=some p.2:=by
  intro p A;obtain⟨y,hy,he⟩:=mem_filterMap.1 A
  grind
 refine VC hE W ?_ h λs' a' w' q1 q2 q3=>hK s' a' w' ?_
 .obtain⟨D,ρ,F,T,hpr,hT,U⟩:=Oe hd (I2 _ hg hs) (Below.drew w)
  exact⟨D,ρ,F,T,hpr,hT,λp A=>U p.1 p.2 (bOKn h p A) (O p A).2⟩
 have k1:=I3 _ hg;have k2:=Of hd
 have hnY:∀i,(s0.t i).stay=true->(yL E ops).contains i=false:=by
  intro i u;cases hc:(yL E ops).contains i with
  |false=>rfl
  |true=>
   have W:i∈yL E ops:=by simpa using hc
   exfalso;unfold JV at hd;split at hd
   .rename_i hY
    rw[hY]at W;cases W
   split at hd
   case h_2=>cases hd
   rename_i ids Y;obtain⟨id,_,hid⟩:=(JL Y).1 i W;rw[(Cj hid).2.1]at u;cases u
 have k3:Kp (As ops.toList) s0 s':=by
  refine⟨λi hi u=>?_,λid hl J=>?_,Nat.le_trans k2.l q3⟩
  .have e:=k2.t i rfl u
   have Z:=hnY i u;rw[q1 i (by rw[hi,Z];rfl) (λp A he=>?_) (by rw[e];exact u),e]
   have:=(O p A).1;rw[he]at this;have:(yL E ops).contains i=true:=by simpa using this
   rw[Z]at this;cases this
  .have e:=k2.r id hl J
   rw[q2 id (Nat.lt_of_lt_of_le hl k2.l) (λp A he=>?_) (by rw[e];exact J),e]
   have:=(Cj (O p A).2).1;rw[he,J]at this;cases this
 exact k1.trans k3 (λ_ _=>rfl) λ_ hi=>hi
end Go.Ve


namespace Go.Ve
inductive LK where
 |val (n:Nat) (agg:Bool)
 |ref (id:Nat)
 |ptr (id:Nat)
 |pth (id:Nat) (p:AX)
 |mrf (id:Nat) (p:AX)
 |no
def eqP:AX->AX->Bool
 |[],[]=>true
 |(i,k)::p,(i',k')::q=>beq i i'&&beq k k'&&eqP p q
 |_,_=>false
def Aag:∀p q:AX,eqP p q=true->p=q
 |[],[],_=>rfl
 |(i,k)::p,(i',k')::q,h=>by
  have h:(beq i i'&&beq k k'&&eqP p q)=true:=h;simp only[bAE]at h;rw[bqE h.1.1,bqE h.1.2,Aag p q h.2]
 |[],_::_,h=>by cases h
 |_::_,[],h=>by cases h
def okV:Cl->Bool
 |.c t _ _=>t.one
 |_=>false
def lk:Sl->LK
 |.one (.c t _ _)=>bif t.one then .val 1 false else .no
 |.one (.rf id [])=>.ref id
 |.one (.rp id [] 0 0)=>.ptr id
 |.one (.rf id (a::q))=>.pth id (a::q)
 |.one (.rm id p)=>.mrf id p
 |.agg l=>bif l.all okV then .val l.length true else .no
 |_=>.no
def dyC:Cl->Option Dy
 |.c t d x=>bif t.one&& !(Cl.c t d x).own then some ⟨t,x⟩else none
 |_=>none
def dyL:List Cl->Option (List Dy)
 |[]=>some []
 |y::l=>match dyC y with
  |some z=>match dyL l with
   |some m=>some (z::m)
   |none=>none
  |none=>none
def Dy.cl(y:Dy):Cl:=.c y.t 0 y.x
def dyP:AX->List Dy
 |[]=>[]
 |(i,_)::p=>⟨.int .i64,(Int.ofNat i:Int)⟩::dyP p
def Yy:AX->AX->Bool
 |[],[]=>true
 |(_,k)::p,(_,k')::q=>beq k k'&&Yy p q
 |_,_=>false
def Dy.nat:Dy->Nat
 |⟨.int _,x⟩=>Int.toNat x
 |_=>0
def UU:AX->List Dy->AX
 |[],_=>[]
 |(_,k)::p,y::cs=>(y.nat,k)::UU p cs
 |(_,k)::p,[]=>(0,k)::UU p []
def Xg(k:LK)(y:Sl):Option (List Dy×List (Nat×Nat)):=match k,y with
 |.val _ false,.one c=>match dyC c with
  |some z=>some ([z],[])
  |none=>none
 |.val n true,.agg l=>bif beq l.length n then(match dyL l with
  |some m=>some (m,[])
  |none=>none)else none
 |.ref id,.one (.rf id' [])=>some ([],[(id,id')])
 |.ptr id,.one (.rp id' [] 0 0)=>some ([],[(id,id')])
 |.pth id p,.one (.rf id' p')=>bif Yy p p' then some (dyP p',[(id,id')])else none
 |.mrf id p,.one (.rm id' p')=>bif eqP p p' then some ([],[(id,id')])else none
 |.no,_=>some ([],[])
 |_,_=>none
def UR(t0:Nat->Sl)(t:Nat->Sl):List Nat->Option (List Dy×List (Nat×Nat))
 |[]=>some ([],[])
 |d::L=>match Xg (lk (t0 d)) (t d)with
  |some (a,b)=>match UR t0 t L with
   |some (a',b')=>some (a++a',b++b')
   |none=>none
  |none=>none
def piF(m:List (Nat×Nat))(i:Nat):Nat:=match m with
 |[]=>i
 |(a,b)::m=>bif beq a i then b else piF m i
def dyA:List Cl->Option (List Dy)
 |[]=>some []
 |.c t _ x::l=>bif t.one then(match dyA l with
  |some m=>some (⟨t,x⟩::m)
  |none=>none)else none
 |_::_=>none
def Aab:Ae->Option (List Dy)
 |.arr _ t _ xs=>some [⟨.sl t,xs⟩]
 |.obj _ l=>dyA l
 |.opt _ _ _ _=>none
 |.mp _ k v x=>some [⟨.mp k v,x⟩]
 |.dead=>none
def Y5(r:List Ae)(π:Nat->Nat):List Nat->Option (List Dy)
 |[]=>some []
 |id::l=>match Aab (r.getD (π id) .dead)with
  |some a=>match Y5 r π l with
   |some b=>some (a++b)
   |none=>none
  |none=>none
def Xr(k:LK)(cs:List Dy):Sl×List Dy:=match k with
 |.val _ false=>(match cs with
  |y::_=>.one y.cl
  |[]=>.one .dead,cs.drop 1)
 |.val n true=>(.agg ((cs.take n).map Dy.cl),cs.drop n)
 |.ref id=>(.one (.rf id []),cs)
 |.ptr id=>(.one (.rp id [] 0 0),cs)
 |.pth id p=>(.one (.rf id (UU p cs)),cs.drop p.length)
 |.mrf id p=>(.one (.rm id p),cs)
 |.no=>(.one .dead,cs)
def Ko(t0:Nat->Sl):List Nat->List Dy->(Nat->Sl)->(Nat->Sl)×List Dy
 |[],cs,t=>(t,cs)
 |d::L,cs,t=>Ko t0 L (Xr (lk (t0 d)) cs).2 (AK t d (Xr (lk (t0 d)) cs).1)
def JR:List Cl->List Dy->List Cl×List Dy
 |[],cs=>([],cs)
 |.c t d _::l,y::cs=>(match(if h:y.t=t then some (h▸y.x)else none:Option t.T)with
  |some x=>.c t d x
  |none=>.dead)::(JR l cs).1|>λm=>(m,(JR l cs).2)
 |_::l,cs=>(.dead::(JR l cs).1,(JR l cs).2)
def Xs:Ae->List Dy->Ae×List Dy
 |.arr _ t d _,y::cs=>(match y with
  |⟨.sl t',xs⟩=>if h:t'=t then .arr false t d (h▸xs)else .dead
  |_=>.dead,cs)
 |.arr _ _ _ _,[]=>(.dead,[])
 |.obj _ l,cs=>(.obj false (JR l cs).1,(JR l cs).2)
 |.opt _ _ _ _,cs=>(.dead,cs)
 |.mp _ k v _,y::cs=>(match Is (.mp k v) y with
  |some xs=>.mp false k v xs
  |none=>.dead,cs)
 |.mp _ _ _ _,[]=>(.dead,[])
 |.dead,cs=>(.dead,cs)
def He(r0:List Ae):List Nat->List Dy->List Ae->List Ae
 |[],_,r=>r
 |id::l,cs,r=>He r0 l (Xs (r0.getD id .dead) cs).2 (r.set id (Xs (r0.getD id .dead) cs).1)
def BI:Ae->Ae
 |.arr _ t d xs=>.arr true t d xs
 |.obj _ l=>.obj true l
 |.opt _ t d x=>.opt true t d x
 |.mp _ k v x=>.mp true k v x
 |.dead=>.dead
def BD(ro:Bool)(b:List Oper)(L Rh:List Nat)(u:St)(cs:List Dy):St:=
 let base:Nat->Sl:=λi=>bif As b i&&(u.t i).stay then u.t i else .one .dead
 let f:=Ko u.t L cs base
 ⟨f.1,He u.r Rh f.2 (bif ro then u.r.map BI else u.r)⟩
end Go.Ve


namespace Go.Ve
variable{c:Cl}{r r':List Ae}{a rest:List Dy}{n:Nat}{π:Nat->Nat}{y:Sl}
def Yz:List Cl->List Cl->Bool
 |[],[]=>true
 |.c t d _::l,.c t' d' _::m=>decide (t'=t)&&beq d' d&&Yz l m
 |_,_=>false
def Aa3:Ae->Ae->Bool
 |.arr _ t d _,.arr _ t' d' _=>decide (t'=t)&&beq d' d
 |.obj _ l,.obj _ m=>Yz l m
 |.mp _ k v _,.mp _ k' v' _=>decide (k'=k)&&decide (v'=v)
 |_,_=>false
def Yd:Ae->Ae
 |.arr _ t d xs=>.arr false t d xs
 |.obj _ l=>.obj false l
 |.opt _ t d x=>.opt false t d x
 |.mp _ k v x=>.mp false k v x
 |.dead=>.dead
def unRo_v(r:Ae):(Yd r).v=r.v/\(Yd r).len=r.len:=by cases r<;>first|trivial|exact⟨rfl,Pl⟩
def LN(r:Ae):(BI r).v=r.v/\(BI r).len=r.len:=by cases r<;>first|trivial|exact⟨rfl,Pl⟩
def Jm(r:Ae)(i:Nat):(BI r).cells i=r.cells i:=by cases r<;>cases i<;>rfl
def Uj(c:Cl)(b u:Bool):BI (c.node b)=BI (c.node u):=by
 cases c with
 |c t d x=>cases t<;>cases d<;>rfl
 |_=>rfl
def Yu(r:Ae):BI (Yd r)=BI r:=by cases r<;>rfl
def Jl(r:Ae):BI (BI r)=BI r:=by cases r<;>rfl
def Zm:∀(q:AX) (r r':Ae),BI r=BI r'->(r.at' q).len=(r'.at' q).len
 |[],r,r',h=>by
  show r.len=r'.len;rw[<-(LN r).2,<-(LN r').2,h]
 |(i,k)::q,r,r',h=>by
  show((((r.cells i).getD k .dead).node r.ro).at' q).len=((((r'.cells i).getD k .dead).node r'.ro).at' q).len;have e:r.cells i=r'.cells i:=by rw[<-Jm r,<-Jm r',h]
  rw[e];exact Zm q _ _ (Uj _ _ _)
theorem K7:∀(p u:AX) (rest:List Dy),Yy p u=true->UU p (dyP u++rest)=u/\(dyP u++rest).drop p.length=rest
 |[],[],rest,_=>⟨rfl,rfl⟩
 |(i,k)::p,(i',k')::u,rest,h=>by
  have h:(beq k k'&&Yy p u)=true:=h;rw[bAE]at h;obtain⟨a,b⟩:=K7 p u rest h.2;have A:=bqE h.1;subst A;refine⟨?_,b⟩;show(Int.toNat (Int.ofNat i'),k)::UU p (dyP u++rest)=_
  simp_all
 |[],_::_,_,h=>by cases h
 |_::_,[],_,h=>by cases h
theorem UV:∀(l m:List Cl) (a:List Dy) (rest:List Dy),Yz l m=true->dyA m=some a->JR l (a++rest)=(m,rest):=by
 intro l
 induction l with
 |nil=>intro m a rest h u;cases m with
  |nil=>cases u;rfl
  |cons y m=>cases y<;>cases h
 |cons y l U=>
  intro m a rest h u;cases m with
  |nil=>cases y<;>cases h
  |cons z m=>
   cases y with
   |c t d x=>
    cases z with
    |c A O J=>
     have h:(decide (A=t)&&beq O d&&Yz l m)=true:=h;simp only[bAE,decide_eq_true_eq]at h;obtain⟨⟨rfl,hd⟩,hl⟩:=h;have hd:=bqE hd;subst hd
     have u:(bif A.one then(match dyA m with
      |some m=>some ((⟨A,J⟩:Dy)::m)
      |none=>none)else none)=some a:=u
     obtain⟨Y,u⟩:=Bc u;split at u
     case h_2=>cases u
     rename_i b W;cases u
     show((match(if h:A=A then some (h▸J)else none:Option A.T)with
      |some x=>Cl.c A O x
      |none=>.dead)::(JR l (b++rest)).1,(JR l (b++rest)).2)=_
     rw[U m b rest hl W];simp
    |_=>cases h
   |_=>cases z<;>cases h
def Ps{old new:Ae}(h:Aa3 old new=true)(O:Aab new=some a):Xs old (a++rest)=(Yd new,rest):=by
 cases old with
 |arr ro t d xs=>
  cases new with
  |arr A J U u=>
   have h:(decide (J=t)&&beq U d)=true:=h;simp only[bAE,decide_eq_true_eq]at h;obtain⟨rfl,hd⟩:=h;have hd:=bqE hd;subst hd;cases O;show((if h:J=J then Ae.arr false J U (h▸u)else .dead),rest)=_
   simp[Yd]
  |_=>cases h
 |obj ro l=>
  cases new with
  |obj A m=>
   show(Ae.obj false (JR l (a++rest)).1,(JR l (a++rest)).2)=_;rw[UV l m a rest h O];rfl
  |_=>cases h
 |dead=>trivial
 |opt=>trivial
 |mp ro k v xs=>
  cases new with
  |mp A k' v' u=>
   have h:(decide (k'=k)&&decide (v'=v))=true:=h;simp only[bAE,decide_eq_true_eq]at h;obtain⟨rfl,rfl⟩:=h;cases O
   show(match Is (.mp k' v') ⟨.mp k' v',u⟩with
    |some xs=>Ae.mp false k' v' xs
    |none=>.dead,rest)=_
   simp[Yd,Is]
  |_=>cases h
def IK(k:LK)(y:Sl):Sl:=match k,y with
 |.val _ false,.one c=>(match dyC c with
  |some z=>.one z.cl
  |none=>.one .dead)
 |.val _ true,.agg l=>(match dyL l with
  |some m=>.agg (m.map Dy.cl)
  |none=>.one .dead)
 |.ref id,_=>.one (.rf id [])
 |.ptr id,_=>.one (.rp id [] 0 0)
 |.pth id _,.one (.rf _ p')=>.one (.rf id p')
 |.mrf id p,_=>.one (.rm id p)
 |_,_=>.one .dead
theorem UT{k:LK}{m:List (Nat×Nat)}(h:Xg k y=some (a,m)):Xr k (a++rest)=(IK k y,rest):=by
 unfold Xg at h;split at h
 .split at h
  case h_2=>cases h
  rename_i z O;cases h;unfold Xr IK;simp[O]
 .rename_i n l
  obtain⟨J,h⟩:=Bc h;split at h
  case h_2=>cases h
  rename_i z O;cases h
  have u:∀(l:List Cl) (z:List Dy),dyL l=some z->z.length=l.length:=by
   intro l
   induction l with
   |nil=>intro z h;cases h;rfl
   |cons y l Y=>
    intro z h;unfold dyL at h
    grind
  have hl:=u l a O;have Z:=bqE J;unfold Xr IK
  grind
 .cases h;rfl
 .cases h;rfl
 .rename_i id p id' A
  obtain⟨J,h⟩:=Bc h;cases h;obtain⟨W,U⟩:=K7 p A rest J;show(Sl.one (.rf id (UU p (dyP A++rest))),(dyP A++rest).drop p.length)=(Sl.one (.rf id A),rest);rw[W,U]
 .obtain⟨J,h⟩:=Bc h
  cases h;rfl
 .cases h;rfl
 .cases h
def Lg(t0 u:Nat->Sl):List Nat->(Nat->Sl)->Nat->Sl
 |[],t=>t
 |d::L,t=>Lg t0 u L (AK t d (IK (lk (t0 d)) (u d)))
def K8{t0 u:Nat->Sl}:∀(L:List Nat) (a rest:List Dy) (m:List (Nat×Nat)) (t:Nat->Sl),UR t0 u L=some (a,m)->Ko t0 L (a++rest) t=(Lg t0 u L t,rest)
 |[],a,rest,m,t,h=>by cases h;rfl
 |d::L,a,rest,m,t,h=>by
  unfold UR at h;split at h
  case h_2=>grind
  rename_i a1 U J;split at h
  case h_2=>grind
  rename_i a2 O A;cases h;unfold Ko;rw[List.append_assoc,UT J];exact K8 L a2 rest O _ A
theorem Lf{t0 u:Nat->Sl}:∀(L:List Nat) (t:Nat->Sl) (i:Nat),Lg t0 u L t i=if L.contains i then IK (lk (t0 i)) (u i)else t i
 |[],t,i=>rfl
 |d::L,t,i=>by
  unfold Lg;rw[Lf L];by_cases A:L.contains i=true
  .grind
  .rw[if_neg A]
   by_cases hd:i=d
   .subst hd
    rw[if_pos (by simp)]
    unfold AK;simp
   .have:(d::L).contains i=false:=by
     grind
    rw[this,A1 hd];rfl
def Bq(r':List Ae)(π:Nat->Nat):List Nat->List Ae->List Ae
 |[],r=>r
 |id::l,r=>Bq r' π l (r.set id (Yd (r'.getD (π id) .dead)))
def K6{r0 r':List Ae}{π:Nat->Nat}:∀(Rh:List Nat) (a:List Dy) (r:List Ae),Rh.all (λi=>Aa3 (r0.getD i .dead) (r'.getD (π i) .dead))=true->Y5 r' π Rh=some a->He r0 Rh a r=Bq r' π Rh r
 |[],a,r,_,h=>rfl
 |id::l,a,r,hs,h=>by
  rw[List.all_cons,bAE]at hs;unfold Y5 at h;split at h
  case h_2=>grind
  rename_i a1 A;split at h
  case h_2=>grind
  rename_i a2 u;cases h;unfold He;rw[Ps hs.1 A];exact K6 l a2 _ hs.2 u
def Lh{r':List Ae}{π:Nat->Nat}:∀(Rh:List Nat) (r:List Ae),(Bq r' π Rh r).length=r.length
 |[],_=>rfl
 |id::l,r=>by unfold Bq;rw[Lh l,List.length_set]
def Li{r':List Ae}{π:Nat->Nat}:∀(Rh:List Nat) (r:List Ae) (i:Nat),i<r.length->(Bq r' π Rh r).getD i .dead=if Rh.contains i then Yd (r'.getD (π i) .dead)else r.getD i .dead
 |[],r,i,_=>rfl
 |id::l,r,i,hi=>by
  unfold Bq;rw[Li l _ i (by grind)]
  grind
def Aac(m:List (Nat×Nat))(L Rh:List Nat)(u s':St)(keep:Nat):Bool:=
 (range u.r.length).all (λi=>blt (piF m i) s'.r.length)&&
 (range u.r.length).all (λi=>(range u.r.length).all λj=>beq i j|| !beq (piF m i) (piF m j))&&
 (range u.r.length).all (λi=>Rh.contains i||beq (piF m i) i)&&
 Rh.all (λi=>Aa3 (u.r.getD i .dead) (s'.r.getD (piF m i) .dead))&&
 m.all (λp=>beq (piF m p.1) p.2&&blt p.1 u.r.length)&&
 (range keep).all (λi=>beq (piF m i) i)
def AbT(L Rh:List Nat)(u s':St)(keep:Nat):Option (List Dy):=match UR u.t s'.t L with
 |some (a,m)=>bif Aac m L Rh u s' keep then(match Y5 s'.r (piF m) Rh with
  |some c=>some (a++c)
  |none=>none)else none
 |none=>none
theorem dyC_v{z:Dy}(h:dyC c=some z):c.v r=z.cl.v r':=by
 unfold dyC at h;split at h
 case h_2=>grind
 rename_i t d x;cases u:(t.one&& !(Cl.c t d x).own)with
 |false=>grind
 |true=>
  rw[u]at h;cases h;simp[not_eq_true']at u
  cases t<;>cases d<;>first|rfl|(cases x with
   |none=>rfl
   |some _=>exact absurd u.2 (by intro h;cases h))|exact nomatch u.2|rfl
def KI(h:c.stay=true):Hj π n (c.v r) (c.v r'):=by
 cases c with
 |c t d x=>cases t<;>first|exact Hj.tyV0 (.clo _ _) x _ (mem_singleton.2 rfl)|(cases x<;>first|rfl|exact .inr (Sub.refl _))|exact ren_nr (λ_ _ _ _ h=>by cases h) (λ_ _ _ _ h=>by cases h) (λ_ _ _ h=>by cases h) (λ_ _ h=>by cases h)
 |dead=>exact .inl rfl
 |nil=>exact .inr (Sub.refl _)
 |nilp=>exact .inr (Sub.refl _)
 |nilf=>exact .inr (Sub.refl _)
 |nilm=>exact .inr (Sub.refl _)
 |_=>cases h
theorem YE(h:y.stay=true):Hj π n (y.v r) (y.v r'):=by
 have agg:∀l:List Cl,l.all Cl.stay=true->Hj π n (Am (l.map (Cl.v r))) (Am (l.map (Cl.v r'))):=by
  intro l h;refine ZL (by simp) λk u=>?_
  rw[AM (f:=Cl.v r) (a:=.dead) rfl,AM (f:=Cl.v r') (a:=.dead) rfl];have u:k<l.length:=by simpa using u
  refine KI (aET.1 h _ ?_)
  grind
 cases y with
 |one c=>exact KI h
 |new l=>exact .inr (Sub.refl _)
 |agg l=>exact agg l h
 |pk t l=>
  refine ren_pk (by simp) λk u=>?_
  rw[AM (f:=Cl.v r) (a:=.dead) rfl,AM (f:=Cl.v r') (a:=.dead) rfl];have u:k<l.length:=by simpa using u
  refine KI (aET.1 h _ ?_)
  grind
 |tup l=>
  refine Aba (by simp) λk u=>?_
  have u:k<l.length:=by simpa using u
  simp only[gDE,getElem?_map,gEE u,Option.map_some,Option.getD_some];have A:=aET.1 h l[k] (List.getElem_mem u);generalize l[k]=p at A;obtain⟨b,m⟩:=p;cases b with
  |true=>exact agg m A
  |false=>
   cases m with
   |nil=>exact .inl rfl
   |cons y m=>exact KI (by grind)
theorem Po{C:Ctx}{N:Nat}{ro:Bool}{b:List Oper}{L Rh:List Nat}{A s':St}{keep:Nat}{cs:List Dy}{a:Act}{w:World}(h:AQ C N s'.den a w)(hg:AbT L Rh A s' keep=some cs)(hk:C.m<=keep)(hk0:C.m<=A.r.length)
  (ht:∀i,L.contains i=false->As b i=true->(A.t i).stay=true->s'.t i=A.t i)
  (hr:∀id,id<A.r.length->Rh.contains id=false->(s'.r.getD id .dead).v=(A.r.getD id .dead).v/\(s'.r.getD id .dead).len=(A.r.getD id .dead).len)
  (hq:∀id,id<A.r.length->Rh.contains id=false->∀q:AX,((s'.r.getD id .dead).at' q).len=((A.r.getD id .dead).at' q).len):AQ C N (BD ro b L Rh A cs).den a w:=by
 unfold AbT at hg;split at hg
 case h_2=>cases hg
 rename_i av m hgl;obtain⟨hok,hg⟩:=Bc hg;split at hg
 case h_2=>cases hg
 rename_i cv hgr;cases hg;unfold Aac at hok;simp only[bAE]at hok;obtain⟨⟨⟨⟨⟨o1,o2⟩,o3⟩,o4⟩,o5⟩,o6⟩:=hok
 let base:Nat->Sl:=λi=>bif As b i&&(A.t i).stay then A.t i else .one .dead
 let r0:List Ae:=bif ro then A.r.map BI else A.r
 have hr0l:r0.length=A.r.length:=by cases ro<;>simp[r0]
 have hr0g:∀i,(r0.getD i .dead).v=(A.r.getD i .dead).v/\(r0.getD i .dead).len=(A.r.getD i .dead).len:=by
  intro i;cases ro with
  |false=>exact⟨rfl,rfl⟩
  |true=>
   have e:r0.getD i .dead=BI (A.r.getD i .dead):=by
    show(A.r.map BI).getD i .dead=_;simp only[gDE,getElem?_map];cases A.r[i]? <;>rfl
   rw[e];exact LN _
 have hT:BD ro b L Rh A (av++cv)=⟨Lg A.t s'.t L base,Bq s'.r (piF m) Rh r0⟩:=by
  show(⟨(Ko A.t L (av++cv) base).1,He A.r Rh (Ko A.t L (av++cv) base).2 r0⟩:St)=_;rw[K8 L av cv m base hgl];simp only;rw[K6 Rh cv r0 o4 hgr]
 rw[hT];have hlen:(Bq s'.r (piF m) Rh r0).length=A.r.length:=by rw[Lh,hr0l]
 have J:((Bq s'.r (piF m) Rh r0).map Ae.v).length=A.r.length:=by rw[List.length_map,hlen]
 have hget:∀i,i<A.r.length->(Bq s'.r (piF m) Rh r0).getD i .dead=if Rh.contains i then Yd (s'.r.getD (piF m i) .dead)else r0.getD i .dead:=λi O=>Li Rh r0 i (by rw[hr0l];exact O)
 have hgv:∀i,i<A.r.length->((Bq s'.r (piF m) Rh r0).getD i .dead).v=(s'.r.getD (piF m i) .dead).v/\((Bq s'.r (piF m) Rh r0).getD i .dead).len=(s'.r.getD (piF m i) .dead).len:=by
  intro i O;rw[hget i O];cases hc:Rh.contains i with
  |true=>simp only[if_true];exact unRo_v _
  |false=>
   simp only[false_eq_true,if_false];have:=aET.1 o3 i (mem_range.2 O);rw[hc,Bool.false_or]at this;rw[bqE this,(hr0g i).1,(hr0g i).2,(hr i O hc).1,(hr i O hc).2];exact⟨rfl,rfl⟩
 have hgq:∀i,i<A.r.length->∀q:AX,(((Bq s'.r (piF m) Rh r0).getD i .dead).at' q).len=((s'.r.getD (piF m i) .dead).at' q).len:=by
  intro i O q;rw[hget i O];cases hc:Rh.contains i with
  |true=>simp only[if_true];exact Zm q _ _ (Yu _)
  |false=>
   simp only[false_eq_true,if_false];have:=aET.1 o3 i (mem_range.2 O);rw[hc,Bool.false_or]at this;rw[bqE this,hq i O hc q];refine Zm q _ _ ?_;cases ro with
   |false=>rfl
   |true=>
    have e:r0.getD i .dead=BI (A.r.getD i .dead):=by
     show(A.r.map BI).getD i .dead=_;simp only[gDE,getElem?_map];cases A.r[i]? <;>rfl
    rw[e];exact Jl _
 refine h.perm (π:=piF m) (λi O=>?_) (λi j O hj he=>?_) (λi O=>?_) (λi O=>?_) ?_ λi=>?_
 .have O:i<A.r.length:=by rw[<-J];exact O
  show _<(s'.r.map Ae.v).length;rw[List.length_map];exact blE (aET.1 o1 i (mem_range.2 O))
 .have O:i<A.r.length:=by rw[<-J];exact O
  have hj:j<A.r.length:=by rw[<-J];exact hj
  have:=aET.1 (aET.1 o2 i (mem_range.2 O)) j (mem_range.2 hj);rw[he,Nat.beq_refl,or_eq_true]at this;rcases this with h|h
  .exact bqE h
  .cases h
 .have O:i<A.r.length:=by rw[<-J];exact O
  show Sub ((s'.r.map Ae.v).getD (piF m i) .dead) (((Bq s'.r (piF m) Rh r0).map Ae.v).getD i .dead);rw[Ax,Ax,(hgv i O).1];exact Sub.refl _
 .exact bqE (aET.1 o6 i (mem_range.2 (Nat.lt_of_lt_of_le O hk)))
 .show C.m<=((Bq s'.r (piF m) Rh r0).map Ae.v).length
  rw[J];exact hk0
 .show Hj (piF m) ((Bq s'.r (piF m) Rh r0).map Ae.v).length ((s'.t i).v s'.r) ((Lg A.t s'.t L base i).v (Bq s'.r (piF m) Rh r0))
  rw[Lf,J];cases hc:L.contains i with
  |false=>
   simp only[false_eq_true,if_false];show Hj _ _ _ ((bif As b i&&(A.t i).stay then A.t i else .one .dead:Sl).v _);cases hb:(As b i&&(A.t i).stay)with
   |false=>exact Hj.dead _ _ _
   |true=>
    rw[bAE]at hb;rw[ht i hc hb.1 hb.2];exact YE hb.2
  |true=>
   simp only[if_true]
   -- the slot's own part of what was grabbed
   have hpart:∀(L:List Nat) (av:List Dy) (m0:List (Nat×Nat)),UR A.t s'.t L=some (av,m0)->L.contains i=true->∃a1 m1,Xg (lk (A.t i)) (s'.t i)=some (a1,m1)/\∀p∈m1,p∈m0:=by
    intro L
    induction L with
    |nil=>intro av m0 _ h;cases h
    |cons d L ih=>
     intro av m0 hgl hc;unfold UR at hgl;split at hgl
     case h_2=>cases hgl
     rename_i a1 b1 U;split at hgl
     case h_2=>cases hgl
     rename_i a2 b2 h2;cases hgl;by_cases hd:i=d
     .subst hd
      exact⟨a1,b1,U,λp Y=>List.mem_append_left _ Y⟩
     .have:L.contains i=true:=by
       rw[List.contains_cons]at hc;have hne:(i==d)=false:=by simpa using hd
       rw[hne,Bool.false_or]at hc;exact hc
      obtain⟨a3,m3,h3,h4⟩:=ih a2 b2 h2 this;exact⟨a3,m3,h3,λp Y=>List.mem_append_right _ (h4 p Y)⟩
   obtain⟨a1,m1,U,hm1⟩:=hpart L av m hgl hc;generalize lk (A.t i)=k at U;generalize s'.t i=y at U;unfold Xg at U;split at U
   .rename_i c
    split at U
    case h_2=>cases U
    rename_i z hz;unfold IK;simp only[hz];have e:=dyC_v (r:=s'.r) (r':=Bq s'.r (piF m) Rh r0) hz;show Hj _ _ (c.v s'.r) (z.cl.v (Bq s'.r (piF m) Rh r0));rw[e];exact KI (r:=Bq s'.r (piF m) Rh r0) (r':=Bq s'.r (piF m) Rh r0) (c:=z.cl) rfl
   .rename_i n l
    obtain⟨hb,U⟩:=Bc U;split at U
    case h_2=>cases U
    rename_i z hz;unfold IK;simp only[hz]
    have key:∀(l:List Cl) (z:List Dy),dyL l=some z->l.map (Cl.v s'.r)=(z.map Dy.cl).map (Cl.v (Bq s'.r (piF m) Rh r0)):=by
     intro l
     induction l with
     |nil=>intro z h;cases h;rfl
     |cons y l ih=>
      intro z h;unfold dyL at h;split at h
      case h_2=>cases h
      rename_i z1 hz1;split at h
      case h_2=>cases h
      rename_i z2 hz2;cases h;simp only[List.map_cons];rw[dyC_v hz1,ih z2 hz2]
    show Hj _ _ (Am (l.map (Cl.v s'.r))) (Am ((z.map Dy.cl).map (Cl.v (Bq s'.r (piF m) Rh r0))));rw[key l z hz];refine ZL rfl λk hk=>?_
    rw[AM (f:=Cl.v (Bq s'.r (piF m) Rh r0)) (a:=.dead) rfl];cases hx:(z.map Dy.cl)[k]? with
    |none=>simp only[gDE,hx];exact .inl rfl
    |some x=>
     simp only[gDE,hx,Option.getD_some];obtain⟨u,_,hu⟩:=mem_map.1 (List.mem_of_getElem? hx);rw[<-hu];exact KI (c:=u.cl) rfl
   .rename_i id id'
    cases U;have Y:=aET.1 o5 (id,id') (hm1 _ (mem_singleton.2 rfl));rw[bAE]at Y;have W:piF m id=id':=bqE Y.1;have Z:id<A.r.length:=blE Y.2;refine .inr ⟨id,Z,W,?_⟩;show V.rs id [] 0 ((Bq s'.r (piF m) Rh r0).getD id .dead).len=V.rs id [] 0 (s'.r.getD id' .dead).len;rw[(hgv id Z).2,W]
   .rename_i id id'
    cases U;have Y:=aET.1 o5 (id,id') (hm1 _ (mem_singleton.2 rfl));rw[bAE]at Y;have W:piF m id=id':=bqE Y.1;have Z:id<A.r.length:=blE Y.2;exact .inr ⟨id,Z,W,rfl⟩
   .rename_i id p id' p'
    obtain⟨hb,U⟩:=Bc U;cases U;have Y:=aET.1 o5 (id,id') (hm1 _ (mem_singleton.2 rfl));rw[bAE]at Y;have W:piF m id=id':=bqE Y.1;have Z:id<A.r.length:=blE Y.2;refine .inr ⟨id,Z,W,?_⟩;show V.rs id p' 0 (((Bq s'.r (piF m) Rh r0).getD id .dead).at' p').len=V.rs id p' 0 ((s'.r.getD id' .dead).at' p').len;rw[hgq id Z p',W]
   .rename_i id p id' p'
    obtain⟨hb,U⟩:=Bc U;cases U;have Y:=aET.1 o5 (id,id') (hm1 _ (mem_singleton.2 rfl));rw[bAE]at Y;have W:piF m id=id':=bqE Y.1;have Z:id<A.r.length:=blE Y.2;rw[<-Aag p p' hb];exact .inr ⟨id,Z,W,rfl⟩
   .unfold IK
    exact Hj.dead _ _ _
   .cases U
end Go.Ve

