/- The typed machine: a region that draws its order; code. -/
import Derived.Test.YteakdlfnmhlifaaTk
open Array(replicate)
open List(mem_map range mem_filterMap mem_singleton getElem?_map mem_range)
open Bool(or_eq_true not_eq_true' false_eq_true)
open Nat(beq blt)
set_option linter.all false
namespace Go.Ve
variable{a:Act}{ops:Array Oper}{C:Ctx}{E:Env}{B:List (Nat×Nat)}{i n:Nat}{P:Program}{s:St}{R:Type}{w:World}
theorem vdrawB{C:Ctx}{h:BW}{id:Nat}{Q:Exit->Act->World->Prop}{σ:List V}{t0:Nat->V}{X:Nat->Prop}(B:List (Nat×Nat))(n:Nat)(fs:List Nat){Kt:(Nat->V)->Prop}{a:Act}{w:World}(hm:P.follows .mixedOrders=true)(Z:QOK ops n)
  (hv:vq P h ops σ (ops.toList.take n) Kt t0) (hX:∀x,X x->∀j,AG ops j≠some x) (hB1:(B.map (·.1)).Nodup) (hB2:(B.map (·.2)).Nodup) (hB3:∀p∈B,p.1<h.n/\p.2<σ.length/\σ.getD p.2 .dead=.dead/\∀j,AG ops j≠some p.1)
  (hKt:∀Q':Exit->Act->World->Prop,(∀a w,Q .normal a w->Q' .normal a w)->∀t a w,Kt t->(∀x,X x->x∈B.map (·.1)\/AJ (t x)=false)/\(∀p∈B,Cu (t p.1))/\(AA C h.n (promA ((ops.toList.take n).map (·.dst)) (backs B ⟨t,σ⟩)) a w->wpList P ops Q' (ops.toList.drop n) a w))
  (hr:UU ops n\/(FLS ops n fs/\FlT P ops fs/\∀t a w,Kt t->AA C h.n (promA ((ops.toList.take n).map (·.dst)) (backs B ⟨t,σ⟩)) a w->FlH P ops n fs a w))
  (hp0:∃D ρ F T,PR C h.n σ ρ F t0 a {w with drawn:=w.drawn+1} D T/\(∀x b,T x b->X x)/\∀p∈B,a.tmps.getD p.1 undef=ρ p.2):(Code.region id ops true).wp P Q a w:=by
 refine wp_region_any hm ?_;obtain⟨r,m,W,hK⟩:=Y3 (n:=n) (t0:=t0) (K:=Kt) Z.le Z n 0 (λ_=>.dead) (λ_=>[]) (by omega) (by simpa [Cb]using hv) (λj hj=>by omega)
 have Y:HeadInv .any ops n (replicate ops.size false):=
  ⟨by simp,λj oj _ hl=>(by rw[getD_replicate_false]at hl;cases hl),λt _ ht=>getD_in (by simpa using ht) (getD_replicate_false _ _)⟩
 obtain⟨D,ρ,F,T,A,hTX,hBv⟩:=hp0
 have hpt:∀x,pt ops n r m t0 (replicate ops.size false) x=t0 x\/(pt ops n r m t0 (replicate ops.size false) x=.dead/\∃k,AG ops k=some x):=by
  intro x;unfold pt;cases ho:CC ops n x with
  |none=>exact .inl (Ic n λi _ hs=>by rw[getD_replicate_false]at hs;cases hs)
  |some k=>
   right;show(if(replicate ops.size false).getD k false=true then _ else V.dead)=_/\_
   rw[getD_replicate_false];exact⟨rfl,k,(Bj ho).2⟩
 have hp1:PR C h.n σ ρ F (pt ops n r m t0 (replicate ops.size false)) a {w with drawn:=w.drawn+1} D T:=by
  refine⟨A.df,A.sz,λx hx=>?_,A.wr,λx hx=>?_,A.tD,A.tF,A.tT,A.tn,A.fr,A.Fn,A.D1,A.D2,A.rt,A.ml,A.tx⟩
  .rcases hpt x with e|e
   .rw[e];exact A.dd x hx
   .exact e.1
  .rcases hpt x with e|⟨e,k,hk⟩
   .rw[e];exact A.tm x hx
   .rw[e]
    exact λb hb=>hX x (hTX x b hb) k hk
 have U:∀a1 w D T,PR C h.n σ ρ F (Cb ops r m t0 n) a1 w D T->(∀x b,T x b->Qm ops n X x)->(∀x,(∀i,i<n->AG ops i≠some x)->a1.tmps[x]? =a.tmps[x]?)->AA C h.n (promA ((ops.toList.take n).map (·.dst)) (backs B ⟨Cb ops r m t0 n,σ⟩)) a1 w:=by
  intro a1 w D T A hT hA;obtain⟨hfree,hobj,_⟩:=hKt Q (λ_ _ h=>h) _ a1 w hK
  obtain⟨F',T',hp',hT'⟩:=PR.backs B _ _ _ _ A hB1 hB2 λp hpB=>by
   obtain⟨g1,g2,g3,g4⟩:=hB3 p hpB;refine⟨g1,g2,g3,?_,hobj p hpB⟩;rw[<-hBv p hpB,Array.getD_eq_getD_getElem?,Array.getD_eq_getD_getElem?,hA p.1 λi _=>g4 i]
  refine PR.close _ _ _ _ _ _ hp' λx b ho=>?_
  obtain⟨ho,hxB⟩:=hT' x b ho;rcases hT x b ho with⟨i,hi,hd⟩|hx
  .obtain⟨oi,hoi,_⟩:=Z.dst i hi
   refine mem_map.2 ⟨oi,?_,by simpa [AG,hoi]using hd⟩
   refine List.mem_of_getElem? (i:=i) ?_;rw[List.getElem?_take,if_pos hi,Array.getElem?_toList];exact hoi
  .exfalso
   by_cases hxn:x<h.n
   .exact AB _ _ _ ((hfree x hx).resolve_left hxB) (A.tm x hxn) b ho
   .exact A.tx x b (Nat.le_of_not_lt hxn) ho
 have hfu:unl (replicate ops.size false) n+(ops.size-n)<=ops.size:=by
  have:unl (replicate ops.size false) n<=n:=by
   unfold unl;have:=List.countP_le_length (p:=λi=>!(replicate ops.size false).getD i true) (l:=range n)
   simpa using this
  have:=Z.le;omega
 have H:∀Q':Exit->Act->World->Prop,(∀a w,Q .normal a w->Q' .normal a w)->∀a1 w D T,PR C h.n σ ρ F (Cb ops r m t0 n) a1 w D T->(∀x b,T x b->Qm ops n X x)->(∀x,(∀i,i<n->AG ops i≠some x)->a1.tmps[x]? =a.tmps[x]?)->wpList P ops Q' (ops.toList.drop n) a1 w:=λQ' hQ' a1 w D T A hT hA=>(hKt Q' hQ' _ a1 w hK).2.2 (U a1 w D T A hT hA)
 rcases hr with htl|⟨fl,hft,hfh⟩
 .exact AcH (X:=X) (a0:=a) Z htl (AaZ Z W) W (H Q λ_ _ h=>h) (H (QN Q) λ_ _ h=>⟨rfl,h⟩) ops.size _ a _ D T Y hfu hp1 (λx b hb=>.inr (hTX x b hb)) (λ_ _=>rfl) (λj _ hl=>by rw[getD_replicate_false]at hl;cases hl)
 .exact Z1 (X:=X) (a0:=a) Z fl hft.keep (AaZ Z W) W (H Q λ_ _ h=>h) (H (QN Q) λ_ _ h=>⟨rfl,h⟩) (λa1 w D T A hT hA=>hfh _ a1 w hK (U a1 w D T A hT hA)) ops.size _ a _ D T Y hfu hp1 (λx b hb=>.inr (hTX x b hb)) (λ_ _=>rfl) (λj _ hl=>by rw[getD_replicate_false]at hl;cases hl)
def PW(l:List Oper)(s:St):Bool:=l.all λo=>match o.dst with
 |some d=>!(s.t d).own||(s.t d).stay
 |none=>true
def Le(E:Env)(ops:Array Oper)(o:Oper):Option Nat:=match o.op with
 |.assign (.tmp y)=>bif dX E y then some y else none
 |.move (.tmp y)=>bif dX E y then some y else none
 |.store _ (.tmp y) _=>bif dX E y then some y else none
 |op=>match IP op with
  |some (f,xs)=>match Kc E.U f with
   |some e=>match xs.toList[e.S.k]? with
    |some (.tmp z)=>match alS E.h ops o z with
     |some y=>some y
     |none=>bif dX E z then some z else none
    |_=>none
   |none=>none
  |none=>none
theorem Zb{o:Oper}{y:Nat}(h:((dX E y&&(J9 o y||stB o y))||ucB E ops o y)=true):Le E ops o=some y:=by
 rw[or_eq_true]at h;rcases h with h|h
 .rw[bAE]at h
  obtain⟨Z,h⟩:=h;rw[or_eq_true]at h;rcases h with h|h
  .unfold J9 at h
   unfold Le;split at h
   .simp_all
   .simp_all
   .cases h
  .unfold stB at h
   unfold Le;split at h
   .simp_all
   .cases h
 .unfold ucB at h
  split at h
  case h_2=>cases h
  rename_i f xs F;split at h
  case h_2=>cases h
  rename_i e W;split at h
  case h_2=>cases h
  rename_i z H;obtain⟨ats,A⟩:=UQ F;rw[A]at F;unfold Le;rw[A];simp only[F,W,H];cases U:alS E.h ops o z with
  |some Y=>
   simp_all
  |none=>
   rw[U]at h;have h:(dX E z&&beq z y)=true:=h;rw[bAE]at h;rw[h.1,bqE h.2];rfl
def yL(E:Env)(ops:Array Oper):List Nat:=(ops.toList.filterMap λo=>match Le E ops o with
 |some y=>bif Hf ops y then some y else none
 |none=>none).eraseDups
def yOK(E:Env)(ops:Array Oper):Bool:=ops.toList.all λo=>match Le E ops o with
 |some y=>Hf ops y
 |none=>true
def goneB(E:Env)(ops:Array Oper)(o:Oper)(y:Nat):Bool:=(dX E y&&J9 o y)||(match IP o.op with
 |some (f,xs)=>match Kc E.U f with
  |some e=>e.S.eat&&(match xs.toList[e.S.k]? with
   |some (.tmp z)=>(match alS E.h ops o z with
    |some A=>beq A y
    |none=>dX E z&&beq z y)
   |_=>false)
  |none=>false
 |none=>false)
def bL(E:Env)(ops:Array Oper)(s:St):List (Nat×Nat):=(yL E ops).filterMap λy=>bif ops.toList.any (λo=>goneB E ops o y)then none else match Ci s y with
 |some id=>some (y,id)
 |none=>none
def bOK(n:Nat)(ops:Array Oper)(B:List (Nat×Nat))(s:St):Bool:=ndB (B.map (·.1))&&ndB (B.map (·.2))&&B.all λp=>blt p.1 n&&blt p.2 s.r.length&&Hf ops p.1&&(match s.r.getD p.2 .dead with
 |.dead=>true
 |_=>false)
def Ld{R:Type}(E:Env)(n:Nat)(ops:Array Oper)(B:List (Nat×Nat))(chk:Bool)(tail:St->(St->Option R)->Option R)(s:St)(K:St->Option R):Option R:=
 bif chk&&yOK E ops&&bOK E.h.n ops B s then
  Wd E true ops (YV n (ops.toList.take n)) s λs1=>
   bif PW (ops.toList.take n) s1&&(yL E ops).all (λy=>(B.map (·.1)).contains y|| !(s1.t y).own)&&B.all (λp=>HX (s1.t p.1))then tail ((s1.backs B).promA ((ops.toList.take n).map (·.dst))) K else none
 else none
def needL(ops:Array Oper)(n:Nat):List Nat:=(range n).reverse.foldl (λA i=>bif A.any λj=>Region.waitsFor .any ops j i then i::A else A) [n]
def VM(ops:Array Oper)(n:Nat):List Nat:=(range n).filter λi=>!(needL ops n).contains i
def AbI{R:Type}(E:Env)(ops:Array Oper)(n:Nat)(fs:List Nat)(s:St)(K:St->Option R):Option R:=match ops.toList.drop n with
 |[o1,o2,o3]=>bif o1.guard.isNone&&o2.guard.isNone&&o3.guard.isNone then(match WK E s (fs.filterMap λf=>ops[f]?) o1 o2 o3 with
  |some A=>oif A.p A.dec (K A.s)
  |none=>none)else none
 |_=>none
def NN{R:Type}(E:Env)(n:Nat)(ops:Array Oper)(B:List (Nat×Nat))(s:St)(K:St->Option R):Option R:=
 bif It ops n then Ld E n ops B true (λs K=>tops E ops (YV ops.size (ops.toList.drop n)) s K) s K
 else Ld E n ops B (Q2 ops n&&flsB ops n (VM ops n)&&flT E ops (VM ops n)) (AbI E ops n (VM ops n)) s K
def J8{a b:List Oper}:Ao (a++b) i=(Ao a i&&Ao b i):=by
 unfold Ao;simp
theorem yB_mem(A:yOK E ops=true)(h:yB E ops i=true):i∈yL E ops:=by
 obtain⟨o,F,hm⟩:=List.any_eq_true.1 h;have U:=aET.1 A o F;have H:=Zb hm;refine List.mem_eraseDups.2 (mem_filterMap.2 ⟨o,F,?_⟩)
 grind
theorem yL_nd(h:i∈yL E ops):∀j,AG ops j≠some i:=by
 obtain⟨o,_,A⟩:=mem_filterMap.1 (List.mem_eraseDups.1 h);split at A
 .rename_i y H
  cases F:Hf ops y with
  |false=>grind
  |true=>
   rw[F]at A;cases A;exact CD F
 grind
theorem bOKn{K:St->Option R}{z:R}(h:NN E n ops B s K=some z):∀p∈B,p.1<E.h.n:=by
 have key:∀(chk:Bool) (tail:St->(St->Option R)->Option R),Ld E n ops B chk tail s K=some z->∀p∈B,p.1<E.h.n:=by
  intro chk tail h p F;unfold Ld at h;cases A:bOK E.h.n ops B s with
  |false=>grind
  |true=>
   unfold bOK at A;rw[bAE]at A;have:=aET.1 A.2 p F;simp only[bAE]at this;exact blE this.1.1.1
 unfold NN at h
 grind
theorem NM{C:Ctx}(hE:EOK P E)(hm:P.follows .mixedOrders=true){id n:Nat}{ops:Array Oper}{B:List (Nat×Nat)}{s:St}{K:St->Option R}{z:R}{a:Act}{w:World}{Q:Exit->Act->World->Prop}
  (hpr:∃D ρ F T,PR C E.h.n s.den.σ ρ F s.den.t a {w with drawn:=w.drawn+1} D T/\(∀x b,T x b->x∈yL E ops)/\∀p∈B,a.tmps.getD p.1 undef=ρ p.2)
  {chk:Bool}{tail:St->(St->Option R)->Option R}{fs:List Nat} (h:Ld E n ops B chk tail s K=some z) (hqk:chk=true->QOK ops n)
  (htail:∀(Q':Exit->Act->World->Prop) (s2:St) (a:Act) (w:World),AA C E.h.n s2.den a w->tail s2 K=some z->(∀s' a' w',Kp (Ao (ops.toList.drop n)) s2 s'->AA C E.h.n s'.den a' w'->K s'=some z->Q' .normal a' w')->wpList P ops Q' (ops.toList.drop n) a w)
  (hr:chk=true->UU ops n\/(FLS ops n fs/\FlT P ops fs/\∀(s2:St) (a:Act) (w:World),AA C E.h.n s2.den a w->tail s2 K=some z->FlH P ops n fs a w))
  (hK:∀s' a' w',(∀i,(Ao ops.toList i&& !(yL E ops).contains i)=true->(∀p∈B,p.1≠i)->(s.t i).stay=true->s'.t i=s.t i)->(∀id,id<s.r.length->(∀p∈B,p.2≠id)->(s.r.getD id .dead).isRo=true->s'.r.getD id .dead=s.r.getD id .dead)->s.r.length<=s'.r.length->AA C E.h.n s'.den a' w'->K s'=some z->Q .normal a' w'):(Code.region id ops true).wp P Q a w:=by
 unfold Ld at h;obtain⟨Z,h⟩:=A1 h;rw[bAE,bAE]at Z;obtain⟨⟨Z,hyk⟩,hbk⟩:=Z;unfold bOK at hbk;rw[bAE,bAE]at hbk;obtain⟨⟨hb1,hb2⟩,hb3⟩:=hbk;have hB:∀p∈B,p.1<E.h.n/\p.2<s.r.length/\Hf ops p.1=true/\s.r.getD p.2 .dead=.dead:=by
  intro p hp;have:=aET.1 hb3 p hp;simp only[bAE]at this;obtain⟨⟨⟨g1,g2⟩,g3⟩,g4⟩:=this;refine⟨blE g1,blE g2,g3,?_⟩;split at g4
  .assumption
  .cases g4
 let K1:St->Option R:=λs1=>bif PW (ops.toList.take n) s1&&(yL E ops).all (λy=>(B.map (·.1)).contains y|| !(s1.t y).own)&&B.all (λp=>HX (s1.t p.1))then tail ((s1.backs B).promA ((ops.toList.take n).map (·.dst))) K else none
 have hv:=Y9 hE (ops:=ops) (K:=K1) (z:=z) (Kt:=λt=>∃s1:St,s1.r=s.r/\(∀i,Ao ops.toList i=true->yB E ops i=false->s1.t i=s.t i)/\VLe t s1.den.t/\K1 s1=some z) (YV n (ops.toList.take n)) s s.den.t (λo ho=>by rw[Ch]at ho;exact List.mem_of_mem_take ho) (λi=>.inl rfl) h
  (λs' t' h1 h2 h3 h4=>⟨s',h1,h2,h3,h4⟩)
 rw[Ch]at hv
 have hcore:∀t,(∃s1:St,s1.r=s.r/\(∀i,Ao ops.toList i=true->yB E ops i=false->s1.t i=s.t i)/\VLe t s1.den.t/\K1 s1=some z)->∃s1:St,s1.r=s.r/\(∀i,Ao ops.toList i=true->yB E ops i=false->s1.t i=s.t i)/\tail ((s1.backs B).promA ((ops.toList.take n).map (·.dst))) K=some z/\
   (∀x,x∈yL E ops->x∈B.map (·.1)\/AJ (t x)=false)/\(∀p∈B,Cu (t p.1))/\∀a1 w1,AA C E.h.n (promA ((ops.toList.take n).map (·.dst)) (backs B ⟨t,s.den.σ⟩)) a1 w1->AA C E.h.n ((s1.backs B).promA ((ops.toList.take n).map (·.dst))).den a1 w1:=by
  rintro t ⟨s1,H,ht1,hvl,A⟩
  have A:(bif PW (ops.toList.take n) s1&&(yL E ops).all (λy=>(B.map (·.1)).contains y|| !(s1.t y).own)&&B.all (λp=>HX (s1.t p.1))then tail ((s1.backs B).promA ((ops.toList.take n).map (·.dst))) K else none)=some z:=A
  obtain⟨ho,A⟩:=A1 A;rw[bAE,bAE]at ho;obtain⟨⟨ho,hyo⟩,hro⟩:=ho
  have Y:∀p∈B,HX (s1.t p.1)=true/\t p.1=s1.den.t p.1:=by
   intro p hp;have h1:=aET.1 hro p hp;refine⟨h1,?_⟩;rcases hvl p.1 with e|e
   .exact e
   .obtain⟨_,h3,⟨s0,sz,nn,f,h4,_⟩,_⟩:=Ct h1
    have e1:(s1.t p.1).v s1.r=.dead:=e.1;rw[h3,h4]at e1;cases e1
  refine⟨s1,H,ht1,A,λx hx=>?_,λp hp=>?_,λa1 w1 W=>?_⟩
  .have h1:=aET.1 hyo x hx
   rw[or_eq_true]at h1;rcases h1 with h1|h1
   .exact .inl (by simpa using h1)
   right
   have h2:AJ (s1.den.t x)=false:=by
    show AJ ((s1.t x).v s1.r)=false;rw[Sl.own_v];simpa using h1
   rcases hvl x with e|e
   .rw[e];exact h2
   .exact e.2
  .obtain⟨g1,g2⟩:=Y p hp
   rw[g2];show Cu ((s1.t p.1).v s1.r);rw[(Ct g1).2.1];exact(Ct g1).2.2.1
  have hP:Aax ((ops.toList.take n).map (·.dst)) ⟨t,s.den.σ⟩ s1:=by
   refine⟨by show s.r.map Aa.v=s1.r.map Aa.v;rw[H],λi=>?_,λi hi=>⟨λhoi=>?_,?_⟩⟩
   .rcases hvl i with e|e
    .show Ak (t i) _
     rw[e];exact Ak.refl _
    .rw[e.1];exact Ak.dead _
   .obtain⟨o,ho1,ho2⟩:=mem_map.1 hi
    have:=aET.1 ho o ho1;rw[ho2]at this;simp only[or_eq_true,not_eq_true']at this;rcases this with h|h
    .rw[hoi]at h;cases h
    .exact h
   .rcases hvl i with e|e
    .exact .inl e
    .right
     refine⟨?_,e.2⟩
     have:AJ ((s1.t i).v s1.r)=false:=by
      show AJ (s1.den.t i)=false;rw[e.1];rfl
     rw[Sl.own_v]at this;exact this
  have hP2:=KH B _ _ hP (DR hb1) λp hp=>by
   obtain⟨g1,g2⟩:=Y p hp;obtain⟨_,k2,k3,_⟩:=hB p hp;refine⟨λhm=>?_,by rw[H];exact k2,g2,g1⟩
   obtain⟨o,ho1,ho2⟩:=mem_map.1 hm;obtain⟨j,hj⟩:=List.mem_iff_getElem?.1 (List.mem_of_mem_take ho1);refine CD k3 j ?_;unfold AG;rw[<-Array.getElem?_toList,hj];exact ho2
  obtain⟨g1,g2⟩:=J2 _ _ _ hP2;exact W.sub (by rw[g2]) (λi _=>by rw[g2];exact Sub.refl _) g1
 refine vdrawB (X:=λx=>x∈yL E ops) B n fs hm (hqk Z) hv (λx hx=>yL_nd hx) (DR hb1) (DR hb2) (λp hp=>?_) ?_ ((hr Z).imp (λh=>h) fun⟨k1,k2,k3⟩=>⟨k1,k2,λt a1 w1 hkt W=>by
  obtain⟨s1,_,_,A,_,_,hsr⟩:=hcore t hkt;exact k3 _ _ _ (hsr _ _ W) A⟩) hpr
 .obtain⟨g1,g2,g3,g4⟩:=hB p hp
  refine⟨g1,by simpa [St.den]using g2,?_,CD g3⟩
  show(s.r.map Aa.v).getD p.2 .dead=.dead;rw[Ai,g4];rfl
 intro Q' hQ' t a1 w1 hkt;obtain⟨s1,H,ht1,A,hfx,hfp,hsr⟩:=hcore t hkt;refine⟨hfx,hfp,λW=>?_⟩
 have hs2:=hsr _ _ W
 .skip
  obtain⟨b1,b2,b3⟩:=Nt B s1
  have hsp:∀i,(Ao ops.toList i&& !(yL E ops).contains i)=true->Ao ops.toList i=true/\yB E ops i=false:=by
   intro i hi;rw[bAE,not_eq_true']at hi;refine⟨hi.1,?_⟩;cases hy:yB E ops i with
   |false=>rfl
   |true=>
    have:=yB_mem hyk hy;have:(yL E ops).contains i=true:=by simpa using this
    rw[hi.2]at this;cases this
  have k1:=HM (ops.toList.take n) (s1.backs B)
  have U:∀i,(Ao ops.toList i&& !(yL E ops).contains i)=true->Ao (ops.toList.take n) i=true/\Ao (ops.toList.drop n) i=true:=by
   intro i hi;have hi:=(hsp i hi).1;rw[<-List.take_append_drop n ops.toList,J8,bAE]at hi;exact hi
  refine htail Q' _ a1 w1 hs2 A λs' a' w' hk hs' hz=>hQ' _ _ (hK s' a' w' (λi hi hiB hst=>?_) (λid hl hiB hrr=>?_) ?_ hs' hz)
  .have e1:s1.t i=s.t i:=ht1 i (hsp i hi).1 (hsp i hi).2
   have e2:(s1.backs B).t i=s1.t i:=b1 i hiB (by rw[e1];exact hst)
   have e3:=k1.t i (U i hi).1 (by rw[e2,e1];exact hst)
   rw[hk.t i (U i hi).2 (by rw[e3,e2,e1];exact hst),e3,e2,e1]
  .have e2:(s1.backs B).r.getD id .dead=s.r.getD id .dead:=(b2 id hiB).trans (by rw[H])
   have hl2:id<(s1.backs B).r.length:=by rw[b3,H];exact hl
   have e3:=k1.r id hl2 (by rw[e2];exact hrr)
   rw[hk.r id (Nat.lt_of_lt_of_le hl2 k1.l) (by rw[e3,e2];exact hrr),e3,e2]
  .have:s.r.length=(s1.backs B).r.length:=by rw[b3,H]
   rw[this];exact Nat.le_trans k1.l hk.l
def WB{C:Ctx}(hE:EOK P E)(hm:P.follows .mixedOrders=true){id n:Nat}{ops:Array Oper}{B:List (Nat×Nat)}{s:St}{K:St->Option R}{z:R}{a:Act}{w:World}{Q:Exit->Act->World->Prop}
  (hpr:∃D ρ F T,PR C E.h.n s.den.σ ρ F s.den.t a {w with drawn:=w.drawn+1} D T/\(∀x b,T x b->x∈yL E ops)/\∀p∈B,a.tmps.getD p.1 undef=ρ p.2)
  (h:NN E n ops B s K=some z) (hK:∀s' a' w',(∀i,(Ao ops.toList i&& !(yL E ops).contains i)=true->(∀p∈B,p.1≠i)->(s.t i).stay=true->s'.t i=s.t i)->(∀id,id<s.r.length->(∀p∈B,p.2≠id)->(s.r.getD id .dead).isRo=true->s'.r.getD id .dead=s.r.getD id .dead)->s.r.length<=s'.r.length->AA C E.h.n s'.den a' w'->K s'=some z->Q .normal a' w'):(Code.region id ops true).wp P Q a w:=by
 unfold NN at h;cases hq:It ops n with
 |true=>
  rw[hq]at h;obtain⟨h1,h2⟩:=Ob hq;refine NM (fs:=[]) hE hm hpr h (λ_=>h1) (λQ' W a w hs H hk=>?_) (λ_=>.inl h2) hK
  have e:ops.toList.drop n=(YV ops.size (ops.toList.drop n)).flatMap Seg.ops:=(Ch _ _).symm;rw[e];refine Wx hE _ _ a w hs H λs' a' w' hkp hs' hz=>hk s' a' w' ?_ hs' hz
  rw[Ch]at hkp;exact hkp
 |false=>
  rw[hq]at h;simp only[cond_false]at h
  have hext:∀W,AbI E ops n (VM ops n) W K=some z->∃U Z Y A,ops.toList.drop n=[U,Z,Y]/\U.guard=none/\Z.guard=none/\Y.guard=none/\WK E W ((VM ops n).filterMap λf=>ops[f]?) U Z Y=some A/\A.p/\K A.s=some z:=by
   intro W H;unfold AbI at H;split at H
   case h_2=>cases H
   rename_i U Z Y hd;obtain⟨hg,H⟩:=A1 H;simp only[bAE,Option.isNone_iff_eq_none]at hg;split at H
   case h_2=>cases H
   rename_i A hA;unfold oif at H;split at H
   .rename_i hp
    exact⟨U,Z,Y,A,hd,hg.1.1,hg.1.2,hg.2,hA,hp,H⟩
   .cases H
  refine NM (fs:=VM ops n) hE hm hpr h (λhc=>?_) (λQ' W a w hs H hk=>?_) (λhc=>?_) hK
  .rw[bAE,bAE]at hc
   exact JX hc.1.1
  .obtain⟨U,Z,Y,A,hd,g1,g2,g3,hA,hp,hKA⟩:=hext W H
   rw[hd]at hk⊢;have w1:∀(o:Oper) (a:Act),o.guard=none->Region.wanted o (yielded ops a.tmps)=true:=λo a hg=>by simp[Region.wanted,hg]
   unfold wpList;rw[if_pos (w1 U a g1)];refine .inl (Oper.wp_mono (λa1 w1' h1=>?_) (WI (Q:=Q') hE.Θ hA hp hs (next:=λa' w'=>Q' .normal a' w') λa' w' hs'=>hk A.s a' w' (WJ hA) hs' hKA))
   unfold wpList;rw[if_pos (w1 Z a1 g2)];refine .inl (Oper.wp_mono (λa2 w2' h2=>?_) h1)
   unfold wpList;rw[if_pos (w1 Y a2 g3)];exact .inl h2
  .rw[bAE,bAE]at hc
   refine .inr ⟨Yi hc.1.2,Abc hE.Θ hc.2,λW a w hs H=>?_⟩
   obtain⟨U,Z,Y,A,hd,g1,g2,g3,hA,hp,hKA⟩:=hext W H;have hon:ops[n]? =some U:=by
    have h1:(ops.toList.drop n)[0]? =some U:=by rw[hd];rfl
    rw[List.getElem?_drop]at h1;simpa using h1
   refine Ab2 hE.Θ hA hp hs hon (λf hf o ho=>mem_filterMap.2 ⟨f,hf,ho⟩) (Abc hE.Θ hc.2)
def AbE{R:Type}(E:Env)(n:Nat)(ops:Array Oper)(s:St)(K:St->Option R):Option R:=match Nf (ops.toList.flatMap (capsF E.h.fz)) s with
 |some A=>match Kv (yL E ops) A with
  |some s1=>NN E n ops (bL E ops A) s1 K
  |none=>none
 |none=>none
theorem Za(hE:EOK P E)(hm:P.follows .mixedOrders=true){id n:Nat}{ops:Array Oper}{K:St->Option R}{z:R}{Q:Exit->Act->World->Prop}(hs:AA C E.h.n s.den a w)
  (h:AbE E n ops s K=some z) (hK:∀s' a' w',Kp (Ao ops.toList) s s'->AA C E.h.n s'.den a' w'->K s'=some z->Q .normal a' w'):(Code.region id ops true).wp P Q a w:=by
 unfold AbE at h;split at h
 case h_2=>cases h
 rename_i s0 hg;split at h
 case h_2=>cases h
 rename_i s1 hd;have W:∀p∈bL E ops s0,p.1∈yL E ops/\Ci s0 p.1=some p.2:=by
  intro p H;obtain⟨y,hy,he⟩:=mem_filterMap.1 H
  grind
 refine WB hE hm ?_ h λs' a' w' q1 q2 q3=>hK s' a' w' ?_
 .obtain⟨D,ρ,F,T,hpr,hT,Y⟩:=O6 hd (HZ _ hg hs) (Below.drew w)
  exact⟨D,ρ,F,T,hpr,hT,λp H=>Y p.1 p.2 (bOKn h p H) (W p H).2⟩
 have k1:=Jp _ hg;have k2:=O7 hd
 have hnY:∀i,(s0.t i).stay=true->(yL E ops).contains i=false:=by
  intro i A;cases hc:(yL E ops).contains i with
  |false=>rfl
  |true=>
   have hm:i∈yL E ops:=by simpa using hc
   exfalso;unfold Kv at hd;split at hd
   .rename_i hY
    rw[hY]at hm;cases hm
   split at hd
   case h_2=>cases hd
   rename_i ids Z;obtain⟨id,_,hid⟩:=(Kk Z).1 i hm;rw[(Cc hid).2.1]at A;cases A
 have k3:Kp (Ao ops.toList) s0 s':=by
  refine⟨λi hi A=>?_,λid hl U=>?_,Nat.le_trans k2.l q3⟩
  .have e:=k2.t i rfl A
   have hiY:=hnY i A;rw[q1 i (by rw[hi,hiY];rfl) (λp H he=>?_) (by rw[e];exact A),e]
   have:=(W p H).1;rw[he]at this;have:(yL E ops).contains i=true:=by simpa using this
   rw[hiY]at this;cases this
  .have e:=k2.r id hl U
   rw[q2 id (Nat.lt_of_lt_of_le hl k2.l) (λp H he=>?_) (by rw[e];exact U),e]
   have:=(Cc (W p H).2).1;rw[he,U]at this;cases this
 exact k1.trans k3 (λ_ _=>rfl) λ_ hi=>hi
end Go.Ve


namespace Go.Ve
inductive LK where
 |val (n:Nat) (agg:Bool)
 |ref (id:Nat)
 |ptr (id:Nat)
 |pth (id:Nat) (p:AI)
 |mrf (id:Nat) (p:AI)
 |prp (id:Nat) (p:AI) (j k:Nat)
 |fn (g:Nat) (l:List (Option (Nat×AI×Nat×Nat)))
 |no
def okV:Cl->Bool
 |.c t _ _=>t.one
 |_=>false
def okF:Cl->Bool
 |.rp _ _ _ _=>true
 |y=>okV y
def kcOf:Cl->Option (Nat×AI×Nat×Nat)
 |.rp id p j k=>some (id,p,j,k)
 |_=>none
def lk:Sl->LK
 |.one (.c t _ _)=>bif t.one then .val 1 false else .no
 |.one (.rf id [])=>.ref id
 |.one (.rp id [] 0 0)=>.ptr id
 |.one (.rf id (a::q))=>.pth id (a::q)
 |.one (.rm id p)=>.mrf id p
 |.one (.rp id p j k)=>.prp id p j k
 |.pk (.cl g) l=>bif l.all okF then .fn g (l.map kcOf)else .no
 |.agg l=>bif l.all okV then .val l.length true else .no
 |_=>.no
def dyC:Cl->Option Dy
 |.c t d x=>bif t.one&& !(Cl.c t d x).own then some ⟨t,x⟩else none
 |_=>none
def dyL:List Cl->Option (List Dy)
 |[]=>some []
 |y::l=>match dyC y with
  |some z=>match dyL l with
   |some m=>some (z::m)
   |none=>none
  |none=>none
def Dy.cl(y:Dy):Cl:=.c y.t 0 y.x
def dyP:AI->List Dy
 |[]=>[]
 |(i,_)::p=>⟨.int .i64,(Int.ofNat i:Int)⟩::dyP p
def Zr:AI->AI->Bool
 |[],[]=>true
 |(_,k)::p,(_,k')::q=>beq k k'&&Zr p q
 |_,_=>false
def Dy.nat:Dy->Nat
 |⟨.int _,x⟩=>Int.toNat x
 |_=>0
def VU:AI->List Dy->AI
 |[],_=>[]
 |(_,k)::p,y::cs=>(y.nat,k)::VU p cs
 |(_,k)::p,[]=>(0,k)::VU p []
def Nd:List (Option (Nat×AI×Nat×Nat))->List Cl->Option (List Dy×List (Nat×Nat))
 |[],[]=>some ([],[])
 |none::ks,y::l=>match dyC y with
  |some z=>match Nd ks l with
   |some (a,m)=>some (z::a,m)
   |none=>none
  |none=>none
 |some (id,p,j,k)::ks,.rp id' p' j' k'::l=>bif eqP p p'&&beq j j'&&beq k k' then(match Nd ks l with
  |some (a,m)=>some (a,(id,id')::m)
  |none=>none)else none
 |_,_=>none
def Hp:List (Option (Nat×AI×Nat×Nat))->List Dy->List Cl×List Dy
 |[],cs=>([],cs)
 |none::ks,y::cs=>(y.cl::(Hp ks cs).1,(Hp ks cs).2)
 |none::ks,[]=>(.dead::(Hp ks []).1,(Hp ks []).2)
 |some (id,p,j,k)::ks,cs=>(.rp id p j k::(Hp ks cs).1,(Hp ks cs).2)
def Yb(k:LK)(y:Sl):Option (List Dy×List (Nat×Nat)):=match k,y with
 |.val _ false,.one c=>match dyC c with
  |some z=>some ([z],[])
  |none=>none
 |.val n true,.agg l=>bif beq l.length n then(match dyL l with
  |some m=>some (m,[])
  |none=>none)else none
 |.ref id,.one (.rf id' [])=>some ([],[(id,id')])
 |.ptr id,.one (.rp id' [] 0 0)=>some ([],[(id,id')])
 |.pth id p,.one (.rf id' p')=>bif Zr p p' then some (dyP p',[(id,id')])else none
 |.mrf id p,.one (.rm id' p')=>bif eqP p p' then some ([],[(id,id')])else none
 |.prp id p j k,.one (.rp id' p' j' k')=>bif eqP p p'&&beq j j'&&beq k k' then some ([],[(id,id')])else none
 |.fn g ks,.pk (.cl g') l=>bif beq g g' then Nd ks l else none
 |.no,_=>some ([],[])
 |_,_=>none
def VR(t0:Nat->Sl)(t:Nat->Sl):List Nat->Option (List Dy×List (Nat×Nat))
 |[]=>some ([],[])
 |d::L=>match Yb (lk (t0 d)) (t d)with
  |some (a,b)=>match VR t0 t L with
   |some (a',b')=>some (a++a',b++b')
   |none=>none
  |none=>none
def piF(m:List (Nat×Nat))(i:Nat):Nat:=match m with
 |[]=>i
 |(a,b)::m=>bif beq a i then b else piF m i
def dyA:List Cl->Option (List Dy)
 |[]=>some []
 |.c t _ x::l=>bif t.one then(match dyA l with
  |some m=>some (⟨t,x⟩::m)
  |none=>none)else none
 |_::_=>none
def Aa9:Aa->Option (List Dy)
 |.arr _ t _ xs=>some [⟨.sl t,xs⟩]
 |.obj _ l=>dyA l
 |.opt _ _ _ _=>none
 |.mp _ k v x=>some [⟨.mp k v,x⟩]
 |.dead=>none
def Z2(r:List Aa)(π:Nat->Nat):List Nat->Option (List Dy)
 |[]=>some []
 |id::l=>match Aa9 (r.getD (π id) .dead)with
  |some a=>match Z2 r π l with
   |some b=>some (a++b)
   |none=>none
  |none=>none
def Yk(k:LK)(cs:List Dy):Sl×List Dy:=match k with
 |.val _ false=>(match cs with
  |y::_=>.one y.cl
  |[]=>.one .dead,cs.drop 1)
 |.val n true=>(.agg ((cs.take n).map Dy.cl),cs.drop n)
 |.ref id=>(.one (.rf id []),cs)
 |.ptr id=>(.one (.rp id [] 0 0),cs)
 |.pth id p=>(.one (.rf id (VU p cs)),cs.drop p.length)
 |.mrf id p=>(.one (.rm id p),cs)
 |.prp id p j k=>(.one (.rp id p j k),cs)
 |.fn g ks=>(.pk (.cl g) (Hp ks cs).1,(Hp ks cs).2)
 |.no=>(.one .dead,cs)
def K5(t0:Nat->Sl):List Nat->List Dy->(Nat->Sl)->(Nat->Sl)×List Dy
 |[],cs,t=>(t,cs)
 |d::L,cs,t=>K5 t0 L (Yk (lk (t0 d)) cs).2 (AC t d (Yk (lk (t0 d)) cs).1)
def Ko:List Cl->List Dy->List Cl×List Dy
 |[],cs=>([],cs)
 |.c t d _::l,y::cs=>(match(if h:y.t=t then some (h▸y.x)else none:Option t.T)with
  |some x=>.c t d x
  |none=>.dead)::(Ko l cs).1|>λm=>(m,(Ko l cs).2)
 |_::l,cs=>(.dead::(Ko l cs).1,(Ko l cs).2)
def Yl:Aa->List Dy->Aa×List Dy
 |.arr _ t d _,y::cs=>(match y with
  |⟨.sl t',xs⟩=>if h:t'=t then .arr false t d (h▸xs)else .dead
  |_=>.dead,cs)
 |.arr _ _ _ _,[]=>(.dead,[])
 |.obj _ l,cs=>(.obj false (Ko l cs).1,(Ko l cs).2)
 |.opt _ _ _ _,cs=>(.dead,cs)
 |.mp _ k v _,y::cs=>(match KE (.mp k v) y with
  |some xs=>.mp false k v xs
  |none=>.dead,cs)
 |.mp _ _ _ _,[]=>(.dead,[])
 |.dead,cs=>(.dead,cs)
def Ho(A:List Aa):List Nat->List Dy->List Aa->List Aa
 |[],_,r=>r
 |id::l,cs,r=>Ho A l (Yl (A.getD id .dead) cs).2 (r.set id (Yl (A.getD id .dead) cs).1)
def Bz:Aa->Aa
 |.arr _ t d xs=>.arr true t d xs
 |.obj _ l=>.obj true l
 |.opt _ t d x=>.opt true t d x
 |.mp _ k v x=>.mp true k v x
 |.dead=>.dead
def Bu(ro:Bool)(b:List Oper)(L Rh:List Nat)(A:St)(cs:List Dy):St:=
 let base:Nat->Sl:=λi=>bif Ao b i&&(A.t i).stay then A.t i else .one .dead
 let f:=K5 A.t L cs base
 ⟨f.1,Ho A.r Rh f.2 (bif ro then A.r.map Bz else A.r)⟩
end Go.Ve


namespace Go.Ve
variable{c:Cl}{r r':List Aa}{a rest:List Dy}{n:Nat}{π:Nat->Nat}{y:Sl}
def Zs:List Cl->List Cl->Bool
 |[],[]=>true
 |.c t d _::l,.c t' d' _::m=>decide (t'=t)&&beq d' d&&Zs l m
 |_,_=>false
def AbZ:Aa->Aa->Bool
 |.arr _ t d _,.arr _ t' d' _=>decide (t'=t)&&beq d' d
 |.obj _ l,.obj _ m=>Zs l m
 |.mp _ k v _,.mp _ k' v' _=>decide (k'=k)&&decide (v'=v)
 |_,_=>false
def Y4:Aa->Aa
 |.arr _ t d xs=>.arr false t d xs
 |.obj _ l=>.obj false l
 |.opt _ t d x=>.opt false t d x
 |.mp _ k v x=>.mp false k v x
 |.dead=>.dead
def unRo_v(r:Aa):(Y4 r).v=r.v/\(Y4 r).len=r.len:=by cases r<;>first|trivial|exact⟨rfl,Qa⟩
def MD(r:Aa):(Bz r).v=r.v/\(Bz r).len=r.len:=by cases r<;>first|trivial|exact⟨rfl,Qa⟩
def JN(r:Aa)(i:Nat):(Bz r).cells i=r.cells i:=by cases r<;>cases i<;>rfl
def Vl(c:Cl)(b A:Bool):Bz (c.node b)=Bz (c.node A):=by
 cases c with
 |c t d x=>cases t<;>cases d<;>rfl
 |_=>rfl
def Zm(r:Aa):Bz (Y4 r)=Bz r:=by cases r<;>rfl
def JM(r:Aa):Bz (Bz r)=Bz r:=by cases r<;>rfl
def Aav:∀(q:AI) (r r':Aa),Bz r=Bz r'->(r.at' q).len=(r'.at' q).len
 |[],r,r',h=>by
  show r.len=r'.len;rw[<-(MD r).2,<-(MD r').2,h]
 |(i,k)::q,r,r',h=>by
  show((((r.cells i).getD k .dead).node r.ro).at' q).len=((((r'.cells i).getD k .dead).node r'.ro).at' q).len;have e:r.cells i=r'.cells i:=by rw[<-JN r,<-JN r',h]
  rw[e];exact Aav q _ _ (Vl _ _ _)
theorem LU:∀(p A:AI) (rest:List Dy),Zr p A=true->VU p (dyP A++rest)=A/\(dyP A++rest).drop p.length=rest
 |[],[],rest,_=>⟨rfl,rfl⟩
 |(i,k)::p,(i',k')::A,rest,h=>by
  have h:(beq k k'&&Zr p A)=true:=h;rw[bAE]at h;obtain⟨a,b⟩:=LU p A rest h.2;have F:=bqE h.1;subst F;refine⟨?_,b⟩;show(Int.toNat (Int.ofNat i'),k)::VU p (dyP A++rest)=_
  simp_all
 |[],_::_,_,h=>by cases h
 |_::_,[],_,h=>by cases h
theorem VV:∀(l m:List Cl) (a:List Dy) (rest:List Dy),Zs l m=true->dyA m=some a->Ko l (a++rest)=(m,rest):=by
 intro l
 induction l with
 |nil=>intro m a rest h A;cases m with
  |nil=>cases A;rfl
  |cons y m=>cases y<;>cases h
 |cons y l W=>
  intro m a rest h A;cases m with
  |nil=>cases y<;>cases h
  |cons z m=>
   cases y with
   |c t d x=>
    cases z with
    |c F U H=>
     have h:(decide (F=t)&&beq U d&&Zs l m)=true:=h;simp only[bAE,decide_eq_true_eq]at h;obtain⟨⟨rfl,hd⟩,hl⟩:=h;have hd:=bqE hd;subst hd
     have A:(bif F.one then(match dyA m with
      |some m=>some ((⟨F,H⟩:Dy)::m)
      |none=>none)else none)=some a:=A
     obtain⟨Z,A⟩:=A1 A;split at A
     case h_2=>cases A
     rename_i b Y;cases A
     show((match(if h:F=F then some (h▸H)else none:Option F.T)with
      |some x=>Cl.c F U x
      |none=>.dead)::(Ko l (b++rest)).1,(Ko l (b++rest)).2)=_
     rw[W m b rest hl Y];simp
    |_=>cases h
   |_=>cases z<;>cases h
def Qg{old new:Aa}(h:AbZ old new=true)(U:Aa9 new=some a):Yl old (a++rest)=(Y4 new,rest):=by
 cases old with
 |arr ro t d xs=>
  cases new with
  |arr F H W A=>
   have h:(decide (H=t)&&beq W d)=true:=h;simp only[bAE,decide_eq_true_eq]at h;obtain⟨rfl,hd⟩:=h;have hd:=bqE hd;subst hd;cases U;show((if h:H=H then Aa.arr false H W (h▸A)else .dead),rest)=_
   simp[Y4]
  |_=>cases h
 |obj ro l=>
  cases new with
  |obj F m=>
   show(Aa.obj false (Ko l (a++rest)).1,(Ko l (a++rest)).2)=_;rw[VV l m a rest h U];rfl
  |_=>cases h
 |dead=>trivial
 |opt=>trivial
 |mp ro k v xs=>
  cases new with
  |mp F k' v' A=>
   have h:(decide (k'=k)&&decide (v'=v))=true:=h;simp only[bAE,decide_eq_true_eq]at h;obtain⟨rfl,rfl⟩:=h;cases U
   show(match KE (.mp k' v') ⟨.mp k' v',A⟩with
    |some xs=>Aa.mp false k' v' xs
    |none=>.dead,rest)=_
   simp[Y4,KE]
  |_=>cases h
def H8:List (Option (Nat×AI×Nat×Nat))->List Cl->List Cl
 |none::ks,y::l=>(match dyC y with
  |some z=>z.cl
  |none=>.dead)::H8 ks l
 |some (id,p,j,k)::ks,_::l=>.rp id p j k::H8 ks l
 |_,_=>[]
theorem IJ:∀{ks:List (Option (Nat×AI×Nat×Nat))}{l:List Cl}{a rest:List Dy}{m:List (Nat×Nat)},Nd ks l=some (a,m)->Hp ks (a++rest)=(H8 ks l,rest)
 |[],[],_,_,_,h=>by cases h;rfl
 |none::ks,y::l,a,rest,m,h=>by
  unfold Nd at h;split at h
  case h_2=>cases h
  rename_i z U;split at h
  case h_2=>cases h
  rename_i F H A;cases h;have:=IJ (rest:=rest) A
  show(z.cl::(Hp ks (F++rest)).1,(Hp ks (F++rest)).2)=((match dyC y with
   |some z=>z.cl
   |none=>.dead)::H8 ks l,rest)
  rw[this,U]
 |some (id,p,j,k)::ks,y::l,a,rest,m,h=>by
  unfold Nd at h;split at h
  case h_1=>simp_all
  case h_2=>simp_all
  case h_4=>cases h
  rename_i Y W;cases Y;cases W;obtain⟨_,h⟩:=A1 h;split at h
  case h_2=>cases h
  rename_i F H A;cases h;have:=IJ (rest:=rest) A;show(Cl.rp id p j k::(Hp ks (a++rest)).1,(Hp ks (a++rest)).2)=_;rw[this];rfl
 |[],_::_,_,_,_,h=>by cases h
 |none::_,[],_,_,_,h=>by cases h
 |some _::_,[],_,_,_,h=>by cases h
def I7(k:LK)(y:Sl):Sl:=match k,y with
 |.val _ false,.one c=>(match dyC c with
  |some z=>.one z.cl
  |none=>.one .dead)
 |.val _ true,.agg l=>(match dyL l with
  |some m=>.agg (m.map Dy.cl)
  |none=>.one .dead)
 |.ref id,_=>.one (.rf id [])
 |.ptr id,_=>.one (.rp id [] 0 0)
 |.pth id _,.one (.rf _ p')=>.one (.rf id p')
 |.mrf id p,_=>.one (.rm id p)
 |.prp id p j k,_=>.one (.rp id p j k)
 |.fn g ks,.pk _ l=>.pk (.cl g) (H8 ks l)
 |_,_=>.one .dead
theorem VT{k:LK}{m:List (Nat×Nat)}(h:Yb k y=some (a,m)):Yk k (a++rest)=(I7 k y,rest):=by
 unfold Yb at h;split at h
 .split at h
  case h_2=>cases h
  rename_i z U;cases h;unfold Yk I7;simp[U]
 .rename_i n l
  obtain⟨A,h⟩:=A1 h;split at h
  case h_2=>cases h
  rename_i z U;cases h
  have F:∀(l:List Cl) (z:List Dy),dyL l=some z->z.length=l.length:=by
   intro l
   induction l with
   |nil=>intro z h;cases h;rfl
   |cons y l Z=>
    intro z h;unfold dyL at h
    grind
  have hl:=F l a U;have hn:=bqE A;unfold Yk I7
  grind
 .cases h;rfl
 .cases h;rfl
 .rename_i id p id' H
  obtain⟨A,h⟩:=A1 h;cases h;obtain⟨Y,W⟩:=LU p H rest A;show(Sl.one (.rf id (VU p (dyP H++rest))),(dyP H++rest).drop p.length)=(Sl.one (.rf id H),rest);rw[Y,W]
 .obtain⟨A,h⟩:=A1 h
  cases h;rfl
 .obtain⟨A,h⟩:=A1 h
  cases h;rfl
 .rename_i g ks g' l
  obtain⟨A,h⟩:=A1 h;show(Sl.pk (.cl g) (Hp ks (a++rest)).1,(Hp ks (a++rest)).2)=(Sl.pk (.cl g) (H8 ks l),rest);rw[IJ h]
 .cases h;rfl
 .cases h
def L7(t0 A:Nat->Sl):List Nat->(Nat->Sl)->Nat->Sl
 |[],t=>t
 |d::L,t=>L7 t0 A L (AC t d (I7 (lk (t0 d)) (A d)))
def LV{t0 A:Nat->Sl}:∀(L:List Nat) (a rest:List Dy) (m:List (Nat×Nat)) (t:Nat->Sl),VR t0 A L=some (a,m)->K5 t0 L (a++rest) t=(L7 t0 A L t,rest)
 |[],a,rest,m,t,h=>by cases h;rfl
 |d::L,a,rest,m,t,h=>by
  unfold VR at h;split at h
  case h_2=>grind
  rename_i a1 W H;split at h
  case h_2=>grind
  rename_i a2 U F;cases h;unfold K5;rw[List.append_assoc,VT H];exact LV L a2 rest U _ F
theorem L6{t0 A:Nat->Sl}:∀(L:List Nat) (t:Nat->Sl) (i:Nat),L7 t0 A L t i=if L.contains i then I7 (lk (t0 i)) (A i)else t i
 |[],t,i=>rfl
 |d::L,t,i=>by
  unfold L7;rw[L6 L];by_cases hi:L.contains i=true
  .grind
  .rw[if_neg hi]
   by_cases hd:i=d
   .subst hd
    rw[if_pos (by simp)]
    unfold AC;simp
   .have:(d::L).contains i=false:=by
     grind
    rw[this,AU hd];rfl
def A6(r':List Aa)(π:Nat->Nat):List Nat->List Aa->List Aa
 |[],r=>r
 |id::l,r=>A6 r' π l (r.set id (Y4 (r'.getD (π id) .dead)))
def LT{A r':List Aa}{π:Nat->Nat}:∀(Rh:List Nat) (a:List Dy) (r:List Aa),Rh.all (λi=>AbZ (A.getD i .dead) (r'.getD (π i) .dead))=true->Z2 r' π Rh=some a->Ho A Rh a r=A6 r' π Rh r
 |[],a,r,_,h=>rfl
 |id::l,a,r,hs,h=>by
  rw[List.all_cons,bAE]at hs;unfold Z2 at h;split at h
  case h_2=>grind
  rename_i a1 H;split at h
  case h_2=>grind
  rename_i a2 F;cases h;unfold Ho;rw[Qg hs.1 H];exact LT l a2 _ hs.2 F
def L8{r':List Aa}{π:Nat->Nat}:∀(Rh:List Nat) (r:List Aa),(A6 r' π Rh r).length=r.length
 |[],_=>rfl
 |id::l,r=>by unfold A6;rw[L8 l,List.length_set]
def L9{r':List Aa}{π:Nat->Nat}:∀(Rh:List Nat) (r:List Aa) (i:Nat),i<r.length->(A6 r' π Rh r).getD i .dead=if Rh.contains i then Y4 (r'.getD (π i) .dead)else r.getD i .dead
 |[],r,i,_=>rfl
 |id::l,r,i,hi=>by
  unfold A6;rw[L9 l _ i (by grind)]
  grind
def Aba(m:List (Nat×Nat))(L Rh:List Nat)(A s':St)(keep:Nat):Bool:=
 (range A.r.length).all (λi=>blt (piF m i) s'.r.length)&&
 (range A.r.length).all (λi=>(range A.r.length).all λj=>beq i j|| !beq (piF m i) (piF m j))&&
 (range A.r.length).all (λi=>Rh.contains i||beq (piF m i) i)&&
 Rh.all (λi=>AbZ (A.r.getD i .dead) (s'.r.getD (piF m i) .dead))&&
 m.all (λp=>beq (piF m p.1) p.2&&blt p.1 A.r.length)&&
 (range keep).all (λi=>beq (piF m i) i)
def AcK(L Rh:List Nat)(A s':St)(keep:Nat):Option (List Dy):=match VR A.t s'.t L with
 |some (a,m)=>bif Aba m L Rh A s' keep then(match Z2 s'.r (piF m) Rh with
  |some c=>some (a++c)
  |none=>none)else none
 |none=>none
theorem AcW{z:Dy}(h:dyC c=some z):c.v r=z.cl.v r':=by
 unfold dyC at h;split at h
 case h_2=>grind
 rename_i t d x;cases A:(t.one&& !(Cl.c t d x).own)with
 |false=>grind
 |true=>
  rw[A]at h;cases h;simp[not_eq_true']at A
  cases t<;>cases d<;>first|rfl|(cases x with
   |none=>rfl
   |some _=>exact absurd A.2 (by intro h;cases h))|exact nomatch A.2|rfl
def JV(h:c.stay=true):BH π n (c.v r) (c.v r'):=by
 cases c with
 |c t d x=>cases t<;>first|exact BH.tyV0 (.clo _ _) x _ (mem_singleton.2 rfl)|(cases x<;>first|rfl|exact .inr (Sub.refl _))|exact ren_nr (λ_ _ _ _ h=>by cases h) (λ_ _ _ _ h=>by cases h) (λ_ _ _ h=>by cases h) (λ_ _ h=>by cases h)
 |dead=>exact .inl rfl
 |nil=>exact .inr (Sub.refl _)
 |nilp=>exact .inr (Sub.refl _)
 |nilf=>exact .inr (Sub.refl _)
 |nilm=>exact .inr (Sub.refl _)
 |raw _ _=>exact .inr (Sub.refl _)
 |_=>cases h
theorem Zy(h:y.stay=true):BH π n (y.v r) (y.v r'):=by
 have agg:∀l:List Cl,l.all Cl.stay=true->BH π n (Ah (l.map (Cl.v r))) (Ah (l.map (Cl.v r'))):=by
  intro l h;refine QW (by simp) λk A=>?_
  rw[Aw (f:=Cl.v r) (a:=.dead) rfl,Aw (f:=Cl.v r') (a:=.dead) rfl];have A:k<l.length:=by simpa using A
  refine JV (aET.1 h _ ?_)
  grind
 cases y with
 |one c=>exact JV h
 |new l=>exact .inr (Sub.refl _)
 |agg l=>exact agg l h
 |pk t l=>
  refine Xh (by simp) λk A=>?_
  rw[Aw (f:=Cl.v r) (a:=.dead) rfl,Aw (f:=Cl.v r') (a:=.dead) rfl];have A:k<l.length:=by simpa using A
  refine JV (aET.1 h _ ?_)
  grind
 |tup l=>
  refine Xg (by simp) λk A=>?_
  have A:k<l.length:=by simpa using A
  simp only[gDE,getElem?_map,gEE A,Option.map_some,Option.getD_some];have F:=aET.1 h l[k] (List.getElem_mem A);generalize l[k]=p at F;obtain⟨b,m⟩:=p;cases b with
  |true=>exact agg m F
  |false=>
   cases m with
   |nil=>exact .inl rfl
   |cons y m=>exact JV (by grind)
theorem Qd{C:Ctx}{N:Nat}{ro:Bool}{b:List Oper}{L Rh:List Nat}{A s':St}{keep:Nat}{cs:List Dy}{a:Act}{w:World}(h:AA C N s'.den a w)(hg:AcK L Rh A s' keep=some cs)(hk:C.m<=keep)(hk0:C.m<=A.r.length)
  (ht:∀i,L.contains i=false->Ao b i=true->(A.t i).stay=true->s'.t i=A.t i)
  (hr:∀id,id<A.r.length->Rh.contains id=false->(s'.r.getD id .dead).v=(A.r.getD id .dead).v/\(s'.r.getD id .dead).len=(A.r.getD id .dead).len)
  (hq:∀id,id<A.r.length->Rh.contains id=false->∀q:AI,((s'.r.getD id .dead).at' q).len=((A.r.getD id .dead).at' q).len):AA C N (Bu ro b L Rh A cs).den a w:=by
 unfold AcK at hg;split at hg
 case h_2=>cases hg
 rename_i av m hgl;obtain⟨hok,hg⟩:=A1 hg;split at hg
 case h_2=>cases hg
 rename_i cv hgr;cases hg;unfold Aba at hok;simp only[bAE]at hok;obtain⟨⟨⟨⟨⟨o1,o2⟩,o3⟩,o4⟩,o5⟩,o6⟩:=hok
 let base:Nat->Sl:=λi=>bif Ao b i&&(A.t i).stay then A.t i else .one .dead
 let F:List Aa:=bif ro then A.r.map Bz else A.r
 have hr0l:F.length=A.r.length:=by cases ro<;>simp[F]
 have hr0g:∀i,(F.getD i .dead).v=(A.r.getD i .dead).v/\(F.getD i .dead).len=(A.r.getD i .dead).len:=by
  intro i;cases ro with
  |false=>exact⟨rfl,rfl⟩
  |true=>
   have e:F.getD i .dead=Bz (A.r.getD i .dead):=by
    show(A.r.map Bz).getD i .dead=_;simp only[gDE,getElem?_map];cases A.r[i]? <;>rfl
   rw[e];exact MD _
 have hT:Bu ro b L Rh A (av++cv)=⟨L7 A.t s'.t L base,A6 s'.r (piF m) Rh F⟩:=by
  show(⟨(K5 A.t L (av++cv) base).1,Ho A.r Rh (K5 A.t L (av++cv) base).2 F⟩:St)=_;rw[LV L av cv m base hgl];simp only;rw[LT Rh cv F o4 hgr]
 rw[hT];have hlen:(A6 s'.r (piF m) Rh F).length=A.r.length:=by rw[L8,hr0l]
 have U:((A6 s'.r (piF m) Rh F).map Aa.v).length=A.r.length:=by rw[List.length_map,hlen]
 have hget:∀i,i<A.r.length->(A6 s'.r (piF m) Rh F).getD i .dead=if Rh.contains i then Y4 (s'.r.getD (piF m i) .dead)else F.getD i .dead:=λi hi=>L9 Rh F i (by rw[hr0l];exact hi)
 have hgv:∀i,i<A.r.length->((A6 s'.r (piF m) Rh F).getD i .dead).v=(s'.r.getD (piF m i) .dead).v/\((A6 s'.r (piF m) Rh F).getD i .dead).len=(s'.r.getD (piF m i) .dead).len:=by
  intro i hi;rw[hget i hi];cases hc:Rh.contains i with
  |true=>simp only[if_true];exact unRo_v _
  |false=>
   simp only[false_eq_true,if_false];have:=aET.1 o3 i (mem_range.2 hi);rw[hc,Bool.false_or]at this;rw[bqE this,(hr0g i).1,(hr0g i).2,(hr i hi hc).1,(hr i hi hc).2];exact⟨rfl,rfl⟩
 have hgq:∀i,i<A.r.length->∀q:AI,(((A6 s'.r (piF m) Rh F).getD i .dead).at' q).len=((s'.r.getD (piF m i) .dead).at' q).len:=by
  intro i hi q;rw[hget i hi];cases hc:Rh.contains i with
  |true=>simp only[if_true];exact Aav q _ _ (Zm _)
  |false=>
   simp only[false_eq_true,if_false];have:=aET.1 o3 i (mem_range.2 hi);rw[hc,Bool.false_or]at this;rw[bqE this,hq i hi hc q];refine Aav q _ _ ?_;cases ro with
   |false=>rfl
   |true=>
    have e:F.getD i .dead=Bz (A.r.getD i .dead):=by
     show(A.r.map Bz).getD i .dead=_;simp only[gDE,getElem?_map];cases A.r[i]? <;>rfl
    rw[e];exact JM _
 refine h.perm (π:=piF m) (λi hi=>?_) (λi j hi hj he=>?_) (λi hi=>?_) (λi hi=>?_) ?_ λi=>?_
 .have hi:i<A.r.length:=by rw[<-U];exact hi
  show _<(s'.r.map Aa.v).length;rw[List.length_map];exact blE (aET.1 o1 i (mem_range.2 hi))
 .have hi:i<A.r.length:=by rw[<-U];exact hi
  have hj:j<A.r.length:=by rw[<-U];exact hj
  have:=aET.1 (aET.1 o2 i (mem_range.2 hi)) j (mem_range.2 hj);rw[he,Nat.beq_refl,or_eq_true]at this;rcases this with h|h
  .exact bqE h
  .cases h
 .have hi:i<A.r.length:=by rw[<-U];exact hi
  show Sub ((s'.r.map Aa.v).getD (piF m i) .dead) (((A6 s'.r (piF m) Rh F).map Aa.v).getD i .dead);rw[Ai,Ai,(hgv i hi).1];exact Sub.refl _
 .exact bqE (aET.1 o6 i (mem_range.2 (Nat.lt_of_lt_of_le hi hk)))
 .show C.m<=((A6 s'.r (piF m) Rh F).map Aa.v).length
  rw[U];exact hk0
 .show BH (piF m) ((A6 s'.r (piF m) Rh F).map Aa.v).length ((s'.t i).v s'.r) ((L7 A.t s'.t L base i).v (A6 s'.r (piF m) Rh F))
  rw[L6,U];cases hc:L.contains i with
  |false=>
   simp only[false_eq_true,if_false];show BH _ _ _ ((bif Ao b i&&(A.t i).stay then A.t i else .one .dead:Sl).v _);cases hb:(Ao b i&&(A.t i).stay)with
   |false=>exact BH.dead _ _ _
   |true=>
    rw[bAE]at hb;rw[ht i hc hb.1 hb.2];exact Zy hb.2
  |true=>
   simp only[if_true]
   -- the slot's own part of what was grabbed
   have hpart:∀(L:List Nat) (av:List Dy) (m0:List (Nat×Nat)),VR A.t s'.t L=some (av,m0)->L.contains i=true->∃a1 m1,Yb (lk (A.t i)) (s'.t i)=some (a1,m1)/\∀p∈m1,p∈m0:=by
    intro L
    induction L with
    |nil=>intro av m0 _ h;cases h
    |cons d L ih=>
     intro av m0 hgl hc;unfold VR at hgl;split at hgl
     case h_2=>cases hgl
     rename_i a1 b1 W;split at hgl
     case h_2=>cases hgl
     rename_i a2 b2 h2;cases hgl;by_cases hd:i=d
     .subst hd
      exact⟨a1,b1,W,λp H=>List.mem_append_left _ H⟩
     .have:L.contains i=true:=by
       rw[List.contains_cons]at hc;have hne:(i==d)=false:=by simpa using hd
       rw[hne,Bool.false_or]at hc;exact hc
      obtain⟨a3,m3,h3,h4⟩:=ih a2 b2 h2 this;exact⟨a3,m3,h3,λp H=>List.mem_append_right _ (h4 p H)⟩
   obtain⟨a1,m1,W,hm1⟩:=hpart L av m hgl hc;generalize lk (A.t i)=k at W;generalize s'.t i=y at W;unfold Yb at W;split at W
   .rename_i c
    split at W
    case h_2=>cases W
    rename_i z hz;unfold I7;simp only[hz];have e:=AcW (r:=s'.r) (r':=A6 s'.r (piF m) Rh F) hz;show BH _ _ (c.v s'.r) (z.cl.v (A6 s'.r (piF m) Rh F));rw[e];exact JV (r:=A6 s'.r (piF m) Rh F) (r':=A6 s'.r (piF m) Rh F) (c:=z.cl) rfl
   .rename_i n l
    obtain⟨hb,W⟩:=A1 W;split at W
    case h_2=>cases W
    rename_i z hz;unfold I7;simp only[hz]
    have key:∀(l:List Cl) (z:List Dy),dyL l=some z->l.map (Cl.v s'.r)=(z.map Dy.cl).map (Cl.v (A6 s'.r (piF m) Rh F)):=by
     intro l
     induction l with
     |nil=>intro z h;cases h;rfl
     |cons y l ih=>
      intro z h;unfold dyL at h;split at h
      case h_2=>cases h
      rename_i z1 hz1;split at h
      case h_2=>cases h
      rename_i z2 hz2;cases h;simp only[List.map_cons];rw[AcW hz1,ih z2 hz2]
    show BH _ _ (Ah (l.map (Cl.v s'.r))) (Ah ((z.map Dy.cl).map (Cl.v (A6 s'.r (piF m) Rh F))));rw[key l z hz];refine QW rfl λk hk=>?_
    rw[Aw (f:=Cl.v (A6 s'.r (piF m) Rh F)) (a:=.dead) rfl];cases hx:(z.map Dy.cl)[k]? with
    |none=>simp only[gDE,hx];exact .inl rfl
    |some x=>
     simp only[gDE,hx,Option.getD_some];obtain⟨u,_,hu⟩:=mem_map.1 (List.mem_of_getElem? hx);rw[<-hu];exact JV (c:=u.cl) rfl
   .rename_i id id'
    cases W;have H:=aET.1 o5 (id,id') (hm1 _ (mem_singleton.2 rfl));rw[bAE]at H;have Y:piF m id=id':=bqE H.1;have Z:id<A.r.length:=blE H.2;refine .inr ⟨id,Z,Y,?_⟩;show V.rs id [] 0 ((A6 s'.r (piF m) Rh F).getD id .dead).len=V.rs id [] 0 (s'.r.getD id' .dead).len;rw[(hgv id Z).2,Y]
   .rename_i id id'
    cases W;have H:=aET.1 o5 (id,id') (hm1 _ (mem_singleton.2 rfl));rw[bAE]at H;have Y:piF m id=id':=bqE H.1;have Z:id<A.r.length:=blE H.2;exact .inr ⟨id,Z,Y,rfl⟩
   .rename_i id p id' p'
    obtain⟨hb,W⟩:=A1 W;cases W;have H:=aET.1 o5 (id,id') (hm1 _ (mem_singleton.2 rfl));rw[bAE]at H;have Y:piF m id=id':=bqE H.1;have Z:id<A.r.length:=blE H.2;refine .inr ⟨id,Z,Y,?_⟩;show V.rs id p' 0 (((A6 s'.r (piF m) Rh F).getD id .dead).at' p').len=V.rs id p' 0 ((s'.r.getD id' .dead).at' p').len;rw[hgq id Z p',Y]
   .rename_i id p id' p'
    obtain⟨hb,W⟩:=A1 W;cases W;have H:=aET.1 o5 (id,id') (hm1 _ (mem_singleton.2 rfl));rw[bAE]at H;have Y:piF m id=id':=bqE H.1;have Z:id<A.r.length:=blE H.2;rw[<-O3 p p' hb];exact .inr ⟨id,Z,Y,rfl⟩
   .rename_i id p j k id' p' j' k'
    obtain⟨hb,W⟩:=A1 W;cases W;simp only[bAE]at hb;have H:=aET.1 o5 (id,id') (hm1 _ (mem_singleton.2 rfl));rw[bAE]at H;have Y:piF m id=id':=bqE H.1;have Z:id<A.r.length:=blE H.2;rw[<-O3 p p' hb.1.1,<-bqE hb.1.2,<-bqE hb.2];exact .inr ⟨id,Z,Y,rfl⟩
   .rename_i g ks g' l
    obtain⟨hb,hk1⟩:=A1 W;have hg:=bqE hb;subst hg
    have key:∀(ks:List (Option (Nat×AI×Nat×Nat))) (l:List Cl) (a:List Dy) (m1:List (Nat×Nat)),Nd ks l=some (a,m1)->(∀p∈m1,p∈m)->(H8 ks l).length=l.length/\∀k,BH (piF m) A.r.length ((l.map (Cl.v s'.r)).getD k .dead) (((H8 ks l).map (Cl.v (A6 s'.r (piF m) Rh F))).getD k .dead):=by
     intro ks
     induction ks with
     |nil=>
      intro l a m1 h _;cases l with
      |nil=>exact⟨rfl,λk=>BH.dead _ _ _⟩
      |cons y l=>cases h
     |cons x ks ih=>
      intro l a m1 h hm;cases l with
      |nil=>cases x<;>cases h
      |cons y l=>
       cases x with
       |none=>
        unfold Nd at h;split at h
        case h_2=>cases h
        rename_i z hz;split at h
        case h_2=>cases h
        rename_i a2 m2 h2;cases h;obtain⟨i1,i2⟩:=ih l a2 _ h2 hm;refine⟨congrArg (· +1) i1,λk=>?_⟩
        cases k with
        |zero=>
         show BH _ _ (y.v s'.r) ((match dyC y with
          |some z=>z.cl
          |none=>.dead:Cl).v _)
         rw[hz];show BH _ _ (y.v s'.r) (z.cl.v _);rw[AcW (r:=s'.r) (r':=A6 s'.r (piF m) Rh F) hz];exact JV (r:=A6 s'.r (piF m) Rh F) (r':=A6 s'.r (piF m) Rh F) (c:=z.cl) rfl
        |succ k=>exact i2 k
       |some x=>
        obtain⟨id,p,j,k0⟩:=x;unfold Nd at h;split at h
        case h_1=>simp_all
        case h_2=>simp_all
        case h_4=>cases h
        rename_i e1 e2;cases e1;cases e2;obtain⟨hb,h⟩:=A1 h;split at h
        case h_2=>cases h
        rename_i a2 m2 h2;cases h;obtain⟨i1,i2⟩:=ih l _ m2 h2 λp H=>hm p (mCM _ H)
        refine⟨congrArg (· +1) i1,λk=>?_⟩
        cases k with
        |zero=>
         simp only[bAE]at hb;have H:=aET.1 o5 _ (hm _ (List.mem_cons_self ..));rw[bAE]at H;rw[<-O3 _ _ hb.1.1,<-bqE hb.1.2,<-bqE hb.2];exact .inr ⟨id,blE H.2,bqE H.1,rfl⟩
        |succ k=>exact i2 k
    obtain⟨i1,i2⟩:=key ks l a1 m1 hk1 hm1;show BH _ _ (pkL (.cl g) (l.map (Cl.v s'.r))) (pkL (.cl g) ((H8 ks l).map (Cl.v (A6 s'.r (piF m) Rh F))));exact Xh (by simp[i1]) λk _=>i2 k
   .unfold I7
    exact BH.dead _ _ _
   .cases W
end Go.Ve

