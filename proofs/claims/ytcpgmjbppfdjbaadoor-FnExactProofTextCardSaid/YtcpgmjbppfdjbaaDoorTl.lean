/- The typed machine: a region that draws its order; code. -/
import Derived.Test.YtcpgmjbppfdjbaaDoorTk
namespace Go.Ve
variable{a:Act}{ops:Array Oper}{C:Ctx}{E:Env}{B:List (Nat×Nat)}{i n:Nat}{P:Program}{s:St}{R:Type}{w:World}
theorem vdrawB{C:Ctx}{h:Cg}{id:Nat}{Q:Exit->Act->World->Prop}{σ:List V}{t0:Nat->V}{X:Nat->Prop}(B:List (Nat×Nat))(n:Nat)(fs:List Nat){Kt:(Nat->V)->Prop}{a:Act}{w:World}(hm:P.follows .mixedOrders=true)(hq:QOK ops n)
  (hv:vq P h ops σ (ops.toList.take n) Kt t0) (hX: ∀x,X x->∀j,AA ops j≠some x) (hB1:(B.map (·.1)).Nodup) (hB2:(B.map (·.2)).Nodup) (hB3: ∀p∈B,p.1<h.n/\p.2<σ.length/\σ.getD p.2 .dead= .dead/\∀j,AA ops j≠some p.1)
  (hKt: ∀Q':Exit->Act->World->Prop,(∀a w,Q .normal a w->Q' .normal a w)->∀t a w,Kt t->(∀x,X x->x∈B.map (·.1)\/AE (t x)=false)/\(∀p∈B,Ka (t p.1))/\(AI C h.n (promA ((ops.toList.take n).map (·.dst)) (backs B ⟨t,σ⟩)) a w->wpList P ops Q' (ops.toList.drop n) a w))
  (hr:Qm ops n\/(FLS ops n fs/\FlT P ops fs/\∀t a w,Kt t->AI C h.n (promA ((ops.toList.take n).map (·.dst)) (backs B ⟨t,σ⟩)) a w->FlH P ops n fs a w))
  (hp0: ∃D ρ F T,PR C h.n σ ρ F t0 a {w with drawn:=w.drawn+1} D T/\(∀x b,T x b->X x)/\∀p∈B,a.tmps.getD p.1 undef=ρ p.2):(Code.region id ops true).wp P Q a w:=by
 refine wp_region_any hm ?_;obtain⟨r,m,hst,hK⟩:=Xi (n:=n) (t0:=t0) (K:=Kt) hq.le hq n 0 (λ_=>.dead) (λ_=>[]) (by omega) (by simpa [BY]using hv) (λj hj=>by omega)
 have inv0:HeadInv .any ops n (Array.replicate ops.size false):=
  ⟨by simp,λj oj _ hl=>(by rw [getD_replicate_false]at hl;cases hl),λt _ ht=>getD_in (by simpa using ht) (getD_replicate_false _ _)⟩
 obtain⟨D,ρ,F,T,hp,hTX,hBv⟩:=hp0
 have hpt: ∀x,pt ops n r m t0 (Array.replicate ops.size false) x=t0 x\/(pt ops n r m t0 (Array.replicate ops.size false) x= .dead/\∃k,AA ops k=some x):=by
  intro x;unfold pt;cases ho:Co ops n x with
  |none=>exact .inl (HC n λi _ hs=>by rw [getD_replicate_false]at hs;cases hs)
  |some k=>
   right;show(if(Array.replicate ops.size false).getD k false=true then _ else V.dead)=_/\_
   rw [getD_replicate_false];exact⟨rfl,k,(A8 ho).2⟩
 have hp1:PR C h.n σ ρ F (pt ops n r m t0 (Array.replicate ops.size false)) a {w with drawn:=w.drawn+1} D T:=by
  refine⟨hp.df,hp.sz,λx hx=>?_,hp.wr,λx hx=>?_,hp.tD,hp.tF,hp.tT,hp.tn,hp.fr,hp.Fn,hp.D1,hp.D2,hp.rt,hp.ml,hp.tx⟩
  ·rcases hpt x with e|e
   ·rw [e];exact hp.dd x hx
   ·exact e.1
  ·rcases hpt x with e|⟨e,k,hk⟩
   ·rw [e];exact hp.tm x hx
   ·rw [e]
    exact λb hb=>hX x (hTX x b hb) k hk
 have hclose: ∀a1 w D T,PR C h.n σ ρ F (BY ops r m t0 n) a1 w D T->(∀x b,T x b->Pa ops n X x)->(∀x,(∀i,i<n->AA ops i≠some x)->a1.tmps[x]? =a.tmps[x]?)->AI C h.n (promA ((ops.toList.take n).map (·.dst)) (backs B ⟨BY ops r m t0 n,σ⟩)) a1 w:=by
  intro a1 w D T hp hT hA;obtain⟨hfree,hobj,_⟩:=hKt Q (λ_ _ h=>h) _ a1 w hK
  obtain⟨F',T',hp',hT'⟩:=PR.backs B _ _ _ _ hp hB1 hB2 λp hpB=>by
   obtain⟨g1,g2,g3,g4⟩:=hB3 p hpB;refine⟨g1,g2,g3,?_,hobj p hpB⟩;rw [<-hBv p hpB,Array.getD_eq_getD_getElem?,Array.getD_eq_getD_getElem?,hA p.1 λi _=>g4 i]
  refine PR.close _ _ _ _ _ _ hp' λx b ho=>?_
  obtain⟨ho,hxB⟩:=hT' x b ho;rcases hT x b ho with⟨i,hi,hd⟩|hx
  ·obtain⟨oi,hoi,_⟩:=hq.dst i hi
   refine List.mem_map.2 ⟨oi,?_,by simpa [AA,hoi]using hd⟩
   refine List.mem_of_getElem? (i:=i) ?_;rw [List.getElem?_take,if_pos hi,Array.getElem?_toList];exact hoi
  ·exfalso
   by_cases hxn:x<h.n
   ·exact Au _ _ _ ((hfree x hx).resolve_left hxB) (hp.tm x hxn) b ho
   ·exact hp.tx x b (Nat.le_of_not_lt hxn) ho
 have hfu:unl (Array.replicate ops.size false) n+(ops.size-n)<=ops.size:=by
  have:unl (Array.replicate ops.size false) n<=n:=by
   unfold unl;have:=List.countP_le_length (p:=λi=>!(Array.replicate ops.size false).getD i true) (l:=List.range n)
   simpa using this
  have:=hq.le;omega
 have hend: ∀Q':Exit->Act->World->Prop,(∀a w,Q .normal a w->Q' .normal a w)->∀a1 w D T,PR C h.n σ ρ F (BY ops r m t0 n) a1 w D T->(∀x b,T x b->Pa ops n X x)->(∀x,(∀i,i<n->AA ops i≠some x)->a1.tmps[x]? =a.tmps[x]?)->wpList P ops Q' (ops.toList.drop n) a1 w:=λQ' hQ' a1 w D T hp hT hA=>(hKt Q' hQ' _ a1 w hK).2.2 (hclose a1 w D T hp hT hA)
 rcases hr with htl|⟨fl,hft,hfh⟩
 ·exact Aah (X:=X) (a0:=a) hq htl (YV hq hst) hst (hend Q λ_ _ h=>h) (hend (QN Q) λ_ _ h=>⟨rfl,h⟩) ops.size _ a _ D T inv0 hfu hp1 (λx b hb=>.inr (hTX x b hb)) (λ_ _=>rfl) (λj _ hl=>by rw [getD_replicate_false]at hl;cases hl)
 ·exact X7 (X:=X) (a0:=a) hq fl hft.keep (YV hq hst) hst (hend Q λ_ _ h=>h) (hend (QN Q) λ_ _ h=>⟨rfl,h⟩) (λa1 w D T hp hT hA=>hfh _ a1 w hK (hclose a1 w D T hp hT hA)) ops.size _ a _ D T inv0 hfu hp1 (λx b hb=>.inr (hTX x b hb)) (λ_ _=>rfl) (λj _ hl=>by rw [getD_replicate_false]at hl;cases hl)
def OF(l:List Oper)(s:St):Bool:=l.all λo=>match o.dst with
 |some d=>!(s.t d).own||(s.t d).stay
 |none=>true
def Kk(E:Env)(ops:Array Oper)(o:Oper):Option Nat:=match o.op with
 | .assign (.tmp y)=>bif dX E y then some y else none
 | .move (.tmp y)=>bif dX E y then some y else none
 | .store _ (.tmp y) _=>bif dX E y then some y else none
 |op=>match Ia op with
  |some (f,xs)=>match Jy E.U f with
   |some e=>match xs.toList[e.S.k]? with
    |some (.tmp z)=>match alS E.h ops o z with
     |some y=>some y
     |none=>bif dX E z then some z else none
    |_=>none
   |none=>none
  |none=>none
theorem Xq{o:Oper}{y:Nat}(h:((dX E y&&(Jw o y||stB o y))||ucB E ops o y)=true):Kk E ops o=some y:=by
 rw [Bool.or_eq_true]at h;rcases h with h|h
 ·rw [bAE]at h
  obtain⟨hx,h⟩:=h;rw [Bool.or_eq_true]at h;rcases h with h|h
  ·unfold Jw at h
   unfold Kk;split at h
   ·simp_all
   ·simp_all
   ·cases h
  ·unfold stB at h
   unfold Kk;split at h
   ·simp_all
   ·cases h
 ·unfold ucB at h
  split at h
  case h_2=>cases h
  rename_i f xs hc;split at h
  case h_2=>cases h
  rename_i e he;split at h
  case h_2=>cases h
  rename_i z hz;obtain⟨ats,hop⟩:=Qh hc;rw [hop]at hc;unfold Kk;rw [hop];simp only [hc,he,hz];cases hs:alS E.h ops o z with
  |some y'=>
   simp_all
  |none=>
   rw [hs]at h;have h:(dX E z&&Nat.beq z y)=true:=h;rw [bAE]at h;rw [h.1,bqE h.2];rfl
def yL(E:Env)(ops:Array Oper):List Nat:=(ops.toList.filterMap λo=>match Kk E ops o with
 |some y=>bif DI ops y then some y else none
 |none=>none).eraseDups
def yOK(E:Env)(ops:Array Oper):Bool:=ops.toList.all λo=>match Kk E ops o with
 |some y=>DI ops y
 |none=>true
def goneB(E:Env)(ops:Array Oper)(o:Oper)(y:Nat):Bool:=(dX E y&&Jw o y)||(match Ia o.op with
 |some (f,xs)=>match Jy E.U f with
  |some e=>e.S.eat&&(match xs.toList[e.S.k]? with
   |some (.tmp z)=>(match alS E.h ops o z with
    |some y'=>Nat.beq y' y
    |none=>dX E z&&Nat.beq z y)
   |_=>false)
  |none=>false
 |none=>false)
def bL(E:Env)(ops:Array Oper)(s:St):List (Nat×Nat):=(yL E ops).filterMap λy=>bif ops.toList.any (λo=>goneB E ops o y)then none else match B4 s y with
 |some id=>some (y,id)
 |none=>none
def bOK(n:Nat)(ops:Array Oper)(B:List (Nat×Nat))(s:St):Bool:=ndB (B.map (·.1))&&ndB (B.map (·.2))&&B.all λp=>Nat.blt p.1 n&&Nat.blt p.2 s.r.length&&DI ops p.1&&(match s.r.getD p.2 .dead with
 | .dead=>true
 |_=>false)
def Kj{R:Type}(E:Env)(n:Nat)(ops:Array Oper)(B:List (Nat×Nat))(chk:Bool)(tail:St->(St->Option R)->Option R)(s:St)(K:St->Option R):Option R:=
 bif chk&&yOK E ops&&bOK E.h.n ops B s then
  UI E true ops (W9 n (ops.toList.take n)) s λs1=>
   bif OF (ops.toList.take n) s1&&(yL E ops).all (λy=>(B.map (·.1)).contains y|| !(s1.t y).own)&&B.all (λp=>Hr (s1.t p.1))then tail ((s1.backs B).promA ((ops.toList.take n).map (·.dst))) K else none
 else none
def needL(ops:Array Oper)(n:Nat):List Nat:=(List.range n).reverse.foldl (λacc i=>bif acc.any λj=>Region.waitsFor .any ops j i then i::acc else acc) [n]
def Uj(ops:Array Oper)(n:Nat):List Nat:=(List.range n).filter λi=>!(needL ops n).contains i
def Zt{R:Type}(E:Env)(ops:Array Oper)(n:Nat)(fs:List Nat)(s:St)(K:St->Option R):Option R:=match ops.toList.drop n with
 | [o1,o2,o3]=>bif o1.guard.isNone&&o2.guard.isNone&&o3.guard.isNone then(match U8 E s (fs.filterMap λf=>ops[f]?) o1 o2 o3 with
  |some A=>oif A.p A.dec (K A.s)
  |none=>none)else none
 |_=>none
def MD{R:Type}(E:Env)(n:Nat)(ops:Array Oper)(B:List (Nat×Nat))(s:St)(K:St->Option R):Option R:=
 bif HP ops n then Kj E n ops B true (λs K=>tops E ops (W9 ops.size (ops.toList.drop n)) s K) s K
 else Kj E n ops B (PB ops n&&flsB ops n (Uj ops n)&&flT E ops (Uj ops n)) (Zt E ops n (Uj ops n)) s K
theorem Hj: ∀ {l:List Nat},ndB l=true->l.Nodup
 | [],_=>List.nodup_nil
 |a::l,h=>by
  have h:(!l.contains a&&ndB l)=true:=h;rw [bAE,Bool.not_eq_true']at h;refine List.nodup_cons.2 ⟨λhm=>?_,Hj h.2⟩
  grind
theorem Dm{a b:List Oper}:Ai (a++b) i=(Ai a i&&Ai b i):=by
 unfold Ai;simp
theorem yB_mem(hok:yOK E ops=true)(h:yB E ops i=true):i∈yL E ops:=by
 obtain⟨o,ho,hm⟩:=List.any_eq_true.1 h;have h2:=aET.1 hok o ho;have ht:=Xq hm;refine List.mem_eraseDups.2 (List.mem_filterMap.2 ⟨o,ho,?_⟩)
 grind
theorem yL_nd(h:i∈yL E ops): ∀j,AA ops j≠some i:=by
 obtain⟨o,_,he⟩:=List.mem_filterMap.1 (List.mem_eraseDups.1 h);split at he
 ·rename_i y hop
  cases hb:DI ops y with
  |false=>grind
  |true=>
   rw [hb]at he;cases he;exact Cp hb
 grind
theorem bOKn{K:St->Option R}{z:R}(h:MD E n ops B s K=some z): ∀p∈B,p.1<E.h.n:=by
 have key: ∀ (chk:Bool) (tail:St->(St->Option R)->Option R),Kj E n ops B chk tail s K=some z->∀p∈B,p.1<E.h.n:=by
  intro chk tail h p hp;unfold Kj at h;cases hb:bOK E.h.n ops B s with
  |false=>grind
  |true=>
   unfold bOK at hb;rw [bAE]at hb;have:=aET.1 hb.2 p hp;simp only [bAE]at this;exact blE this.1.1.1
 unfold MD at h
 grind
theorem MC{C:Ctx}(hE:EOK P E)(hm:P.follows .mixedOrders=true){id n:Nat}{ops:Array Oper}{B:List (Nat×Nat)}{s:St}{K:St->Option R}{z:R}{a:Act}{w:World}{Q:Exit->Act->World->Prop}
  (hpr: ∃D ρ F T,PR C E.h.n s.den.σ ρ F s.den.t a {w with drawn:=w.drawn+1} D T/\(∀x b,T x b->x∈yL E ops)/\∀p∈B,a.tmps.getD p.1 undef=ρ p.2)
  {chk:Bool} {tail:St->(St->Option R)->Option R} {fs:List Nat} (h:Kj E n ops B chk tail s K=some z) (hqk:chk=true->QOK ops n)
  (htail: ∀ (Q':Exit->Act->World->Prop) (s2:St) (a:Act) (w:World),AI C E.h.n s2.den a w->tail s2 K=some z->(∀s' a' w',Kp (Ai (ops.toList.drop n)) s2 s'->AI C E.h.n s'.den a' w'->K s'=some z->Q' .normal a' w')->wpList P ops Q' (ops.toList.drop n) a w)
  (hr:chk=true->Qm ops n\/(FLS ops n fs/\FlT P ops fs/\∀ (s2:St) (a:Act) (w:World),AI C E.h.n s2.den a w->tail s2 K=some z->FlH P ops n fs a w))
  (hK: ∀s' a' w',(∀i,(Ai ops.toList i&& !(yL E ops).contains i)=true->(∀p∈B,p.1≠i)->(s.t i).stay=true->s'.t i=s.t i)->(∀id,id<s.r.length->(∀p∈B,p.2≠id)->(s.r.getD id .dead).isRo=true->s'.r.getD id .dead=s.r.getD id .dead)->s.r.length<=s'.r.length->AI C E.h.n s'.den a' w'->K s'=some z->Q .normal a' w'):(Code.region id ops true).wp P Q a w:=by
 unfold Kj at h;obtain⟨hok,h⟩:=A1 h;rw [bAE,bAE]at hok;obtain⟨⟨hok,hyk⟩,hbk⟩:=hok;unfold bOK at hbk;rw [bAE,bAE]at hbk;obtain⟨⟨hb1,hb2⟩,hb3⟩:=hbk;have hB: ∀p∈B,p.1<E.h.n/\p.2<s.r.length/\DI ops p.1=true/\s.r.getD p.2 .dead= .dead:=by
  intro p hp;have:=aET.1 hb3 p hp;simp only [bAE]at this;obtain⟨⟨⟨g1,g2⟩,g3⟩,g4⟩:=this;refine⟨blE g1,blE g2,g3,?_⟩;split at g4
  ·assumption
  ·cases g4
 let K1:St->Option R:=λs1=>bif OF (ops.toList.take n) s1&&(yL E ops).all (λy=>(B.map (·.1)).contains y|| !(s1.t y).own)&&B.all (λp=>Hr (s1.t p.1))then tail ((s1.backs B).promA ((ops.toList.take n).map (·.dst))) K else none
 have hv:=Xn hE (ops:=ops) (K:=K1) (z:=z) (Kt:=λt=>∃s1:St,s1.r=s.r/\(∀i,Ai ops.toList i=true->yB E ops i=false->s1.t i=s.t i)/\VLe t s1.den.t/\K1 s1=some z) (W9 n (ops.toList.take n)) s s.den.t (λo ho=>by rw [B3]at ho;exact List.mem_of_mem_take ho) (λi=>.inl rfl) h
  (λs' t' h1 h2 h3 h4=>⟨s',h1,h2,h3,h4⟩)
 rw [B3]at hv
 have hcore: ∀t,(∃s1:St,s1.r=s.r/\(∀i,Ai ops.toList i=true->yB E ops i=false->s1.t i=s.t i)/\VLe t s1.den.t/\K1 s1=some z)->∃s1:St,s1.r=s.r/\(∀i,Ai ops.toList i=true->yB E ops i=false->s1.t i=s.t i)/\tail ((s1.backs B).promA ((ops.toList.take n).map (·.dst))) K=some z/\
   (∀x,x∈yL E ops->x∈B.map (·.1)\/AE (t x)=false)/\(∀p∈B,Ka (t p.1))/\∀a1 w1,AI C E.h.n (promA ((ops.toList.take n).map (·.dst)) (backs B ⟨t,s.den.σ⟩)) a1 w1->AI C E.h.n ((s1.backs B).promA ((ops.toList.take n).map (·.dst))).den a1 w1:=by
  rintro t ⟨s1,hr1,ht1,hvl,hK1⟩
  have hK1:(bif OF (ops.toList.take n) s1&&(yL E ops).all (λy=>(B.map (·.1)).contains y|| !(s1.t y).own)&&B.all (λp=>Hr (s1.t p.1))then tail ((s1.backs B).promA ((ops.toList.take n).map (·.dst))) K else none)=some z:=hK1
  obtain⟨ho,hK1⟩:=A1 hK1;rw [bAE,bAE]at ho;obtain⟨⟨ho,hyo⟩,hro⟩:=ho
  have hroot: ∀p∈B,Hr (s1.t p.1)=true/\t p.1=s1.den.t p.1:=by
   intro p hp;have h1:=aET.1 hro p hp;refine⟨h1,?_⟩;rcases hvl p.1 with e|e
   ·exact e
   ·obtain⟨_,h3,⟨s0,sz,nn,f,h4,_⟩,_⟩:=Ce h1
    have e1:(s1.t p.1).v s1.r= .dead:=e.1;rw [h3,h4]at e1;cases e1
  refine⟨s1,hr1,ht1,hK1,λx hx=>?_,λp hp=>?_,λa1 w1 hs1=>?_⟩
  ·have h1:=aET.1 hyo x hx
   rw [Bool.or_eq_true]at h1;rcases h1 with h1|h1
   ·exact .inl (by simpa using h1)
   right
   have h2:AE (s1.den.t x)=false:=by
    show AE ((s1.t x).v s1.r)=false;rw [Sl.own_v];simpa using h1
   rcases hvl x with e|e
   ·rw [e];exact h2
   ·exact e.2
  ·obtain⟨g1,g2⟩:=hroot p hp
   rw [g2];show Ka ((s1.t p.1).v s1.r);rw [(Ce g1).2.1];exact(Ce g1).2.2.1
  have hP:Yy ((ops.toList.take n).map (·.dst)) ⟨t,s.den.σ⟩ s1:=by
   refine⟨by show s.r.map Aa.v=s1.r.map Aa.v;rw [hr1],λi=>?_,λi hi=>⟨λhoi=>?_,?_⟩⟩
   ·rcases hvl i with e|e
    ·show Ao (t i) _
     rw [e];exact Ao.refl _
    ·rw [e.1];exact Ao.dead _
   ·obtain⟨o,ho1,ho2⟩:=List.mem_map.1 hi
    have:=aET.1 ho o ho1;rw [ho2]at this;simp only [Bool.or_eq_true,Bool.not_eq_true']at this;rcases this with h|h
    ·rw [hoi]at h;cases h
    ·exact h
   ·rcases hvl i with e|e
    ·exact .inl e
    ·right
     refine⟨?_,e.2⟩
     have:AE ((s1.t i).v s1.r)=false:=by
      show AE (s1.den.t i)=false;rw [e.1];rfl
     rw [Sl.own_v]at this;exact this
  have hP2:=JV B _ _ hP (Hj hb1) λp hp=>by
   obtain⟨g1,g2⟩:=hroot p hp;obtain⟨_,k2,k3,_⟩:=hB p hp;refine⟨λhm=>?_,by rw [hr1];exact k2,g2,g1⟩
   obtain⟨o,ho1,ho2⟩:=List.mem_map.1 hm;obtain⟨j,hj⟩:=List.mem_iff_getElem?.1 (List.mem_of_mem_take ho1);refine Cp k3 j ?_;unfold AA;rw [<-Array.getElem?_toList,hj];exact ho2
  obtain⟨g1,g2⟩:=Js _ _ _ hP2;exact hs1.sub (by rw [g2]) (λi _=>by rw [g2];exact Sub.refl _) g1
 refine vdrawB (X:=λx=>x∈yL E ops) B n fs hm (hqk hok) hv (λx hx=>yL_nd hx) (Hj hb1) (Hj hb2) (λp hp=>?_) ?_ ((hr hok).imp (λh=>h) fun⟨k1,k2,k3⟩=>⟨k1,k2,λt a1 w1 hkt hs1=>by
  obtain⟨s1,_,_,hK1,_,_,hsr⟩:=hcore t hkt;exact k3 _ _ _ (hsr _ _ hs1) hK1⟩) hpr
 ·obtain⟨g1,g2,g3,g4⟩:=hB p hp
  refine⟨g1,by simpa [St.den]using g2,?_,Cp g3⟩
  show(s.r.map Aa.v).getD p.2 .dead= .dead;rw [An,g4];rfl
 intro Q' hQ' t a1 w1 hkt;obtain⟨s1,hr1,ht1,hK1,hfx,hfp,hsr⟩:=hcore t hkt;refine⟨hfx,hfp,λhs1=>?_⟩
 have hs2:=hsr _ _ hs1
 ·skip
  obtain⟨b1,b2,b3⟩:=Mh B s1
  have hsp: ∀i,(Ai ops.toList i&& !(yL E ops).contains i)=true->Ai ops.toList i=true/\yB E ops i=false:=by
   intro i hi;rw [bAE,Bool.not_eq_true']at hi;refine⟨hi.1,?_⟩;cases hy:yB E ops i with
   |false=>rfl
   |true=>
    have:=yB_mem hyk hy;have:(yL E ops).contains i=true:=by simpa using this
    rw [hi.2]at this;cases this
  have k1:=Hf (ops.toList.take n) (s1.backs B)
  have hsplit: ∀i,(Ai ops.toList i&& !(yL E ops).contains i)=true->Ai (ops.toList.take n) i=true/\Ai (ops.toList.drop n) i=true:=by
   intro i hi;have hi:=(hsp i hi).1;rw [<-List.take_append_drop n ops.toList,Dm,bAE]at hi;exact hi
  refine htail Q' _ a1 w1 hs2 hK1 λs' a' w' hk hs' hz=>hQ' _ _ (hK s' a' w' (λi hi hiB hst=>?_) (λid hl hiB hrr=>?_) ?_ hs' hz)
  ·have e1:s1.t i=s.t i:=ht1 i (hsp i hi).1 (hsp i hi).2
   have e2:(s1.backs B).t i=s1.t i:=b1 i hiB (by rw [e1];exact hst)
   have e3:=k1.t i (hsplit i hi).1 (by rw [e2,e1];exact hst)
   rw [hk.t i (hsplit i hi).2 (by rw [e3,e2,e1];exact hst),e3,e2,e1]
  ·have e2:(s1.backs B).r.getD id .dead=s.r.getD id .dead:=(b2 id hiB).trans (by rw [hr1])
   have hl2:id<(s1.backs B).r.length:=by rw [b3,hr1];exact hl
   have e3:=k1.r id hl2 (by rw [e2];exact hrr)
   rw [hk.r id (Nat.lt_of_lt_of_le hl2 k1.l) (by rw [e3,e2];exact hrr),e3,e2]
  ·have:s.r.length=(s1.backs B).r.length:=by rw [b3,hr1]
   rw [this];exact Nat.le_trans k1.l hk.l
theorem U0{C:Ctx}(hE:EOK P E)(hm:P.follows .mixedOrders=true){id n:Nat}{ops:Array Oper}{B:List (Nat×Nat)}{s:St}{K:St->Option R}{z:R}{a:Act}{w:World}{Q:Exit->Act->World->Prop}
  (hpr: ∃D ρ F T,PR C E.h.n s.den.σ ρ F s.den.t a {w with drawn:=w.drawn+1} D T/\(∀x b,T x b->x∈yL E ops)/\∀p∈B,a.tmps.getD p.1 undef=ρ p.2)
  (h:MD E n ops B s K=some z) (hK: ∀s' a' w',(∀i,(Ai ops.toList i&& !(yL E ops).contains i)=true->(∀p∈B,p.1≠i)->(s.t i).stay=true->s'.t i=s.t i)->(∀id,id<s.r.length->(∀p∈B,p.2≠id)->(s.r.getD id .dead).isRo=true->s'.r.getD id .dead=s.r.getD id .dead)->s.r.length<=s'.r.length->AI C E.h.n s'.den a' w'->K s'=some z->Q .normal a' w'):(Code.region id ops true).wp P Q a w:=by
 unfold MD at h;cases hq:HP ops n with
 |true=>
  rw [hq]at h;obtain⟨h1,h2⟩:=MY hq;refine MC (fs:=[]) hE hm hpr h (λ_=>h1) (λQ' s2 a w hs ht hk=>?_) (λ_=>.inl h2) hK
  have e:ops.toList.drop n=(W9 ops.size (ops.toList.drop n)).flatMap Seg.ops:=(B3 _ _).symm;rw [e];refine UV hE _ _ a w hs ht λs' a' w' hkp hs' hz=>hk s' a' w' ?_ hs' hz
  rw [B3]at hkp;exact hkp
 |false=>
  rw [hq]at h;simp only [cond_false]at h
  have hext: ∀s2,Zt E ops n (Uj ops n) s2 K=some z->∃o1 o2 o3 A,ops.toList.drop n= [o1,o2,o3]/\o1.guard=none/\o2.guard=none/\o3.guard=none/\U8 E s2 ((Uj ops n).filterMap λf=>ops[f]?) o1 o2 o3=some A/\A.p/\K A.s=some z:=by
   intro s2 ht;unfold Zt at ht;split at ht
   case h_2=>cases ht
   rename_i o1 o2 o3 hd;obtain⟨hg,ht⟩:=A1 ht;simp only [bAE,Option.isNone_iff_eq_none]at hg;split at ht
   case h_2=>cases ht
   rename_i A hA;unfold oif at ht;split at ht
   ·rename_i hp
    exact⟨o1,o2,o3,A,hd,hg.1.1,hg.1.2,hg.2,hA,hp,ht⟩
   ·cases ht
  refine MC (fs:=Uj ops n) hE hm hpr h (λhc=>?_) (λQ' s2 a w hs ht hk=>?_) (λhc=>?_) hK
  ·rw [bAE,bAE]at hc
   exact Jn hc.1.1
  ·obtain⟨o1,o2,o3,A,hd,g1,g2,g3,hA,hp,hKA⟩:=hext s2 ht
   rw [hd]at hk⊢;have w1: ∀ (o:Oper) (a:Act),o.guard=none->Region.wanted o (yielded ops a.tmps)=true:=λo a hg=>by simp [Region.wanted,hg]
   unfold wpList;rw [if_pos (w1 o1 a g1)];refine .inl (Oper.wp_mono (λa1 w1' h1=>?_) (U6 (Q:=Q') hE.Θ hA hp hs (next:=λa' w'=>Q' .normal a' w') λa' w' hs'=>hk A.s a' w' (U7 hA) hs' hKA))
   unfold wpList;rw [if_pos (w1 o2 a1 g2)];refine .inl (Oper.wp_mono (λa2 w2' h2=>?_) h1)
   unfold wpList;rw [if_pos (w1 o3 a2 g3)];exact .inl h2
  ·rw [bAE,bAE]at hc
   refine .inr ⟨Ww hc.1.2,Y1 hE.Θ hc.2,λs2 a w hs ht=>?_⟩
   obtain⟨o1,o2,o3,A,hd,g1,g2,g3,hA,hp,hKA⟩:=hext s2 ht;have hon:ops[n]? =some o1:=by
    have h1:(ops.toList.drop n)[0]? =some o1:=by rw [hd];rfl
    rw [List.getElem?_drop]at h1;simpa using h1
   refine ZI hE.Θ hA hp hs hon (λf hf o ho=>List.mem_filterMap.2 ⟨f,hf,ho⟩) (Y1 hE.Θ hc.2)
def Zp{R:Type}(E:Env)(n:Nat)(ops:Array Oper)(s:St)(K:St->Option R):Option R:=match NI (ops.toList.flatMap (capsF E.h.fz)) s with
 |some s0=>match JO (yL E ops) s0 with
  |some s1=>MD E n ops (bL E ops s0) s1 K
  |none=>none
 |none=>none
theorem Xp(hE:EOK P E)(hm:P.follows .mixedOrders=true){id n:Nat}{ops:Array Oper}{K:St->Option R}{z:R}{Q:Exit->Act->World->Prop}(hs:AI C E.h.n s.den a w)
  (h:Zp E n ops s K=some z) (hK: ∀s' a' w',Kp (Ai ops.toList) s s'->AI C E.h.n s'.den a' w'->K s'=some z->Q .normal a' w'):(Code.region id ops true).wp P Q a w:=by
 unfold Zp at h;split at h
 case h_2=>cases h
 rename_i s0 hg;split at h
 case h_2=>cases h
 rename_i s1 hd;have hbl: ∀p∈bL E ops s0,p.1∈yL E ops/\B4 s0 p.1=some p.2:=by
  intro p hp;obtain⟨y,hy,he⟩:=List.mem_filterMap.1 hp
  grind
 refine U0 hE hm ?_ h λs' a' w' q1 q2 q3=>hK s' a' w' ?_
 ·obtain⟨D,ρ,F,T,hpr,hT,hval⟩:=NS hd (IR _ hg hs) (Below.drew w)
  exact⟨D,ρ,F,T,hpr,hT,λp hp=>hval p.1 p.2 (bOKn h p hp) (hbl p hp).2⟩
 have k1:=IS _ hg;have k2:=NT hd
 have hnY: ∀i,(s0.t i).stay=true->(yL E ops).contains i=false:=by
  intro i hst;cases hc:(yL E ops).contains i with
  |false=>rfl
  |true=>
   have hm:i∈yL E ops:=by simpa using hc
   exfalso;unfold JO at hd;split at hd
   ·rename_i hY
    rw [hY]at hm;cases hm
   split at hd
   case h_2=>cases hd
   rename_i ids hids;obtain⟨id,_,hid⟩:=(JF hids).1 i hm;rw [(BZ hid).2.1]at hst;cases hst
 have k3:Kp (Ai ops.toList) s0 s':=by
  refine⟨λi hi hst=>?_,λid hl hro=>?_,Nat.le_trans k2.l q3⟩
  ·have e:=k2.t i rfl hst
   have hiY:=hnY i hst;rw [q1 i (by rw [hi,hiY];rfl) (λp hp he=>?_) (by rw [e];exact hst),e]
   have:=(hbl p hp).1;rw [he]at this;have:(yL E ops).contains i=true:=by simpa using this
   rw [hiY]at this;cases this
  ·have e:=k2.r id hl hro
   rw [q2 id (Nat.lt_of_lt_of_le hl k2.l) (λp hp he=>?_) (by rw [e];exact hro),e]
   have:=(BZ (hbl p hp).2).1;rw [he,hro]at this;cases this
 exact k1.trans k3 (λ_ _=>rfl) λ_ hi=>hi
end Go.Ve


namespace Go.Ve
inductive LK where
 |val (n:Nat) (agg:Bool)
 |ref (id:Nat)
 |ptr (id:Nat)
 |pth (id:Nat) (p:AR)
 |no
def okV:Cl->Bool
 | .c t _ _=>t.one
 |_=>false
def lk:Sl->LK
 | .one (.c t _ _)=>bif t.one then .val 1 false else .no
 | .one (.rf id [])=>.ref id
 | .one (.rp id [] 0 0)=>.ptr id
 | .one (.rf id (a::q))=>.pth id (a::q)
 | .agg l=>bif l.all okV then .val l.length true else .no
 |_=>.no
def dyC:Cl->Option Dy
 | .c t d x=>bif t.one&& !(Cl.c t d x).own then some ⟨t,x⟩else none
 |_=>none
def dyL:List Cl->Option (List Dy)
 | []=>some []
 |y::l=>match dyC y with
  |some z=>match dyL l with
   |some m=>some (z::m)
   |none=>none
  |none=>none
def Dy.cl(y:Dy):Cl:=.c y.t 0 y.x
def dyP:AR->List Dy
 | []=>[]
 |(i,_)::p=>⟨.int .i64,(Int.ofNat i:Int)⟩::dyP p
def XE:AR->AR->Bool
 | [],[]=>true
 |(_,k)::p,(_,k')::q=>Nat.beq k k'&&XE p q
 |_,_=>false
def Dy.nat:Dy->Nat
 |⟨.int _,x⟩=>Int.toNat x
 |_=>0
def Ut:AR->List Dy->AR
 | [],_=>[]
 |(_,k)::p,y::cs=>(y.nat,k)::Ut p cs
 |(_,k)::p,[]=>(0,k)::Ut p []
def Wr(k:LK)(y:Sl):Option (List Dy×List (Nat×Nat)):=match k,y with
 | .val _ false,.one c=>match dyC c with
  |some z=>some ([z],[])
  |none=>none
 | .val n true,.agg l=>bif Nat.beq l.length n then(match dyL l with
  |some m=>some (m,[])
  |none=>none)else none
 | .ref id,.one (.rf id' [])=>some ([],[(id,id')])
 | .ptr id,.one (.rp id' [] 0 0)=>some ([],[(id,id')])
 | .pth id p,.one (.rf id' p')=>bif XE p p' then some (dyP p',[(id,id')])else none
 | .no,_=>some ([],[])
 |_,_=>none
def Uo(t0:Nat->Sl)(t:Nat->Sl):List Nat->Option (List Dy×List (Nat×Nat))
 | []=>some ([],[])
 |d::L=>match Wr (lk (t0 d)) (t d)with
  |some (a,b)=>match Uo t0 t L with
   |some (a',b')=>some (a++a',b++b')
   |none=>none
  |none=>none
def piF(m:List (Nat×Nat))(i:Nat):Nat:=match m with
 | []=>i
 |(a,b)::m=>bif Nat.beq a i then b else piF m i
def dyA:List Cl->Option (List Dy)
 | []=>some []
 | .c t _ x::l=>bif t.one then(match dyA l with
  |some m=>some (⟨t,x⟩::m)
  |none=>none)else none
 |_::_=>none
def YY:Aa->Option (List Dy)
 | .arr _ t _ xs=>some [⟨.sl t,xs⟩]
 | .obj _ l=>dyA l
 | .opt _ _ _ _=>none
 | .dead=>none
def X8(r:List Aa)(π:Nat->Nat):List Nat->Option (List Dy)
 | []=>some []
 |id::l=>match YY (r.getD (π id) .dead)with
  |some a=>match X8 r π l with
   |some b=>some (a++b)
   |none=>none
  |none=>none
def Wy(k:LK)(cs:List Dy):Sl×List Dy:=match k with
 | .val _ false=>(match cs with
  |y::_=>.one y.cl
  | []=>.one .dead,cs.drop 1)
 | .val n true=>(.agg ((cs.take n).map Dy.cl),cs.drop n)
 | .ref id=>(.one (.rf id []),cs)
 | .ptr id=>(.one (.rp id [] 0 0),cs)
 | .pth id p=>(.one (.rf id (Ut p cs)),cs.drop p.length)
 | .no=>(.one .dead,cs)
def Kc(t0:Nat->Sl):List Nat->List Dy->(Nat->Sl)->(Nat->Sl)×List Dy
 | [],cs,t=>(t,cs)
 |d::L,cs,t=>Kc t0 L (Wy (lk (t0 d)) cs).2 (AD t d (Wy (lk (t0 d)) cs).1)
def JK:List Cl->List Dy->List Cl×List Dy
 | [],cs=>([],cs)
 | .c t d _::l,y::cs=>(match(if h:y.t=t then some (h▸y.x)else none:Option t.T)with
  |some x=>.c t d x
  |none=>.dead)::(JK l cs).1|>λm=>(m,(JK l cs).2)
 |_::l,cs=>(.dead::(JK l cs).1,(JK l cs).2)
def Wz:Aa->List Dy->Aa×List Dy
 | .arr _ t d _,y::cs=>(match y with
  |⟨.sl t',xs⟩=>if h:t'=t then .arr false t d (h▸xs)else .dead
  |_=>.dead,cs)
 | .arr _ _ _ _,[]=>(.dead,[])
 | .obj _ l,cs=>(.obj false (JK l cs).1,(JK l cs).2)
 | .opt _ _ _ _,cs=>(.dead,cs)
 | .dead,cs=>(.dead,cs)
def DS(r0:List Aa):List Nat->List Dy->List Aa->List Aa
 | [],_,r=>r
 |id::l,cs,r=>DS r0 l (Wz (r0.getD id .dead) cs).2 (r.set id (Wz (r0.getD id .dead) cs).1)
def Bq:Aa->Aa
 | .arr _ t d xs=>.arr true t d xs
 | .obj _ l=>.obj true l
 | .opt _ t d x=>.opt true t d x
 | .dead=>.dead
def A6(ro:Bool)(b:List Oper)(L Rh:List Nat)(s0:St)(cs:List Dy):St:=
 let base:Nat->Sl:=λi=>bif Ai b i&&(s0.t i).stay then s0.t i else .one .dead
 let f:=Kc s0.t L cs base
 ⟨f.1,DS s0.r Rh f.2 (bif ro then s0.r.map Bq else s0.r)⟩
end Go.Ve


namespace Go.Ve
variable{c:Cl}{r r':List Aa}{a rest:List Dy}{n:Nat}{π:Nat->Nat}{y:Sl}
def XF:List Cl->List Cl->Bool
 | [],[]=>true
 | .c t d _::l,.c t' d' _::m=>decide (t'=t)&&Nat.beq d' d&&XF l m
 |_,_=>false
def ZH:Aa->Aa->Bool
 | .arr _ t d _,.arr _ t' d' _=>decide (t'=t)&&Nat.beq d' d
 | .obj _ l,.obj _ m=>XF l m
 |_,_=>false
def YD:Aa->Aa
 | .arr _ t d xs=>.arr false t d xs
 | .obj _ l=>.obj false l
 | .opt _ t d x=>.opt false t d x
 | .dead=>.dead
theorem unRo_v(r:Aa):(YD r).v=r.v/\(YD r).len=r.len:=by cases r<;>first|trivial|exact⟨rfl,OS⟩
theorem Ly(r:Aa):(Bq r).v=r.v/\(Bq r).len=r.len:=by cases r<;>first|trivial|exact⟨rfl,OS⟩
theorem Ja(r:Aa)(i:Nat):(Bq r).cells i=r.cells i:=by cases r<;>cases i<;>rfl
theorem QR(c:Cl)(b b':Bool):Bq (c.node b)=Bq (c.node b'):=by
 cases c with
 |c t d x=>cases t<;>cases d<;>rfl
 |_=>rfl
theorem XB(r:Aa):Bq (YD r)=Bq r:=by cases r<;>rfl
theorem I9(r:Aa):Bq (Bq r)=Bq r:=by cases r<;>rfl
theorem Yu: ∀ (q:AR) (r r':Aa),Bq r=Bq r'->(r.at' q).len=(r'.at' q).len
 | [],r,r',h=>by
  show r.len=r'.len;rw [<-(Ly r).2,<-(Ly r').2,h]
 |(i,k)::q,r,r',h=>by
  show((((r.cells i).getD k .dead).node r.ro).at' q).len=((((r'.cells i).getD k .dead).node r'.ro).at' q).len;have e:r.cells i=r'.cells i:=by rw [<-Ja r,<-Ja r',h]
  rw [e];exact Yu q _ _ (QR _ _ _)
theorem KT: ∀ (p p':AR) (rest:List Dy),XE p p'=true->Ut p (dyP p'++rest)=p'/\(dyP p'++rest).drop p.length=rest
 | [],[],rest,_=>⟨rfl,rfl⟩
 |(i,k)::p,(i',k')::p',rest,h=>by
  have h:(Nat.beq k k'&&XE p p')=true:=h;rw [bAE]at h;obtain⟨a,b⟩:=KT p p' rest h.2;have hk:=bqE h.1;subst hk;refine⟨?_,b⟩;show(Int.toNat (Int.ofNat i'),k)::Ut p (dyP p'++rest)=_
  simp_all
 | [],_::_,_,h=>by cases h
 |_::_,[],_,h=>by cases h
theorem Uu: ∀ (l m:List Cl) (a:List Dy) (rest:List Dy),XF l m=true->dyA m=some a->JK l (a++rest)=(m,rest):=by
 intro l
 induction l with
 |nil=>intro m a rest h ha;cases m with
  |nil=>cases ha;rfl
  |cons y m=>cases y<;>cases h
 |cons y l ih=>
  intro m a rest h ha;cases m with
  |nil=>cases y<;>cases h
  |cons z m=>
   cases y with
   |c t d x=>
    cases z with
    |c t' d' x'=>
     have h:(decide (t'=t)&&Nat.beq d' d&&XF l m)=true:=h;simp only [bAE,decide_eq_true_eq]at h;obtain⟨⟨rfl,hd⟩,hl⟩:=h;have hd:=bqE hd;subst hd
     have ha:(bif t'.one then(match dyA m with
      |some m=>some ((⟨t',x'⟩:Dy)::m)
      |none=>none)else none)=some a:=ha
     obtain⟨ho,ha⟩:=A1 ha;split at ha
     case h_2=>cases ha
     rename_i b hb;cases ha
     show((match(if h:t'=t' then some (h▸x')else none:Option t'.T)with
      |some x=>Cl.c t' d' x
      |none=>.dead)::(JK l (b++rest)).1,(JK l (b++rest)).2)=_
     rw [ih m b rest hl hb];simp
    |_=>cases h
   |_=>cases z<;>cases h
theorem O1{old new:Aa}(h:ZH old new=true)(ha:YY new=some a):Wz old (a++rest)=(YD new,rest):=by
 cases old with
 |arr ro t d xs=>
  cases new with
  |arr ro' t' d' xs'=>
   have h:(decide (t'=t)&&Nat.beq d' d)=true:=h;simp only [bAE,decide_eq_true_eq]at h;obtain⟨rfl,hd⟩:=h;have hd:=bqE hd;subst hd;cases ha;show((if h:t'=t' then Aa.arr false t' d' (h▸xs')else .dead),rest)=_
   simp [YD]
  |_=>cases h
 |obj ro l=>
  cases new with
  |obj ro' m=>
   show(Aa.obj false (JK l (a++rest)).1,(JK l (a++rest)).2)=_;rw [Uu l m a rest h ha];rfl
  |_=>cases h
 |dead=>trivial
 |opt=>trivial
def Iw(k:LK)(y:Sl):Sl:=match k,y with
 | .val _ false,.one c=>(match dyC c with
  |some z=>.one z.cl
  |none=>.one .dead)
 | .val _ true,.agg l=>(match dyL l with
  |some m=>.agg (m.map Dy.cl)
  |none=>.one .dead)
 | .ref id,_=>.one (.rf id [])
 | .ptr id,_=>.one (.rp id [] 0 0)
 | .pth id _,.one (.rf _ p')=>.one (.rf id p')
 |_,_=>.one .dead
theorem Ur{k:LK}{m:List (Nat×Nat)}(h:Wr k y=some (a,m)):Wy k (a++rest)=(Iw k y,rest):=by
 unfold Wr at h;split at h
 ·split at h
  case h_2=>cases h
  rename_i z hz;cases h;unfold Wy Iw;simp [hz]
 ·rename_i n l
  obtain⟨hb,h⟩:=A1 h;split at h
  case h_2=>cases h
  rename_i z hz;cases h
  have hlen: ∀ (l:List Cl) (z:List Dy),dyL l=some z->z.length=l.length:=by
   intro l
   induction l with
   |nil=>intro z h;cases h;rfl
   |cons y l ih=>
    intro z h;unfold dyL at h
    grind
  have hl:=hlen l a hz;have hn:=bqE hb;unfold Wy Iw
  grind
 ·cases h;rfl
 ·cases h;rfl
 ·rename_i id p id' p'
  obtain⟨hb,h⟩:=A1 h;cases h;obtain⟨e1,e2⟩:=KT p p' rest hb;show(Sl.one (.rf id (Ut p (dyP p'++rest))),(dyP p'++rest).drop p.length)=(Sl.one (.rf id p'),rest);rw [e1,e2]
 ·cases h;rfl
 ·cases h
def K5(t0 t':Nat->Sl):List Nat->(Nat->Sl)->Nat->Sl
 | [],t=>t
 |d::L,t=>K5 t0 t' L (AD t d (Iw (lk (t0 d)) (t' d)))
theorem KU{t0 t':Nat->Sl}: ∀ (L:List Nat) (a rest:List Dy) (m:List (Nat×Nat)) (t:Nat->Sl),Uo t0 t' L=some (a,m)->Kc t0 L (a++rest) t=(K5 t0 t' L t,rest)
 | [],a,rest,m,t,h=>by cases h;rfl
 |d::L,a,rest,m,t,h=>by
  unfold Uo at h;split at h
  case h_2=>grind
  rename_i a1 b1 h1;split at h
  case h_2=>grind
  rename_i a2 b2 h2;cases h;unfold Kc;rw [List.append_assoc,Ur h1];exact KU L a2 rest b2 _ h2
theorem K4{t0 t':Nat->Sl}: ∀ (L:List Nat) (t:Nat->Sl) (i:Nat),K5 t0 t' L t i=if L.contains i then Iw (lk (t0 i)) (t' i)else t i
 | [],t,i=>rfl
 |d::L,t,i=>by
  unfold K5;rw [K4 L];by_cases hi:L.contains i=true
  ·grind
  ·rw [if_neg hi]
   by_cases hd:i=d
   ·subst hd
    rw [if_pos (by simp)]
    unfold AD;simp
   ·have:(d::L).contains i=false:=by
     grind
    rw [this,AU hd];rfl
def Bc(r':List Aa)(π:Nat->Nat):List Nat->List Aa->List Aa
 | [],r=>r
 |id::l,r=>Bc r' π l (r.set id (YD (r'.getD (π id) .dead)))
theorem KR{r0 r':List Aa}{π:Nat->Nat}: ∀ (Rh:List Nat) (a:List Dy) (r:List Aa),Rh.all (λi=>ZH (r0.getD i .dead) (r'.getD (π i) .dead))=true->X8 r' π Rh=some a->DS r0 Rh a r=Bc r' π Rh r
 | [],a,r,_,h=>rfl
 |id::l,a,r,hs,h=>by
  rw [List.all_cons,bAE]at hs;unfold X8 at h;split at h
  case h_2=>grind
  rename_i a1 h1;split at h
  case h_2=>grind
  rename_i a2 h2;cases h;unfold DS;rw [O1 hs.1 h1];exact KR l a2 _ hs.2 h2
theorem K6{r':List Aa}{π:Nat->Nat}: ∀ (Rh:List Nat) (r:List Aa),(Bc r' π Rh r).length=r.length
 | [],_=>rfl
 |id::l,r=>by unfold Bc;rw [K6 l,List.length_set]
theorem K7{r':List Aa}{π:Nat->Nat}: ∀ (Rh:List Nat) (r:List Aa) (i:Nat),i<r.length->(Bc r' π Rh r).getD i .dead=if Rh.contains i then YD (r'.getD (π i) .dead)else r.getD i .dead
 | [],r,i,_=>rfl
 |id::l,r,i,hi=>by
  unfold Bc;rw [K7 l _ i (by grind)]
  grind
def YZ(m:List (Nat×Nat))(L Rh:List Nat)(s0 s':St)(keep:Nat):Bool:=
 (List.range s0.r.length).all (λi=>Nat.blt (piF m i) s'.r.length)&&
 (List.range s0.r.length).all (λi=>(List.range s0.r.length).all λj=>Nat.beq i j|| !Nat.beq (piF m i) (piF m j))&&
 (List.range s0.r.length).all (λi=>Rh.contains i||Nat.beq (piF m i) i)&&
 Rh.all (λi=>ZH (s0.r.getD i .dead) (s'.r.getD (piF m i) .dead))&&
 m.all (λp=>Nat.beq (piF m p.1) p.2&&Nat.blt p.1 s0.r.length)&&
 (List.range keep).all (λi=>Nat.beq (piF m i) i)
def X9(L Rh:List Nat)(s0 s':St)(keep:Nat):Option (List Dy):=match Uo s0.t s'.t L with
 |some (a,m)=>bif YZ m L Rh s0 s' keep then(match X8 s'.r (piF m) Rh with
  |some c=>some (a++c)
  |none=>none)else none
 |none=>none
theorem dyC_v{z:Dy}(h:dyC c=some z):c.v r=z.cl.v r':=by
 unfold dyC at h;split at h
 case h_2=>grind
 rename_i t d x;cases hb:(t.one&& !(Cl.c t d x).own)with
 |false=>grind
 |true=>
  rw [hb]at h;cases h;simp [Bool.not_eq_true']at hb
  cases t<;>cases d<;>first|rfl|(cases x with
   |none=>rfl
   |some _=>exact absurd hb.2 (by intro h;cases h))|exact nomatch hb.2|rfl
theorem Ku(h:c.stay=true):B2 π n (c.v r) (c.v r'):=by
 cases c with
 |c t d x=>cases t<;>first|exact B2.tyV0 (.clo _ _) x _ (List.mem_singleton.2 rfl)|(cases x<;>first|rfl|exact .inr (Sub.refl _))|exact ren_nr (λ_ _ _ _ h=>by cases h) (λ_ _ _ _ h=>by cases h) (λ_ _ _ h=>by cases h)
 |dead=>exact .inl rfl
 |nil=>exact .inr (Sub.refl _)
 |nilp=>exact .inr (Sub.refl _)
 |nilf=>exact .inr (Sub.refl _)
 |_=>cases h
theorem XJ(h:y.stay=true):B2 π n (y.v r) (y.v r'):=by
 have agg: ∀l:List Cl,l.all Cl.stay=true->B2 π n (Ac (l.map (Cl.v r))) (Ac (l.map (Cl.v r'))):=by
  intro l h;refine Pw (by simp) λk hk=>?_
  rw [Ay (f:=Cl.v r) (a:=.dead) rfl,Ay (f:=Cl.v r') (a:=.dead) rfl];have hk:k<l.length:=by simpa using hk
  refine Ku (aET.1 h _ ?_)
  grind
 cases y with
 |one c=>exact Ku h
 |new l=>exact .inr (Sub.refl _)
 |agg l=>exact agg l h
 |pk t l=>
  refine YO (by simp) λk hk=>?_
  rw [Ay (f:=Cl.v r) (a:=.dead) rfl,Ay (f:=Cl.v r') (a:=.dead) rfl];have hk:k<l.length:=by simpa using hk
  refine Ku (aET.1 h _ ?_)
  grind
 |tup l=>
  refine VF (by simp) λk hk=>?_
  have hk:k<l.length:=by simpa using hk
  simp only [gDE,List.getElem?_map,gEE hk,Option.map_some,Option.getD_some];have hp:=aET.1 h l[k] (List.getElem_mem hk);generalize l[k]=p at hp;obtain⟨b,m⟩:=p;cases b with
  |true=>exact agg m hp
  |false=>
   cases m with
   |nil=>exact .inl rfl
   |cons y m=>exact Ku (by grind)
theorem JG{C:Ctx}{N:Nat}{ro:Bool}{b:List Oper}{L Rh:List Nat}{s0 s':St}{keep:Nat}{cs:List Dy}{a:Act}{w:World}(h:AI C N s'.den a w)(hg:X9 L Rh s0 s' keep=some cs)(hk:C.m<=keep)(hk0:C.m<=s0.r.length)
  (ht: ∀i,L.contains i=false->Ai b i=true->(s0.t i).stay=true->s'.t i=s0.t i)
  (hr: ∀id,id<s0.r.length->Rh.contains id=false->(s'.r.getD id .dead).v=(s0.r.getD id .dead).v/\(s'.r.getD id .dead).len=(s0.r.getD id .dead).len)
  (hq: ∀id,id<s0.r.length->Rh.contains id=false->∀q:AR,((s'.r.getD id .dead).at' q).len=((s0.r.getD id .dead).at' q).len):AI C N (A6 ro b L Rh s0 cs).den a w:=by
 unfold X9 at hg;split at hg
 case h_2=>cases hg
 rename_i av m hgl;obtain⟨hok,hg⟩:=A1 hg;split at hg
 case h_2=>cases hg
 rename_i cv hgr;cases hg;unfold YZ at hok;simp only [bAE]at hok;obtain⟨⟨⟨⟨⟨o1,o2⟩,o3⟩,o4⟩,o5⟩,o6⟩:=hok
 let base:Nat->Sl:=λi=>bif Ai b i&&(s0.t i).stay then s0.t i else .one .dead
 let r0:List Aa:=bif ro then s0.r.map Bq else s0.r
 have hr0l:r0.length=s0.r.length:=by cases ro<;>simp [r0]
 have hr0g: ∀i,(r0.getD i .dead).v=(s0.r.getD i .dead).v/\(r0.getD i .dead).len=(s0.r.getD i .dead).len:=by
  intro i;cases ro with
  |false=>exact⟨rfl,rfl⟩
  |true=>
   have e:r0.getD i .dead=Bq (s0.r.getD i .dead):=by
    show(s0.r.map Bq).getD i .dead=_;simp only [gDE,List.getElem?_map];cases s0.r[i]? <;>rfl
   rw [e];exact Ly _
 have hT:A6 ro b L Rh s0 (av++cv)=⟨K5 s0.t s'.t L base,Bc s'.r (piF m) Rh r0⟩:=by
  show(⟨(Kc s0.t L (av++cv) base).1,DS s0.r Rh (Kc s0.t L (av++cv) base).2 r0⟩:St)=_;rw [KU L av cv m base hgl];simp only;rw [KR Rh cv r0 o4 hgr]
 rw [hT];have hlen:(Bc s'.r (piF m) Rh r0).length=s0.r.length:=by rw [K6,hr0l]
 have hlenv:((Bc s'.r (piF m) Rh r0).map Aa.v).length=s0.r.length:=by rw [List.length_map,hlen]
 have hget: ∀i,i<s0.r.length->(Bc s'.r (piF m) Rh r0).getD i .dead=if Rh.contains i then YD (s'.r.getD (piF m i) .dead)else r0.getD i .dead:=λi hi=>K7 Rh r0 i (by rw [hr0l];exact hi)
 have hgv: ∀i,i<s0.r.length->((Bc s'.r (piF m) Rh r0).getD i .dead).v=(s'.r.getD (piF m i) .dead).v/\((Bc s'.r (piF m) Rh r0).getD i .dead).len=(s'.r.getD (piF m i) .dead).len:=by
  intro i hi;rw [hget i hi];cases hc:Rh.contains i with
  |true=>simp only [if_true];exact unRo_v _
  |false=>
   simp only [Bool.false_eq_true,if_false];have:=aET.1 o3 i (List.mem_range.2 hi);rw [hc,Bool.false_or]at this;rw [bqE this,(hr0g i).1,(hr0g i).2,(hr i hi hc).1,(hr i hi hc).2];exact⟨rfl,rfl⟩
 have hgq: ∀i,i<s0.r.length->∀q:AR,(((Bc s'.r (piF m) Rh r0).getD i .dead).at' q).len=((s'.r.getD (piF m i) .dead).at' q).len:=by
  intro i hi q;rw [hget i hi];cases hc:Rh.contains i with
  |true=>simp only [if_true];exact Yu q _ _ (XB _)
  |false=>
   simp only [Bool.false_eq_true,if_false];have:=aET.1 o3 i (List.mem_range.2 hi);rw [hc,Bool.false_or]at this;rw [bqE this,hq i hi hc q];refine Yu q _ _ ?_;cases ro with
   |false=>rfl
   |true=>
    have e:r0.getD i .dead=Bq (s0.r.getD i .dead):=by
     show(s0.r.map Bq).getD i .dead=_;simp only [gDE,List.getElem?_map];cases s0.r[i]? <;>rfl
    rw [e];exact I9 _
 refine h.perm (π:=piF m) (λi hi=>?_) (λi j hi hj he=>?_) (λi hi=>?_) (λi hi=>?_) ?_ λi=>?_
 ·have hi:i<s0.r.length:=by rw [<-hlenv];exact hi
  show _<(s'.r.map Aa.v).length;rw [List.length_map];exact blE (aET.1 o1 i (List.mem_range.2 hi))
 ·have hi:i<s0.r.length:=by rw [<-hlenv];exact hi
  have hj:j<s0.r.length:=by rw [<-hlenv];exact hj
  have:=aET.1 (aET.1 o2 i (List.mem_range.2 hi)) j (List.mem_range.2 hj);rw [he,Nat.beq_refl,Bool.or_eq_true]at this;rcases this with h|h
  ·exact bqE h
  ·cases h
 ·have hi:i<s0.r.length:=by rw [<-hlenv];exact hi
  show Sub ((s'.r.map Aa.v).getD (piF m i) .dead) (((Bc s'.r (piF m) Rh r0).map Aa.v).getD i .dead);rw [An,An,(hgv i hi).1];exact Sub.refl _
 ·exact bqE (aET.1 o6 i (List.mem_range.2 (Nat.lt_of_lt_of_le hi hk)))
 ·show C.m<=((Bc s'.r (piF m) Rh r0).map Aa.v).length
  rw [hlenv];exact hk0
 ·show B2 (piF m) ((Bc s'.r (piF m) Rh r0).map Aa.v).length ((s'.t i).v s'.r) ((K5 s0.t s'.t L base i).v (Bc s'.r (piF m) Rh r0))
  rw [K4,hlenv];cases hc:L.contains i with
  |false=>
   simp only [Bool.false_eq_true,if_false];show B2 _ _ _ ((bif Ai b i&&(s0.t i).stay then s0.t i else .one .dead:Sl).v _);cases hb:(Ai b i&&(s0.t i).stay)with
   |false=>exact B2.dead _ _ _
   |true=>
    rw [bAE]at hb;rw [ht i hc hb.1 hb.2];exact XJ hb.2
  |true=>
   simp only [if_true]
   -- the slot's own part of what was grabbed
   have hpart: ∀ (L:List Nat) (av:List Dy) (m0:List (Nat×Nat)),Uo s0.t s'.t L=some (av,m0)->L.contains i=true->∃a1 m1,Wr (lk (s0.t i)) (s'.t i)=some (a1,m1)/\∀p∈m1,p∈m0:=by
    intro L
    induction L with
    |nil=>intro av m0 _ h;cases h
    |cons d L ih=>
     intro av m0 hgl hc;unfold Uo at hgl;split at hgl
     case h_2=>cases hgl
     rename_i a1 b1 h1;split at hgl
     case h_2=>cases hgl
     rename_i a2 b2 h2;cases hgl;by_cases hd:i=d
     ·subst hd
      exact⟨a1,b1,h1,λp hp=>List.mem_append_left _ hp⟩
     ·have:L.contains i=true:=by
       rw [List.contains_cons]at hc;have hne:(i==d)=false:=by simpa using hd
       rw [hne,Bool.false_or]at hc;exact hc
      obtain⟨a3,m3,h3,h4⟩:=ih a2 b2 h2 this;exact⟨a3,m3,h3,λp hp=>List.mem_append_right _ (h4 p hp)⟩
   obtain⟨a1,m1,h1,hm1⟩:=hpart L av m hgl hc;generalize lk (s0.t i)=k at h1;generalize s'.t i=y at h1;unfold Wr at h1;split at h1
   ·rename_i c
    split at h1
    case h_2=>cases h1
    rename_i z hz;unfold Iw;simp only [hz];have e:=dyC_v (r:=s'.r) (r':=Bc s'.r (piF m) Rh r0) hz;show B2 _ _ (c.v s'.r) (z.cl.v (Bc s'.r (piF m) Rh r0));rw [e];exact Ku (r:=Bc s'.r (piF m) Rh r0) (r':=Bc s'.r (piF m) Rh r0) (c:=z.cl) rfl
   ·rename_i n l
    obtain⟨hb,h1⟩:=A1 h1;split at h1
    case h_2=>cases h1
    rename_i z hz;unfold Iw;simp only [hz]
    have key: ∀ (l:List Cl) (z:List Dy),dyL l=some z->l.map (Cl.v s'.r)=(z.map Dy.cl).map (Cl.v (Bc s'.r (piF m) Rh r0)):=by
     intro l
     induction l with
     |nil=>intro z h;cases h;rfl
     |cons y l ih=>
      intro z h;unfold dyL at h;split at h
      case h_2=>cases h
      rename_i z1 hz1;split at h
      case h_2=>cases h
      rename_i z2 hz2;cases h;simp only [List.map_cons];rw [dyC_v hz1,ih z2 hz2]
    show B2 _ _ (Ac (l.map (Cl.v s'.r))) (Ac ((z.map Dy.cl).map (Cl.v (Bc s'.r (piF m) Rh r0))));rw [key l z hz];refine Pw rfl λk hk=>?_
    rw [Ay (f:=Cl.v (Bc s'.r (piF m) Rh r0)) (a:=.dead) rfl];cases hx:(z.map Dy.cl)[k]? with
    |none=>simp only [gDE,hx];exact .inl rfl
    |some x=>
     simp only [gDE,hx,Option.getD_some];obtain⟨u,_,hu⟩:=List.mem_map.1 (List.mem_of_getElem? hx);rw [<-hu];exact Ku (c:=u.cl) rfl
   ·rename_i id id'
    cases h1;have hp:=aET.1 o5 (id,id') (hm1 _ (List.mem_singleton.2 rfl));rw [bAE]at hp;have hpi:piF m id=id':=bqE hp.1;have hid:id<s0.r.length:=blE hp.2;refine .inr ⟨id,hid,hpi,?_⟩;show V.rs id [] 0 ((Bc s'.r (piF m) Rh r0).getD id .dead).len=V.rs id [] 0 (s'.r.getD id' .dead).len;rw [(hgv id hid).2,hpi]
   ·rename_i id id'
    cases h1;have hp:=aET.1 o5 (id,id') (hm1 _ (List.mem_singleton.2 rfl));rw [bAE]at hp;have hpi:piF m id=id':=bqE hp.1;have hid:id<s0.r.length:=blE hp.2;exact .inr ⟨id,hid,hpi,rfl⟩
   ·rename_i id p id' p'
    obtain⟨hb,h1⟩:=A1 h1;cases h1;have hp:=aET.1 o5 (id,id') (hm1 _ (List.mem_singleton.2 rfl));rw [bAE]at hp;have hpi:piF m id=id':=bqE hp.1;have hid:id<s0.r.length:=blE hp.2;refine .inr ⟨id,hid,hpi,?_⟩;show V.rs id p' 0 (((Bc s'.r (piF m) Rh r0).getD id .dead).at' p').len=V.rs id p' 0 ((s'.r.getD id' .dead).at' p').len;rw [hgq id hid p',hpi]
   ·unfold Iw
    exact B2.dead _ _ _
   ·cases h1
end Go.Ve

