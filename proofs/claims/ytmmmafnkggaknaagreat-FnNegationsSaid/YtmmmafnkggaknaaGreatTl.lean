/- The typed machine: a region that draws its order; code. -/
import Derived.Test.YtmmmafnkggaknaaGreatTk
set_option linter.all false
namespace Go.Ve
variable{a:Act}{ops:Array Oper}{C:Ctx}{E:Env}{B:List (Nat×Nat)}{i n:Nat}{P:Program}{s:St}{R:Type}{w:World}
theorem vdrawB{C:Ctx}{h:Cs}{id:Nat}{Q:Exit->Act->World->Prop}{σ:List V}{t0:Nat->V}{X:Nat->Prop}(B:List (Nat×Nat))(n:Nat)(fs:List Nat){Kt:(Nat->V)->Prop}{a:Act}{w:World}(hm:P.follows .mixedOrders=true)(Z:QOK ops n)
  (hv:vq P h ops σ (ops.toList.take n) Kt t0) (hX:∀x,X x->∀j,AH ops j≠some x) (hB1:(B.map (·.1)).Nodup) (hB2:(B.map (·.2)).Nodup) (hB3:∀p∈B,p.1<h.n/\p.2<σ.length/\σ.getD p.2 .dead=.dead/\∀j,AH ops j≠some p.1)
  (hKt:∀Q':Exit->Act->World->Prop,(∀a w,Q .normal a w->Q' .normal a w)->∀t a w,Kt t->(∀x,X x->x∈B.map (·.1)\/AL (t x)=false)/\(∀p∈B,J1 (t p.1))/\(AR C h.n (promA ((ops.toList.take n).map (·.dst)) (backs B ⟨t,σ⟩)) a w->wpList P ops Q' (ops.toList.drop n) a w))
  (hr:PJ ops n\/(FLS ops n fs/\FlT P ops fs/\∀t a w,Kt t->AR C h.n (promA ((ops.toList.take n).map (·.dst)) (backs B ⟨t,σ⟩)) a w->FlH P ops n fs a w))
  (hp0:∃D ρ F T,PR C h.n σ ρ F t0 a {w with drawn:=w.drawn+1} D T/\(∀x b,T x b->X x)/\∀p∈B,a.tmps.getD p.1 undef=ρ p.2):(Code.region id ops true).wp P Q a w:=by
 refine wp_region_any hm ?_;obtain⟨r,m,U,hK⟩:=WM (n:=n) (t0:=t0) (K:=Kt) Z.le Z n 0 (λ_=>.dead) (λ_=>[]) (by omega) (by simpa [Cg]using hv) (λj hj=>by omega)
 have W:HeadInv .any ops n (Array.replicate ops.size false):=
  ⟨by simp,λj oj _ hl=>(by rw[getD_replicate_false]at hl;cases hl),λt _ ht=>getD_in (by simpa using ht) (getD_replicate_false _ _)⟩
 obtain⟨D,ρ,F,T,u,hTX,hBv⟩:=hp0
 have hpt:∀x,pt ops n r m t0 (Array.replicate ops.size false) x=t0 x\/(pt ops n r m t0 (Array.replicate ops.size false) x=.dead/\∃k,AH ops k=some x):=by
  intro x;unfold pt;cases ho:CD ops n x with
  |none=>exact .inl (HP n λi _ hs=>by rw[getD_replicate_false]at hs;cases hs)
  |some k=>
   right;show(if(Array.replicate ops.size false).getD k false=true then _ else V.dead)=_/\_
   rw[getD_replicate_false];exact⟨rfl,k,(Bd ho).2⟩
 have hp1:PR C h.n σ ρ F (pt ops n r m t0 (Array.replicate ops.size false)) a {w with drawn:=w.drawn+1} D T:=by
  refine⟨u.df,u.sz,λx hx=>?_,u.wr,λx hx=>?_,u.tD,u.tF,u.tT,u.tn,u.fr,u.Fn,u.D1,u.D2,u.rt,u.ml,u.tx⟩
  .rcases hpt x with e|e
   .rw[e];exact u.dd x hx
   .exact e.1
  .rcases hpt x with e|⟨e,k,hk⟩
   .rw[e];exact u.tm x hx
   .rw[e]
    exact λb hb=>hX x (hTX x b hb) k hk
 have J:∀a1 w D T,PR C h.n σ ρ F (Cg ops r m t0 n) a1 w D T->(∀x b,T x b->OH ops n X x)->(∀x,(∀i,i<n->AH ops i≠some x)->a1.tmps[x]? =a.tmps[x]?)->AR C h.n (promA ((ops.toList.take n).map (·.dst)) (backs B ⟨Cg ops r m t0 n,σ⟩)) a1 w:=by
  intro a1 w D T u hT hA;obtain⟨hfree,hobj,_⟩:=hKt Q (λ_ _ h=>h) _ a1 w hK
  obtain⟨F',T',hp',hT'⟩:=PR.backs B _ _ _ _ u hB1 hB2 λp hpB=>by
   obtain⟨g1,g2,g3,g4⟩:=hB3 p hpB;refine⟨g1,g2,g3,?_,hobj p hpB⟩;rw[<-hBv p hpB,Array.getD_eq_getD_getElem?,Array.getD_eq_getD_getElem?,hA p.1 λi _=>g4 i]
  refine PR.close _ _ _ _ _ _ hp' λx b ho=>?_
  obtain⟨ho,hxB⟩:=hT' x b ho;rcases hT x b ho with⟨i,hi,hd⟩|hx
  .obtain⟨oi,hoi,_⟩:=Z.dst i hi
   refine List.mem_map.2 ⟨oi,?_,by simpa [AH,hoi]using hd⟩
   refine List.mem_of_getElem? (i:=i) ?_;rw[List.getElem?_take,if_pos hi,Array.getElem?_toList];exact hoi
  .exfalso
   by_cases hxn:x<h.n
   .exact AE _ _ _ ((hfree x hx).resolve_left hxB) (u.tm x hxn) b ho
   .exact u.tx x b (Nat.le_of_not_lt hxn) ho
 have hfu:unl (Array.replicate ops.size false) n+(ops.size-n)<=ops.size:=by
  have:unl (Array.replicate ops.size false) n<=n:=by
   unfold unl;have:=List.countP_le_length (p:=λi=>!(Array.replicate ops.size false).getD i true) (l:=List.range n)
   simpa using this
  have:=Z.le;omega
 have A:∀Q':Exit->Act->World->Prop,(∀a w,Q .normal a w->Q' .normal a w)->∀a1 w D T,PR C h.n σ ρ F (Cg ops r m t0 n) a1 w D T->(∀x b,T x b->OH ops n X x)->(∀x,(∀i,i<n->AH ops i≠some x)->a1.tmps[x]? =a.tmps[x]?)->wpList P ops Q' (ops.toList.drop n) a1 w:=λQ' hQ' a1 w D T u hT hA=>(hKt Q' hQ' _ a1 w hK).2.2 (J a1 w D T u hT hA)
 rcases hr with htl|⟨fl,hft,hfh⟩
 .exact Aaa (X:=X) (a0:=a) Z htl (Yq Z U) U (A Q λ_ _ h=>h) (A (QN Q) λ_ _ h=>⟨rfl,h⟩) ops.size _ a _ D T W hfu hp1 (λx b hb=>.inr (hTX x b hb)) (λ_ _=>rfl) (λj _ hl=>by rw[getD_replicate_false]at hl;cases hl)
 .exact XA (X:=X) (a0:=a) Z fl hft.keep (Yq Z U) U (A Q λ_ _ h=>h) (A (QN Q) λ_ _ h=>⟨rfl,h⟩) (λa1 w D T u hT hA=>hfh _ a1 w hK (J a1 w D T u hT hA)) ops.size _ a _ D T W hfu hp1 (λx b hb=>.inr (hTX x b hb)) (λ_ _=>rfl) (λj _ hl=>by rw[getD_replicate_false]at hl;cases hl)
def N9(l:List Oper)(s:St):Bool:=l.all λo=>match o.dst with
 |some d=>!(s.t d).own||(s.t d).stay
 |none=>true
def J9(E:Env)(ops:Array Oper)(o:Oper):Option Nat:=match o.op with
 |.assign (.tmp y)=>bif dX E y then some y else none
 |.move (.tmp y)=>bif dX E y then some y else none
 |.store _ (.tmp y) _=>bif dX E y then some y else none
 |op=>match Ij op with
  |some (f,xs)=>match Ju E.U f with
   |some e=>match xs.toList[e.S.k]? with
    |some (.tmp z)=>match alS E.h ops o z with
     |some y=>some y
     |none=>bif dX E z then some z else none
    |_=>none
   |none=>none
  |none=>none
theorem WW{o:Oper}{y:Nat}(h:((dX E y&&(Jt o y||stB o y))||ucB E ops o y)=true):J9 E ops o=some y:=by
 rw[Bool.or_eq_true]at h;rcases h with h|h
 .rw[bAE]at h
  obtain⟨hx,h⟩:=h;rw[Bool.or_eq_true]at h;rcases h with h|h
  .unfold Jt at h
   unfold J9;split at h
   .simp_all
   .simp_all
   .cases h
  .unfold stB at h
   unfold J9;split at h
   .simp_all
   .cases h
 .unfold ucB at h
  split at h
  case h_2=>cases h
  rename_i f xs A;split at h
  case h_2=>cases h
  rename_i e U;split at h
  case h_2=>cases h
  rename_i z J;obtain⟨W,u⟩:=PF A;rw[u]at A;unfold J9;rw[u];simp only[A,U,J];cases hs:alS E.h ops o z with
  |some Z=>
   simp_all
  |none=>
   rw[hs]at h;have h:(dX E z&&Nat.beq z y)=true:=h;rw[bAE]at h;rw[h.1,bqE h.2];rfl
def yL(E:Env)(ops:Array Oper):List Nat:=(ops.toList.filterMap λo=>match J9 E ops o with
 |some y=>bif DW ops y then some y else none
 |none=>none).eraseDups
def yOK(E:Env)(ops:Array Oper):Bool:=ops.toList.all λo=>match J9 E ops o with
 |some y=>DW ops y
 |none=>true
def goneB(E:Env)(ops:Array Oper)(o:Oper)(y:Nat):Bool:=(dX E y&&Jt o y)||(match Ij o.op with
 |some (f,xs)=>match Ju E.U f with
  |some e=>e.S.eat&&(match xs.toList[e.S.k]? with
   |some (.tmp z)=>(match alS E.h ops o z with
    |some u=>Nat.beq u y
    |none=>dX E z&&Nat.beq z y)
   |_=>false)
  |none=>false
 |none=>false)
def bL(E:Env)(ops:Array Oper)(s:St):List (Nat×Nat):=(yL E ops).filterMap λy=>bif ops.toList.any (λo=>goneB E ops o y)then none else match Cm s y with
 |some id=>some (y,id)
 |none=>none
def bOK(n:Nat)(ops:Array Oper)(B:List (Nat×Nat))(s:St):Bool:=ndB (B.map (·.1))&&ndB (B.map (·.2))&&B.all λp=>Nat.blt p.1 n&&Nat.blt p.2 s.r.length&&DW ops p.1&&(match s.r.getD p.2 .dead with
 |.dead=>true
 |_=>false)
def J8{R:Type}(E:Env)(n:Nat)(ops:Array Oper)(B:List (Nat×Nat))(chk:Bool)(tail:St->(St->Option R)->Option R)(s:St)(K:St->Option R):Option R:=
 bif chk&&yOK E ops&&bOK E.h.n ops B s then
  Q4 E true ops (WB n (ops.toList.take n)) s λs1=>
   bif N9 (ops.toList.take n) s1&&(yL E ops).all (λy=>(B.map (·.1)).contains y|| !(s1.t y).own)&&B.all (λp=>DX (s1.t p.1))then tail ((s1.backs B).promA ((ops.toList.take n).map (·.dst))) K else none
 else none
def needL(ops:Array Oper)(n:Nat):List Nat:=(List.range n).reverse.foldl (λe i=>bif e.any λj=>Region.waitsFor .any ops j i then i::e else e) [n]
def QA(ops:Array Oper)(n:Nat):List Nat:=(List.range n).filter λi=>!(needL ops n).contains i
def Y6{R:Type}(E:Env)(ops:Array Oper)(n:Nat)(fs:List Nat)(s:St)(K:St->Option R):Option R:=match ops.toList.drop n with
 |[o1,o2,o3]=>bif o1.guard.isNone&&o2.guard.isNone&&o3.guard.isNone then(match UA E s (fs.filterMap λf=>ops[f]?) o1 o2 o3 with
  |some A=>oif A.p A.dec (K A.s)
  |none=>none)else none
 |_=>none
def Md{R:Type}(E:Env)(n:Nat)(ops:Array Oper)(B:List (Nat×Nat))(s:St)(K:St->Option R):Option R:=
 bif HZ ops n then J8 E n ops B true (λs K=>tops E ops (WB ops.size (ops.toList.drop n)) s K) s K
 else J8 E n ops B (O5 ops n&&flsB ops n (QA ops n)&&flT E ops (QA ops n)) (Y6 E ops n (QA ops n)) s K
theorem Hz:∀{l:List Nat},ndB l=true->l.Nodup
 |[],_=>List.nodup_nil
 |a::l,h=>by
  have h:(!l.contains a&&ndB l)=true:=h;rw[bAE,Bool.not_eq_true']at h;refine List.nodup_cons.2 ⟨λe=>?_,Hz h.2⟩
  grind
def Js{a b:List Oper}:Av (a++b) i=(Av a i&&Av b i):=by
 unfold Av;simp
theorem yB_mem(e:yOK E ops=true)(h:yB E ops i=true):i∈yL E ops:=by
 obtain⟨o,u,A⟩:=List.any_eq_true.1 h;have U:=aET.1 e o u;have J:=WW A;refine List.mem_eraseDups.2 (List.mem_filterMap.2 ⟨o,u,?_⟩)
 grind
theorem yL_nd(h:i∈yL E ops):∀j,AH ops j≠some i:=by
 obtain⟨o,_,e⟩:=List.mem_filterMap.1 (List.mem_eraseDups.1 h);split at e
 .rename_i y A
  cases u:DW ops y with
  |false=>grind
  |true=>
   rw[u]at e;cases e;exact CE u
 grind
theorem bOKn{K:St->Option R}{z:R}(h:Md E n ops B s K=some z):∀p∈B,p.1<E.h.n:=by
 have u:∀(chk:Bool) (tail:St->(St->Option R)->Option R),J8 E n ops B chk tail s K=some z->∀p∈B,p.1<E.h.n:=by
  intro chk tail h p A;unfold J8 at h;cases e:bOK E.h.n ops B s with
  |false=>grind
  |true=>
   unfold bOK at e;rw[bAE]at e;have:=aET.1 e.2 p A;simp only[bAE]at this;exact blE this.1.1.1
 unfold Md at h
 grind
theorem Mc{C:Ctx}(hE:EOK P E)(hm:P.follows .mixedOrders=true){id n:Nat}{ops:Array Oper}{B:List (Nat×Nat)}{s:St}{K:St->Option R}{z:R}{a:Act}{w:World}{Q:Exit->Act->World->Prop}
  (hpr:∃D ρ F T,PR C E.h.n s.den.σ ρ F s.den.t a {w with drawn:=w.drawn+1} D T/\(∀x b,T x b->x∈yL E ops)/\∀p∈B,a.tmps.getD p.1 undef=ρ p.2)
  {chk:Bool}{tail:St->(St->Option R)->Option R}{fs:List Nat} (h:J8 E n ops B chk tail s K=some z) (hqk:chk=true->QOK ops n)
  (htail:∀(Q':Exit->Act->World->Prop) (s2:St) (a:Act) (w:World),AR C E.h.n s2.den a w->tail s2 K=some z->(∀s' a' w',Kp (Av (ops.toList.drop n)) s2 s'->AR C E.h.n s'.den a' w'->K s'=some z->Q' .normal a' w')->wpList P ops Q' (ops.toList.drop n) a w)
  (hr:chk=true->PJ ops n\/(FLS ops n fs/\FlT P ops fs/\∀(s2:St) (a:Act) (w:World),AR C E.h.n s2.den a w->tail s2 K=some z->FlH P ops n fs a w))
  (hK:∀s' a' w',(∀i,(Av ops.toList i&& !(yL E ops).contains i)=true->(∀p∈B,p.1≠i)->(s.t i).stay=true->s'.t i=s.t i)->(∀id,id<s.r.length->(∀p∈B,p.2≠id)->(s.r.getD id .dead).isRo=true->s'.r.getD id .dead=s.r.getD id .dead)->s.r.length<=s'.r.length->AR C E.h.n s'.den a' w'->K s'=some z->Q .normal a' w'):(Code.region id ops true).wp P Q a w:=by
 unfold J8 at h;obtain⟨hok,h⟩:=Bb h;rw[bAE,bAE]at hok;obtain⟨⟨hok,hyk⟩,hbk⟩:=hok;unfold bOK at hbk;rw[bAE,bAE]at hbk;obtain⟨⟨hb1,hb2⟩,hb3⟩:=hbk;have hB:∀p∈B,p.1<E.h.n/\p.2<s.r.length/\DW ops p.1=true/\s.r.getD p.2 .dead=.dead:=by
  intro p hp;have:=aET.1 hb3 p hp;simp only[bAE]at this;obtain⟨⟨⟨g1,g2⟩,g3⟩,g4⟩:=this;refine⟨blE g1,blE g2,g3,?_⟩;split at g4
  .assumption
  .cases g4
 let K1:St->Option R:=λs1=>bif N9 (ops.toList.take n) s1&&(yL E ops).all (λy=>(B.map (·.1)).contains y|| !(s1.t y).own)&&B.all (λp=>DX (s1.t p.1))then tail ((s1.backs B).promA ((ops.toList.take n).map (·.dst))) K else none
 have hv:=WU hE (ops:=ops) (K:=K1) (z:=z) (Kt:=λt=>∃s1:St,s1.r=s.r/\(∀i,Av ops.toList i=true->yB E ops i=false->s1.t i=s.t i)/\VLe t s1.den.t/\K1 s1=some z) (WB n (ops.toList.take n)) s s.den.t (λo ho=>by rw[Ck]at ho;exact List.mem_of_mem_take ho) (λi=>.inl rfl) h
  (λs' t' h1 h2 h3 h4=>⟨s',h1,h2,h3,h4⟩)
 rw[Ck]at hv
 have hcore:∀t,(∃s1:St,s1.r=s.r/\(∀i,Av ops.toList i=true->yB E ops i=false->s1.t i=s.t i)/\VLe t s1.den.t/\K1 s1=some z)->∃s1:St,s1.r=s.r/\(∀i,Av ops.toList i=true->yB E ops i=false->s1.t i=s.t i)/\tail ((s1.backs B).promA ((ops.toList.take n).map (·.dst))) K=some z/\
   (∀x,x∈yL E ops->x∈B.map (·.1)\/AL (t x)=false)/\(∀p∈B,J1 (t p.1))/\∀a1 w1,AR C E.h.n (promA ((ops.toList.take n).map (·.dst)) (backs B ⟨t,s.den.σ⟩)) a1 w1->AR C E.h.n ((s1.backs B).promA ((ops.toList.take n).map (·.dst))).den a1 w1:=by
  rintro t ⟨s1,A,ht1,hvl,u⟩
  have u:(bif N9 (ops.toList.take n) s1&&(yL E ops).all (λy=>(B.map (·.1)).contains y|| !(s1.t y).own)&&B.all (λp=>DX (s1.t p.1))then tail ((s1.backs B).promA ((ops.toList.take n).map (·.dst))) K else none)=some z:=u
  obtain⟨ho,u⟩:=Bb u;rw[bAE,bAE]at ho;obtain⟨⟨ho,hyo⟩,hro⟩:=ho
  have Z:∀p∈B,DX (s1.t p.1)=true/\t p.1=s1.den.t p.1:=by
   intro p hp;have h1:=aET.1 hro p hp;refine⟨h1,?_⟩;rcases hvl p.1 with e|e
   .exact e
   .obtain⟨_,h3,⟨s0,sz,nn,f,h4,_⟩,_⟩:=Cj h1
    have e1:(s1.t p.1).v s1.r=.dead:=e.1;rw[h3,h4]at e1;cases e1
  refine⟨s1,A,ht1,u,λx hx=>?_,λp hp=>?_,λa1 w1 W=>?_⟩
  .have h1:=aET.1 hyo x hx
   rw[Bool.or_eq_true]at h1;rcases h1 with h1|h1
   .exact .inl (by simpa using h1)
   right
   have h2:AL (s1.den.t x)=false:=by
    show AL ((s1.t x).v s1.r)=false;rw[Sl.own_v];simpa using h1
   rcases hvl x with e|e
   .rw[e];exact h2
   .exact e.2
  .obtain⟨g1,g2⟩:=Z p hp
   rw[g2];show J1 ((s1.t p.1).v s1.r);rw[(Cj g1).2.1];exact(Cj g1).2.2.1
  have hP:XY ((ops.toList.take n).map (·.dst)) ⟨t,s.den.σ⟩ s1:=by
   refine⟨by show s.r.map Af.v=s1.r.map Af.v;rw[A],λi=>?_,λi J=>⟨λhoi=>?_,?_⟩⟩
   .rcases hvl i with e|e
    .show Ax (t i) _
     rw[e];exact Ax.refl _
    .rw[e.1];exact Ax.dead _
   .obtain⟨o,ho1,ho2⟩:=List.mem_map.1 J
    have:=aET.1 ho o ho1;rw[ho2]at this;simp only[Bool.or_eq_true,Bool.not_eq_true']at this;rcases this with h|h
    .rw[hoi]at h;cases h
    .exact h
   .rcases hvl i with e|e
    .exact .inl e
    .right
     refine⟨?_,e.2⟩
     have:AL ((s1.t i).v s1.r)=false:=by
      show AL (s1.den.t i)=false;rw[e.1];rfl
     rw[Sl.own_v]at this;exact this
  have hP2:=JM B _ _ hP (Hz hb1) λp hp=>by
   obtain⟨g1,g2⟩:=Z p hp;obtain⟨_,k2,k3,_⟩:=hB p hp;refine⟨λhm=>?_,by rw[A];exact k2,g2,g1⟩
   obtain⟨o,ho1,ho2⟩:=List.mem_map.1 hm;obtain⟨j,hj⟩:=List.mem_iff_getElem?.1 (List.mem_of_mem_take ho1);refine CE k3 j ?_;unfold AH;rw[<-Array.getElem?_toList,hj];exact ho2
  obtain⟨g1,g2⟩:=Jn _ _ _ hP2;exact W.sub (by rw[g2]) (λi _=>by rw[g2];exact Sub.refl _) g1
 refine vdrawB (X:=λx=>x∈yL E ops) B n fs hm (hqk hok) hv (λx hx=>yL_nd hx) (Hz hb1) (Hz hb2) (λp hp=>?_) ?_ ((hr hok).imp (λh=>h) fun⟨k1,k2,k3⟩=>⟨k1,k2,λt a1 w1 hkt W=>by
  obtain⟨s1,_,_,u,_,_,hsr⟩:=hcore t hkt;exact k3 _ _ _ (hsr _ _ W) u⟩) hpr
 .obtain⟨g1,g2,g3,g4⟩:=hB p hp
  refine⟨g1,by simpa [St.den]using g2,?_,CE g3⟩
  show(s.r.map Af.v).getD p.2 .dead=.dead;rw[AA,g4];rfl
 intro Q' hQ' t a1 w1 hkt;obtain⟨s1,A,ht1,u,hfx,hfp,hsr⟩:=hcore t hkt;refine⟨hfx,hfp,λW=>?_⟩
 have hs2:=hsr _ _ W
 .skip
  obtain⟨b1,b2,b3⟩:=LU B s1
  have hsp:∀i,(Av ops.toList i&& !(yL E ops).contains i)=true->Av ops.toList i=true/\yB E ops i=false:=by
   intro i J;rw[bAE,Bool.not_eq_true']at J;refine⟨J.1,?_⟩;cases hy:yB E ops i with
   |false=>rfl
   |true=>
    have:=yB_mem hyk hy;have:(yL E ops).contains i=true:=by simpa using this
    rw[J.2]at this;cases this
  have k1:=Hv (ops.toList.take n) (s1.backs B)
  have U:∀i,(Av ops.toList i&& !(yL E ops).contains i)=true->Av (ops.toList.take n) i=true/\Av (ops.toList.drop n) i=true:=by
   intro i J;have J:=(hsp i J).1;rw[<-List.take_append_drop n ops.toList,Js,bAE]at J;exact J
  refine htail Q' _ a1 w1 hs2 u λs' a' w' hk hs' hz=>hQ' _ _ (hK s' a' w' (λi J hiB hst=>?_) (λid hl hiB hrr=>?_) ?_ hs' hz)
  .have e1:s1.t i=s.t i:=ht1 i (hsp i J).1 (hsp i J).2
   have e2:(s1.backs B).t i=s1.t i:=b1 i hiB (by rw[e1];exact hst)
   have e3:=k1.t i (U i J).1 (by rw[e2,e1];exact hst)
   rw[hk.t i (U i J).2 (by rw[e3,e2,e1];exact hst),e3,e2,e1]
  .have e2:(s1.backs B).r.getD id .dead=s.r.getD id .dead:=(b2 id hiB).trans (by rw[A])
   have hl2:id<(s1.backs B).r.length:=by rw[b3,A];exact hl
   have e3:=k1.r id hl2 (by rw[e2];exact hrr)
   rw[hk.r id (Nat.lt_of_lt_of_le hl2 k1.l) (by rw[e3,e2];exact hrr),e3,e2]
  .have:s.r.length=(s1.backs B).r.length:=by rw[b3,A]
   rw[this];exact Nat.le_trans k1.l hk.l
def Uq{C:Ctx}(hE:EOK P E)(hm:P.follows .mixedOrders=true){id n:Nat}{ops:Array Oper}{B:List (Nat×Nat)}{s:St}{K:St->Option R}{z:R}{a:Act}{w:World}{Q:Exit->Act->World->Prop}
  (hpr:∃D ρ F T,PR C E.h.n s.den.σ ρ F s.den.t a {w with drawn:=w.drawn+1} D T/\(∀x b,T x b->x∈yL E ops)/\∀p∈B,a.tmps.getD p.1 undef=ρ p.2)
  (h:Md E n ops B s K=some z) (hK:∀s' a' w',(∀i,(Av ops.toList i&& !(yL E ops).contains i)=true->(∀p∈B,p.1≠i)->(s.t i).stay=true->s'.t i=s.t i)->(∀id,id<s.r.length->(∀p∈B,p.2≠id)->(s.r.getD id .dead).isRo=true->s'.r.getD id .dead=s.r.getD id .dead)->s.r.length<=s'.r.length->AR C E.h.n s'.den a' w'->K s'=some z->Q .normal a' w'):(Code.region id ops true).wp P Q a w:=by
 unfold Md at h;cases hq:HZ ops n with
 |true=>
  rw[hq]at h;obtain⟨h1,h2⟩:=MD hq;refine Mc (fs:=[]) hE hm hpr h (λ_=>h1) (λQ' U a w hs u hk=>?_) (λ_=>.inl h2) hK
  have e:ops.toList.drop n=(WB ops.size (ops.toList.drop n)).flatMap Seg.ops:=(Ck _ _).symm;rw[e];refine Uk hE _ _ a w hs u λs' a' w' hkp hs' hz=>hk s' a' w' ?_ hs' hz
  rw[Ck]at hkp;exact hkp
 |false=>
  rw[hq]at h;simp only[cond_false]at h
  have hext:∀U,Y6 E ops n (QA ops n) U K=some z->∃J Z W A,ops.toList.drop n=[J,Z,W]/\J.guard=none/\Z.guard=none/\W.guard=none/\UA E U ((QA ops n).filterMap λf=>ops[f]?) J Z W=some A/\A.p/\K A.s=some z:=by
   intro U u;unfold Y6 at u;split at u
   case h_2=>cases u
   rename_i J Z W hd;obtain⟨hg,u⟩:=Bb u;simp only[bAE,Option.isNone_iff_eq_none]at hg;split at u
   case h_2=>cases u
   rename_i A hA;unfold oif at u;split at u
   .rename_i hp
    exact⟨J,Z,W,A,hd,hg.1.1,hg.1.2,hg.2,hA,hp,u⟩
   .cases u
  refine Mc (fs:=QA ops n) hE hm hpr h (λhc=>?_) (λQ' U a w hs u hk=>?_) (λhc=>?_) hK
  .rw[bAE,bAE]at hc
   exact Jj hc.1.1
  .obtain⟨J,Z,W,A,hd,g1,g2,g3,hA,hp,hKA⟩:=hext U u
   rw[hd]at hk⊢;have w1:∀(o:Oper) (a:Act),o.guard=none->Region.wanted o (yielded ops a.tmps)=true:=λo a hg=>by simp[Region.wanted,hg]
   unfold wpList;rw[if_pos (w1 J a g1)];refine .inl (Oper.wp_mono (λa1 w1' h1=>?_) (Uy (Q:=Q') hE.Θ hA hp hs (next:=λa' w'=>Q' .normal a' w') λa' w' hs'=>hk A.s a' w' (Uz hA) hs' hKA))
   unfold wpList;rw[if_pos (w1 Z a1 g2)];refine .inl (Oper.wp_mono (λa2 w2' h2=>?_) h1)
   unfold wpList;rw[if_pos (w1 W a2 g3)];exact .inl h2
  .rw[bAE,bAE]at hc
   refine .inr ⟨VY hc.1.2,YB hE.Θ hc.2,λU a w hs u=>?_⟩
   obtain⟨J,Z,W,A,hd,g1,g2,g3,hA,hp,hKA⟩:=hext U u;have hon:ops[n]? =some J:=by
    have h1:(ops.toList.drop n)[0]? =some J:=by rw[hd];rfl
    rw[List.getElem?_drop]at h1;simpa using h1
   refine Zo hE.Θ hA hp hs hon (λf hf o ho=>List.mem_filterMap.2 ⟨f,hf,ho⟩) (YB hE.Θ hc.2)
def Y2{R:Type}(E:Env)(n:Nat)(ops:Array Oper)(s:St)(K:St->Option R):Option R:=match Nj (ops.toList.flatMap (capsF E.h.fz)) s with
 |some e=>match JH (yL E ops) e with
  |some s1=>Md E n ops (bL E ops e) s1 K
  |none=>none
 |none=>none
theorem WV(hE:EOK P E)(Z:P.follows .mixedOrders=true){id n:Nat}{ops:Array Oper}{K:St->Option R}{z:R}{Q:Exit->Act->World->Prop}(hs:AR C E.h.n s.den a w)
  (h:Y2 E n ops s K=some z) (hK:∀s' a' w',Kp (Av ops.toList) s s'->AR C E.h.n s'.den a' w'->K s'=some z->Q .normal a' w'):(Code.region id ops true).wp P Q a w:=by
 unfold Y2 at h;split at h
 case h_2=>cases h
 rename_i s0 hg;split at h
 case h_2=>cases h
 rename_i s1 hd;have U:∀p∈bL E ops s0,p.1∈yL E ops/\Cm s0 p.1=some p.2:=by
  intro p A;obtain⟨y,hy,he⟩:=List.mem_filterMap.1 A
  grind
 refine Uq hE Z ?_ h λs' a' w' q1 q2 q3=>hK s' a' w' ?_
 .obtain⟨D,ρ,F,T,hpr,hT,W⟩:=Nt hd (IU _ hg hs) (Below.drew w)
  exact⟨D,ρ,F,T,hpr,hT,λp A=>W p.1 p.2 (bOKn h p A) (U p A).2⟩
 have k1:=IV _ hg;have k2:=Nu hd
 have hnY:∀i,(s0.t i).stay=true->(yL E ops).contains i=false:=by
  intro i u;cases hc:(yL E ops).contains i with
  |false=>rfl
  |true=>
   have Z:i∈yL E ops:=by simpa using hc
   exfalso;unfold JH at hd;split at hd
   .rename_i hY
    rw[hY]at Z;cases Z
   split at hd
   case h_2=>cases hd
   rename_i ids hids;obtain⟨id,_,hid⟩:=(JA hids).1 i Z;rw[(Ch hid).2.1]at u;cases u
 have k3:Kp (Av ops.toList) s0 s':=by
  refine⟨λi hi u=>?_,λid hl J=>?_,Nat.le_trans k2.l q3⟩
  .have e:=k2.t i rfl u
   have hiY:=hnY i u;rw[q1 i (by rw[hi,hiY];rfl) (λp A he=>?_) (by rw[e];exact u),e]
   have:=(U p A).1;rw[he]at this;have:(yL E ops).contains i=true:=by simpa using this
   rw[hiY]at this;cases this
  .have e:=k2.r id hl J
   rw[q2 id (Nat.lt_of_lt_of_le hl k2.l) (λp A he=>?_) (by rw[e];exact J),e]
   have:=(Ch (U p A).2).1;rw[he,J]at this;cases this
 exact k1.trans k3 (λ_ _=>rfl) λ_ hi=>hi
end Go.Ve


namespace Go.Ve
inductive LK where
 |val (n:Nat) (agg:Bool)
 |ref (id:Nat)
 |ptr (id:Nat)
 |pth (id:Nat) (p:AZ)
 |no
def okV:Cl->Bool
 |.c t _ _=>t.one
 |_=>false
def lk:Sl->LK
 |.one (.c t _ _)=>bif t.one then .val 1 false else .no
 |.one (.rf id [])=>.ref id
 |.one (.rp id [] 0 0)=>.ptr id
 |.one (.rf id (a::q))=>.pth id (a::q)
 |.agg l=>bif l.all okV then .val l.length true else .no
 |_=>.no
def dyC:Cl->Option Dy
 |.c t d x=>bif t.one&& !(Cl.c t d x).own then some ⟨t,x⟩else none
 |_=>none
def dyL:List Cl->Option (List Dy)
 |[]=>some []
 |y::l=>match dyC y with
  |some z=>match dyL l with
   |some m=>some (z::m)
   |none=>none
  |none=>none
def Dy.cl(y:Dy):Cl:=.c y.t 0 y.x
def dyP:AZ->List Dy
 |[]=>[]
 |(i,_)::p=>⟨.int .i64,(Int.ofNat i:Int)⟩::dyP p
def W9:AZ->AZ->Bool
 |[],[]=>true
 |(_,k)::p,(_,k')::q=>Nat.beq k k'&&W9 p q
 |_,_=>false
def Dy.nat:Dy->Nat
 |⟨.int _,x⟩=>Int.toNat x
 |_=>0
def QJ:AZ->List Dy->AZ
 |[],_=>[]
 |(_,k)::p,y::cs=>(y.nat,k)::QJ p cs
 |(_,k)::p,[]=>(0,k)::QJ p []
def VS(k:LK)(y:Sl):Option (List Dy×List (Nat×Nat)):=match k,y with
 |.val _ false,.one c=>match dyC c with
  |some z=>some ([z],[])
  |none=>none
 |.val n true,.agg l=>bif Nat.beq l.length n then(match dyL l with
  |some m=>some (m,[])
  |none=>none)else none
 |.ref id,.one (.rf id' [])=>some ([],[(id,id')])
 |.ptr id,.one (.rp id' [] 0 0)=>some ([],[(id,id')])
 |.pth id p,.one (.rf id' p')=>bif W9 p p' then some (dyP p',[(id,id')])else none
 |.no,_=>some ([],[])
 |_,_=>none
def QG(t0:Nat->Sl)(t:Nat->Sl):List Nat->Option (List Dy×List (Nat×Nat))
 |[]=>some ([],[])
 |d::L=>match VS (lk (t0 d)) (t d)with
  |some (a,b)=>match QG t0 t L with
   |some (a',b')=>some (a++a',b++b')
   |none=>none
  |none=>none
def piF(m:List (Nat×Nat))(i:Nat):Nat:=match m with
 |[]=>i
 |(a,b)::m=>bif Nat.beq a i then b else piF m i
def dyA:List Cl->Option (List Dy)
 |[]=>some []
 |.c t _ x::l=>bif t.one then(match dyA l with
  |some m=>some (⟨t,x⟩::m)
  |none=>none)else none
 |_::_=>none
def Yw:Af->Option (List Dy)
 |.arr _ t _ xs=>some [⟨.sl t,xs⟩]
 |.obj _ l=>dyA l
 |.opt _ _ _ _=>none
 |.dead=>none
def XC(r:List Af)(π:Nat->Nat):List Nat->Option (List Dy)
 |[]=>some []
 |id::l=>match Yw (r.getD (π id) .dead)with
  |some a=>match XC r π l with
   |some b=>some (a++b)
   |none=>none
  |none=>none
def V1(k:LK)(cs:List Dy):Sl×List Dy:=match k with
 |.val _ false=>(match cs with
  |y::_=>.one y.cl
  |[]=>.one .dead,cs.drop 1)
 |.val n true=>(.agg ((cs.take n).map Dy.cl),cs.drop n)
 |.ref id=>(.one (.rf id []),cs)
 |.ptr id=>(.one (.rp id [] 0 0),cs)
 |.pth id p=>(.one (.rf id (QJ p cs)),cs.drop p.length)
 |.no=>(.one .dead,cs)
def J2(t0:Nat->Sl):List Nat->List Dy->(Nat->Sl)->(Nat->Sl)×List Dy
 |[],cs,t=>(t,cs)
 |d::L,cs,t=>J2 t0 L (V1 (lk (t0 d)) cs).2 (AJ t d (V1 (lk (t0 d)) cs).1)
def JD:List Cl->List Dy->List Cl×List Dy
 |[],cs=>([],cs)
 |.c t d _::l,y::cs=>(match(if h:y.t=t then some (h▸y.x)else none:Option t.T)with
  |some x=>.c t d x
  |none=>.dead)::(JD l cs).1|>λm=>(m,(JD l cs).2)
 |_::l,cs=>(.dead::(JD l cs).1,(JD l cs).2)
def V2:Af->List Dy->Af×List Dy
 |.arr _ t d _,y::cs=>(match y with
  |⟨.sl t',xs⟩=>if h:t'=t then .arr false t d (h▸xs)else .dead
  |_=>.dead,cs)
 |.arr _ _ _ _,[]=>(.dead,[])
 |.obj _ l,cs=>(.obj false (JD l cs).1,(JD l cs).2)
 |.opt _ _ _ _,cs=>(.dead,cs)
 |.dead,cs=>(.dead,cs)
def Hb(e:List Af):List Nat->List Dy->List Af->List Af
 |[],_,r=>r
 |id::l,cs,r=>Hb e l (V2 (e.getD id .dead) cs).2 (r.set id (V2 (e.getD id .dead) cs).1)
def BH:Af->Af
 |.arr _ t d xs=>.arr true t d xs
 |.obj _ l=>.obj true l
 |.opt _ t d x=>.opt true t d x
 |.dead=>.dead
def Bz(ro:Bool)(b:List Oper)(L Rh:List Nat)(e:St)(cs:List Dy):St:=
 let base:Nat->Sl:=λi=>bif Av b i&&(e.t i).stay then e.t i else .one .dead
 let f:=J2 e.t L cs base
 ⟨f.1,Hb e.r Rh f.2 (bif ro then e.r.map BH else e.r)⟩
end Go.Ve


namespace Go.Ve
variable{c:Cl}{r r':List Af}{a rest:List Dy}{n:Nat}{π:Nat->Nat}{y:Sl}
def Xa:List Cl->List Cl->Bool
 |[],[]=>true
 |.c t d _::l,.c t' d' _::m=>decide (t'=t)&&Nat.beq d' d&&Xa l m
 |_,_=>false
def Zn:Af->Af->Bool
 |.arr _ t d _,.arr _ t' d' _=>decide (t'=t)&&Nat.beq d' d
 |.obj _ l,.obj _ m=>Xa l m
 |_,_=>false
def X6:Af->Af
 |.arr _ t d xs=>.arr false t d xs
 |.obj _ l=>.obj false l
 |.opt _ t d x=>.opt false t d x
 |.dead=>.dead
def unRo_v(r:Af):(X6 r).v=r.v/\(X6 r).len=r.len:=by cases r<;>first|trivial|exact⟨rfl,On⟩
def Lc(r:Af):(BH r).v=r.v/\(BH r).len=r.len:=by cases r<;>first|trivial|exact⟨rfl,On⟩
def Jd(r:Af)(i:Nat):(BH r).cells i=r.cells i:=by cases r<;>cases i<;>rfl
def Qd(c:Cl)(b e:Bool):BH (c.node b)=BH (c.node e):=by
 cases c with
 |c t d x=>cases t<;>cases d<;>rfl
 |_=>rfl
def W6(r:Af):BH (X6 r)=BH r:=by cases r<;>rfl
def Jc(r:Af):BH (BH r)=BH r:=by cases r<;>rfl
def XW:∀(q:AZ) (r r':Af),BH r=BH r'->(r.at' q).len=(r'.at' q).len
 |[],r,r',h=>by
  show r.len=r'.len;rw[<-(Lc r).2,<-(Lc r').2,h]
 |(i,k)::q,r,r',h=>by
  show((((r.cells i).getD k .dead).node r.ro).at' q).len=((((r'.cells i).getD k .dead).node r'.ro).at' q).len;have e:r.cells i=r'.cells i:=by rw[<-Jd r,<-Jd r',h]
  rw[e];exact XW q _ _ (Qd _ _ _)
theorem KC:∀(p e:AZ) (rest:List Dy),W9 p e=true->QJ p (dyP e++rest)=e/\(dyP e++rest).drop p.length=rest
 |[],[],rest,_=>⟨rfl,rfl⟩
 |(i,k)::p,(i',k')::e,rest,h=>by
  have h:(Nat.beq k k'&&W9 p e)=true:=h;rw[bAE]at h;obtain⟨a,b⟩:=KC p e rest h.2;have u:=bqE h.1;subst u;refine⟨?_,b⟩;show(Int.toNat (Int.ofNat i'),k)::QJ p (dyP e++rest)=_
  simp_all
 |[],_::_,_,h=>by cases h
 |_::_,[],_,h=>by cases h
theorem QL:∀(l m:List Cl) (a:List Dy) (rest:List Dy),Xa l m=true->dyA m=some a->JD l (a++rest)=(m,rest):=by
 intro l
 induction l with
 |nil=>intro m a rest h e;cases m with
  |nil=>cases e;rfl
  |cons y m=>cases y<;>cases h
 |cons y l U=>
  intro m a rest h e;cases m with
  |nil=>cases y<;>cases h
  |cons z m=>
   cases y with
   |c t d x=>
    cases z with
    |c u J A=>
     have h:(decide (u=t)&&Nat.beq J d&&Xa l m)=true:=h;simp only[bAE,decide_eq_true_eq]at h;obtain⟨⟨rfl,hd⟩,hl⟩:=h;have hd:=bqE hd;subst hd
     have e:(bif u.one then(match dyA m with
      |some m=>some ((⟨u,A⟩:Dy)::m)
      |none=>none)else none)=some a:=e
     obtain⟨Z,e⟩:=Bb e;split at e
     case h_2=>cases e
     rename_i b W;cases e
     show((match(if h:u=u then some (h▸A)else none:Option u.T)with
      |some x=>Cl.c u J x
      |none=>.dead)::(JD l (b++rest)).1,(JD l (b++rest)).2)=_
     rw[U m b rest hl W];simp
    |_=>cases h
   |_=>cases z<;>cases h
def OA{old new:Af}(h:Zn old new=true)(J:Yw new=some a):V2 old (a++rest)=(X6 new,rest):=by
 cases old with
 |arr ro t d xs=>
  cases new with
  |arr A e U u=>
   have h:(decide (e=t)&&Nat.beq U d)=true:=h;simp only[bAE,decide_eq_true_eq]at h;obtain⟨rfl,hd⟩:=h;have hd:=bqE hd;subst hd;cases J;show((if h:e=e then Af.arr false e U (h▸u)else .dead),rest)=_
   simp[X6]
  |_=>cases h
 |obj ro l=>
  cases new with
  |obj A m=>
   show(Af.obj false (JD l (a++rest)).1,(JD l (a++rest)).2)=_;rw[QL l m a rest h J];rfl
  |_=>cases h
 |dead=>trivial
 |opt=>trivial
def Iz(k:LK)(y:Sl):Sl:=match k,y with
 |.val _ false,.one c=>(match dyC c with
  |some z=>.one z.cl
  |none=>.one .dead)
 |.val _ true,.agg l=>(match dyL l with
  |some m=>.agg (m.map Dy.cl)
  |none=>.one .dead)
 |.ref id,_=>.one (.rf id [])
 |.ptr id,_=>.one (.rp id [] 0 0)
 |.pth id _,.one (.rf _ p')=>.one (.rf id p')
 |_,_=>.one .dead
theorem QI{k:LK}{m:List (Nat×Nat)}(h:VS k y=some (a,m)):V1 k (a++rest)=(Iz k y,rest):=by
 unfold VS at h;split at h
 .split at h
  case h_2=>cases h
  rename_i z A;cases h;unfold V1 Iz;simp[A]
 .rename_i n l
  obtain⟨J,h⟩:=Bb h;split at h
  case h_2=>cases h
  rename_i z A;cases h
  have e:∀(l:List Cl) (z:List Dy),dyL l=some z->z.length=l.length:=by
   intro l
   induction l with
   |nil=>intro z h;cases h;rfl
   |cons y l Z=>
    intro z h;unfold dyL at h
    grind
  have hl:=e l a A;have hn:=bqE J;unfold V1 Iz
  grind
 .cases h;rfl
 .cases h;rfl
 .rename_i id p id' u
  obtain⟨J,h⟩:=Bb h;cases h;obtain⟨W,U⟩:=KC p u rest J;show(Sl.one (.rf id (QJ p (dyP u++rest))),(dyP u++rest).drop p.length)=(Sl.one (.rf id u),rest);rw[W,U]
 .cases h;rfl
 .cases h
def KL(t0 e:Nat->Sl):List Nat->(Nat->Sl)->Nat->Sl
 |[],t=>t
 |d::L,t=>KL t0 e L (AJ t d (Iz (lk (t0 d)) (e d)))
def KD{t0 e:Nat->Sl}:∀(L:List Nat) (a rest:List Dy) (m:List (Nat×Nat)) (t:Nat->Sl),QG t0 e L=some (a,m)->J2 t0 L (a++rest) t=(KL t0 e L t,rest)
 |[],a,rest,m,t,h=>by cases h;rfl
 |d::L,a,rest,m,t,h=>by
  unfold QG at h;split at h
  case h_2=>grind
  rename_i a1 U A;split at h
  case h_2=>grind
  rename_i a2 J u;cases h;unfold J2;rw[List.append_assoc,QI A];exact KD L a2 rest J _ u
theorem KK{t0 e:Nat->Sl}:∀(L:List Nat) (t:Nat->Sl) (i:Nat),KL t0 e L t i=if L.contains i then Iz (lk (t0 i)) (e i)else t i
 |[],t,i=>rfl
 |d::L,t,i=>by
  unfold KL;rw[KK L];by_cases u:L.contains i=true
  .grind
  .rw[if_neg u]
   by_cases hd:i=d
   .subst hd
    rw[if_pos (by simp)]
    unfold AJ;simp
   .have:(d::L).contains i=false:=by
     grind
    rw[this,AY hd];rfl
def Bk(r':List Af)(π:Nat->Nat):List Nat->List Af->List Af
 |[],r=>r
 |id::l,r=>Bk r' π l (r.set id (X6 (r'.getD (π id) .dead)))
def KB{e r':List Af}{π:Nat->Nat}:∀(Rh:List Nat) (a:List Dy) (r:List Af),Rh.all (λi=>Zn (e.getD i .dead) (r'.getD (π i) .dead))=true->XC r' π Rh=some a->Hb e Rh a r=Bk r' π Rh r
 |[],a,r,_,h=>rfl
 |id::l,a,r,hs,h=>by
  rw[List.all_cons,bAE]at hs;unfold XC at h;split at h
  case h_2=>grind
  rename_i a1 A;split at h
  case h_2=>grind
  rename_i a2 u;cases h;unfold Hb;rw[OA hs.1 A];exact KB l a2 _ hs.2 u
def KM{r':List Af}{π:Nat->Nat}:∀(Rh:List Nat) (r:List Af),(Bk r' π Rh r).length=r.length
 |[],_=>rfl
 |id::l,r=>by unfold Bk;rw[KM l,List.length_set]
def KN{r':List Af}{π:Nat->Nat}:∀(Rh:List Nat) (r:List Af) (i:Nat),i<r.length->(Bk r' π Rh r).getD i .dead=if Rh.contains i then X6 (r'.getD (π i) .dead)else r.getD i .dead
 |[],r,i,_=>rfl
 |id::l,r,i,hi=>by
  unfold Bk;rw[KN l _ i (by grind)]
  grind
def Yx(m:List (Nat×Nat))(L Rh:List Nat)(e s':St)(keep:Nat):Bool:=
 (List.range e.r.length).all (λi=>Nat.blt (piF m i) s'.r.length)&&
 (List.range e.r.length).all (λi=>(List.range e.r.length).all λj=>Nat.beq i j|| !Nat.beq (piF m i) (piF m j))&&
 (List.range e.r.length).all (λi=>Rh.contains i||Nat.beq (piF m i) i)&&
 Rh.all (λi=>Zn (e.r.getD i .dead) (s'.r.getD (piF m i) .dead))&&
 m.all (λp=>Nat.beq (piF m p.1) p.2&&Nat.blt p.1 e.r.length)&&
 (List.range keep).all (λi=>Nat.beq (piF m i) i)
def Aab(L Rh:List Nat)(e s':St)(keep:Nat):Option (List Dy):=match QG e.t s'.t L with
 |some (a,m)=>bif Yx m L Rh e s' keep then(match XC s'.r (piF m) Rh with
  |some c=>some (a++c)
  |none=>none)else none
 |none=>none
theorem dyC_v{z:Dy}(h:dyC c=some z):c.v r=z.cl.v r':=by
 unfold dyC at h;split at h
 case h_2=>grind
 rename_i t d x;cases e:(t.one&& !(Cl.c t d x).own)with
 |false=>grind
 |true=>
  rw[e]at h;cases h;simp[Bool.not_eq_true']at e
  cases t<;>cases d<;>first|rfl|(cases x with
   |none=>rfl
   |some _=>exact absurd e.2 (by intro h;cases h))|exact nomatch e.2|rfl
def Kg(h:c.stay=true):Hf π n (c.v r) (c.v r'):=by
 cases c with
 |c t d x=>cases t<;>first|exact Hf.tyV0 (.clo _ _) x _ (List.mem_singleton.2 rfl)|(cases x<;>first|rfl|exact .inr (Sub.refl _))|exact ren_nr (λ_ _ _ _ h=>by cases h) (λ_ _ _ _ h=>by cases h) (λ_ _ _ h=>by cases h)
 |dead=>exact .inl rfl
 |nil=>exact .inr (Sub.refl _)
 |nilp=>exact .inr (Sub.refl _)
 |nilf=>exact .inr (Sub.refl _)
 |_=>cases h
theorem Xd(h:y.stay=true):Hf π n (y.v r) (y.v r'):=by
 have agg:∀l:List Cl,l.all Cl.stay=true->Hf π n (An (l.map (Cl.v r))) (An (l.map (Cl.v r'))):=by
  intro l h;refine Yg (by simp) λk e=>?_
  rw[AN (f:=Cl.v r) (a:=.dead) rfl,AN (f:=Cl.v r') (a:=.dead) rfl];have e:k<l.length:=by simpa using e
  refine Kg (aET.1 h _ ?_)
  grind
 cases y with
 |one c=>exact Kg h
 |new l=>exact .inr (Sub.refl _)
 |agg l=>exact agg l h
 |pk t l=>
  refine ren_pk (by simp) λk e=>?_
  rw[AN (f:=Cl.v r) (a:=.dead) rfl,AN (f:=Cl.v r') (a:=.dead) rfl];have e:k<l.length:=by simpa using e
  refine Kg (aET.1 h _ ?_)
  grind
 |tup l=>
  refine Zv (by simp) λk e=>?_
  have e:k<l.length:=by simpa using e
  simp only[gDE,List.getElem?_map,gEE e,Option.map_some,Option.getD_some];have u:=aET.1 h l[k] (List.getElem_mem e);generalize l[k]=p at u;obtain⟨b,m⟩:=p;cases b with
  |true=>exact agg m u
  |false=>
   cases m with
   |nil=>exact .inl rfl
   |cons y m=>exact Kg (by grind)
theorem Ov{C:Ctx}{N:Nat}{ro:Bool}{b:List Oper}{L Rh:List Nat}{A s':St}{keep:Nat}{cs:List Dy}{a:Act}{w:World}(h:AR C N s'.den a w)(hg:Aab L Rh A s' keep=some cs)(hk:C.m<=keep)(hk0:C.m<=A.r.length)
  (ht:∀i,L.contains i=false->Av b i=true->(A.t i).stay=true->s'.t i=A.t i)
  (hr:∀id,id<A.r.length->Rh.contains id=false->(s'.r.getD id .dead).v=(A.r.getD id .dead).v/\(s'.r.getD id .dead).len=(A.r.getD id .dead).len)
  (hq:∀id,id<A.r.length->Rh.contains id=false->∀q:AZ,((s'.r.getD id .dead).at' q).len=((A.r.getD id .dead).at' q).len):AR C N (Bz ro b L Rh A cs).den a w:=by
 unfold Aab at hg;split at hg
 case h_2=>cases hg
 rename_i av m Z;obtain⟨hok,hg⟩:=Bb hg;split at hg
 case h_2=>cases hg
 rename_i cv hgr;cases hg;unfold Yx at hok;simp only[bAE]at hok;obtain⟨⟨⟨⟨⟨o1,o2⟩,o3⟩,o4⟩,o5⟩,o6⟩:=hok
 let base:Nat->Sl:=λi=>bif Av b i&&(A.t i).stay then A.t i else .one .dead
 let J:List Af:=bif ro then A.r.map BH else A.r
 have hr0l:J.length=A.r.length:=by cases ro<;>simp[J]
 have hr0g:∀i,(J.getD i .dead).v=(A.r.getD i .dead).v/\(J.getD i .dead).len=(A.r.getD i .dead).len:=by
  intro i;cases ro with
  |false=>exact⟨rfl,rfl⟩
  |true=>
   have e:J.getD i .dead=BH (A.r.getD i .dead):=by
    show(A.r.map BH).getD i .dead=_;simp only[gDE,List.getElem?_map];cases A.r[i]? <;>rfl
   rw[e];exact Lc _
 have hT:Bz ro b L Rh A (av++cv)=⟨KL A.t s'.t L base,Bk s'.r (piF m) Rh J⟩:=by
  show(⟨(J2 A.t L (av++cv) base).1,Hb A.r Rh (J2 A.t L (av++cv) base).2 J⟩:St)=_;rw[KD L av cv m base Z];simp only;rw[KB Rh cv J o4 hgr]
 rw[hT];have hlen:(Bk s'.r (piF m) Rh J).length=A.r.length:=by rw[KM,hr0l]
 have U:((Bk s'.r (piF m) Rh J).map Af.v).length=A.r.length:=by rw[List.length_map,hlen]
 have hget:∀i,i<A.r.length->(Bk s'.r (piF m) Rh J).getD i .dead=if Rh.contains i then X6 (s'.r.getD (piF m i) .dead)else J.getD i .dead:=λi W=>KN Rh J i (by rw[hr0l];exact W)
 have hgv:∀i,i<A.r.length->((Bk s'.r (piF m) Rh J).getD i .dead).v=(s'.r.getD (piF m i) .dead).v/\((Bk s'.r (piF m) Rh J).getD i .dead).len=(s'.r.getD (piF m i) .dead).len:=by
  intro i W;rw[hget i W];cases hc:Rh.contains i with
  |true=>simp only[if_true];exact unRo_v _
  |false=>
   simp only[Bool.false_eq_true,if_false];have:=aET.1 o3 i (List.mem_range.2 W);rw[hc,Bool.false_or]at this;rw[bqE this,(hr0g i).1,(hr0g i).2,(hr i W hc).1,(hr i W hc).2];exact⟨rfl,rfl⟩
 have hgq:∀i,i<A.r.length->∀q:AZ,(((Bk s'.r (piF m) Rh J).getD i .dead).at' q).len=((s'.r.getD (piF m i) .dead).at' q).len:=by
  intro i W q;rw[hget i W];cases hc:Rh.contains i with
  |true=>simp only[if_true];exact XW q _ _ (W6 _)
  |false=>
   simp only[Bool.false_eq_true,if_false];have:=aET.1 o3 i (List.mem_range.2 W);rw[hc,Bool.false_or]at this;rw[bqE this,hq i W hc q];refine XW q _ _ ?_;cases ro with
   |false=>rfl
   |true=>
    have e:J.getD i .dead=BH (A.r.getD i .dead):=by
     show(A.r.map BH).getD i .dead=_;simp only[gDE,List.getElem?_map];cases A.r[i]? <;>rfl
    rw[e];exact Jc _
 refine h.perm (π:=piF m) (λi W=>?_) (λi j W hj he=>?_) (λi W=>?_) (λi W=>?_) ?_ λi=>?_
 .have W:i<A.r.length:=by rw[<-U];exact W
  show _<(s'.r.map Af.v).length;rw[List.length_map];exact blE (aET.1 o1 i (List.mem_range.2 W))
 .have W:i<A.r.length:=by rw[<-U];exact W
  have hj:j<A.r.length:=by rw[<-U];exact hj
  have:=aET.1 (aET.1 o2 i (List.mem_range.2 W)) j (List.mem_range.2 hj);rw[he,Nat.beq_refl,Bool.or_eq_true]at this;rcases this with h|h
  .exact bqE h
  .cases h
 .have W:i<A.r.length:=by rw[<-U];exact W
  show Sub ((s'.r.map Af.v).getD (piF m i) .dead) (((Bk s'.r (piF m) Rh J).map Af.v).getD i .dead);rw[AA,AA,(hgv i W).1];exact Sub.refl _
 .exact bqE (aET.1 o6 i (List.mem_range.2 (Nat.lt_of_lt_of_le W hk)))
 .show C.m<=((Bk s'.r (piF m) Rh J).map Af.v).length
  rw[U];exact hk0
 .show Hf (piF m) ((Bk s'.r (piF m) Rh J).map Af.v).length ((s'.t i).v s'.r) ((KL A.t s'.t L base i).v (Bk s'.r (piF m) Rh J))
  rw[KK,U];cases hc:L.contains i with
  |false=>
   simp only[Bool.false_eq_true,if_false];show Hf _ _ _ ((bif Av b i&&(A.t i).stay then A.t i else .one .dead:Sl).v _);cases hb:(Av b i&&(A.t i).stay)with
   |false=>exact Hf.dead _ _ _
   |true=>
    rw[bAE]at hb;rw[ht i hc hb.1 hb.2];exact Xd hb.2
  |true=>
   simp only[if_true]
   -- the slot's own part of what was grabbed
   have hpart:∀(L:List Nat) (av:List Dy) (m0:List (Nat×Nat)),QG A.t s'.t L=some (av,m0)->L.contains i=true->∃a1 m1,VS (lk (A.t i)) (s'.t i)=some (a1,m1)/\∀p∈m1,p∈m0:=by
    intro L
    induction L with
    |nil=>intro av m0 _ h;cases h
    |cons d L ih=>
     intro av m0 Z hc;unfold QG at Z;split at Z
     case h_2=>cases Z
     rename_i a1 b1 h1;split at Z
     case h_2=>cases Z
     rename_i a2 b2 h2;cases Z;by_cases hd:i=d
     .subst hd
      exact⟨a1,b1,h1,λp hp=>List.mem_append_left _ hp⟩
     .have:L.contains i=true:=by
       rw[List.contains_cons]at hc;have hne:(i==d)=false:=by simpa using hd
       rw[hne,Bool.false_or]at hc;exact hc
      obtain⟨a3,m3,h3,h4⟩:=ih a2 b2 h2 this;exact⟨a3,m3,h3,λp hp=>List.mem_append_right _ (h4 p hp)⟩
   obtain⟨a1,m1,h1,hm1⟩:=hpart L av m Z hc;generalize lk (A.t i)=k at h1;generalize s'.t i=y at h1;unfold VS at h1;split at h1
   .rename_i c
    split at h1
    case h_2=>cases h1
    rename_i z hz;unfold Iz;simp only[hz];have e:=dyC_v (r:=s'.r) (r':=Bk s'.r (piF m) Rh J) hz;show Hf _ _ (c.v s'.r) (z.cl.v (Bk s'.r (piF m) Rh J));rw[e];exact Kg (r:=Bk s'.r (piF m) Rh J) (r':=Bk s'.r (piF m) Rh J) (c:=z.cl) rfl
   .rename_i n l
    obtain⟨hb,h1⟩:=Bb h1;split at h1
    case h_2=>cases h1
    rename_i z hz;unfold Iz;simp only[hz]
    have key:∀(l:List Cl) (z:List Dy),dyL l=some z->l.map (Cl.v s'.r)=(z.map Dy.cl).map (Cl.v (Bk s'.r (piF m) Rh J)):=by
     intro l
     induction l with
     |nil=>intro z h;cases h;rfl
     |cons y l ih=>
      intro z h;unfold dyL at h;split at h
      case h_2=>cases h
      rename_i z1 hz1;split at h
      case h_2=>cases h
      rename_i z2 hz2;cases h;simp only[List.map_cons];rw[dyC_v hz1,ih z2 hz2]
    show Hf _ _ (An (l.map (Cl.v s'.r))) (An ((z.map Dy.cl).map (Cl.v (Bk s'.r (piF m) Rh J))));rw[key l z hz];refine Yg rfl λk hk=>?_
    rw[AN (f:=Cl.v (Bk s'.r (piF m) Rh J)) (a:=.dead) rfl];cases hx:(z.map Dy.cl)[k]? with
    |none=>simp only[gDE,hx];exact .inl rfl
    |some x=>
     simp only[gDE,hx,Option.getD_some];obtain⟨u,_,hu⟩:=List.mem_map.1 (List.mem_of_getElem? hx);rw[<-hu];exact Kg (c:=u.cl) rfl
   .rename_i id id'
    cases h1;have hp:=aET.1 o5 (id,id') (hm1 _ (List.mem_singleton.2 rfl));rw[bAE]at hp;have hpi:piF m id=id':=bqE hp.1;have hid:id<A.r.length:=blE hp.2;refine .inr ⟨id,hid,hpi,?_⟩;show V.rs id [] 0 ((Bk s'.r (piF m) Rh J).getD id .dead).len=V.rs id [] 0 (s'.r.getD id' .dead).len;rw[(hgv id hid).2,hpi]
   .rename_i id id'
    cases h1;have hp:=aET.1 o5 (id,id') (hm1 _ (List.mem_singleton.2 rfl));rw[bAE]at hp;have hpi:piF m id=id':=bqE hp.1;have hid:id<A.r.length:=blE hp.2;exact .inr ⟨id,hid,hpi,rfl⟩
   .rename_i id p id' p'
    obtain⟨hb,h1⟩:=Bb h1;cases h1;have hp:=aET.1 o5 (id,id') (hm1 _ (List.mem_singleton.2 rfl));rw[bAE]at hp;have hpi:piF m id=id':=bqE hp.1;have hid:id<A.r.length:=blE hp.2;refine .inr ⟨id,hid,hpi,?_⟩;show V.rs id p' 0 (((Bk s'.r (piF m) Rh J).getD id .dead).at' p').len=V.rs id p' 0 ((s'.r.getD id' .dead).at' p').len;rw[hgq id hid p',hpi]
   .unfold Iz
    exact Hf.dead _ _ _
   .cases h1
end Go.Ve

