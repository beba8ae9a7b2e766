/- The typed machine: a region that draws its order; code. -/
import Derived.Test.YtpaekmpjbalnfabTk
namespace Go.Ve
theorem vdrawB{P:Program}{C:Ctx}{h:CC}{id:Nat}{ops:Array Oper}{Q:Exit->Act->World->Prop}{σ:List V}{t0:Nat->V}{X:Nat->Prop}(B:List (Nat×Nat))(n:Nat){Kt:(Nat->V)->Prop}{a:Act}{w:World}(hm:P.follows .mixedOrders=true)(hok:Hg ops n=true)
  (hv:vq P h ops σ (ops.toList.take n) Kt t0) (hX: ∀x,X x->∀j,AX ops j≠some x) (hB1:(B.map (·.1)).Nodup) (hB2:(B.map (·.2)).Nodup) (hB3: ∀p∈B,p.1<h.n/\p.2<σ.length/\σ.getD p.2 .dead= .dead/\∀j,AX ops j≠some p.1)
  (hKt: ∀Q':Exit->Act->World->Prop,(∀a w,Q .normal a w->Q' .normal a w)->∀t a w,Kt t->(∀x,X x->x∈B.map (·.1)\/AS (t x)=false)/\(∀p∈B,L9 (t p.1))/\(A0 C h.n (promA ((ops.toList.take n).map (·.dst)) (backs B ⟨t,σ⟩)) a w->wpList P ops Q' (ops.toList.drop n) a w))
  (hp0: ∃D ρ F T,PR C h.n σ ρ F t0 a {w with drawn:=w.drawn+1} D T/\(∀x b,T x b->X x)/\∀p∈B,a.tmps.getD p.1 undef=ρ p.2):(Code.region id ops true).wp P Q a w:=by
 have hq:=Nc hok;refine wp_region_any hm ?_;obtain⟨r,m,hst,hK⟩:=Xv (n:=n) (t0:=t0) (K:=Kt) hq.le hq n 0 (fun _=>.dead) (fun _=>[]) (by omega) (by simpa [CT]using hv) (fun j hj=>by omega)
 have inv0:HeadInv .any ops n (Array.replicate ops.size false):=
  ⟨by simp,fun j oj _ hl=>(by rw [getD_replicate_false]at hl;cases hl),fun t _ ht=>getD_in (by simpa using ht) (getD_replicate_false _ _)⟩
 obtain⟨D,ρ,F,T,hp,hTX,hBv⟩:=hp0
 have hpt: ∀x,pt ops n r m t0 (Array.replicate ops.size false) x=t0 x\/(pt ops n r m t0 (Array.replicate ops.size false) x= .dead/\∃k,AX ops k=some x):=by
  intro x;unfold pt;cases ho:CH ops n x with
  |none=>exact .inl (H6 n fun i _ hs=>by rw [getD_replicate_false]at hs;cases hs)
  |some k=>
   right;show(if(Array.replicate ops.size false).getD k false=true then _ else V.dead)=_/\_
   rw [getD_replicate_false];exact⟨rfl,k,(Bi ho).2⟩
 have hp1:PR C h.n σ ρ F (pt ops n r m t0 (Array.replicate ops.size false)) a {w with drawn:=w.drawn+1} D T:=by
  refine⟨hp.df,hp.sz,fun x hx=>?_,hp.wr,fun x hx=>?_,hp.tD,hp.tF,hp.tT,hp.tn,hp.fr,hp.Fn,hp.D1,hp.D2,hp.rt,hp.ml,hp.tx⟩
  ·rcases hpt x with e|e
   ·rw [e];exact hp.dd x hx
   ·exact e.1
  ·rcases hpt x with e|⟨e,k,hk⟩
   ·rw [e];exact hp.tm x hx
   ·rw [e]
    exact fun b hb=>hX x (hTX x b hb) k hk
 have hend: ∀Q':Exit->Act->World->Prop,(∀a w,Q .normal a w->Q' .normal a w)->∀a1 w D T,PR C h.n σ ρ F (CT ops r m t0 n) a1 w D T->(∀x b,T x b->AaE ops n X x)->(∀x,(∀i,i<n->AX ops i≠some x)->a1.tmps[x]? =a.tmps[x]?)->wpList P ops Q' (ops.toList.drop n) a1 w:=by
  intro Q' hQ' a1 w D T hp hT hA;obtain⟨hfree,hobj,hgo⟩:=hKt Q' hQ' _ a1 w hK;obtain⟨F',T',hp',hT'⟩:=PR.backs B _ _ _ _ hp hB1 hB2 fun p hpB=>by
   obtain⟨g1,g2,g3,g4⟩:=hB3 p hpB;refine⟨g1,g2,g3,?_,hobj p hpB⟩;rw [<-hBv p hpB,Array.getD_eq_getD_getElem?,Array.getD_eq_getD_getElem?,hA p.1 fun i _=>g4 i]
  refine hgo (PR.close _ _ _ _ _ _ hp' fun x b ho=>?_)
  obtain⟨ho,hxB⟩:=hT' x b ho;rcases hT x b ho with⟨i,hi,hd⟩|hx
  ·obtain⟨oi,hoi,_⟩:=hq.dst i hi
   refine List.mem_map.2 ⟨oi,?_,by simpa [AX,hoi]using hd⟩
   refine List.mem_of_getElem? (i:=i) ?_;rw [List.getElem?_take,if_pos hi,Array.getElem?_toList];exact hoi
  ·exfalso
   by_cases hxn:x<h.n
   ·exact AG _ _ _ ((hfree x hx).resolve_left hxB) (hp.tm x hxn) b ho
   ·exact hp.tx x b (Nat.le_of_not_lt hxn) ho
 refine Aar (X:=X) (a0:=a) hq (mok_of hq hst) hst (hend Q fun _ _ h=>h) (hend (QN Q) fun _ _ h=>⟨rfl,h⟩) ops.size _ a _ D T inv0 ?_ hp1 (fun x b hb=>.inr (hTX x b hb)) (fun _ _=>rfl) (fun j _ hl=>by rw [getD_replicate_false]at hl;cases hl)
 ·have:unl (Array.replicate ops.size false) n<=n:=by
   unfold unl;have:=List.countP_le_length (p:=fun i=>!(Array.replicate ops.size false).getD i true) (l:=List.range n)
   simpa using this
  have:=hq.le;omega
def LV(l:List Oper)(s:St):Bool:=l.all fun o=>match o.dst with
 |some d=>!(s.t d).own||(s.t d).stay
 |none=>true
def ML(E:Env)(ops:Array Oper)(o:Oper):Option Nat:=match o.op with
 | .assign (.tmp y)=>bif dX E y then some y else none
 | .move (.tmp y)=>bif dX E y then some y else none
 |op=>match Iz op with
  |some (f,xs)=>match JD E.U f with
   |some e=>match xs.toList[e.S.k]? with
    |some (.tmp z)=>match alS E.h ops o z with
     |some y=>some y
     |none=>bif dX E z then some z else none
    |_=>none
   |none=>none
  |none=>none
theorem XC{E:Env}{ops:Array Oper}{o:Oper}{y:Nat}(h:((dX E y&&JC o y)||ucB E ops o y)=true):ML E ops o=some y:=by
 rw [Bool.or_eq_true]at h;rcases h with h|h
 ·rw [bAE]at h
  obtain⟨hx,h⟩:=h;unfold JC at h;unfold ML;split at h
  ·rename_i z hop
   have e:=bqE h;subst e;rw [hop];simp only [hx,cond_true]
  ·rename_i z hop
   have e:=bqE h;subst e;rw [hop];simp only [hx,cond_true]
  ·cases h
 ·unfold ucB at h
  split at h
  case h_2=>cases h
  rename_i f xs hc;split at h
  case h_2=>cases h
  rename_i e he;split at h
  case h_2=>cases h
  rename_i z hz;obtain⟨ats,hop⟩:=Qu hc;rw [hop]at hc;unfold ML;rw [hop];simp only [hc,he,hz];cases hs:alS E.h ops o z with
  |some y'=>
   rw [hs]at h;show some y'=some y;rw [bqE (show Nat.beq y' y=true from h)]
  |none=>
   rw [hs]at h;have h:(dX E z&&Nat.beq z y)=true:=h;rw [bAE]at h;show(bif dX E z then some z else none)=some y;rw [h.1,bqE h.2];rfl
def yL(E:Env)(ops:Array Oper):List Nat:=(ops.toList.filterMap fun o=>match ML E ops o with
 |some y=>bif D9 ops y then some y else none
 |none=>none).eraseDups
def yOK(E:Env)(ops:Array Oper):Bool:=ops.toList.all fun o=>match ML E ops o with
 |some y=>D9 ops y
 |none=>true
def goneB(E:Env)(ops:Array Oper)(o:Oper)(y:Nat):Bool:=(dX E y&&JC o y)||(match Iz o.op with
 |some (f,xs)=>match JD E.U f with
  |some e=>e.S.eat&&(match xs.toList[e.S.k]? with
   |some (.tmp z)=>(match alS E.h ops o z with
    |some y'=>Nat.beq y' y
    |none=>dX E z&&Nat.beq z y)
   |_=>false)
  |none=>false
 |none=>false)
def bL(E:Env)(ops:Array Oper)(s:St):List (Nat×Nat):=(yL E ops).filterMap fun y=>bif ops.toList.any (fun o=>goneB E ops o y)then none else match Cn s y with
 |some id=>some (y,id)
 |none=>none
def bOK(n:Nat)(ops:Array Oper)(B:List (Nat×Nat))(s:St):Bool:=ndB (B.map (·.1))&&ndB (B.map (·.2))&&B.all fun p=>Nat.blt p.1 n&&Nat.blt p.2 s.r.length&&D9 ops p.1&&(match s.r.getD p.2 .dead with
 | .dead=>true
 |_=>false)
def MK{R:Type}(E:Env)(n:Nat)(ops:Array Oper)(B:List (Nat×Nat))(s:St)(K:St->Option R):Option R:=
 bif Hg ops n&&yOK E ops&&bOK E.h.n ops B s then
  UQ E true ops (US n (ops.toList.take n)) s fun s1=>
   bif LV (ops.toList.take n) s1&&(yL E ops).all (fun y=>(B.map (·.1)).contains y|| !(s1.t y).own)&&B.all (fun p=>Dw (s1.t p.1))then U7 E ops (US ops.size (ops.toList.drop n)) ((s1.backs B).promA ((ops.toList.take n).map (·.dst))) K else none
 else none
theorem HI: ∀ {l:List Nat},ndB l=true->l.Nodup
 | [],_=>List.nodup_nil
 |a::l,h=>by
  have h:(!l.contains a&&ndB l)=true:=h;rw [bAE,Bool.not_eq_true']at h;refine List.nodup_cons.2 ⟨fun hm=>?_,HI h.2⟩
  have:l.contains a=true:=by simpa using hm
  rw [h.1]at this;cases this
theorem DK{a b:List Oper}{i:Nat}:Aq (a++b) i=(Aq a i&&Aq b i):=by
 unfold Aq;rw [List.all_append]
theorem yB_mem{E:Env}{ops:Array Oper}{i:Nat}(hok:yOK E ops=true)(h:yB E ops i=true):i∈yL E ops:=by
 unfold yB at h;obtain⟨o,ho,hm⟩:=List.any_eq_true.1 h;have h2:=aET.1 hok o ho;have ht:=XC hm;refine List.mem_eraseDups.2 (List.mem_filterMap.2 ⟨o,ho,?_⟩);rw [ht]at h2;simp only at h2;simp only [ht,h2,cond_true]
theorem yL_nd{E:Env}{ops:Array Oper}{i:Nat}(h:i∈yL E ops): ∀j,AX ops j≠some i:=by
 obtain⟨o,_,he⟩:=List.mem_filterMap.1 (List.mem_eraseDups.1 h);split at he
 ·rename_i y hop
  cases hb:D9 ops y with
  |false=>rw [hb]at he;cases he
  |true=>
   rw [hb]at he;cases he;exact CI hb
 ·cases he
theorem bOKn{R:Type}{E:Env}{n:Nat}{ops:Array Oper}{B:List (Nat×Nat)}{s:St}{K:St->Option R}{z:R}(h:MK E n ops B s K=some z): ∀p∈B,p.1<E.h.n:=by
 intro p hp;unfold MK at h;cases hb:bOK E.h.n ops B s with
 |false=>rw [hb,Bool.and_false]at h;cases h
 |true=>
  unfold bOK at hb;rw [bAE]at hb;have:=aET.1 hb.2 p hp;simp only [bAE]at this;exact blE this.1.1.1
theorem Vc{P:Program}{E:Env}{C:Ctx}(hE:EOK P E)(hm:P.follows .mixedOrders=true){R:Type}{id n:Nat}{ops:Array Oper}{B:List (Nat×Nat)}{s:St}{K:St->Option R}{z:R}{a:Act}{w:World}{Q:Exit->Act->World->Prop}
  (hpr: ∃D ρ F T,PR C E.h.n s.den.σ ρ F s.den.t a {w with drawn:=w.drawn+1} D T/\(∀x b,T x b->x∈yL E ops)/\∀p∈B,a.tmps.getD p.1 undef=ρ p.2)
  (h:MK E n ops B s K=some z) (hK: ∀s' a' w',(∀i,(Aq ops.toList i&& !(yL E ops).contains i)=true->(∀p∈B,p.1≠i)->(s.t i).stay=true->s'.t i=s.t i)->(∀id,id<s.r.length->(∀p∈B,p.2≠id)->(s.r.getD id .dead).isRo=true->s'.r.getD id .dead=s.r.getD id .dead)->s.r.length<=s'.r.length->A0 C E.h.n s'.den a' w'->K s'=some z->Q .normal a' w'):(Code.region id ops true).wp P Q a w:=by
 unfold MK at h;cases hok:(Hg ops n&&yOK E ops&&bOK E.h.n ops B s)with
 |false=>rw [hok]at h;cases h
 |true=>
  rw [hok]at h;simp only [cond_true]at h;rw [bAE,bAE]at hok;obtain⟨⟨hok,hyk⟩,hbk⟩:=hok;unfold bOK at hbk;rw [bAE,bAE]at hbk;obtain⟨⟨hb1,hb2⟩,hb3⟩:=hbk;have hB: ∀p∈B,p.1<E.h.n/\p.2<s.r.length/\D9 ops p.1=true/\s.r.getD p.2 .dead= .dead:=by
   intro p hp;have:=aET.1 hb3 p hp;simp only [bAE]at this;obtain⟨⟨⟨g1,g2⟩,g3⟩,g4⟩:=this;refine⟨blE g1,blE g2,g3,?_⟩;split at g4
   ·assumption
   ·cases g4
  let K1:St->Option R:=fun s1=>bif LV (ops.toList.take n) s1&&(yL E ops).all (fun y=>(B.map (·.1)).contains y|| !(s1.t y).own)&&B.all (fun p=>Dw (s1.t p.1))then U7 E ops (US ops.size (ops.toList.drop n)) ((s1.backs B).promA ((ops.toList.take n).map (·.dst))) K else none
  have hv:=Xy hE (ops:=ops) (K:=K1) (z:=z) (Kt:=fun t=>∃s1:St,s1.r=s.r/\(∀i,Aq ops.toList i=true->yB E ops i=false->s1.t i=s.t i)/\VLe t s1.den.t/\K1 s1=some z) (US n (ops.toList.take n)) s s.den.t (fun o ho=>by rw [Cm]at ho;exact List.mem_of_mem_take ho) (fun i=>.inl rfl) h
   (fun s' t' h1 h2 h3 h4=>⟨s',h1,h2,h3,h4⟩)
  rw [Cm]at hv;refine vdrawB (X:=fun x=>x∈yL E ops) B n hm hok hv (fun x hx=>yL_nd hx) (HI hb1) (HI hb2) (fun p hp=>?_) ?_ hpr
  ·obtain⟨g1,g2,g3,g4⟩:=hB p hp
   refine⟨g1,by simpa [St.den]using g2,?_,CI g3⟩
   show(s.r.map Ae.v).getD p.2 .dead= .dead;rw [AI,g4];rfl
  rintro Q' hQ' t a1 w1 ⟨s1,hr1,ht1,hvl,hK1⟩
  have hK1:(bif LV (ops.toList.take n) s1&&(yL E ops).all (fun y=>(B.map (·.1)).contains y|| !(s1.t y).own)&&B.all (fun p=>Dw (s1.t p.1))then U7 E ops (US ops.size (ops.toList.drop n)) ((s1.backs B).promA ((ops.toList.take n).map (·.dst))) K else none)=some z:=hK1
  cases ho:(LV (ops.toList.take n) s1&&(yL E ops).all (fun y=>(B.map (·.1)).contains y|| !(s1.t y).own)&&B.all (fun p=>Dw (s1.t p.1)))with
  |false=>rw [ho]at hK1;cases hK1
  |true=>
   rw [ho]at hK1;simp only [cond_true]at hK1;rw [bAE,bAE]at ho;obtain⟨⟨ho,hyo⟩,hro⟩:=ho
   have hroot: ∀p∈B,Dw (s1.t p.1)=true/\t p.1=s1.den.t p.1:=by
    intro p hp;have h1:=aET.1 hro p hp;refine⟨h1,?_⟩;rcases hvl p.1 with e|e
    ·exact e
    ·obtain⟨_,h3,⟨s0,sz,nn,f,h4,_⟩,_⟩:=Cj h1
     have e1:(s1.t p.1).v s1.r= .dead:=e.1;rw [h3,h4]at e1;cases e1
   refine⟨fun x hx=>?_,fun p hp=>?_,fun hs1=>?_⟩
   ·have h1:=aET.1 hyo x hx
    rw [Bool.or_eq_true]at h1;rcases h1 with h1|h1
    ·exact .inl (by simpa using h1)
    right
    have h2:AS (s1.den.t x)=false:=by
     show AS ((s1.t x).v s1.r)=false;rw [Sl.own_v];simpa using h1
    rcases hvl x with e|e
    ·rw [e];exact h2
    ·exact e.2
   ·obtain⟨g1,g2⟩:=hroot p hp
    rw [g2];show L9 ((s1.t p.1).v s1.r);rw [(Cj g1).2.1];exact(Cj g1).2.2.1
   have hP:YB ((ops.toList.take n).map (·.dst)) ⟨t,s.den.σ⟩ s1:=by
    refine⟨by show s.r.map Ae.v=s1.r.map Ae.v;rw [hr1],fun i=>?_,fun i hi=>⟨fun hoi=>?_,?_⟩⟩
    ·rcases hvl i with e|e
     ·show Ay (t i) _
      rw [e];exact Ay.refl _
     ·rw [e.1];exact Ay.dead _
    ·obtain⟨o,ho1,ho2⟩:=List.mem_map.1 hi
     have:=aET.1 ho o ho1;rw [ho2]at this;simp only [Bool.or_eq_true,Bool.not_eq_true']at this;rcases this with h|h
     ·rw [hoi]at h;cases h
     ·exact h
    ·rcases hvl i with e|e
     ·exact .inl e
     ·right
      refine⟨?_,e.2⟩
      have:AS ((s1.t i).v s1.r)=false:=by
       show AS (s1.den.t i)=false;rw [e.1];rfl
      rw [Sl.own_v]at this;exact this
   have hP2:=JY B _ _ hP (HI hb1) fun p hp=>by
    obtain⟨g1,g2⟩:=hroot p hp;obtain⟨_,k2,k3,_⟩:=hB p hp;refine⟨fun hm=>?_,by rw [hr1];exact k2,g2,g1⟩
    obtain⟨o,ho1,ho2⟩:=List.mem_map.1 hm;obtain⟨j,hj⟩:=List.mem_iff_getElem?.1 (List.mem_of_mem_take ho1);refine CI k3 j ?_;unfold AX;rw [<-Array.getElem?_toList,hj];exact ho2
   obtain⟨g1,g2⟩:=Jx _ _ _ hP2;have hs2:A0 C E.h.n ((s1.backs B).promA ((ops.toList.take n).map (·.dst))).den a1 w1:=hs1.sub (by rw [g2]) (fun i _=>by rw [g2];exact Sub.refl _) g1
   have e:ops.toList.drop n=(US ops.size (ops.toList.drop n)).flatMap Seg.ops:=(Cm _ _).symm;rw [e];obtain⟨b1,b2,b3⟩:=Ml B s1
   have hsp: ∀i,(Aq ops.toList i&& !(yL E ops).contains i)=true->Aq ops.toList i=true/\yB E ops i=false:=by
    intro i hi;rw [bAE,Bool.not_eq_true']at hi;refine⟨hi.1,?_⟩;cases hy:yB E ops i with
    |false=>rfl
    |true=>
     have:=yB_mem hyk hy;have:(yL E ops).contains i=true:=by simpa using this
     rw [hi.2]at this;cases this
   have k1:=HD (ops.toList.take n) (s1.backs B)
   have hsplit: ∀i,(Aq ops.toList i&& !(yL E ops).contains i)=true->Aq (ops.toList.take n) i=true/\Aq (ops.toList.drop n) i=true:=by
    intro i hi;have hi:=(hsp i hi).1;rw [<-List.take_append_drop n ops.toList,DK,bAE]at hi;exact hi
   refine U6 hE _ _ a1 w1 hs2 hK1 fun s' a' w' hk hs' hz=>hQ' _ _ (hK s' a' w' (fun i hi hiB hst=>?_) (fun id hl hiB hrr=>?_) ?_ hs' hz)
   ·have e1:s1.t i=s.t i:=ht1 i (hsp i hi).1 (hsp i hi).2
    have e2:(s1.backs B).t i=s1.t i:=b1 i hiB (by rw [e1];exact hst)
    have e3:=k1.t i (hsplit i hi).1 (by rw [e2,e1];exact hst)
    rw [Cm]at hk;rw [hk.t i (hsplit i hi).2 (by rw [e3,e2,e1];exact hst),e3,e2,e1]
   ·have e2:(s1.backs B).r.getD id .dead=s.r.getD id .dead:=(b2 id hiB).trans (by rw [hr1])
    have hl2:id<(s1.backs B).r.length:=by rw [b3,hr1];exact hl
    have e3:=k1.r id hl2 (by rw [e2];exact hrr)
    rw [hk.r id (Nat.lt_of_lt_of_le hl2 k1.l) (by rw [e3,e2];exact hrr),e3,e2]
   ·have:s.r.length=(s1.backs B).r.length:=by rw [b3,hr1]
    rw [this];exact Nat.le_trans k1.l hk.l
def Zt{R:Type}(E:Env)(n:Nat)(ops:Array Oper)(s:St)(K:St->Option R):Option R:=match NR (ops.toList.flatMap (capsF E.h.fz)) s with
 |some s0=>match JO (yL E ops) s0 with
  |some s1=>MK E n ops (bL E ops s0) s1 K
  |none=>none
 |none=>none
theorem XA{P:Program}{E:Env}{C:Ctx}(hE:EOK P E)(hm:P.follows .mixedOrders=true){R:Type}{id n:Nat}{ops:Array Oper}{s:St}{K:St->Option R}{z:R}{a:Act}{w:World}{Q:Exit->Act->World->Prop}(hs:A0 C E.h.n s.den a w)
  (h:Zt E n ops s K=some z) (hK: ∀s' a' w',Kp (Aq ops.toList) s s'->A0 C E.h.n s'.den a' w'->K s'=some z->Q .normal a' w'):(Code.region id ops true).wp P Q a w:=by
 unfold Zt at h;split at h
 case h_2=>cases h
 rename_i s0 hg;split at h
 case h_2=>cases h
 rename_i s1 hd;have hbl: ∀p∈bL E ops s0,p.1∈yL E ops/\Cn s0 p.1=some p.2:=by
  intro p hp;obtain⟨y,hy,he⟩:=List.mem_filterMap.1 hp;cases hc:ops.toList.any (fun o=>goneB E ops o y)with
  |true=>rw [hc]at he;cases he
  |false=>
   rw [hc]at he;simp only [cond_false]at he;split at he
   ·rename_i id hr
    cases he;exact⟨hy,hr⟩
   ·cases he
 refine Vc hE hm ?_ h fun s' a' w' q1 q2 q3=>hK s' a' w' ?_
 ·obtain⟨D,ρ,F,T,hpr,hT,hval⟩:=N2 hd (I6 _ hg hs) (Below.drew w)
  exact⟨D,ρ,F,T,hpr,hT,fun p hp=>hval p.1 p.2 (bOKn h p hp) (hbl p hp).2⟩
 have k1:=I7 _ hg;have k2:=N3 hd
 have hnY: ∀i,(s0.t i).stay=true->(yL E ops).contains i=false:=by
  intro i hst;cases hc:(yL E ops).contains i with
  |false=>rfl
  |true=>
   have hm:i∈yL E ops:=by simpa using hc
   exfalso;unfold JO at hd;split at hd
   ·rename_i hY
    rw [hY]at hm;cases hm
   split at hd
   case h_2=>cases hd
   rename_i ids hids;obtain⟨id,_,hid⟩:=(JK hids).1 i hm;rw [(Ch hid).2.1]at hst;cases hst
 have k3:Kp (Aq ops.toList) s0 s':=by
  refine⟨fun i hi hst=>?_,fun id hl hro=>?_,Nat.le_trans k2.l q3⟩
  ·have e:=k2.t i rfl hst
   have hiY:=hnY i hst;rw [q1 i (by rw [hi,hiY];rfl) (fun p hp he=>?_) (by rw [e];exact hst),e]
   have:=(hbl p hp).1;rw [he]at this;have:(yL E ops).contains i=true:=by simpa using this
   rw [hiY]at this;cases this
  ·have e:=k2.r id hl hro
   rw [q2 id (Nat.lt_of_lt_of_le hl k2.l) (fun p hp he=>?_) (by rw [e];exact hro),e]
   have:=(Ch (hbl p hp).2).1;rw [he,hro]at this;cases this
 exact k1.trans k3 (fun _ _=>rfl) fun _ hi=>hi
end Go.Ve


namespace Go.Ve
inductive LK where
 |val (n:Nat) (agg:Bool)
 |ref (id:Nat)
 |ptr (id:Nat)
 |pth (id:Nat) (p:A1)
 |no
def okV:Cl->Bool
 | .c t _ _=>t.one
 |_=>false
def lk:Sl->LK
 | .one (.c t _ _)=>bif t.one then .val 1 false else .no
 | .one (.rf id [])=>.ref id
 | .one (.rp id [] 0 0)=>.ptr id
 | .one (.rf id (a::q))=>.pth id (a::q)
 | .agg l=>bif l.all okV then .val l.length true else .no
 |_=>.no
def dyC:Cl->Option Dy
 | .c t d x=>bif t.one&& !(Cl.c t d x).own then some ⟨t,x⟩else none
 |_=>none
def dyL:List Cl->Option (List Dy)
 | []=>some []
 |y::l=>match dyC y with
  |some z=>match dyL l with
   |some m=>some (z::m)
   |none=>none
  |none=>none
def Dy.cl(y:Dy):Cl:=.c y.t 0 y.x
def dyP:A1->List Dy
 | []=>[]
 |(i,_)::p=>⟨.int .i64,(Int.ofNat i:Int)⟩::dyP p
def Q1:A1->A1->Bool
 | [],[]=>true
 |(_,k)::p,(_,k')::q=>Nat.beq k k'&&Q1 p q
 |_,_=>false
def Dy.nat:Dy->Nat
 |⟨.int _,x⟩=>Int.toNat x
 |_=>0
def Uz:A1->List Dy->A1
 | [],_=>[]
 |(_,k)::p,y::cs=>(y.nat,k)::Uz p cs
 |(_,k)::p,[]=>(0,k)::Uz p []
def Wx(k:LK)(y:Sl):Option (List Dy×List (Nat×Nat)):=match k,y with
 | .val _ false,.one c=>match dyC c with
  |some z=>some ([z],[])
  |none=>none
 | .val n true,.agg l=>bif Nat.beq l.length n then(match dyL l with
  |some m=>some (m,[])
  |none=>none)else none
 | .ref id,.one (.rf id' [])=>some ([],[(id,id')])
 | .ptr id,.one (.rp id' [] 0 0)=>some ([],[(id,id')])
 | .pth id p,.one (.rf id' p')=>bif Q1 p p' then some (dyP p',[(id,id')])else none
 | .no,_=>some ([],[])
 |_,_=>none
def Uw(t0:Nat->Sl)(t:Nat->Sl):List Nat->Option (List Dy×List (Nat×Nat))
 | []=>some ([],[])
 |d::L=>match Wx (lk (t0 d)) (t d)with
  |some (a,b)=>match Uw t0 t L with
   |some (a',b')=>some (a++a',b++b')
   |none=>none
  |none=>none
def piF(m:List (Nat×Nat))(i:Nat):Nat:=match m with
 | []=>i
 |(a,b)::m=>bif Nat.beq a i then b else piF m i
def dyA:List Cl->Option (List Dy)
 | []=>some []
 | .c t _ x::l=>bif t.one then(match dyA l with
  |some m=>some (⟨t,x⟩::m)
  |none=>none)else none
 |_::_=>none
def Y2:Ae->Option (List Dy)
 | .arr _ t _ xs=>some [⟨.sl t,xs⟩]
 | .obj _ l=>dyA l
 | .opt _ _ _ _=>none
 | .dead=>none
def Yk(r:List Ae)(π:Nat->Nat):List Nat->Option (List Dy)
 | []=>some []
 |id::l=>match Y2 (r.getD (π id) .dead)with
  |some a=>match Yk r π l with
   |some b=>some (a++b)
   |none=>none
  |none=>none
def WE(k:LK)(cs:List Dy):Sl×List Dy:=match k with
 | .val _ false=>(match cs with
  |y::_=>.one y.cl
  | []=>.one .dead,cs.drop 1)
 | .val n true=>(.agg ((cs.take n).map Dy.cl),cs.drop n)
 | .ref id=>(.one (.rf id []),cs)
 | .ptr id=>(.one (.rp id [] 0 0),cs)
 | .pth id p=>(.one (.rf id (Uz p cs)),cs.drop p.length)
 | .no=>(.one .dead,cs)
def Kd(t0:Nat->Sl):List Nat->List Dy->(Nat->Sl)->(Nat->Sl)×List Dy
 | [],cs,t=>(t,cs)
 |d::L,cs,t=>Kd t0 L (WE (lk (t0 d)) cs).2 (AQ t d (WE (lk (t0 d)) cs).1)
def JN:List Cl->List Dy->List Cl×List Dy
 | [],cs=>([],cs)
 | .c t d _::l,y::cs=>(match(if h:y.t=t then some (h▸y.x)else none:Option t.T)with
  |some x=>.c t d x
  |none=>.dead)::(JN l cs).1|>fun m=>(m,(JN l cs).2)
 |_::l,cs=>(.dead::(JN l cs).1,(JN l cs).2)
def WF:Ae->List Dy->Ae×List Dy
 | .arr _ t d _,y::cs=>(match y with
  |⟨.sl t',xs⟩=>if h:t'=t then .arr false t d (h▸xs)else .dead
  |_=>.dead,cs)
 | .arr _ _ _ _,[]=>(.dead,[])
 | .obj _ l,cs=>(.obj false (JN l cs).1,(JN l cs).2)
 | .opt _ _ _ _,cs=>(.dead,cs)
 | .dead,cs=>(.dead,cs)
def Hm(r0:List Ae):List Nat->List Dy->List Ae->List Ae
 | [],_,r=>r
 |id::l,cs,r=>Hm r0 l (WF (r0.getD id .dead) cs).2 (r.set id (WF (r0.getD id .dead) cs).1)
def BE:Ae->Ae
 | .arr _ t d xs=>.arr true t d xs
 | .obj _ l=>.obj true l
 | .opt _ t d x=>.opt true t d x
 | .dead=>.dead
def Be(ro:Bool)(b:List Oper)(L Rh:List Nat)(s0:St)(cs:List Dy):St:=
 let base:Nat->Sl:=fun i=>bif Aq b i&&(s0.t i).stay then s0.t i else .one .dead
 let f:=Kd s0.t L cs base
 ⟨f.1,Hm s0.r Rh f.2 (bif ro then s0.r.map BE else s0.r)⟩
end Go.Ve


namespace Go.Ve
def XO:List Cl->List Cl->Bool
 | [],[]=>true
 | .c t d _::l,.c t' d' _::m=>decide (t'=t)&&Nat.beq d' d&&XO l m
 |_,_=>false
def ZM:Ae->Ae->Bool
 | .arr _ t d _,.arr _ t' d' _=>decide (t'=t)&&Nat.beq d' d
 | .obj _ l,.obj _ m=>XO l m
 |_,_=>false
def YH:Ae->Ae
 | .arr _ t d xs=>.arr false t d xs
 | .obj _ l=>.obj false l
 | .opt _ t d x=>.opt false t d x
 | .dead=>.dead
theorem unRo_v(r:Ae):(YH r).v=r.v/\(YH r).len=r.len:=by cases r<;>first|exact⟨rfl,rfl⟩|exact⟨rfl,O2⟩
theorem LC(r:Ae):(BE r).v=r.v/\(BE r).len=r.len:=by cases r<;>first|exact⟨rfl,rfl⟩|exact⟨rfl,O2⟩
theorem Jl(r:Ae)(i:Nat):(BE r).cells i=r.cells i:=by cases r<;>cases i<;>rfl
theorem QZ(c:Cl)(b b':Bool):BE (c.node b)=BE (c.node b'):=by
 cases c with
 |c t d x=>cases t<;>cases d<;>rfl
 |_=>rfl
theorem XL(r:Ae):BE (YH r)=BE r:=by cases r<;>rfl
theorem Jk(r:Ae):BE (BE r)=BE r:=by cases r<;>rfl
theorem Yy: ∀ (q:A1) (r r':Ae),BE r=BE r'->(r.at' q).len=(r'.at' q).len
 | [],r,r',h=>by
  show r.len=r'.len;rw [<-(LC r).2,<-(LC r').2,h]
 |(i,k)::q,r,r',h=>by
  show((((r.cells i).getD k .dead).node r.ro).at' q).len=((((r'.cells i).getD k .dead).node r'.ro).at' q).len;have e:r.cells i=r'.cells i:=by rw [<-Jl r,<-Jl r',h]
  rw [e];exact Yy q _ _ (QZ _ _ _)
theorem KY: ∀ (p p':A1) (rest:List Dy),Q1 p p'=true->Uz p (dyP p'++rest)=p'/\(dyP p'++rest).drop p.length=rest
 | [],[],rest,_=>⟨rfl,rfl⟩
 |(i,k)::p,(i',k')::p',rest,h=>by
  have h:(Nat.beq k k'&&Q1 p p')=true:=h;rw [bAE]at h;obtain⟨a,b⟩:=KY p p' rest h.2;have hk:=bqE h.1;subst hk;refine⟨?_,b⟩;show(Int.toNat (Int.ofNat i'),k)::Uz p (dyP p'++rest)=_;rw [a];rfl
 | [],_::_,_,h=>by cases h
 |_::_,[],_,h=>by cases h
theorem UA: ∀ (l m:List Cl) (a:List Dy) (rest:List Dy),XO l m=true->dyA m=some a->JN l (a++rest)=(m,rest):=by
 intro l
 induction l with
 |nil=>intro m a rest h ha;cases m with
  |nil=>cases ha;rfl
  |cons y m=>cases y<;>cases h
 |cons y l ih=>
  intro m a rest h ha;cases m with
  |nil=>cases y<;>cases h
  |cons z m=>
   cases y with
   |c t d x=>
    cases z with
    |c t' d' x'=>
     have h:(decide (t'=t)&&Nat.beq d' d&&XO l m)=true:=h;simp only [bAE,decide_eq_true_eq]at h;obtain⟨⟨rfl,hd⟩,hl⟩:=h;have hd:=bqE hd;subst hd
     have ha:(bif t'.one then(match dyA m with
      |some m=>some ((⟨t',x'⟩:Dy)::m)
      |none=>none)else none)=some a:=ha
     cases ho:t'.one with
     |false=>rw [ho]at ha;cases ha
     |true=>
      rw [ho]at ha;simp only [cond_true]at ha;split at ha
      case h_2=>cases ha
      rename_i b hb;cases ha
      show((match(if h:t'=t' then some (h▸x')else none:Option t'.T)with
       |some x=>Cl.c t' d' x
       |none=>.dead)::(JN l (b++rest)).1,(JN l (b++rest)).2)=_
      rw [ih m b rest hl hb];simp
    |_=>cases h
   |_=>cases z<;>cases h
theorem Pb{old new:Ae}{a rest:List Dy}(h:ZM old new=true)(ha:Y2 new=some a):WF old (a++rest)=(YH new,rest):=by
 cases old with
 |arr ro t d xs=>
  cases new with
  |arr ro' t' d' xs'=>
   have h:(decide (t'=t)&&Nat.beq d' d)=true:=h;simp only [bAE,decide_eq_true_eq]at h;obtain⟨rfl,hd⟩:=h;have hd:=bqE hd;subst hd;cases ha;show((if h:t'=t' then Ae.arr false t' d' (h▸xs')else .dead),rest)=_
   simp [YH]
  |_=>cases h
 |obj ro l=>
  cases new with
  |obj ro' m=>
   show(Ae.obj false (JN l (a++rest)).1,(JN l (a++rest)).2)=_;rw [UA l m a rest h ha];rfl
  |_=>cases h
 |dead=>cases new<;>cases h
 |opt=>cases new<;>cases h
def IQ(k:LK)(y:Sl):Sl:=match k,y with
 | .val _ false,.one c=>(match dyC c with
  |some z=>.one z.cl
  |none=>.one .dead)
 | .val _ true,.agg l=>(match dyL l with
  |some m=>.agg (m.map Dy.cl)
  |none=>.one .dead)
 | .ref id,_=>.one (.rf id [])
 | .ptr id,_=>.one (.rp id [] 0 0)
 | .pth id _,.one (.rf _ p')=>.one (.rf id p')
 |_,_=>.one .dead
theorem Uy{k:LK}{y:Sl}{a rest:List Dy}{m:List (Nat×Nat)}(h:Wx k y=some (a,m)):WE k (a++rest)=(IQ k y,rest):=by
 unfold Wx at h;split at h
 ·split at h
  case h_2=>cases h
  rename_i z hz;cases h;unfold WE IQ;simp [hz]
 ·rename_i n l
  cases hb:Nat.beq l.length n with
  |false=>rw [hb]at h;cases h
  |true=>
   rw [hb]at h;simp only [cond_true]at h;split at h
   case h_2=>cases h
   rename_i z hz;cases h
   have hlen: ∀ (l:List Cl) (z:List Dy),dyL l=some z->z.length=l.length:=by
    intro l
    induction l with
    |nil=>intro z h;cases h;rfl
    |cons y l ih=>
     intro z h;unfold dyL at h;split at h
     case h_2=>cases h
     split at h
     case h_2=>cases h
     rename_i m hm;cases h;simp [ih m hm]
   have hl:=hlen l a hz;have hn:=bqE hb;unfold WE IQ;simp only [hz];rw [List.take_append_of_le_length (by omega),List.take_of_length_le (by omega),List.drop_append_of_le_length (by omega),List.drop_eq_nil_of_le (by omega)]
   rfl
 ·cases h;rfl
 ·cases h;rfl
 ·rename_i id p id' p'
  cases hb:Q1 p p' with
  |false=>rw [hb]at h;cases h
  |true=>
   rw [hb]at h;cases h;obtain⟨e1,e2⟩:=KY p p' rest hb;show(Sl.one (.rf id (Uz p (dyP p'++rest))),(dyP p'++rest).drop p.length)=(Sl.one (.rf id p'),rest);rw [e1,e2]
 ·cases h;rfl
 ·cases h
def La(t0 t':Nat->Sl):List Nat->(Nat->Sl)->Nat->Sl
 | [],t=>t
 |d::L,t=>La t0 t' L (AQ t d (IQ (lk (t0 d)) (t' d)))
theorem KZ{t0 t':Nat->Sl}: ∀ (L:List Nat) (a rest:List Dy) (m:List (Nat×Nat)) (t:Nat->Sl),Uw t0 t' L=some (a,m)->Kd t0 L (a++rest) t=(La t0 t' L t,rest)
 | [],a,rest,m,t,h=>by cases h;rfl
 |d::L,a,rest,m,t,h=>by
  unfold Uw at h;split at h
  case h_2=>cases h
  rename_i a1 b1 h1;split at h
  case h_2=>cases h
  rename_i a2 b2 h2;cases h;unfold Kd;rw [List.append_assoc,Uy h1];exact KZ L a2 rest b2 _ h2
theorem K9{t0 t':Nat->Sl}: ∀ (L:List Nat) (t:Nat->Sl) (i:Nat),La t0 t' L t i=if L.contains i then IQ (lk (t0 i)) (t' i)else t i
 | [],t,i=>rfl
 |d::L,t,i=>by
  unfold La;rw [K9 L];by_cases hi:L.contains i=true
  ·rw [if_pos hi,if_pos (by rw [List.contains_cons,hi,Bool.or_true])]
  ·rw [if_neg hi]
   by_cases hd:i=d
   ·subst hd
    rw [if_pos (by simp)]
    unfold AQ;rw [Nat.beq_refl];rfl
   ·have:(d::L).contains i=false:=by
     rw [List.contains_cons];have:(i==d)=false:=by simpa using hd
     rw [this];simpa using hi
    rw [this,A2 hd];rfl
def Bn(r':List Ae)(π:Nat->Nat):List Nat->List Ae->List Ae
 | [],r=>r
 |id::l,r=>Bn r' π l (r.set id (YH (r'.getD (π id) .dead)))
theorem KX{r0 r':List Ae}{π:Nat->Nat}: ∀ (Rh:List Nat) (a:List Dy) (r:List Ae),Rh.all (fun i=>ZM (r0.getD i .dead) (r'.getD (π i) .dead))=true->Yk r' π Rh=some a->Hm r0 Rh a r=Bn r' π Rh r
 | [],a,r,_,h=>rfl
 |id::l,a,r,hs,h=>by
  rw [List.all_cons,bAE]at hs;unfold Yk at h;split at h
  case h_2=>cases h
  rename_i a1 h1;split at h
  case h_2=>cases h
  rename_i a2 h2;cases h;unfold Hm;rw [Pb hs.1 h1];exact KX l a2 _ hs.2 h2
theorem Lb{r':List Ae}{π:Nat->Nat}: ∀ (Rh:List Nat) (r:List Ae),(Bn r' π Rh r).length=r.length
 | [],_=>rfl
 |id::l,r=>by unfold Bn;rw [Lb l,List.length_set]
theorem Lc{r':List Ae}{π:Nat->Nat}: ∀ (Rh:List Nat) (r:List Ae) (i:Nat),i<r.length->(Bn r' π Rh r).getD i .dead=if Rh.contains i then YH (r'.getD (π i) .dead)else r.getD i .dead
 | [],r,i,_=>rfl
 |id::l,r,i,hi=>by
  unfold Bn;rw [Lc l _ i (by rw [List.length_set];exact hi)]
  by_cases hc:l.contains i=true
  ·rw [if_pos hc,if_pos (by rw [List.contains_cons,hc,Bool.or_true])]
  ·rw [if_neg hc]
   by_cases hd:i=id
   ·subst hd
    rw [if_pos (by simp)]
    simp only [gDE,List.getElem?_set_self hi,Option.getD_some]
   ·have:(id::l).contains i=false:=by
     rw [List.contains_cons];have:(i==id)=false:=by simpa using hd
     rw [this];simpa using hc
    rw [this];simp only [gDE,List.getElem?_set_ne (Ne.symm hd)];rfl
def Wy(m:List (Nat×Nat))(L Rh:List Nat)(s0 s':St)(keep:Nat):Bool:=
 (List.range s0.r.length).all (fun i=>Nat.blt (piF m i) s'.r.length)&&
 (List.range s0.r.length).all (fun i=>(List.range s0.r.length).all fun j=>Nat.beq i j|| !Nat.beq (piF m i) (piF m j))&&
 (List.range s0.r.length).all (fun i=>Rh.contains i||Nat.beq (piF m i) i)&&
 Rh.all (fun i=>ZM (s0.r.getD i .dead) (s'.r.getD (piF m i) .dead))&&
 m.all (fun p=>Nat.beq (piF m p.1) p.2&&Nat.blt p.1 s0.r.length)&&
 (List.range keep).all (fun i=>Nat.beq (piF m i) i)
def Yl(L Rh:List Nat)(s0 s':St)(keep:Nat):Option (List Dy):=match Uw s0.t s'.t L with
 |some (a,m)=>bif Wy m L Rh s0 s' keep then(match Yk s'.r (piF m) Rh with
  |some c=>some (a++c)
  |none=>none)else none
 |none=>none
theorem dyC_v{c:Cl}{z:Dy}{r r':List Ae}(h:dyC c=some z):c.v r=z.cl.v r':=by
 unfold dyC at h;split at h
 case h_2=>cases h
 rename_i t d x;cases hb:(t.one&& !(Cl.c t d x).own)with
 |false=>rw [hb]at h;cases h
 |true=>
  rw [hb]at h;cases h;simp only [bAE,Bool.not_eq_true']at hb
  cases t<;>cases d<;>first|rfl|(cases x with
   |none=>rfl
   |some _=>exact absurd hb.2 (by intro h;cases h))|exact nomatch hb.2|exact nomatch hb.1
theorem Kx{π:Nat->Nat}{n:Nat}{r r':List Ae}{c:Cl}(h:c.stay=true):B3 π n (c.v r) (c.v r'):=by
 cases c with
 |c t d x=>cases t<;>first|exact B3.tyV0 (.clo _ _) x _ (List.mem_singleton.2 rfl)|(cases x<;>first|exact B3.dead _ _ _|exact .inr (Sub.refl _))|exact ren_nr (fun _ _ _ _ h=>by cases h) (fun _ _ _ _ h=>by cases h) (fun _ _ _ h=>by cases h)
 |dead=>exact .inl rfl
 |nil=>exact .inr (Sub.refl _)
 |nilp=>exact .inr (Sub.refl _)
 |nilf=>exact .inr (Sub.refl _)
 |_=>cases h
theorem XU{π:Nat->Nat}{n:Nat}{r r':List Ae}{y:Sl}(h:y.stay=true):B3 π n (y.v r) (y.v r'):=by
 have agg: ∀l:List Cl,l.all Cl.stay=true->B3 π n (Ai (l.map (Cl.v r))) (Ai (l.map (Cl.v r'))):=by
  intro l h;refine PJ (by simp) fun k hk=>?_
  rw [AB (f:=Cl.v r) (a:=.dead) rfl,AB (f:=Cl.v r') (a:=.dead) rfl];have hk:k<l.length:=by simpa using hk
  refine Kx (aET.1 h _ ?_);rw [gDE,gEE hk];exact List.getElem_mem _
 cases y with
 |one c=>exact Kx h
 |new l=>exact .inr (Sub.refl _)
 |agg l=>exact agg l h
 |pk t l=>
  refine YQ (by simp) fun k hk=>?_
  rw [AB (f:=Cl.v r) (a:=.dead) rfl,AB (f:=Cl.v r') (a:=.dead) rfl];have hk:k<l.length:=by simpa using hk
  refine Kx (aET.1 h _ ?_);rw [gDE,gEE hk];exact List.getElem_mem _
 |tup l=>
  refine VN (by simp) fun k hk=>?_
  have hk:k<l.length:=by simpa using hk
  simp only [gDE,List.getElem?_map,gEE hk,Option.map_some,Option.getD_some];have hp:=aET.1 h l[k] (List.getElem_mem hk);generalize l[k]=p at hp;obtain⟨b,m⟩:=p;cases b with
  |true=>exact agg m hp
  |false=>
   cases m with
   |nil=>exact .inl rfl
   |cons y m=>exact Kx (by simp only [List.all_cons,bAE]at hp;exact hp.1)
theorem JL{C:Ctx}{N:Nat}{ro:Bool}{b:List Oper}{L Rh:List Nat}{s0 s':St}{keep:Nat}{cs:List Dy}{a:Act}{w:World}(h:A0 C N s'.den a w)(hg:Yl L Rh s0 s' keep=some cs)(hk:C.m<=keep)(hk0:C.m<=s0.r.length)
  (ht: ∀i,L.contains i=false->Aq b i=true->(s0.t i).stay=true->s'.t i=s0.t i)
  (hr: ∀id,id<s0.r.length->Rh.contains id=false->(s'.r.getD id .dead).v=(s0.r.getD id .dead).v/\(s'.r.getD id .dead).len=(s0.r.getD id .dead).len)
  (hq: ∀id,id<s0.r.length->Rh.contains id=false->∀q:A1,((s'.r.getD id .dead).at' q).len=((s0.r.getD id .dead).at' q).len):A0 C N (Be ro b L Rh s0 cs).den a w:=by
 unfold Yl at hg;split at hg
 case h_2=>cases hg
 rename_i av m hgl;cases hok:Wy m L Rh s0 s' keep with
 |false=>rw [hok]at hg;cases hg
 |true=>
  rw [hok]at hg;simp only [cond_true]at hg;split at hg
  case h_2=>cases hg
  rename_i cv hgr;cases hg;unfold Wy at hok;simp only [bAE]at hok;obtain⟨⟨⟨⟨⟨o1,o2⟩,o3⟩,o4⟩,o5⟩,o6⟩:=hok
  let base:Nat->Sl:=fun i=>bif Aq b i&&(s0.t i).stay then s0.t i else .one .dead
  let r0:List Ae:=bif ro then s0.r.map BE else s0.r
  have hr0l:r0.length=s0.r.length:=by cases ro<;>simp [r0]
  have hr0g: ∀i,(r0.getD i .dead).v=(s0.r.getD i .dead).v/\(r0.getD i .dead).len=(s0.r.getD i .dead).len:=by
   intro i;cases ro with
   |false=>exact⟨rfl,rfl⟩
   |true=>
    have e:r0.getD i .dead=BE (s0.r.getD i .dead):=by
     show(s0.r.map BE).getD i .dead=_;simp only [gDE,List.getElem?_map];cases s0.r[i]? <;>rfl
    rw [e];exact LC _
  have hT:Be ro b L Rh s0 (av++cv)=⟨La s0.t s'.t L base,Bn s'.r (piF m) Rh r0⟩:=by
   show(⟨(Kd s0.t L (av++cv) base).1,Hm s0.r Rh (Kd s0.t L (av++cv) base).2 r0⟩:St)=_;rw [KZ L av cv m base hgl];simp only;rw [KX Rh cv r0 o4 hgr]
  rw [hT];have hlen:(Bn s'.r (piF m) Rh r0).length=s0.r.length:=by rw [Lb,hr0l]
  have hlenv:((Bn s'.r (piF m) Rh r0).map Ae.v).length=s0.r.length:=by rw [List.length_map,hlen]
  have hget: ∀i,i<s0.r.length->(Bn s'.r (piF m) Rh r0).getD i .dead=if Rh.contains i then YH (s'.r.getD (piF m i) .dead)else r0.getD i .dead:=fun i hi=>Lc Rh r0 i (by rw [hr0l];exact hi)
  have hgv: ∀i,i<s0.r.length->((Bn s'.r (piF m) Rh r0).getD i .dead).v=(s'.r.getD (piF m i) .dead).v/\((Bn s'.r (piF m) Rh r0).getD i .dead).len=(s'.r.getD (piF m i) .dead).len:=by
   intro i hi;rw [hget i hi];cases hc:Rh.contains i with
   |true=>simp only [if_true];exact unRo_v _
   |false=>
    simp only [Bool.false_eq_true,if_false];have:=aET.1 o3 i (List.mem_range.2 hi);rw [hc,Bool.false_or]at this;rw [bqE this,(hr0g i).1,(hr0g i).2,(hr i hi hc).1,(hr i hi hc).2];exact⟨rfl,rfl⟩
  have hgq: ∀i,i<s0.r.length->∀q:A1,(((Bn s'.r (piF m) Rh r0).getD i .dead).at' q).len=((s'.r.getD (piF m i) .dead).at' q).len:=by
   intro i hi q;rw [hget i hi];cases hc:Rh.contains i with
   |true=>simp only [if_true];exact Yy q _ _ (XL _)
   |false=>
    simp only [Bool.false_eq_true,if_false];have:=aET.1 o3 i (List.mem_range.2 hi);rw [hc,Bool.false_or]at this;rw [bqE this,hq i hi hc q];refine Yy q _ _ ?_;cases ro with
    |false=>rfl
    |true=>
     have e:r0.getD i .dead=BE (s0.r.getD i .dead):=by
      show(s0.r.map BE).getD i .dead=_;simp only [gDE,List.getElem?_map];cases s0.r[i]? <;>rfl
     rw [e];exact Jk _
  refine h.perm (π:=piF m) (fun i hi=>?_) (fun i j hi hj he=>?_) (fun i hi=>?_) (fun i hi=>?_) ?_ fun i=>?_
  ·have hi:i<s0.r.length:=by rw [<-hlenv];exact hi
   show _<(s'.r.map Ae.v).length;rw [List.length_map];exact blE (aET.1 o1 i (List.mem_range.2 hi))
  ·have hi:i<s0.r.length:=by rw [<-hlenv];exact hi
   have hj:j<s0.r.length:=by rw [<-hlenv];exact hj
   have:=aET.1 (aET.1 o2 i (List.mem_range.2 hi)) j (List.mem_range.2 hj);rw [he,Nat.beq_refl,Bool.or_eq_true]at this;rcases this with h|h
   ·exact bqE h
   ·cases h
  ·have hi:i<s0.r.length:=by rw [<-hlenv];exact hi
   show Sub ((s'.r.map Ae.v).getD (piF m i) .dead) (((Bn s'.r (piF m) Rh r0).map Ae.v).getD i .dead);rw [AI,AI,(hgv i hi).1];exact Sub.refl _
  ·exact bqE (aET.1 o6 i (List.mem_range.2 (Nat.lt_of_lt_of_le hi hk)))
  ·show C.m<=((Bn s'.r (piF m) Rh r0).map Ae.v).length
   rw [hlenv];exact hk0
  ·show B3 (piF m) ((Bn s'.r (piF m) Rh r0).map Ae.v).length ((s'.t i).v s'.r) ((La s0.t s'.t L base i).v (Bn s'.r (piF m) Rh r0))
   rw [K9,hlenv];cases hc:L.contains i with
   |false=>
    simp only [Bool.false_eq_true,if_false];show B3 _ _ _ ((bif Aq b i&&(s0.t i).stay then s0.t i else .one .dead:Sl).v _);cases hb:(Aq b i&&(s0.t i).stay)with
    |false=>exact B3.dead _ _ _
    |true=>
     rw [bAE]at hb;rw [ht i hc hb.1 hb.2];exact XU hb.2
   |true=>
    simp only [if_true]
    -- the slot's own part of what was grabbed
    have hpart: ∀ (L:List Nat) (av:List Dy) (m0:List (Nat×Nat)),Uw s0.t s'.t L=some (av,m0)->L.contains i=true->∃a1 m1,Wx (lk (s0.t i)) (s'.t i)=some (a1,m1)/\∀p∈m1,p∈m0:=by
     intro L
     induction L with
     |nil=>intro av m0 _ h;cases h
     |cons d L ih=>
      intro av m0 hgl hc;unfold Uw at hgl;split at hgl
      case h_2=>cases hgl
      rename_i a1 b1 h1;split at hgl
      case h_2=>cases hgl
      rename_i a2 b2 h2;cases hgl;by_cases hd:i=d
      ·subst hd
       exact⟨a1,b1,h1,fun p hp=>List.mem_append_left _ hp⟩
      ·have:L.contains i=true:=by
        rw [List.contains_cons]at hc;have hne:(i==d)=false:=by simpa using hd
        rw [hne,Bool.false_or]at hc;exact hc
       obtain⟨a3,m3,h3,h4⟩:=ih a2 b2 h2 this;exact⟨a3,m3,h3,fun p hp=>List.mem_append_right _ (h4 p hp)⟩
    obtain⟨a1,m1,h1,hm1⟩:=hpart L av m hgl hc;generalize lk (s0.t i)=k at h1;generalize s'.t i=y at h1;unfold Wx at h1;split at h1
    ·rename_i c
     split at h1
     case h_2=>cases h1
     rename_i z hz;unfold IQ;simp only [hz];have e:=dyC_v (r:=s'.r) (r':=Bn s'.r (piF m) Rh r0) hz;show B3 _ _ (c.v s'.r) (z.cl.v (Bn s'.r (piF m) Rh r0));rw [e];exact Kx (r:=Bn s'.r (piF m) Rh r0) (r':=Bn s'.r (piF m) Rh r0) (c:=z.cl) rfl
    ·rename_i n l
     cases hb:Nat.beq l.length n with
     |false=>rw [hb]at h1;cases h1
     |true=>
      rw [hb]at h1;simp only [cond_true]at h1;split at h1
      case h_2=>cases h1
      rename_i z hz;unfold IQ;simp only [hz]
      have key: ∀ (l:List Cl) (z:List Dy),dyL l=some z->l.map (Cl.v s'.r)=(z.map Dy.cl).map (Cl.v (Bn s'.r (piF m) Rh r0)):=by
       intro l
       induction l with
       |nil=>intro z h;cases h;rfl
       |cons y l ih=>
        intro z h;unfold dyL at h;split at h
        case h_2=>cases h
        rename_i z1 hz1;split at h
        case h_2=>cases h
        rename_i z2 hz2;cases h;simp only [List.map_cons];rw [dyC_v hz1,ih z2 hz2]
      show B3 _ _ (Ai (l.map (Cl.v s'.r))) (Ai ((z.map Dy.cl).map (Cl.v (Bn s'.r (piF m) Rh r0))));rw [key l z hz];refine PJ rfl fun k hk=>?_
      rw [AB (f:=Cl.v (Bn s'.r (piF m) Rh r0)) (a:=.dead) rfl];cases hx:(z.map Dy.cl)[k]? with
      |none=>simp only [gDE,hx];exact .inl rfl
      |some x=>
       simp only [gDE,hx,Option.getD_some];obtain⟨u,_,hu⟩:=List.mem_map.1 (List.mem_of_getElem? hx);rw [<-hu];exact Kx (c:=u.cl) rfl
    ·rename_i id id'
     cases h1;have hp:=aET.1 o5 (id,id') (hm1 _ (List.mem_singleton.2 rfl));rw [bAE]at hp;have hpi:piF m id=id':=bqE hp.1;have hid:id<s0.r.length:=blE hp.2;refine .inr ⟨id,hid,hpi,?_⟩;show V.rs id [] 0 ((Bn s'.r (piF m) Rh r0).getD id .dead).len=V.rs id [] 0 (s'.r.getD id' .dead).len;rw [(hgv id hid).2,hpi]
    ·rename_i id id'
     cases h1;have hp:=aET.1 o5 (id,id') (hm1 _ (List.mem_singleton.2 rfl));rw [bAE]at hp;have hpi:piF m id=id':=bqE hp.1;have hid:id<s0.r.length:=blE hp.2;exact .inr ⟨id,hid,hpi,rfl⟩
    ·rename_i id p id' p'
     cases hb:Q1 p p' with
     |false=>rw [hb]at h1;cases h1
     |true=>
      rw [hb]at h1;cases h1;have hp:=aET.1 o5 (id,id') (hm1 _ (List.mem_singleton.2 rfl));rw [bAE]at hp;have hpi:piF m id=id':=bqE hp.1;have hid:id<s0.r.length:=blE hp.2;refine .inr ⟨id,hid,hpi,?_⟩;show V.rs id p' 0 (((Bn s'.r (piF m) Rh r0).getD id .dead).at' p').len=V.rs id p' 0 ((s'.r.getD id' .dead).at' p').len;rw [hgq id hid p',hpi]
    ·unfold IQ
     exact B3.dead _ _ _
    ·cases h1
end Go.Ve

