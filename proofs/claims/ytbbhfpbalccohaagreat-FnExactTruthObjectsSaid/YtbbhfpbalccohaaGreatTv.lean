/- The typed machine: what a function computes that writes its owned arguments; its contract. -/
import Derived.Test.YtbbhfpbalccohaaGreatTq
namespace Go.Ve
def Pc(ps:List WP)(x:(PTW ps).T):St:=⟨fun i=>(AT ps x 0).1.getD i (.one .dead),(AT ps x 0).2⟩
def OC:List Ah->List Ah->Option (List (Σ t:Ty,t.T))
 | [],_=>some []
 | .arr _ u d _::r0,.arr _ u' d' xs::r=>if u'=u then(bif Nat.beq d' d then(match OC r0 r with
  |some l=>some (⟨.sl u',xs⟩::l)
  |none=>none)else none)else none
 |_::_,_=>none
def WC(t:Ty)(y:Σ t:Ty,t.T):Option t.T:=if h:y.1=t then some (h▸y.2)else none
def toW:(tys:List Ty)->List (Σ t:Ty,t.T)->Option (wty tys).T
 | [],[]=>some ()
 | [t],[y]=>WC t y
 |t::u::l,y::ys=>match WC t y with
  |some x=>match toW (u::l) ys with
   |some z=>some (x,z)
   |none=>none
  |none=>none
 |_,_=>none
def retW(t:Nat)(rt:Ty)(tys:List Ty)(r0:List Ah)(s:St):Option (rt.T×(wty tys).T):=match s.t t with
 | .one (.c t' _ v)=>if h:t'=rt then(match OC r0 s.r with
  |some ys=>match toW tys ys with
   |some z=>some (h▸v,z)
   |none=>none
  |none=>none)else none
 |_=>none
def retWK(t:Nat)(rt:Ty)(tys:List Ty)(r0:List Ah):Exit->St->Option (rt.T×(wty tys).T)
 | .normal,s=>retW t rt tys r0 s
 | .ret,s=>retW t rt tys r0 s
 |_,_=>none
def tyR:Ah->Ty
 | .arr _ u _ _=>.sl u
 |_=>.unit
def Wb:Ah->Bool
 | .arr _ _ _ _=>true
 |_=>false
def I1:List Ah->List Ty->Bool
 | [],[]=>true
 |r::rs,t::ts=>decide (tyR r=t)&&Wb r&&I1 rs ts
 |_,_=>false
noncomputable def YA(E:AG)(fn:Func)(S:Xd)(x:(PTW S.ps).T):Option (S.rt.T×(wty (CX S.ps)).T):=match fn.body,fn.results.toList with
 |some b,[.tmp t]=>bif S.rt.sc&&I1 (AT S.ps x 0).2 (CX S.ps)&&Nat.ble (AT S.ps x 0).2.length E.h.keep then
   Xm E b (Pc S.ps x) (retWK t S.rt (CX S.ps) (AT S.ps x 0).2)else none
 |_,_=>none
theorem WB{t:Ty}{y:Σ t:Ty,t.T}{x:t.T}(h:WC t y=some x):(⟨t,x⟩:Σ t:Ty,t.T)=y:=by
 unfold WC at h;split at h
 case isFalse=>cases h
 rename_i ht;obtain⟨t',z⟩:=y;simp only at ht;subst ht;cases h;rfl
theorem toW_v: ∀ (tys:List Ty) (ys:List (Σ t:Ty,t.T)) (z:(wty tys).T),toW tys ys=some z->wOf tys z=ys
 | [],[],z,_=>rfl
 | [t],[y],z,h=>by
  show [(⟨t,z⟩:Σ t:Ty,t.T)]= [y];rw [WB h]
 |t::u::l,y::ys,z,h=>by
  have h:(match WC t y with
   |some x=>match toW (u::l) ys with
    |some z=>some (x,z)
    |none=>none
   |none=>none:Option (wty (t::u::l)).T)=some z:=h
  split at h
  case h_2=>cases h
  rename_i x hx;split at h
  case h_2=>cases h
  rename_i z' hz;cases h;show(⟨t,x⟩:Σ t:Ty,t.T)::wOf (u::l) z'=_;rw [WB hx,toW_v (u::l) ys z' hz]
 | [],_::_,_,h=>by cases h
 | [_],[],_,h=>by cases h
 | [_],_::_::_,_,h=>by cases h
 |_::_::_,[],_,h=>by cases h
theorem Uy: ∀ (tys:List Ty) (z:(wty tys).T),(wOf tys z).length=tys.length
 | [],_=>rfl
 | [_],_=>rfl
 |t::u::l,z=>by show(wOf (u::l) z.2).length+1=_;rw [Uy];rfl
theorem Yx: ∀ (tys:List Ty) (z:(wty tys).T),(wOf tys z).map (·.1)=tys
 | [],_=>rfl
 | [_],_=>rfl
 |t::u::l,z=>by show t::(wOf (u::l) z.2).map (·.1)=_;rw [Yx]
theorem J5: ∀ {rs:List Ah} {tys:List Ty},I1 rs tys=true->rs.map tyR=tys/\∀r∈rs,Wb r=true
 | [],[],_=>⟨rfl,fun _ h=>by cases h⟩
 |r::rs,t::ts,h=>by
  simp only [I1,bAE,decide_eq_true_eq]at h;obtain⟨h1,h2⟩:=J5 h.2;refine⟨by simp [h1,h.1.1],fun q hq=>?_⟩
  rcases List.mem_cons.1 hq with rfl|hq
  ·exact h.1.2
  ·exact h2 q hq
 | [],_::_,h=>by cases h
 |_::_,[],h=>by cases h
theorem QY{r:Ah}{y:Σ t:Ty,t.T}(h:y.1=tyR r)(ha:Wb r=true):Cu r y≠.dead:=by
 cases r with
 |dead=>cases ha
 |opt=>cases ha
 |obj ro l=>cases ha
 |arr ro u d xs=>
  obtain⟨t,z⟩:=y;have h:t= .sl u:=h;subst h;simp [Cu]
theorem Wd: ∀ {r0 r:List Ah} {ys:List (Σ t:Ty,t.T)},OC r0 r=some ys->r0.length<=r.length/\ys.length=r0.length/\∀k,k<r0.length->(Cu (r0.getD k .dead) (ys.getD k ⟨.unit,()⟩)).v=(r.getD k .dead).v
 | [],r,ys,h=>by cases h;exact⟨Nat.zero_le _,rfl,fun k hk=>by simp at hk⟩
 | .arr ro u d xs::r0,.arr ro' u' d' xs'::r,ys,h=>by
  unfold OC at h;split at h
  case isFalse=>cases h
  rename_i hu;subst hu;cases hd:Nat.beq d' d with
  |false=>rw [hd]at h;cases h
  |true=>
   rw [hd]at h;simp only [cond_true]at h;split at h
   case h_2=>cases h
   rename_i l hl;cases h;obtain⟨h1,h2,h3⟩:=Wd hl;refine⟨by simpa using h1,by simp [h2],fun k hk=>?_⟩
   cases k with
   |zero=>
    show(Cu (.arr ro u' d xs) ⟨.sl u',xs'⟩).v=(Ah.arr ro' u' d' xs').v;rw [Nat.eq_of_beq_eq_true hd];simp [Cu,Ah.v]
   |succ k=>simpa using h3 k (by simpa using hk)
 | .arr _ _ _ _::_,[],_,h=>by cases h
 | .arr _ _ _ _::_,.dead::_,_,h=>by cases h
 | .arr _ _ _ _::_,.obj _ _::_,_,h=>by cases h
 | .arr _ _ _ _::_,.opt _ _ _ _::_,_,h=>by cases h
 | .opt _ _ _ _::_,_,_,h=>by simp [OC]at h
 | .dead::_,_,_,h=>by simp [OC]at h
 | .obj _ _::_,_,_,h=>by simp [OC]at h
theorem IP: ∀ (ps:List WP) (x:(PTW ps).T) (m:Nat),(AT ps x m).1.length=ps.length
 | [],_,_=>rfl
 | [_],_,_=>rfl
 |p::q::l,x,m=>by show(AT (q::l) x.2 _).1.length+1=_;rw [IP];rfl
theorem KZ{P:Program}{E:AG}{f:FuncId}{fn:Func}{S:Xd}(hΘ:Tab.OK P E.Θ)(hΓ:JV P E.Γ)(hW: ∀e∈E.W,e.OK P)(hN: ∀e∈E.N,e.OK P)(hm:P.follows .mixedOrders=true)(hf:P.funcs[f]? =some fn)(hn:max S.ps.length fn.ntmps=E.h.n)
  {g:(PTW S.ps).T->Option (S.rt.T×(wty (CX S.ps)).T)} (hg:YA E fn S=g):FTW P f S g:=by
 subst hg;intro x u hxu;unfold YA at hxu;split at hxu
 case h_2=>cases hxu
 rename_i b t hb hrv;cases hc:(S.rt.sc&&I1 (AT S.ps x 0).2 (CX S.ps)&&Nat.ble (AT S.ps x 0).2.length E.h.keep)with
 |false=>rw [hc]at hxu;cases hxu
 |true=>
 rw [hc]at hxu;simp only [cond_true]at hxu;simp only [bAE]at hc;obtain⟨⟨hsc,hst⟩,hkp⟩:=hc;have hkp:=Nat.le_of_ble_eq_true hkp;obtain⟨ht1,ht2⟩:=J5 hst;have hlen:(wOf (CX S.ps) u.2).length=(AT S.ps x 0).2.length:=by rw [Uy,<-ht1];simp
 refine⟨hsc,hlen,fun k hk=>?_,?_⟩
 ·rw [B7 _ _ k hlen.symm hk]
  have h1:((wOf (CX S.ps) u.2).getD k ⟨.unit,()⟩).1=tyR ((AT S.ps x 0).2.getD k .dead):=by
   have e:=(Yx (CX S.ps) u.2).trans ht1.symm;have e2:=congrArg (·[k]?) e
   have hy:k<(wOf (CX S.ps) u.2).length:=by omega
   simp only [List.getElem?_map,gEE hk,gEE hy,Option.map_some,Option.some.injEq]at e2;simp only [gDE,gEE hk,gEE hy,Option.getD_some];exact e2
  exact QY h1 (ht2 _ (by simp [hk]))
 intro w D ρ F cvs hk hkF wr hsz hrel
 let C:Ctx:=⟨w,fun b=>∃i,F i b,D,(AT S.ps x 0).2.length,ρ,hk,fun p hp ⟨i,hF⟩=>hkF p hp i hF⟩
 have hal:((AT S.ps x 0).1.map (Sl.v (AT S.ps x 0).2)).length=S.ps.length:=by rw [List.length_map,IP]
 refine calls_of_wp hf hb ?_
 have hs:AY C E.h.n (Pc S.ps x).den {tmps:=cvs++Array.replicate (fn.ntmps-cvs.size) undef,defers:=[]} w:=by
  have hslot: ∀i,(Pc S.ps x).den.t i=((AT S.ps x 0).1.map (Sl.v (AT S.ps x 0).2)).getD i .dead:=fun i=>(AB (f:=Sl.v (AT S.ps x 0).2) (a:=.one .dead) rfl _ _).symm
  refine⟨rfl,fun y hy=>by rw [hslot];exact L4 (by rw [hal];omega),D,ρ,F,⟨wr,by simp [hsz,IP];omega,fun k hk=>?_,⟨rfl,rfl,rfl,Nat.le_refl _,fun _ _ _=>rfl,Nat.le_refl _⟩,fun i b hb=>.inl ⟨i,hb⟩,fun _ h=>h,fun _ h _=>.inl h,fun _ _=>rfl,by show _<=((AT S.ps x 0).2.map Ah.v).length;simp;exact Nat.le_refl _⟩⟩
  rw [AR (by simpa using hk),hslot]
  by_cases hta:k<((AT S.ps x 0).1.map (Sl.v (AT S.ps x 0).2)).length
  ·have e2:(cvs++Array.replicate (fn.ntmps-cvs.size) undef).getD k undef=cvs.getD k undef:=by
    have:k<cvs.size:=by omega
    simp [Array.getElem?_append_left this]
   rw [e2];exact hrel k hta
  ·rw [L4 (Nat.le_of_not_lt hta)]
   exact fun _ h=>h
 refine K4 ⟨hΘ,hΓ,hW,hN⟩ hm hkp b (Pc S.ps x) _ u _ _ w hs hxu fun e s' a' w' _ hs' hz=>?_
 have fin:retW t S.rt (CX S.ps) (AT S.ps x 0).2 s'=some u->a'.defers= []/\∃v,(results fn a'.tmps).run P w'= .ok v w'/\(Ending.returned v= .returned (scV S.rt u.1)/\∃ (D':Nat->Prop) (F':Nat->Nat->Prop),Bq ((Bn (AT S.ps x 0).2 (wOf (CX S.ps) u.2)).map Ah.v) w' D' ρ F'/\Fr w w' (fun b=>∃i,F i b)/\(∀i b,F' i b->(∃j,F j b)\/w.heap.size<=b)/\(∀b,D b->D' b)/\(∀b,D' b->D b\/(∃j,F j b)\/w.heap.size<=b)):=by
  intro hz;obtain⟨hd,hdd,D',ρ',F',hcr⟩:=hs';unfold retW at hz;split at hz
  case h_2=>cases hz
  rename_i t' d' v hslot;split at hz
  case isFalse=>cases hz
  rename_i htt;subst htt;split at hz
  case h_2=>cases hz
  rename_i ys hys;split at hz
  case h_2=>cases hz
  rename_i z hz2;cases hz;have hwz:=toW_v _ _ _ hz2;obtain⟨k1,k2,k3⟩:=Wd hys
  have hsv:s'.den.t t= .c (scV S.rt v):=by
   show(s'.t t).v s'.r=_;rw [hslot];exact Yq hsc d' v
  have htn:t<E.h.n:=by
   rcases Nat.lt_or_ge t E.h.n with h|h
   ·exact h
   ·have:=hdd t h;rw [hsv]at this;cases this
  have hval:a'.tmps.getD t undef=scV S.rt v:=by
   have h1:=hcr.tm t (by simpa using htn)
   rw [AR htn,hsv]at h1;exact h1.1
  refine⟨hd,ZX [a'.tmps.getD t undef],I4 (by rw [hrv];simp [rdV]),?_,D',fun i b=>i<(AT S.ps x 0).2.length/\F' i b,⟨fun i hi=>?_,fun i j b hij h1 h2=>hcr.wr.disj i j b hij h1.2 h2.2,fun i b h1=>hcr.wr.dD i b h1.2,hcr.wr.Dlt,fun i b hi h1=>?_⟩,hcr.fr,fun i b h1=>hcr.Fn i b h1.2,hcr.D1,fun b hb=>?_⟩
  ·show Ending.returned (a'.tmps.getD t undef)=_
   rw [hval]
  ·have hnl:(Bn (AT S.ps x 0).2 (wOf (CX S.ps) z)).length=(AT S.ps x 0).2.length:=CH _ _ (by rw [hwz,k2])
   have hi:i<(AT S.ps x 0).2.length:=by rw [List.length_map,hnl]at hi;exact hi
   have h1:=hcr.wr.rel i (by show i<(s'.r.map Ah.v).length;simp;omega)
   have e1:s'.den.σ.getD i .dead=(s'.r.getD i .dead).v:=AP _ _
   have e2:((Bn (AT S.ps x 0).2 (wOf (CX S.ps) z)).map Ah.v).getD i .dead=(s'.r.getD i .dead).v:=by
    rw [AP,B7 _ _ i (by rw [hwz,k2]) hi,hwz]
    exact k3 i hi
   rw [e1,hcr.rt i hi]at h1;rw [e2];exact Rel.fp_congr (fun b=>⟨fun h=>⟨hi,h⟩,fun h=>h.2⟩) h1
  ·have hnl:(Bn (AT S.ps x 0).2 (wOf (CX S.ps) z)).length=(AT S.ps x 0).2.length:=CH _ _ (by rw [hwz,k2])
   rw [List.length_map,hnl]at hi;have:=h1.1;omega
  ·rcases Nat.lt_or_ge b w.heap.size with h|h
   ·exact(hcr.D2 b hb h).elim .inl fun h=>.inr (.inl h)
   ·exact .inr (.inr h)
 cases e with
 |normal=>exact fin hz
 |ret=>exact fin hz
 |exit id=>cases hz
 |goto l=>cases hz
 |panic ch=>cases hz
 |outgrown=>cases hz
theorem Ae{P:Program}: ∀e∈([]:List EnW),e.OK P:=fun _ h=>by cases h
theorem BT{P:Program}{e:EnW}{l:List EnW}(h1:Ad P e.f=true)(h2:FTW P e.f e.S e.g)(hl: ∀e∈l,e.OK P): ∀x∈e::l,x.OK P:=by
 intro x hx;rcases List.mem_cons.1 hx with rfl|hx
 ·exact⟨h1,h2⟩
 ·exact hl x hx
end Go.Ve

