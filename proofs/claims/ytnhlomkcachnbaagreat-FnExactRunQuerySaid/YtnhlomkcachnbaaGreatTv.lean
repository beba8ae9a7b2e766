/- The typed machine: what a function computes that writes its owned arguments; its contract. -/
import Derived.Test.YtnhlomkcachnbaaGreatTo
namespace Go.Ve
def Px(ps:List WP)(x:(PTW ps).T):St:=⟨fun i=>(AR ps x 0).1.getD i (.one .dead),(AR ps x 0).2⟩
def OW:List Ac->List Ac->Option (List (Σ t:Ty,t.T))
 | [],_=>some []
 | .arr _ u d _::r0,.arr _ u' d' xs::r=>if u'=u then(bif Nat.beq d' d then(match OW r0 r with
  |some l=>some (⟨.sl u',xs⟩::l)
  |none=>none)else none)else none
 |_::_,_=>none
def WO(t:Ty)(y:Σ t:Ty,t.T):Option t.T:=if h:y.1=t then some (h▸y.2)else none
def toW:(tys:List Ty)->List (Σ t:Ty,t.T)->Option (wty tys).T
 | [],[]=>some ()
 | [t],[y]=>WO t y
 |t::u::l,y::ys=>match WO t y with
  |some x=>match toW (u::l) ys with
   |some z=>some (x,z)
   |none=>none
  |none=>none
 |_,_=>none
def retW(t:Nat)(rt:Ty)(tys:List Ty)(r0:List Ac)(s:St):Option (rt.T×(wty tys).T):=match s.t t with
 | .one (.c t' _ v)=>if h:t'=rt then(match OW r0 s.r with
  |some ys=>match toW tys ys with
   |some z=>some (h▸v,z)
   |none=>none
  |none=>none)else none
 |_=>none
def retWK(t:Nat)(rt:Ty)(tys:List Ty)(r0:List Ac):Exit->St->Option (rt.T×(wty tys).T)
 | .normal,s=>retW t rt tys r0 s
 | .ret,s=>retW t rt tys r0 s
 |_,_=>none
def tyR:Ac->Ty
 | .arr _ u _ _=>.sl u
 |_=>.unit
def Wn:Ac->Bool
 | .arr _ _ _ _=>true
 |_=>false
def Jb:List Ac->List Ty->Bool
 | [],[]=>true
 |r::rs,t::ts=>decide (tyR r=t)&&Wn r&&Jb rs ts
 |_,_=>false
noncomputable def YM(E:AW)(fn:Func)(S:Xp)(x:(PTW S.ps).T):Option (S.rt.T×(wty (C0 S.ps)).T):=match fn.body,fn.results.toList with
 |some b,[.tmp t]=>bif S.rt.sc&&Jb (AR S.ps x 0).2 (C0 S.ps)&&Nat.ble (AR S.ps x 0).2.length E.h.keep then
   Xy E b (Px S.ps x) (retWK t S.rt (C0 S.ps) (AR S.ps x 0).2)else none
 |_,_=>none
theorem WN{t:Ty}{y:Σ t:Ty,t.T}{x:t.T}(h:WO t y=some x):(⟨t,x⟩:Σ t:Ty,t.T)=y:=by
 unfold WO at h;split at h
 case isFalse=>cases h
 rename_i ht;obtain⟨t',z⟩:=y;simp only at ht;subst ht;cases h;rfl
theorem toW_v: ∀ (tys:List Ty) (ys:List (Σ t:Ty,t.T)) (z:(wty tys).T),toW tys ys=some z->wOf tys z=ys
 | [],[],z,_=>rfl
 | [t],[y],z,h=>by
  show [(⟨t,z⟩:Σ t:Ty,t.T)]= [y];rw [WN h]
 |t::u::l,y::ys,z,h=>by
  have h:(match WO t y with
   |some x=>match toW (u::l) ys with
    |some z=>some (x,z)
    |none=>none
   |none=>none:Option (wty (t::u::l)).T)=some z:=h
  split at h
  case h_2=>cases h
  rename_i x hx;split at h
  case h_2=>cases h
  rename_i z' hz;cases h;show(⟨t,x⟩:Σ t:Ty,t.T)::wOf (u::l) z'=_;rw [WN hx,toW_v (u::l) ys z' hz]
 | [],_::_,_,h=>by cases h
 | [_],[],_,h=>by cases h
 | [_],_::_::_,_,h=>by cases h
 |_::_::_,[],_,h=>by cases h
theorem UV: ∀ (tys:List Ty) (z:(wty tys).T),(wOf tys z).length=tys.length
 | [],_=>rfl
 | [_],_=>rfl
 |t::u::l,z=>by show(wOf (u::l) z.2).length+1=_;rw [UV];rfl
theorem YJ: ∀ (tys:List Ty) (z:(wty tys).T),(wOf tys z).map (·.1)=tys
 | [],_=>rfl
 | [_],_=>rfl
 |t::u::l,z=>by show t::(wOf (u::l) z.2).map (·.1)=_;rw [YJ]
theorem Km: ∀ {rs:List Ac} {tys:List Ty},Jb rs tys=true->rs.map tyR=tys/\∀r∈rs,Wn r=true
 | [],[],_=>⟨rfl,fun _ h=>by cases h⟩
 |r::rs,t::ts,h=>by
  simp only [Jb,bAE,decide_eq_true_eq]at h;obtain⟨h1,h2⟩:=Km h.2;refine⟨by simp [h1,h.1.1],fun q hq=>?_⟩
  rcases List.mem_cons.1 hq with rfl|hq
  ·exact h.1.2
  ·exact h2 q hq
 | [],_::_,h=>by cases h
 |_::_,[],h=>by cases h
theorem Ug{r:Ac}{y:Σ t:Ty,t.T}(h:y.1=tyR r)(ha:Wn r=true):Cs r y≠.dead:=by
 cases r with
 |dead=>cases ha
 |opt=>cases ha
 |obj ro l=>cases ha
 |arr ro u d xs=>
  obtain⟨t,z⟩:=y;have h:t= .sl u:=h;subst h;simp [Cs]
theorem Wq: ∀ {r0 r:List Ac} {ys:List (Σ t:Ty,t.T)},OW r0 r=some ys->r0.length<=r.length/\ys.length=r0.length/\∀k,k<r0.length->(Cs (r0.getD k .dead) (ys.getD k ⟨.unit,()⟩)).v=(r.getD k .dead).v
 | [],r,ys,h=>by cases h;exact⟨Nat.zero_le _,rfl,fun k hk=>by simp at hk⟩
 | .arr ro u d xs::r0,.arr ro' u' d' xs'::r,ys,h=>by
  unfold OW at h;split at h
  case isFalse=>cases h
  rename_i hu;subst hu;cases hd:Nat.beq d' d with
  |false=>rw [hd]at h;cases h
  |true=>
   rw [hd]at h;simp only [cond_true]at h;split at h
   case h_2=>cases h
   rename_i l hl;cases h;obtain⟨h1,h2,h3⟩:=Wq hl;refine⟨by simpa using h1,by simp [h2],fun k hk=>?_⟩
   cases k with
   |zero=>
    show(Cs (.arr ro u' d xs) ⟨.sl u',xs'⟩).v=(Ac.arr ro' u' d' xs').v;rw [bqE hd];simp [Cs,Ac.v]
   |succ k=>simpa using h3 k (by simpa using hk)
 | .arr _ _ _ _::_,[],_,h=>by cases h
 | .arr _ _ _ _::_,.dead::_,_,h=>by cases h
 | .arr _ _ _ _::_,.obj _ _::_,_,h=>by cases h
 | .arr _ _ _ _::_,.opt _ _ _ _::_,_,h=>by cases h
 | .opt _ _ _ _::_,_,_,h=>by simp [OW]at h
 | .dead::_,_,_,h=>by simp [OW]at h
 | .obj _ _::_,_,_,h=>by simp [OW]at h
theorem IR: ∀ (ps:List WP) (x:(PTW ps).T) (m:Nat),(AR ps x m).1.length=ps.length
 | [],_,_=>rfl
 | [_],_,_=>rfl
 |p::q::l,x,m=>by show(AR (q::l) x.2 _).1.length+1=_;rw [IR];rfl
theorem Ld{P:Program}{E:AW}{f:FuncId}{fn:Func}{S:Xp}(hΘ:Tab.OK P E.Θ)(hΓ:Ka P E.Γ)(hW: ∀e∈E.W,e.OK P)(hN: ∀e∈E.N,e.OK P)(hm:P.follows .mixedOrders=true)(hf:P.funcs[f]? =some fn)(hn:max S.ps.length fn.ntmps=E.h.n)
  {g:(PTW S.ps).T->Option (S.rt.T×(wty (C0 S.ps)).T)} (hg:YM E fn S=g) (hU: ∀e∈E.U,e.OK P:=by exact JF):FTW P f S g:=by
 subst hg;intro x u hxu;unfold YM at hxu;split at hxu
 case h_2=>cases hxu
 rename_i b t hb hrv;cases hc:(S.rt.sc&&Jb (AR S.ps x 0).2 (C0 S.ps)&&Nat.ble (AR S.ps x 0).2.length E.h.keep)with
 |false=>rw [hc]at hxu;cases hxu
 |true=>
 rw [hc]at hxu;simp only [cond_true]at hxu;simp only [bAE]at hc;obtain⟨⟨hsc,hst⟩,hkp⟩:=hc;have hkp:=blE hkp;obtain⟨ht1,ht2⟩:=Km hst;have hlen:(wOf (C0 S.ps) u.2).length=(AR S.ps x 0).2.length:=by rw [UV,<-ht1];simp
 refine⟨hsc,hlen,fun k hk=>?_,?_⟩
 ·rw [B6 _ _ k hlen.symm hk]
  have h1:((wOf (C0 S.ps) u.2).getD k ⟨.unit,()⟩).1=tyR ((AR S.ps x 0).2.getD k .dead):=by
   have e:=(YJ (C0 S.ps) u.2).trans ht1.symm;have e2:=congrArg (·[k]?) e
   have hy:k<(wOf (C0 S.ps) u.2).length:=by omega
   simp only [List.getElem?_map,gEE hk,gEE hy,Option.map_some,Option.some.injEq]at e2;simp only [gDE,gEE hk,gEE hy,Option.getD_some];exact e2
  exact Ug h1 (ht2 _ (by simp [hk]))
 intro w D ρ F cvs hk hkF wr hsz hrel
 let C:Ctx:=⟨w,fun b=>∃i,F i b,D,(AR S.ps x 0).2.length,ρ,hk,fun p hp ⟨i,hF⟩=>hkF p hp i hF⟩
 have hal:((AR S.ps x 0).1.map (Sl.v (AR S.ps x 0).2)).length=S.ps.length:=by rw [List.length_map,IR]
 refine calls_of_wp hf hb ?_
 have hs:AV C E.h.n (Px S.ps x).den {tmps:=cvs++Array.replicate (fn.ntmps-cvs.size) undef,defers:=[]} w:=by
  have hslot: ∀i,(Px S.ps x).den.t i=((AR S.ps x 0).1.map (Sl.v (AR S.ps x 0).2)).getD i .dead:=fun i=>(Ax (f:=Sl.v (AR S.ps x 0).2) (a:=.one .dead) rfl _ _).symm
  refine⟨rfl,fun y hy=>by rw [hslot];exact Id (by rw [hal];omega),D,ρ,F,⟨wr,by simp [hsz,IR];omega,fun k hk=>?_,⟨rfl,rfl,rfl,Nat.le_refl _,fun _ _ _=>rfl,Nat.le_refl _⟩,fun i b hb=>.inl ⟨i,hb⟩,fun _ h=>h,fun _ h _=>.inl h,fun _ _=>rfl,by show _<=((AR S.ps x 0).2.map Ac.v).length;simp;exact Nat.le_refl _⟩⟩
  rw [AK (by simpa using hk),hslot]
  by_cases hta:k<((AR S.ps x 0).1.map (Sl.v (AR S.ps x 0).2)).length
  ·have e2:(cvs++Array.replicate (fn.ntmps-cvs.size) undef).getD k undef=cvs.getD k undef:=by
    have:k<cvs.size:=by omega
    simp [Array.getElem?_append_left this]
   rw [e2];exact hrel k hta
  ·rw [Id (Nat.le_of_not_lt hta)]
   exact fun _ h=>h
 refine Li ⟨hΘ,hΓ,hW,hN,hU⟩ hm hkp b (Px S.ps x) _ u _ _ w hs hxu fun e s' a' w' _ hs' hz=>?_
 have fin:retW t S.rt (C0 S.ps) (AR S.ps x 0).2 s'=some u->a'.defers= []/\∃v,(results fn a'.tmps).run P w'= .ok v w'/\(Ending.returned v= .returned (scV S.rt u.1)/\∃ (D':Nat->Prop) (F':Nat->Nat->Prop),Bl ((Bk (AR S.ps x 0).2 (wOf (C0 S.ps) u.2)).map Ac.v) w' D' ρ F'/\Fr w w' (fun b=>∃i,F i b)/\(∀i b,F' i b->(∃j,F j b)\/w.heap.size<=b)/\(∀b,D b->D' b)/\(∀b,D' b->D b\/(∃j,F j b)\/w.heap.size<=b)):=by
  intro hz;obtain⟨hd,hdd,D',ρ',F',hcr⟩:=hs';unfold retW at hz;split at hz
  case h_2=>cases hz
  rename_i t' d' v hslot;split at hz
  case isFalse=>cases hz
  rename_i htt;subst htt;split at hz
  case h_2=>cases hz
  rename_i ys hys;split at hz
  case h_2=>cases hz
  rename_i z hz2;cases hz;have hwz:=toW_v _ _ _ hz2;obtain⟨k1,k2,k3⟩:=Wq hys
  have hsv:s'.den.t t= .c (scV S.rt v):=by
   show(s'.t t).v s'.r=_;rw [hslot];exact YA hsc d' v
  have htn:t<E.h.n:=by
   rcases Nat.lt_or_ge t E.h.n with h|h
   ·exact h
   ·have:=hdd t h;rw [hsv]at this;cases this
  have hval:a'.tmps.getD t undef=scV S.rt v:=by
   have h1:=hcr.tm t (by simpa using htn)
   rw [AK htn,hsv]at h1;exact h1.1
  refine⟨hd,Z5 [a'.tmps.getD t undef],D4 (by rw [hrv];simp [rdV]),?_,D',fun i b=>i<(AR S.ps x 0).2.length/\F' i b,⟨fun i hi=>?_,fun i j b hij h1 h2=>hcr.wr.disj i j b hij h1.2 h2.2,fun i b h1=>hcr.wr.dD i b h1.2,hcr.wr.Dlt,fun i b hi h1=>?_⟩,hcr.fr,fun i b h1=>hcr.Fn i b h1.2,hcr.D1,fun b hb=>?_⟩
  ·show Ending.returned (a'.tmps.getD t undef)=_
   rw [hval]
  ·have hnl:(Bk (AR S.ps x 0).2 (wOf (C0 S.ps) z)).length=(AR S.ps x 0).2.length:=CI _ _ (by rw [hwz,k2])
   have hi:i<(AR S.ps x 0).2.length:=by rw [List.length_map,hnl]at hi;exact hi
   have h1:=hcr.wr.rel i (by show i<(s'.r.map Ac.v).length;simp;omega)
   have e1:s'.den.σ.getD i .dead=(s'.r.getD i .dead).v:=AD _ _
   have e2:((Bk (AR S.ps x 0).2 (wOf (C0 S.ps) z)).map Ac.v).getD i .dead=(s'.r.getD i .dead).v:=by
    rw [AD,B6 _ _ i (by rw [hwz,k2]) hi,hwz]
    exact k3 i hi
   rw [e1,hcr.rt i hi]at h1;rw [e2];exact Rel.fp_congr (fun b=>⟨fun h=>⟨hi,h⟩,fun h=>h.2⟩) h1
  ·have hnl:(Bk (AR S.ps x 0).2 (wOf (C0 S.ps) z)).length=(AR S.ps x 0).2.length:=CI _ _ (by rw [hwz,k2])
   rw [List.length_map,hnl]at hi;have:=h1.1;omega
  ·rcases Nat.lt_or_ge b w.heap.size with h|h
   ·exact(hcr.D2 b hb h).elim .inl fun h=>.inr (.inl h)
   ·exact .inr (.inr h)
 cases e with
 |normal=>exact fin hz
 |ret=>exact fin hz
 |exit id=>cases hz
 |goto l=>cases hz
 |panic ch=>cases hz
 |outgrown=>cases hz
theorem Ah{P:Program}: ∀e∈([]:List EnW),e.OK P:=fun _ h=>by cases h
theorem BN{P:Program}{e:EnW}{l:List EnW}(h1:Ab P e.f=true)(h2:FTW P e.f e.S e.g)(hl: ∀e∈l,e.OK P): ∀x∈e::l,x.OK P:=by
 intro x hx;rcases List.mem_cons.1 hx with rfl|hx
 ·exact⟨h1,h2⟩
 ·exact hl x hx
end Go.Ve


namespace Go.Ve
theorem M6{P:Program}{C:Ctx}{N:Nat}{S:Ms}{a:Act}{w:World}{D:Nat->Prop}{ρ:Nat->Value}{F:Nat->Nat->Prop}{fn:Func}{r:V}(hcr:CR C S.σ ((List.range N).map S.t) a.tmps w D ρ F)(hdd: ∀x,N<=x->S.t x= .dead)(hres:QX P S fn.results.toList [] (W8 S.σ r)):
  ∃v fp,(results fn a.tmps).run P w= .ok v w/\Rel D w noR r v fp/\∀b,fp b->∃i,F i b:=by
 obtain⟨vl,cvl,hrun,⟨hpl,heq⟩,hlen,hcl,hrel⟩:=Kn hcr hdd fn.results.toList [] [] _ rfl (fun j hj=>by simp at hj) hres
 simp only [List.nil_append]at hpl heq
 have hflat:Pe D w (Ak S.σ ρ w) (vl.flatMap cellsV) (cvl.flatMap (·.cells.toList)).toArray:=by
  clear heq hrun hlen hres
  induction vl generalizing cvl with
  |nil=>cases cvl with
   |nil=>exact⟨rfl,fun j hj=>by simp at hj⟩
   |cons=>simp at hcl
  |cons v vl ih=>
   cases cvl with
   |nil=>simp at hcl
   |cons cv cvl=>
    simp only [List.all_cons,bAE]at hpl;obtain⟨⟨h1,h2⟩,_⟩:=B1 (fun v cv h=>Ak.one h) hpl.1 (by simpa using hrel 0 (by simp))
    obtain⟨h3,h4⟩:=ih cvl hpl.2 (by simpa using hcl) (fun j hj=>by simpa using hrel (j+1) (by simpa using hj))
    refine⟨by simp [h1]at h3⊢;omega,fun j hj=>?_⟩
    simp only [List.flatMap_cons];by_cases hj1:j<(cellsV v).length
    ·rw [AI hj1]
     have e2:(cv.cells.toList++cvl.flatMap (·.cells.toList)).toArray.getD j undef=cv.cells.getD j undef:=by
      simp [gAL,h1,hj1]
     rw [e2];exact h2 j hj1
    ·have hj2:j-(cellsV v).length<(vl.flatMap cellsV).length:=by simp at hj;simp;omega
     have:=h4 (j-(cellsV v).length) hj2
     have e1:(cellsV v++vl.flatMap cellsV).getD j .dead=(vl.flatMap cellsV).getD (j-(cellsV v).length) .dead:=by
      simp only [gDE];rw [gAR (by omega)]
     have e2:(cv.cells.toList++cvl.flatMap (·.cells.toList)).toArray.getD j undef=(cvl.flatMap (·.cells.toList)).toArray.getD (j-(cellsV v).length) undef:=by
      simp only [Array.getD_eq_getD_getElem?,List.getElem?_toArray];rw [gAR (by simp [h1];omega)]
      simp [h1]
     rw [e1,e2];exact this
 have hcr2:CR C S.σ (vl.flatMap cellsV) (cvl.flatMap (·.cells.toList)).toArray w D ρ F:=⟨hcr.wr,hflat.1,hflat.2,hcr.fr,hcr.Fn,hcr.D1,hcr.D2,hcr.rt,hcr.ml⟩
 obtain⟨fps,hf1,hf2,hf3⟩:=MF (vl.flatMap cellsV).length _ _ _ _ _ hcr2 (Nat.le_refl _);obtain⟨hrl,G,hg1,hg2,hg3⟩:=Hp (fun v cv h=>Ak.one h) vl cvl (tkL (vl.flatMap cellsV).length (vl.flatMap cellsV) S.σ) fps hcl hpl hrel hf1 hf2 (Ke _ _ _ (Nat.le_refl _))
 have hpack:=Nx (A8 vl (tkL (vl.flatMap cellsV).length (vl.flatMap cellsV) S.σ)) cvl G (by rw [hrl,hcl]) (fun j hj=>hg1 j (by rw [hrl]at hj;exact hj)) hg2
 refine⟨_,_,D4 hrun,Rel.sub heq hpack,fun b hb=>?_⟩
 obtain⟨j,_,hb⟩:=hb;obtain⟨i,hi⟩:=hg3 j b hb;exact hf3 i b hi
def insS(k:Nat)(l:List Sl):List Sl:=l.take k++ .one .dead::l.drop k
theorem insS_v{k:Nat}{l:List Sl}{r:List Ac}:(insS k l).map (Sl.v r)=Up k (l.map (Sl.v r)):=by
 unfold insS Up;rw [List.map_append,List.map_cons,List.map_take,List.map_drop];rfl
def HX(t:Ty)(d:Nat)(x:t.T):Ac:=BR (.one (.c t d x))
def MW(S:Pd)(z:(PT S.ps).T)(x:S.t.T):St:=⟨fun i=>bif Nat.beq i S.k then .one (Na 0 (HX S.t S.d x))else(insS S.k (Xm S.ps z)).getD i (.one .dead),[HX S.t S.d x]⟩
def ZW(d:Nat):(t:Ty)->Ac->Option t.T
 | .ptr t,.obj _ l=>OG t (d-1) l
 | .sl t,.arr _ t' d' xs=>if h:t'=t then(bif Nat.beq d' (d-1)then some (h▸xs)else none)else none
 |_,_=>none
def retU(Θ:Tab)(rv:List ResultVar)(S:Pd)(s:St):Option ((RT S.rs).T×S.t.T):=bif S.eat then(match AaM true Θ rv S.rs s with
 |some z=>some (z,S.t.dflt)
 |none=>none)else match ZW S.d S.t (s.r.getD 0 .dead)with
 |some x=>match AaM true Θ rv S.rs (IA 0 s)with
  |some z=>some (z,x)
  |none=>none
 |none=>none
def retKU(Θ:Tab)(rv:List ResultVar)(S:Pd):Exit->St->Option ((RT S.rs).T×S.t.T)
 | .normal,s=>retU Θ rv S s
 | .ret,s=>retU Θ rv S s
 |_,_=>none
noncomputable def tfnU(E:AW)(fn:Func)(S:Pd)(z:(PT S.ps).T)(x:S.t.T):Option ((RT S.rs).T×S.t.T):=match fn.body with
 |some b=>bif S.ok&&Dj (.one (.c S.t S.d x))&&Nat.ble 1 E.h.keep then Xy E b (MW S z x) (retKU E.Θ fn.results.toList S)else none
 |none=>none
theorem ZV{d:Nat}{t:Ty}{r:Ac}{x:t.T}(hd:0<d)(h:ZW d t r=some x):Sub r.v (cV t d x)/\r≠.dead:=by
 unfold ZW at h;split at h
 ·rename_i t ro l
  have h1:=(Jl h []).1;have e:=(Jl h []).2;rw [e]at h1;refine⟨?_,fun h=>by cases h⟩
  show Sub (Be true (l.map Cl.v0)) (Be (decide (0<d)) (tyV t (d-1) x));rw [dT hd];exact CJ.obj h1
 ·rename_i t ro t' d' xs
  split at h
  case isFalse=>cases h
  rename_i he;subst he;cases hb:Nat.beq d' (d-1)with
  |false=>rw [hb]at h;cases h
  |true=>
   rw [hb]at h;cases h;rw [bqE hb];refine⟨?_,fun h=>by cases h⟩
   show Sub (arr true t'.w (tyV t' (d-1)) t'.dflt xs) (arr (decide (0<d)) t'.w (tyV t' (d-1)) t'.dflt xs);rw [dT hd];exact Sub.refl _
 ·cases h
theorem FTU_fn{P:Program}{E:AW}{f:FuncId}{fn:Func}{S:Pd}(hΘ:Tab.OK P E.Θ)(hΓ:Ka P E.Γ)(hW: ∀e∈E.W,e.OK P)(hN: ∀e∈E.N,e.OK P)(hm:P.follows .mixedOrders=true)(hf:P.funcs[f]? =some fn)(hn:max (S.ps.length+1) fn.ntmps=E.h.n)
  {g:(PT S.ps).T->S.t.T->Option ((RT S.rs).T×S.t.T)} (hg:tfnU E fn S=g) (hU: ∀e∈E.U,e.OK P:=by exact JF):FTU P f S g:=by
 subst hg;intro z x u hxu;unfold tfnU at hxu;split at hxu
 case h_2=>cases hxu
 rename_i body hb;cases hc:(S.ok&&Dj (.one (.c S.t S.d x))&&Nat.ble 1 E.h.keep)with
 |false=>rw [hc]at hxu;cases hxu
 |true=>
 rw [hc]at hxu;simp only [cond_true]at hxu;simp only [bAE]at hc;obtain⟨⟨hok,hroot⟩,hkp⟩:=hc;have hkp:=blE hkp;unfold Pd.ok at hok;simp only [bAE]at hok;obtain⟨⟨hd0,hk0⟩,_⟩:=hok;have hd0:0<S.d:=blE hd0;have hk0:S.k<=S.ps.length:=blE hk0;obtain⟨_,r2,⟨s0,sz0,n0,f0,r3,r4⟩,r5⟩:=B3 hroot;have hcv:cV S.t S.d x=(HX S.t S.d x).v:=r2 [];intro w D H cvs hk htab hD hHD hsz hrel0 hargs;rw [IK,DI]at hsz hargs
 let C:Ctx:=⟨w,H,D,1,fun _=>cvs.getD S.k undef,hk,fun p hp=>htab p hp⟩
 refine calls_of_wp hf hb ?_;have hrel:Rel D w noR (HX S.t S.d x).v (cvs.getD S.k undef) H:=by rw [<-hcv];exact hrel0
 have hs:AV C E.h.n (MW S z x).den {tmps:=cvs++Array.replicate (fn.ntmps-cvs.size) undef,defers:=[]} w:=by
  have hins: ∀i,((insS S.k (Xm S.ps z)).getD i (.one .dead)).v [HX S.t S.d x]=(Up S.k (Ci S.ps z)).getD i .dead:=by
   intro i
   have e1:(Xm S.ps z).map (Sl.v [HX S.t S.d x])=Ci S.ps z:=by
    rw [<-WX];refine List.map_congr_left fun y hy=>?_
    have: ∀ (l:List (Bool×Ty)) (z:(PT l).T),∀y∈Xm l z,y.stay=true:=by
     have one: ∀ (b:Bool) (t:Ty) (x:t.T),(pS b t x).stay=true:=by
      intro b t x
      have cs: ∀ (t:Ty) (x:t.T),(As t 0 x).all Cl.stay=true:=by
       intro t
       induction t with
       |pair a b iha ihb=>intro x;show((As a 0 x.1++As b 0 x.2).all Cl.stay)=true;rw [List.all_append,iha,ihb];rfl
       |_=>intro x;rfl
      cases b with
      |true=>exact cs t x
      |false=>rfl
     intro l
     induction l with
     |nil=>intro z y hy;cases hy
     |cons p l ih=>
      intro z y hy;cases l with
      |nil=>
       rw [List.mem_singleton.1 hy];exact one _ _ _
      |cons q l=>
       rcases List.mem_cons.1 hy with rfl|hy
       ·exact one _ _ _
       ·exact ih z.2 y hy
    exact Pw (this S.ps z y hy) _ _
   rw [<-e1,<-insS_v,Ax (f:=Sl.v [HX S.t S.d x]) (a:=.one .dead) rfl]
  have hslot: ∀i,(MW S z x).den.t i=if i=S.k then Kr 0 (HX S.t S.d x).v else(Up S.k (Ci S.ps z)).getD i .dead:=by
   intro i;show(bif Nat.beq i S.k then Sl.one (Na 0 (HX S.t S.d x))else(insS S.k (Xm S.ps z)).getD i (.one .dead)).v [HX S.t S.d x]=_;by_cases hi:i=S.k
   ·subst hi
    rw [Nat.beq_refl,if_pos rfl,cond_true];have:=r5 [.dead] 0 (by simp)
    exact this
   ·rw [Bt hi,if_neg hi,cond_false]
    exact hins i
  have hsig:(MW S z x).den.σ= [(HX S.t S.d x).v]:=rfl;refine⟨rfl,fun y hy=>?_,D,fun _=>cvs.getD S.k undef,fun i=>if i=0 then H else noF,⟨⟨fun i hi=>?_,fun i j b hij h1 h2=>?_,fun i b hb=>?_,hD,fun i b hi hb=>?_⟩,by simp [hsz];omega,fun y hy=>?_,⟨rfl,rfl,rfl,Nat.le_refl _,fun _ _ _=>rfl,Nat.le_refl _⟩,fun i b hb=>?_,fun _ h=>h,fun _ h _=>.inl h,fun _ _=>rfl,by rw [hsig];exact Nat.le_refl _⟩⟩
  ·rw [hslot,if_neg (by omega)]
   exact Id (by rw [IK,DI];omega)
  ·have hi:i<1:=hi
   obtain rfl:i=0:=by omega
   exact Rel.fp_congr (fun b=>by rw [if_pos rfl]) hrel
  ·split at h1<;>split at h2
   ·omega
   ·exact h2.elim
   ·exact h1.elim
   ·exact h1.elim
  ·split at hb
   ·exact hHD b hb
   ·exact hb.elim
  ·have hi:1<=i:=hi
   rw [if_neg (by omega)]at hb
   exact hb.elim
  ·rw [AK (by simpa using hy),hslot]
   have hy:y<E.h.n:=by simpa using hy
   by_cases hyk:y=S.k
   ·subst hyk
    rw [if_pos rfl]
    have e2:(cvs++Array.replicate (fn.ntmps-cvs.size) undef).getD S.k undef=cvs.getD S.k undef:=by
     have:S.k<cvs.size:=by omega
     simp [Array.getElem?_append_left this]
    rw [e2];have e3:(HX S.t S.d x).v= .nd s0 true sz0 n0 f0:=r3;rw [e3];refine LH (σ:=[(HX S.t S.d x).v]) (H:=H) (ρ:=fun _=>cvs.getD S.k undef) (by simp) e3 r4 ?_
    rw [<-e3];exact hrel
   ·rw [if_neg hyk]
    by_cases hta:y<S.ps.length+1
    ·have e2:(cvs++Array.replicate (fn.ntmps-cvs.size) undef).getD y undef=cvs.getD y undef:=by
      have:y<cvs.size:=by omega
      simp [Array.getElem?_append_left this]
     rw [e2];exact Rel.noR_mono (hargs y hta hyk)
    ·rw [Id (by rw [IK,DI];omega)]
     exact fun _ h=>h
  ·split at hb
   ·exact .inl hb
   ·exact hb.elim
 refine Li ⟨hΘ,hΓ,hW,hN,hU⟩ hm hkp body (MW S z x) _ u _ _ w hs hxu fun e s' a' w' _ hs' hz=>?_
 have fin:retU E.Θ fn.results.toList S s'=some u->a'.defers= []/\∃v,(results fn a'.tmps).run P w'= .ok v w'/\(∃cv fp D' H',Ending.returned v= .returned cv/\Fr w w' H/\Rel D' w' noR (VC S.rs u.1) cv fp/\Rel D' w' noR (bif S.eat then .dead else cV S.t S.d u.2) (cvs.getD S.k undef) H'/\
   (∀b,fp b->H b\/w.heap.size<=b)/\(∀b,H' b->H b\/w.heap.size<=b)/\(∀b,fp b->¬H' b)/\
   (∀b,D b->D' b)/\(∀b,D' b->D b\/H b\/w.heap.size<=b)/\∀b,D' b->b<w'.heap.size/\¬fp b/\¬H' b):=by
  intro hz;obtain⟨hd,hdd,D',ρ',F',hcr⟩:=hs';have hD2: ∀b,D' b->D b\/H b\/w.heap.size<=b:=fun b hb=>by
   rcases Nat.lt_or_ge b w.heap.size with h|h
   ·exact(hcr.D2 b hb h).elim .inl fun h=>.inr (.inl h)
   ·exact .inr (.inr h)
  unfold retU at hz;cases he:S.eat with
  |true=>
   rw [he]at hz;simp only [cond_true]at hz⊢;split at hz
   case h_2=>cases hz
   rename_i z1 hz1;cases hz;obtain⟨v,fp,k1,k2,k3⟩:=M6 (fn:=fn) hcr hdd (Pz hΘ hz1);rw [D5]at k2;refine⟨hd,v,k1,v,fp,D',noF,rfl,hcr.fr,k2,fun _ h=>h,fun b hb=>?_,fun _ h=>h.elim,fun _ _ h=>h,hcr.D1,hD2,fun b hb=>⟨hcr.wr.Dlt b hb,fun h=>?_,fun h=>h⟩⟩
   ·obtain⟨i,hi⟩:=k3 b hb
    exact hcr.Fn i b hi
   ·obtain⟨i,hi⟩:=k3 b h
    exact hcr.wr.dD i b hi hb
  |false=>
   rw [he]at hz;simp only [cond_false]at hz⊢;split at hz
   case h_2=>cases hz
   rename_i x1 hx1;split at hz
   case h_2=>cases hz
   rename_i z1 hz1;cases hz;obtain⟨g1,g2⟩:=ZV hd0 hx1;have hlen:0<s'.r.length:=by
    rcases Nat.eq_zero_or_pos s'.r.length with e|e
    ·exfalso;apply g2
     rw [gDE,List.getElem?_eq_none (by omega)];rfl
    ·exact e
   have hcr2:=Qd hcr (j:=0) hlen;obtain⟨v,fp,k1,k2,k3⟩:=M6 (fn:=fn) (S:=(IA 0 s').den) hcr2 (CX [0] hdd) (Pz hΘ hz1);rw [D5]at k2;have h1:=hcr.wr.rel 0 (by simpa [St.den]using hlen)
   have e1:s'.den.σ.getD 0 .dead=(s'.r.getD 0 .dead).v:=AD _ _;rw [e1,hcr.rt 0 (Nat.lt_succ_self 0)]at h1;have hne: ∀b,fp b->∃i,i≠0/\F' i b:=by
    intro b hb;obtain⟨i,hi⟩:=k3 b hb;split at hi
    ·exact hi.elim
    ·exact⟨i,by assumption,hi⟩
   refine⟨hd,v,k1,v,fp,D',F' 0,rfl,hcr.fr,k2,Rel.sub g1 h1,fun b hb=>?_,fun b hb=>hcr.Fn 0 b hb,fun b hb hH=>?_,hcr.D1,hD2,fun b hb=>⟨hcr.wr.Dlt b hb,fun h=>?_,fun h=>hcr.wr.dD 0 b h hb⟩⟩
   ·obtain⟨i,_,hi⟩:=hne b hb
    exact hcr.Fn i b hi
   ·obtain⟨i,h0,hi⟩:=hne b hb
    exact hcr.wr.disj i 0 b h0 hi hH
   ·obtain⟨i,_,hi⟩:=hne b h
    exact hcr.wr.dD i b hi hb
 cases e with
 |normal=>exact fin hz
 |ret=>exact fin hz
 |exit id=>cases hz
 |goto l=>cases hz
 |panic ch=>cases hz
 |outgrown=>cases hz
end Go.Ve

