/- The typed machine. -/
import Derived.Test.YteakdlfnmhlifaaTo
open Nat(beq ble le_refl lt_or_ge)
open List(length_map mem_cons range)
open Array(replicate)
set_option linter.all false
namespace Go.Ve
variable{P:Program}
def Ud(ps:List WP)(x:(PTW ps).T):St:=⟨λi=>(AW ps x 0).1.getD i (.one .dead),(AW ps x 0).2⟩
def O9:List Ab->List Ab->Option (List (Σ t:Ty,t.T))
 |[],_=>some []
 |.arr _ u d _::r0,.arr _ u' d' xs::r=>if u'=u then(bif beq d' d then(match O9 r0 r with
  |some l=>some (⟨.sl u',xs⟩::l)
  |none=>none)else none)else none
 |_::_,_=>none
def Y4(t:Ty)(y:Σ t:Ty,t.T):Option t.T:=if h:y.1=t then some (h▸y.2)else none
def toW:(e:List Ty)->List (Σ t:Ty,t.T)->Option (wty e).T
 |[],[]=>some ()
 |[t],[y]=>Y4 t y
 |t::u::l,y::ys=>match Y4 t y with
  |some x=>match toW (u::l) ys with
   |some z=>some (x,z)
   |none=>none
  |none=>none
 |_,_=>none
def retW(t:Nat)(rt:Ty)(e:List Ty)(r0:List Ab)(s:St):Option (rt.T×(wty e).T):=match s.t t with
 |.one (.c t' _ v)=>if h:t'=rt then(match O9 r0 s.r with
  |some ys=>match toW e ys with
   |some z=>some (h▸v,z)
   |none=>none
  |none=>none)else none
 |_=>none
def retWK(t:Nat)(rt:Ty)(e:List Ty)(r0:List Ab):Exit->St->Option (rt.T×(wty e).T)
 |.normal,s=>retW t rt e r0 s
 |.ret,s=>retW t rt e r0 s
 |_,_=>none
def tyR:Ab->Ty
 |.arr _ u _ _=>.sl u
 |_=>.unit
def YF:Ab->Bool
 |.arr _ _ _ _=>true
 |_=>false
def JY:List Ab->List Ty->Bool
 |[],[]=>true
 |r::rs,t::ts=>decide (tyR r=t)&&YF r&&JY rs ts
 |_,_=>false
noncomputable def Ab9(E:I0)(fn:Func)(S:Aa4)(x:(PTW S.ps).T):Option (S.rt.T×(wty (Dp S.ps)).T):=match fn.body,fn.results.toList with
 |some b,[.tmp t]=>bif S.rt.sc&&JY (AW S.ps x 0).2 (Dp S.ps)&&ble (AW S.ps x 0).2.length E.h.keep then
   ZJ E b (Ud S.ps x) (retWK t S.rt (Dp S.ps) (AW S.ps x 0).2)else none
 |_,_=>none
theorem Y3{t:Ty}{y:Σ t:Ty,t.T}{x:t.T}(h:Y4 t y=some x):(⟨t,x⟩:Σ t:Ty,t.T)=y:=by
 unfold Y4 at h
 grind
theorem toW_v:∀(e:List Ty) (ys:List (Σ t:Ty,t.T)) (z:(wty e).T),toW e ys=some z->wOf e z=ys
 |[],[],z,_=>rfl
 |[t],[y],z,h=>by
  show [⟨t,z⟩]=[y];rw[Y3 h]
 |t::u::l,y::ys,z,h=>by
  have h:(match Y4 t y with
   |some x=>match toW (u::l) ys with
    |some z=>some (x,z)
    |none=>none
   |none=>none:Option (wty (t::u::l)).T)=some z:=h
  split at h
  case h_2=>grind
  rename_i x E;split at h
  case h_2=>grind
  rename_i A B;cases h;show⟨t,x⟩::wOf (u::l) A=_;rw[Y3 E,toW_v (u::l) ys A B]
 |[],_::_,_,h=>by cases h
 |[_],[],_,h=>by cases h
 |[_],_::_::_,_,h=>by cases h
 |_::_::_,[],_,h=>by cases h
def WQ:∀(e:List Ty) (z:(wty e).T),(wOf e z).length=e.length
 |[],_=>rfl
 |[_],_=>rfl
 |t::u::l,z=>by show(wOf (u::l) z.2).length+1=_;rw[WQ];rfl
def Abb:∀(e:List Ty) (z:(wty e).T),(wOf e z).map (·.1)=e
 |[],_=>rfl
 |[_],_=>rfl
 |t::u::l,z=>by show t::(wOf (u::l) z.2).map (·.1)=_;rw[Abb]
theorem Lv:∀{rs:List Ab}{e:List Ty},JY rs e=true->rs.map tyR=e/\∀r∈rs,YF r=true
 |[],[],_=>⟨rfl,λ_ h=>by grind⟩
 |r::rs,t::ts,h=>by
  simp[JY,decide_eq_true_eq]at h;obtain⟨A,u⟩:=Lv h.2
  grind
 |[],_::_,h=>by cases h
 |_::_,[],h=>by cases h
def V4{r:Ab}{y:Σ t:Ty,t.T}(h:y.1=tyR r)(e:YF r=true):Dd r y≠.dead:=by
 cases r with
 |dead=>trivial
 |opt=>trivial
 |mp=>trivial
 |obj ro l=>trivial
 |arr ro u d xs=>
  obtain⟨t,z⟩:=y;have h:t=.sl u:=h;subst h;simp[Dd]
def YI:∀{r0 r:List Ab}{ys:List (Σ t:Ty,t.T)},O9 r0 r=some ys->r0.length<=r.length/\ys.length=r0.length/\∀k,k<r0.length->(Dd (r0.getD k .dead) (ys.getD k ⟨.unit,()⟩)).v=(r.getD k .dead).v
 |[],r,ys,h=>by cases h;simp
 |.arr ro u d xs::r0,.arr ro' u' d' xs'::r,ys,h=>by
  unfold O9 at h;split at h
  case isFalse=>cases h
  rename_i e;subst e;cases hd:beq d' d with
  |false=>rw[hd]at h;cases h
  |true=>
   rw[hd]at h;split at h
   case h_2=>cases h
   rename_i l A;cases h;obtain⟨H,F,E⟩:=YI A;refine⟨by simpa using H,by simp[F],λk B=>?_⟩
   cases k with
   |zero=>
    rw[bqE hd];simp[Dd,Ab.v]
   |succ k=>simpa using E k (by simpa using B)
 |.arr _ _ _ _::_,[],_,h=>by cases h
 |.arr _ _ _ _::_,.dead::_,_,h=>by cases h
 |.arr _ _ _ _::_,.obj _ _::_,_,h=>by cases h
 |.arr _ _ _ _::_,.opt _ _ _ _::_,_,h=>by cases h
 |.arr _ _ _ _::_,.mp _ _ _ _::_,_,h=>by cases h
 |.opt _ _ _ _::_,_,_,h=>by simp[O9]at h
 |.mp _ _ _ _::_,_,_,h=>by simp[O9]at h
 |.dead::_,_,_,h=>by simp[O9]at h
 |.obj _ _::_,_,_,h=>by simp[O9]at h
def JJ:∀(ps:List WP) (x:(PTW ps).T) (m:Nat),(AW ps x m).1.length=ps.length
 |[],_,_=>rfl
 |[_],_,_=>rfl
 |p::q::l,x,m=>by show(AW (q::l) x.2 _).1.length+1=_;rw[JJ];rfl
def PA{E:I0}{f:FuncId}{fn:Func}{S:Aa4}(hΘ:Tab.OK P E.Θ)(hΓ:Io P E.Γ)(hW:∀e∈E.W,e.OK P)(hN:∀e∈E.N,e.OK P)(hm:P.follows .mixedOrders=true)(hf:P.funcs[f]? =some fn)(hn:max S.ps.length fn.ntmps=E.h.n)
  {g:(PTW S.ps).T->Option (S.rt.T×(wty (Dp S.ps)).T)} (hg:Ab9 E fn S=g) (hU:∀e∈E.U,e.OK P:=by exact HE) (hM:∀e∈E.M,e.OK P:=by exact KC):FTW P f S g:=by
 subst hg;intro x u J;unfold Ab9 at J;split at J
 case h_2=>cases J
 rename_i b t hb hrv;cases hc:(S.rt.sc&&JY (AW S.ps x 0).2 (Dp S.ps)&&ble (AW S.ps x 0).2.length E.h.keep)with
 |false=>rw[hc]at J;cases J
 |true=>
 rw[hc]at J;simp only[cond_true]at J;simp only[bAE]at hc;obtain⟨⟨hsc,hst⟩,hkp⟩:=hc;have hkp:=blE hkp;obtain⟨ht1,ht2⟩:=Lv hst;have Z:(wOf (Dp S.ps) u.2).length=(AW S.ps x 0).2.length:=by rw[WQ,<-ht1];simp
 refine⟨hsc,Z,λk hk=>?_,?_⟩
 .rw[Cp _ _ k Z.symm hk]
  have O:((wOf (Dp S.ps) u.2).getD k ⟨.unit,()⟩).1=tyR ((AW S.ps x 0).2.getD k .dead):=by
   have e:=(Abb (Dp S.ps) u.2).trans ht1.symm;have e2:=congrArg (·[k]?) e
   have hy:k<(wOf (Dp S.ps) u.2).length:=by omega
   simp only[List.getElem?_map,gEE hk,gEE hy,Option.map_some,Option.some.injEq]at e2;simp only[gDE,gEE hk,gEE hy,Option.getD_some];exact e2
  exact V4 O (ht2 _ (by simp[hk]))
 intro w D ρ F cvs hk hkF wr hsz hrel
 let C:Ctx:=⟨w,λb=>∃i,F i b,D,(AW S.ps x 0).2.length,ρ,hk,λp hp ⟨i,hF⟩=>hkF p hp i hF⟩
 have hal:((AW S.ps x 0).1.map (Sl.v (AW S.ps x 0).2)).length=S.ps.length:=by rw[length_map,JJ]
 refine calls_of_wp hf hb ?_
 have hs:AN C E.h.n (Ud S.ps x).den {tmps:=cvs++replicate (fn.ntmps-cvs.size) undef,defers:=[]} w:=by
  have B:∀i,(Ud S.ps x).den.t i=((AW S.ps x 0).1.map (Sl.v (AW S.ps x 0).2)).getD i .dead:=λi=>(Az (f:=Sl.v (AW S.ps x 0).2) (a:=.one .dead) rfl _ _).symm
  refine⟨rfl,λy hy=>by rw[B];exact IM (by rw[hal];omega),D,ρ,F,⟨wr,by simp[hsz,JJ];omega,λk hk=>?_,⟨rfl,rfl,rfl,le_refl _,λ_ _ _=>rfl,le_refl _⟩,λi b hb=>.inl ⟨i,hb⟩,λ_ h=>h,λ_ h _=>.inl h,λ_ _=>rfl,by show _<=((AW S.ps x 0).2.map Ab.v).length;simp;exact le_refl _⟩⟩
  rw[AP (by simpa using hk),B]
  by_cases hta:k<((AW S.ps x 0).1.map (Sl.v (AW S.ps x 0).2)).length
  .have e2:(cvs++replicate (fn.ntmps-cvs.size) undef).getD k undef=cvs.getD k undef:=by
    have:k<cvs.size:=by omega
    simp[Array.getElem?_append_left this]
   rw[e2];exact hrel k hta
  .rw[IM (Nat.le_of_not_lt hta)]
   exact λ_ h=>h
 refine Mw ⟨hΘ,hΓ,hW,hN,hU,hM⟩ hm hkp b (Ud S.ps x) _ u _ _ w hs J λe s' a' w' _ hs' H=>?_
 have fin:retW t S.rt (Dp S.ps) (AW S.ps x 0).2 s'=some u->a'.defers=[]/\∃v,(results fn a'.tmps).run P w'=.ok v w'/\(Ending.returned v=.returned (scV S.rt u.1)/\∃(D':Nat->Prop) (F':Nat->Nat->Prop),Bg ((Br (AW S.ps x 0).2 (wOf (Dp S.ps) u.2)).map Ab.v) w' D' ρ F'/\Fr w w' (λb=>∃i,F i b)/\(∀i b,F' i b->(∃j,F j b)\/w.heap.size<=b)/\(∀b,D b->D' b)/\(∀b,D' b->D b\/(∃j,F j b)\/w.heap.size<=b)):=by
  intro H;obtain⟨hd,hdd,D',ρ',F',A⟩:=hs';unfold retW at H;split at H
  case h_2=>cases H
  rename_i t' d' v B;split at H
  case isFalse=>cases H
  rename_i htt;subst htt;split at H
  case h_2=>cases H
  rename_i ys hys;split at H
  case h_2=>cases H
  rename_i z hz2;cases H;have Y:=toW_v _ _ _ hz2;obtain⟨k1,k2,k3⟩:=YI hys
  have hsv:s'.den.t t=.c (scV S.rt v):=by
   show(s'.t t).v s'.r=_;rw[B];exact AaZ hsc d' v
  have htn:t<E.h.n:=by
   rcases lt_or_ge t E.h.n with h|h
   .exact h
   .have:=hdd t h;rw[hsv]at this;cases this
  have hval:a'.tmps.getD t undef=scV S.rt v:=by
   have O:=A.tm t (by simpa using htn)
   rw[AP htn,hsv]at O;exact O.1
  refine⟨hd,AcI [a'.tmps.getD t undef],Hy (by rw[hrv];simp[rdV]),?_,D',λi b=>i<(AW S.ps x 0).2.length/\F' i b,⟨λi hi=>?_,λi j b hij O h2=>A.wr.disj i j b hij O.2 h2.2,λi b O=>A.wr.dD i b O.2,A.wr.Dlt,λi b hi O=>?_⟩,A.fr,λi b O=>A.Fn i b O.2,A.D1,λb hb=>?_⟩
  .show Ending.returned (a'.tmps.getD t undef)=_
   rw[hval]
  .have hnl:(Br (AW S.ps x 0).2 (wOf (Dp S.ps) z)).length=(AW S.ps x 0).2.length:=C5 _ _ (by rw[Y,k2])
   have hi:i<(AW S.ps x 0).2.length:=by rw[length_map,hnl]at hi;exact hi
   have O:=A.wr.rel i (by show i<(s'.r.map Ab.v).length;simp;omega)
   have e1:s'.den.σ.getD i .dead=(s'.r.getD i .dead).v:=Ak _ _
   have e2:((Br (AW S.ps x 0).2 (wOf (Dp S.ps) z)).map Ab.v).getD i .dead=(s'.r.getD i .dead).v:=by
    rw[Ak,Cp _ _ i (by rw[Y,k2]) hi,Y]
    exact k3 i hi
   rw[e1,A.rt i hi]at O;rw[e2];exact Rel.fp_congr (λb=>⟨λh=>⟨hi,h⟩,λh=>h.2⟩) O
  .have hnl:(Br (AW S.ps x 0).2 (wOf (Dp S.ps) z)).length=(AW S.ps x 0).2.length:=C5 _ _ (by rw[Y,k2])
   rw[length_map,hnl]at hi;have:=O.1;omega
  .rcases lt_or_ge b w.heap.size with h|h
   .exact(A.D2 b hb h).elim .inl λh=>.inr (.inl h)
   .exact .inr (.inr h)
 cases e with
 |normal=>exact fin H
 |ret=>exact fin H
 |exit id=>cases H
 |goto l=>cases H
 |panic ch=>cases H
 |outgrown=>cases H
def Cv:∀e∈([]:List EnW),e.OK P:=by simp
theorem CB{e:EnW}{l:List EnW}(E:AA P e.f=true)(B:FTW P e.f e.S e.g)(A:∀e∈l,e.OK P):∀x∈e::l,x.OK P:=by
 intro x u;rcases mem_cons.1 u with rfl|u
 .trivial
 grind
end Go.Ve


namespace Go.Ve
theorem XE{P:Program}{C:Ctx}{N:Nat}{S:Ms}{a:Act}{w:World}{D:Nat->Prop}{ρ:Nat->Value}{F:Nat->Nat->Prop}{fn:Func}{r:V}(u:CR C S.σ ((range N).map S.t) a.tmps w D ρ F)(hdd:∀x,N<=x->S.t x=.dead)(H:WH P S fn.results.toList [] (Zj S.σ r)):
  ∃v fp,(results fn a.tmps).run P w=.ok v w/\Rel D w noR r v fp/\∀b,fp b->∃i,F i b:=by
 obtain⟨A,e,hrun,⟨B,heq⟩,hlen,hcl,hrel⟩:=Lw u hdd fn.results.toList [] [] _ rfl (λj hj=>by simp at hj) H
 simp only[List.nil_append]at B heq
 have E:QR D w (Ai S.σ ρ w) (A.flatMap cellsV) (e.flatMap (·.cells.toList)).toArray:=by
  clear heq hrun hlen H
  induction A generalizing e with
  |nil=>cases e with
   |nil=>exact⟨rfl,λj hj=>by simp at hj⟩
   |cons=>simp at hcl
  |cons v A ih=>
   cases e with
   |nil=>simp at hcl
   |cons cv e=>
    simp only[List.all_cons,bAE]at B;obtain⟨⟨h1,h2⟩,_⟩:=Cc (λv cv h=>Ai.one h) B.1 (by simpa using hrel 0 (by simp))
    obtain⟨h3,h4⟩:=ih e B.2 (by simpa using hcl) (λj hj=>by simpa using hrel (j+1) (by simpa using hj))
    refine⟨by simp[h1]at h3⊢;omega,λj hj=>?_⟩
    simp only[List.flatMap_cons];by_cases O:j<(cellsV v).length
    .rw[AB O]
     have e2:(cv.cells.toList++e.flatMap (·.cells.toList)).toArray.getD j undef=cv.cells.getD j undef:=by
      simp[gAL,h1,O]
     rw[e2];exact h2 j O
    .have hj2:j-(cellsV v).length<(A.flatMap cellsV).length:=by simp at hj;simp;omega
     simp_all
 have W:CR C S.σ (A.flatMap cellsV) (e.flatMap (·.cells.toList)).toArray w D ρ F:=⟨u.wr,E.1,E.2,u.fr,u.Fn,u.D1,u.D2,u.rt,u.ml⟩
 obtain⟨fps,hf1,hf2,hf3⟩:=NW (A.flatMap cellsV).length _ _ _ _ _ W (le_refl _);obtain⟨U,G,hg1,Z,Y⟩:=HW (λv cv h=>Ai.one h) A e (tkL (A.flatMap cellsV).length (A.flatMap cellsV) S.σ) fps hcl B hrel hf1 hf2 (Lj _ _ _ (le_refl _))
 have J:=OO (Bj A (tkL (A.flatMap cellsV).length (A.flatMap cellsV) S.σ)) e G (by rw[U,hcl]) (λj hj=>hg1 j (by rw[U]at hj;exact hj)) Z
 refine⟨_,_,Hy hrun,Rel.sub heq J,λb hb=>?_⟩
 obtain⟨j,_,hb⟩:=hb;obtain⟨i,hi⟩:=Y j b hb;exact hf3 i b hi
end Go.Ve


namespace Go.Ve
def Ue(S:Ab0)(z:(PM S.ps).T)(x:(TM S.ts).T):St:=⟨λi=>(Jq S.ps z).getD i (.one .dead),A7 S.ts x⟩
def Uj(r:List Ab):(ts:List (Nat×Ty))->Nat->Option (TM ts).T
 |[],_=>some ()
 |p::l,i=>match r.getD i .dead with
  |.obj _ c=>match MZ p.2 p.1 c with
   |some x=>match Uj r l (i+1)with
    |some z=>some (x,z)
    |none=>none
   |none=>none
  |_=>none
def Z4(Θ:Tab)(e:List ResultVar)(S:Ab0)(s:St):Option ((RT S.rs).T×(TM S.ts).T):=match Uj s.r S.ts 0 with
 |some x=>match retS true Θ e S.rs (Am (range S.ts.length) s)with
  |some z=>some (z,x)
  |none=>none
 |none=>none
def retKM(Θ:Tab)(e:List ResultVar)(S:Ab0):Exit->St->Option ((RT S.rs).T×(TM S.ts).T)
 |.normal,s=>Z4 Θ e S s
 |.ret,s=>Z4 Θ e S s
 |_,_=>none
noncomputable def tfnM(E:I0)(fn:Func)(S:Ab0)(z:(PM S.ps).T)(x:(TM S.ts).T):Option ((RT S.rs).T×(TM S.ts).T):=match fn.body with
 |some b=>bif ble S.ts.length E.h.keep then ZJ E b (Ue S z x) (retKM E.Θ fn.results.toList S)else none
 |none=>none
def Ui{r:List Ab}:∀{ts:List (Nat×Ty)}{i:Nat}{x:(TM ts).T},Uj r ts i=some x->∀k,k<ts.length->Sub (r.getD (i+k) .dead).v ((A7 ts x).getD k .dead).v/\i+k<r.length
 |[],_,_,_,k,hk=>by simp at hk
 |p::l,i,x,h,k,hk=>by
  unfold Uj at h;split at h
  case h_2=>cases h
  rename_i ro c e;split at h
  case h_2=>cases h
  rename_i y A;split at h
  case h_2=>cases h
  rename_i z u;cases h;cases k with
  |zero=>
   obtain⟨g1,g2⟩:=Kb A [];rw[g2]at g1;refine⟨?_,?_⟩
   .show Sub (r.getD i .dead).v (A8 true ((Aq p.2 p.1 y).map Cl.v0))
    rw[e,Bs];exact CY.obj g1
   .rcases lt_or_ge i r.length with h|h
    .exact h
    .rw[gDE,List.getElem?_eq_none h]at e;cases e
  |succ k=>
   have:=Ui u k (by simpa using hk)
   rw[show i+(k+1)=i+1+k by omega]
   exact this
def NG:∀(l:List AM) (z:(PM l).T),∀y∈Jq l z,∀r,y.v r=y.v []
 |[],_,y,hy,_=>by cases hy
 |.p b t::l,z,y,hy,r=>by
  rcases mem_cons.1 hy with rfl|hy
  .cases b with
   |true=>show Ag ((Aq t 0 z.1).map (Cl.v r))=Ag ((Aq t 0 z.1).map (Cl.v []));rw[Cl.v_c,Cl.v_c]
   |false=>rfl
  .exact NG l z.2 y hy r
 |.r i p j k::l,z,y,hy,r=>by
  rcases mem_cons.1 hy with rfl|hy
  .rfl
  .exact NG l z y hy r
 |.k g c::l,z,y,hy,r=>by
  rcases mem_cons.1 hy with rfl|hy
  .have:∀(c:List CM) (x:(CsM c).T),(ND c x).map (Cl.v r)=(ND c x).map (Cl.v []):=by
    intro c
    induction c with
    |nil=>intro x;rfl
    |cons a c e=>
     intro x;cases a with
     |p t=>exact congrArg (cV t 0 x.1:: ·) (e x.2)
     |r i p j k=>exact congrArg (V.rp i p j k:: ·) (e x)
   exact congrArg (pkL (.cl g)) (this c z.1)
  .exact NG l z.2 y hy r
def FTM_fn{P:Program}{E:I0}{f:FuncId}{fn:Func}{S:Ab0}(hΘ:Tab.OK P E.Θ)(hΓ:Io P E.Γ)(hW:∀e∈E.W,e.OK P)(hN:∀e∈E.N,e.OK P)(hm:P.follows .mixedOrders=true)(hf:P.funcs[f]? =some fn)(hn:max S.ps.length fn.ntmps=E.h.n)
  {g:(PM S.ps).T->(TM S.ts).T->Option ((RT S.rs).T×(TM S.ts).T)} (hg:tfnM E fn S=g) (hU:∀e∈E.U,e.OK P:=by exact HE) (hM:∀e∈E.M,e.OK P:=by exact KC):FTM P f S g:=by
 subst hg;intro z x u J;unfold tfnM at J;split at J
 case h_2=>cases J
 rename_i body B;obtain⟨hkp,J⟩:=A1 J;have hkp:=blE hkp;intro w D ρ F cvs hk htab wr hsz Y
 have hal:∀(l:List AM) (z:(PM l).T),(Jq l z).length=l.length:=by
  intro l
  induction l with
  |nil=>intro z;rfl
  |cons a l ih=>
   intro z;cases a with
   |p b t=>exact congrArg (· +1) (ih z.2)
   |r i p j k=>exact congrArg (· +1) (ih z)
   |k g c=>exact congrArg (· +1) (ih z.2)
 rw[length_map,hal]at hsz Y
 let C:Ctx:=⟨w,λb=>∃i,F i b,D,S.ts.length,ρ,hk,λp hp ⟨i,hi⟩=>htab p hp i hi⟩
 refine calls_of_wp hf B ?_;have hrl:((A7 S.ts x).map Ab.v).length=S.ts.length:=by rw[length_map,CE]
 have hs:AN C E.h.n (Ue S z x).den {tmps:=cvs++replicate (fn.ntmps-cvs.size) undef,defers:=[]} w:=by
  have O:∀i,(Ue S z x).den.t i=((Jq S.ps z).map (Sl.v [])).getD i .dead:=by
   intro i;show((Jq S.ps z).getD i (.one .dead)).v (A7 S.ts x)=_;rw[Az (f:=Sl.v []) (a:=.one .dead) rfl];by_cases hi:i<(Jq S.ps z).length
   .refine NG S.ps z _ ?_ _
    simp[hi]
   .rw[gDE,List.getElem?_eq_none (Nat.le_of_not_lt hi)];rfl
  refine⟨rfl,λy hy=>?_,D,ρ,F,⟨wr,by simp[hsz];omega,λy hy=>?_,⟨rfl,rfl,rfl,le_refl _,λ_ _ _=>rfl,le_refl _⟩,λi b B=>.inl ⟨i,B⟩,λ_ h=>h,λ_ h _=>.inl h,λ_ _=>rfl,by show S.ts.length<=((A7 S.ts x).map Ab.v).length;rw[hrl];exact le_refl _⟩⟩
  .rw[O]
   exact IM (by rw[length_map,hal];omega)
  .rw[AP (by simpa using hy),O]
   by_cases hta:y<S.ps.length
   .have e2:(cvs++replicate (fn.ntmps-cvs.size) undef).getD y undef=cvs.getD y undef:=by
     have:y<cvs.size:=by omega
     simp[Array.getElem?_append_left this]
    rw[e2];exact Y y hta
   .rw[IM (by rw[length_map,hal];omega)]
    exact λ_ h=>h
 refine Mw ⟨hΘ,hΓ,hW,hN,hU,hM⟩ hm hkp body (Ue S z x) _ u _ _ w hs J λe s' a' w' _ hs' H=>?_
 have fin:Z4 E.Θ fn.results.toList S s'=some u->a'.defers=[]/\∃v,(results fn a'.tmps).run P w'=.ok v w'/\(∃(cv:Value) (fp D':Nat->Prop) (F':Nat->Nat->Prop),Ending.returned v=.returned cv/\Rel D' w' noR (P7 S.rs u.1) cv fp/\Bg ((A7 S.ts u.2).map Ab.v) w' D' ρ F'/\Fr w w' (λb=>∃i,F i b)/\
   (∀b,fp b->((∃j,F j b)\/w.heap.size<=b)/\¬D' b/\∀i,¬F' i b)/\(∀i b,F' i b->(∃j,F j b)\/w.heap.size<=b)/\(∀b,D b->D' b)/\(∀b,D' b->D b\/(∃j,F j b)\/w.heap.size<=b)):=by
  intro H;obtain⟨hd,hdd,D',ρ',F',A⟩:=hs';unfold Z4 at H;split at H
  case h_2=>cases H
  rename_i x1 hx1;split at H
  case h_2=>cases H
  rename_i z1 hz1;cases H;have hx:=Ui hx1;have hlt:∀j∈range S.ts.length,j<s'.r.length:=λj hj=>by
   have:=(hx j (by simpa using hj)).2
   simpa using this
  obtain⟨F2,hcr2,hF2⟩:=Cr (range S.ts.length) A hlt;obtain⟨v,fp,k1,k2,k3⟩:=XE (fn:=fn) hcr2 (BY _ hdd) (XG hΘ hz1);rw[Hz]at k2;have Z:((A7 S.ts x1).map Ab.v).length=S.ts.length:=by rw[length_map,CE]
  refine⟨hd,v,k1,v,fp,D',λi b=>i<S.ts.length/\F' i b,rfl,k2,⟨λi hi=>?_,λi j b hij h1 h2=>A.wr.disj i j b hij h1.2 h2.2,λi b B=>A.wr.dD i b B.2,A.wr.Dlt,λi b hi B=>absurd (Z▸hi:S.ts.length<=i) (Nat.not_le.2 B.1)⟩,A.fr,λb B=>?_,λi b B=>A.Fn i b B.2,A.D1,λb B=>?_⟩
  .have hi:i<S.ts.length:=Z▸hi
   obtain⟨g1,g2⟩:=hx i hi;rw[Nat.zero_add]at g1 g2;have h1:=A.wr.rel i (by show i<(s'.r.map Ab.v).length;rw[length_map];exact g2)
   have e1:s'.den.σ.getD i .dead=(s'.r.getD i .dead).v:=Ak _ _;rw[e1,A.rt i hi]at h1;have e2:((A7 S.ts x1).map Ab.v).getD i .dead=((A7 S.ts x1).getD i .dead).v:=Ak _ _;rw[e2];exact Rel.fp_congr (λb=>⟨λB=>⟨hi,B⟩,λB=>B.2⟩) (Rel.sub g1 h1)
  .obtain⟨i,hi⟩:=k3 b B
   obtain⟨h1,h2⟩:=hF2 i b hi;refine⟨A.Fn i b h1,A.wr.dD i b h1,λj hj=>?_⟩
   have:i≠j:=λe=>h2 (by rw[e];simpa using hj.1)
   exact A.wr.disj i j b this h1 hj.2
  .rcases lt_or_ge b w.heap.size with h|h
   .exact(A.D2 b B h).elim .inl λh=>.inr (.inl h)
   .exact .inr (.inr h)
 cases e with
 |normal=>exact fin H
 |ret=>exact fin H
 |exit id=>cases H
 |goto l=>cases H
 |panic ch=>cases H
 |outgrown=>cases H
end Go.Ve

