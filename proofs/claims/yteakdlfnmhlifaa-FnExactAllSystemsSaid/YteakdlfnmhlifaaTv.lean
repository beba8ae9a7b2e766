/- The typed machine. -/
import Derived.Test.YteakdlfnmhlifaaTo
open Nat(beq ble le_refl lt_or_ge)
open List(length_map mem_cons range)
open Array(replicate)
set_option linter.all false
namespace Go.Ve
variable{P:Program}
def QP(ps:List WP)(x:(PTW ps).T):St:=⟨λi=>(AT ps x 0).1.getD i (.one .dead),(AT ps x 0).2⟩
def OU:List Aa->List Aa->Option (List (Σ t:Ty,t.T))
 |[],_=>some []
 |.arr _ u d _::r0,.arr _ u' d' xs::r=>if u'=u then(bif beq d' d then(match OU r0 r with
  |some l=>some (⟨.sl u',xs⟩::l)
  |none=>none)else none)else none
 |_::_,_=>none
def Yy(t:Ty)(y:Σ t:Ty,t.T):Option t.T:=if h:y.1=t then some (h▸y.2)else none
def toW:(A:List Ty)->List (Σ t:Ty,t.T)->Option (wty A).T
 |[],[]=>some ()
 |[t],[y]=>Yy t y
 |t::u::l,y::ys=>match Yy t y with
  |some x=>match toW (u::l) ys with
   |some z=>some (x,z)
   |none=>none
  |none=>none
 |_,_=>none
def retW(t:Nat)(rt:Ty)(A:List Ty)(B:List Aa)(s:St):Option (rt.T×(wty A).T):=match s.t t with
 |.one (.c t' _ v)=>if h:t'=rt then(match OU B s.r with
  |some ys=>match toW A ys with
   |some z=>some (h▸v,z)
   |none=>none
  |none=>none)else none
 |_=>none
def retWK(t:Nat)(rt:Ty)(A:List Ty)(B:List Aa):Exit->St->Option (rt.T×(wty A).T)
 |.normal,s=>retW t rt A B s
 |.ret,s=>retW t rt A B s
 |_,_=>none
def tyR:Aa->Ty
 |.arr _ u _ _=>.sl u
 |_=>.unit
def X5:Aa->Bool
 |.arr _ _ _ _=>true
 |_=>false
def JQ:List Aa->List Ty->Bool
 |[],[]=>true
 |r::rs,t::ts=>decide (tyR r=t)&&X5 r&&JQ rs ts
 |_,_=>false
noncomputable def tfnW(E:Ih)(fn:Func)(S:Adc)(x:(PTW S.ps).T):Option (S.rt.T×(wty (Di S.ps)).T):=match fn.body,fn.results.toList with
 |some b,[.tmp t]=>bif S.rt.sc&&JQ (AT S.ps x 0).2 (Di S.ps)&&ble (AT S.ps x 0).2.length E.h.keep then
   Mm E b (QP S.ps x) (retWK t S.rt (Di S.ps) (AT S.ps x 0).2)else none
 |_,_=>none
theorem Yx{t:Ty}{y:Σ t:Ty,t.T}{x:t.T}(h:Yy t y=some x):(⟨t,x⟩:Σ t:Ty,t.T)=y:=by
 unfold Yy at h
 grind
theorem toW_v:∀(A:List Ty) (ys:List (Σ t:Ty,t.T)) (z:(wty A).T),toW A ys=some z->wOf A z=ys
 |[],[],z,_=>rfl
 |[t],[y],z,h=>by
  show [⟨t,z⟩]=[y];rw[Yx h]
 |t::u::l,y::ys,z,h=>by
  have h:(match Yy t y with
   |some x=>match toW (u::l) ys with
    |some z=>some (x,z)
    |none=>none
   |none=>none:Option (wty (t::u::l)).T)=some z:=h
  split at h
  case h_2=>grind
  rename_i x U;split at h
  case h_2=>grind
  rename_i B H;cases h;show⟨t,x⟩::wOf (u::l) B=_;rw[Yx U,toW_v (u::l) ys B H]
 |[],_::_,_,h=>by cases h
 |[_],[],_,h=>by cases h
 |[_],_::_::_,_,h=>by cases h
 |_::_::_,[],_,h=>by cases h
def Wo:∀(A:List Ty) (z:(wty A).T),(wOf A z).length=A.length
 |[],_=>rfl
 |[_],_=>rfl
 |t::u::l,z=>by show(wOf (u::l) z.2).length+1=_;rw[Wo];rfl
def AaF:∀(A:List Ty) (z:(wty A).T),(wOf A z).map (·.1)=A
 |[],_=>rfl
 |[_],_=>rfl
 |t::u::l,z=>by show t::(wOf (u::l) z.2).map (·.1)=_;rw[AaF]
theorem Lm:∀{rs:List Aa}{A:List Ty},JQ rs A=true->rs.map tyR=A/\∀r∈rs,X5 r=true
 |[],[],_=>⟨rfl,λ_ h=>by grind⟩
 |r::rs,t::ts,h=>by
  simp[JQ,decide_eq_true_eq]at h;obtain⟨H,B⟩:=Lm h.2
  grind
 |[],_::_,h=>by cases h
 |_::_,[],h=>by cases h
def VE{r:Aa}{y:Σ t:Ty,t.T}(h:y.1=tyR r)(A:X5 r=true):C7 r y≠.dead:=by
 cases r with
 |dead=>trivial
 |opt=>trivial
 |mp=>trivial
 |obj ro l=>trivial
 |arr ro u d xs=>
  obtain⟨t,z⟩:=y;have h:t=.sl u:=h;subst h;simp[C7]
def Ya:∀{A r:List Aa}{ys:List (Σ t:Ty,t.T)},OU A r=some ys->A.length<=r.length/\ys.length=A.length/\∀k,k<A.length->(C7 (A.getD k .dead) (ys.getD k ⟨.unit,()⟩)).v=(r.getD k .dead).v
 |[],r,ys,h=>by cases h;simp
 |.arr ro u d xs::A,.arr ro' u' d' xs'::r,ys,h=>by
  unfold OU at h;split at h
  case isFalse=>cases h
  rename_i B;subst B;cases hd:beq d' d with
  |false=>rw[hd]at h;cases h
  |true=>
   rw[hd]at h;split at h
   case h_2=>cases h
   rename_i l H;cases h;obtain⟨Y,W,h3⟩:=Ya H;refine⟨by simpa using Y,by simp[W],λk U=>?_⟩
   cases k with
   |zero=>
    rw[bqE hd];simp[C7,Aa.v]
   |succ k=>simpa using h3 k (by simpa using U)
 |.arr _ _ _ _::_,[],_,h=>by cases h
 |.arr _ _ _ _::_,.dead::_,_,h=>by cases h
 |.arr _ _ _ _::_,.obj _ _::_,_,h=>by cases h
 |.arr _ _ _ _::_,.opt _ _ _ _::_,_,h=>by cases h
 |.arr _ _ _ _::_,.mp _ _ _ _::_,_,h=>by cases h
 |.opt _ _ _ _::_,_,_,h=>by simp[OU]at h
 |.mp _ _ _ _::_,_,_,h=>by simp[OU]at h
 |.dead::_,_,_,h=>by simp[OU]at h
 |.obj _ _::_,_,_,h=>by simp[OU]at h
def JB:∀(ps:List WP) (x:(PTW ps).T) (m:Nat),(AT ps x m).1.length=ps.length
 |[],_,_=>rfl
 |[_],_,_=>rfl
 |p::q::l,x,m=>by show(AT (q::l) x.2 _).1.length+1=_;rw[JB];rfl
theorem YQ{E:Ih}{f:FuncId}{fn:Func}{S:Adc}(hΘ:Tab.OK P E.Θ)(hΓ:Id P E.Γ)(hW:∀e∈E.W,e.OK P)(hN:∀e∈E.N,e.OK P)(hm:P.follows .mixedOrders=true)(hf:P.funcs[f]? =some fn)(hn:max S.ps.length fn.ntmps=E.h.n)
  {g:(PTW S.ps).T->Option (S.rt.T×(wty (Di S.ps)).T)} (hg:tfnW E fn S=g) (hU:∀e∈E.U,e.OK P:=by exact IK) (hM:∀e∈E.M,e.OK P:=by exact Kr):FTW P f S g:=by
 subst hg;intro x u Y;unfold tfnW at Y;split at Y
 case h_2=>cases Y
 rename_i b t hb hrv;cases hc:(S.rt.sc&&JQ (AT S.ps x 0).2 (Di S.ps)&&ble (AT S.ps x 0).2.length E.h.keep)with
 |false=>rw[hc]at Y;cases Y
 |true=>
 rw[hc]at Y;simp only[cond_true]at Y;simp only[bAE]at hc;obtain⟨⟨hsc,hst⟩,hkp⟩:=hc;have hkp:=blE hkp;obtain⟨ht1,ht2⟩:=Lm hst;have hlen:(wOf (Di S.ps) u.2).length=(AT S.ps x 0).2.length:=by rw[Wo,<-ht1];simp
 refine⟨hsc,hlen,λk hk=>?_,?_⟩
 .rw[Cm _ _ k hlen.symm hk]
  have Z:((wOf (Di S.ps) u.2).getD k ⟨.unit,()⟩).1=tyR ((AT S.ps x 0).2.getD k .dead):=by
   have e:=(AaF (Di S.ps) u.2).trans ht1.symm;have e2:=congrArg (·[k]?) e
   have hy:k<(wOf (Di S.ps) u.2).length:=by omega
   simp only[List.getElem?_map,gEE hk,gEE hy,Option.map_some,Option.some.injEq]at e2;simp only[gDE,gEE hk,gEE hy,Option.getD_some];exact e2
  exact VE Z (ht2 _ (by simp[hk]))
 intro w D ρ F cvs hk hkF wr hsz hrel
 let C:Ctx:=⟨w,λb=>∃i,F i b,D,(AT S.ps x 0).2.length,ρ,⟨hk,λp hp ⟨i,hF⟩=>hkF p hp i hF⟩,[]⟩
 have hal:((AT S.ps x 0).1.map (Sl.v (AT S.ps x 0).2)).length=S.ps.length:=by rw[length_map,JB]
 refine calls_of_wp hf hb ?_
 have hs:AA C E.h.n (QP S.ps x).den {tmps:=cvs++replicate (fn.ntmps-cvs.size) undef,defers:=[]} w:=by
  have B:∀i,(QP S.ps x).den.t i=((AT S.ps x 0).1.map (Sl.v (AT S.ps x 0).2)).getD i .dead:=λi=>(Aw (f:=Sl.v (AT S.ps x 0).2) (a:=.one .dead) rfl _ _).symm
  refine⟨rfl,λy hy=>by rw[B];exact Hm (by rw[hal];omega),D,ρ,F,⟨wr,by simp[hsz,JB];omega,λk hk=>?_,⟨rfl,rfl,rfl,le_refl _,λ_ _ _=>rfl,le_refl _⟩,λi b hb=>.inl ⟨i,hb⟩,λ_ h=>h,λ_ h _=>.inl h,λ_ _=>rfl,by show _<=((AT S.ps x 0).2.map Aa.v).length;simp;exact le_refl _⟩⟩
  rw[Ay (by simpa using hk),B]
  by_cases hta:k<((AT S.ps x 0).1.map (Sl.v (AT S.ps x 0).2)).length
  .have e2:(cvs++replicate (fn.ntmps-cvs.size) undef).getD k undef=cvs.getD k undef:=by
    have:k<cvs.size:=by omega
    simp[Array.getElem?_append_left this]
   rw[e2];exact hrel k hta
  .rw[Hm (Nat.le_of_not_lt hta)]
   exact λ_ h=>h
 refine Dl ⟨hΘ,hΓ,hW,hN,hU,hM⟩ hm hkp b (QP S.ps x) _ u _ _ w hs Y λe s' a' w' _ hs' H=>?_
 have fin:retW t S.rt (Di S.ps) (AT S.ps x 0).2 s'=some u->a'.defers=[]/\∃v,(results fn a'.tmps).run P w'=.ok v w'/\(Ending.returned v=.returned (scV S.rt u.1)/\∃(D':Nat->Prop) (F':Nat->Nat->Prop),Be ((Bq (AT S.ps x 0).2 (wOf (Di S.ps) u.2)).map Aa.v) w' D' ρ F'/\Fr w w' (λb=>∃i,F i b)/\(∀i b,F' i b->(∃j,F j b)\/w.heap.size<=b)/\(∀b,D b->D' b)/\(∀b,D' b->D b\/(∃j,F j b)\/w.heap.size<=b)):=by
  intro H;obtain⟨hd,hdd,D',ρ',F',A⟩:=hs';unfold retW at H;split at H
  case h_2=>cases H
  rename_i t' d' v B;split at H
  case isFalse=>cases H
  rename_i htt;subst htt;split at H
  case h_2=>cases H
  rename_i ys hys;split at H
  case h_2=>cases H
  rename_i z hz2;cases H;have hwz:=toW_v _ _ _ hz2;obtain⟨k1,k2,k3⟩:=Ya hys
  have hsv:s'.den.t t=.c (scV S.rt v):=by
   show(s'.t t).v s'.r=_;rw[B];exact Aat hsc d' v
  have htn:t<E.h.n:=by
   rcases lt_or_ge t E.h.n with h|h
   .exact h
   .have:=hdd t h;rw[hsv]at this;cases this
  have hval:a'.tmps.getD t undef=scV S.rt v:=by
   have Z:=A.tm t (by simpa using htn)
   rw[Ay htn,hsv]at Z;exact Z.1
  refine⟨hd,Acd [a'.tmps.getD t undef],Hi (by rw[hrv];simp[rdV]),?_,D',λi b=>i<(AT S.ps x 0).2.length/\F' i b,⟨λi hi=>?_,λi j b hij Z h2=>A.wr.disj i j b hij Z.2 h2.2,λi b Z=>A.wr.dD i b Z.2,A.wr.Dlt,λi b hi Z=>?_⟩,A.fr,λi b Z=>A.Fn i b Z.2,A.D1,λb hb=>?_⟩
  .show Ending.returned (a'.tmps.getD t undef)=_
   rw[hval]
  .have hnl:(Bq (AT S.ps x 0).2 (wOf (Di S.ps) z)).length=(AT S.ps x 0).2.length:=CW _ _ (by rw[hwz,k2])
   have hi:i<(AT S.ps x 0).2.length:=by rw[length_map,hnl]at hi;exact hi
   have Z:=A.wr.rel i (by show i<(s'.r.map Aa.v).length;simp;omega)
   have e1:s'.den.σ.getD i .dead=(s'.r.getD i .dead).v:=Ai _ _
   have e2:((Bq (AT S.ps x 0).2 (wOf (Di S.ps) z)).map Aa.v).getD i .dead=(s'.r.getD i .dead).v:=by
    rw[Ai,Cm _ _ i (by rw[hwz,k2]) hi,hwz]
    exact k3 i hi
   rw[e1,A.rt i hi]at Z;rw[e2];exact Rel.fp_congr (λb=>⟨λh=>⟨hi,h⟩,λh=>h.2⟩) Z
  .have hnl:(Bq (AT S.ps x 0).2 (wOf (Di S.ps) z)).length=(AT S.ps x 0).2.length:=CW _ _ (by rw[hwz,k2])
   rw[length_map,hnl]at hi;have:=Z.1;omega
  .rcases lt_or_ge b w.heap.size with h|h
   .exact(A.D2 b hb h).elim .inl λh=>.inr (.inl h)
   .exact .inr (.inr h)
 cases e with
 |normal=>exact fin H
 |ret=>exact fin H
 |exit id=>cases H
 |goto l=>cases H
 |panic ch=>cases H
 |outgrown=>cases H
def C9:∀e∈([]:List EnW),e.OK P:=by simp
theorem H4{e:EnW}{l:List EnW}(U:AE P e.f=true)(H:FTW P e.f e.S e.g)(B:∀e∈l,e.OK P):∀x∈e::l,x.OK P:=by
 intro x A;rcases mem_cons.1 A with rfl|A
 .trivial
 grind
end Go.Ve


namespace Go.Ve
theorem Xb{P:Program}{C:Ctx}{N:Nat}{S:Ms}{a:Act}{w:World}{D:Nat->Prop}{ρ:Nat->Value}{F:Nat->Nat->Prop}{fn:Func}{r:V}(B:CR C S.σ ((range N).map S.t) a.tmps w D ρ F)(hdd:∀x,N<=x->S.t x=.dead)(Y:Wf P S fn.results.toList [] (YN S.σ r)):
  ∃v fp,(results fn a.tmps).run P w=.ok v w/\Rel D w noR r v fp/\∀b,fp b->∃i,F i b:=by
 obtain⟨H,A,hrun,⟨U,heq⟩,hlen,hcl,hrel⟩:=Ln B hdd fn.results.toList [] [] _ rfl (λj hj=>by simp at hj) Y
 simp only[List.nil_append]at U heq
 have W:Qn D w (Ae S.σ ρ w) (H.flatMap cellsV) (A.flatMap (·.cells.toList)).toArray:=by
  clear heq hrun hlen Y
  induction H generalizing A with
  |nil=>cases A with
   |nil=>exact⟨rfl,λj hj=>by simp at hj⟩
   |cons=>simp at hcl
  |cons v H ih=>
   cases A with
   |nil=>simp at hcl
   |cons cv A=>
    simp only[List.all_cons,bAE]at U;obtain⟨⟨h1,h2⟩,_⟩:=B9 (λv cv h=>Ae.one h) U.1 (by simpa using hrel 0 (by simp))
    obtain⟨h3,h4⟩:=ih A U.2 (by simpa using hcl) (λj hj=>by simpa using hrel (j+1) (by simpa using hj))
    refine⟨by simp[h1]at h3⊢;omega,λj hj=>?_⟩
    simp only[List.flatMap_cons];by_cases hj1:j<(cellsV v).length
    .rw[Az hj1]
     have e2:(cv.cells.toList++A.flatMap (·.cells.toList)).toArray.getD j undef=cv.cells.getD j undef:=by
      simp[gAL,h1,hj1]
     rw[e2];exact h2 j hj1
    .have hj2:j-(cellsV v).length<(H.flatMap cellsV).length:=by simp at hj;simp;omega
     simp_all
 have hcr2:CR C S.σ (H.flatMap cellsV) (A.flatMap (·.cells.toList)).toArray w D ρ F:=⟨B.wr,W.1,W.2,B.fr,B.Fn,B.D1,B.D2,B.rt,B.ml⟩
 obtain⟨fps,hf1,hf2,hf3⟩:=NK (H.flatMap cellsV).length _ _ _ _ _ hcr2 (le_refl _);obtain⟨hrl,G,hg1,hg2,hg3⟩:=HI (λv cv h=>Ae.one h) H A (tkL (H.flatMap cellsV).length (H.flatMap cellsV) S.σ) fps hcl U hrel hf1 hf2 (Lc _ _ _ (le_refl _))
 have Z:=Oz (Bi H (tkL (H.flatMap cellsV).length (H.flatMap cellsV) S.σ)) A G (by rw[hrl,hcl]) (λj hj=>hg1 j (by rw[hrl]at hj;exact hj)) hg2
 refine⟨_,_,Hi hrun,Rel.sub heq Z,λb hb=>?_⟩
 obtain⟨j,_,hb⟩:=hb;obtain⟨i,hi⟩:=hg3 j b hb;exact hf3 i b hi
end Go.Ve


namespace Go.Ve
variable{C:Ctx}{fn:Func}{E:Ih}{rs:List Aa}{F:Nat->Nat->Prop}{D:Nat->Prop}{ρ:Nat->Value}{P:Program}{w:World}
def WZ(S:Abt)(z:(PM S.ps).T)(x:(TM S.ts).T):St:=⟨λi=>(K8 S.ps z).getD i (.one .dead),AK S.ts x⟩
def JU(r:List Aa):(ts:List (Nat×Ty))->Nat->Option (TM ts).T
 |[],_=>some ()
 |p::l,i=>match r.getD i .dead with
  |.obj _ c=>match MS p.2 p.1 c with
   |some x=>match JU r l (i+1)with
    |some z=>some (x,z)
    |none=>none
   |none=>none
  |_=>none
def Zw(Θ:Tab)(A:List ResultVar)(S:Abt)(s:St):Option ((RT S.rs).T×(TM S.ts).T):=match JU s.r S.ts 0 with
 |some x=>match AaN true Θ A S.rs (Aj (range S.ts.length) s)with
  |some z=>some (z,x)
  |none=>none
 |none=>none
def retKM(Θ:Tab)(A:List ResultVar)(S:Abt):Exit->St->Option ((RT S.rs).T×(TM S.ts).T)
 |.normal,s=>Zw Θ A S s
 |.ret,s=>Zw Θ A S s
 |_,_=>none
noncomputable def tfnM(E:Ih)(fn:Func)(S:Abt)(z:(PM S.ps).T)(x:(TM S.ts).T):Option ((RT S.rs).T×(TM S.ts).T):=match fn.body with
 |some b=>bif ble S.ts.length E.h.keep then Mm E b (WZ S z x) (retKM E.Θ fn.results.toList S)else none
 |none=>none
def Jj{r:List Aa}:∀{ts:List (Nat×Ty)}{i:Nat}{x:(TM ts).T},JU r ts i=some x->∀k,k<ts.length->Sub (r.getD (i+k) .dead).v ((AK ts x).getD k .dead).v/\i+k<r.length
 |[],_,_,_,k,hk=>by simp at hk
 |p::l,i,x,h,k,hk=>by
  unfold JU at h;split at h
  case h_2=>cases h
  rename_i ro c A;split at h
  case h_2=>cases h
  rename_i y H;split at h
  case h_2=>cases h
  rename_i z B;cases h;cases k with
  |zero=>
   obtain⟨g1,g2⟩:=J4 H [];rw[g2]at g1;refine⟨?_,?_⟩
   .show Sub (r.getD i .dead).v (A3 true ((Ar p.2 p.1 y).map Cl.v0))
    rw[A,Br];exact CO.obj g1
   .rcases lt_or_ge i r.length with h|h
    .exact h
    .rw[gDE,List.getElem?_eq_none h]at A;cases A
  |succ k=>
   have:=Jj B k (by simpa using hk)
   rw[show i+(k+1)=i+1+k by omega]
   exact this
def Nv:∀(l:List AM) (z:(PM l).T),∀y∈K8 l z,∀r,y.v r=y.v []
 |[],_,y,hy,_=>by cases hy
 |.p b t::l,z,y,hy,r=>by
  rcases mem_cons.1 hy with rfl|hy
  .cases b with
   |true=>show Ah ((Ar t 0 z.1).map (Cl.v r))=Ah ((Ar t 0 z.1).map (Cl.v []));rw[Cl.v_c,Cl.v_c]
   |false=>rfl
  .exact Nv l z.2 y hy r
 |.r i p j k::l,z,y,hy,r=>by
  rcases mem_cons.1 hy with rfl|hy
  .rfl
  .exact Nv l z y hy r
 |.k g c::l,z,y,hy,r=>by
  rcases mem_cons.1 hy with rfl|hy
  .have:∀(c:List CM) (x:(CsM c).T),(Ns c x).map (Cl.v r)=(Ns c x).map (Cl.v []):=by
    intro c
    induction c with
    |nil=>intro x;rfl
    |cons a c A=>
     intro x;cases a with
     |p t=>exact congrArg (cV t 0 x.1:: ·) (A x.2)
     |r i p j k=>exact congrArg (V.rp i p j k:: ·) (A x)
   exact congrArg (pkL (.cl g)) (this c z.1)
  .exact Nv l z.2 y hy r
def QQ{N n:Nat}{cvs:Array Value}{ys:List Sl}(hC:C.w0=w/\C.W=(λb=>∃i,F i b)/\C.D0=D/\C.m=rs.length/\C.ρ0=ρ/\C.dfs=[])(U:∀y∈ys,∀r,y.v r=y.v [])(wr:Be (rs.map Aa.v) w D ρ F)(hn:max ys.length n=N)(H:cvs.size=(ys.map (Sl.v [])).length)(B:∀i,i<(ys.map (Sl.v [])).length->Rel D w (Ae (rs.map Aa.v) ρ w) ((ys.map (Sl.v [])).getD i .dead) (cvs.getD i undef) noF):
  AA C N (St.den ⟨λi=>ys.getD i (.one .dead),rs⟩) {tmps:=cvs++replicate (n-cvs.size) undef,defers:=[]} w:=by
 obtain⟨c1,c2,c3,c4,c5,c6⟩:=hC;rw[length_map]at H B
 have A:∀i,(St.den ⟨λi=>ys.getD i (.one .dead),rs⟩).t i=(ys.map (Sl.v [])).getD i .dead:=by
  intro i;show(ys.getD i (.one .dead)).v rs=_;rw[Aw (f:=Sl.v []) (a:=.one .dead) rfl];by_cases hi:i<ys.length
  .refine U _ ?_ _
   simp[hi]
  .rw[gDE,List.getElem?_eq_none (Nat.le_of_not_lt hi)];rfl
 refine⟨c6.symm,λy U=>?_,D,ρ,F,⟨wr,by simp[H];omega,λy U=>?_,by rw[c1];exact⟨rfl,rfl,rfl,le_refl _,λ_ _ _=>rfl,le_refl _⟩,λi b Z=>.inl (by rw[c2];exact⟨i,Z⟩),λ_ h=>by rw[c3]at h;exact h,λ_ h _=>.inl (by rw[c3];exact h),λ_ _=>by rw[c5],by show C.m<=(rs.map Aa.v).length;rw[c4,length_map];exact le_refl _⟩⟩
 .rw[A]
  exact Hm (by rw[length_map];omega)
 .rw[Ay (by simpa using U),A]
  by_cases Y:y<ys.length
  .have e2:(cvs++replicate (n-cvs.size) undef).getD y undef=cvs.getD y undef:=by
    have:y<cvs.size:=by omega
    simp[Array.getElem?_append_left this]
   rw[e2];exact B y Y
  .rw[Hm (by rw[length_map];omega)]
   exact λ_ h=>h
def Yq{fn:Func}(hΘ:Tab.OK P E.Θ){w':World}{rts:List (Bool×Nat×Ty)}{z:(RT rts).T}{s':St}{a':Act}(hC:C.w0=w/\C.W=(λb=>∃i,F i b)/\C.D0=D/\C.m=rs.length/\C.ρ0=ρ)(hs':AA C E.h.n s'.den a' w')(hx:∀k,k<rs.length->Sub (s'.r.getD k .dead).v (rs.getD k .dead).v/\k<s'.r.length)
  (hz:AaN true E.Θ fn.results.toList rts (Aj (range rs.length) s')=some z):∃v,(results fn a'.tmps).run P w'=.ok v w'/\Qo w D ρ F (Hj rts z) (rs.map Aa.v) (.returned v) w':=by
 obtain⟨c1,c2,c3,c4,c5⟩:=hC;obtain⟨hd,hdd,D',ρ',F',A⟩:=hs';have hlt:∀j∈range rs.length,j<s'.r.length:=λj hj=>(hx j (by simpa using hj)).2
 obtain⟨F2,hcr2,hF2⟩:=Cn (range rs.length) A hlt;obtain⟨v,fp,k1,k2,k3⟩:=Xb (fn:=fn) hcr2 (BT _ hdd) (QU hΘ hz);rw[Ir]at k2;have Z:=A.fr;have U:=A.Fn;have hD1:=A.D1;have hD2:=A.D2;have Y:=A.rt;rw[c1,c2]at Z;rw[c1,c2]at U;rw[c3]at hD1;rw[c1,c2,c3]at hD2;rw[c4,c5]at Y;refine⟨v,k1,v,fp,D',λi b=>i<rs.length/\F' i b,rfl,k2,⟨λi hi=>?_,λi j b hij H h2=>A.wr.disj i j b hij H.2 h2.2,λi b B=>A.wr.dD i b B.2,A.wr.Dlt,λi b hi B=>absurd (by rw[length_map]at hi;exact hi:rs.length<=i) (Nat.not_le.2 B.1)⟩,Z,λb B=>?_,λi b B=>U i b B.2,hD1,λb B=>?_⟩
 .have hi:i<rs.length:=by rw[length_map]at hi;exact hi
  obtain⟨g1,g2⟩:=hx i hi;have H:=A.wr.rel i (by show i<(s'.r.map Aa.v).length;rw[length_map];exact g2)
  have e1:s'.den.σ.getD i .dead=(s'.r.getD i .dead).v:=Ai _ _;rw[e1,Y i hi]at H;have e2:(rs.map Aa.v).getD i .dead=(rs.getD i .dead).v:=Ai _ _;rw[e2];exact Rel.fp_congr (λb=>⟨λB=>⟨hi,B⟩,λB=>B.2⟩) (Rel.sub g1 H)
 .obtain⟨i,hi⟩:=k3 b B
  obtain⟨H,h2⟩:=hF2 i b hi;refine⟨U i b H,A.wr.dD i b H,λj hj=>?_⟩
  have:i≠j:=λe=>h2 (by rw[e];simpa using hj.1)
  exact A.wr.disj i j b this H hj.2
 .rcases lt_or_ge b w.heap.size with h|h
  .exact(hD2 b B h).elim .inl λh=>.inr (.inl h)
  .exact .inr (.inr h)
def Ia:∀(l:List AM) (z:(PM l).T),(K8 l z).length=l.length
 |[],_=>rfl
 |.p _ _::l,z=>congrArg (· +1) (Ia l z.2)
 |.r _ _ _ _::l,z=>congrArg (· +1) (Ia l z)
 |.k _ _::l,z=>congrArg (· +1) (Ia l z.2)
theorem FTM_fn{f:FuncId}{S:Abt}(hΘ:Tab.OK P E.Θ)(hΓ:Id P E.Γ)(hW:∀e∈E.W,e.OK P)(hN:∀e∈E.N,e.OK P)(hm:P.follows .mixedOrders=true)(hf:P.funcs[f]? =some fn)(hn:max S.ps.length fn.ntmps=E.h.n)
  {g:(PM S.ps).T->(TM S.ts).T->Option ((RT S.rs).T×(TM S.ts).T)} (hg:tfnM E fn S=g) (hU:∀e∈E.U,e.OK P:=by exact IK) (hM:∀e∈E.M,e.OK P:=by exact Kr):FTM P f S g:=by
 subst hg;intro z x u B;unfold tfnM at B;split at B
 case h_2=>cases B
 rename_i body hb;obtain⟨Y,B⟩:=A1 B;have Y:=blE Y;intro w D ρ F cvs hk htab wr hsz Z
 let C:Ctx:=⟨w,λb=>∃i,F i b,D,S.ts.length,ρ,⟨hk,λp hp ⟨i,hi⟩=>htab p hp i hi⟩,[]⟩
 have H:∀y,(AK S.ts y).length=S.ts.length:=Cx S.ts
 have hs:AA C E.h.n (WZ S z x).den {tmps:=cvs++replicate (fn.ntmps-cvs.size) undef,defers:=[]} w:=
  QQ ⟨rfl,rfl,rfl,(H x).symm,rfl,rfl⟩ (Nv S.ps z) wr (by rw[Ia];exact hn) hsz Z
 have key:body.wp P (bodyPost P fn (Qo w D ρ F (Hj S.rs u.1) ((AK S.ts u.2).map Aa.v))) {tmps:=cvs++replicate (fn.ntmps-cvs.size) undef,defers:=[]} w:=by
  refine Dl ⟨hΘ,hΓ,hW,hN,hU,hM⟩ hm Y body (WZ S z x) _ u _ _ w hs B λe s' a' w' _ hs' A=>?_
  have fin:Zw E.Θ fn.results.toList S s'=some u->a'.defers=[]/\∃v,(results fn a'.tmps).run P w'=.ok v w'/\Qo w D ρ F (Hj S.rs u.1) ((AK S.ts u.2).map Aa.v) (.returned v) w':=by
   intro A;have hd:a'.defers=[]:=hs'.1;unfold Zw at A;split at A
   case h_2=>cases A
   rename_i x1 hx1;split at A
   case h_2=>cases A
   rename_i z1 hz1;cases A;have hx:=Jj hx1;refine⟨hd,Yq hΘ ⟨rfl,rfl,rfl,(H x1).symm,rfl⟩ hs' (λk hk=>?_) (by rw[H];exact hz1)⟩
   rw[H]at hk;have:=hx k hk;rw[Nat.zero_add]at this;exact this
  cases e with
  |normal=>exact fin A
  |ret=>exact fin A
  |exit id=>cases A
  |goto l=>cases A
  |panic ch=>cases A
  |outgrown=>cases A
 exact⟨calls_of_wp hf hb key,λ_=>callsD_of_wp hf hb key⟩
end Go.Ve

