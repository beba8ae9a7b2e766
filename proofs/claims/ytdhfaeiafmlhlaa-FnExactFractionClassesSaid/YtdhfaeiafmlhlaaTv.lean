/- The typed machine: what a function computes that writes its owned arguments; its contract. -/
import Derived.Test.YtdhfaeiafmlhlaaTo
set_option linter.all false
namespace Go.Ve
variable{P:Program}
def QU(ps:List WP)(x:(PTW ps).T):St:=⟨λi=>(AZ ps x 0).1.getD i (.one .dead),(AZ ps x 0).2⟩
def OV:List Ab->List Ab->Option (List (Σ t:Ty,t.T))
 |[],_=>some []
 |.arr _ u d _::r0,.arr _ u' d' xs::r=>if u'=u then(bif Nat.beq d' d then(match OV r0 r with
  |some l=>some (⟨.sl u',xs⟩::l)
  |none=>none)else none)else none
 |_::_,_=>none
def YI(t:Ty)(y:Σ t:Ty,t.T):Option t.T:=if h:y.1=t then some (h▸y.2)else none
def toW:(e:List Ty)->List (Σ t:Ty,t.T)->Option (wty e).T
 |[],[]=>some ()
 |[t],[y]=>YI t y
 |t::u::l,y::ys=>match YI t y with
  |some x=>match toW (u::l) ys with
   |some z=>some (x,z)
   |none=>none
  |none=>none
 |_,_=>none
def retW(t:Nat)(rt:Ty)(e:List Ty)(A:List Ab)(s:St):Option (rt.T×(wty e).T):=match s.t t with
 |.one (.c t' _ v)=>if h:t'=rt then(match OV A s.r with
  |some ys=>match toW e ys with
   |some z=>some (h▸v,z)
   |none=>none
  |none=>none)else none
 |_=>none
def retWK(t:Nat)(rt:Ty)(e:List Ty)(A:List Ab):Exit->St->Option (rt.T×(wty e).T)
 |.normal,s=>retW t rt e A s
 |.ret,s=>retW t rt e A s
 |_,_=>none
def tyR:Ab->Ty
 |.arr _ u _ _=>.sl u
 |_=>.unit
def Yh:Ab->Bool
 |.arr _ _ _ _=>true
 |_=>false
def JS:List Ab->List Ty->Bool
 |[],[]=>true
 |r::rs,t::ts=>decide (tyR r=t)&&Yh r&&JS rs ts
 |_,_=>false
noncomputable def tfnW(E:A8)(fn:Func)(S:Adi)(x:(PTW S.ps).T):Option (S.rt.T×(wty (Dl S.ps)).T):=match fn.body,fn.results.toList with
 |some b,[.tmp t]=>bif S.rt.sc&&JS (AZ S.ps x 0).2 (Dl S.ps)&&Nat.ble (AZ S.ps x 0).2.length E.h.keep then
   WL E b (QU S.ps x) (retWK t S.rt (Dl S.ps) (AZ S.ps x 0).2)else none
 |_,_=>none
theorem YH{t:Ty}{y:Σ t:Ty,t.T}{x:t.T}(h:YI t y=some x):(⟨t,x⟩:Σ t:Ty,t.T)=y:=by
 unfold YI at h
 grind
theorem toW_v:∀(e:List Ty) (ys:List (Σ t:Ty,t.T)) (z:(wty e).T),toW e ys=some z->wOf e z=ys
 |[],[],z,_=>rfl
 |[t],[y],z,h=>by
  show [⟨t,z⟩]=[y];rw[YH h]
 |t::u::l,y::ys,z,h=>by
  have h:(match YI t y with
   |some x=>match toW (u::l) ys with
    |some z=>some (x,z)
    |none=>none
   |none=>none:Option (wty (t::u::l)).T)=some z:=h
  split at h
  case h_2=>grind
  rename_i x E;split at h
  case h_2=>grind
  rename_i A B;cases h;show⟨t,x⟩::wOf (u::l) A=_;rw[YH E,toW_v (u::l) ys A B]
 |[],_::_,_,h=>by cases h
 |[_],[],_,h=>by cases h
 |[_],_::_::_,_,h=>by cases h
 |_::_::_,[],_,h=>by cases h
def Wz:∀(e:List Ty) (z:(wty e).T),(wOf e z).length=e.length
 |[],_=>rfl
 |[_],_=>rfl
 |t::u::l,z=>by show(wOf (u::l) z.2).length+1=_;rw[Wz];rfl
def AaK:∀(e:List Ty) (z:(wty e).T),(wOf e z).map (·.1)=e
 |[],_=>rfl
 |[_],_=>rfl
 |t::u::l,z=>by show t::(wOf (u::l) z.2).map (·.1)=_;rw[AaK]
theorem Lm:∀{rs:List Ab}{e:List Ty},JS rs e=true->rs.map tyR=e/\∀r∈rs,Yh r=true
 |[],[],_=>⟨rfl,λ_ h=>by grind⟩
 |r::rs,t::ts,h=>by
  simp[JS,decide_eq_true_eq]at h;obtain⟨B,A⟩:=Lm h.2
  grind
 |[],_::_,h=>by cases h
 |_::_,[],h=>by cases h
def VN{r:Ab}{y:Σ t:Ty,t.T}(h:y.1=tyR r)(e:Yh r=true):C4 r y≠.dead:=by
 cases r with
 |dead=>trivial
 |opt=>trivial
 |mp=>trivial
 |obj ro l=>trivial
 |arr ro u d xs=>
  obtain⟨t,z⟩:=y;have h:t=.sl u:=h;subst h;simp[C4]
def Yn:∀{e r:List Ab}{ys:List (Σ t:Ty,t.T)},OV e r=some ys->e.length<=r.length/\ys.length=e.length/\∀k,k<e.length->(C4 (e.getD k .dead) (ys.getD k ⟨.unit,()⟩)).v=(r.getD k .dead).v
 |[],r,ys,h=>by cases h;simp
 |.arr ro u d xs::e,.arr ro' u' d' xs'::r,ys,h=>by
  unfold OV at h;split at h
  case isFalse=>cases h
  rename_i A;subst A;cases hd:Nat.beq d' d with
  |false=>rw[hd]at h;cases h
  |true=>
   rw[hd]at h;split at h
   case h_2=>cases h
   rename_i l B;cases h;obtain⟨O,J,F⟩:=Yn B;refine⟨by simpa using O,by simp[J],λk E=>?_⟩
   cases k with
   |zero=>
    rw[bqE hd];simp[C4,Ab.v]
   |succ k=>simpa using F k (by simpa using E)
 |.arr _ _ _ _::_,[],_,h=>by cases h
 |.arr _ _ _ _::_,.dead::_,_,h=>by cases h
 |.arr _ _ _ _::_,.obj _ _::_,_,h=>by cases h
 |.arr _ _ _ _::_,.opt _ _ _ _::_,_,h=>by cases h
 |.arr _ _ _ _::_,.mp _ _ _ _::_,_,h=>by cases h
 |.opt _ _ _ _::_,_,_,h=>by simp[OV]at h
 |.mp _ _ _ _::_,_,_,h=>by simp[OV]at h
 |.dead::_,_,_,h=>by simp[OV]at h
 |.obj _ _::_,_,_,h=>by simp[OV]at h
def JD:∀(ps:List WP) (x:(PTW ps).T) (m:Nat),(AZ ps x m).1.length=ps.length
 |[],_,_=>rfl
 |[_],_,_=>rfl
 |p::q::l,x,m=>by show(AZ (q::l) x.2 _).1.length+1=_;rw[JD];rfl
def Y0{E:A8}{f:FuncId}{fn:Func}{S:Adi}(hΘ:Tab.OK P E.Θ)(hΓ:KU P E.Γ)(hW:∀e∈E.W,e.OK P)(hN:∀e∈E.N,e.OK P)(hm:P.follows .mixedOrders=true)(hf:P.funcs[f]? =some fn)(hn:max S.ps.length fn.ntmps=E.h.n)
  {g:(PTW S.ps).T->Option (S.rt.T×(wty (Dl S.ps)).T)} (hg:tfnW E fn S=g) (hU:∀e∈E.U,e.OK P:=by exact Du):FTW P f S g:=by
 subst hg;intro x u O;unfold tfnW at O;split at O
 case h_2=>cases O
 rename_i b t hb hrv;cases hc:(S.rt.sc&&JS (AZ S.ps x 0).2 (Dl S.ps)&&Nat.ble (AZ S.ps x 0).2.length E.h.keep)with
 |false=>rw[hc]at O;cases O
 |true=>
 rw[hc]at O;simp only[cond_true]at O;simp only[bAE]at hc;obtain⟨⟨hsc,hst⟩,hkp⟩:=hc;have hkp:=blE hkp;obtain⟨ht1,ht2⟩:=Lm hst;have hlen:(wOf (Dl S.ps) u.2).length=(AZ S.ps x 0).2.length:=by rw[Wz,<-ht1];simp
 refine⟨hsc,hlen,λk hk=>?_,?_⟩
 .rw[Co _ _ k hlen.symm hk]
  have Y:((wOf (Dl S.ps) u.2).getD k ⟨.unit,()⟩).1=tyR ((AZ S.ps x 0).2.getD k .dead):=by
   have e:=(AaK (Dl S.ps) u.2).trans ht1.symm;have e2:=congrArg (·[k]?) e
   have hy:k<(wOf (Dl S.ps) u.2).length:=by omega
   simp only[List.getElem?_map,gEE hk,gEE hy,Option.map_some,Option.some.injEq]at e2;simp only[gDE,gEE hk,gEE hy,Option.getD_some];exact e2
  exact VN Y (ht2 _ (by simp[hk]))
 intro w D ρ F cvs hk hkF wr hsz hrel
 let C:Ctx:=⟨w,λb=>∃i,F i b,D,(AZ S.ps x 0).2.length,ρ,hk,λp hp ⟨i,hF⟩=>hkF p hp i hF⟩
 have hal:((AZ S.ps x 0).1.map (Sl.v (AZ S.ps x 0).2)).length=S.ps.length:=by rw[List.length_map,JD]
 refine calls_of_wp hf hb ?_
 have hs:AQ C E.h.n (QU S.ps x).den {tmps:=cvs++Array.replicate (fn.ntmps-cvs.size) undef,defers:=[]} w:=by
  have B:∀i,(QU S.ps x).den.t i=((AZ S.ps x 0).1.map (Sl.v (AZ S.ps x 0).2)).getD i .dead:=λi=>(AE (f:=Sl.v (AZ S.ps x 0).2) (a:=.one .dead) rfl _ _).symm
  refine⟨rfl,λy hy=>by rw[B];exact IK (by rw[hal];omega),D,ρ,F,⟨wr,by simp[hsz,JD];omega,λk hk=>?_,⟨rfl,rfl,rfl,Nat.le_refl _,λ_ _ _=>rfl,Nat.le_refl _⟩,λi b hb=>.inl ⟨i,hb⟩,λ_ h=>h,λ_ h _=>.inl h,λ_ _=>rfl,by show _<=((AZ S.ps x 0).2.map Ab.v).length;simp;exact Nat.le_refl _⟩⟩
  rw[AY (by simpa using hk),B]
  by_cases hta:k<((AZ S.ps x 0).1.map (Sl.v (AZ S.ps x 0).2)).length
  .have e2:(cvs++Array.replicate (fn.ntmps-cvs.size) undef).getD k undef=cvs.getD k undef:=by
    have:k<cvs.size:=by omega
    simp[Array.getElem?_append_left this]
   rw[e2];exact hrel k hta
  .rw[IK (Nat.le_of_not_lt hta)]
   exact λ_ h=>h
 refine Jg ⟨hΘ,hΓ,hW,hN,hU⟩ hm hkp b (QU S.ps x) _ u _ _ w hs O λe s' a' w' _ hs' J=>?_
 have fin:retW t S.rt (Dl S.ps) (AZ S.ps x 0).2 s'=some u->a'.defers=[]/\∃v,(results fn a'.tmps).run P w'=.ok v w'/\(Ending.returned v=.returned (scV S.rt u.1)/\∃(D':Nat->Prop) (F':Nat->Nat->Prop),Bl ((Bs (AZ S.ps x 0).2 (wOf (Dl S.ps) u.2)).map Ab.v) w' D' ρ F'/\Fr w w' (λb=>∃i,F i b)/\(∀i b,F' i b->(∃j,F j b)\/w.heap.size<=b)/\(∀b,D b->D' b)/\(∀b,D' b->D b\/(∃j,F j b)\/w.heap.size<=b)):=by
  intro J;obtain⟨hd,hdd,D',ρ',F',A⟩:=hs';unfold retW at J;split at J
  case h_2=>cases J
  rename_i t' d' v B;split at J
  case isFalse=>cases J
  rename_i htt;subst htt;split at J
  case h_2=>cases J
  rename_i ys hys;split at J
  case h_2=>cases J
  rename_i z hz2;cases J;have Z:=toW_v _ _ _ hz2;obtain⟨k1,k2,k3⟩:=Yn hys
  have hsv:s'.den.t t=.c (scV S.rt v):=by
   show(s'.t t).v s'.r=_;rw[B];exact Aaz hsc d' v
  have htn:t<E.h.n:=by
   rcases Nat.lt_or_ge t E.h.n with h|h
   .exact h
   .have:=hdd t h;rw[hsv]at this;cases this
  have hval:a'.tmps.getD t undef=scV S.rt v:=by
   have Y:=A.tm t (by simpa using htn)
   rw[AY htn,hsv]at Y;exact Y.1
  refine⟨hd,Acu [a'.tmps.getD t undef],Hm (by rw[hrv];simp[rdV]),?_,D',λi b=>i<(AZ S.ps x 0).2.length/\F' i b,⟨λi hi=>?_,λi j b hij Y h2=>A.wr.disj i j b hij Y.2 h2.2,λi b Y=>A.wr.dD i b Y.2,A.wr.Dlt,λi b hi Y=>?_⟩,A.fr,λi b Y=>A.Fn i b Y.2,A.D1,λb hb=>?_⟩
  .show Ending.returned (a'.tmps.getD t undef)=_
   rw[hval]
  .have hnl:(Bs (AZ S.ps x 0).2 (wOf (Dl S.ps) z)).length=(AZ S.ps x 0).2.length:=CW _ _ (by rw[Z,k2])
   have hi:i<(AZ S.ps x 0).2.length:=by rw[List.length_map,hnl]at hi;exact hi
   have Y:=A.wr.rel i (by show i<(s'.r.map Ab.v).length;simp;omega)
   have e1:s'.den.σ.getD i .dead=(s'.r.getD i .dead).v:=Aw _ _
   have e2:((Bs (AZ S.ps x 0).2 (wOf (Dl S.ps) z)).map Ab.v).getD i .dead=(s'.r.getD i .dead).v:=by
    rw[Aw,Co _ _ i (by rw[Z,k2]) hi,Z]
    exact k3 i hi
   rw[e1,A.rt i hi]at Y;rw[e2];exact Rel.fp_congr (λb=>⟨λh=>⟨hi,h⟩,λh=>h.2⟩) Y
  .have hnl:(Bs (AZ S.ps x 0).2 (wOf (Dl S.ps) z)).length=(AZ S.ps x 0).2.length:=CW _ _ (by rw[Z,k2])
   rw[List.length_map,hnl]at hi;have:=Y.1;omega
  .rcases Nat.lt_or_ge b w.heap.size with h|h
   .exact(A.D2 b hb h).elim .inl λh=>.inr (.inl h)
   .exact .inr (.inr h)
 cases e with
 |normal=>exact fin J
 |ret=>exact fin J
 |exit id=>cases J
 |goto l=>cases J
 |panic ch=>cases J
 |outgrown=>cases J
def Am:∀e∈([]:List EnW),e.OK P:=by simp
theorem H7{e:EnW}{l:List EnW}(F:Ae P e.f=true)(E:FTW P e.f e.S e.g)(B:∀e∈l,e.OK P):∀x∈e::l,x.OK P:=by
 intro x A;rcases List.mem_cons.1 A with rfl|A
 .trivial
 grind
end Go.Ve


namespace Go.Ve
variable{fn:Func}{P:Program}
theorem N4{C:Ctx}{N:Nat}{S:Ms}{a:Act}{w:World}{D:Nat->Prop}{ρ:Nat->Value}{F:Nat->Nat->Prop}{r:V}(A:CR C S.σ ((List.range N).map S.t) a.tmps w D ρ F)(hdd:∀x,N<=x->S.t x=.dead)(O:Vv P S fn.results.toList [] (Wj S.σ r)):
  ∃v fp,(results fn a.tmps).run P w=.ok v w/\Rel D w noR r v fp/\∀b,fp b->∃i,F i b:=by
 obtain⟨B,e,hrun,⟨E,heq⟩,hlen,hcl,hrel⟩:=Lo A hdd fn.results.toList [] [] _ rfl (λj hj=>by simp at hj) O
 simp only[List.nil_append]at E heq
 have J:Qv D w (Ak S.σ ρ w) (B.flatMap cellsV) (e.flatMap (·.cells.toList)).toArray:=by
  clear heq hrun hlen O
  induction B generalizing e with
  |nil=>cases e with
   |nil=>exact⟨rfl,λj hj=>by simp at hj⟩
   |cons=>simp at hcl
  |cons v B ih=>
   cases e with
   |nil=>simp at hcl
   |cons cv e=>
    simp only[List.all_cons,bAE]at E;obtain⟨⟨h1,h2⟩,_⟩:=Ce (λv cv h=>Ak.one h) E.1 (by simpa using hrel 0 (by simp))
    obtain⟨h3,h4⟩:=ih e E.2 (by simpa using hcl) (λj hj=>by simpa using hrel (j+1) (by simpa using hj))
    refine⟨by simp[h1]at h3⊢;omega,λj hj=>?_⟩
    simp only[List.flatMap_cons];by_cases W:j<(cellsV v).length
    .rw[AD W]
     have e2:(cv.cells.toList++e.flatMap (·.cells.toList)).toArray.getD j undef=cv.cells.getD j undef:=by
      simp[gAL,h1,W]
     rw[e2];exact h2 j W
    .have hj2:j-(cellsV v).length<(B.flatMap cellsV).length:=by simp at hj;simp;omega
     simp_all
 have Z:CR C S.σ (B.flatMap cellsV) (e.flatMap (·.cells.toList)).toArray w D ρ F:=⟨A.wr,J.1,J.2,A.fr,A.Fn,A.D1,A.D2,A.rt,A.ml⟩
 obtain⟨fps,hf1,hf2,hf3⟩:=NG (B.flatMap cellsV).length _ _ _ _ _ Z (Nat.le_refl _);obtain⟨Y,G,hg1,hg2,hg3⟩:=HM (λv cv h=>Ak.one h) B e (tkL (B.flatMap cellsV).length (B.flatMap cellsV) S.σ) fps hcl E hrel hf1 hf2 (Ld _ _ _ (Nat.le_refl _))
 have U:=Oz (Bh B (tkL (B.flatMap cellsV).length (B.flatMap cellsV) S.σ)) e G (by rw[Y,hcl]) (λj hj=>hg1 j (by rw[Y]at hj;exact hj)) hg2
 refine⟨_,_,Hm hrun,Rel.sub heq U,λb hb=>?_⟩
 obtain⟨j,_,hb⟩:=hb;obtain⟨i,hi⟩:=hg3 j b hb;exact hf3 i b hi
def insS(k:Nat)(l:List Sl):List Sl:=l.take k++ .one .dead::l.drop k
def insS_v{k:Nat}{l:List Sl}{r:List Ab}:(insS k l).map (Sl.v r)=VZ k (l.map (Sl.v r)):=by
 unfold insS VZ;rw[List.map_append,List.map_cons,List.map_take,List.map_drop];rfl
def Im(t:Ty)(d:Nat)(x:t.T):Ab:=B6 (.one (.c t d x))
def NX(S:Qu)(z:(PT S.ps).T)(x:S.t.T):St:=⟨λi=>bif Nat.beq i S.k then .one (N8 0 (Im S.t S.d x))else(insS S.k (YO S.ps z)).getD i (.one .dead),[Im S.t S.d x]⟩
def Acj(d:Nat):(t:Ty)->Ab->Option t.T
 |.ptr t,.obj _ l=>PZ t (d-1) l
 |.sl t,.arr _ t' d' xs=>if h:t'=t then(bif Nat.beq d' (d-1)then some (h▸xs)else none)else none
 |_,_=>none
def retU(Θ:Tab)(e:List ResultVar)(S:Qu)(s:St):Option ((RT S.rs).T×S.t.T):=bif S.eat then(match AaW true Θ e S.rs s with
 |some z=>some (z,S.t.dflt)
 |none=>none)else match Acj S.d S.t (s.r.getD 0 .dead)with
 |some x=>match AaW true Θ e S.rs (H8 0 s)with
  |some z=>some (z,x)
  |none=>none
 |none=>none
def retKU(Θ:Tab)(e:List ResultVar)(S:Qu):Exit->St->Option ((RT S.rs).T×S.t.T)
 |.normal,s=>retU Θ e S s
 |.ret,s=>retU Θ e S s
 |_,_=>none
noncomputable def tfnU(E:A8)(fn:Func)(S:Qu)(z:(PT S.ps).T)(x:S.t.T):Option ((RT S.rs).T×S.t.T):=match fn.body with
 |some b=>bif S.ok&&Hh (.one (.c S.t S.d x))&&Nat.ble 1 E.h.keep then WL E b (NX S z x) (retKU E.Θ fn.results.toList S)else none
 |none=>none
theorem Aci{d:Nat}{t:Ty}{r:Ab}{x:t.T}(hd:0<d)(h:Acj d t r=some x):Sub r.v (cV t d x)/\r≠.dead:=by
 unfold Acj at h;split at h
 .rename_i t ro l
  have B:=(J5 h []).1;have e:=(J5 h []).2;rw[e]at B;refine⟨?_,λh=>by grind⟩
  show Sub (Be true (l.map Cl.v0)) (Be (decide (0<d)) (tyV t (d-1) x));rw[dT hd];exact CK.obj B
 .rename_i t ro t' F xs
  split at h
  case isFalse=>grind
  rename_i E;subst E;cases A:Nat.beq F (d-1)with
  |false=>grind
  |true=>
   rw[A]at h;cases h;rw[bqE A];refine⟨?_,λh=>by grind⟩
   show Sub (arr true t'.w (tyV t' (d-1)) t'.dflt xs) (arr (decide (0<d)) t'.w (tyV t' (d-1)) t'.dflt xs);rw[dT hd];exact Sub.refl _
 grind
theorem Y1{E:A8}{f:FuncId}{S:Qu}(hΘ:Tab.OK P E.Θ)(hΓ:KU P E.Γ)(hW:∀e∈E.W,e.OK P)(hN:∀e∈E.N,e.OK P)(hm:P.follows .mixedOrders=true)(hf:P.funcs[f]? =some fn)(hn:max (S.ps.length+1) fn.ntmps=E.h.n)
  {g:(PT S.ps).T->S.t.T->Option ((RT S.rs).T×S.t.T)} (hg:tfnU E fn S=g) (hU:∀e∈E.U,e.OK P:=by exact Du):FTU P f S g:=by
 subst hg;intro z x u O;unfold tfnU at O;split at O
 case h_2=>cases O
 rename_i body B;obtain⟨hc,O⟩:=A9 O;simp only[bAE]at hc;obtain⟨⟨hok,hroot⟩,hkp⟩:=hc;have hkp:=blE hkp;unfold Qu.ok at hok;simp only[bAE]at hok;obtain⟨⟨hd0,hk0⟩,_⟩:=hok;have hd0:0<S.d:=blE hd0;have hk0:S.k<=S.ps.length:=blE hk0;obtain⟨_,r2,⟨s0,sz0,n0,f0,r3,r4⟩,r5⟩:=Cj hroot;have hcv:cV S.t S.d x=(Im S.t S.d x).v:=r2 [];intro w D H cvs hk htab hD hHD hsz hrel0 Z;rw[Jr,Dj]at hsz Z
 let C:Ctx:=⟨w,H,D,1,λ_=>cvs.getD S.k undef,hk,λp hp=>htab p hp⟩
 refine calls_of_wp hf B ?_;have hrel:Rel D w noR (Im S.t S.d x).v (cvs.getD S.k undef) H:=by rw[<-hcv];exact hrel0
 have hs:AQ C E.h.n (NX S z x).den {tmps:=cvs++Array.replicate (fn.ntmps-cvs.size) undef,defers:=[]} w:=by
  have hins:∀i,((insS S.k (YO S.ps z)).getD i (.one .dead)).v [Im S.t S.d x]=(VZ S.k (Cf S.ps z)).getD i .dead:=by
   intro i
   have e1:(YO S.ps z).map (Sl.v [Im S.t S.d x])=Cf S.ps z:=by
    rw[<-US];refine List.map_congr_left λy J=>?_
    have:∀(l:List (Bool×Ty)) (z:(PT l).T),∀y∈YO l z,y.stay=true:=by
     have one:∀(b:Bool) (t:Ty) (x:t.T),(pS b t x).stay=true:=by
      intro b t x
      have cs:∀(t:Ty) (x:t.T),(As t 0 x).all Cl.stay=true:=by
       intro t
       induction t with
       |pair a b iha ihb=>intro x;show((As a 0 x.1++As b 0 x.2).all Cl.stay)=true;rw[List.all_append,iha,ihb];rfl
       |_=>intro x;rfl
      cases b with
      |true=>exact cs t x
      |false=>rfl
     intro l
     induction l with
     |nil=>intro z y J;cases J
     |cons p l ih=>
      intro z y J;cases l with
      |nil=>
       rw[List.mem_singleton.1 J];exact one _ _ _
      |cons q l=>
       rcases List.mem_cons.1 J with rfl|J
       .exact one _ _ _
       .exact ih z.2 y J
    exact QT (this S.ps z y J) _ _
   rw[<-e1,<-insS_v,AE (f:=Sl.v [Im S.t S.d x]) (a:=.one .dead) rfl]
  have Y:∀i,(NX S z x).den.t i=if i=S.k then Lr 0 (Im S.t S.d x).v else(VZ S.k (Cf S.ps z)).getD i .dead:=by
   intro i;show(bif Nat.beq i S.k then Sl.one (N8 0 (Im S.t S.d x))else(insS S.k (YO S.ps z)).getD i (.one .dead)).v [Im S.t S.d x]=_;by_cases hi:i=S.k
   .subst hi
    rw[Nat.beq_refl,if_pos rfl,cond_true];have:=r5 [.dead] 0 (by simp)
    exact this
   .rw[BB hi,if_neg hi,cond_false]
    exact hins i
  have hsig:(NX S z x).den.σ=[(Im S.t S.d x).v]:=rfl;refine⟨rfl,λy J=>?_,D,λ_=>cvs.getD S.k undef,λi=>if i=0 then H else noF,⟨⟨λi hi=>?_,λi j b hij h1 h2=>?_,λi b B=>?_,hD,λi b hi B=>?_⟩,by simp[hsz];omega,λy J=>?_,⟨rfl,rfl,rfl,Nat.le_refl _,λ_ _ _=>rfl,Nat.le_refl _⟩,λi b B=>?_,λ_ h=>h,λ_ h _=>.inl h,λ_ _=>rfl,by rw[hsig];exact Nat.le_refl _⟩⟩
  .rw[Y,if_neg (by omega)]
   exact IK (by rw[Jr,Dj];omega)
  .have hi:i<1:=hi
   obtain rfl:i=0:=by omega
   exact Rel.fp_congr (λb=>by rw[if_pos rfl]) hrel
  .split at h1<;>split at h2
   .omega
   .exact h2.elim
   .exact h1.elim
   .exact h1.elim
  .split at B
   .exact hHD b B
   .exact B.elim
  .have hi:1<=i:=hi
   rw[if_neg (by omega)]at B
   exact B.elim
  .rw[AY (by simpa using J),Y]
   have J:y<E.h.n:=by simpa using J
   by_cases hyk:y=S.k
   .subst hyk
    rw[if_pos rfl]
    have e2:(cvs++Array.replicate (fn.ntmps-cvs.size) undef).getD S.k undef=cvs.getD S.k undef:=by
     have:S.k<cvs.size:=by omega
     simp[Array.getElem?_append_left this]
    rw[e2];have e3:(Im S.t S.d x).v=.nd s0 true sz0 n0 f0:=r3;rw[e3];refine ML (σ:=[(Im S.t S.d x).v]) (H:=H) (ρ:=λ_=>cvs.getD S.k undef) (by simp) e3 r4 ?_
    rw[<-e3];exact hrel
   .rw[if_neg hyk]
    by_cases hta:y<S.ps.length+1
    .have e2:(cvs++Array.replicate (fn.ntmps-cvs.size) undef).getD y undef=cvs.getD y undef:=by
      have:y<cvs.size:=by omega
      simp[Array.getElem?_append_left this]
     rw[e2];exact Rel.noR_mono (Z y hta hyk)
    .rw[IK (by rw[Jr,Dj];omega)]
     exact λ_ h=>h
  .split at B
   .exact .inl B
   .exact B.elim
 refine Jg ⟨hΘ,hΓ,hW,hN,hU⟩ hm hkp body (NX S z x) _ u _ _ w hs O λe s' a' w' _ hs' F=>?_
 have fin:retU E.Θ fn.results.toList S s'=some u->a'.defers=[]/\∃v,(results fn a'.tmps).run P w'=.ok v w'/\(∃cv fp D' H',Ending.returned v=.returned cv/\Fr w w' H/\Rel D' w' noR (Xp S.rs u.1) cv fp/\Rel D' w' noR (bif S.eat then .dead else cV S.t S.d u.2) (cvs.getD S.k undef) H'/\
   (∀b,fp b->H b\/w.heap.size<=b)/\(∀b,H' b->H b\/w.heap.size<=b)/\(∀b,fp b->¬H' b)/\
   (∀b,D b->D' b)/\(∀b,D' b->D b\/H b\/w.heap.size<=b)/\∀b,D' b->b<w'.heap.size/\¬fp b/\¬H' b):=by
  intro F;obtain⟨hd,hdd,D',ρ',F',A⟩:=hs';have hD2:∀b,D' b->D b\/H b\/w.heap.size<=b:=λb B=>by
   rcases Nat.lt_or_ge b w.heap.size with h|h
   .exact(A.D2 b B h).elim .inl λh=>.inr (.inl h)
   .exact .inr (.inr h)
  unfold retU at F;cases he:S.eat with
  |true=>
   rw[he]at F;simp only[cond_true]at F⊢;split at F
   case h_2=>cases F
   rename_i z1 hz1;cases F;obtain⟨v,fp,k1,k2,k3⟩:=N4 (fn:=fn) A hdd (Ln hΘ hz1);rw[Hn]at k2;refine⟨hd,v,k1,v,fp,D',noF,rfl,A.fr,k2,λ_ h=>h,λb B=>?_,λ_ h=>h.elim,λ_ _ h=>h,A.D1,hD2,λb B=>⟨A.wr.Dlt b B,λh=>?_,λh=>h⟩⟩
   .obtain⟨i,hi⟩:=k3 b B
    exact A.Fn i b hi
   .obtain⟨i,hi⟩:=k3 b h
    exact A.wr.dD i b hi B
  |false=>
   rw[he]at F;simp only[cond_false]at F⊢;split at F
   case h_2=>cases F
   rename_i x1 hx1;split at F
   case h_2=>cases F
   rename_i z1 hz1;cases F;obtain⟨g1,g2⟩:=Aci hd0 hx1;have hlen:0<s'.r.length:=by
    rcases Nat.eq_zero_or_pos s'.r.length with e|e
    .exfalso;apply g2
     rw[gDE,List.getElem?_eq_none (by omega)];rfl
    .exact e
   have hcr2:=UG A (j:=0) hlen;obtain⟨v,fp,k1,k2,k3⟩:=N4 (fn:=fn) (S:=(H8 0 s').den) hcr2 (BX [0] hdd) (Ln hΘ hz1);rw[Hn]at k2;have h1:=A.wr.rel 0 (by simpa [St.den]using hlen)
   have e1:s'.den.σ.getD 0 .dead=(s'.r.getD 0 .dead).v:=Aw _ _;rw[e1,A.rt 0 (Nat.lt_succ_self 0)]at h1;have hne:∀b,fp b->∃i,i≠0/\F' i b:=by
    intro b B;obtain⟨i,hi⟩:=k3 b B;split at hi
    .exact hi.elim
    .exact⟨i,by assumption,hi⟩
   refine⟨hd,v,k1,v,fp,D',F' 0,rfl,A.fr,k2,Rel.sub g1 h1,λb B=>?_,λb B=>A.Fn 0 b B,λb B hH=>?_,A.D1,hD2,λb B=>⟨A.wr.Dlt b B,λh=>?_,λh=>A.wr.dD 0 b h B⟩⟩
   .obtain⟨i,_,hi⟩:=hne b B
    exact A.Fn i b hi
   .obtain⟨i,h0,hi⟩:=hne b B
    exact A.wr.disj i 0 b h0 hi hH
   .obtain⟨i,_,hi⟩:=hne b h
    exact A.wr.dD i b hi B
 cases e with
 |normal=>exact fin F
 |ret=>exact fin F
 |exit id=>cases F
 |goto l=>cases F
 |panic ch=>cases F
 |outgrown=>cases F
end Go.Ve

