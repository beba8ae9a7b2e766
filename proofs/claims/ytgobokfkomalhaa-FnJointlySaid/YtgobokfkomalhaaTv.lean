/- The typed machine: what a function computes that writes its owned arguments; its contract. -/
import Derived.Test.YtgobokfkomalhaaTo
namespace Go.Ve
theorem Ak{P:Program}: ∀e∈([]:List EnW),e.OK P:=by simp
end Go.Ve


namespace Go.Ve
variable{fn:Func}{P:Program}
theorem M4{C:Ctx}{N:Nat}{S:Ms}{a:Act}{w:World}{D:Nat->Prop}{ρ:Nat->Value}{F:Nat->Nat->Prop}{r:V}(hcr:CR C S.σ ((List.range N).map S.t) a.tmps w D ρ F)(hdd: ∀x,N<=x->S.t x= .dead)(hres:Uz P S fn.results.toList [] (WZ S.σ r)):
  ∃v fp,(results fn a.tmps).run P w= .ok v w/\Rel D w noR r v fp/\∀b,fp b->∃i,F i b:=by
 obtain⟨vl,cvl,hrun,⟨hpl,heq⟩,hlen,hcl,hrel⟩:=Kx hcr hdd fn.results.toList [] [] _ rfl (λj hj=>by simp at hj) hres
 simp only [List.nil_append]at hpl heq
 have hflat:Pa D w (Av S.σ ρ w) (vl.flatMap cellsV) (cvl.flatMap (·.cells.toList)).toArray:=by
  clear heq hrun hlen hres
  induction vl generalizing cvl with
  |nil=>cases cvl with
   |nil=>exact⟨rfl,λj hj=>by simp at hj⟩
   |cons=>simp at hcl
  |cons v vl ih=>
   cases cvl with
   |nil=>simp at hcl
   |cons cv cvl=>
    simp only [List.all_cons,bAE]at hpl;obtain⟨⟨h1,h2⟩,_⟩:=Ch (λv cv h=>Av.one h) hpl.1 (by simpa using hrel 0 (by simp))
    obtain⟨h3,h4⟩:=ih cvl hpl.2 (by simpa using hcl) (λj hj=>by simpa using hrel (j+1) (by simpa using hj))
    refine⟨by simp [h1]at h3⊢;omega,λj hj=>?_⟩
    simp only [List.flatMap_cons];by_cases hj1:j<(cellsV v).length
    ·rw [AI hj1]
     have e2:(cv.cells.toList++cvl.flatMap (·.cells.toList)).toArray.getD j undef=cv.cells.getD j undef:=by
      simp [gAL,h1,hj1]
     rw [e2];exact h2 j hj1
    ·have hj2:j-(cellsV v).length<(vl.flatMap cellsV).length:=by simp at hj;simp;omega
     simp_all
 have hcr2:CR C S.σ (vl.flatMap cellsV) (cvl.flatMap (·.cells.toList)).toArray w D ρ F:=⟨hcr.wr,hflat.1,hflat.2,hcr.fr,hcr.Fn,hcr.D1,hcr.D2,hcr.rt,hcr.ml⟩
 obtain⟨fps,hf1,hf2,hf3⟩:=MG (vl.flatMap cellsV).length _ _ _ _ _ hcr2 (Nat.le_refl _);obtain⟨hrl,G,hg1,hg2,hg3⟩:=Hz (λv cv h=>Av.one h) vl cvl (tkL (vl.flatMap cellsV).length (vl.flatMap cellsV) S.σ) fps hcl hpl hrel hf1 hf2 (Kn _ _ _ (Nat.le_refl _))
 have hpack:=Nz (Bl vl (tkL (vl.flatMap cellsV).length (vl.flatMap cellsV) S.σ)) cvl G (by rw [hrl,hcl]) (λj hj=>hg1 j (by rw [hrl]at hj;exact hj)) hg2
 refine⟨_,_,Js hrun,Rel.sub heq hpack,λb hb=>?_⟩
 obtain⟨j,_,hb⟩:=hb;obtain⟨i,hi⟩:=hg3 j b hb;exact hf3 i b hi
def insS(k:Nat)(l:List Sl):List Sl:=l.take k++ .one .dead::l.drop k
theorem insS_v{k:Nat}{l:List Sl}{r:List Ae}:(insS k l).map (Sl.v r)=Ua k (l.map (Sl.v r)):=by
 unfold insS Ua;rw [List.map_append,List.map_cons,List.map_take,List.map_drop];rfl
def H3(t:Ty)(d:Nat)(x:t.T):Ae:=B7 (.one (.c t d x))
def MY(S:J7)(z:(PT S.ps).T)(x:S.t.T):St:=⟨λi=>bif Nat.beq i S.k then .one (M8 0 (H3 S.t S.d x))else(insS S.k (W9 S.ps z)).getD i (.one .dead),[H3 S.t S.d x]⟩
def ZK(d:Nat):(t:Ty)->Ae->Option t.T
 | .ptr t,.obj _ l=>OF t (d-1) l
 | .sl t,.arr _ t' d' xs=>if h:t'=t then(bif Nat.beq d' (d-1)then some (h▸xs)else none)else none
 |_,_=>none
def retU(Θ:Tab)(rv:List ResultVar)(S:J7)(s:St):Option ((RT S.rs).T×S.t.T):=bif S.eat then(match AaG true Θ rv S.rs s with
 |some z=>some (z,S.t.dflt)
 |none=>none)else match ZK S.d S.t (s.r.getD 0 .dead)with
 |some x=>match AaG true Θ rv S.rs (HS 0 s)with
  |some z=>some (z,x)
  |none=>none
 |none=>none
def retKU(Θ:Tab)(rv:List ResultVar)(S:J7):Exit->St->Option ((RT S.rs).T×S.t.T)
 | .normal,s=>retU Θ rv S s
 | .ret,s=>retU Θ rv S s
 |_,_=>none
noncomputable def Qj(E:A9)(fn:Func)(S:J7)(z:(PT S.ps).T)(x:S.t.T):Option ((RT S.rs).T×S.t.T):=match fn.body with
 |some b=>bif S.ok&&Dv (.one (.c S.t S.d x))&&Nat.ble 1 E.h.keep then Zm E b (MY S z x) (retKU E.Θ fn.results.toList S)else none
 |none=>none
theorem ZJ{d:Nat}{t:Ty}{r:Ae}{x:t.T}(hd:0<d)(h:ZK d t r=some x):Sub r.v (cV t d x)/\r≠.dead:=by
 unfold ZK at h;split at h
 ·rename_i t ro l
  have h1:=(JB h []).1;have e:=(JB h []).2;rw [e]at h1;refine⟨?_,λh=>by grind⟩
  show Sub (Br true (l.map Cl.v0)) (Br (decide (0<d)) (tyV t (d-1) x));rw [dT hd];exact CW.obj h1
 ·rename_i t ro t' d' xs
  split at h
  case isFalse=>grind
  rename_i he;subst he;cases hb:Nat.beq d' (d-1)with
  |false=>grind
  |true=>
   rw [hb]at h;cases h;rw [bqE hb];refine⟨?_,λh=>by grind⟩
   show Sub (arr true t'.w (tyV t' (d-1)) t'.dflt xs) (arr (decide (0<d)) t'.w (tyV t' (d-1)) t'.dflt xs);rw [dT hd];exact Sub.refl _
 grind
theorem DT{E:A9}{f:FuncId}{S:J7}(hΘ:Tab.OK P E.Θ)(hΓ:Mz P E.Γ)(hW: ∀e∈E.W,e.OK P)(hN: ∀e∈E.N,e.OK P)(hm:P.follows .mixedOrders=true)(hf:P.funcs[f]? =some fn)(hn:max (S.ps.length+1) fn.ntmps=E.h.n)
  {g:(PT S.ps).T->S.t.T->Option ((RT S.rs).T×S.t.T)} (hg:Qj E fn S=g) (hU: ∀e∈E.U,e.OK P:=by exact Cg):FTU P f S g:=by
 subst hg;intro z x u hxu;unfold Qj at hxu;split at hxu
 case h_2=>cases hxu
 rename_i body hb;cases hc:(S.ok&&Dv (.one (.c S.t S.d x))&&Nat.ble 1 E.h.keep)with
 |false=>rw [hc]at hxu;cases hxu
 |true=>
 rw [hc]at hxu;simp only [cond_true]at hxu;simp only [bAE]at hc;obtain⟨⟨hok,hroot⟩,hkp⟩:=hc;have hkp:=blE hkp;unfold J7.ok at hok;simp only [bAE]at hok;obtain⟨⟨hd0,hk0⟩,_⟩:=hok;have hd0:0<S.d:=blE hd0;have hk0:S.k<=S.ps.length:=blE hk0;obtain⟨_,r2,⟨s0,sz0,n0,f0,r3,r4⟩,r5⟩:=Cm hroot;have hcv:cV S.t S.d x=(H3 S.t S.d x).v:=r2 [];intro w D H cvs hk htab hD hHD hsz hrel0 hargs;rw [I0,DS]at hsz hargs
 let C:Ctx:=⟨w,H,D,1,λ_=>cvs.getD S.k undef,hk,λp hp=>htab p hp⟩
 refine calls_of_wp hf hb ?_;have hrel:Rel D w noR (H3 S.t S.d x).v (cvs.getD S.k undef) H:=by rw [<-hcv];exact hrel0
 have hs:AX C E.h.n (MY S z x).den {tmps:=cvs++Array.replicate (fn.ntmps-cvs.size) undef,defers:=[]} w:=by
  have hins: ∀i,((insS S.k (W9 S.ps z)).getD i (.one .dead)).v [H3 S.t S.d x]=(Ua S.k (Cu S.ps z)).getD i .dead:=by
   intro i
   have e1:(W9 S.ps z).map (Sl.v [H3 S.t S.d x])=Cu S.ps z:=by
    rw [<-WL];refine List.map_congr_left λy hy=>?_
    have: ∀ (l:List (Bool×Ty)) (z:(PT l).T),∀y∈W9 l z,y.stay=true:=by
     have one: ∀ (b:Bool) (t:Ty) (x:t.T),(pS b t x).stay=true:=by
      intro b t x
      have cs: ∀ (t:Ty) (x:t.T),(AD t 0 x).all Cl.stay=true:=by
       intro t
       induction t with
       |pair a b iha ihb=>intro x;show((AD a 0 x.1++AD b 0 x.2).all Cl.stay)=true;rw [List.all_append,iha,ihb];rfl
       |_=>intro x;rfl
      cases b with
      |true=>exact cs t x
      |false=>rfl
     intro l
     induction l with
     |nil=>intro z y hy;cases hy
     |cons p l ih=>
      intro z y hy;cases l with
      |nil=>
       rw [List.mem_singleton.1 hy];exact one _ _ _
      |cons q l=>
       rcases List.mem_cons.1 hy with rfl|hy
       ·exact one _ _ _
       ·exact ih z.2 y hy
    exact Po (this S.ps z y hy) _ _
   rw [<-e1,<-insS_v,AT (f:=Sl.v [H3 S.t S.d x]) (a:=.one .dead) rfl]
  have hslot: ∀i,(MY S z x).den.t i=if i=S.k then KA 0 (H3 S.t S.d x).v else(Ua S.k (Cu S.ps z)).getD i .dead:=by
   intro i;show(bif Nat.beq i S.k then Sl.one (M8 0 (H3 S.t S.d x))else(insS S.k (W9 S.ps z)).getD i (.one .dead)).v [H3 S.t S.d x]=_;by_cases hi:i=S.k
   ·subst hi
    rw [Nat.beq_refl,if_pos rfl,cond_true];have:=r5 [.dead] 0 (by simp)
    exact this
   ·rw [BD hi,if_neg hi,cond_false]
    exact hins i
  have hsig:(MY S z x).den.σ= [(H3 S.t S.d x).v]:=rfl;refine⟨rfl,λy hy=>?_,D,λ_=>cvs.getD S.k undef,λi=>if i=0 then H else noF,⟨⟨λi hi=>?_,λi j b hij h1 h2=>?_,λi b hb=>?_,hD,λi b hi hb=>?_⟩,by simp [hsz];omega,λy hy=>?_,⟨rfl,rfl,rfl,Nat.le_refl _,λ_ _ _=>rfl,Nat.le_refl _⟩,λi b hb=>?_,λ_ h=>h,λ_ h _=>.inl h,λ_ _=>rfl,by rw [hsig];exact Nat.le_refl _⟩⟩
  ·rw [hslot,if_neg (by omega)]
   exact Mc (by rw [I0,DS];omega)
  ·have hi:i<1:=hi
   obtain rfl:i=0:=by omega
   exact Rel.fp_congr (λb=>by rw [if_pos rfl]) hrel
  ·split at h1<;>split at h2
   ·omega
   ·exact h2.elim
   ·exact h1.elim
   ·exact h1.elim
  ·split at hb
   ·exact hHD b hb
   ·exact hb.elim
  ·have hi:1<=i:=hi
   rw [if_neg (by omega)]at hb
   exact hb.elim
  ·rw [A5 (by simpa using hy),hslot]
   have hy:y<E.h.n:=by simpa using hy
   by_cases hyk:y=S.k
   ·subst hyk
    rw [if_pos rfl]
    have e2:(cvs++Array.replicate (fn.ntmps-cvs.size) undef).getD S.k undef=cvs.getD S.k undef:=by
     have:S.k<cvs.size:=by omega
     simp [Array.getElem?_append_left this]
    rw [e2];have e3:(H3 S.t S.d x).v= .nd s0 true sz0 n0 f0:=r3;rw [e3];refine LF (σ:=[(H3 S.t S.d x).v]) (H:=H) (ρ:=λ_=>cvs.getD S.k undef) (by simp) e3 r4 ?_
    rw [<-e3];exact hrel
   ·rw [if_neg hyk]
    by_cases hta:y<S.ps.length+1
    ·have e2:(cvs++Array.replicate (fn.ntmps-cvs.size) undef).getD y undef=cvs.getD y undef:=by
      have:y<cvs.size:=by omega
      simp [Array.getElem?_append_left this]
     rw [e2];exact Rel.noR_mono (hargs y hta hyk)
    ·rw [Mc (by rw [I0,DS];omega)]
     exact λ_ h=>h
  ·split at hb
   ·exact .inl hb
   ·exact hb.elim
 refine Pi ⟨hΘ,hΓ,hW,hN,hU⟩ hm hkp body (MY S z x) _ u _ _ w hs hxu λe s' a' w' _ hs' hz=>?_
 have fin:retU E.Θ fn.results.toList S s'=some u->a'.defers= []/\∃v,(results fn a'.tmps).run P w'= .ok v w'/\(∃cv fp D' H',Ending.returned v= .returned cv/\Fr w w' H/\Rel D' w' noR (Vx S.rs u.1) cv fp/\Rel D' w' noR (bif S.eat then .dead else cV S.t S.d u.2) (cvs.getD S.k undef) H'/\
   (∀b,fp b->H b\/w.heap.size<=b)/\(∀b,H' b->H b\/w.heap.size<=b)/\(∀b,fp b->¬H' b)/\
   (∀b,D b->D' b)/\(∀b,D' b->D b\/H b\/w.heap.size<=b)/\∀b,D' b->b<w'.heap.size/\¬fp b/\¬H' b):=by
  intro hz;obtain⟨hd,hdd,D',ρ',F',hcr⟩:=hs';have hD2: ∀b,D' b->D b\/H b\/w.heap.size<=b:=λb hb=>by
   rcases Nat.lt_or_ge b w.heap.size with h|h
   ·exact(hcr.D2 b hb h).elim .inl λh=>.inr (.inl h)
   ·exact .inr (.inr h)
  unfold retU at hz;cases he:S.eat with
  |true=>
   rw [he]at hz;simp only [cond_true]at hz⊢;split at hz
   case h_2=>cases hz
   rename_i z1 hz1;cases hz;obtain⟨v,fp,k1,k2,k3⟩:=M4 (fn:=fn) hcr hdd (Pq hΘ hz1);rw [D9]at k2;refine⟨hd,v,k1,v,fp,D',noF,rfl,hcr.fr,k2,λ_ h=>h,λb hb=>?_,λ_ h=>h.elim,λ_ _ h=>h,hcr.D1,hD2,λb hb=>⟨hcr.wr.Dlt b hb,λh=>?_,λh=>h⟩⟩
   ·obtain⟨i,hi⟩:=k3 b hb
    exact hcr.Fn i b hi
   ·obtain⟨i,hi⟩:=k3 b h
    exact hcr.wr.dD i b hi hb
  |false=>
   rw [he]at hz;simp only [cond_false]at hz⊢;split at hz
   case h_2=>cases hz
   rename_i x1 hx1;split at hz
   case h_2=>cases hz
   rename_i z1 hz1;cases hz;obtain⟨g1,g2⟩:=ZJ hd0 hx1;have hlen:0<s'.r.length:=by
    rcases Nat.eq_zero_or_pos s'.r.length with e|e
    ·exfalso;apply g2
     rw [gDE,List.getElem?_eq_none (by omega)];rfl
    ·exact e
   have hcr2:=PY hcr (j:=0) hlen;obtain⟨v,fp,k1,k2,k3⟩:=M4 (fn:=fn) (S:=(HS 0 s').den) hcr2 (BZ [0] hdd) (Pq hΘ hz1);rw [D9]at k2;have h1:=hcr.wr.rel 0 (by simpa [St.den]using hlen)
   have e1:s'.den.σ.getD 0 .dead=(s'.r.getD 0 .dead).v:=AG _ _;rw [e1,hcr.rt 0 (Nat.lt_succ_self 0)]at h1;have hne: ∀b,fp b->∃i,i≠0/\F' i b:=by
    intro b hb;obtain⟨i,hi⟩:=k3 b hb;split at hi
    ·exact hi.elim
    ·exact⟨i,by assumption,hi⟩
   refine⟨hd,v,k1,v,fp,D',F' 0,rfl,hcr.fr,k2,Rel.sub g1 h1,λb hb=>?_,λb hb=>hcr.Fn 0 b hb,λb hb hH=>?_,hcr.D1,hD2,λb hb=>⟨hcr.wr.Dlt b hb,λh=>?_,λh=>hcr.wr.dD 0 b h hb⟩⟩
   ·obtain⟨i,_,hi⟩:=hne b hb
    exact hcr.Fn i b hi
   ·obtain⟨i,h0,hi⟩:=hne b hb
    exact hcr.wr.disj i 0 b h0 hi hH
   ·obtain⟨i,_,hi⟩:=hne b h
    exact hcr.wr.dD i b hi hb
 cases e with
 |normal=>exact fin hz
 |ret=>exact fin hz
 |exit id=>cases hz
 |goto l=>cases hz
 |panic ch=>cases hz
 |outgrown=>cases hz
end Go.Ve

