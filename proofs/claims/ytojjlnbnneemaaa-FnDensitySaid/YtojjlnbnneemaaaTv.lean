/- The typed machine. -/
import Derived.Test.YtojjlnbnneemaaaTo
open Nat(le_refl beq)
set_option linter.all false
namespace Go.Ve
def Xu{P:Program}:∀e∈([]:List EnW),e.OK P:=by simp
end Go.Ve


namespace Go.Ve
variable{fn:Func}{P:Program}
theorem Nj{C:Ctx}{N:Nat}{S:Ms}{a:Act}{w:World}{D:Nat->Prop}{ρ:Nat->Value}{F:Nat->Nat->Prop}{r:V}(A:CR C S.σ ((List.range N).map S.t) a.tmps w D ρ F)(hdd:∀x,N<=x->S.t x=.dead)(U:Vc P S fn.results.toList [] (XR S.σ r)):
  ∃v fp,(results fn a.tmps).run P w=.ok v w/\Rel D w noR r v fp/\∀b,fp b->∃i,F i b:=by
 obtain⟨B,u,hrun,⟨E,heq⟩,hlen,hcl,hrel⟩:=KG A hdd fn.results.toList [] [] _ rfl (λj O=>by simp at O) U
 simp only[List.nil_append]at E heq
 have J:PC D w (Aq S.σ ρ w) (B.flatMap cellsV) (u.flatMap (·.cells.toList)).toArray:=by
  clear heq hrun hlen U
  induction B generalizing u with
  |nil=>cases u with
   |nil=>exact⟨rfl,λj O=>by simp at O⟩
   |cons=>simp at hcl
  |cons v B ih=>
   cases u with
   |nil=>simp at hcl
   |cons cv u=>
    simp only[List.all_cons,bAE]at E;obtain⟨⟨h1,h2⟩,_⟩:=Ch (λv cv h=>Aq.one h) E.1 (by simpa using hrel 0 (by simp))
    obtain⟨h3,h4⟩:=ih u E.2 (by simpa using hcl) (λj O=>by simpa using hrel (j+1) (by simpa using O))
    refine⟨by simp[h1]at h3⊢;omega,λj O=>?_⟩
    simp only[List.flatMap_cons];by_cases Y:j<(cellsV v).length
    .rw[AD Y]
     have e2:(cv.cells.toList++u.flatMap (·.cells.toList)).toArray.getD j undef=cv.cells.getD j undef:=by
      simp[gAL,h1,Y]
     rw[e2];exact h2 j Y
    .have hj2:j-(cellsV v).length<(B.flatMap cellsV).length:=by simp at O;simp;omega
     simp_all
 have hcr2:CR C S.σ (B.flatMap cellsV) (u.flatMap (·.cells.toList)).toArray w D ρ F:=⟨A.wr,J.1,J.2,A.fr,A.Fn,A.D1,A.D2,A.rt,A.ml⟩
 obtain⟨fps,hf1,hf2,hf3⟩:=MY (B.flatMap cellsV).length _ _ _ _ _ hcr2 (le_refl _);obtain⟨Z,G,hg1,hg2,hg3⟩:=Hz (λv cv h=>Aq.one h) B u (tkL (B.flatMap cellsV).length (B.flatMap cellsV) S.σ) fps hcl E hrel hf1 hf2 (Kw _ _ _ (le_refl _))
 have W:=NK (Bk B (tkL (B.flatMap cellsV).length (B.flatMap cellsV) S.σ)) u G (by rw[Z,hcl]) (λj O=>hg1 j (by rw[Z]at O;exact O)) hg2
 refine⟨_,_,Jp hrun,Rel.sub heq W,λb hb=>?_⟩
 obtain⟨j,_,hb⟩:=hb;obtain⟨i,hi⟩:=hg3 j b hb;exact hf3 i b hi
def insS(k:Nat)(l:List Sl):List Sl:=l.take k++ .one .dead::l.drop k
def insS_v{k:Nat}{l:List Sl}{r:List Ae}:(insS k l).map (Sl.v r)=UN k (l.map (Sl.v r)):=by
 unfold insS UN;rw[List.map_append,List.map_cons,List.map_take,List.map_drop];rfl
def H5(t:Ty)(d:Nat)(x:t.T):Ae:=B8 (.one (.c t d x))
def Nd(S:Ow)(z:(PT S.ps).T)(x:S.t.T):St:=⟨λi=>bif beq i S.k then .one (Nq 0 (H5 S.t S.d x))else(insS S.k (X7 S.ps z)).getD i (.one .dead),[H5 S.t S.d x]⟩
def Aa6(d:Nat):(t:Ty)->Ae->Option t.T
 |.ptr t,.obj _ l=>O9 t (d-1) l
 |.sl t,.arr _ t' d' xs=>if h:t'=t then(bif beq d' (d-1)then some (h▸xs)else none)else none
 |_,_=>none
def retU(Θ:Tab)(u:List ResultVar)(S:Ow)(s:St):Option ((RT S.rs).T×S.t.T):=bif S.eat then(match Aco true Θ u S.rs s with
 |some z=>some (z,S.t.dflt)
 |none=>none)else match Aa6 S.d S.t (s.r.getD 0 .dead)with
 |some x=>match Aco true Θ u S.rs (HV 0 s)with
  |some z=>some (z,x)
  |none=>none
 |none=>none
def retKU(Θ:Tab)(u:List ResultVar)(S:Ow):Exit->St->Option ((RT S.rs).T×S.t.T)
 |.normal,s=>retU Θ u S s
 |.ret,s=>retU Θ u S s
 |_,_=>none
noncomputable def tfnU(E:QV)(fn:Func)(S:Ow)(z:(PT S.ps).T)(x:S.t.T):Option ((RT S.rs).T×S.t.T):=match fn.body with
 |some b=>bif S.ok&&D5 (.one (.c S.t S.d x))&&Nat.ble 1 E.h.keep then AaJ E b (Nd S z x) (retKU E.Θ fn.results.toList S)else none
 |none=>none
theorem Aa5{d:Nat}{t:Ty}{r:Ae}{x:t.T}(hd:0<d)(h:Aa6 d t r=some x):Sub r.v (cV t d x)/\r≠.dead:=by
 unfold Aa6 at h;split at h
 .rename_i t ro l
  have B:=(Jx h []).1;have e:=(Jx h []).2;rw[e]at B;refine⟨?_,λh=>by grind⟩
  show Sub (Bp true (l.map Cl.v0)) (Bp (decide (0<d)) (tyV t (d-1) x));rw[dT hd];exact CV.obj B
 .rename_i t ro u J xs
  split at h
  case isFalse=>grind
  rename_i E;subst E;cases A:beq J (d-1)with
  |false=>grind
  |true=>
   rw[A]at h;cases h;rw[bqE A];refine⟨?_,λh=>by grind⟩
   show Sub (arr true u.w (tyV u (d-1)) u.dflt xs) (arr (decide (0<d)) u.w (tyV u (d-1)) u.dflt xs);rw[dT hd];exact Sub.refl _
 grind
theorem FTU_fn{E:QV}{f:FuncId}{S:Ow}(hΘ:Tab.OK P E.Θ)(hΓ:Hh P E.Γ)(hW:∀e∈E.W,e.OK P)(hN:∀e∈E.N,e.OK P)(hm:P.follows .mixedOrders=true)(hf:P.funcs[f]? =some fn)(hn:max (S.ps.length+1) fn.ntmps=E.h.n)
  {g:(PT S.ps).T->S.t.T->Option ((RT S.rs).T×S.t.T)} (hg:tfnU E fn S=g) (hU:∀e∈E.U,e.OK P:=by exact Bg):FTU P f S g:=by
 subst hg;intro z x u Z;unfold tfnU at Z;split at Z
 case h_2=>cases Z
 rename_i body B;obtain⟨hc,Z⟩:=Bc Z;simp only[bAE]at hc;obtain⟨⟨hok,hroot⟩,hkp⟩:=hc;have hkp:=blE hkp;unfold Ow.ok at hok;simp only[bAE]at hok;obtain⟨⟨hd0,hk0⟩,_⟩:=hok;have hd0:0<S.d:=blE hd0;have hk0:S.k<=S.ps.length:=blE hk0;obtain⟨_,r2,⟨s0,sz0,n0,f0,r3,r4⟩,r5⟩:=Co hroot;have hcv:cV S.t S.d x=(H5 S.t S.d x).v:=r2 [];intro w D H cvs hk htab hD hHD hsz hrel0 hargs;rw[IZ,DR]at hsz hargs
 let C:Ctx:=⟨w,H,D,1,λ_=>cvs.getD S.k undef,hk,λp hp=>htab p hp⟩
 refine calls_of_wp hf B ?_;have hrel:Rel D w noR (H5 S.t S.d x).v (cvs.getD S.k undef) H:=by rw[<-hcv];exact hrel0
 have hs:AQ C E.h.n (Nd S z x).den {tmps:=cvs++Array.replicate (fn.ntmps-cvs.size) undef,defers:=[]} w:=by
  have hins:∀i,((insS S.k (X7 S.ps z)).getD i (.one .dead)).v [H5 S.t S.d x]=(UN S.k (CU S.ps z)).getD i .dead:=by
   intro i
   have e1:(X7 S.ps z).map (Sl.v [H5 S.t S.d x])=CU S.ps z:=by
    rw[<-XG];refine List.map_congr_left λy Y=>?_
    have:∀(l:List (Bool×Ty)) (z:(PT l).T),∀y∈X7 l z,y.stay=true:=by
     have one:∀(b:Bool) (t:Ty) (x:t.T),(pS b t x).stay=true:=by
      intro b t x
      have cs:∀(t:Ty) (x:t.T),(AA t 0 x).all Cl.stay=true:=by
       intro t
       induction t with
       |pair a b iha ihb=>intro x;show((AA a 0 x.1++AA b 0 x.2).all Cl.stay)=true;rw[List.all_append,iha,ihb];rfl
       |_=>intro x;rfl
      cases b with
      |true=>exact cs t x
      |false=>rfl
     intro l
     induction l with
     |nil=>intro z y Y;cases Y
     |cons p l ih=>
      intro z y Y;cases l with
      |nil=>
       rw[List.mem_singleton.1 Y];exact one _ _ _
      |cons q l=>
       rcases List.mem_cons.1 Y with rfl|Y
       .exact one _ _ _
       .exact ih z.2 y Y
    exact PY (this S.ps z y Y) _ _
   rw[<-e1,<-insS_v,AM (f:=Sl.v [H5 S.t S.d x]) (a:=.one .dead) rfl]
  have hslot:∀i,(Nd S z x).den.t i=if i=S.k then KJ 0 (H5 S.t S.d x).v else(UN S.k (CU S.ps z)).getD i .dead:=by
   intro i;show(bif beq i S.k then Sl.one (Nq 0 (H5 S.t S.d x))else(insS S.k (X7 S.ps z)).getD i (.one .dead)).v [H5 S.t S.d x]=_;by_cases J:i=S.k
   .subst J
    rw[Nat.beq_refl,if_pos rfl,cond_true];have:=r5 [.dead] 0 (by simp)
    exact this
   .rw[BK J,if_neg J,cond_false]
    exact hins i
  have hsig:(Nd S z x).den.σ=[(H5 S.t S.d x).v]:=rfl;refine⟨rfl,λy Y=>?_,D,λ_=>cvs.getD S.k undef,λi=>if i=0 then H else noF,⟨⟨λi J=>?_,λi j b hij h1 h2=>?_,λi b B=>?_,hD,λi b J B=>?_⟩,by simp[hsz];omega,λy Y=>?_,⟨rfl,rfl,rfl,le_refl _,λ_ _ _=>rfl,le_refl _⟩,λi b B=>?_,λ_ h=>h,λ_ h _=>.inl h,λ_ _=>rfl,by rw[hsig];exact le_refl _⟩⟩
  .rw[hslot,if_neg (by omega)]
   exact Mq (by rw[IZ,DR];omega)
  .have J:i<1:=J
   obtain rfl:i=0:=by omega
   exact Rel.fp_congr (λb=>by rw[if_pos rfl]) hrel
  .split at h1<;>split at h2
   .omega
   .exact h2.elim
   .exact h1.elim
   .exact h1.elim
  .split at B
   .exact hHD b B
   .exact B.elim
  .have J:1<=i:=J
   rw[if_neg (by omega)]at B
   exact B.elim
  .rw[AY (by simpa using Y),hslot]
   have Y:y<E.h.n:=by simpa using Y
   by_cases hyk:y=S.k
   .subst hyk
    rw[if_pos rfl]
    have e2:(cvs++Array.replicate (fn.ntmps-cvs.size) undef).getD S.k undef=cvs.getD S.k undef:=by
     have:S.k<cvs.size:=by omega
     simp[Array.getElem?_append_left this]
    rw[e2];have e3:(H5 S.t S.d x).v=.nd s0 true sz0 n0 f0:=r3;rw[e3];refine LT (σ:=[(H5 S.t S.d x).v]) (H:=H) (ρ:=λ_=>cvs.getD S.k undef) (by simp) e3 r4 ?_
    rw[<-e3];exact hrel
   .rw[if_neg hyk]
    by_cases hta:y<S.ps.length+1
    .have e2:(cvs++Array.replicate (fn.ntmps-cvs.size) undef).getD y undef=cvs.getD y undef:=by
      have:y<cvs.size:=by omega
      simp[Array.getElem?_append_left this]
     rw[e2];exact Rel.noR_mono (hargs y hta hyk)
    .rw[Mq (by rw[IZ,DR];omega)]
     exact λ_ h=>h
  .split at B
   .exact .inl B
   .exact B.elim
 refine PL ⟨hΘ,hΓ,hW,hN,hU⟩ hm hkp body (Nd S z x) _ u _ _ w hs Z λe s' a' w' _ hs' O=>?_
 have fin:retU E.Θ fn.results.toList S s'=some u->a'.defers=[]/\∃v,(results fn a'.tmps).run P w'=.ok v w'/\(∃cv fp D' H',Ending.returned v=.returned cv/\Fr w w' H/\Rel D' w' noR (Wd S.rs u.1) cv fp/\Rel D' w' noR (bif S.eat then .dead else cV S.t S.d u.2) (cvs.getD S.k undef) H'/\
   (∀b,fp b->H b\/w.heap.size<=b)/\(∀b,H' b->H b\/w.heap.size<=b)/\(∀b,fp b->¬H' b)/\
   (∀b,D b->D' b)/\(∀b,D' b->D b\/H b\/w.heap.size<=b)/\∀b,D' b->b<w'.heap.size/\¬fp b/\¬H' b):=by
  intro O;obtain⟨hd,hdd,D',ρ',F',A⟩:=hs';have hD2:∀b,D' b->D b\/H b\/w.heap.size<=b:=λb B=>by
   rcases Nat.lt_or_ge b w.heap.size with h|h
   .exact(A.D2 b B h).elim .inl λh=>.inr (.inl h)
   .exact .inr (.inr h)
  unfold retU at O;cases he:S.eat with
  |true=>
   rw[he]at O;simp only[cond_true]at O⊢;split at O
   case h_2=>cases O
   rename_i z1 hz1;cases O;obtain⟨v,fp,k1,k2,k3⟩:=Nj (fn:=fn) A hdd (P5 hΘ hz1);rw[Jq]at k2;refine⟨hd,v,k1,v,fp,D',noF,rfl,A.fr,k2,λ_ h=>h,λb B=>?_,λ_ h=>h.elim,λ_ _ h=>h,A.D1,hD2,λb B=>⟨A.wr.Dlt b B,λh=>?_,λh=>h⟩⟩
   .obtain⟨i,J⟩:=k3 b B
    exact A.Fn i b J
   .obtain⟨i,J⟩:=k3 b h
    exact A.wr.dD i b J B
  |false=>
   rw[he]at O;simp only[cond_false]at O⊢;split at O
   case h_2=>cases O
   rename_i x1 hx1;split at O
   case h_2=>cases O
   rename_i z1 hz1;cases O;obtain⟨g1,g2⟩:=Aa5 hd0 hx1;have hlen:0<s'.r.length:=by
    rcases Nat.eq_zero_or_pos s'.r.length with e|e
    .exfalso;apply g2
     rw[gDE,List.getElem?_eq_none (by omega)];rfl
    .exact e
   have hcr2:=QF A (j:=0) hlen;obtain⟨v,fp,k1,k2,k3⟩:=Nj (fn:=fn) (S:=(HV 0 s').den) hcr2 (BZ [0] hdd) (P5 hΘ hz1);rw[Jq]at k2;have h1:=A.wr.rel 0 (by simpa [St.den]using hlen)
   have e1:s'.den.σ.getD 0 .dead=(s'.r.getD 0 .dead).v:=Ax _ _;rw[e1,A.rt 0 (Nat.lt_succ_self 0)]at h1;have hne:∀b,fp b->∃i,i≠0/\F' i b:=by
    intro b B;obtain⟨i,J⟩:=k3 b B;split at J
    .exact J.elim
    .exact⟨i,by assumption,J⟩
   refine⟨hd,v,k1,v,fp,D',F' 0,rfl,A.fr,k2,Rel.sub g1 h1,λb B=>?_,λb B=>A.Fn 0 b B,λb B hH=>?_,A.D1,hD2,λb B=>⟨A.wr.Dlt b B,λh=>?_,λh=>A.wr.dD 0 b h B⟩⟩
   .obtain⟨i,_,J⟩:=hne b B
    exact A.Fn i b J
   .obtain⟨i,h0,J⟩:=hne b B
    exact A.wr.disj i 0 b h0 J hH
   .obtain⟨i,_,J⟩:=hne b h
    exact A.wr.dD i b J B
 cases e with
 |normal=>exact fin O
 |ret=>exact fin O
 |exit id=>cases O
 |goto l=>cases O
 |panic ch=>cases O
 |outgrown=>cases O
end Go.Ve

