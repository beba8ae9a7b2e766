/- The typed machine: what a function computes that writes its owned arguments; its contract. -/
import Derived.Test.YtojjlnbnneemaaaTo
set_option linter.all false
namespace Go.Ve
def Aw{P:Program}:∀e∈([]:List EnW),e.OK P:=by simp
end Go.Ve


namespace Go.Ve
variable{fn:Func}{P:Program}
theorem JP{C:Ctx}{N:Nat}{S:Ms}{a:Act}{w:World}{D:Nat->Prop}{ρ:Nat->Value}{F:Nat->Nat->Prop}{r:V}(A:CR C S.σ ((List.range N).map S.t) a.tmps w D ρ F)(hdd:∀x,N<=x->S.t x=.dead)(M:VI P S fn.results.toList [] (XX S.σ r)):
  ∃v fp,(results fn a.tmps).run P w=.ok v w/\Rel D w noR r v fp/\∀b,fp b->∃i,F i b:=by
 obtain⟨B,e,hrun,⟨E,heq⟩,hlen,hcl,hrel⟩:=Ld A hdd fn.results.toList [] [] _ rfl (λj L=>by simp at L) M
 simp only[List.nil_append]at E heq
 have J:Qa D w (Am S.σ ρ w) (B.flatMap cellsV) (e.flatMap (·.cells.toList)).toArray:=by
  clear heq hrun hlen M
  induction B generalizing e with
  |nil=>cases e with
   |nil=>exact⟨rfl,λj L=>by simp at L⟩
   |cons=>simp at hcl
  |cons v B ih=>
   cases e with
   |nil=>simp at hcl
   |cons cv e=>
    simp only[List.all_cons,bAE]at E;obtain⟨⟨h1,h2⟩,_⟩:=Ce (λv cv h=>Am.one h) E.1 (by simpa using hrel 0 (by simp))
    obtain⟨h3,h4⟩:=ih e E.2 (by simpa using hcl) (λj L=>by simpa using hrel (j+1) (by simpa using L))
    refine⟨by simp[h1]at h3⊢;omega,λj L=>?_⟩
    simp only[List.flatMap_cons];by_cases U:j<(cellsV v).length
    .rw[AE U]
     have e2:(cv.cells.toList++e.flatMap (·.cells.toList)).toArray.getD j undef=cv.cells.getD j undef:=by
      simp[gAL,h1,U]
     rw[e2];exact h2 j U
    .have hj2:j-(cellsV v).length<(B.flatMap cellsV).length:=by simp at L;simp;omega
     simp_all
 have Y:CR C S.σ (B.flatMap cellsV) (e.flatMap (·.cells.toList)).toArray w D ρ F:=⟨A.wr,J.1,J.2,A.fr,A.Fn,A.D1,A.D2,A.rt,A.ml⟩
 obtain⟨fps,hf1,hf2,hf3⟩:=Nr (B.flatMap cellsV).length _ _ _ _ _ Y (Nat.le_refl _);obtain⟨W,G,hg1,hg2,Z⟩:=HR (λv cv h=>Am.one h) B e (tkL (B.flatMap cellsV).length (B.flatMap cellsV) S.σ) fps hcl E hrel hf1 hf2 (K5 _ _ _ (Nat.le_refl _))
 have O:=Ok (Bm B (tkL (B.flatMap cellsV).length (B.flatMap cellsV) S.σ)) e G (by rw[W,hcl]) (λj L=>hg1 j (by rw[W]at L;exact L)) hg2
 refine⟨_,_,JQ hrun,Rel.sub heq O,λb hb=>?_⟩
 obtain⟨j,_,hb⟩:=hb;obtain⟨i,hi⟩:=Z j b hb;exact hf3 i b hi
def insS(k:Nat)(l:List Sl):List Sl:=l.take k++ .one .dead::l.drop k
def insS_v{k:Nat}{l:List Sl}{r:List Ac}:(insS k l).map (Sl.v r)=Vi k (l.map (Sl.v r)):=by
 unfold insS Vi;rw[List.map_append,List.map_cons,List.map_take,List.map_drop];rfl
def Ir(t:Ty)(d:Nat)(x:t.T):Ac:=B6 (.one (.c t d x))
def NI(S:O5)(z:(PT S.ps).T)(x:S.t.T):St:=⟨λi=>bif Nat.beq i S.k then .one (NV 0 (Ir S.t S.d x))else(insS S.k (Ya S.ps z)).getD i (.one .dead),[Ir S.t S.d x]⟩
def Abe(d:Nat):(t:Ty)->Ac->Option t.T
 |.ptr t,.obj _ l=>J0 t (d-1) l
 |.sl t,.arr _ t' d' xs=>if h:t'=t then(bif Nat.beq d' (d-1)then some (h▸xs)else none)else none
 |_,_=>none
def retU(Θ:Tab)(e:List ResultVar)(S:O5)(s:St):Option ((RT S.rs).T×S.t.T):=bif S.eat then(match Abf true Θ e S.rs s with
 |some z=>some (z,S.t.dflt)
 |none=>none)else match Abe S.d S.t (s.r.getD 0 .dead)with
 |some x=>match Abf true Θ e S.rs (Ie 0 s)with
  |some z=>some (z,x)
  |none=>none
 |none=>none
def retKU(Θ:Tab)(e:List ResultVar)(S:O5):Exit->St->Option ((RT S.rs).T×S.t.T)
 |.normal,s=>retU Θ e S s
 |.ret,s=>retU Θ e S s
 |_,_=>none
noncomputable def AaP(E:Bt)(fn:Func)(S:O5)(z:(PT S.ps).T)(x:S.t.T):Option ((RT S.rs).T×S.t.T):=match fn.body with
 |some b=>bif S.ok&&Ho (.one (.c S.t S.d x))&&Nat.ble 1 E.h.keep then Ym E b (NI S z x) (retKU E.Θ fn.results.toList S)else none
 |none=>none
theorem Abd{d:Nat}{t:Ty}{r:Ac}{x:t.T}(hd:0<d)(h:Abe d t r=some x):Sub r.v (cV t d x)/\r≠.dead:=by
 unfold Abe at h;split at h
 .rename_i t ro l
  have E:=(DY h []).1;have e:=(DY h []).2;rw[e]at E;refine⟨?_,λh=>by grind⟩
  show Sub (Bi true (l.map Cl.v0)) (Bi (decide (0<d)) (tyV t (d-1) x));rw[dT hd];exact CG.obj E
 .rename_i t ro A J xs
  split at h
  case isFalse=>grind
  rename_i F;subst F;cases B:Nat.beq J (d-1)with
  |false=>grind
  |true=>
   rw[B]at h;cases h;rw[bqE B];refine⟨?_,λh=>by grind⟩
   show Sub (arr true A.w (tyV A (d-1)) A.dflt xs) (arr (decide (0<d)) A.w (tyV A (d-1)) A.dflt xs);rw[dT hd];exact Sub.refl _
 grind
theorem O6{E:Bt}{f:FuncId}{S:O5}(hΘ:Tab.OK P E.Θ)(hΓ:KZ P E.Γ)(hW:∀e∈E.W,e.OK P)(hN:∀e∈E.N,e.OK P)(hm:P.follows .mixedOrders=true)(hf:P.funcs[f]? =some fn)(hn:max (S.ps.length+1) fn.ntmps=E.h.n)
  {g:(PT S.ps).T->S.t.T->Option ((RT S.rs).T×S.t.T)} (hg:AaP E fn S=g) (hU:∀e∈E.U,e.OK P:=by exact Dh) (hM:∀e∈E.M,e.OK P:=by exact MY):FTU P f S g:=by
 subst hg;intro z x u O;unfold AaP at O;split at O
 case h_2=>cases O
 rename_i body B;obtain⟨hc,O⟩:=A7 O;simp only[bAE]at hc;obtain⟨⟨hok,hroot⟩,hkp⟩:=hc;have hkp:=blE hkp;unfold O5.ok at hok;simp only[bAE]at hok;obtain⟨⟨hd0,hk0⟩,_⟩:=hok;have hd0:0<S.d:=blE hd0;have hk0:S.k<=S.ps.length:=blE hk0;obtain⟨_,r2,⟨s0,sz0,n0,f0,r3,r4⟩,r5⟩:=Ck hroot;have hcv:cV S.t S.d x=(Ir S.t S.d x).v:=r2 [];intro w D H cvs hk htab hD hHD hsz hrel0 Z;rw[Jt,Hc]at hsz Z
 let C:Ctx:=⟨w,H,D,1,λ_=>cvs.getD S.k undef,hk,λp hp=>htab p hp⟩
 refine calls_of_wp hf B ?_;have hrel:Rel D w noR (Ir S.t S.d x).v (cvs.getD S.k undef) H:=by rw[<-hcv];exact hrel0
 have hs:AU C E.h.n (NI S z x).den {tmps:=cvs++Array.replicate (fn.ntmps-cvs.size) undef,defers:=[]} w:=by
  have hins:∀i,((insS S.k (Ya S.ps z)).getD i (.one .dead)).v [Ir S.t S.d x]=(Vi S.k (CC S.ps z)).getD i .dead:=by
   intro i
   have e1:(Ya S.ps z).map (Sl.v [Ir S.t S.d x])=CC S.ps z:=by
    rw[<-XN];refine List.map_congr_left λy L=>?_
    have:∀(l:List (Bool×Ty)) (z:(PT l).T),∀y∈Ya l z,y.stay=true:=by
     have one:∀(b:Bool) (t:Ty) (x:t.T),(pS b t x).stay=true:=by
      intro b t x
      have cs:∀(t:Ty) (x:t.T),(AA t 0 x).all Cl.stay=true:=by
       intro t
       induction t with
       |pair a b iha ihb=>intro x;show((AA a 0 x.1++AA b 0 x.2).all Cl.stay)=true;rw[List.all_append,iha,ihb];rfl
       |_=>intro x;rfl
      cases b with
      |true=>exact cs t x
      |false=>rfl
     intro l
     induction l with
     |nil=>intro z y L;cases L
     |cons p l ih=>
      intro z y L;cases l with
      |nil=>
       rw[List.mem_singleton.1 L];exact one _ _ _
      |cons q l=>
       rcases List.mem_cons.1 L with rfl|L
       .exact one _ _ _
       .exact ih z.2 y L
    exact Qm (this S.ps z y L) _ _
   rw[<-e1,<-insS_v,AG (f:=Sl.v [Ir S.t S.d x]) (a:=.one .dead) rfl]
  have Y:∀i,(NI S z x).den.t i=if i=S.k then Lf 0 (Ir S.t S.d x).v else(Vi S.k (CC S.ps z)).getD i .dead:=by
   intro i;show(bif Nat.beq i S.k then Sl.one (NV 0 (Ir S.t S.d x))else(insS S.k (Ya S.ps z)).getD i (.one .dead)).v [Ir S.t S.d x]=_;by_cases F:i=S.k
   .subst F
    rw[Nat.beq_refl,if_pos rfl,cond_true];have:=r5 [.dead] 0 (by simp)
    exact this
   .rw[BE F,if_neg F,cond_false]
    exact hins i
  have hsig:(NI S z x).den.σ=[(Ir S.t S.d x).v]:=rfl;refine⟨rfl,λy L=>?_,D,λ_=>cvs.getD S.k undef,λi=>if i=0 then H else noF,⟨⟨λi F=>?_,λi j b hij h1 h2=>?_,λi b B=>?_,hD,λi b F B=>?_⟩,by simp[hsz];omega,λy L=>?_,⟨rfl,rfl,rfl,Nat.le_refl _,λ_ _ _=>rfl,Nat.le_refl _⟩,λi b B=>?_,λ_ h=>h,λ_ h _=>.inl h,λ_ _=>rfl,by rw[hsig];exact Nat.le_refl _⟩⟩
  .rw[Y,if_neg (by omega)]
   exact IM (by rw[Jt,Hc];omega)
  .have F:i<1:=F
   obtain rfl:i=0:=by omega
   exact Rel.fp_congr (λb=>by rw[if_pos rfl]) hrel
  .split at h1<;>split at h2
   .omega
   .exact h2.elim
   .exact h1.elim
   .exact h1.elim
  .split at B
   .exact hHD b B
   .exact B.elim
  .have F:1<=i:=F
   rw[if_neg (by omega)]at B
   exact B.elim
  .rw[AX (by simpa using L),Y]
   have L:y<E.h.n:=by simpa using L
   by_cases hyk:y=S.k
   .subst hyk
    rw[if_pos rfl]
    have e2:(cvs++Array.replicate (fn.ntmps-cvs.size) undef).getD S.k undef=cvs.getD S.k undef:=by
     have:S.k<cvs.size:=by omega
     simp[Array.getElem?_append_left this]
    rw[e2];have e3:(Ir S.t S.d x).v=.nd s0 true sz0 n0 f0:=r3;rw[e3];refine Mo (σ:=[(Ir S.t S.d x).v]) (H:=H) (ρ:=λ_=>cvs.getD S.k undef) (by simp) e3 r4 ?_
    rw[<-e3];exact hrel
   .rw[if_neg hyk]
    by_cases hta:y<S.ps.length+1
    .have e2:(cvs++Array.replicate (fn.ntmps-cvs.size) undef).getD y undef=cvs.getD y undef:=by
      have:y<cvs.size:=by omega
      simp[Array.getElem?_append_left this]
     rw[e2];exact Rel.noR_mono (Z y hta hyk)
    .rw[IM (by rw[Jt,Hc];omega)]
     exact λ_ h=>h
  .split at B
   .exact .inl B
   .exact B.elim
 refine L5 ⟨hΘ,hΓ,hW,hN,hU,hM⟩ hm hkp body (NI S z x) _ u _ _ w hs O λe s' a' w' _ hs' J=>?_
 have fin:retU E.Θ fn.results.toList S s'=some u->a'.defers=[]/\∃v,(results fn a'.tmps).run P w'=.ok v w'/\(∃cv fp D' H',Ending.returned v=.returned cv/\Fr w w' H/\Rel D' w' noR (NP S.rs u.1) cv fp/\Rel D' w' noR (bif S.eat then .dead else cV S.t S.d u.2) (cvs.getD S.k undef) H'/\
   (∀b,fp b->H b\/w.heap.size<=b)/\(∀b,H' b->H b\/w.heap.size<=b)/\(∀b,fp b->¬H' b)/\
   (∀b,D b->D' b)/\(∀b,D' b->D b\/H b\/w.heap.size<=b)/\∀b,D' b->b<w'.heap.size/\¬fp b/\¬H' b):=by
  intro J;obtain⟨hd,hdd,D',ρ',F',A⟩:=hs';have hD2:∀b,D' b->D b\/H b\/w.heap.size<=b:=λb B=>by
   rcases Nat.lt_or_ge b w.heap.size with h|h
   .exact(A.D2 b B h).elim .inl λh=>.inr (.inl h)
   .exact .inr (.inr h)
  unfold retU at J;cases he:S.eat with
  |true=>
   rw[he]at J;simp only[cond_true]at J⊢;split at J
   case h_2=>cases J
   rename_i z1 hz1;cases J;obtain⟨v,fp,k1,k2,k3⟩:=JP (fn:=fn) A hdd (NO hΘ hz1);rw[Dx]at k2;refine⟨hd,v,k1,v,fp,D',noF,rfl,A.fr,k2,λ_ h=>h,λb B=>?_,λ_ h=>h.elim,λ_ _ h=>h,A.D1,hD2,λb B=>⟨A.wr.Dlt b B,λh=>?_,λh=>h⟩⟩
   .obtain⟨i,F⟩:=k3 b B
    exact A.Fn i b F
   .obtain⟨i,F⟩:=k3 b h
    exact A.wr.dD i b F B
  |false=>
   rw[he]at J;simp only[cond_false]at J⊢;split at J
   case h_2=>cases J
   rename_i x1 hx1;split at J
   case h_2=>cases J
   rename_i z1 hz1;cases J;obtain⟨g1,g2⟩:=Abd hd0 hx1;have hlen:0<s'.r.length:=by
    rcases Nat.eq_zero_or_pos s'.r.length with e|e
    .exfalso;apply g2
     rw[gDE,List.getElem?_eq_none (by omega)];rfl
    .exact e
   have hcr2:=Q9 A (j:=0) hlen;obtain⟨v,fp,k1,k2,k3⟩:=JP (fn:=fn) (S:=(Ie 0 s').den) hcr2 (BK [0] hdd) (NO hΘ hz1);rw[Dx]at k2;have h1:=A.wr.rel 0 (by simpa [St.den]using hlen)
   have e1:s'.den.σ.getD 0 .dead=(s'.r.getD 0 .dead).v:=Aq _ _;rw[e1,A.rt 0 (Nat.lt_succ_self 0)]at h1;have hne:∀b,fp b->∃i,i≠0/\F' i b:=by
    intro b B;obtain⟨i,F⟩:=k3 b B;split at F
    .exact F.elim
    .exact⟨i,by assumption,F⟩
   refine⟨hd,v,k1,v,fp,D',F' 0,rfl,A.fr,k2,Rel.sub g1 h1,λb B=>?_,λb B=>A.Fn 0 b B,λb B hH=>?_,A.D1,hD2,λb B=>⟨A.wr.Dlt b B,λh=>?_,λh=>A.wr.dD 0 b h B⟩⟩
   .obtain⟨i,_,F⟩:=hne b B
    exact A.Fn i b F
   .obtain⟨i,h0,F⟩:=hne b B
    exact A.wr.disj i 0 b h0 F hH
   .obtain⟨i,_,F⟩:=hne b h
    exact A.wr.dD i b F B
 cases e with
 |normal=>exact fin J
 |ret=>exact fin J
 |exit id=>cases J
 |goto l=>cases J
 |panic ch=>cases J
 |outgrown=>cases J
end Go.Ve


namespace Go.Ve
def Qn(S:AaD)(z:(PM S.ps).T)(x:(TM S.ts).T):St:=⟨λi=>(Jj S.ps z).getD i (.one .dead),Bd S.ts x⟩
def Qq(r:List Ac):(ts:List (Nat×Ty))->Nat->Option (TM ts).T
 |[],_=>some ()
 |p::l,i=>match r.getD i .dead with
  |.obj _ c=>match J0 p.2 p.1 c with
   |some x=>match Qq r l (i+1)with
    |some z=>some (x,z)
    |none=>none
   |none=>none
  |_=>none
def YE(Θ:Tab)(e:List ResultVar)(S:AaD)(s:St):Option ((RT S.rs).T×(TM S.ts).T):=match Qq s.r S.ts 0 with
 |some x=>match Abf true Θ e S.rs (Ap (List.range S.ts.length) s)with
  |some z=>some (z,x)
  |none=>none
 |none=>none
def retKM(Θ:Tab)(e:List ResultVar)(S:AaD):Exit->St->Option ((RT S.rs).T×(TM S.ts).T)
 |.normal,s=>YE Θ e S s
 |.ret,s=>YE Θ e S s
 |_,_=>none
noncomputable def tfnM(E:Bt)(fn:Func)(S:AaD)(z:(PM S.ps).T)(x:(TM S.ts).T):Option ((RT S.rs).T×(TM S.ts).T):=match fn.body with
 |some b=>bif Nat.ble S.ts.length E.h.keep then Ym E b (Qn S z x) (retKM E.Θ fn.results.toList S)else none
 |none=>none
def Qp{r:List Ac}:∀{ts:List (Nat×Ty)}{i:Nat}{x:(TM ts).T},Qq r ts i=some x->∀k,k<ts.length->Sub (r.getD (i+k) .dead).v ((Bd ts x).getD k .dead).v/\i+k<r.length
 |[],_,_,_,k,hk=>by simp at hk
 |p::l,i,x,h,k,hk=>by
  unfold Qq at h;split at h
  case h_2=>cases h
  rename_i ro c e;split at h
  case h_2=>cases h
  rename_i y B;split at h
  case h_2=>cases h
  rename_i z A;cases h;cases k with
  |zero=>
   obtain⟨g1,g2⟩:=DY B [];rw[g2]at g1;refine⟨?_,?_⟩
   .show Sub (r.getD i .dead).v (Bi true ((AA p.2 p.1 y).map Cl.v0))
    rw[e,Bv];exact CG.obj g1
   .rcases Nat.lt_or_ge i r.length with h|h
    .exact h
    .rw[gDE,List.getElem?_eq_none h]at e;cases e
  |succ k=>
   have:=Qp A k (by simpa using hk)
   rw[show i+(k+1)=i+1+k by omega]
   exact this
def Nb:∀(l:List AM) (z:(PM l).T),∀y∈Jj l z,∀r,y.v r=y.v []
 |[],_,y,hy,_=>by cases hy
 |.p b t::l,z,y,hy,r=>by
  rcases List.mem_cons.1 hy with rfl|hy
  .cases b with
   |true=>show Aj ((AA t 0 z.1).map (Cl.v r))=Aj ((AA t 0 z.1).map (Cl.v []));rw[Cl.v_c,Cl.v_c]
   |false=>rfl
  .exact Nb l z.2 y hy r
 |.r i p j k::l,z,y,hy,r=>by
  rcases List.mem_cons.1 hy with rfl|hy
  .rfl
  .exact Nb l z y hy r
 |.k g c::l,z,y,hy,r=>by
  rcases List.mem_cons.1 hy with rfl|hy
  .have:∀(c:List CM) (x:(CsM c).T),(M8 c x).map (Cl.v r)=(M8 c x).map (Cl.v []):=by
    intro c
    induction c with
    |nil=>intro x;rfl
    |cons a c e=>
     intro x;cases a with
     |p t=>exact congrArg (cV t 0 x.1:: ·) (e x.2)
     |r i p j k=>exact congrArg (V.rp i p j k:: ·) (e x)
   exact congrArg (pkL (.cl g)) (this c z.1)
  .exact Nb l z.2 y hy r
def FTM_fn{P:Program}{E:Bt}{f:FuncId}{fn:Func}{S:AaD}(hΘ:Tab.OK P E.Θ)(hΓ:KZ P E.Γ)(hW:∀e∈E.W,e.OK P)(hN:∀e∈E.N,e.OK P)(hm:P.follows .mixedOrders=true)(hf:P.funcs[f]? =some fn)(hn:max S.ps.length fn.ntmps=E.h.n)
  {g:(PM S.ps).T->(TM S.ts).T->Option ((RT S.rs).T×(TM S.ts).T)} (hg:tfnM E fn S=g) (hU:∀e∈E.U,e.OK P:=by exact Dh) (hM:∀e∈E.M,e.OK P:=by exact MY):FTM P f S g:=by
 subst hg;intro z x u O;unfold tfnM at O;split at O
 case h_2=>cases O
 rename_i body B;obtain⟨hkp,O⟩:=A7 O;have hkp:=blE hkp;intro w D ρ F cvs hk htab wr hsz Z
 have hal:∀(l:List AM) (z:(PM l).T),(Jj l z).length=l.length:=by
  intro l
  induction l with
  |nil=>intro z;rfl
  |cons a l ih=>
   intro z;cases a with
   |p b t=>exact congrArg (· +1) (ih z.2)
   |r i p j k=>exact congrArg (· +1) (ih z)
   |k g c=>exact congrArg (· +1) (ih z.2)
 rw[List.length_map,hal]at hsz Z
 let C:Ctx:=⟨w,λb=>∃i,F i b,D,S.ts.length,ρ,hk,λp hp ⟨i,J⟩=>htab p hp i J⟩
 refine calls_of_wp hf B ?_;have hrl:((Bd S.ts x).map Ac.v).length=S.ts.length:=by rw[List.length_map,CJ]
 have hs:AU C E.h.n (Qn S z x).den {tmps:=cvs++Array.replicate (fn.ntmps-cvs.size) undef,defers:=[]} w:=by
  have Y:∀i,(Qn S z x).den.t i=((Jj S.ps z).map (Sl.v [])).getD i .dead:=by
   intro i;show((Jj S.ps z).getD i (.one .dead)).v (Bd S.ts x)=_;rw[AG (f:=Sl.v []) (a:=.one .dead) rfl];by_cases J:i<(Jj S.ps z).length
   .refine Nb S.ps z _ ?_ _
    simp[J]
   .rw[gDE,List.getElem?_eq_none (Nat.le_of_not_lt J)];rfl
  refine⟨rfl,λy hy=>?_,D,ρ,F,⟨wr,by simp[hsz];omega,λy hy=>?_,⟨rfl,rfl,rfl,Nat.le_refl _,λ_ _ _=>rfl,Nat.le_refl _⟩,λi b B=>.inl ⟨i,B⟩,λ_ h=>h,λ_ h _=>.inl h,λ_ _=>rfl,by show S.ts.length<=((Bd S.ts x).map Ac.v).length;rw[hrl];exact Nat.le_refl _⟩⟩
  .rw[Y]
   exact IM (by rw[List.length_map,hal];omega)
  .rw[AX (by simpa using hy),Y]
   by_cases hta:y<S.ps.length
   .have e2:(cvs++Array.replicate (fn.ntmps-cvs.size) undef).getD y undef=cvs.getD y undef:=by
     have:y<cvs.size:=by omega
     simp[Array.getElem?_append_left this]
    rw[e2];exact Z y hta
   .rw[IM (by rw[List.length_map,hal];omega)]
    exact λ_ h=>h
 refine L5 ⟨hΘ,hΓ,hW,hN,hU,hM⟩ hm hkp body (Qn S z x) _ u _ _ w hs O λe s' a' w' _ hs' L=>?_
 have fin:YE E.Θ fn.results.toList S s'=some u->a'.defers=[]/\∃v,(results fn a'.tmps).run P w'=.ok v w'/\(∃(cv:Value) (fp D':Nat->Prop) (F':Nat->Nat->Prop),Ending.returned v=.returned cv/\Rel D' w' noR (NP S.rs u.1) cv fp/\Bs ((Bd S.ts u.2).map Ac.v) w' D' ρ F'/\Fr w w' (λb=>∃i,F i b)/\
   (∀b,fp b->((∃j,F j b)\/w.heap.size<=b)/\¬D' b/\∀i,¬F' i b)/\(∀i b,F' i b->(∃j,F j b)\/w.heap.size<=b)/\(∀b,D b->D' b)/\(∀b,D' b->D b\/(∃j,F j b)\/w.heap.size<=b)):=by
  intro L;obtain⟨hd,hdd,D',ρ',F',A⟩:=hs';unfold YE at L;split at L
  case h_2=>cases L
  rename_i x1 hx1;split at L
  case h_2=>cases L
  rename_i z1 hz1;cases L;have hx:=Qp hx1;have hlt:∀j∈List.range S.ts.length,j<s'.r.length:=λj hj=>by
   have:=(hx j (by simpa using hj)).2
   simpa using this
  obtain⟨F2,hcr2,hF2⟩:=Cv (List.range S.ts.length) A hlt;obtain⟨v,fp,k1,k2,k3⟩:=JP (fn:=fn) hcr2 (BK _ hdd) (NO hΘ hz1);rw[Dx]at k2;have hrl1:((Bd S.ts x1).map Ac.v).length=S.ts.length:=by rw[List.length_map,CJ]
  refine⟨hd,v,k1,v,fp,D',λi b=>i<S.ts.length/\F' i b,rfl,k2,⟨λi J=>?_,λi j b hij h1 h2=>A.wr.disj i j b hij h1.2 h2.2,λi b B=>A.wr.dD i b B.2,A.wr.Dlt,λi b J B=>absurd (hrl1▸J:S.ts.length<=i) (Nat.not_le.2 B.1)⟩,A.fr,λb B=>?_,λi b B=>A.Fn i b B.2,A.D1,λb B=>?_⟩
  .have J:i<S.ts.length:=hrl1▸J
   obtain⟨g1,g2⟩:=hx i J;rw[Nat.zero_add]at g1 g2;have h1:=A.wr.rel i (by show i<(s'.r.map Ac.v).length;rw[List.length_map];exact g2)
   have e1:s'.den.σ.getD i .dead=(s'.r.getD i .dead).v:=Aq _ _;rw[e1,A.rt i J]at h1;have e2:((Bd S.ts x1).map Ac.v).getD i .dead=((Bd S.ts x1).getD i .dead).v:=Aq _ _;rw[e2];exact Rel.fp_congr (λb=>⟨λB=>⟨J,B⟩,λB=>B.2⟩) (Rel.sub g1 h1)
  .obtain⟨i,J⟩:=k3 b B
   obtain⟨h1,h2⟩:=hF2 i b J;refine⟨A.Fn i b h1,A.wr.dD i b h1,λj hj=>?_⟩
   have:i≠j:=λe=>h2 (by rw[e];simpa using hj.1)
   exact A.wr.disj i j b this h1 hj.2
  .rcases Nat.lt_or_ge b w.heap.size with h|h
   .exact(A.D2 b B h).elim .inl λh=>.inr (.inl h)
   .exact .inr (.inr h)
 cases e with
 |normal=>exact fin L
 |ret=>exact fin L
 |exit id=>cases L
 |goto l=>cases L
 |panic ch=>cases L
 |outgrown=>cases L
end Go.Ve

