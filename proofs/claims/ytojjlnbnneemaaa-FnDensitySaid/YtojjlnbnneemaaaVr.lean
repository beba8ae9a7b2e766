/- Contracts of functions, out of the small machine's walk over their bodies. -/
import Derived.Test.YtojjlnbnneemaaaVp
open Nat(zero_le le_refl)
set_option linter.all false
namespace Go.Ve
variable{cts:Array Value}{C:Ctx}{fn:Func}{ts σ:List V}{j:Nat}{F:Nat->Nat->Prop}{D:Nat->Prop}{ρ:Nat->Value}{P:Program}{R:V->Value->Prop}{w:World}
def WFV:V->Prop
 |.many _ n f=>∀k,k<n->WFV (f k)
 |.nd _ _ sz n f=>n<=maxLen/\∀i k,i<n->k<sz->WFV (f i k)
 |_=>True
theorem Rel.wf:∀(v:V) (R:V->Value->Prop) (cv:Value) (fp:Nat->Prop),Rel D w R v cv fp->WFV v:=by
 intro v
 induction v with
 |many t n f A=>intro R cv fp h;obtain⟨cs,F,_,_,B,_⟩:=h;exact λk E=>A k _ _ _ (B k E)
 |nd s own sz n f A=>
  intro R cv fp h;rcases h with⟨rfl,_⟩|⟨b,o,cap,F,_,_,u,_,B,_⟩
  .exact⟨zero_le _,λi k J=>by omega⟩
  .exact⟨u,λi k J E=>by grind⟩
 |_=>intro R cv fp _;trivial
def tkL:Nat->List V->List V->List V
 |0,_,_=>[]
 |_+1,[],_=>[]
 |m+1,v::vs,σ=>match v with
  |.rs id p off len=>match sub p (σ.getD id .dead)with
   |.nd true true sz n f=>if off=0/\len=n then .nd true true sz n f::tkL m (vs.map λv=>AJ σ.length [] (rrV id p σ.length v)) (σ.set id (upd p (σ.getD id .dead) .dead)++[.dead])else .dead::tkL m vs σ
   |_=>.dead::tkL m vs σ
  |.rp id p i k=>match sub p (σ.getD id .dead)with
   |.nd false true sz n f=>if i=0/\k=0 then .nd false true sz n f::tkL m (vs.map λv=>AJ σ.length [] (rrV id p σ.length v)) (σ.set id (upd p (σ.getD id .dead) .dead)++[.dead])else .dead::tkL m vs σ
   |_=>.dead::tkL m vs σ
  |.rm id p=>match sub p (σ.getD id .dead)with
   |.mp true l=>.mp true l::tkL m (vs.map λv=>AJ σ.length [] (rrV id p σ.length v)) (σ.set id (upd p (σ.getD id .dead) .dead)++[.dead])
   |_=>.dead::tkL m vs σ
  |.many _ _ _=>.dead::tkL m vs σ
  |v=>v::tkL m vs σ
theorem Kw:∀(m:Nat) (l σ:List V),l.length<=m->(tkL m l σ).length=l.length:=by
 intro m
 induction m with
 |zero=>intro l σ h;cases l<;>first|rfl|grind
 |succ m A=>
  intro l σ h;cases l with
  |nil=>rfl
  |cons v u=>
   unfold tkL
   grind
theorem CR.drop(h:CR C σ ts cts w D ρ F)(Y:j<σ.length):
  CR C (σ.set j .dead) (ts.map (AJ j [])) cts w D ρ (λi=>if i=j then noF else F i):=by
 have E:∀i b,(if i=j then noF else F i) b->F i b/\i≠j:=by
  intro i b B;split at B
  .exact B.elim
  grind
 refine⟨⟨λi U=>?_,λi l b O h1 Z=>h.wr.disj i l b O (E _ _ h1).1 (E _ _ Z).1,λi b B=>h.wr.dD i b (E _ _ B).1,h.wr.Dlt,λi b U B=>h.wr.out i b (by simpa using U) (E _ _ B).1⟩,by simpa using h.sz,λt J=>?_,h.fr,λi b B=>h.Fn i b (E _ _ B).1,h.D1,h.D2,h.rt,by simpa using h.ml⟩
 .by_cases W:i=j
  .subst W
   rw[Aj Y];simp only[if_true];exact λ_ h=>h
  .rw[Ai (Ne.symm W)]
   simp only[W,if_false];exact h.wr.rel i (by simpa using U)
 .simp at J
  have e1:(ts.map (AJ j [])).getD t .dead=AJ j [] (ts.getD t .dead):=by simp[J]
  rw[e1];refine(Ba _ _).rel (λ_ _=>rfl) ?_ ?_ ?_ _ _ noF (λ_ h=>h) (h.tm t J)
  .rintro id q off len cv ⟨A,r⟩
   simp only[AJ,AT,and_true];split
   .exact λ_ h=>h
   .rename_i u
    exact⟨⟨by simpa using A,by rw[Ai (Ne.symm u)];exact r⟩,λ_ h=>h⟩
  .rintro id q i k cv ⟨A,r⟩
   simp only[AJ,AT,and_true];split
   .exact λ_ h=>h
   .rename_i u
    exact⟨⟨by simpa using A,by rw[Ai (Ne.symm u)];exact r⟩,λ_ h=>h⟩
  .rintro id q cv ⟨A,r⟩
   simp only[AJ,AT,and_true];split
   .exact λ_ h=>h
   .rename_i u
    exact⟨⟨by simpa using A,by rw[Ai (Ne.symm u)];exact r⟩,λ_ h=>h⟩
theorem Aq.hd(U:Bu σ w D ρ F){id off len:Nat}{p:List (Nat×Nat)}{cv:Value}(h:Aq σ ρ w (.rs id p off len) cv):Rel D w R (.nd true false 0 len λ_ _=>.dead) cv noF:=by
 obtain⟨B,sz,n,f,cn,ha,hle,hc⟩:=h;obtain⟨fp1,u,_⟩:=C9 (w':=w) p _ _ _ _ _ (U.rel id B) (λb hD hF=>U.dD id b hF hD) ha
 have mk:∀(b o cap:Nat),cv=AC true b o len cap->len<=cap->len<=maxLen->Rel D w R (.nd true false 0 len λ_ _=>.dead) cv noF:=λb o cap h1 h2 O=>
  .inr ⟨b,o,cap,λ_ _=>noF,h1,h2,O,(λh=>by grind),λ_ _ _ A=>absurd A (Nat.not_lt_zero _),λ_=>⟨λh=>absurd h (by simp),λ_ _ _ _ A=>absurd A (Nat.not_lt_zero _),λ_ h=>h⟩,λh=>by grind⟩
 rcases hc with⟨b,o,cap,rfl,rfl⟩|⟨rfl,a,rfl,_⟩
 .rcases u with⟨_,_,O,_⟩|⟨b',o',Z,F',E,Y,W,_⟩
  .exact absurd O BQ
  .obtain⟨_,_,J⟩:=Aw E
   have:=J rfl;exact mk b (o+off*sz) (cap-off) rfl (by omega) (by omega)
 .cases a with
  |none=>exact .inl ⟨rfl,rfl,.inl rfl,λ_ h=>h⟩
  |some p=>exact mk p.1 p.2 0 rfl (le_refl _) (zero_le _)
def hdK(j:Nat):V->V
 |.rs id p off len=>if id=j then .nd true false 0 len λ_ _=>.dead else .rs id p off len
 |v=>AJ j [] v
theorem CR.dropH(h:CR C σ ts cts w D ρ F)(O:j<σ.length):
  CR C (σ.set j .dead) (ts.map (hdK j)) cts w D ρ (λi=>if i=j then noF else F i):=by
 have u:=h.drop O;refine⟨u.wr,by simpa using h.sz,λt A=>?_,u.fr,u.Fn,u.D1,u.D2,u.rt,u.ml⟩
 have A:=by simpa using A
 have W:(ts.map (hdK j)).getD t .dead=hdK j (ts.getD t .dead):=by simp_all
 have E:=u.tm t (by grind)
 have U:(ts.map (AJ j [])).getD t .dead=AJ j [] (ts.getD t .dead):=by grind
 have J:=h.tm t A;rw[W];rw[U]at E;generalize ts.getD t .dead=v at E J;cases v with
 |rs id p off len=>
  show Rel D w _ (if id=j then _ else _) _ _
  split
  .exact Aq.hd h.wr J.1
  .rename_i B
   have Y:AJ j [] (V.rs id p off len)=.rs id p off len:=if_neg λh=>B h.1
   grind
 |_=>exact E
theorem MY:∀(m:Nat) (l:List V) (cl:List Value) (σ:List V) (ρ:Nat->Value) (F:Nat->Nat->Prop),CR C σ l cl.toArray w D ρ F->l.length<=m->
  ∃u:Nat->Nat->Prop,(∀j,j<l.length->Rel D w noR ((tkL m l σ).getD j .dead) (cl.getD j undef) (u j))/\(∀i j b,i≠j->u i b->¬u j b)/\(∀j b,u j b->∃i,F i b):=by
 intro m
 induction m with
 |zero=>intro l cl σ ρ F h hl;exact⟨λ_=>noF,λj hj=>by omega,λ_ _ _ _ h=>h.elim,λ_ _ h=>h.elim⟩
 |succ m ih=>
  intro l cl σ ρ F h hl;cases l with
  |nil=>exact⟨λ_=>noF,λj hj=>by simp at hj,λ_ _ _ _ h=>h.elim,λ_ _ h=>h.elim⟩
  |cons v vs=>
   have hsz:=h.sz;cases cl with
   |nil=>simp at hsz
   |cons cv cvs=>
    simp only[List.length_cons]at hl;have hv:Rel D w (Aq σ ρ w) v cv noF:=by simpa using h.tm 0 (by simp)
    have Y:CR C σ vs cvs.toArray w D ρ F:=by
     refine⟨h.wr,by simpa using hsz,λj hj=>?_,h.fr,h.Fn,h.D1,h.D2,h.rt,h.ml⟩
     simpa using h.tm (j+1) (by simpa using hj)
    -- a component that owns nothing new
    have plain:∀(v':V),Rel D w noR v' cv noF->∃u:Nat->Nat->Prop,(∀j,j<(v::vs).length->Rel D w noR ((v'::tkL m vs σ).getD j .dead) ((cv::cvs).getD j undef) (u j))/\(∀i j b,i≠j->u i b->¬u j b)/\(∀j b,u j b->∃i,F i b):=by
     intro v' hv';obtain⟨u,h1,h2,h3⟩:=ih vs cvs σ ρ F Y (by omega)
     refine⟨λj=>match j with|0=>noF|j+1=>u j,λj hj=>?_,λi j b hij U W=>?_,λj b U=>?_⟩
     .cases j with
      |zero=>exact hv'
      |succ j=>simpa using h1 j (by simpa using hj)
     .cases i with
      |zero=>exact U.elim
      |succ i=>cases j with
       |zero=>exact W.elim
       |succ j=>exact h2 i j b (by omega) U W
     .cases j with
      |zero=>exact U.elim
      |succ j=>exact h3 j b U
    -- a reference: its node is cut out
    have cut:∀(id:Nat) (p:List (Nat×Nat)) (v1:V),id<σ.length->At w p (σ.getD id .dead) (ρ id) v1 cv->
      ∃u:Nat->Nat->Prop,(∀j,j<(v::vs).length->Rel D w noR ((v1::tkL m (vs.map λv=>AJ σ.length [] (rrV id p σ.length v)) (σ.set id (upd p (σ.getD id .dead) .dead)++[.dead])).getD j .dead) ((cv::cvs).getD j undef) (u j))/\(∀i j b,i≠j->u i b->¬u j b)/\(∀j b,u j b->∃i,F i b):=by
     intro id p v1 O A;obtain⟨ρ',F',hcr,hρ,hρo,hF'⟩:=CR.reroot Y O A;have hd:=hcr.drop (j:=σ.length) (by simp)
     have e1:(σ.set id (upd p (σ.getD id .dead) .dead)++[sub p (σ.getD id .dead)]).set σ.length .dead=σ.set id (upd p (σ.getD id .dead) .dead)++[.dead]:=by
      rw[List.set_append_right _ _ (by simp)];simp
     rw[e1,List.map_map]at hd;obtain⟨u,h1,h2,h3⟩:=ih _ cvs _ _ _ hd (by simp;omega)
     have hroot:Rel D w noR v1 cv (F' σ.length):=by
      have:=hcr.wr.rel σ.length (by simp)
      rw[hρ]at this;have e2:(σ.set id (upd p (σ.getD id .dead) .dead)++[sub p (σ.getD id .dead)]).getD σ.length .dead=sub p (σ.getD id .dead):=by simp
      rw[e2,<-At.sub A]at this;exact this
     have hfp:∀j b,u j b->∃i,i≠σ.length/\F' i b:=by
      intro j b U;obtain⟨i,hi⟩:=h3 j b U;split at hi
      .exact hi.elim
      .exact⟨i,by assumption,hi⟩
     refine⟨λj=>match j with|0=>F' σ.length|j+1=>u j,λj hj=>?_,λi j b hij U W=>?_,λj b U=>?_⟩
     .cases j with
      |zero=>exact hroot
      |succ j=>exact h1 j (by simpa using hj)
     .cases i with
      |zero=>cases j with
       |zero=>exact hij rfl
       |succ j=>obtain⟨i,hne,hi⟩:=hfp j b W;exact hcr.wr.disj _ _ b (Ne.symm hne) U hi
      |succ i=>cases j with
       |zero=>obtain⟨l,hne,hl⟩:=hfp i b U;exact hcr.wr.disj _ _ b hne hl W
       |succ j=>exact h2 i j b (by omega) U W
     .cases j with
      |zero=>exact hF' _ b U
      |succ j=>obtain⟨i,_,hi⟩:=hfp j b U;exact hF' i b hi
    have dead:=plain .dead (λ_ h=>h)
    unfold tkL;cases v with
    |c v=>exact plain _ ⟨hv.1,hv.2.1,hv.2.2⟩
    |dead=>exact dead
    |many=>exact dead
    |nd s own sz n f=>exact plain _ hv
    |mp own l=>exact plain _ hv
    |rs id p off len=>
     obtain⟨⟨O,sz,n,f,cn,A,hle,Z⟩,_⟩:=hv;simp only;split
     .rename_i sz1 n1 f1 J
      split
      .rename_i E
       obtain⟨rfl,rfl⟩:=E;have B:=At.sub A;rw[J]at B;simp only[V.nd.injEq,true_and]at B;obtain⟨rfl,rfl,rfl⟩:=B;have hcx:cn=cv:=by
        rcases Z with⟨b2,o2,cap2,rfl,rfl⟩|⟨h0,_,_,E,_⟩
        .simp[AC]
        .exact(E rfl h0).symm
       subst hcx;exact cut id p _ O A
      .exact dead
     .exact dead
    |rp id p i k=>
     obtain⟨⟨O,s,sz,n,f,b,o,cap,A,hi,hk,Z⟩,_⟩:=hv;simp only;split
     .rename_i sz1 n1 f1 J
      split
      .rename_i E
       obtain⟨rfl,rfl⟩:=E;have B:=At.sub A;rw[J]at B;simp only[V.nd.injEq,true_and]at B;obtain⟨rfl,rfl,rfl,rfl⟩:=B;have hcx:AC false b o n cap=cv:=by rw[Z];simp[AC]
       rw[hcx]at A;exact cut id p _ O A
      .exact dead
     .exact dead
    |rm id p=>
     obtain⟨⟨O,l,b,A,Z⟩,_⟩:=hv;simp only;split
     .rename_i l1 J
      have B:=At.sub A;rw[J]at B;simp only[V.mp.injEq,true_and]at B;subst B;exact cut id p _ O A
     .exact dead
def Bk:List V->List V->List V
 |[],_=>[]
 |.many .ag n _::vs,l=>Am (l.take n)::Bk vs (l.drop n)
 |_::vs,l=>l.getD 0 .dead::Bk vs (l.drop 1)
def NL(l:List V):V:=match l with
 |[v]=>v
 |l=>.many .tu l.length λk=>l.getD k .dead
def Vc(P:Program)(S:Ms):List ResultVar->List V->(List V->Prop)->Prop
 |[],acc,K=>K acc
 |.tmp t::rs,acc,K=>Vc P S rs (acc++[S.t t]) K
 |.cell a t::rs,acc,K=>Ib (tyI P t) S.σ (S.t a) λv=>Vc P S rs (acc++[v]) K
def XR(σ:List V)(r:V)(u:List V):Prop:=
 u.all Bv=true/\Sub (NL (Bk u (tkL (u.flatMap cellsV).length (u.flatMap cellsV) σ))) r
def RetK(P:Program)(rs:List ResultVar)(r:V):Exit->Ms->Prop
 |.normal,S=>Vc P S rs [] (XR S.σ r)
 |.ret,S=>Vc P S rs [] (XR S.σ r)
 |_,_=>False
def Hz(hR:∀v cv,R v cv->cv.oneCell'=true):∀(U:List V) (O:List Value) (u:List V) (E:Nat->Nat->Prop),O.length=U.length->U.all Bv=true->(∀j,j<U.length->Rel D w R (U.getD j .dead) (O.getD j undef) noF)->
  (∀j,j<(U.flatMap cellsV).length->Rel D w noR (u.getD j .dead) ((O.flatMap (·.cells.toList)).getD j undef) (E j))->(∀i j b,i≠j->E i b->¬E j b)->u.length=(U.flatMap cellsV).length->
  (Bk U u).length=U.length/\∃G:Nat->Nat->Prop,(∀j,j<U.length->Rel D w noR ((Bk U u).getD j .dead) (O.getD j undef) (G j))/\(∀i j b,i≠j->G i b->¬G j b)/\∀j b,G j b->∃i,E i b:=by
 intro U
 induction U with
 |nil=>intro O u E _ _ _ _ _ _;exact⟨rfl,λ_=>noF,λj J=>by simp at J,λ_ _ _ _ h=>h.elim,λ_ _ h=>h.elim⟩
 |cons v U ih=>
  intro O u E hl hp hr hf hd hfl;cases O with
  |nil=>simp at hl
  |cons cv O=>
   simp only[List.all_cons,bAE]at hp;have Y:=hr 0 (by simp)
   simp only[List.getD_cons_zero]at Y;obtain⟨⟨Z,hcells⟩,_⟩:=Ch hR hp.1 Y;simp only[List.flatMap_cons,List.length_append]at hf hfl
   obtain⟨h1,G,h2,h3,h4⟩:=ih O (u.drop (cellsV v).length) (λj=>E ((cellsV v).length+j)) (by simpa using hl) hp.2 (λj J=>by simpa using hr (j+1) (by simpa using J)) (λj J=>by
    have:=hf ((cellsV v).length+j) (by omega)
    have e1:(u.drop (cellsV v).length).getD j .dead=u.getD ((cellsV v).length+j) .dead:=by simp
    have e2:(cv.cells.toList++O.flatMap (·.cells.toList)).getD ((cellsV v).length+j) undef=(O.flatMap (·.cells.toList)).getD j undef:=by
     simp only[gDE];rw[gAR (by simp[Z])]
     simp[Z]
    rw[e2]at this;rw[e1];exact this) (λi j b hij=>hd _ _ b (by omega)) (by rw[List.length_drop];omega)
   -- the first
   have first:∃v1,Bk (v::U) u=v1::Bk U (u.drop (cellsV v).length)/\Rel D w noR v1 cv (λb=>∃j,j<(cellsV v).length/\E j b):=by
    have B:∀j,j<(cellsV v).length->Rel D w noR (u.getD j .dead) (cv.cells.toList.getD j undef) (E j):=λj J=>by
     have:=hf j (by omega)
     have e2:(cv.cells.toList++O.flatMap (·.cells.toList)).getD j undef=cv.cells.toList.getD j undef:=by
      simp only[gDE];rw[gAL (by simp[Z];exact J)]
     rw[e2]at this;exact this
    have A:∀v:V,X3 v=true->cellsV v=[v]->Rel D w R v cv noF->(∀j,j<1->Rel D w noR (u.getD j .dead) (cv.cells.toList.getD j undef) (E j))->Bk (v::U) u=u.getD 0 .dead::Bk U (u.drop 1)->∃v1,Bk (v::U) u=v1::Bk U (u.drop (cellsV v).length)/\Rel D w noR v1 cv (λb=>∃j,j<(cellsV v).length/\E j b):=by
     intro v ho hcv Y B hrg;obtain⟨hc1,_⟩:=Rel.cells1 Y hR ho;refine⟨_,by rw[hcv];exact hrg,?_⟩
     rw[hcv];have:=B 0 (by omega)
     rw[hc1]at this;refine Rel.fp_congr (fp:=E 0) (λb=>⟨λh=>⟨0,by simp,h⟩,?_⟩) (by simpa using this)
     rintro ⟨j,J,h⟩
     simp at J;subst J;exact h
    cases v with
    |many t n f=>
     cases t with
     |bx=>exact absurd hp.1 (by simp[Bv])
     |tu=>exact absurd hp.1 (by simp[Bv])
     |cl g=>exact A _ rfl rfl Y (λj J=>B j (by simpa [cellsV]using J)) rfl
     |ag=>
      obtain⟨cs,F',rfl,hn,_⟩:=Y;have W:(cellsV (.many .ag n f)).length=n:=by simp[cellsV]
      refine⟨Am (u.take n),by rw[W];rfl,?_⟩
      have hln:(u.take n).length=n:=by simp;rw[W]at hfl;omega
      unfold Am;rw[hln];refine⟨cs,λj b=>E j b,rfl,hn,λk hk=>?_,λk k' b _ _ hkk=>hd k k' b hkk,λb=>by rw[W]⟩
      have:=B k (by rw[W];exact hk)
      have e1:(u.take n).getD k .dead=u.getD k .dead:=by simp[List.getElem?_take,hk]
      show Rel D w noR ((u.take n).getD k .dead) _ _;rw[e1];simpa [Value.cells]using this
    |dead=>exact absurd hp.1 (by simp[Bv])
    |c v=>exact A _ rfl rfl Y (λj J=>B j (by simpa [cellsV]using J)) rfl
    |nd s own sz n f=>exact A _ rfl rfl Y (λj J=>B j (by simpa [cellsV]using J)) rfl
    |rs id p off len=>exact A _ rfl rfl Y (λj J=>B j (by simpa [cellsV]using J)) rfl
    |rp id p i k=>exact A _ rfl rfl Y (λj J=>B j (by simpa [cellsV]using J)) rfl
    |rm id p=>exact A _ rfl rfl Y (λj J=>B j (by simpa [cellsV]using J)) rfl
    |mp own l=>exact A _ rfl rfl Y (λj J=>B j (by simpa [cellsV]using J)) rfl
   obtain⟨v1,e1,hr1⟩:=first
   rw[e1];refine⟨by simp[h1],λj=>match j with|0=>(λb=>∃j,j<(cellsV v).length/\E j b)|j+1=>G j,λj J=>?_,λi j b hij hb hb'=>?_,λj b hb=>?_⟩
   .cases j with
    |zero=>exact hr1
    |succ j=>simpa using h2 j (by simpa using J)
   .cases i with
    |zero=>cases j with
     |zero=>exact hij rfl
     |succ j=>
      obtain⟨l,hl,h⟩:=hb;obtain⟨i,hi⟩:=h4 j b hb';exact hd _ _ b (by omega) h hi
    |succ i=>cases j with
     |zero=>
      obtain⟨l,hl,h⟩:=hb';obtain⟨i,hi⟩:=h4 i b hb;exact hd _ _ b (by omega) hi h
     |succ j=>exact h3 i j b (by omega) hb hb'
   .cases j with
    |zero=>obtain⟨j,_,h⟩:=hb;exact⟨j,h⟩
    |succ j=>obtain⟨i,h⟩:=h4 j b hb;exact⟨_,h⟩
def rdV(tmps:Array Value):ResultVar->Sem Value
 |.tmp t=>pure (tmps.getD t undef)
 |.cell a t=>do loadVar t (<-asAddr (tmps.getD a undef))
theorem KG{P:Program}{N:Nat}{S:Ms}{a:Act}(h:CR C S.σ ((List.range N).map S.t) a.tmps w D ρ F)(Y:∀x,N<=x->S.t x=.dead):∀(rs:List ResultVar) (u:List V) (B:List Value) (K:List V->Prop),
  B.length=u.length->(∀j,j<u.length->Rel D w (Aq S.σ ρ w) (u.getD j .dead) (B.getD j undef) noF)->Vc P S rs u K->
  ∃(E:List V) (A:List Value),(rs.mapM (rdV a.tmps)).run P w=.ok A w/\K (u++E)/\E.length=rs.length/\A.length=E.length/\
   ∀j,j<E.length->Rel D w (Aq S.σ ρ w) (E.getD j .dead) (A.getD j undef) noF:=by
 intro rs
 induction rs with
 |nil=>intro u B K _ _ O;exact⟨[],[],by simp,by simpa [Vc]using O,rfl,rfl,λj W=>by simp at W⟩
 |cons r rs ih=>
  intro u B K hl hr O
  have go:∀(v:V) (cv:Value),Rel D w (Aq S.σ ρ w) v cv noF->(rdV a.tmps r).run P w=.ok cv w->Vc P S rs (u++[v]) K->
    ∃(E:List V) (A:List Value),((r::rs).mapM (rdV a.tmps)).run P w=.ok A w/\K (u++E)/\E.length=(r::rs).length/\A.length=E.length/\
     ∀j,j<E.length->Rel D w (Aq S.σ ρ w) (E.getD j .dead) (A.getD j undef) noF:=by
   intro v cv Z U O
   obtain⟨E,A,h1,h2,h3,h4,h5⟩:=ih (u++[v]) (B++[cv]) K (by simp[hl]) (λj W=>by
    by_cases he:j<u.length
    .grind
    .obtain rfl:j=u.length:=by simp at W;omega
     simp only[gDE];rw[gAR (by omega),gAR (by omega)]
     simpa [hl]using Z) O
   refine⟨v::E,cv::A,?_,by simpa using h2,by simp[h3],by simp[h4],λj W=>?_⟩
   .rw[List.mapM_cons,Sem.run_bind,U]
    simp only[Result.andThen,Sem.run_bind,h1];rfl
   .cases j with
    |zero=>exact Z
    |succ j=>simpa using h5 j (by simpa using W)
  cases r with
  |tmp t=>
   refine go (S.t t) (a.tmps.getD t undef) ?_ (by simp[rdV]) O
   have:=BE (S:=S) (a:=a) h Y (.tmp t);exact this
  |cell x t=>
   have hx:=BE (S:=S) (a:=a) h Y (.tmp x);obtain⟨v,hKv,ad,cr,he,J,Z⟩:=Nw (P:=P) h.wr hx O;refine go v cr Z ?_ hKv;have he':a.tmps.getD x undef=.pointer (some ad):=he;simp[rdV,he',asAddr,J]
def packC:List Value->Value
 |[v]=>v
 |l=>.tuple l.toArray
def Jp{tmps:Array Value}{u:List Value}(h:(fn.results.toList.mapM (rdV tmps)).run P w=.ok u w):
  (results fn tmps).run P w=.ok (packC u) w:=by
 have e:(fn.results.mapM (rdV tmps)).run P w=.ok u.toArray w:=by
  rw[Array.mapM_eq_mapM_toList];simp[h]
 show(do let vs<-fn.results.mapM (rdV tmps);pure (if h:vs.size=1 then vs[0]else .tuple vs):Sem Value).run P w=_
 rw[Sem.run_bind,e]
 match u with
 |[]=>rfl
 |[v]=>rfl
 |_::_::_=>rfl
theorem NK(l:List V)(cl:List Value)(G:Nat->Nat->Prop)(u:cl.length=l.length)(h:∀j,j<l.length->Rel D w noR (l.getD j .dead) (cl.getD j undef) (G j))(hd:∀i j b,i≠j->G i b->¬G j b):
  Rel D w noR (NL l) (packC cl) (λb=>∃j,j<l.length/\G j b):=by
 have many:∀(l:List V) (cl:List Value),cl.length=l.length->(∀j,j<l.length->Rel D w noR (l.getD j .dead) (cl.getD j undef) (G j))->Rel D w noR (.many .tu l.length λk=>l.getD k .dead) (.tuple cl.toArray) (λb=>∃j,j<l.length/\G j b):=by
  intro l cl u h;exact⟨cl.toArray,G,rfl,by grind,λk B=>by simp_all,λk k' b _ _ A=>hd k k' b A,λ_=>Iff.rfl⟩
 match l,cl,u,h with
 |[v],[cv],_,h=>
  refine Rel.fp_congr (λb=>⟨λh=>⟨0,by simp,h⟩,?_⟩) (h 0 (by simp))
  simp
 |[],[],u,h=>exact many [] [] u h
 |v::v'::l,cv::cv'::cl,u,h=>exact many _ _ u h
theorem FC_of{f:FuncId}{body:Code}{h:Cy}{args:List V}{r:V}(hf:P.funcs[f]? =some fn)(J:fn.body=some body)(hn:max args.length fn.ntmps=h.n)
  (hv:(∀v∈args,WFV v)->∀(C:Ctx) (a:Act) (w:World) (Q:Exit->Act->World->Prop),C.m=0->AQ C h.n ⟨λi=>args.getD i .dead,[]⟩ a w->(∀e S a' w',RetK P fn.results.toList r e S->AQ C h.n S a' w'->Q e a' w')->body.wp P Q a w):FC P f args r:=by
 intro w D cvs hk hD hsz W
 let C:Ctx:=⟨w,λ_=>False,D,0,λ_=>undef,hk,λ_ _ h=>h⟩
 refine calls_of_wp hf J ?_;have hwf:∀v∈args,WFV v:=by
  intro v hv;obtain⟨i,E,rfl⟩:=List.mem_iff_getElem.1 hv;have:=Rel.wf _ _ _ _ (W i E);simpa [gDE,E]using this
 have hs:AQ C h.n ⟨λi=>args.getD i .dead,[]⟩ {tmps:=cvs++Array.replicate (fn.ntmps-cvs.size) undef,defers:=[]} w:=by
  refine⟨rfl,λx hx=>Mq (by omega),D,λ_=>undef,λ_=>noF,⟨⟨λi E=>by simp at E,λ_ _ _ _ h=>h.elim,λ_ _ h=>h.elim,hD,λ_ _ _ h=>h.elim⟩,by simp[hsz];omega,λt ht=>?_,⟨rfl,rfl,rfl,le_refl _,λ_ _ _=>rfl,le_refl _⟩,λ_ _ h=>h.elim,λ_ h=>h,λ_ h _=>.inl h,λi E=>absurd E (Nat.not_lt_zero _),zero_le _⟩⟩
  rw[AY (by simpa using ht)]
  by_cases hta:t<args.length
  .have e2:(cvs++Array.replicate (fn.ntmps-cvs.size) undef).getD t undef=cvs.getD t undef:=by
    have:t<cvs.size:=by omega
    simp[Array.getElem?_append_left this]
   rw[e2];exact Rel.noR_mono (W t hta)
  .have e1:args.getD t .dead=.dead:=Mq (Nat.le_of_not_lt hta)
   show Rel D w _ (args.getD t .dead) _ noF;rw[e1];exact λ_ h=>h
 refine hv hwf C _ _ _ rfl hs ?_;intro e S a w' hq hs'
 have fin:Vc P S fn.results.toList [] (XR S.σ r)->a.defers=[]/\∃v,(results fn a.tmps).run P w'=.ok v w'/\(∃cv fp D',Ending.returned v=.returned cv/\Below w.heap.size w w'/\Rel D' w' noR r cv fp/\(∀b,fp b->w.heap.size<=b)/\
   (∀b,D b->D' b)/\(∀b,D' b->D b\/w.heap.size<=b)/\∀b,D' b->b<w'.heap.size/\¬fp b):=by
  intro Z;obtain⟨hd,hdd,D',ρ,F,u⟩:=hs';obtain⟨B,A,hrun,⟨O,heq⟩,hlen,hcl,hrel⟩:=KG u hdd fn.results.toList [] [] _ rfl (λj Y=>by simp at Y) Z
  simp only[List.nil_append]at O heq;refine⟨hd,_,Jp hrun,?_⟩
  -- the flat list
  have U:PC D' w' (Aq S.σ ρ w') (B.flatMap cellsV) (A.flatMap (·.cells.toList)).toArray:=by
   clear heq hrun hlen Z
   induction B generalizing A with
   |nil=>cases A with
    |nil=>exact⟨rfl,λj Y=>by simp at Y⟩
    |cons=>simp at hcl
   |cons v B ih=>
    cases A with
    |nil=>simp at hcl
    |cons cv A=>
     simp only[List.all_cons,bAE]at O;obtain⟨⟨h1,h2⟩,_⟩:=Ch (λv cv h=>Aq.one h) O.1 (by simpa using hrel 0 (by simp))
     obtain⟨h3,h4⟩:=ih A O.2 (by simpa using hcl) (λj Y=>by simpa using hrel (j+1) (by simpa using Y))
     refine⟨by simp[h1]at h3⊢;omega,λj Y=>?_⟩
     simp only[List.flatMap_cons];by_cases hj1:j<(cellsV v).length
     .rw[AD hj1]
      have e2:(cv.cells.toList++A.flatMap (·.cells.toList)).toArray.getD j undef=cv.cells.getD j undef:=by
       simp[gAL,h1,hj1]
      rw[e2];exact h2 j hj1
     .have hj2:j-(cellsV v).length<(B.flatMap cellsV).length:=by simp at Y;simp;omega
      have:=h4 (j-(cellsV v).length) hj2
      have e1:(cellsV v++B.flatMap cellsV).getD j .dead=(B.flatMap cellsV).getD (j-(cellsV v).length) .dead:=by
       simp only[gDE];rw[gAR (by omega)]
      have e2:(cv.cells.toList++A.flatMap (·.cells.toList)).toArray.getD j undef=(A.flatMap (·.cells.toList)).toArray.getD (j-(cellsV v).length) undef:=by
       simp only[Array.getD_eq_getD_getElem?,List.getElem?_toArray];rw[gAR (by simp[h1];omega)]
       simp[h1]
      rw[e1,e2];exact this
  have hcr2:CR C S.σ (B.flatMap cellsV) (A.flatMap (·.cells.toList)).toArray w' D' ρ F:=⟨u.wr,U.1,U.2,u.fr,u.Fn,u.D1,u.D2,u.rt,u.ml⟩
  obtain⟨fps,hf1,hf2,hf3⟩:=MY (B.flatMap cellsV).length _ _ _ _ _ hcr2 (le_refl _);obtain⟨hrl,G,hg1,hg2,hg3⟩:=Hz (λv cv h=>Aq.one h) B A (tkL (B.flatMap cellsV).length (B.flatMap cellsV) S.σ) fps hcl O hrel hf1 hf2 (Kw _ _ _ (le_refl _))
  have hpack:=NK (Bk B (tkL (B.flatMap cellsV).length (B.flatMap cellsV) S.σ)) A G (by rw[hrl,hcl]) (λj Y=>hg1 j (by rw[hrl]at Y;exact Y)) hg2
  have hGF:∀b,(∃j,j<(Bk B (tkL (B.flatMap cellsV).length (B.flatMap cellsV) S.σ)).length/\G j b)->∃i,F i b:=by
   rintro b ⟨j,_,J⟩
   obtain⟨i,E⟩:=hg3 j b J;exact hf3 i b E
  refine⟨_,_,D',rfl,⟨u.fr.os,u.fr.tape,u.fr.output,u.fr.size,λb J=>u.fr.block b J (λh=>h),u.fr.drawn⟩,Rel.sub heq hpack,λb J=>?_,u.D1,λb J=>?_,λb J=>⟨u.wr.Dlt b J,λh=>?_⟩⟩
  .obtain⟨i,E⟩:=hGF b J
   exact(u.Fn i b E).elim (λh=>h.elim) λh=>h
  .rcases Nat.lt_or_ge b w.heap.size with h|h
   .exact .inl ((u.D2 b J h).elim (λh=>h) λh=>h.elim)
   .exact .inr h
  .obtain⟨i,E⟩:=hGF b h
   exact u.wr.dD i b E J
 cases e with
 |normal=>exact fin hq
 |ret=>exact fin hq
 |exit id=>exact hq.elim
 |goto l=>exact hq.elim
 |panic ch=>exact hq.elim
 |outgrown=>exact hq.elim
end Go.Ve

