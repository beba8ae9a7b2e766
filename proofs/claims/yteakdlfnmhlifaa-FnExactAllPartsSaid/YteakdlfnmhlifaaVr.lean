/- Contracts of functions. -/
import Derived.Test.YteakdlfnmhlifaaVp
open Nat(zero_le le_refl)
set_option linter.all false
namespace Go.Ve
variable{cts:Array Value}{C:Ctx}{fn:Func}{ts σ:List V}{j:Nat}{F:Nat->Nat->Prop}{D:Nat->Prop}{ρ:Nat->Value}{P:Program}{R:V->Value->Prop}{w:World}
def WFV:V->Prop
 |.many _ n f=>∀k,k<n->WFV (f k)
 |.nd _ _ sz n f=>n<=maxLen/\∀i k,i<n->k<sz->WFV (f i k)
 |_=>True
theorem Rel.wf:∀(v:V) (R:V->Value->Prop) (cv:Value) (fp:Nat->Prop),Rel D w R v cv fp->WFV v:=by
 intro v
 induction v with
 |many t n f u=>intro R cv fp h;obtain⟨cs,F,_,_,A,_⟩:=h;exact λk B=>u k _ _ _ (A k B)
 |nd s own sz n f u=>
  intro R cv fp h;rcases h with⟨rfl,_⟩|⟨b,o,cap,F,_,_,e,_,A,_⟩
  .exact⟨zero_le _,λi k hi=>by omega⟩
  .exact⟨e,λi k hi B=>by grind⟩
 |_=>intro R cv fp _;trivial
def tkL:Nat->List V->List V->List V
 |0,_,_=>[]
 |_+1,[],_=>[]
 |m+1,v::vs,σ=>match v with
  |.rs id p off len=>match sub p (σ.getD id .dead)with
   |.nd true true sz n f=>if off=0/\len=n then .nd true true sz n f::tkL m (vs.map λv=>AI σ.length [] (rrV id p σ.length v)) (σ.set id (upd p (σ.getD id .dead) .dead)++[.dead])else .dead::tkL m vs σ
   |_=>.dead::tkL m vs σ
  |.rp id p i k=>match sub p (σ.getD id .dead)with
   |.nd false true sz n f=>if i=0/\k=0 then .nd false true sz n f::tkL m (vs.map λv=>AI σ.length [] (rrV id p σ.length v)) (σ.set id (upd p (σ.getD id .dead) .dead)++[.dead])else .dead::tkL m vs σ
   |_=>.dead::tkL m vs σ
  |.rm id p=>match sub p (σ.getD id .dead)with
   |.mp true l=>.mp true l::tkL m (vs.map λv=>AI σ.length [] (rrV id p σ.length v)) (σ.set id (upd p (σ.getD id .dead) .dead)++[.dead])
   |_=>.dead::tkL m vs σ
  |.many _ _ _=>.dead::tkL m vs σ
  |v=>v::tkL m vs σ
theorem Lj:∀(m:Nat) (l σ:List V),l.length<=m->(tkL m l σ).length=l.length:=by
 intro m
 induction m with
 |zero=>intro l σ h;cases l<;>first|rfl|grind
 |succ m u=>
  intro l σ h;cases l with
  |nil=>rfl
  |cons v e=>
   unfold tkL
   grind
theorem CR.drop(h:CR C σ ts cts w D ρ F)(hj:j<σ.length):
  CR C (σ.set j .dead) (ts.map (AI j [])) cts w D ρ (λi=>if i=j then noF else F i):=by
 have B:∀i b,(if i=j then noF else F i) b->F i b/\i≠j:=by
  intro i b A;split at A
  .exact A.elim
  grind
 refine⟨⟨λi hi=>?_,λi l b H U O=>h.wr.disj i l b H (B _ _ U).1 (B _ _ O).1,λi b A=>h.wr.dD i b (B _ _ A).1,h.wr.Dlt,λi b hi A=>h.wr.out i b (by simpa using hi) (B _ _ A).1⟩,by simpa using h.sz,λt E=>?_,h.fr,λi b A=>h.Fn i b (B _ _ A).1,h.D1,h.D2,h.rt,by simpa using h.ml⟩
 .by_cases J:i=j
  .subst J
   rw[Ae hj];simp only[if_true];exact λ_ h=>h
  .rw[Ad (Ne.symm J)]
   simp only[J,if_false];exact h.wr.rel i (by simpa using hi)
 .simp at E
  have W:(ts.map (AI j [])).getD t .dead=AI j [] (ts.getD t .dead):=by simp[E]
  rw[W];refine(Ba _ _).rel (λ_ _=>rfl) ?_ ?_ ?_ _ _ noF (λ_ h=>h) (h.tm t E)
  .rintro id q off len cv ⟨u,r⟩
   simp only[AI,AR,and_true];split
   .exact λ_ h=>h
   .rename_i e
    exact⟨⟨by simpa using u,by rw[Ad (Ne.symm e)];exact r⟩,λ_ h=>h⟩
  .rintro id q i k cv ⟨u,r⟩
   simp only[AI,AR,and_true];split
   .exact λ_ h=>h
   .rename_i e
    exact⟨⟨by simpa using u,by rw[Ad (Ne.symm e)];exact r⟩,λ_ h=>h⟩
  .rintro id q cv ⟨u,r⟩
   simp only[AI,AR,and_true];split
   .exact λ_ h=>h
   .rename_i e
    exact⟨⟨by simpa using u,by rw[Ad (Ne.symm e)];exact r⟩,λ_ h=>h⟩
theorem Ai.hd(J:Bg σ w D ρ F){id off len:Nat}{p:List (Nat×Nat)}{cv:Value}(h:Ai σ ρ w (.rs id p off len) cv):Rel D w R (.nd true false 0 len λ_ _=>.dead) cv noF:=by
 obtain⟨A,sz,n,f,cn,ha,Y,Z⟩:=h;obtain⟨fp1,e,_⟩:=Dg (w':=w) p _ _ _ _ _ (J.rel id A) (λb hD hF=>J.dD id b hF hD) ha
 have mk:∀(b o cap:Nat),cv=Ay true b o len cap->len<=cap->len<=maxLen->Rel D w R (.nd true false 0 len λ_ _=>.dead) cv noF:=λb o cap h1 h2 H=>
  .inr ⟨b,o,cap,λ_ _=>noF,h1,h2,H,(λh=>by grind),λ_ _ _ u=>absurd u (Nat.not_lt_zero _),λ_=>⟨λh=>absurd h (by simp),λ_ _ _ _ u=>absurd u (Nat.not_lt_zero _),λ_ h=>h⟩,λh=>by grind⟩
 rcases Z with⟨b,o,cap,rfl,rfl⟩|⟨rfl,a,rfl,_⟩
 .rcases e with⟨_,_,H,_⟩|⟨b',o',W,F',B,U,O,_⟩
  .exact absurd H BP
  .obtain⟨_,_,E⟩:=As B
   have:=E rfl;exact mk b (o+off*sz) (cap-off) rfl (by omega) (by omega)
 .cases a with
  |none=>exact .inl ⟨rfl,rfl,.inl rfl,λ_ h=>h⟩
  |some p=>exact mk p.1 p.2 0 rfl (le_refl _) (zero_le _)
def hdK(j:Nat):V->V
 |.rs id p off len=>if id=j then .nd true false 0 len λ_ _=>.dead else .rs id p off len
 |v=>AI j [] v
theorem CR.dropH(h:CR C σ ts cts w D ρ F)(hj:j<σ.length):
  CR C (σ.set j .dead) (ts.map (hdK j)) cts w D ρ (λi=>if i=j then noF else F i):=by
 have e:=h.drop hj;refine⟨e.wr,by simpa using h.sz,λt u=>?_,e.fr,e.Fn,e.D1,e.D2,e.rt,e.ml⟩
 have u:=by simpa using u
 have J:(ts.map (hdK j)).getD t .dead=hdK j (ts.getD t .dead):=by simp_all
 have B:=e.tm t (by grind)
 have H:(ts.map (AI j [])).getD t .dead=AI j [] (ts.getD t .dead):=by grind
 have E:=h.tm t u;rw[J];rw[H]at B;generalize ts.getD t .dead=v at B E;cases v with
 |rs id p off len=>
  show Rel D w _ (if id=j then _ else _) _ _
  split
  .exact Ai.hd h.wr E.1
  .rename_i A
   have O:AI j [] (V.rs id p off len)=.rs id p off len:=if_neg λh=>A h.1
   grind
 |_=>exact B
theorem NW:∀(m:Nat) (l:List V) (cl:List Value) (σ:List V) (ρ:Nat->Value) (F:Nat->Nat->Prop),CR C σ l cl.toArray w D ρ F->l.length<=m->
  ∃e:Nat->Nat->Prop,(∀j,j<l.length->Rel D w noR ((tkL m l σ).getD j .dead) (cl.getD j undef) (e j))/\(∀i j b,i≠j->e i b->¬e j b)/\(∀j b,e j b->∃i,F i b):=by
 intro m
 induction m with
 |zero=>intro l cl σ ρ F h hl;exact⟨λ_=>noF,λj hj=>by omega,λ_ _ _ _ h=>h.elim,λ_ _ h=>h.elim⟩
 |succ m ih=>
  intro l cl σ ρ F h hl;cases l with
  |nil=>exact⟨λ_=>noF,λj hj=>by simp at hj,λ_ _ _ _ h=>h.elim,λ_ _ h=>h.elim⟩
  |cons v vs=>
   have hsz:=h.sz;cases cl with
   |nil=>simp at hsz
   |cons cv cvs=>
    simp only[List.length_cons]at hl;have Z:Rel D w (Ai σ ρ w) v cv noF:=by simpa using h.tm 0 (by simp)
    have U:CR C σ vs cvs.toArray w D ρ F:=by
     refine⟨h.wr,by simpa using hsz,λj hj=>?_,h.fr,h.Fn,h.D1,h.D2,h.rt,h.ml⟩
     simpa using h.tm (j+1) (by simpa using hj)
    -- a component that owns nothing new
    have plain:∀(v':V),Rel D w noR v' cv noF->∃e:Nat->Nat->Prop,(∀j,j<(v::vs).length->Rel D w noR ((v'::tkL m vs σ).getD j .dead) ((cv::cvs).getD j undef) (e j))/\(∀i j b,i≠j->e i b->¬e j b)/\(∀j b,e j b->∃i,F i b):=by
     intro v' hv';obtain⟨e,h1,h2,h3⟩:=ih vs cvs σ ρ F U (by omega)
     refine⟨λj=>match j with|0=>noF|j+1=>e j,λj hj=>?_,λi j b hij J O=>?_,λj b J=>?_⟩
     .cases j with
      |zero=>exact hv'
      |succ j=>simpa using h1 j (by simpa using hj)
     .cases i with
      |zero=>exact J.elim
      |succ i=>cases j with
       |zero=>exact O.elim
       |succ j=>exact h2 i j b (by omega) J O
     .cases j with
      |zero=>exact J.elim
      |succ j=>exact h3 j b J
    -- a reference: its node is cut out
    have cut:∀(id:Nat) (p:List (Nat×Nat)) (v1:V),id<σ.length->At w p (σ.getD id .dead) (ρ id) v1 cv->
      ∃e:Nat->Nat->Prop,(∀j,j<(v::vs).length->Rel D w noR ((v1::tkL m (vs.map λv=>AI σ.length [] (rrV id p σ.length v)) (σ.set id (upd p (σ.getD id .dead) .dead)++[.dead])).getD j .dead) ((cv::cvs).getD j undef) (e j))/\(∀i j b,i≠j->e i b->¬e j b)/\(∀j b,e j b->∃i,F i b):=by
     intro id p v1 H u;obtain⟨ρ',F',Y,hρ,hρo,hF'⟩:=CR.reroot U H u;have hd:=Y.drop (j:=σ.length) (by simp)
     have e1:(σ.set id (upd p (σ.getD id .dead) .dead)++[sub p (σ.getD id .dead)]).set σ.length .dead=σ.set id (upd p (σ.getD id .dead) .dead)++[.dead]:=by
      rw[List.set_append_right _ _ (by simp)];simp
     rw[e1,List.map_map]at hd;obtain⟨e,h1,h2,h3⟩:=ih _ cvs _ _ _ hd (by simp;omega)
     have hroot:Rel D w noR v1 cv (F' σ.length):=by
      have:=Y.wr.rel σ.length (by simp)
      rw[hρ]at this;have e2:(σ.set id (upd p (σ.getD id .dead) .dead)++[sub p (σ.getD id .dead)]).getD σ.length .dead=sub p (σ.getD id .dead):=by simp
      rw[e2,<-At.sub u]at this;exact this
     have hfp:∀j b,e j b->∃i,i≠σ.length/\F' i b:=by
      intro j b J;obtain⟨i,hi⟩:=h3 j b J;split at hi
      .exact hi.elim
      .exact⟨i,by assumption,hi⟩
     refine⟨λj=>match j with|0=>F' σ.length|j+1=>e j,λj hj=>?_,λi j b hij J O=>?_,λj b J=>?_⟩
     .cases j with
      |zero=>exact hroot
      |succ j=>exact h1 j (by simpa using hj)
     .cases i with
      |zero=>cases j with
       |zero=>exact hij rfl
       |succ j=>obtain⟨i,hne,hi⟩:=hfp j b O;exact Y.wr.disj _ _ b (Ne.symm hne) J hi
      |succ i=>cases j with
       |zero=>obtain⟨l,hne,hl⟩:=hfp i b J;exact Y.wr.disj _ _ b hne hl O
       |succ j=>exact h2 i j b (by omega) J O
     .cases j with
      |zero=>exact hF' _ b J
      |succ j=>obtain⟨i,_,hi⟩:=hfp j b J;exact hF' i b hi
    have dead:=plain .dead (λ_ h=>h)
    unfold tkL;cases v with
    |c v=>exact plain _ ⟨Z.1,Z.2.1,Z.2.2⟩
    |dead=>exact dead
    |many=>exact dead
    |nd s own sz n f=>exact plain _ Z
    |mp own l=>exact plain _ Z
    |rs id p off len=>
     obtain⟨⟨H,sz,n,f,cn,u,hle,W⟩,_⟩:=Z;simp only;split
     .rename_i sz1 n1 f1 E
      split
      .rename_i B
       obtain⟨rfl,rfl⟩:=B;have A:=At.sub u;rw[E]at A;simp only[V.nd.injEq,true_and]at A;obtain⟨rfl,rfl,rfl⟩:=A;have hcx:cn=cv:=by
        rcases W with⟨b2,o2,cap2,rfl,rfl⟩|⟨h0,_,_,B,_⟩
        .simp[Ay]
        .exact(B rfl h0).symm
       subst hcx;exact cut id p _ H u
      .exact dead
     .exact dead
    |rp id p i k=>
     obtain⟨⟨H,s,sz,n,f,b,o,cap,u,hi,hk,W⟩,_⟩:=Z;simp only;split
     .rename_i sz1 n1 f1 E
      split
      .rename_i B
       obtain⟨rfl,rfl⟩:=B;have A:=At.sub u;rw[E]at A;simp only[V.nd.injEq,true_and]at A;obtain⟨rfl,rfl,rfl,rfl⟩:=A;have hcx:Ay false b o n cap=cv:=by rw[W];simp[Ay]
       rw[hcx]at u;exact cut id p _ H u
      .exact dead
     .exact dead
    |rm id p=>
     obtain⟨⟨H,l,b,u,W⟩,_⟩:=Z;simp only;split
     .rename_i l1 E
      have A:=At.sub u;rw[E]at A;simp only[V.mp.injEq,true_and]at A;subst A;exact cut id p _ H u
     .exact dead
def Bj:List V->List V->List V
 |[],_=>[]
 |.many .ag n _::vs,l=>Ag (l.take n)::Bj vs (l.drop n)
 |_::vs,l=>l.getD 0 .dead::Bj vs (l.drop 1)
def OP(l:List V):V:=match l with
 |[v]=>v
 |l=>.many .tu l.length λk=>l.getD k .dead
def WH(P:Program)(S:Ms):List ResultVar->List V->(List V->Prop)->Prop
 |[],acc,K=>K acc
 |.tmp t::rs,acc,K=>WH P S rs (acc++[S.t t]) K
 |.cell a t::rs,acc,K=>Iz (tyI P t) S.σ (S.t a) λv=>WH P S rs (acc++[v]) K
def Zj(σ:List V)(r:V)(e:List V):Prop:=
 e.all Bv=true/\Sub (OP (Bj e (tkL (e.flatMap cellsV).length (e.flatMap cellsV) σ))) r
def RetK(P:Program)(rs:List ResultVar)(r:V):Exit->Ms->Prop
 |.normal,S=>WH P S rs [] (Zj S.σ r)
 |.ret,S=>WH P S rs [] (Zj S.σ r)
 |_,_=>False
def HW(hR:∀v cv,R v cv->cv.oneCell'=true):∀(H:List V) (E:List Value) (e:List V) (B:Nat->Nat->Prop),E.length=H.length->H.all Bv=true->(∀j,j<H.length->Rel D w R (H.getD j .dead) (E.getD j undef) noF)->
  (∀j,j<(H.flatMap cellsV).length->Rel D w noR (e.getD j .dead) ((E.flatMap (·.cells.toList)).getD j undef) (B j))->(∀i j b,i≠j->B i b->¬B j b)->e.length=(H.flatMap cellsV).length->
  (Bj H e).length=H.length/\∃G:Nat->Nat->Prop,(∀j,j<H.length->Rel D w noR ((Bj H e).getD j .dead) (E.getD j undef) (G j))/\(∀i j b,i≠j->G i b->¬G j b)/\∀j b,G j b->∃i,B i b:=by
 intro H
 induction H with
 |nil=>intro E e B _ _ _ _ _ _;exact⟨rfl,λ_=>noF,λj hj=>by simp at hj,λ_ _ _ _ h=>h.elim,λ_ _ h=>h.elim⟩
 |cons v H ih=>
  intro E e B hl Z hr hf hd hfl;cases E with
  |nil=>simp at hl
  |cons cv E=>
   simp only[List.all_cons,bAE]at Z;have O:=hr 0 (by simp)
   simp only[List.getD_cons_zero]at O;obtain⟨⟨U,hcells⟩,_⟩:=Cc hR Z.1 O;simp only[List.flatMap_cons,List.length_append]at hf hfl
   obtain⟨h1,G,h2,h3,h4⟩:=ih E (e.drop (cellsV v).length) (λj=>B ((cellsV v).length+j)) (by simpa using hl) Z.2 (λj hj=>by simpa using hr (j+1) (by simpa using hj)) (λj hj=>by
    have:=hf ((cellsV v).length+j) (by omega)
    have e1:(e.drop (cellsV v).length).getD j .dead=e.getD ((cellsV v).length+j) .dead:=by simp
    have e2:(cv.cells.toList++E.flatMap (·.cells.toList)).getD ((cellsV v).length+j) undef=(E.flatMap (·.cells.toList)).getD j undef:=by
     simp only[gDE];rw[gAR (by simp[U])]
     simp[U]
    rw[e2]at this;rw[e1];exact this) (λi j b hij=>hd _ _ b (by omega)) (by rw[List.length_drop];omega)
   -- the first
   have first:∃Y,Bj (v::H) e=Y::Bj H (e.drop (cellsV v).length)/\Rel D w noR Y cv (λb=>∃j,j<(cellsV v).length/\B j b):=by
    have A:∀j,j<(cellsV v).length->Rel D w noR (e.getD j .dead) (cv.cells.toList.getD j undef) (B j):=λj hj=>by
     have:=hf j (by omega)
     have e2:(cv.cells.toList++E.flatMap (·.cells.toList)).getD j undef=cv.cells.toList.getD j undef:=by
      simp only[gDE];rw[gAL (by simp[U];exact hj)]
     rw[e2]at this;exact this
    have u:∀v:V,Zs v=true->cellsV v=[v]->Rel D w R v cv noF->(∀j,j<1->Rel D w noR (e.getD j .dead) (cv.cells.toList.getD j undef) (B j))->Bj (v::H) e=e.getD 0 .dead::Bj H (e.drop 1)->∃Y,Bj (v::H) e=Y::Bj H (e.drop (cellsV v).length)/\Rel D w noR Y cv (λb=>∃j,j<(cellsV v).length/\B j b):=by
     intro v ho hcv O A hrg;obtain⟨hc1,_⟩:=Rel.cells1 O hR ho;refine⟨_,by rw[hcv];exact hrg,?_⟩
     rw[hcv];have:=A 0 (by omega)
     rw[hc1]at this;refine Rel.fp_congr (fp:=B 0) (λb=>⟨λh=>⟨0,by simp,h⟩,?_⟩) (by simpa using this)
     rintro ⟨j,hj,h⟩
     simp at hj;subst hj;exact h
    cases v with
    |many t n f=>
     cases t with
     |bx=>exact absurd Z.1 (by simp[Bv])
     |tu=>exact absurd Z.1 (by simp[Bv])
     |cl g=>exact u _ rfl rfl O (λj hj=>A j (by simpa [cellsV]using hj)) rfl
     |ag=>
      obtain⟨cs,F',rfl,hn,_⟩:=O;have J:(cellsV (.many .ag n f)).length=n:=by simp[cellsV]
      refine⟨Ag (e.take n),by rw[J];rfl,?_⟩
      have hln:(e.take n).length=n:=by simp;rw[J]at hfl;omega
      unfold Ag;rw[hln];refine⟨cs,λj b=>B j b,rfl,hn,λk hk=>?_,λk k' b _ _ hkk=>hd k k' b hkk,λb=>by rw[J]⟩
      have:=A k (by rw[J];exact hk)
      have e1:(e.take n).getD k .dead=e.getD k .dead:=by simp[List.getElem?_take,hk]
      show Rel D w noR ((e.take n).getD k .dead) _ _;rw[e1];simpa [Value.cells]using this
    |dead=>exact absurd Z.1 (by simp[Bv])
    |c v=>exact u _ rfl rfl O (λj hj=>A j (by simpa [cellsV]using hj)) rfl
    |nd s own sz n f=>exact u _ rfl rfl O (λj hj=>A j (by simpa [cellsV]using hj)) rfl
    |rs id p off len=>exact u _ rfl rfl O (λj hj=>A j (by simpa [cellsV]using hj)) rfl
    |rp id p i k=>exact u _ rfl rfl O (λj hj=>A j (by simpa [cellsV]using hj)) rfl
    |rm id p=>exact u _ rfl rfl O (λj hj=>A j (by simpa [cellsV]using hj)) rfl
    |mp own l=>exact u _ rfl rfl O (λj hj=>A j (by simpa [cellsV]using hj)) rfl
   obtain⟨Y,e1,hr1⟩:=first
   rw[e1];refine⟨by simp[h1],λj=>match j with|0=>(λb=>∃j,j<(cellsV v).length/\B j b)|j+1=>G j,λj hj=>?_,λi j b hij hb W=>?_,λj b hb=>?_⟩
   .cases j with
    |zero=>exact hr1
    |succ j=>simpa using h2 j (by simpa using hj)
   .cases i with
    |zero=>cases j with
     |zero=>exact hij rfl
     |succ j=>
      obtain⟨l,hl,h⟩:=hb;obtain⟨i,hi⟩:=h4 j b W;exact hd _ _ b (by omega) h hi
    |succ i=>cases j with
     |zero=>
      obtain⟨l,hl,h⟩:=W;obtain⟨i,hi⟩:=h4 i b hb;exact hd _ _ b (by omega) hi h
     |succ j=>exact h3 i j b (by omega) hb W
   .cases j with
    |zero=>obtain⟨j,_,h⟩:=hb;exact⟨j,h⟩
    |succ j=>obtain⟨i,h⟩:=h4 j b hb;exact⟨_,h⟩
def rdV(tmps:Array Value):ResultVar->Sem Value
 |.tmp t=>pure (tmps.getD t undef)
 |.cell a t=>do loadVar t (<-asAddr (tmps.getD a undef))
theorem Lw{P:Program}{N:Nat}{S:Ms}{a:Act}(h:CR C S.σ ((List.range N).map S.t) a.tmps w D ρ F)(O:∀x,N<=x->S.t x=.dead):∀(rs:List ResultVar) (e:List V) (A:List Value) (K:List V->Prop),
  A.length=e.length->(∀j,j<e.length->Rel D w (Ai S.σ ρ w) (e.getD j .dead) (A.getD j undef) noF)->WH P S rs e K->
  ∃(B:List V) (u:List Value),(rs.mapM (rdV a.tmps)).run P w=.ok u w/\K (e++B)/\B.length=rs.length/\u.length=B.length/\
   ∀j,j<B.length->Rel D w (Ai S.σ ρ w) (B.getD j .dead) (u.getD j undef) noF:=by
 intro rs
 induction rs with
 |nil=>intro e A K _ _ H;exact⟨[],[],by simp,by simpa [WH]using H,rfl,rfl,λj hj=>by simp at hj⟩
 |cons r rs ih=>
  intro e A K Z hr H
  have go:∀(v:V) (cv:Value),Rel D w (Ai S.σ ρ w) v cv noF->(rdV a.tmps r).run P w=.ok cv w->WH P S rs (e++[v]) K->
    ∃(B:List V) (u:List Value),((r::rs).mapM (rdV a.tmps)).run P w=.ok u w/\K (e++B)/\B.length=(r::rs).length/\u.length=B.length/\
     ∀j,j<B.length->Rel D w (Ai S.σ ρ w) (B.getD j .dead) (u.getD j undef) noF:=by
   intro v cv U J H
   obtain⟨B,u,h1,h2,h3,h4,h5⟩:=ih (e++[v]) (A++[cv]) K (by simp[Z]) (λj hj=>by
    by_cases he:j<e.length
    .grind
    .obtain rfl:j=e.length:=by simp at hj;omega
     simp only[gDE];rw[gAR (by omega),gAR (by omega)]
     simpa [Z]using U) H
   refine⟨v::B,cv::u,?_,by simpa using h2,by simp[h3],by simp[h4],λj hj=>?_⟩
   .rw[List.mapM_cons,Sem.run_bind,J]
    simp only[Result.andThen,Sem.run_bind,h1];rfl
   .cases j with
    |zero=>exact U
    |succ j=>simpa using h5 j (by simpa using hj)
  cases r with
  |tmp t=>
   refine go (S.t t) (a.tmps.getD t undef) ?_ (by simp[rdV]) H
   have:=Bq (S:=S) (a:=a) h O (.tmp t);exact this
  |cell x t=>
   have hx:=Bq (S:=S) (a:=a) h O (.tmp x);obtain⟨v,Y,ad,cr,he,E,U⟩:=Ou (P:=P) h.wr hx H;refine go v cr U ?_ Y;have W:a.tmps.getD x undef=.pointer (some ad):=he;simp[rdV,W,asAddr,E]
def AcI:List Value->Value
 |[v]=>v
 |l=>.tuple l.toArray
def Hy{tmps:Array Value}{u:List Value}(h:(fn.results.toList.mapM (rdV tmps)).run P w=.ok u w):
  (results fn tmps).run P w=.ok (AcI u) w:=by
 have e:(fn.results.mapM (rdV tmps)).run P w=.ok u.toArray w:=by
  rw[Array.mapM_eq_mapM_toList];simp[h]
 show(do let vs<-fn.results.mapM (rdV tmps);pure (if h:vs.size=1 then vs[0]else .tuple vs):Sem Value).run P w=_
 rw[Sem.run_bind,e]
 match u with
 |[]=>rfl
 |[v]=>rfl
 |_::_::_=>rfl
theorem OO(l:List V)(cl:List Value)(G:Nat->Nat->Prop)(e:cl.length=l.length)(h:∀j,j<l.length->Rel D w noR (l.getD j .dead) (cl.getD j undef) (G j))(hd:∀i j b,i≠j->G i b->¬G j b):
  Rel D w noR (OP l) (AcI cl) (λb=>∃j,j<l.length/\G j b):=by
 have many:∀(l:List V) (cl:List Value),cl.length=l.length->(∀j,j<l.length->Rel D w noR (l.getD j .dead) (cl.getD j undef) (G j))->Rel D w noR (.many .tu l.length λk=>l.getD k .dead) (.tuple cl.toArray) (λb=>∃j,j<l.length/\G j b):=by
  intro l cl e h;exact⟨cl.toArray,G,rfl,by grind,λk A=>by simp_all,λk k' b _ _ u=>hd k k' b u,λ_=>Iff.rfl⟩
 match l,cl,e,h with
 |[v],[cv],_,h=>
  refine Rel.fp_congr (λb=>⟨λh=>⟨0,by simp,h⟩,?_⟩) (h 0 (by simp))
  simp
 |[],[],e,h=>exact many [] [] e h
 |v::v'::l,cv::cv'::cl,e,h=>exact many _ _ e h
theorem FC_of{f:FuncId}{body:Code}{h:Cd}{args:List V}{r:V}(hf:P.funcs[f]? =some fn)(E:fn.body=some body)(hn:max args.length fn.ntmps=h.n)
  (hv:(∀v∈args,WFV v)->∀(C:Ctx) (a:Act) (w:World) (Q:Exit->Act->World->Prop),C.m=0->AN C h.n ⟨λi=>args.getD i .dead,[]⟩ a w->(∀e S a' w',RetK P fn.results.toList r e S->AN C h.n S a' w'->Q e a' w')->body.wp P Q a w):FC P f args r:=by
 intro w D cvs hk hD hsz O
 let C:Ctx:=⟨w,λ_=>False,D,0,λ_=>undef,hk,λ_ _ h=>h⟩
 refine calls_of_wp hf E ?_;have hwf:∀v∈args,WFV v:=by
  intro v hv;obtain⟨i,hi,rfl⟩:=List.mem_iff_getElem.1 hv;have:=Rel.wf _ _ _ _ (O i hi);simpa [gDE,hi]using this
 have hs:AN C h.n ⟨λi=>args.getD i .dead,[]⟩ {tmps:=cvs++Array.replicate (fn.ntmps-cvs.size) undef,defers:=[]} w:=by
  refine⟨rfl,λx hx=>IM (by omega),D,λ_=>undef,λ_=>noF,⟨⟨λi hi=>by simp at hi,λ_ _ _ _ h=>h.elim,λ_ _ h=>h.elim,hD,λ_ _ _ h=>h.elim⟩,by simp[hsz];omega,λt ht=>?_,⟨rfl,rfl,rfl,le_refl _,λ_ _ _=>rfl,le_refl _⟩,λ_ _ h=>h.elim,λ_ h=>h,λ_ h _=>.inl h,λi hi=>absurd hi (Nat.not_lt_zero _),zero_le _⟩⟩
  rw[AP (by simpa using ht)]
  by_cases hta:t<args.length
  .have e2:(cvs++Array.replicate (fn.ntmps-cvs.size) undef).getD t undef=cvs.getD t undef:=by
    have:t<cvs.size:=by omega
    simp[Array.getElem?_append_left this]
   rw[e2];exact Rel.noR_mono (O t hta)
  .have e1:args.getD t .dead=.dead:=IM (Nat.le_of_not_lt hta)
   show Rel D w _ (args.getD t .dead) _ noF;rw[e1];exact λ_ h=>h
 refine hv hwf C _ _ _ rfl hs ?_;intro e S a w' Z hs'
 have fin:WH P S fn.results.toList [] (Zj S.σ r)->a.defers=[]/\∃v,(results fn a.tmps).run P w'=.ok v w'/\(∃cv fp D',Ending.returned v=.returned cv/\Below w.heap.size w w'/\Rel D' w' noR r cv fp/\(∀b,fp b->w.heap.size<=b)/\
   (∀b,D b->D' b)/\(∀b,D' b->D b\/w.heap.size<=b)/\∀b,D' b->b<w'.heap.size/\¬fp b):=by
  intro U;obtain⟨hd,hdd,D',ρ,F,u⟩:=hs';obtain⟨B,A,hrun,⟨H,heq⟩,hlen,hcl,hrel⟩:=Lw u hdd fn.results.toList [] [] _ rfl (λj hj=>by simp at hj) U
  simp only[List.nil_append]at H heq;refine⟨hd,_,Hy hrun,?_⟩
  -- the flat list
  have J:QR D' w' (Ai S.σ ρ w') (B.flatMap cellsV) (A.flatMap (·.cells.toList)).toArray:=by
   clear heq hrun hlen U
   induction B generalizing A with
   |nil=>cases A with
    |nil=>exact⟨rfl,λj hj=>by simp at hj⟩
    |cons=>simp at hcl
   |cons v B ih=>
    cases A with
    |nil=>simp at hcl
    |cons cv A=>
     simp only[List.all_cons,bAE]at H;obtain⟨⟨h1,h2⟩,_⟩:=Cc (λv cv h=>Ai.one h) H.1 (by simpa using hrel 0 (by simp))
     obtain⟨h3,h4⟩:=ih A H.2 (by simpa using hcl) (λj hj=>by simpa using hrel (j+1) (by simpa using hj))
     refine⟨by simp[h1]at h3⊢;omega,λj hj=>?_⟩
     simp only[List.flatMap_cons];by_cases Y:j<(cellsV v).length
     .rw[AB Y]
      have e2:(cv.cells.toList++A.flatMap (·.cells.toList)).toArray.getD j undef=cv.cells.getD j undef:=by
       simp[gAL,h1,Y]
      rw[e2];exact h2 j Y
     .have hj2:j-(cellsV v).length<(B.flatMap cellsV).length:=by simp at hj;simp;omega
      have:=h4 (j-(cellsV v).length) hj2
      have e1:(cellsV v++B.flatMap cellsV).getD j .dead=(B.flatMap cellsV).getD (j-(cellsV v).length) .dead:=by
       simp only[gDE];rw[gAR (by omega)]
      have e2:(cv.cells.toList++A.flatMap (·.cells.toList)).toArray.getD j undef=(A.flatMap (·.cells.toList)).toArray.getD (j-(cellsV v).length) undef:=by
       simp only[Array.getD_eq_getD_getElem?,List.getElem?_toArray];rw[gAR (by simp[h1];omega)]
       simp[h1]
      rw[e1,e2];exact this
  have hcr2:CR C S.σ (B.flatMap cellsV) (A.flatMap (·.cells.toList)).toArray w' D' ρ F:=⟨u.wr,J.1,J.2,u.fr,u.Fn,u.D1,u.D2,u.rt,u.ml⟩
  obtain⟨fps,hf1,hf2,hf3⟩:=NW (B.flatMap cellsV).length _ _ _ _ _ hcr2 (le_refl _);obtain⟨hrl,G,hg1,hg2,hg3⟩:=HW (λv cv h=>Ai.one h) B A (tkL (B.flatMap cellsV).length (B.flatMap cellsV) S.σ) fps hcl H hrel hf1 hf2 (Lj _ _ _ (le_refl _))
  have W:=OO (Bj B (tkL (B.flatMap cellsV).length (B.flatMap cellsV) S.σ)) A G (by rw[hrl,hcl]) (λj hj=>hg1 j (by rw[hrl]at hj;exact hj)) hg2
  have hGF:∀b,(∃j,j<(Bj B (tkL (B.flatMap cellsV).length (B.flatMap cellsV) S.σ)).length/\G j b)->∃i,F i b:=by
   rintro b ⟨j,_,E⟩
   obtain⟨i,hi⟩:=hg3 j b E;exact hf3 i b hi
  refine⟨_,_,D',rfl,⟨u.fr.os,u.fr.tape,u.fr.output,u.fr.size,λb E=>u.fr.block b E (λh=>h),u.fr.drawn⟩,Rel.sub heq W,λb E=>?_,u.D1,λb E=>?_,λb E=>⟨u.wr.Dlt b E,λh=>?_⟩⟩
  .obtain⟨i,hi⟩:=hGF b E
   exact(u.Fn i b hi).elim (λh=>h.elim) λh=>h
  .rcases Nat.lt_or_ge b w.heap.size with h|h
   .exact .inl ((u.D2 b E h).elim (λh=>h) λh=>h.elim)
   .exact .inr h
  .obtain⟨i,hi⟩:=hGF b h
   exact u.wr.dD i b hi E
 cases e with
 |normal=>exact fin Z
 |ret=>exact fin Z
 |exit id=>exact Z.elim
 |goto l=>exact Z.elim
 |panic ch=>exact Z.elim
 |outgrown=>exact Z.elim
end Go.Ve

