/- Contracts of functions, out of the small machine's walk over their bodies. -/
import Derived.Test.YtojjlnbnneemaaaVp
set_option linter.all false
namespace Go.Ve
variable{cts:Array Value}{C:Ctx}{fn:Func}{ts σ:List V}{j:Nat}{F:Nat->Nat->Prop}{D:Nat->Prop}{ρ:Nat->Value}{P:Program}{R:V->Value->Prop}{w:World}
def WFV:V->Prop
 |.many _ n f=>∀k,k<n->WFV (f k)
 |.nd _ _ sz n f=>n<=maxLen/\∀i k,i<n->k<sz->WFV (f i k)
 |_=>True
theorem Rel.wf:∀(v:V) (R:V->Value->Prop) (cv:Value) (fp:Nat->Prop),Rel D w R v cv fp->WFV v:=by
 intro v
 induction v with
 |many t n f A=>intro R cv fp h;obtain⟨cs,F,_,_,B,_⟩:=h;exact λk E=>A k _ _ _ (B k E)
 |nd s own sz n f A=>
  intro R cv fp h;rcases h with⟨rfl,_⟩|⟨b,o,cap,F,_,_,e,_,B,_⟩
  .exact⟨Nat.zero_le _,λi k J=>by omega⟩
  .exact⟨e,λi k J E=>by grind⟩
 |_=>intro R cv fp _;trivial
def tkL:Nat->List V->List V->List V
 |0,_,_=>[]
 |_+1,[],_=>[]
 |m+1,v::vs,σ=>match v with
  |.rs id p off len=>match sub p (σ.getD id .dead)with
   |.nd true true sz n f=>if off=0/\len=n then .nd true true sz n f::tkL m (vs.map λv=>AP σ.length [] (rrV id p σ.length v)) (σ.set id (upd p (σ.getD id .dead) .dead)++[.dead])else .dead::tkL m vs σ
   |_=>.dead::tkL m vs σ
  |.rp id p i k=>match sub p (σ.getD id .dead)with
   |.nd false true sz n f=>if i=0/\k=0 then .nd false true sz n f::tkL m (vs.map λv=>AP σ.length [] (rrV id p σ.length v)) (σ.set id (upd p (σ.getD id .dead) .dead)++[.dead])else .dead::tkL m vs σ
   |_=>.dead::tkL m vs σ
  |.rm id p=>match sub p (σ.getD id .dead)with
   |.mp true l=>.mp true l::tkL m (vs.map λv=>AP σ.length [] (rrV id p σ.length v)) (σ.set id (upd p (σ.getD id .dead) .dead)++[.dead])
   |_=>.dead::tkL m vs σ
  |.many _ _ _=>.dead::tkL m vs σ
  |v=>v::tkL m vs σ
theorem K5:∀(m:Nat) (l σ:List V),l.length<=m->(tkL m l σ).length=l.length:=by
 intro m
 induction m with
 |zero=>intro l σ h;cases l<;>first|rfl|grind
 |succ m A=>
  intro l σ h;cases l with
  |nil=>rfl
  |cons v e=>
   unfold tkL
   grind
theorem CR.drop(h:CR C σ ts cts w D ρ F)(U:j<σ.length):
  CR C (σ.set j .dead) (ts.map (AP j [])) cts w D ρ (λi=>if i=j then noF else F i):=by
 have E:∀i b,(if i=j then noF else F i) b->F i b/\i≠j:=by
  intro i b B;split at B
  .exact B.elim
  grind
 refine⟨⟨λi M=>?_,λi l b L Y W=>h.wr.disj i l b L (E _ _ Y).1 (E _ _ W).1,λi b B=>h.wr.dD i b (E _ _ B).1,h.wr.Dlt,λi b M B=>h.wr.out i b (by simpa using M) (E _ _ B).1⟩,by simpa using h.sz,λt J=>?_,h.fr,λi b B=>h.Fn i b (E _ _ B).1,h.D1,h.D2,h.rt,by simpa using h.ml⟩
 .by_cases O:i=j
  .subst O
   rw[Ag U];simp only[if_true];exact λ_ h=>h
  .rw[Af (Ne.symm O)]
   simp only[O,if_false];exact h.wr.rel i (by simpa using M)
 .simp at J
  have Z:(ts.map (AP j [])).getD t .dead=AP j [] (ts.getD t .dead):=by simp[J]
  rw[Z];refine(Be _ _).rel (λ_ _=>rfl) ?_ ?_ ?_ _ _ noF (λ_ h=>h) (h.tm t J)
  .rintro id q off len cv ⟨A,r⟩
   simp only[AP,A1,and_true];split
   .exact λ_ h=>h
   .rename_i e
    exact⟨⟨by simpa using A,by rw[Af (Ne.symm e)];exact r⟩,λ_ h=>h⟩
  .rintro id q i k cv ⟨A,r⟩
   simp only[AP,A1,and_true];split
   .exact λ_ h=>h
   .rename_i e
    exact⟨⟨by simpa using A,by rw[Af (Ne.symm e)];exact r⟩,λ_ h=>h⟩
  .rintro id q cv ⟨A,r⟩
   simp only[AP,A1,and_true];split
   .exact λ_ h=>h
   .rename_i e
    exact⟨⟨by simpa using A,by rw[Af (Ne.symm e)];exact r⟩,λ_ h=>h⟩
theorem Am.hd(M:Bs σ w D ρ F){id off len:Nat}{p:List (Nat×Nat)}{cv:Value}(h:Am σ ρ w (.rs id p off len) cv):Rel D w R (.nd true false 0 len λ_ _=>.dead) cv noF:=by
 obtain⟨B,sz,n,f,cn,ha,Y,Z⟩:=h;obtain⟨fp1,e,_⟩:=Dg (w':=w) p _ _ _ _ _ (M.rel id B) (λb hD hF=>M.dD id b hF hD) ha
 have mk:∀(b o cap:Nat),cv=AD true b o len cap->len<=cap->len<=maxLen->Rel D w R (.nd true false 0 len λ_ _=>.dead) cv noF:=λb o cap h1 h2 L=>
  .inr ⟨b,o,cap,λ_ _=>noF,h1,h2,L,(λh=>by grind),λ_ _ _ A=>absurd A (Nat.not_lt_zero _),λ_=>⟨λh=>absurd h (by simp),λ_ _ _ _ A=>absurd A (Nat.not_lt_zero _),λ_ h=>h⟩,λh=>by grind⟩
 rcases Z with⟨b,o,cap,rfl,rfl⟩|⟨rfl,a,rfl,_⟩
 .rcases e with⟨_,_,L,_⟩|⟨b',o',W,F',E,U,O,_⟩
  .exact absurd L BQ
  .obtain⟨_,_,J⟩:=Az E
   have:=J rfl;exact mk b (o+off*sz) (cap-off) rfl (by omega) (by omega)
 .cases a with
  |none=>exact .inl ⟨rfl,rfl,.inl rfl,λ_ h=>h⟩
  |some p=>exact mk p.1 p.2 0 rfl (Nat.le_refl _) (Nat.zero_le _)
def hdK(j:Nat):V->V
 |.rs id p off len=>if id=j then .nd true false 0 len λ_ _=>.dead else .rs id p off len
 |v=>AP j [] v
theorem CR.dropH(h:CR C σ ts cts w D ρ F)(L:j<σ.length):
  CR C (σ.set j .dead) (ts.map (hdK j)) cts w D ρ (λi=>if i=j then noF else F i):=by
 have e:=h.drop L;refine⟨e.wr,by simpa using h.sz,λt A=>?_,e.fr,e.Fn,e.D1,e.D2,e.rt,e.ml⟩
 have A:=by simpa using A
 have O:(ts.map (hdK j)).getD t .dead=hdK j (ts.getD t .dead):=by simp_all
 have E:=e.tm t (by grind)
 have M:(ts.map (AP j [])).getD t .dead=AP j [] (ts.getD t .dead):=by grind
 have J:=h.tm t A;rw[O];rw[M]at E;generalize ts.getD t .dead=v at E J;cases v with
 |rs id p off len=>
  show Rel D w _ (if id=j then _ else _) _ _
  split
  .exact Am.hd h.wr J.1
  .rename_i B
   have U:AP j [] (V.rs id p off len)=.rs id p off len:=if_neg λh=>B h.1
   grind
 |_=>exact E
theorem Nr:∀(m:Nat) (l:List V) (cl:List Value) (σ:List V) (ρ:Nat->Value) (F:Nat->Nat->Prop),CR C σ l cl.toArray w D ρ F->l.length<=m->
  ∃e:Nat->Nat->Prop,(∀j,j<l.length->Rel D w noR ((tkL m l σ).getD j .dead) (cl.getD j undef) (e j))/\(∀i j b,i≠j->e i b->¬e j b)/\(∀j b,e j b->∃i,F i b):=by
 intro m
 induction m with
 |zero=>intro l cl σ ρ F h hl;exact⟨λ_=>noF,λj hj=>by omega,λ_ _ _ _ h=>h.elim,λ_ _ h=>h.elim⟩
 |succ m ih=>
  intro l cl σ ρ F h hl;cases l with
  |nil=>exact⟨λ_=>noF,λj hj=>by simp at hj,λ_ _ _ _ h=>h.elim,λ_ _ h=>h.elim⟩
  |cons v vs=>
   have hsz:=h.sz;cases cl with
   |nil=>simp at hsz
   |cons cv cvs=>
    simp only[List.length_cons]at hl;have Z:Rel D w (Am σ ρ w) v cv noF:=by simpa using h.tm 0 (by simp)
    have U:CR C σ vs cvs.toArray w D ρ F:=by
     refine⟨h.wr,by simpa using hsz,λj hj=>?_,h.fr,h.Fn,h.D1,h.D2,h.rt,h.ml⟩
     simpa using h.tm (j+1) (by simpa using hj)
    -- a component that owns nothing new
    have plain:∀(v':V),Rel D w noR v' cv noF->∃e:Nat->Nat->Prop,(∀j,j<(v::vs).length->Rel D w noR ((v'::tkL m vs σ).getD j .dead) ((cv::cvs).getD j undef) (e j))/\(∀i j b,i≠j->e i b->¬e j b)/\(∀j b,e j b->∃i,F i b):=by
     intro v' hv';obtain⟨e,h1,h2,h3⟩:=ih vs cvs σ ρ F U (by omega)
     refine⟨λj=>match j with|0=>noF|j+1=>e j,λj hj=>?_,λi j b hij M O=>?_,λj b M=>?_⟩
     .cases j with
      |zero=>exact hv'
      |succ j=>simpa using h1 j (by simpa using hj)
     .cases i with
      |zero=>exact M.elim
      |succ i=>cases j with
       |zero=>exact O.elim
       |succ j=>exact h2 i j b (by omega) M O
     .cases j with
      |zero=>exact M.elim
      |succ j=>exact h3 j b M
    -- a reference: its node is cut out
    have cut:∀(id:Nat) (p:List (Nat×Nat)) (v1:V),id<σ.length->At w p (σ.getD id .dead) (ρ id) v1 cv->
      ∃e:Nat->Nat->Prop,(∀j,j<(v::vs).length->Rel D w noR ((v1::tkL m (vs.map λv=>AP σ.length [] (rrV id p σ.length v)) (σ.set id (upd p (σ.getD id .dead) .dead)++[.dead])).getD j .dead) ((cv::cvs).getD j undef) (e j))/\(∀i j b,i≠j->e i b->¬e j b)/\(∀j b,e j b->∃i,F i b):=by
     intro id p v1 L A;obtain⟨ρ',F',Y,hρ,hρo,hF'⟩:=CR.reroot U L A;have hd:=Y.drop (j:=σ.length) (by simp)
     have e1:(σ.set id (upd p (σ.getD id .dead) .dead)++[sub p (σ.getD id .dead)]).set σ.length .dead=σ.set id (upd p (σ.getD id .dead) .dead)++[.dead]:=by
      rw[List.set_append_right _ _ (by simp)];simp
     rw[e1,List.map_map]at hd;obtain⟨e,h1,h2,h3⟩:=ih _ cvs _ _ _ hd (by simp;omega)
     have hroot:Rel D w noR v1 cv (F' σ.length):=by
      have:=Y.wr.rel σ.length (by simp)
      rw[hρ]at this;have e2:(σ.set id (upd p (σ.getD id .dead) .dead)++[sub p (σ.getD id .dead)]).getD σ.length .dead=sub p (σ.getD id .dead):=by simp
      rw[e2,<-At.sub A]at this;exact this
     have hfp:∀j b,e j b->∃i,i≠σ.length/\F' i b:=by
      intro j b M;obtain⟨i,hi⟩:=h3 j b M;split at hi
      .exact hi.elim
      .exact⟨i,by assumption,hi⟩
     refine⟨λj=>match j with|0=>F' σ.length|j+1=>e j,λj hj=>?_,λi j b hij M O=>?_,λj b M=>?_⟩
     .cases j with
      |zero=>exact hroot
      |succ j=>exact h1 j (by simpa using hj)
     .cases i with
      |zero=>cases j with
       |zero=>exact hij rfl
       |succ j=>obtain⟨i,hne,hi⟩:=hfp j b O;exact Y.wr.disj _ _ b (Ne.symm hne) M hi
      |succ i=>cases j with
       |zero=>obtain⟨l,hne,hl⟩:=hfp i b M;exact Y.wr.disj _ _ b hne hl O
       |succ j=>exact h2 i j b (by omega) M O
     .cases j with
      |zero=>exact hF' _ b M
      |succ j=>obtain⟨i,_,hi⟩:=hfp j b M;exact hF' i b hi
    have dead:=plain .dead (λ_ h=>h)
    unfold tkL;cases v with
    |c v=>exact plain _ ⟨Z.1,Z.2.1,Z.2.2⟩
    |dead=>exact dead
    |many=>exact dead
    |nd s own sz n f=>exact plain _ Z
    |mp own l=>exact plain _ Z
    |rs id p off len=>
     obtain⟨⟨L,sz,n,f,cn,A,hle,W⟩,_⟩:=Z;simp only;split
     .rename_i sz1 n1 f1 J
      split
      .rename_i E
       obtain⟨rfl,rfl⟩:=E;have B:=At.sub A;rw[J]at B;simp only[V.nd.injEq,true_and]at B;obtain⟨rfl,rfl,rfl⟩:=B;have hcx:cn=cv:=by
        rcases W with⟨b2,o2,cap2,rfl,rfl⟩|⟨h0,_,_,E,_⟩
        .simp[AD]
        .exact(E rfl h0).symm
       subst hcx;exact cut id p _ L A
      .exact dead
     .exact dead
    |rp id p i k=>
     obtain⟨⟨L,s,sz,n,f,b,o,cap,A,hi,hk,W⟩,_⟩:=Z;simp only;split
     .rename_i sz1 n1 f1 J
      split
      .rename_i E
       obtain⟨rfl,rfl⟩:=E;have B:=At.sub A;rw[J]at B;simp only[V.nd.injEq,true_and]at B;obtain⟨rfl,rfl,rfl,rfl⟩:=B;have hcx:AD false b o n cap=cv:=by rw[W];simp[AD]
       rw[hcx]at A;exact cut id p _ L A
      .exact dead
     .exact dead
    |rm id p=>
     obtain⟨⟨L,l,b,A,W⟩,_⟩:=Z;simp only;split
     .rename_i l1 J
      have B:=At.sub A;rw[J]at B;simp only[V.mp.injEq,true_and]at B;subst B;exact cut id p _ L A
     .exact dead
def Bm:List V->List V->List V
 |[],_=>[]
 |.many .ag n _::vs,l=>Aj (l.take n)::Bm vs (l.drop n)
 |_::vs,l=>l.getD 0 .dead::Bm vs (l.drop 1)
def Ol(l:List V):V:=match l with
 |[v]=>v
 |l=>.many .tu l.length λk=>l.getD k .dead
def VI(P:Program)(S:Ms):List ResultVar->List V->(List V->Prop)->Prop
 |[],acc,K=>K acc
 |.tmp t::rs,acc,K=>VI P S rs (acc++[S.t t]) K
 |.cell a t::rs,acc,K=>Iy (tyI P t) S.σ (S.t a) λv=>VI P S rs (acc++[v]) K
def XX(σ:List V)(r:V)(e:List V):Prop:=
 e.all Bw=true/\Sub (Ol (Bm e (tkL (e.flatMap cellsV).length (e.flatMap cellsV) σ))) r
def RetK(P:Program)(rs:List ResultVar)(r:V):Exit->Ms->Prop
 |.normal,S=>VI P S rs [] (XX S.σ r)
 |.ret,S=>VI P S rs [] (XX S.σ r)
 |_,_=>False
def HR(hR:∀v cv,R v cv->cv.oneCell'=true):∀(M:List V) (L:List Value) (e:List V) (E:Nat->Nat->Prop),L.length=M.length->M.all Bw=true->(∀j,j<M.length->Rel D w R (M.getD j .dead) (L.getD j undef) noF)->
  (∀j,j<(M.flatMap cellsV).length->Rel D w noR (e.getD j .dead) ((L.flatMap (·.cells.toList)).getD j undef) (E j))->(∀i j b,i≠j->E i b->¬E j b)->e.length=(M.flatMap cellsV).length->
  (Bm M e).length=M.length/\∃G:Nat->Nat->Prop,(∀j,j<M.length->Rel D w noR ((Bm M e).getD j .dead) (L.getD j undef) (G j))/\(∀i j b,i≠j->G i b->¬G j b)/\∀j b,G j b->∃i,E i b:=by
 intro M
 induction M with
 |nil=>intro L e E _ _ _ _ _ _;exact⟨rfl,λ_=>noF,λj J=>by simp at J,λ_ _ _ _ h=>h.elim,λ_ _ h=>h.elim⟩
 |cons v M ih=>
  intro L e E hl hp hr hf hd hfl;cases L with
  |nil=>simp at hl
  |cons cv L=>
   simp only[List.all_cons,bAE]at hp;have U:=hr 0 (by simp)
   simp only[List.getD_cons_zero]at U;obtain⟨⟨W,hcells⟩,_⟩:=Ce hR hp.1 U;simp only[List.flatMap_cons,List.length_append]at hf hfl
   obtain⟨h1,G,h2,h3,h4⟩:=ih L (e.drop (cellsV v).length) (λj=>E ((cellsV v).length+j)) (by simpa using hl) hp.2 (λj J=>by simpa using hr (j+1) (by simpa using J)) (λj J=>by
    have:=hf ((cellsV v).length+j) (by omega)
    have e1:(e.drop (cellsV v).length).getD j .dead=e.getD ((cellsV v).length+j) .dead:=by simp
    have e2:(cv.cells.toList++L.flatMap (·.cells.toList)).getD ((cellsV v).length+j) undef=(L.flatMap (·.cells.toList)).getD j undef:=by
     simp only[gDE];rw[gAR (by simp[W])]
     simp[W]
    rw[e2]at this;rw[e1];exact this) (λi j b hij=>hd _ _ b (by omega)) (by rw[List.length_drop];omega)
   -- the first
   have first:∃Z,Bm (v::M) e=Z::Bm M (e.drop (cellsV v).length)/\Rel D w noR Z cv (λb=>∃j,j<(cellsV v).length/\E j b):=by
    have B:∀j,j<(cellsV v).length->Rel D w noR (e.getD j .dead) (cv.cells.toList.getD j undef) (E j):=λj J=>by
     have:=hf j (by omega)
     have e2:(cv.cells.toList++L.flatMap (·.cells.toList)).getD j undef=cv.cells.toList.getD j undef:=by
      simp only[gDE];rw[gAL (by simp[W];exact J)]
     rw[e2]at this;exact this
    have A:∀v:V,X6 v=true->cellsV v=[v]->Rel D w R v cv noF->(∀j,j<1->Rel D w noR (e.getD j .dead) (cv.cells.toList.getD j undef) (E j))->Bm (v::M) e=e.getD 0 .dead::Bm M (e.drop 1)->∃Z,Bm (v::M) e=Z::Bm M (e.drop (cellsV v).length)/\Rel D w noR Z cv (λb=>∃j,j<(cellsV v).length/\E j b):=by
     intro v ho hcv U B hrg;obtain⟨hc1,_⟩:=Rel.cells1 U hR ho;refine⟨_,by rw[hcv];exact hrg,?_⟩
     rw[hcv];have:=B 0 (by omega)
     rw[hc1]at this;refine Rel.fp_congr (fp:=E 0) (λb=>⟨λh=>⟨0,by simp,h⟩,?_⟩) (by simpa using this)
     rintro ⟨j,J,h⟩
     simp at J;subst J;exact h
    cases v with
    |many t n f=>
     cases t with
     |bx=>exact absurd hp.1 (by simp[Bw])
     |tu=>exact absurd hp.1 (by simp[Bw])
     |cl g=>exact A _ rfl rfl U (λj J=>B j (by simpa [cellsV]using J)) rfl
     |ag=>
      obtain⟨cs,F',rfl,hn,_⟩:=U;have O:(cellsV (.many .ag n f)).length=n:=by simp[cellsV]
      refine⟨Aj (e.take n),by rw[O];rfl,?_⟩
      have hln:(e.take n).length=n:=by simp;rw[O]at hfl;omega
      unfold Aj;rw[hln];refine⟨cs,λj b=>E j b,rfl,hn,λk hk=>?_,λk k' b _ _ hkk=>hd k k' b hkk,λb=>by rw[O]⟩
      have:=B k (by rw[O];exact hk)
      have e1:(e.take n).getD k .dead=e.getD k .dead:=by simp[List.getElem?_take,hk]
      show Rel D w noR ((e.take n).getD k .dead) _ _;rw[e1];simpa [Value.cells]using this
    |dead=>exact absurd hp.1 (by simp[Bw])
    |c v=>exact A _ rfl rfl U (λj J=>B j (by simpa [cellsV]using J)) rfl
    |nd s own sz n f=>exact A _ rfl rfl U (λj J=>B j (by simpa [cellsV]using J)) rfl
    |rs id p off len=>exact A _ rfl rfl U (λj J=>B j (by simpa [cellsV]using J)) rfl
    |rp id p i k=>exact A _ rfl rfl U (λj J=>B j (by simpa [cellsV]using J)) rfl
    |rm id p=>exact A _ rfl rfl U (λj J=>B j (by simpa [cellsV]using J)) rfl
    |mp own l=>exact A _ rfl rfl U (λj J=>B j (by simpa [cellsV]using J)) rfl
   obtain⟨Z,e1,hr1⟩:=first
   rw[e1];refine⟨by simp[h1],λj=>match j with|0=>(λb=>∃j,j<(cellsV v).length/\E j b)|j+1=>G j,λj J=>?_,λi j b hij hb Y=>?_,λj b hb=>?_⟩
   .cases j with
    |zero=>exact hr1
    |succ j=>simpa using h2 j (by simpa using J)
   .cases i with
    |zero=>cases j with
     |zero=>exact hij rfl
     |succ j=>
      obtain⟨l,hl,h⟩:=hb;obtain⟨i,hi⟩:=h4 j b Y;exact hd _ _ b (by omega) h hi
    |succ i=>cases j with
     |zero=>
      obtain⟨l,hl,h⟩:=Y;obtain⟨i,hi⟩:=h4 i b hb;exact hd _ _ b (by omega) hi h
     |succ j=>exact h3 i j b (by omega) hb Y
   .cases j with
    |zero=>obtain⟨j,_,h⟩:=hb;exact⟨j,h⟩
    |succ j=>obtain⟨i,h⟩:=h4 j b hb;exact⟨_,h⟩
def rdV(tmps:Array Value):ResultVar->Sem Value
 |.tmp t=>pure (tmps.getD t undef)
 |.cell a t=>do loadVar t (<-asAddr (tmps.getD a undef))
theorem Ld{P:Program}{N:Nat}{S:Ms}{a:Act}(h:CR C S.σ ((List.range N).map S.t) a.tmps w D ρ F)(U:∀x,N<=x->S.t x=.dead):∀(rs:List ResultVar) (e:List V) (B:List Value) (K:List V->Prop),
  B.length=e.length->(∀j,j<e.length->Rel D w (Am S.σ ρ w) (e.getD j .dead) (B.getD j undef) noF)->VI P S rs e K->
  ∃(E:List V) (A:List Value),(rs.mapM (rdV a.tmps)).run P w=.ok A w/\K (e++E)/\E.length=rs.length/\A.length=E.length/\
   ∀j,j<E.length->Rel D w (Am S.σ ρ w) (E.getD j .dead) (A.getD j undef) noF:=by
 intro rs
 induction rs with
 |nil=>intro e B K _ _ L;exact⟨[],[],by simp,by simpa [VI]using L,rfl,rfl,λj O=>by simp at O⟩
 |cons r rs ih=>
  intro e B K hl hr L
  have go:∀(v:V) (cv:Value),Rel D w (Am S.σ ρ w) v cv noF->(rdV a.tmps r).run P w=.ok cv w->VI P S rs (e++[v]) K->
    ∃(E:List V) (A:List Value),((r::rs).mapM (rdV a.tmps)).run P w=.ok A w/\K (e++E)/\E.length=(r::rs).length/\A.length=E.length/\
     ∀j,j<E.length->Rel D w (Am S.σ ρ w) (E.getD j .dead) (A.getD j undef) noF:=by
   intro v cv W M L
   obtain⟨E,A,h1,h2,h3,h4,h5⟩:=ih (e++[v]) (B++[cv]) K (by simp[hl]) (λj O=>by
    by_cases he:j<e.length
    .grind
    .obtain rfl:j=e.length:=by simp at O;omega
     simp only[gDE];rw[gAR (by omega),gAR (by omega)]
     simpa [hl]using W) L
   refine⟨v::E,cv::A,?_,by simpa using h2,by simp[h3],by simp[h4],λj O=>?_⟩
   .rw[List.mapM_cons,Sem.run_bind,M]
    simp only[Result.andThen,Sem.run_bind,h1];rfl
   .cases j with
    |zero=>exact W
    |succ j=>simpa using h5 j (by simpa using O)
  cases r with
  |tmp t=>
   refine go (S.t t) (a.tmps.getD t undef) ?_ (by simp[rdV]) L
   have:=Bu (S:=S) (a:=a) h U (.tmp t);exact this
  |cell x t=>
   have hx:=Bu (S:=S) (a:=a) h U (.tmp x);obtain⟨v,Z,ad,cr,he,J,W⟩:=N1 (P:=P) h.wr hx L;refine go v cr W ?_ Z;have Y:a.tmps.getD x undef=.pointer (some ad):=he;simp[rdV,Y,asAddr,J]
def packC:List Value->Value
 |[v]=>v
 |l=>.tuple l.toArray
def JQ{tmps:Array Value}{A:List Value}(h:(fn.results.toList.mapM (rdV tmps)).run P w=.ok A w):
  (results fn tmps).run P w=.ok (packC A) w:=by
 have e:(fn.results.mapM (rdV tmps)).run P w=.ok A.toArray w:=by
  rw[Array.mapM_eq_mapM_toList];simp[h]
 show(do let vs<-fn.results.mapM (rdV tmps);pure (if h:vs.size=1 then vs[0]else .tuple vs):Sem Value).run P w=_
 rw[Sem.run_bind,e]
 match A with
 |[]=>rfl
 |[v]=>rfl
 |_::_::_=>rfl
theorem Ok(l:List V)(cl:List Value)(G:Nat->Nat->Prop)(e:cl.length=l.length)(h:∀j,j<l.length->Rel D w noR (l.getD j .dead) (cl.getD j undef) (G j))(hd:∀i j b,i≠j->G i b->¬G j b):
  Rel D w noR (Ol l) (packC cl) (λb=>∃j,j<l.length/\G j b):=by
 have many:∀(l:List V) (cl:List Value),cl.length=l.length->(∀j,j<l.length->Rel D w noR (l.getD j .dead) (cl.getD j undef) (G j))->Rel D w noR (.many .tu l.length λk=>l.getD k .dead) (.tuple cl.toArray) (λb=>∃j,j<l.length/\G j b):=by
  intro l cl e h;exact⟨cl.toArray,G,rfl,by grind,λk B=>by simp_all,λk k' b _ _ A=>hd k k' b A,λ_=>Iff.rfl⟩
 match l,cl,e,h with
 |[v],[cv],_,h=>
  refine Rel.fp_congr (λb=>⟨λh=>⟨0,by simp,h⟩,?_⟩) (h 0 (by simp))
  simp
 |[],[],e,h=>exact many [] [] e h
 |v::v'::l,cv::cv'::cl,e,h=>exact many _ _ e h
theorem FC_of{f:FuncId}{body:Code}{h:Cz}{args:List V}{r:V}(hf:P.funcs[f]? =some fn)(L:fn.body=some body)(hn:max args.length fn.ntmps=h.n)
  (hv:(∀v∈args,WFV v)->∀(C:Ctx) (a:Act) (w:World) (Q:Exit->Act->World->Prop),C.m=0->AU C h.n ⟨λi=>args.getD i .dead,[]⟩ a w->(∀e S a' w',RetK P fn.results.toList r e S->AU C h.n S a' w'->Q e a' w')->body.wp P Q a w):FC P f args r:=by
 intro w D cvs hk hD hsz U
 let C:Ctx:=⟨w,λ_=>False,D,0,λ_=>undef,hk,λ_ _ h=>h⟩
 refine calls_of_wp hf L ?_;have hwf:∀v∈args,WFV v:=by
  intro v hv;obtain⟨i,J,rfl⟩:=List.mem_iff_getElem.1 hv;have:=Rel.wf _ _ _ _ (U i J);simpa [gDE,J]using this
 have hs:AU C h.n ⟨λi=>args.getD i .dead,[]⟩ {tmps:=cvs++Array.replicate (fn.ntmps-cvs.size) undef,defers:=[]} w:=by
  refine⟨rfl,λx hx=>IM (by omega),D,λ_=>undef,λ_=>noF,⟨⟨λi J=>by simp at J,λ_ _ _ _ h=>h.elim,λ_ _ h=>h.elim,hD,λ_ _ _ h=>h.elim⟩,by simp[hsz];omega,λt ht=>?_,⟨rfl,rfl,rfl,Nat.le_refl _,λ_ _ _=>rfl,Nat.le_refl _⟩,λ_ _ h=>h.elim,λ_ h=>h,λ_ h _=>.inl h,λi J=>absurd J (Nat.not_lt_zero _),Nat.zero_le _⟩⟩
  rw[AX (by simpa using ht)]
  by_cases hta:t<args.length
  .have e2:(cvs++Array.replicate (fn.ntmps-cvs.size) undef).getD t undef=cvs.getD t undef:=by
    have:t<cvs.size:=by omega
    simp[Array.getElem?_append_left this]
   rw[e2];exact Rel.noR_mono (U t hta)
  .have e1:args.getD t .dead=.dead:=IM (Nat.le_of_not_lt hta)
   show Rel D w _ (args.getD t .dead) _ noF;rw[e1];exact λ_ h=>h
 refine hv hwf C _ _ _ rfl hs ?_;intro e S a w' hq hs'
 have fin:VI P S fn.results.toList [] (XX S.σ r)->a.defers=[]/\∃v,(results fn a.tmps).run P w'=.ok v w'/\(∃cv fp D',Ending.returned v=.returned cv/\Below w.heap.size w w'/\Rel D' w' noR r cv fp/\(∀b,fp b->w.heap.size<=b)/\
   (∀b,D b->D' b)/\(∀b,D' b->D b\/w.heap.size<=b)/\∀b,D' b->b<w'.heap.size/\¬fp b):=by
  intro Y;obtain⟨hd,hdd,D',ρ,F,A⟩:=hs';obtain⟨E,B,hrun,⟨M,heq⟩,hlen,hcl,hrel⟩:=Ld A hdd fn.results.toList [] [] _ rfl (λj W=>by simp at W) Y
  simp only[List.nil_append]at M heq;refine⟨hd,_,JQ hrun,?_⟩
  -- the flat list
  have O:Qa D' w' (Am S.σ ρ w') (E.flatMap cellsV) (B.flatMap (·.cells.toList)).toArray:=by
   clear heq hrun hlen Y
   induction E generalizing B with
   |nil=>cases B with
    |nil=>exact⟨rfl,λj W=>by simp at W⟩
    |cons=>simp at hcl
   |cons v E ih=>
    cases B with
    |nil=>simp at hcl
    |cons cv B=>
     simp only[List.all_cons,bAE]at M;obtain⟨⟨h1,h2⟩,_⟩:=Ce (λv cv h=>Am.one h) M.1 (by simpa using hrel 0 (by simp))
     obtain⟨h3,h4⟩:=ih B M.2 (by simpa using hcl) (λj W=>by simpa using hrel (j+1) (by simpa using W))
     refine⟨by simp[h1]at h3⊢;omega,λj W=>?_⟩
     simp only[List.flatMap_cons];by_cases hj1:j<(cellsV v).length
     .rw[AE hj1]
      have e2:(cv.cells.toList++B.flatMap (·.cells.toList)).toArray.getD j undef=cv.cells.getD j undef:=by
       simp[gAL,h1,hj1]
      rw[e2];exact h2 j hj1
     .have hj2:j-(cellsV v).length<(E.flatMap cellsV).length:=by simp at W;simp;omega
      have:=h4 (j-(cellsV v).length) hj2
      have e1:(cellsV v++E.flatMap cellsV).getD j .dead=(E.flatMap cellsV).getD (j-(cellsV v).length) .dead:=by
       simp only[gDE];rw[gAR (by omega)]
      have e2:(cv.cells.toList++B.flatMap (·.cells.toList)).toArray.getD j undef=(B.flatMap (·.cells.toList)).toArray.getD (j-(cellsV v).length) undef:=by
       simp only[Array.getD_eq_getD_getElem?,List.getElem?_toArray];rw[gAR (by simp[h1];omega)]
       simp[h1]
      rw[e1,e2];exact this
  have hcr2:CR C S.σ (E.flatMap cellsV) (B.flatMap (·.cells.toList)).toArray w' D' ρ F:=⟨A.wr,O.1,O.2,A.fr,A.Fn,A.D1,A.D2,A.rt,A.ml⟩
  obtain⟨fps,hf1,hf2,hf3⟩:=Nr (E.flatMap cellsV).length _ _ _ _ _ hcr2 (Nat.le_refl _);obtain⟨hrl,G,hg1,hg2,hg3⟩:=HR (λv cv h=>Am.one h) E B (tkL (E.flatMap cellsV).length (E.flatMap cellsV) S.σ) fps hcl M hrel hf1 hf2 (K5 _ _ _ (Nat.le_refl _))
  have Z:=Ok (Bm E (tkL (E.flatMap cellsV).length (E.flatMap cellsV) S.σ)) B G (by rw[hrl,hcl]) (λj W=>hg1 j (by rw[hrl]at W;exact W)) hg2
  have hGF:∀b,(∃j,j<(Bm E (tkL (E.flatMap cellsV).length (E.flatMap cellsV) S.σ)).length/\G j b)->∃i,F i b:=by
   rintro b ⟨j,_,L⟩
   obtain⟨i,J⟩:=hg3 j b L;exact hf3 i b J
  refine⟨_,_,D',rfl,⟨A.fr.os,A.fr.tape,A.fr.output,A.fr.size,λb L=>A.fr.block b L (λh=>h),A.fr.drawn⟩,Rel.sub heq Z,λb L=>?_,A.D1,λb L=>?_,λb L=>⟨A.wr.Dlt b L,λh=>?_⟩⟩
  .obtain⟨i,J⟩:=hGF b L
   exact(A.Fn i b J).elim (λh=>h.elim) λh=>h
  .rcases Nat.lt_or_ge b w.heap.size with h|h
   .exact .inl ((A.D2 b L h).elim (λh=>h) λh=>h.elim)
   .exact .inr h
  .obtain⟨i,J⟩:=hGF b h
   exact A.wr.dD i b J L
 cases e with
 |normal=>exact fin hq
 |ret=>exact fin hq
 |exit id=>exact hq.elim
 |goto l=>exact hq.elim
 |panic ch=>exact hq.elim
 |outgrown=>exact hq.elim
end Go.Ve

