/- Contracts of functions, out of the small machine's walk over their bodies. -/
import Derived.Test.YteakdlfnmhlifaaVp
open Nat(zero_le le_refl)
set_option linter.all false
namespace Go.Ve
variable{cts:Array Value}{C:Ctx}{fn:Func}{ts σ:List V}{j:Nat}{F:Nat->Nat->Prop}{D:Nat->Prop}{ρ:Nat->Value}{P:Program}{R:V->Value->Prop}{w:World}
def WFV:V->Prop
 |.many _ n f=>∀k,k<n->WFV (f k)
 |.nd _ _ sz n f=>n<=maxLen/\∀i k,i<n->k<sz->WFV (f i k)
 |_=>True
theorem Rel.wf:∀(v:V) (R:V->Value->Prop) (cv:Value) (fp:Nat->Prop),Rel D w R v cv fp->WFV v:=by
 intro v
 induction v with
 |many t n f B=>intro R cv fp h;obtain⟨cs,F,_,_,H,_⟩:=h;exact λk U=>B k _ _ _ (H k U)
 |nd s own sz n f B=>
  intro R cv fp h;rcases h with⟨rfl,_⟩|⟨b,o,cap,F,_,_,A,_,H,_⟩
  .exact⟨zero_le _,λi k hi=>by omega⟩
  .exact⟨A,λi k hi U=>by grind⟩
 |_=>intro R cv fp _;trivial
def tkL:Nat->List V->List V->List V
 |0,_,_=>[]
 |_+1,[],_=>[]
 |m+1,v::vs,σ=>match v with
  |.rs id p off len=>match sub p (σ.getD id .dead)with
   |.nd true true sz n f=>if off=0/\len=n then .nd true true sz n f::tkL m (vs.map λv=>AF σ.length [] (rrV id p σ.length v)) (σ.set id (upd p (σ.getD id .dead) .dead)++[.dead])else .dead::tkL m vs σ
   |_=>.dead::tkL m vs σ
  |.rp id p i k=>match sub p (σ.getD id .dead)with
   |.nd false true sz n f=>if i=0/\k=0 then .nd false true sz n f::tkL m (vs.map λv=>AF σ.length [] (rrV id p σ.length v)) (σ.set id (upd p (σ.getD id .dead) .dead)++[.dead])else .dead::tkL m vs σ
   |_=>.dead::tkL m vs σ
  |.rm id p=>match sub p (σ.getD id .dead)with
   |.mp true l=>.mp true l::tkL m (vs.map λv=>AF σ.length [] (rrV id p σ.length v)) (σ.set id (upd p (σ.getD id .dead) .dead)++[.dead])
   |_=>.dead::tkL m vs σ
  |.many _ _ _=>.dead::tkL m vs σ
  |v=>v::tkL m vs σ
theorem Lc:∀(m:Nat) (l σ:List V),l.length<=m->(tkL m l σ).length=l.length:=by
 intro m
 induction m with
 |zero=>intro l σ h;cases l<;>first|rfl|grind
 |succ m B=>
  intro l σ h;cases l with
  |nil=>rfl
  |cons v A=>
   unfold tkL
   grind
theorem CR.drop(h:CR C σ ts cts w D ρ F)(hj:j<σ.length):
  CR C (σ.set j .dead) (ts.map (AF j [])) cts w D ρ (λi=>if i=j then noF else F i):=by
 have U:∀i b,(if i=j then noF else F i) b->F i b/\i≠j:=by
  intro i b H;split at H
  .exact H.elim
  grind
 refine⟨⟨λi hi=>?_,λi l b Y h1 h2=>h.wr.disj i l b Y (U _ _ h1).1 (U _ _ h2).1,λi b H=>h.wr.dD i b (U _ _ H).1,h.wr.Dlt,λi b hi H=>h.wr.out i b (by simpa using hi) (U _ _ H).1⟩,by simpa using h.sz,λt W=>?_,h.fr,λi b H=>h.Fn i b (U _ _ H).1,h.D1,h.D2,h.rt,by simpa using h.ml⟩
 .by_cases Z:i=j
  .subst Z
   rw[Ag hj];simp only[if_true];exact λ_ h=>h
  .rw[Ad (Ne.symm Z)]
   simp only[Z,if_false];exact h.wr.rel i (by simpa using hi)
 .simp at W
  have e1:(ts.map (AF j [])).getD t .dead=AF j [] (ts.getD t .dead):=by simp[W]
  rw[e1];refine(A5 _ _).rel (λ_ _=>rfl) ?_ ?_ ?_ _ _ noF (λ_ h=>h) (h.tm t W)
  .rintro id q off len cv ⟨B,r⟩
   simp only[AF,AN,and_true];split
   .exact λ_ h=>h
   .rename_i A
    exact⟨⟨by simpa using B,by rw[Ad (Ne.symm A)];exact r⟩,λ_ h=>h⟩
  .rintro id q i k cv ⟨B,r⟩
   simp only[AF,AN,and_true];split
   .exact λ_ h=>h
   .rename_i A
    exact⟨⟨by simpa using B,by rw[Ad (Ne.symm A)];exact r⟩,λ_ h=>h⟩
  .rintro id q cv ⟨B,r⟩
   simp only[AF,AN,and_true];split
   .exact λ_ h=>h
   .rename_i A
    exact⟨⟨by simpa using B,by rw[Ad (Ne.symm A)];exact r⟩,λ_ h=>h⟩
theorem Ae.hd(Y:Be σ w D ρ F){id off len:Nat}{p:List (Nat×Nat)}{cv:Value}(h:Ae σ ρ w (.rs id p off len) cv):Rel D w R (.nd true false 0 len λ_ _=>.dead) cv noF:=by
 obtain⟨H,sz,n,f,cn,ha,hle,hc⟩:=h;obtain⟨fp1,A,_⟩:=Ds (w':=w) p _ _ _ _ _ (Y.rel id H) (λb hD hF=>Y.dD id b hF hD) ha
 have mk:∀(b o cap:Nat),cv=Av true b o len cap->len<=cap->len<=maxLen->Rel D w R (.nd true false 0 len λ_ _=>.dead) cv noF:=λb o cap h1 h2 h3=>
  .inr ⟨b,o,cap,λ_ _=>noF,h1,h2,h3,(λh=>by grind),λ_ _ _ B=>absurd B (Nat.not_lt_zero _),λ_=>⟨λh=>absurd h (by simp),λ_ _ _ _ B=>absurd B (Nat.not_lt_zero _),λ_ h=>h⟩,λh=>by grind⟩
 rcases hc with⟨b,o,cap,rfl,rfl⟩|⟨rfl,a,rfl,_⟩
 .rcases A with⟨_,_,h3,_⟩|⟨b',o',cap',F',U,hcap,Z,_⟩
  .exact absurd h3 BF
  .obtain⟨_,_,W⟩:=Am U
   have:=W rfl;exact mk b (o+off*sz) (cap-off) rfl (by omega) (by omega)
 .cases a with
  |none=>exact .inl ⟨rfl,rfl,.inl rfl,λ_ h=>h⟩
  |some p=>exact mk p.1 p.2 0 rfl (le_refl _) (zero_le _)
def hdK(j:Nat):V->V
 |.rs id p off len=>if id=j then .nd true false 0 len λ_ _=>.dead else .rs id p off len
 |v=>AF j [] v
theorem CR.dropH(h:CR C σ ts cts w D ρ F)(hj:j<σ.length):
  CR C (σ.set j .dead) (ts.map (hdK j)) cts w D ρ (λi=>if i=j then noF else F i):=by
 have A:=h.drop hj;refine⟨A.wr,by simpa using h.sz,λt B=>?_,A.fr,A.Fn,A.D1,A.D2,A.rt,A.ml⟩
 have B:=by simpa using B
 have Z:(ts.map (hdK j)).getD t .dead=hdK j (ts.getD t .dead):=by simp_all
 have U:=A.tm t (by grind)
 have Y:(ts.map (AF j [])).getD t .dead=AF j [] (ts.getD t .dead):=by grind
 have W:=h.tm t B;rw[Z];rw[Y]at U;generalize ts.getD t .dead=v at U W;cases v with
 |rs id p off len=>
  show Rel D w _ (if id=j then _ else _) _ _
  split
  .exact Ae.hd h.wr W.1
  .rename_i H
   have e5:AF j [] (V.rs id p off len)=.rs id p off len:=if_neg λh=>H h.1
   grind
 |_=>exact U
theorem NK:∀(m:Nat) (l:List V) (cl:List Value) (σ:List V) (ρ:Nat->Value) (F:Nat->Nat->Prop),CR C σ l cl.toArray w D ρ F->l.length<=m->
  ∃A:Nat->Nat->Prop,(∀j,j<l.length->Rel D w noR ((tkL m l σ).getD j .dead) (cl.getD j undef) (A j))/\(∀i j b,i≠j->A i b->¬A j b)/\(∀j b,A j b->∃i,F i b):=by
 intro m
 induction m with
 |zero=>intro l cl σ ρ F h hl;exact⟨λ_=>noF,λj hj=>by omega,λ_ _ _ _ h=>h.elim,λ_ _ h=>h.elim⟩
 |succ m ih=>
  intro l cl σ ρ F h hl;cases l with
  |nil=>exact⟨λ_=>noF,λj hj=>by simp at hj,λ_ _ _ _ h=>h.elim,λ_ _ h=>h.elim⟩
  |cons v vs=>
   have hsz:=h.sz;cases cl with
   |nil=>simp at hsz
   |cons cv cvs=>
    simp only[List.length_cons]at hl;have hv:Rel D w (Ae σ ρ w) v cv noF:=by simpa using h.tm 0 (by simp)
    have hrest:CR C σ vs cvs.toArray w D ρ F:=by
     refine⟨h.wr,by simpa using hsz,λj hj=>?_,h.fr,h.Fn,h.D1,h.D2,h.rt,h.ml⟩
     simpa using h.tm (j+1) (by simpa using hj)
    -- a component that owns nothing new
    have plain:∀(v':V),Rel D w noR v' cv noF->∃A:Nat->Nat->Prop,(∀j,j<(v::vs).length->Rel D w noR ((v'::tkL m vs σ).getD j .dead) ((cv::cvs).getD j undef) (A j))/\(∀i j b,i≠j->A i b->¬A j b)/\(∀j b,A j b->∃i,F i b):=by
     intro v' hv';obtain⟨A,h1,h2,h3⟩:=ih vs cvs σ ρ F hrest (by omega)
     refine⟨λj=>match j with|0=>noF|j+1=>A j,λj hj=>?_,λi j b hij Z hb'=>?_,λj b Z=>?_⟩
     .cases j with
      |zero=>exact hv'
      |succ j=>simpa using h1 j (by simpa using hj)
     .cases i with
      |zero=>exact Z.elim
      |succ i=>cases j with
       |zero=>exact hb'.elim
       |succ j=>exact h2 i j b (by omega) Z hb'
     .cases j with
      |zero=>exact Z.elim
      |succ j=>exact h3 j b Z
    -- a reference: its node is cut out
    have cut:∀(id:Nat) (p:List (Nat×Nat)) (v1:V),id<σ.length->At w p (σ.getD id .dead) (ρ id) v1 cv->
      ∃A:Nat->Nat->Prop,(∀j,j<(v::vs).length->Rel D w noR ((v1::tkL m (vs.map λv=>AF σ.length [] (rrV id p σ.length v)) (σ.set id (upd p (σ.getD id .dead) .dead)++[.dead])).getD j .dead) ((cv::cvs).getD j undef) (A j))/\(∀i j b,i≠j->A i b->¬A j b)/\(∀j b,A j b->∃i,F i b):=by
     intro id p v1 Y B;obtain⟨ρ',F',hcr,hρ,hρo,hF'⟩:=CR.reroot hrest Y B;have hd:=hcr.drop (j:=σ.length) (by simp)
     have e1:(σ.set id (upd p (σ.getD id .dead) .dead)++[sub p (σ.getD id .dead)]).set σ.length .dead=σ.set id (upd p (σ.getD id .dead) .dead)++[.dead]:=by
      rw[List.set_append_right _ _ (by simp)];simp
     rw[e1,List.map_map]at hd;obtain⟨A,h1,h2,h3⟩:=ih _ cvs _ _ _ hd (by simp;omega)
     have hroot:Rel D w noR v1 cv (F' σ.length):=by
      have:=hcr.wr.rel σ.length (by simp)
      rw[hρ]at this;have e2:(σ.set id (upd p (σ.getD id .dead) .dead)++[sub p (σ.getD id .dead)]).getD σ.length .dead=sub p (σ.getD id .dead):=by simp
      rw[e2,<-At.sub B]at this;exact this
     have hfp:∀j b,A j b->∃i,i≠σ.length/\F' i b:=by
      intro j b Z;obtain⟨i,hi⟩:=h3 j b Z;split at hi
      .exact hi.elim
      .exact⟨i,by assumption,hi⟩
     refine⟨λj=>match j with|0=>F' σ.length|j+1=>A j,λj hj=>?_,λi j b hij Z hb'=>?_,λj b Z=>?_⟩
     .cases j with
      |zero=>exact hroot
      |succ j=>exact h1 j (by simpa using hj)
     .cases i with
      |zero=>cases j with
       |zero=>exact hij rfl
       |succ j=>obtain⟨i,hne,hi⟩:=hfp j b hb';exact hcr.wr.disj _ _ b (Ne.symm hne) Z hi
      |succ i=>cases j with
       |zero=>obtain⟨l,hne,hl⟩:=hfp i b Z;exact hcr.wr.disj _ _ b hne hl hb'
       |succ j=>exact h2 i j b (by omega) Z hb'
     .cases j with
      |zero=>exact hF' _ b Z
      |succ j=>obtain⟨i,_,hi⟩:=hfp j b Z;exact hF' i b hi
    have dead:=plain .dead (λ_ h=>h)
    unfold tkL;cases v with
    |c v=>exact plain _ ⟨hv.1,hv.2.1,hv.2.2⟩
    |dead=>exact dead
    |many=>exact dead
    |nd s own sz n f=>exact plain _ hv
    |mp own l=>exact plain _ hv
    |rs id p off len=>
     obtain⟨⟨Y,sz,n,f,cn,B,hle,hcv⟩,_⟩:=hv;simp only;split
     .rename_i sz1 n1 f1 W
      split
      .rename_i U
       obtain⟨rfl,rfl⟩:=U;have H:=At.sub B;rw[W]at H;simp only[V.nd.injEq,true_and]at H;obtain⟨rfl,rfl,rfl⟩:=H;have hcx:cn=cv:=by
        rcases hcv with⟨b2,o2,cap2,rfl,rfl⟩|⟨h0,_,_,U,_⟩
        .simp[Av]
        .exact(U rfl h0).symm
       subst hcx;exact cut id p _ Y B
      .exact dead
     .exact dead
    |rp id p i k=>
     obtain⟨⟨Y,s,sz,n,f,b,o,cap,B,hi,hk,hcv⟩,_⟩:=hv;simp only;split
     .rename_i sz1 n1 f1 W
      split
      .rename_i U
       obtain⟨rfl,rfl⟩:=U;have H:=At.sub B;rw[W]at H;simp only[V.nd.injEq,true_and]at H;obtain⟨rfl,rfl,rfl,rfl⟩:=H;have hcx:Av false b o n cap=cv:=by rw[hcv];simp[Av]
       rw[hcx]at B;exact cut id p _ Y B
      .exact dead
     .exact dead
    |rm id p=>
     obtain⟨⟨Y,l,b,B,hcv⟩,_⟩:=hv;simp only;split
     .rename_i l1 W
      have H:=At.sub B;rw[W]at H;simp only[V.mp.injEq,true_and]at H;subst H;exact cut id p _ Y B
     .exact dead
def Bi:List V->List V->List V
 |[],_=>[]
 |.many .ag n _::vs,l=>Ah (l.take n)::Bi vs (l.drop n)
 |_::vs,l=>l.getD 0 .dead::Bi vs (l.drop 1)
def OA(l:List V):V:=match l with
 |[v]=>v
 |l=>.many .tu l.length λk=>l.getD k .dead
def Wf(P:Program)(S:Ms):List ResultVar->List V->(List V->Prop)->Prop
 |[],acc,K=>K acc
 |.tmp t::rs,acc,K=>Wf P S rs (acc++[S.t t]) K
 |.cell a t::rs,acc,K=>Iu (tyI P t) S.σ (S.t a) λv=>Wf P S rs (acc++[v]) K
def YN(σ:List V)(r:V)(A:List V):Prop:=
 A.all Bs=true/\Sub (OA (Bi A (tkL (A.flatMap cellsV).length (A.flatMap cellsV) σ))) r
def RetK(P:Program)(rs:List ResultVar)(r:V):Exit->Ms->Prop
 |.normal,S=>Wf P S rs [] (YN S.σ r)
 |.ret,S=>Wf P S rs [] (YN S.σ r)
 |_,_=>False
def HI(hR:∀v cv,R v cv->cv.oneCell'=true):∀(Y:List V) (W:List Value) (A:List V) (U:Nat->Nat->Prop),W.length=Y.length->Y.all Bs=true->(∀j,j<Y.length->Rel D w R (Y.getD j .dead) (W.getD j undef) noF)->
  (∀j,j<(Y.flatMap cellsV).length->Rel D w noR (A.getD j .dead) ((W.flatMap (·.cells.toList)).getD j undef) (U j))->(∀i j b,i≠j->U i b->¬U j b)->A.length=(Y.flatMap cellsV).length->
  (Bi Y A).length=Y.length/\∃G:Nat->Nat->Prop,(∀j,j<Y.length->Rel D w noR ((Bi Y A).getD j .dead) (W.getD j undef) (G j))/\(∀i j b,i≠j->G i b->¬G j b)/\∀j b,G j b->∃i,U i b:=by
 intro Y
 induction Y with
 |nil=>intro W A U _ _ _ _ _ _;exact⟨rfl,λ_=>noF,λj hj=>by simp at hj,λ_ _ _ _ h=>h.elim,λ_ _ h=>h.elim⟩
 |cons v Y ih=>
  intro W A U hl hp hr hf hd hfl;cases W with
  |nil=>simp at hl
  |cons cv W=>
   simp only[List.all_cons,bAE]at hp;have hv:=hr 0 (by simp)
   simp only[List.getD_cons_zero]at hv;obtain⟨⟨hcs,hcells⟩,_⟩:=B9 hR hp.1 hv;simp only[List.flatMap_cons,List.length_append]at hf hfl
   obtain⟨h1,G,h2,h3,h4⟩:=ih W (A.drop (cellsV v).length) (λj=>U ((cellsV v).length+j)) (by simpa using hl) hp.2 (λj hj=>by simpa using hr (j+1) (by simpa using hj)) (λj hj=>by
    have:=hf ((cellsV v).length+j) (by omega)
    have e1:(A.drop (cellsV v).length).getD j .dead=A.getD ((cellsV v).length+j) .dead:=by simp
    have e2:(cv.cells.toList++W.flatMap (·.cells.toList)).getD ((cellsV v).length+j) undef=(W.flatMap (·.cells.toList)).getD j undef:=by
     simp only[gDE];rw[gAR (by simp[hcs])]
     simp[hcs]
    rw[e2]at this;rw[e1];exact this) (λi j b hij=>hd _ _ b (by omega)) (by rw[List.length_drop];omega)
   -- the first
   have first:∃v1,Bi (v::Y) A=v1::Bi Y (A.drop (cellsV v).length)/\Rel D w noR v1 cv (λb=>∃j,j<(cellsV v).length/\U j b):=by
    have H:∀j,j<(cellsV v).length->Rel D w noR (A.getD j .dead) (cv.cells.toList.getD j undef) (U j):=λj hj=>by
     have:=hf j (by omega)
     have e2:(cv.cells.toList++W.flatMap (·.cells.toList)).getD j undef=cv.cells.toList.getD j undef:=by
      simp only[gDE];rw[gAL (by simp[hcs];exact hj)]
     rw[e2]at this;exact this
    have B:∀v:V,YX v=true->cellsV v=[v]->Rel D w R v cv noF->(∀j,j<1->Rel D w noR (A.getD j .dead) (cv.cells.toList.getD j undef) (U j))->Bi (v::Y) A=A.getD 0 .dead::Bi Y (A.drop 1)->∃v1,Bi (v::Y) A=v1::Bi Y (A.drop (cellsV v).length)/\Rel D w noR v1 cv (λb=>∃j,j<(cellsV v).length/\U j b):=by
     intro v ho hcv hv H hrg;obtain⟨hc1,_⟩:=Rel.cells1 hv hR ho;refine⟨_,by rw[hcv];exact hrg,?_⟩
     rw[hcv];have:=H 0 (by omega)
     rw[hc1]at this;refine Rel.fp_congr (fp:=U 0) (λb=>⟨λh=>⟨0,by simp,h⟩,?_⟩) (by simpa using this)
     rintro ⟨j,hj,h⟩
     simp at hj;subst hj;exact h
    cases v with
    |many t n f=>
     cases t with
     |bx=>exact absurd hp.1 (by simp[Bs])
     |tu=>exact absurd hp.1 (by simp[Bs])
     |cl g=>exact B _ rfl rfl hv (λj hj=>H j (by simpa [cellsV]using hj)) rfl
     |ag=>
      obtain⟨cs,F',rfl,hn,_⟩:=hv;have Z:(cellsV (.many .ag n f)).length=n:=by simp[cellsV]
      refine⟨Ah (A.take n),by rw[Z];rfl,?_⟩
      have hln:(A.take n).length=n:=by simp;rw[Z]at hfl;omega
      unfold Ah;rw[hln];refine⟨cs,λj b=>U j b,rfl,hn,λk hk=>?_,λk k' b _ _ hkk=>hd k k' b hkk,λb=>by rw[Z]⟩
      have:=H k (by rw[Z];exact hk)
      have e1:(A.take n).getD k .dead=A.getD k .dead:=by simp[List.getElem?_take,hk]
      show Rel D w noR ((A.take n).getD k .dead) _ _;rw[e1];simpa [Value.cells]using this
    |dead=>exact absurd hp.1 (by simp[Bs])
    |c v=>exact B _ rfl rfl hv (λj hj=>H j (by simpa [cellsV]using hj)) rfl
    |nd s own sz n f=>exact B _ rfl rfl hv (λj hj=>H j (by simpa [cellsV]using hj)) rfl
    |rs id p off len=>exact B _ rfl rfl hv (λj hj=>H j (by simpa [cellsV]using hj)) rfl
    |rp id p i k=>exact B _ rfl rfl hv (λj hj=>H j (by simpa [cellsV]using hj)) rfl
    |rm id p=>exact B _ rfl rfl hv (λj hj=>H j (by simpa [cellsV]using hj)) rfl
    |mp own l=>exact B _ rfl rfl hv (λj hj=>H j (by simpa [cellsV]using hj)) rfl
   obtain⟨v1,e1,hr1⟩:=first
   rw[e1];refine⟨by simp[h1],λj=>match j with|0=>(λb=>∃j,j<(cellsV v).length/\U j b)|j+1=>G j,λj hj=>?_,λi j b hij hb hb'=>?_,λj b hb=>?_⟩
   .cases j with
    |zero=>exact hr1
    |succ j=>simpa using h2 j (by simpa using hj)
   .cases i with
    |zero=>cases j with
     |zero=>exact hij rfl
     |succ j=>
      obtain⟨l,hl,h⟩:=hb;obtain⟨i,hi⟩:=h4 j b hb';exact hd _ _ b (by omega) h hi
    |succ i=>cases j with
     |zero=>
      obtain⟨l,hl,h⟩:=hb';obtain⟨i,hi⟩:=h4 i b hb;exact hd _ _ b (by omega) hi h
     |succ j=>exact h3 i j b (by omega) hb hb'
   .cases j with
    |zero=>obtain⟨j,_,h⟩:=hb;exact⟨j,h⟩
    |succ j=>obtain⟨i,h⟩:=h4 j b hb;exact⟨_,h⟩
def rdV(tmps:Array Value):ResultVar->Sem Value
 |.tmp t=>pure (tmps.getD t undef)
 |.cell a t=>do loadVar t (<-asAddr (tmps.getD a undef))
theorem Ln{P:Program}{N:Nat}{S:Ms}{a:Act}(h:CR C S.σ ((List.range N).map S.t) a.tmps w D ρ F)(hdd:∀x,N<=x->S.t x=.dead):∀(rs:List ResultVar) (A:List V) (H:List Value) (K:List V->Prop),
  H.length=A.length->(∀j,j<A.length->Rel D w (Ae S.σ ρ w) (A.getD j .dead) (H.getD j undef) noF)->Wf P S rs A K->
  ∃(U:List V) (B:List Value),(rs.mapM (rdV a.tmps)).run P w=.ok B w/\K (A++U)/\U.length=rs.length/\B.length=U.length/\
   ∀j,j<U.length->Rel D w (Ae S.σ ρ w) (U.getD j .dead) (B.getD j undef) noF:=by
 intro rs
 induction rs with
 |nil=>intro A H K _ _ Y;exact⟨[],[],by simp,by simpa [Wf]using Y,rfl,rfl,λj hj=>by simp at hj⟩
 |cons r rs ih=>
  intro A H K hl hr Y
  have go:∀(v:V) (cv:Value),Rel D w (Ae S.σ ρ w) v cv noF->(rdV a.tmps r).run P w=.ok cv w->Wf P S rs (A++[v]) K->
    ∃(U:List V) (B:List Value),((r::rs).mapM (rdV a.tmps)).run P w=.ok B w/\K (A++U)/\U.length=(r::rs).length/\B.length=U.length/\
     ∀j,j<U.length->Rel D w (Ae S.σ ρ w) (U.getD j .dead) (B.getD j undef) noF:=by
   intro v cv hv Z Y
   obtain⟨U,B,h1,h2,h3,h4,h5⟩:=ih (A++[v]) (H++[cv]) K (by simp[hl]) (λj hj=>by
    by_cases he:j<A.length
    .grind
    .obtain rfl:j=A.length:=by simp at hj;omega
     simp only[gDE];rw[gAR (by omega),gAR (by omega)]
     simpa [hl]using hv) Y
   refine⟨v::U,cv::B,?_,by simpa using h2,by simp[h3],by simp[h4],λj hj=>?_⟩
   .rw[List.mapM_cons,Sem.run_bind,Z]
    simp only[Result.andThen,Sem.run_bind,h1];rfl
   .cases j with
    |zero=>exact hv
    |succ j=>simpa using h5 j (by simpa using hj)
  cases r with
  |tmp t=>
   refine go (S.t t) (a.tmps.getD t undef) ?_ (by simp[rdV]) Y
   have:=Bh (S:=S) (a:=a) h hdd (.tmp t);exact this
  |cell x t=>
   have hx:=Bh (S:=S) (a:=a) h hdd (.tmp x);obtain⟨v,hKv,ad,cr,he,W,hv⟩:=Og (P:=P) h.wr hx Y;refine go v cr hv ?_ hKv;have he':a.tmps.getD x undef=.pointer (some ad):=he;simp[rdV,he',asAddr,W]
def Acd:List Value->Value
 |[v]=>v
 |l=>.tuple l.toArray
def Hi{tmps:Array Value}{A:List Value}(h:(fn.results.toList.mapM (rdV tmps)).run P w=.ok A w):
  (results fn tmps).run P w=.ok (Acd A) w:=by
 have e:(fn.results.mapM (rdV tmps)).run P w=.ok A.toArray w:=by
  rw[Array.mapM_eq_mapM_toList];simp[h]
 show(do let vs<-fn.results.mapM (rdV tmps);pure (if h:vs.size=1 then vs[0]else .tuple vs):Sem Value).run P w=_
 rw[Sem.run_bind,e]
 match A with
 |[]=>rfl
 |[v]=>rfl
 |_::_::_=>rfl
theorem Oz(l:List V)(cl:List Value)(G:Nat->Nat->Prop)(A:cl.length=l.length)(h:∀j,j<l.length->Rel D w noR (l.getD j .dead) (cl.getD j undef) (G j))(hd:∀i j b,i≠j->G i b->¬G j b):
  Rel D w noR (OA l) (Acd cl) (λb=>∃j,j<l.length/\G j b):=by
 have many:∀(l:List V) (cl:List Value),cl.length=l.length->(∀j,j<l.length->Rel D w noR (l.getD j .dead) (cl.getD j undef) (G j))->Rel D w noR (.many .tu l.length λk=>l.getD k .dead) (.tuple cl.toArray) (λb=>∃j,j<l.length/\G j b):=by
  intro l cl A h;exact⟨cl.toArray,G,rfl,by grind,λk H=>by simp_all,λk k' b _ _ B=>hd k k' b B,λ_=>Iff.rfl⟩
 match l,cl,A,h with
 |[v],[cv],_,h=>
  refine Rel.fp_congr (λb=>⟨λh=>⟨0,by simp,h⟩,?_⟩) (h 0 (by simp))
  simp
 |[],[],A,h=>exact many [] [] A h
 |v::v'::l,cv::cv'::cl,A,h=>exact many _ _ A h
theorem FC_of{f:FuncId}{body:Code}{h:BW}{args:List V}{r:V}(hf:P.funcs[f]? =some fn)(U:fn.body=some body)(hn:max args.length fn.ntmps=h.n)
  (hv:(∀v∈args,WFV v)->∀(C:Ctx) (a:Act) (w:World) (Q:Exit->Act->World->Prop),C.m=0->AA C h.n ⟨λi=>args.getD i .dead,[]⟩ a w->(∀e S a' w',RetK P fn.results.toList r e S->AA C h.n S a' w'->Q e a' w')->body.wp P Q a w):FC P f args r:=by
 intro w D cvs hk hD hsz Z
 let C:Ctx:=⟨w,λ_=>False,D,0,λ_=>undef,⟨hk,λ_ _ h=>h⟩,[]⟩
 refine calls_of_wp hf U ?_;have hwf:∀v∈args,WFV v:=by
  intro v hv;obtain⟨i,hi,rfl⟩:=List.mem_iff_getElem.1 hv;have:=Rel.wf _ _ _ _ (Z i hi);simpa [gDE,hi]using this
 have hs:AA C h.n ⟨λi=>args.getD i .dead,[]⟩ {tmps:=cvs++Array.replicate (fn.ntmps-cvs.size) undef,defers:=[]} w:=by
  refine⟨rfl,λx hx=>Hm (by omega),D,λ_=>undef,λ_=>noF,⟨⟨λi hi=>by simp at hi,λ_ _ _ _ h=>h.elim,λ_ _ h=>h.elim,hD,λ_ _ _ h=>h.elim⟩,by simp[hsz];omega,λt ht=>?_,⟨rfl,rfl,rfl,le_refl _,λ_ _ _=>rfl,le_refl _⟩,λ_ _ h=>h.elim,λ_ h=>h,λ_ h _=>.inl h,λi hi=>absurd hi (Nat.not_lt_zero _),zero_le _⟩⟩
  rw[Ay (by simpa using ht)]
  by_cases hta:t<args.length
  .have e2:(cvs++Array.replicate (fn.ntmps-cvs.size) undef).getD t undef=cvs.getD t undef:=by
    have:t<cvs.size:=by omega
    simp[Array.getElem?_append_left this]
   rw[e2];exact Rel.noR_mono (Z t hta)
  .have e1:args.getD t .dead=.dead:=Hm (Nat.le_of_not_lt hta)
   show Rel D w _ (args.getD t .dead) _ noF;rw[e1];exact λ_ h=>h
 refine hv hwf C _ _ _ rfl hs ?_;intro e S a w' hq hs'
 have fin:Wf P S fn.results.toList [] (YN S.σ r)->a.defers=[]/\∃v,(results fn a.tmps).run P w'=.ok v w'/\(∃cv fp D',Ending.returned v=.returned cv/\Below w.heap.size w w'/\Rel D' w' noR r cv fp/\(∀b,fp b->w.heap.size<=b)/\
   (∀b,D b->D' b)/\(∀b,D' b->D b\/w.heap.size<=b)/\∀b,D' b->b<w'.heap.size/\¬fp b):=by
  intro hres;obtain⟨hd,hdd,D',ρ,F,A⟩:=hs';obtain⟨H,B,hrun,⟨W,heq⟩,hlen,hcl,hrel⟩:=Ln A hdd fn.results.toList [] [] _ rfl (λj hj=>by simp at hj) hres
  simp only[List.nil_append]at W heq;refine⟨hd,_,Hi hrun,?_⟩
  -- the flat list
  have Y:Qn D' w' (Ae S.σ ρ w') (H.flatMap cellsV) (B.flatMap (·.cells.toList)).toArray:=by
   clear heq hrun hlen hres
   induction H generalizing B with
   |nil=>cases B with
    |nil=>exact⟨rfl,λj hj=>by simp at hj⟩
    |cons=>simp at hcl
   |cons v H ih=>
    cases B with
    |nil=>simp at hcl
    |cons cv B=>
     simp only[List.all_cons,bAE]at W;obtain⟨⟨h1,h2⟩,_⟩:=B9 (λv cv h=>Ae.one h) W.1 (by simpa using hrel 0 (by simp))
     obtain⟨h3,h4⟩:=ih B W.2 (by simpa using hcl) (λj hj=>by simpa using hrel (j+1) (by simpa using hj))
     refine⟨by simp[h1]at h3⊢;omega,λj hj=>?_⟩
     simp only[List.flatMap_cons];by_cases hj1:j<(cellsV v).length
     .rw[Az hj1]
      have e2:(cv.cells.toList++B.flatMap (·.cells.toList)).toArray.getD j undef=cv.cells.getD j undef:=by
       simp[gAL,h1,hj1]
      rw[e2];exact h2 j hj1
     .have hj2:j-(cellsV v).length<(H.flatMap cellsV).length:=by simp at hj;simp;omega
      have:=h4 (j-(cellsV v).length) hj2
      have e1:(cellsV v++H.flatMap cellsV).getD j .dead=(H.flatMap cellsV).getD (j-(cellsV v).length) .dead:=by
       simp only[gDE];rw[gAR (by omega)]
      have e2:(cv.cells.toList++B.flatMap (·.cells.toList)).toArray.getD j undef=(B.flatMap (·.cells.toList)).toArray.getD (j-(cellsV v).length) undef:=by
       simp only[Array.getD_eq_getD_getElem?,List.getElem?_toArray];rw[gAR (by simp[h1];omega)]
       simp[h1]
      rw[e1,e2];exact this
  have hcr2:CR C S.σ (H.flatMap cellsV) (B.flatMap (·.cells.toList)).toArray w' D' ρ F:=⟨A.wr,Y.1,Y.2,A.fr,A.Fn,A.D1,A.D2,A.rt,A.ml⟩
  obtain⟨fps,hf1,hf2,hf3⟩:=NK (H.flatMap cellsV).length _ _ _ _ _ hcr2 (le_refl _);obtain⟨hrl,G,hg1,hg2,hg3⟩:=HI (λv cv h=>Ae.one h) H B (tkL (H.flatMap cellsV).length (H.flatMap cellsV) S.σ) fps hcl W hrel hf1 hf2 (Lc _ _ _ (le_refl _))
  have hpack:=Oz (Bi H (tkL (H.flatMap cellsV).length (H.flatMap cellsV) S.σ)) B G (by rw[hrl,hcl]) (λj hj=>hg1 j (by rw[hrl]at hj;exact hj)) hg2
  have hGF:∀b,(∃j,j<(Bi H (tkL (H.flatMap cellsV).length (H.flatMap cellsV) S.σ)).length/\G j b)->∃i,F i b:=by
   rintro b ⟨j,_,U⟩
   obtain⟨i,hi⟩:=hg3 j b U;exact hf3 i b hi
  refine⟨_,_,D',rfl,⟨A.fr.os,A.fr.tape,A.fr.output,A.fr.size,λb U=>A.fr.block b U (λh=>h),A.fr.drawn⟩,Rel.sub heq hpack,λb U=>?_,A.D1,λb U=>?_,λb U=>⟨A.wr.Dlt b U,λh=>?_⟩⟩
  .obtain⟨i,hi⟩:=hGF b U
   exact(A.Fn i b hi).elim (λh=>h.elim) λh=>h
  .rcases Nat.lt_or_ge b w.heap.size with h|h
   .exact .inl ((A.D2 b U h).elim (λh=>h) λh=>h.elim)
   .exact .inr h
  .obtain⟨i,hi⟩:=hGF b h
   exact A.wr.dD i b hi U
 cases e with
 |normal=>exact fin hq
 |ret=>exact fin hq
 |exit id=>exact hq.elim
 |goto l=>exact hq.elim
 |panic ch=>exact hq.elim
 |outgrown=>exact hq.elim
end Go.Ve

