/- Contracts of functions, out of the small machine's walk over their bodies. -/
import Derived.Test.YtcpgmjbppfdjbaaDoorVp
namespace Go.Ve
variable{cts:Array Value}{C:Ctx}{fn:Func}{ts σ:List V}{j:Nat}{F:Nat->Nat->Prop}{D:Nat->Prop}{ρ:Nat->Value}{P:Program}{R:V->Value->Prop}{w:World}
def WFV:V->Prop
 | .many _ n f=>∀k,k<n->WFV (f k)
 | .nd _ _ sz n f=>n<=maxLen/\∀i k,i<n->k<sz->WFV (f i k)
 |_=>True
theorem Rel.wf: ∀ (v:V) (R:V->Value->Prop) (cv:Value) (fp:Nat->Prop),Rel D w R v cv fp->WFV v:=by
 intro v
 induction v with
 |many t n f ih=>intro R cv fp h;obtain⟨cs,F,_,_,hr,_⟩:=h;exact λk hk=>ih k _ _ _ (hr k hk)
 |nd s own sz n f ih=>
  intro R cv fp h;rcases h with⟨rfl,_⟩|⟨b,o,cap,F,_,_,hmax,_,hr,_⟩
  ·exact⟨Nat.zero_le _,λi k hi=>by omega⟩
  ·exact⟨hmax,λi k hi hk=>by grind⟩
 |_=>intro R cv fp _;trivial
def tkL:Nat->List V->List V->List V
 |0,_,_=>[]
 |_+1,[],_=>[]
 |m+1,v::vs,σ=>match v with
  | .rs id p off len=>match sub p (σ.getD id .dead)with
   | .nd true true sz n f=>if off=0/\len=n then .nd true true sz n f::tkL m (vs.map λv=>AK σ.length [] (rrV id p σ.length v)) (σ.set id (upd p (σ.getD id .dead) .dead)++ [.dead])else .dead::tkL m vs σ
   |_=>.dead::tkL m vs σ
  | .rp id p i k=>match sub p (σ.getD id .dead)with
   | .nd false true sz n f=>if i=0/\k=0 then .nd false true sz n f::tkL m (vs.map λv=>AK σ.length [] (rrV id p σ.length v)) (σ.set id (upd p (σ.getD id .dead) .dead)++ [.dead])else .dead::tkL m vs σ
   |_=>.dead::tkL m vs σ
  | .many _ _ _=>.dead::tkL m vs σ
  |v=>v::tkL m vs σ
theorem Qv: ∀ (m:Nat) (l σ:List V),l.length<=m->(tkL m l σ).length=l.length:=by
 intro m
 induction m with
 |zero=>intro l σ h;cases l<;>first|rfl|grind
 |succ m ih=>
  intro l σ h;cases l with
  |nil=>rfl
  |cons v vs=>
   unfold tkL
   grind
theorem CR.drop(h:CR C σ ts cts w D ρ F)(hj:j<σ.length):
  CR C (σ.set j .dead) (ts.map (AK j [])) cts w D ρ (λi=>if i=j then noF else F i):=by
 have hF: ∀i b,(if i=j then noF else F i) b->F i b/\i≠j:=by
  intro i b hb;split at hb
  ·exact hb.elim
  grind
 refine⟨⟨λi hi=>?_,λi l b hil h1 h2=>h.wr.disj i l b hil (hF _ _ h1).1 (hF _ _ h2).1,λi b hb=>h.wr.dD i b (hF _ _ hb).1,h.wr.Dlt,λi b hi hb=>h.wr.out i b (by simpa using hi) (hF _ _ hb).1⟩,by simpa using h.sz,λt ht=>?_,h.fr,λi b hb=>h.Fn i b (hF _ _ hb).1,h.D1,h.D2,h.rt,by simpa using h.ml⟩
 ·by_cases he:i=j
  ·subst he
   rw [Af hj];simp only [if_true];exact λ_ h=>h
  ·rw [Ad (Ne.symm he)]
   simp only [he,if_false];exact h.wr.rel i (by simpa using hi)
 ·simp at ht
  have e1:(ts.map (AK j [])).getD t .dead=AK j [] (ts.getD t .dead):=by simp [ht]
  rw [e1];refine(Ba _ _).rel (λ_ _=>rfl) ?_ ?_ _ _ noF (λ_ h=>h) (h.tm t ht)
  ·rintro id q off len cv ⟨hid,r⟩
   simp only [AK,AW,and_true];split
   ·exact λ_ h=>h
   ·rename_i hne
    exact⟨⟨by simpa using hid,by rw [Ad (Ne.symm hne)];exact r⟩,λ_ h=>h⟩
  ·rintro id q i k cv ⟨hid,r⟩
   simp only [AK,AW,and_true];split
   ·exact λ_ h=>h
   ·rename_i hne
    exact⟨⟨by simpa using hid,by rw [Ad (Ne.symm hne)];exact r⟩,λ_ h=>h⟩
theorem Ag.hd(hw:Bj σ w D ρ F){id off len:Nat}{p:List (Nat×Nat)}{cv:Value}(h:Ag σ ρ w (.rs id p off len) cv):Rel D w R (.nd true false 0 len λ_ _=>.dead) cv noF:=by
 obtain⟨hid,sz,n,f,cn,ha,hle,hc⟩:=h;obtain⟨fp1,hr1,_⟩:=Dt (w':=w) p _ _ _ _ _ (hw.rel id hid) (λb hD hF=>hw.dD id b hF hD) ha
 have mk: ∀ (b o cap:Nat),cv=As true b o len cap->len<=cap->len<=maxLen->Rel D w R (.nd true false 0 len λ_ _=>.dead) cv noF:=λb o cap h1 h2 h3=>
  .inr ⟨b,o,cap,λ_ _=>noF,h1,h2,h3,(λh=>by grind),λ_ _ _ hk=>absurd hk (Nat.not_lt_zero _),λ_=>⟨λh=>absurd h (by simp),λ_ _ _ _ hk=>absurd hk (Nat.not_lt_zero _),λ_ h=>h⟩,λh=>by grind⟩
 rcases hc with⟨b,o,cap,rfl,rfl⟩|⟨rfl,a,rfl,_⟩
 ·rcases hr1 with⟨_,_,h3,_⟩|⟨b',o',cap',F',hcv,hcap,hmax,_⟩
  ·exact absurd h3 By
  ·obtain⟨_,_,hcc⟩:=Ap hcv
   have:=hcc rfl;exact mk b (o+off*sz) (cap-off) rfl (by omega) (by omega)
 ·cases a with
  |none=>exact .inl ⟨rfl,rfl,.inl rfl,λ_ h=>h⟩
  |some p=>exact mk p.1 p.2 0 rfl (Nat.le_refl _) (Nat.zero_le _)
def hdK(j:Nat):V->V
 | .rs id p off len=>if id=j then .nd true false 0 len λ_ _=>.dead else .rs id p off len
 |v=>AK j [] v
theorem CR.dropH(h:CR C σ ts cts w D ρ F)(hj:j<σ.length):
  CR C (σ.set j .dead) (ts.map (hdK j)) cts w D ρ (λi=>if i=j then noF else F i):=by
 have h':=h.drop hj;refine⟨h'.wr,by simpa using h.sz,λt ht=>?_,h'.fr,h'.Fn,h'.D1,h'.D2,h'.rt,h'.ml⟩
 have ht:=by simpa using ht
 have e1:(ts.map (hdK j)).getD t .dead=hdK j (ts.getD t .dead):=by simp_all
 have e2:=h'.tm t (by grind)
 have e3:(ts.map (AK j [])).getD t .dead=AK j [] (ts.getD t .dead):=by grind
 have e4:=h.tm t ht;rw [e1];rw [e3]at e2;generalize ts.getD t .dead=v at e2 e4;cases v with
 |rs id p off len=>
  show Rel D w _ (if id=j then _ else _) _ _
  split
  ·exact Ag.hd h.wr e4.1
  ·rename_i hne
   have e5:AK j [] (V.rs id p off len)= .rs id p off len:=if_neg λh=>hne h.1
   grind
 |_=>exact e2
theorem UZ: ∀ (m:Nat) (l:List V) (cl:List Value) (σ:List V) (ρ:Nat->Value) (F:Nat->Nat->Prop),CR C σ l cl.toArray w D ρ F->l.length<=m->
  ∃fps:Nat->Nat->Prop,(∀j,j<l.length->Rel D w noR ((tkL m l σ).getD j .dead) (cl.getD j undef) (fps j))/\(∀i j b,i≠j->fps i b->¬fps j b)/\(∀j b,fps j b->∃i,F i b):=by
 intro m
 induction m with
 |zero=>intro l cl σ ρ F h hl;exact⟨λ_=>noF,λj hj=>by omega,λ_ _ _ _ h=>h.elim,λ_ _ h=>h.elim⟩
 |succ m ih=>
  intro l cl σ ρ F h hl;cases l with
  |nil=>exact⟨λ_=>noF,λj hj=>by simp at hj,λ_ _ _ _ h=>h.elim,λ_ _ h=>h.elim⟩
  |cons v vs=>
   have hsz:=h.sz;cases cl with
   |nil=>simp at hsz
   |cons cv cvs=>
    simp only [List.length_cons]at hl;have hv:Rel D w (Ag σ ρ w) v cv noF:=by simpa using h.tm 0 (by simp)
    have hrest:CR C σ vs cvs.toArray w D ρ F:=by
     refine⟨h.wr,by simpa using hsz,λj hj=>?_,h.fr,h.Fn,h.D1,h.D2,h.rt,h.ml⟩
     simpa using h.tm (j+1) (by simpa using hj)
    -- a component that owns nothing new
    have plain: ∀ (v':V),Rel D w noR v' cv noF->∃fps:Nat->Nat->Prop,(∀j,j<(v::vs).length->Rel D w noR ((v'::tkL m vs σ).getD j .dead) ((cv::cvs).getD j undef) (fps j))/\(∀i j b,i≠j->fps i b->¬fps j b)/\(∀j b,fps j b->∃i,F i b):=by
     intro v' hv';obtain⟨fps,h1,h2,h3⟩:=ih vs cvs σ ρ F hrest (by omega)
     refine⟨λj=>match j with|0=>noF|j+1=>fps j,λj hj=>?_,λi j b hij hb hb'=>?_,λj b hb=>?_⟩
     ·cases j with
      |zero=>exact hv'
      |succ j=>simpa using h1 j (by simpa using hj)
     ·cases i with
      |zero=>exact hb.elim
      |succ i=>cases j with
       |zero=>exact hb'.elim
       |succ j=>exact h2 i j b (by omega) hb hb'
     ·cases j with
      |zero=>exact hb.elim
      |succ j=>exact h3 j b hb
    -- a reference: its node is cut out
    have cut: ∀ (id:Nat) (p:List (Nat×Nat)) (v1:V),id<σ.length->At w p (σ.getD id .dead) (ρ id) v1 cv->
      ∃fps:Nat->Nat->Prop,(∀j,j<(v::vs).length->Rel D w noR ((v1::tkL m (vs.map λv=>AK σ.length [] (rrV id p σ.length v)) (σ.set id (upd p (σ.getD id .dead) .dead)++ [.dead])).getD j .dead) ((cv::cvs).getD j undef) (fps j))/\(∀i j b,i≠j->fps i b->¬fps j b)/\(∀j b,fps j b->∃i,F i b):=by
     intro id p v1 hid hat;obtain⟨ρ',F',hcr,hρ,hρo,hF'⟩:=CR.reroot hrest hid hat;have hd:=hcr.drop (j:=σ.length) (by simp)
     have e1:(σ.set id (upd p (σ.getD id .dead) .dead)++ [sub p (σ.getD id .dead)]).set σ.length .dead=σ.set id (upd p (σ.getD id .dead) .dead)++ [.dead]:=by
      rw [List.set_append_right _ _ (by simp)];simp
     rw [e1,List.map_map]at hd;obtain⟨fps,h1,h2,h3⟩:=ih _ cvs _ _ _ hd (by simp;omega)
     have hroot:Rel D w noR v1 cv (F' σ.length):=by
      have:=hcr.wr.rel σ.length (by simp)
      rw [hρ]at this;have e2:(σ.set id (upd p (σ.getD id .dead) .dead)++ [sub p (σ.getD id .dead)]).getD σ.length .dead=sub p (σ.getD id .dead):=by simp
      rw [e2,<-At.sub hat]at this;exact this
     have hfp: ∀j b,fps j b->∃i,i≠σ.length/\F' i b:=by
      intro j b hb;obtain⟨i,hi⟩:=h3 j b hb;split at hi
      ·exact hi.elim
      ·exact⟨i,by assumption,hi⟩
     refine⟨λj=>match j with|0=>F' σ.length|j+1=>fps j,λj hj=>?_,λi j b hij hb hb'=>?_,λj b hb=>?_⟩
     ·cases j with
      |zero=>exact hroot
      |succ j=>exact h1 j (by simpa using hj)
     ·cases i with
      |zero=>cases j with
       |zero=>exact hij rfl
       |succ j=>obtain⟨i,hne,hi⟩:=hfp j b hb';exact hcr.wr.disj _ _ b (Ne.symm hne) hb hi
      |succ i=>cases j with
       |zero=>obtain⟨l,hne,hl⟩:=hfp i b hb;exact hcr.wr.disj _ _ b hne hl hb'
       |succ j=>exact h2 i j b (by omega) hb hb'
     ·cases j with
      |zero=>exact hF' _ b hb
      |succ j=>obtain⟨i,_,hi⟩:=hfp j b hb;exact hF' i b hi
    have dead:=plain .dead (λ_ h=>h)
    unfold tkL;cases v with
    |c v=>exact plain _ ⟨hv.1,hv.2.1,hv.2.2⟩
    |dead=>exact dead
    |many=>exact dead
    |nd s own sz n f=>exact plain _ hv
    |rs id p off len=>
     obtain⟨⟨hid,sz,n,f,cn,hat,hle,hcv⟩,_⟩:=hv;simp only;split
     ·rename_i sz1 n1 f1 hsub
      split
      ·rename_i hfull
       obtain⟨rfl,rfl⟩:=hfull;have hsj:=At.sub hat;rw [hsub]at hsj;simp only [V.nd.injEq,true_and]at hsj;obtain⟨rfl,rfl,rfl⟩:=hsj;have hcx:cn=cv:=by
        rcases hcv with⟨b2,o2,cap2,rfl,rfl⟩|⟨h0,_,_,hfull,_⟩
        ·simp [As]
        ·exact(hfull rfl h0).symm
       subst hcx;exact cut id p _ hid hat
      ·exact dead
     ·exact dead
    |rp id p i k=>
     obtain⟨⟨hid,s,sz,n,f,b,o,cap,hat,hi,hk,hcv⟩,_⟩:=hv;simp only;split
     ·rename_i sz1 n1 f1 hsub
      split
      ·rename_i hfull
       obtain⟨rfl,rfl⟩:=hfull;have hsj:=At.sub hat;rw [hsub]at hsj;simp only [V.nd.injEq,true_and]at hsj;obtain⟨rfl,rfl,rfl,rfl⟩:=hsj;have hcx:As false b o n cap=cv:=by rw [hcv];simp [As]
       rw [hcx]at hat;exact cut id p _ hid hat
      ·exact dead
     ·exact dead
def Be:List V->List V->List V
 | [],_=>[]
 | .many .ag n _::vs,l=>Ac (l.take n)::Be vs (l.drop n)
 |_::vs,l=>l.getD 0 .dead::Be vs (l.drop 1)
def Np(l:List V):V:=match l with
 | [v]=>v
 |l=>.many .tu l.length λk=>l.getD k .dead
def VC(P:Program)(S:Ms):List ResultVar->List V->(List V->Prop)->Prop
 | [],acc,K=>K acc
 | .tmp t::rs,acc,K=>VC P S rs (acc++ [S.t t]) K
 | .cell a t::rs,acc,K=>HQ (tyI P t) S.σ (S.t a) λv=>VC P S rs (acc++ [v]) K
def Yx(σ:List V)(r:V)(vl:List V):Prop:=
 vl.all Bo=true/\Sub (Np (Be vl (tkL (vl.flatMap cellsV).length (vl.flatMap cellsV) σ))) r
def RetK(P:Program)(rs:List ResultVar)(r:V):Exit->Ms->Prop
 | .normal,S=>VC P S rs [] (Yx S.σ r)
 | .ret,S=>VC P S rs [] (Yx S.σ r)
 |_,_=>False
theorem LC(hR: ∀v cv,R v cv->cv.oneCell'=true): ∀ (vl:List V) (cvl:List Value) (flat:List V) (fps:Nat->Nat->Prop),cvl.length=vl.length->vl.all Bo=true->(∀j,j<vl.length->Rel D w R (vl.getD j .dead) (cvl.getD j undef) noF)->
  (∀j,j<(vl.flatMap cellsV).length->Rel D w noR (flat.getD j .dead) ((cvl.flatMap (·.cells.toList)).getD j undef) (fps j))->(∀i j b,i≠j->fps i b->¬fps j b)->flat.length=(vl.flatMap cellsV).length->
  (Be vl flat).length=vl.length/\∃G:Nat->Nat->Prop,(∀j,j<vl.length->Rel D w noR ((Be vl flat).getD j .dead) (cvl.getD j undef) (G j))/\(∀i j b,i≠j->G i b->¬G j b)/\∀j b,G j b->∃i,fps i b:=by
 intro vl
 induction vl with
 |nil=>intro cvl flat fps _ _ _ _ _ _;exact⟨rfl,λ_=>noF,λj hj=>by simp at hj,λ_ _ _ _ h=>h.elim,λ_ _ h=>h.elim⟩
 |cons v vl ih=>
  intro cvl flat fps hl hp hr hf hd hfl;cases cvl with
  |nil=>simp at hl
  |cons cv cvl=>
   simp only [List.all_cons,bAE]at hp;have hv:=hr 0 (by simp)
   simp only [List.getD_cons_zero]at hv;obtain⟨⟨hcs,hcells⟩,_⟩:=Ci hR hp.1 hv;simp only [List.flatMap_cons,List.length_append]at hf hfl
   obtain⟨h1,G,h2,h3,h4⟩:=ih cvl (flat.drop (cellsV v).length) (λj=>fps ((cellsV v).length+j)) (by simpa using hl) hp.2 (λj hj=>by simpa using hr (j+1) (by simpa using hj)) (λj hj=>by
    have:=hf ((cellsV v).length+j) (by omega)
    have e1:(flat.drop (cellsV v).length).getD j .dead=flat.getD ((cellsV v).length+j) .dead:=by simp
    have e2:(cv.cells.toList++cvl.flatMap (·.cells.toList)).getD ((cellsV v).length+j) undef=(cvl.flatMap (·.cells.toList)).getD j undef:=by
     simp only [gDE];rw [gAR (by simp [hcs])]
     simp [hcs]
    rw [e2]at this;rw [e1];exact this) (λi j b hij=>hd _ _ b (by omega)) (by rw [List.length_drop];omega)
   -- the first
   have first: ∃v1,Be (v::vl) flat=v1::Be vl (flat.drop (cellsV v).length)/\Rel D w noR v1 cv (λb=>∃j,j<(cellsV v).length/\fps j b):=by
    have hget: ∀j,j<(cellsV v).length->Rel D w noR (flat.getD j .dead) (cv.cells.toList.getD j undef) (fps j):=λj hj=>by
     have:=hf j (by omega)
     have e2:(cv.cells.toList++cvl.flatMap (·.cells.toList)).getD j undef=cv.cells.toList.getD j undef:=by
      simp only [gDE];rw [gAL (by simp [hcs];exact hj)]
     rw [e2]at this;exact this
    have single: ∀v:V,Xa v=true->cellsV v= [v]->Rel D w R v cv noF->(∀j,j<1->Rel D w noR (flat.getD j .dead) (cv.cells.toList.getD j undef) (fps j))->Be (v::vl) flat=flat.getD 0 .dead::Be vl (flat.drop 1)->∃v1,Be (v::vl) flat=v1::Be vl (flat.drop (cellsV v).length)/\Rel D w noR v1 cv (λb=>∃j,j<(cellsV v).length/\fps j b):=by
     intro v ho hcv hv hget hrg;obtain⟨hc1,_⟩:=Rel.cells1 hv hR ho;refine⟨_,by rw [hcv];exact hrg,?_⟩
     rw [hcv];have:=hget 0 (by omega)
     rw [hc1]at this;refine Rel.fp_congr (fp:=fps 0) (λb=>⟨λh=>⟨0,by simp,h⟩,?_⟩) (by simpa using this)
     rintro ⟨j,hj,h⟩
     simp at hj;subst hj;exact h
    cases v with
    |many t n f=>
     cases t with
     |bx=>exact absurd hp.1 (by simp [Bo])
     |tu=>exact absurd hp.1 (by simp [Bo])
     |cl g=>exact single _ rfl rfl hv (λj hj=>hget j (by simpa [cellsV]using hj)) rfl
     |ag=>
      obtain⟨cs,F',rfl,hn,_⟩:=hv;have hlen:(cellsV (.many .ag n f)).length=n:=by simp [cellsV]
      refine⟨Ac (flat.take n),by rw [hlen];rfl,?_⟩
      have hln:(flat.take n).length=n:=by simp;rw [hlen]at hfl;omega
      unfold Ac;rw [hln];refine⟨cs,λj b=>fps j b,rfl,hn,λk hk=>?_,λk k' b _ _ hkk=>hd k k' b hkk,λb=>by rw [hlen]⟩
      have:=hget k (by rw [hlen];exact hk)
      have e1:(flat.take n).getD k .dead=flat.getD k .dead:=by simp [List.getElem?_take,hk]
      show Rel D w noR ((flat.take n).getD k .dead) _ _;rw [e1];simpa [Value.cells]using this
    |dead=>exact absurd hp.1 (by simp [Bo])
    |c v=>exact single _ rfl rfl hv (λj hj=>hget j (by simpa [cellsV]using hj)) rfl
    |nd s own sz n f=>exact single _ rfl rfl hv (λj hj=>hget j (by simpa [cellsV]using hj)) rfl
    |rs id p off len=>exact single _ rfl rfl hv (λj hj=>hget j (by simpa [cellsV]using hj)) rfl
    |rp id p i k=>exact single _ rfl rfl hv (λj hj=>hget j (by simpa [cellsV]using hj)) rfl
   obtain⟨v1,e1,hr1⟩:=first
   rw [e1];refine⟨by simp [h1],λj=>match j with|0=>(λb=>∃j,j<(cellsV v).length/\fps j b)|j+1=>G j,λj hj=>?_,λi j b hij hb hb'=>?_,λj b hb=>?_⟩
   ·cases j with
    |zero=>exact hr1
    |succ j=>simpa using h2 j (by simpa using hj)
   ·cases i with
    |zero=>cases j with
     |zero=>exact hij rfl
     |succ j=>
      obtain⟨l,hl,h⟩:=hb;obtain⟨i,hi⟩:=h4 j b hb';exact hd _ _ b (by omega) h hi
    |succ i=>cases j with
     |zero=>
      obtain⟨l,hl,h⟩:=hb';obtain⟨i,hi⟩:=h4 i b hb;exact hd _ _ b (by omega) hi h
     |succ j=>exact h3 i j b (by omega) hb hb'
   ·cases j with
    |zero=>obtain⟨j,_,h⟩:=hb;exact⟨j,h⟩
    |succ j=>obtain⟨i,h⟩:=h4 j b hb;exact⟨_,h⟩
def rdV(tmps:Array Value):ResultVar->Sem Value
 | .tmp t=>pure (tmps.getD t undef)
 | .cell a t=>do loadVar t (<-asAddr (tmps.getD a undef))
theorem QV{P:Program}{N:Nat}{S:Ms}{a:Act}(h:CR C S.σ ((List.range N).map S.t) a.tmps w D ρ F)(hdd: ∀x,N<=x->S.t x= .dead): ∀ (rs:List ResultVar) (acc:List V) (cacc:List Value) (K:List V->Prop),
  cacc.length=acc.length->(∀j,j<acc.length->Rel D w (Ag S.σ ρ w) (acc.getD j .dead) (cacc.getD j undef) noF)->VC P S rs acc K->
  ∃ (vl:List V) (cvl:List Value),(rs.mapM (rdV a.tmps)).run P w= .ok cvl w/\K (acc++vl)/\vl.length=rs.length/\cvl.length=vl.length/\
   ∀j,j<vl.length->Rel D w (Ag S.σ ρ w) (vl.getD j .dead) (cvl.getD j undef) noF:=by
 intro rs
 induction rs with
 |nil=>intro acc cacc K _ _ hK;exact⟨[],[],by simp,by simpa [VC]using hK,rfl,rfl,λj hj=>by simp at hj⟩
 |cons r rs ih=>
  intro acc cacc K hl hr hK
  have go: ∀ (v:V) (cv:Value),Rel D w (Ag S.σ ρ w) v cv noF->(rdV a.tmps r).run P w= .ok cv w->VC P S rs (acc++ [v]) K->
    ∃ (vl:List V) (cvl:List Value),((r::rs).mapM (rdV a.tmps)).run P w= .ok cvl w/\K (acc++vl)/\vl.length=(r::rs).length/\cvl.length=vl.length/\
     ∀j,j<vl.length->Rel D w (Ag S.σ ρ w) (vl.getD j .dead) (cvl.getD j undef) noF:=by
   intro v cv hv hrun hK
   obtain⟨vl,cvl,h1,h2,h3,h4,h5⟩:=ih (acc++ [v]) (cacc++ [cv]) K (by simp [hl]) (λj hj=>by
    by_cases he:j<acc.length
    ·grind
    ·obtain rfl:j=acc.length:=by simp at hj;omega
     simp only [gDE];rw [gAR (by omega),gAR (by omega)]
     simpa [hl]using hv) hK
   refine⟨v::vl,cv::cvl,?_,by simpa using h2,by simp [h3],by simp [h4],λj hj=>?_⟩
   ·rw [List.mapM_cons,Sem.run_bind,hrun]
    simp only [Result.andThen,Sem.run_bind,h1];rfl
   ·cases j with
    |zero=>exact hv
    |succ j=>simpa using h5 j (by simpa using hj)
  cases r with
  |tmp t=>
   refine go (S.t t) (a.tmps.getD t undef) ?_ (by simp [rdV]) hK
   have:=BB (S:=S) (a:=a) h hdd (.tmp t);exact this
  |cell x t=>
   have hx:=BB (S:=S) (a:=a) h hdd (.tmp x);obtain⟨v,hKv,ad,cr,he,hload,hv⟩:=M4 (P:=P) h.wr hx hK;refine go v cr hv ?_ hKv;have he':a.tmps.getD x undef= .pointer (some ad):=he;simp [rdV,he',asAddr,hload]
def packC:List Value->Value
 | [v]=>v
 |l=>.tuple l.toArray
theorem Ov{tmps:Array Value}{cvl:List Value}(h:(fn.results.toList.mapM (rdV tmps)).run P w= .ok cvl w):
  (results fn tmps).run P w= .ok (packC cvl) w:=by
 have e:(fn.results.mapM (rdV tmps)).run P w= .ok cvl.toArray w:=by
  rw [Array.mapM_eq_mapM_toList];simp [h]
 show(do let vs<-fn.results.mapM (rdV tmps);pure (if h:vs.size=1 then vs[0]else .tuple vs):Sem Value).run P w=_
 rw [Sem.run_bind,e]
 match cvl with
 | []=>rfl
 | [v]=>rfl
 |_::_::_=>rfl
theorem VX(l:List V)(cl:List Value)(G:Nat->Nat->Prop)(hl:cl.length=l.length)(h: ∀j,j<l.length->Rel D w noR (l.getD j .dead) (cl.getD j undef) (G j))(hd: ∀i j b,i≠j->G i b->¬G j b):
  Rel D w noR (Np l) (packC cl) (λb=>∃j,j<l.length/\G j b):=by
 have many: ∀ (l:List V) (cl:List Value),cl.length=l.length->(∀j,j<l.length->Rel D w noR (l.getD j .dead) (cl.getD j undef) (G j))->Rel D w noR (.many .tu l.length λk=>l.getD k .dead) (.tuple cl.toArray) (λb=>∃j,j<l.length/\G j b):=by
  intro l cl hl h;exact⟨cl.toArray,G,rfl,by grind,λk hk=>by simp_all,λk k' b _ _ hkk=>hd k k' b hkk,λ_=>Iff.rfl⟩
 match l,cl,hl,h with
 | [v],[cv],_,h=>
  refine Rel.fp_congr (λb=>⟨λh=>⟨0,by simp,h⟩,?_⟩) (h 0 (by simp))
  simp
 | [],[],hl,h=>exact many [] [] hl h
 |v::v'::l,cv::cv'::cl,hl,h=>exact many _ _ hl h
theorem FC_of{f:FuncId}{body:Code}{h:Cg}{args:List V}{r:V}(hf:P.funcs[f]? =some fn)(hb:fn.body=some body)(hn:max args.length fn.ntmps=h.n)
  (hv:(∀v∈args,WFV v)->∀ (C:Ctx) (a:Act) (w:World) (Q:Exit->Act->World->Prop),C.m=0->AI C h.n ⟨λi=>args.getD i .dead,[]⟩ a w->(∀e S a' w',RetK P fn.results.toList r e S->AI C h.n S a' w'->Q e a' w')->body.wp P Q a w):FC P f args r:=by
 intro w D cvs hk hD hsz hargs
 let C:Ctx:=⟨w,λ_=>False,D,0,λ_=>undef,hk,λ_ _ h=>h⟩
 refine calls_of_wp hf hb ?_;have hwf: ∀v∈args,WFV v:=by
  intro v hv;obtain⟨i,hi,rfl⟩:=List.mem_iff_getElem.1 hv;have:=Rel.wf _ _ _ _ (hargs i hi);simpa [gDE,hi]using this
 have hs:AI C h.n ⟨λi=>args.getD i .dead,[]⟩ {tmps:=cvs++Array.replicate (fn.ntmps-cvs.size) undef,defers:=[]} w:=by
  refine⟨rfl,λx hx=>Wv (by omega),D,λ_=>undef,λ_=>noF,⟨⟨λi hi=>by simp at hi,λ_ _ _ _ h=>h.elim,λ_ _ h=>h.elim,hD,λ_ _ _ h=>h.elim⟩,by simp [hsz];omega,λt ht=>?_,⟨rfl,rfl,rfl,Nat.le_refl _,λ_ _ _=>rfl,Nat.le_refl _⟩,λ_ _ h=>h.elim,λ_ h=>h,λ_ h _=>.inl h,λi hi=>absurd hi (Nat.not_lt_zero _),Nat.zero_le _⟩⟩
  rw [AV (by simpa using ht)]
  by_cases hta:t<args.length
  ·have e2:(cvs++Array.replicate (fn.ntmps-cvs.size) undef).getD t undef=cvs.getD t undef:=by
    have:t<cvs.size:=by omega
    simp [Array.getElem?_append_left this]
   rw [e2];exact Rel.noR_mono (hargs t hta)
  ·have e1:args.getD t .dead= .dead:=Wv (Nat.le_of_not_lt hta)
   show Rel D w _ (args.getD t .dead) _ noF;rw [e1];exact λ_ h=>h
 refine hv hwf C _ _ _ rfl hs ?_;intro e S a w' hq hs'
 have fin:VC P S fn.results.toList [] (Yx S.σ r)->a.defers= []/\∃v,(results fn a.tmps).run P w'= .ok v w'/\(∃cv fp D',Ending.returned v= .returned cv/\Below w.heap.size w w'/\Rel D' w' noR r cv fp/\(∀b,fp b->w.heap.size<=b)/\
   (∀b,D b->D' b)/\(∀b,D' b->D b\/w.heap.size<=b)/\∀b,D' b->b<w'.heap.size/\¬fp b):=by
  intro hres;obtain⟨hd,hdd,D',ρ,F,hcr⟩:=hs';obtain⟨vl,cvl,hrun,⟨hpl,heq⟩,hlen,hcl,hrel⟩:=QV hcr hdd fn.results.toList [] [] _ rfl (λj hj=>by simp at hj) hres
  simp only [List.nil_append]at hpl heq;refine⟨hd,_,Ov hrun,?_⟩
  -- the flat list
  have hflat:Qn D' w' (Ag S.σ ρ w') (vl.flatMap cellsV) (cvl.flatMap (·.cells.toList)).toArray:=by
   clear heq hrun hlen hres
   induction vl generalizing cvl with
   |nil=>cases cvl with
    |nil=>exact⟨rfl,λj hj=>by simp at hj⟩
    |cons=>simp at hcl
   |cons v vl ih=>
    cases cvl with
    |nil=>simp at hcl
    |cons cv cvl=>
     simp only [List.all_cons,bAE]at hpl;obtain⟨⟨h1,h2⟩,_⟩:=Ci (λv cv h=>Ag.one h) hpl.1 (by simpa using hrel 0 (by simp))
     obtain⟨h3,h4⟩:=ih cvl hpl.2 (by simpa using hcl) (λj hj=>by simpa using hrel (j+1) (by simpa using hj))
     refine⟨by simp [h1]at h3⊢;omega,λj hj=>?_⟩
     simp only [List.flatMap_cons];by_cases hj1:j<(cellsV v).length
     ·rw [Aw hj1]
      have e2:(cv.cells.toList++cvl.flatMap (·.cells.toList)).toArray.getD j undef=cv.cells.getD j undef:=by
       simp [gAL,h1,hj1]
      rw [e2];exact h2 j hj1
     ·have hj2:j-(cellsV v).length<(vl.flatMap cellsV).length:=by simp at hj;simp;omega
      have:=h4 (j-(cellsV v).length) hj2
      have e1:(cellsV v++vl.flatMap cellsV).getD j .dead=(vl.flatMap cellsV).getD (j-(cellsV v).length) .dead:=by
       simp only [gDE];rw [gAR (by omega)]
      have e2:(cv.cells.toList++cvl.flatMap (·.cells.toList)).toArray.getD j undef=(cvl.flatMap (·.cells.toList)).toArray.getD (j-(cellsV v).length) undef:=by
       simp only [Array.getD_eq_getD_getElem?,List.getElem?_toArray];rw [gAR (by simp [h1];omega)]
       simp [h1]
      rw [e1,e2];exact this
  have hcr2:CR C S.σ (vl.flatMap cellsV) (cvl.flatMap (·.cells.toList)).toArray w' D' ρ F:=⟨hcr.wr,hflat.1,hflat.2,hcr.fr,hcr.Fn,hcr.D1,hcr.D2,hcr.rt,hcr.ml⟩
  obtain⟨fps,hf1,hf2,hf3⟩:=UZ (vl.flatMap cellsV).length _ _ _ _ _ hcr2 (Nat.le_refl _);obtain⟨hrl,G,hg1,hg2,hg3⟩:=LC (λv cv h=>Ag.one h) vl cvl (tkL (vl.flatMap cellsV).length (vl.flatMap cellsV) S.σ) fps hcl hpl hrel hf1 hf2 (Qv _ _ _ (Nat.le_refl _))
  have hpack:=VX (Be vl (tkL (vl.flatMap cellsV).length (vl.flatMap cellsV) S.σ)) cvl G (by rw [hrl,hcl]) (λj hj=>hg1 j (by rw [hrl]at hj;exact hj)) hg2
  have hGF: ∀b,(∃j,j<(Be vl (tkL (vl.flatMap cellsV).length (vl.flatMap cellsV) S.σ)).length/\G j b)->∃i,F i b:=by
   rintro b ⟨j,_,hb⟩
   obtain⟨i,hi⟩:=hg3 j b hb;exact hf3 i b hi
  refine⟨_,_,D',rfl,⟨hcr.fr.os,hcr.fr.tape,hcr.fr.output,hcr.fr.size,λb hb=>hcr.fr.block b hb (λh=>h),hcr.fr.drawn⟩,Rel.sub heq hpack,λb hb=>?_,hcr.D1,λb hb=>?_,λb hb=>⟨hcr.wr.Dlt b hb,λh=>?_⟩⟩
  ·obtain⟨i,hi⟩:=hGF b hb
   exact(hcr.Fn i b hi).elim (λh=>h.elim) λh=>h
  ·rcases Nat.lt_or_ge b w.heap.size with h|h
   ·exact .inl ((hcr.D2 b hb h).elim (λh=>h) λh=>h.elim)
   ·exact .inr h
  ·obtain⟨i,hi⟩:=hGF b h
   exact hcr.wr.dD i b hi hb
 cases e with
 |normal=>exact fin hq
 |ret=>exact fin hq
 |exit id=>exact hq.elim
 |goto l=>exact hq.elim
 |panic ch=>exact hq.elim
 |outgrown=>exact hq.elim
end Go.Ve

