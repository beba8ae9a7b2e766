/- Parts of trees are handed to a callee that writes them: they are cut out, and put back. -/
import Derived.Test.YtpaekmpjbalnfabVy
namespace Go.Ve
def dvP:List (Nat×Nat)->List (Nat×Nat)->Bool
 |(_,k)::p,(_,l)::q=>!Nat.beq k l||dvP p q
 |_,_=>false
theorem Qk: ∀ {p q:List (Nat×Nat)},dvP p q=true->dvP q p=true
 |(_,k)::p,(_,l)::q,h=>by
  simp only [dvP,Bool.or_eq_true,Bool.not_eq_true']at h⊢;rcases h with h|h
  ·left
   cases hb:Nat.beq l k with
   |false=>rfl
   |true=>rw [bqE hb,Nat.beq_refl]at h;cases h
  ·exact .inr (Qk h)
 | [],_,h=>by cases h
 |_::_,[],h=>by cases h
theorem Pc{p:List (Nat×Nat)}:dvP p []=false:=by cases p<;>rfl
theorem DA{i k:Nat}{p:List (Nat×Nat)}{s o:Bool}{sz n:Nat}{f:Nat->Nat->V}{x:V}:upd ((i,k)::p) (.nd s o sz n f) x= .nd s o sz n fun i' k'=>if i'=i/\k'=k then upd p (f i k) x else f i' k':=rfl
theorem Kj: ∀ (p:List (Nat×Nat)) (v x y:V),upd p (upd p v x) y=upd p v y
 | [],_,_,_=>rfl
 |(i,k)::p,v,x,y=>by
  cases v with
  |nd s o sz n f=>
   rw [DA,DA,DA]
   congr 1
   funext i' k'
   by_cases h:i'=i/\k'=k
   ·simp only [h,and_self,if_true];exact Kj p _ _ _
   ·simp only [h,if_false]
  |_=>rfl
theorem Pr: ∀ (p q:List (Nat×Nat)) (v x y:V),dvP p q=true->upd p (upd q v x) y=upd q (upd p v y) x
 |(i,k)::p,(j,l)::q,v,x,y,h=>by
  cases v with
  |nd s o sz n f=>
   rw [DA,DA,DA,DA]
   congr 1
   funext i' k'
   by_cases h1:i'=i/\k'=k<;>by_cases h2:i'=j/\k'=l
   ·obtain⟨rfl,rfl⟩:=h1
    obtain⟨rfl,rfl⟩:=h2;have h:dvP p q=true:=by
     simpa [dvP,Nat.beq_refl]using h
    simp only [and_self,if_true];exact Pr p q _ _ _ h
   ·obtain⟨rfl,rfl⟩:=h1
    simp only [and_self,if_true,h2,if_false]
   ·obtain⟨rfl,rfl⟩:=h2
    simp only [and_self,if_true,h1,if_false]
   ·simp only [h1,h2,if_false]
  |_=>rfl
 | [],_,_,_,_,h=>by cases h
 |_::_,[],_,_,_,h=>by cases h
theorem Sub.upd: ∀ (p:List (Nat×Nat)) {v v' x:V},Sub v v'->Sub (Go.Ve.upd p v x) (Go.Ve.upd p v' x)
 | [],_,_,_,_=>Sub.refl _
 |(i,k)::p,v,v',x,h=>by
  cases v with
  |nd s o sz n f=>
   obtain⟨g,rfl,hg⟩:=h;rw [DA,DA];refine⟨_,rfl,fun i' k' hi hk=>?_⟩
   by_cases h1:i'=i/\k'=k
   ·obtain⟨rfl,rfl⟩:=h1
    simp only [and_self,if_true];exact Sub.upd p (hg _ _ hi hk)
   ·simp only [h1,if_false]
    exact hg _ _ hi hk
  |c v=>
   rcases h with rfl|⟨rfl,own,sz,f,rfl⟩
   ·exact Sub.refl _
   ·exact .inr ⟨rfl,own,sz,_,rfl⟩
  |dead=>cases h;exact Sub.refl _
  |many t n f=>obtain⟨g,rfl,hg⟩:=h;exact⟨g,rfl,hg⟩
  |rs=>cases h;exact Sub.refl _
  |rp=>cases h;exact Sub.refl _
theorem At.dvg{w:World}{x:V}: ∀ {p q:List (Nat×Nat)} {v:V} {cv:Value} {v1:V} {c1:Value},dvP p q=true->At w q v cv v1 c1->At w q (upd p v x) cv v1 c1
 |(i,k)::p,(j,l)::q,v,cv,v1,c1,h,ha=>by
  match v,ha with
  | .nd s true sz n f,ha=>
   obtain⟨h1,h2,b,o,cap,y,h3,h4,h5⟩:=ha;rw [DA];refine⟨h1,h2,b,o,cap,y,h3,h4,?_⟩;by_cases he:j=i/\l=k
   ·obtain⟨rfl,rfl⟩:=he
    have h:dvP p q=true:=by simpa [dvP,Nat.beq_refl]using h
    simp only [and_self,if_true];exact At.dvg h h5
   ·simp only [he,if_false]
    exact h5
 | [],_,_,_,_,_,h,_=>by cases h
 |_::_,[],_,_,_,_,h,_=>by cases h
theorem At.cut{w:World}: ∀ {p:List (Nat×Nat)} {v:V} {cv:Value} {v1:V} {c1:Value},At w p v cv v1 c1->At w p (upd p v .dead) cv .dead c1
 | [],_,_,_,_,ha=>⟨rfl,ha.2⟩
 |(i,k)::p,v,cv,v1,c1,ha=>by
  match v,ha with
  | .nd s true sz n f,ha=>
   obtain⟨h1,h2,b,o,cap,y,h3,h4,h5⟩:=ha;rw [DA];exact⟨h1,h2,b,o,cap,y,h3,h4,by simp only [and_self,if_true];exact At.cut h5⟩
structure CS(M:V->V)(S:Nat->List (Nat×Nat)->Prop):Prop where
 m:Bf M
 rs: ∀id q off len,S id q->M (.rs id q off len)= .rs id q off len
 rp: ∀id q i k,S id q->M (.rp id q i k)= .rp id q i k
theorem CS.idf{S:Nat->List (Nat×Nat)->Prop}:CS (fun v=>v) S:=⟨⟨fun _=>rfl,rfl,fun _ _ _ _ _=>rfl,fun _ _ _=>rfl⟩,fun _ _ _ _ _=>rfl,fun _ _ _ _ _=>rfl⟩
theorem CS.comp{M N:V->V}{S:Nat->List (Nat×Nat)->Prop}(hM:CS M S)(hN:CS N S):CS (fun v=>M (N v)) S:=
 ⟨⟨fun v=>by rw [hN.m.c,hM.m.c],by rw [hN.m.dead,hM.m.dead],fun s own sz n f=>by rw [hN.m.nd,hM.m.nd],fun t n f=>by rw [hN.m.many,hM.m.many]⟩,
  fun id q off len h=>by rw [hN.rs id q off len h,hM.rs id q off len h],fun id q i k h=>by rw [hN.rp id q i k h,hM.rp id q i k h]⟩
theorem CS.weak{M:V->V}{S S':Nat->List (Nat×Nat)->Prop}(hM:CS M S)(h: ∀id q,S' id q->S id q):CS M S':=
 ⟨hM.m,fun id q off len hs=>hM.rs id q off len (h id q hs),fun id q i k hs=>hM.rp id q i k (h id q hs)⟩
abbrev C4:=Nat×List (Nat×Nat)
def H5(a b:C4):Prop:=a.1≠b.1\/dvP a.2 b.2=true
def Off(L:List C4)(N:Nat)(id:Nat)(q:List (Nat×Nat)):Prop:=id<N/\∀a∈L,a.1=id->(a.2= []/\q= [])\/(a.2≠[]/\Ba a.2 q=false)
structure Xe(w:World)(σ:List V)(ρ:Nat->Value)(a:C4)(j:Nat):Prop where
 ne:a.2≠[]
 hi:a.1<σ.length
 hj:j<σ.length
 ij:j≠a.1
 at':At w a.2 (σ.getD a.1 .dead) (ρ a.1) .dead (ρ j)
structure CutOK(w:World)(σ σc:List V)(ρ ρc:Nat->Value)(L:List C4)(J:List Nat):Prop where
 len:σ.length<=σc.length
 jl:J.length=L.length
 old: ∀i,i<σ.length->ρc i=ρ i
 nd:J.Nodup
 j: ∀k,k<L.length->J.getD k 0<σc.length/\σc.getD (J.getD k 0) .dead=sub (L.getD k (0,[])).2 (σ.getD (L.getD k (0,[])).1 .dead)
 rt: ∀k,k<L.length->(L.getD k (0,[])).2= []->J.getD k 0=(L.getD k (0,[])).1
 pt: ∀k,k<L.length->(L.getD k (0,[])).2≠[]->σ.length<=J.getD k 0/\Xe w σc ρc (L.getD k (0,[])) (J.getD k 0)
 val: ∀k,k<L.length->At w (L.getD k (0,[])).2 (σ.getD (L.getD k (0,[])).1 .dead) (ρ (L.getD k (0,[])).1) (sub (L.getD k (0,[])).2 (σ.getD (L.getD k (0,[])).1 .dead)) (ρc (J.getD k 0))
def Qp(L:List C4)(i:Nat)(v:V):V:=match L with
 | []=>v
 |a::L=>Qp L i (if a.1=i/\a.2≠[]then upd a.2 v .dead else v)
theorem XP{id N:Nat}{p:List (Nat×Nat)}{S:Nat->List (Nat×Nat)->Prop}(h: ∀id' q,S id' q->¬ (id'=id/\Ba p q=true)):CS (rrV id p N) S:=
 ⟨Dl id p N,fun id' q off len hs=>by unfold rrV;rw [if_neg (h id' q hs)],fun id' q i k hs=>by unfold rrV;rw [if_neg (h id' q hs)]⟩
theorem At.det{w:World}: ∀ {p:List (Nat×Nat)} {v:V} {cv:Value} {v1 v2:V} {c1 c2:Value},At w p v cv v1 c1->At w p v cv v2 c2->c1=c2
 | [],_,_,_,_,_,_,h,h'=>h.2.trans h'.2.symm
 |(i,k)::p,v,cv,v1,v2,c1,c2,h,h'=>by
  match v,h,h' with
  | .nd s true sz n f,h,h'=>
   obtain⟨_,_,b,o,cap,y,h3,h4,h5⟩:=h;obtain⟨_,_,b',o',cap',y',h3',h4',h5'⟩:=h';obtain⟨rfl,rfl,_⟩:=AC (h3.symm.trans h3');obtain rfl:y=y':=Option.some.inj (h4.symm.trans h4');exact At.det h5 h5'
theorem JP: ∀ {L:List C4} {i:Nat} {v:V},(∀a∈L,a.1=i->a.2= [])->Qp L i v=v
 | [],_,_,_=>rfl
 |a::L,i,v,h=>by
  unfold Qp;rw [if_neg (fun h0=>h0.2 (h a (List.mem_cons_self ..) h0.1))]
  exact JP fun b hb=>h b (mCM _ hb)
theorem WK{w:World}{q:List (Nat×Nat)}{cv:Value}{v1:V}{c1:Value}: ∀ {L:List C4} {i:Nat} {v:V},(∀a∈L,H5 (i,q) a)->At w q v cv v1 c1->At w q (Qp L i v) cv v1 c1
 | [],_,_,_,h=>h
 |a::L,i,v,h,ha=>by
  unfold Qp;refine WK (fun b hb=>h b (mCM _ hb)) ?_
  split
  ·rename_i h0
   rcases h a (List.mem_cons_self ..)with h1|h1
   ·exact absurd h0.1.symm h1
   ·exact At.dvg (Qk h1) ha
  ·exact ha
theorem Pe{C:Ctx}{cts:Array Value}{w:World}{D:Nat->Prop}: ∀ (L:List C4) (σ ts:List V) (ρ:Nat->Value) (F:Nat->Nat->Prop),CR C σ ts cts w D ρ F->
  (∀a∈L,a.1<σ.length/\∃sz n f c,At w a.2 (σ.getD a.1 .dead) (ρ a.1) (.nd true true sz n f) c)->L.Pairwise H5->
  ∃ (σc:List V) (ρc:Nat->Value) (Fc:Nat->Nat->Prop) (J:List Nat) (M:V->V),CR C σc (ts.map M) cts w D ρc Fc/\CutOK w σ σc ρ ρc L J/\CS M (Off L σ.length)/\(∀i,i<σ.length->σc.getD i .dead=Qp L i (σ.getD i .dead))
 | [],σ,ts,ρ,F,h,_,_=>by
  have e:ts.map (fun v=>v)=ts:=by simp
  refine⟨σ,ρ,F,[],fun v=>v,by rw [e];exact h,⟨Nat.le_refl _,rfl,fun _ _=>rfl,List.nodup_nil,fun k hk=>by simp at hk,fun k hk=>by simp at hk,fun k hk=>by simp at hk,fun k hk=>by simp at hk⟩,CS.idf,fun i hi=>rfl⟩
 |(id,p)::L,σ,ts,ρ,F,h,hL,hp=>by
  obtain⟨hid,sz,n,f,c,hat⟩:=hL _ (List.mem_cons_self ..);obtain⟨hap,hp'⟩:=List.pairwise_cons.1 hp;simp only at hid hat;have hLl: ∀a∈L,a.1<σ.length:=fun a ha=>(hL a (mCM _ ha)).1
  by_cases hpn:p= []
  ·subst hpn
   obtain⟨σc,ρc,Fc,J,M,hcr,hc,hM,hcv⟩:=Pe L σ ts ρ F h (fun a ha=>hL a (mCM _ ha)) hp'
   have hne: ∀a∈L,a.1≠id:=fun a ha=>by
    rcases hap a ha with h1|h1
    ·exact Ne.symm h1
    ·cases h1
   have hcid:σc.getD id .dead=σ.getD id .dead:=by
    rw [hcv id hid];exact JP fun a ha h1=>absurd h1 (hne a ha)
   have hjn:id∉J:=by
    intro hj;obtain⟨k,hk,hk2⟩:=List.getElem_of_mem hj;have hkL:k<L.length:=by rw [<-hc.jl];exact hk
    have e:J.getD k 0=id:=by simp [hk,hk2]
    have hmem:L.getD k (0,[])∈L:=by simp [hkL]
    by_cases h0:(L.getD k (0,[])).2= []
    ·have:=hc.rt k hkL h0
     exact hne _ hmem (by omega)
    ·have:=(hc.pt k hkL h0).1
     omega
   refine⟨σc,ρc,Fc,id::J,M,hcr,⟨hc.len,by simp [hc.jl],hc.old,List.nodup_cons.2 ⟨hjn,hc.nd⟩,fun k hk=>?_,fun k hk=>?_,fun k hk=>?_,fun k hk=>?_⟩,hM.weak fun id' q hq=>⟨hq.1,fun a ha=>hq.2 a (mCM _ ha)⟩,fun i hi=>?_⟩
   ·cases k with
    |zero=>exact⟨Nat.lt_of_lt_of_le hid hc.len,hcid⟩
    |succ k=>simpa using hc.j k (by simpa using hk)
   ·cases k with
    |zero=>intro _;rfl
    |succ k=>simpa using hc.rt k (by simpa using hk)
   ·cases k with
    |zero=>intro h0;exact absurd rfl h0
    |succ k=>simpa using hc.pt k (by simpa using hk)
   ·cases k with
    |zero=>
     show At w [] (σ.getD id .dead) (ρ id) (σ.getD id .dead) (ρc id);exact⟨rfl,hc.old id hid⟩
    |succ k=>simpa using hc.val k (by simpa using hk)
   ·show σc.getD i .dead=Qp L i (if id=i/\([]:List (Nat×Nat))≠[]then _ else σ.getD i .dead)
    rw [if_neg (fun h=>h.2 rfl)]
    exact hcv i hi
  obtain⟨ρ1,F1,hcr1,hr1,hr2,_⟩:=h.reroot hid hat;have hsub:sub p (σ.getD id .dead)= .nd true true sz n f:=(At.sub hat).symm;generalize hσ1:σ.set id (upd p (σ.getD id .dead) .dead)++ [sub p (σ.getD id .dead)]=σ1 at hcr1;have hl1:σ1.length=σ.length+1:=by rw [<-hσ1];simp
  have hg: ∀i,i<σ.length->σ1.getD i .dead=if i=id then upd p (σ.getD id .dead) .dead else σ.getD i .dead:=by
   intro i hi;rw [<-hσ1,AK (by simpa using hi)]
   by_cases he:i=id
   ·subst he;rw [Ar hi,if_pos rfl]
   ·rw [Ao (Ne.symm he),if_neg he]
  have hgN:σ1.getD σ.length .dead=sub p (σ.getD id .dead):=by rw [<-hσ1];simp
  -- what lies elsewhere lies there still
  have hkeep: ∀a∈L,∀v1 c1,At w a.2 (σ.getD a.1 .dead) (ρ a.1) v1 c1->At w a.2 (σ1.getD a.1 .dead) (ρ1 a.1) v1 c1:=by
   intro a ha v1 c1 hA;rw [hg a.1 (hLl a ha),hr2 a.1 (hLl a ha)];split
   ·rename_i he
    rw [he]at hA⊢;rcases hap a ha with h1|h1
    ·exact absurd he.symm h1
    ·exact At.dvg h1 hA
   ·exact hA
  obtain⟨σc,ρc,Fc,J,M,hcr,hc,hM,hcv⟩:=Pe L _ _ _ _ hcr1 (fun a ha=>by
   obtain⟨h1,sz',n',f',c',h2⟩:=hL a (mCM _ ha);exact⟨by omega,sz',n',f',c',hkeep a ha _ _ h2⟩) hp'
  have hlen:=hc.len;have hNJ:σ.length∉J:=by
   intro hj;obtain⟨k,hk,hk2⟩:=List.getElem_of_mem hj;have hkL:k<L.length:=by rw [<-hc.jl];exact hk
   have e:J.getD k 0=σ.length:=by simp [hk,hk2]
   have hmem:L.getD k (0,[])∈L:=by simp [hkL]
   by_cases h0:(L.getD k (0,[])).2= []
   ·have:=hc.rt k hkL h0
    have:=hLl _ hmem;omega
   ·have:=(hc.pt k hkL h0).1
    omega
  have hρid:ρc id=ρ id:=(hc.old id (by omega)).trans (hr2 id hid)
  have hρN:ρc σ.length=c:=(hc.old _ (by omega)).trans hr1
  have hmemL: ∀k,k<L.length->L.getD k (0,[])∈L:=fun k hk=>by simp [hk]
  refine⟨σc,ρc,Fc,σ.length::J,fun v=>M (rrV id p σ.length v),by simpa [List.map_map,Function.comp_def]using hcr,⟨by omega,by simp [hc.jl],fun i hi=>(hc.old i (by omega)).trans (hr2 i hi),List.nodup_cons.2 ⟨hNJ,hc.nd⟩,fun k hk=>?_,fun k hk=>?_,fun k hk=>?_,fun k hk=>?_⟩,CS.comp (hM.weak fun id' q hq=>⟨by have:=hq.1;omega,fun a ha=>hq.2 a (mCM _ ha)⟩) (XP fun id' q hq h0=>?_),fun i hi=>?_⟩
  ·cases k with
   |zero=>
    refine⟨by show σ.length<_;omega,?_⟩
    show σc.getD σ.length .dead=sub p (σ.getD id .dead);rw [hcv _ (by omega),JP (fun a ha h1=>by have:=hLl a ha;omega),hgN]
   |succ k=>
    have hk:k<L.length:=by simpa using hk
    obtain⟨h1,h2⟩:=hc.j k hk;refine⟨by simpa using h1,?_⟩
    obtain⟨_,sz',n',f',c',h3⟩:=hL _ (mCM _ (hmemL k hk));have h4:=At.sub (hkeep _ (hmemL k hk) _ _ h3);have h5:=At.sub h3;simp only [List.getD_cons_succ];rw [h2,<-h4,h5]
  ·cases k with
   |zero=>intro h0;exact absurd h0 hpn
   |succ k=>simpa using hc.rt k (by simpa using hk)
  ·cases k with
   |zero=>
    intro _;refine⟨Nat.le_refl _,hpn,by show id<_;omega,by show σ.length<_;omega,by show σ.length≠id;omega,?_⟩
    show At w p (σc.getD id .dead) (ρc id) .dead (ρc σ.length);rw [hρid,hρN,hcv id (by omega),hg id hid,if_pos rfl]
    exact WK (fun a ha=>hap a ha) (At.cut hat)
   |succ k=>
    intro h0;have h1:=hc.pt k (by simpa using hk) (by simpa using h0)
    refine⟨?_,by simpa using h1.2⟩
    have:=h1.1;simp only [List.getD_cons_succ];omega
  ·cases k with
   |zero=>
    show At w p (σ.getD id .dead) (ρ id) (sub p (σ.getD id .dead)) (ρc σ.length);rw [hρN,hsub];exact hat
   |succ k=>
    have hk:k<L.length:=by simpa using hk
    simp only [List.getD_cons_succ];obtain⟨_,sz',n',f',c',h3⟩:=hL _ (mCM _ (hmemL k hk));have h4:=hkeep _ (hmemL k hk) _ _ h3;have h5:=At.det h4 (hc.val k hk);rw [<-h5,<-At.sub h3];exact h3
  ·have h1:=hq.2 _ (List.mem_cons_self ..) h0.1.symm
   rcases h1 with h1|h1
   ·exact hpn h1.1
   ·rw [h0.2]at h1;cases h1.2
  ·rw [hcv i (by omega),hg i hi]
   show _=Qp L i (if id=i/\p≠[]then upd p (σ.getD i .dead) .dead else σ.getD i .dead)
   by_cases he:i=id
   ·subst he
    rw [if_pos rfl,if_pos ⟨rfl,hpn⟩]
   ·rw [if_neg he,if_neg (fun h0=>he h0.1.symm)]
end Go.Ve


namespace Go.Ve
def JG(J:List Nat):V->V
 | .rs id q off len=>if id∈J/\q≠[]then .dead else .rs id q off len
 | .rp id q i k=>if id∈J/\q≠[]then .dead else .rp id q i k
 | .many t n f=>.many t n fun k=>JG J (f k)
 |v=>v
theorem NM(J:List Nat):Bf (JG J):=⟨fun _=>rfl,rfl,fun _ _ _ _ _=>rfl,fun _ _ _=>rfl⟩
theorem Uq{J:List Nat}{S:Nat->List (Nat×Nat)->Prop}(h: ∀id q,S id q->¬ (id∈J/\q≠[])):CS (JG J) S:=
 ⟨NM J,fun id q off len hs=>by unfold JG;rw [if_neg (h id q hs)],fun id q i k hs=>by unfold JG;rw [if_neg (h id q hs)]⟩
def Ji:List Nat->List V->List V->List V
 |j::J,v::vs,σ=>Ji J vs (σ.set j v)
 |_,_,σ=>σ
theorem BU: ∀ (J:List Nat) (vs σ:List V),(Ji J vs σ).length=σ.length
 |j::J,v::vs,σ=>by show(Ji J vs (σ.set j v)).length=_;rw [BU];simp
 | [],_,σ=>rfl
 |_::_,[],σ=>rfl
theorem Dj: ∀ (J:List Nat) (vs σ:List V) (i:Nat),i∉J->(Ji J vs σ).getD i .dead=σ.getD i .dead
 |j::J,v::vs,σ,i,h=>by
  simp only [List.mem_cons,not_or]at h;show(Ji J vs (σ.set j v)).getD i .dead=_;rw [Dj J vs _ i h.2,Ao (Ne.symm h.1)]
 | [],_,σ,_,_=>rfl
 |_::_,[],σ,_,_=>rfl
theorem DW: ∀ (J:List Nat) (vs σ:List V) (k:Nat),J.Nodup->vs.length=J.length->(∀j∈J,j<σ.length)->k<J.length->(Ji J vs σ).getD (J.getD k 0) .dead=vs.getD k .dead
 |j::J,v::vs,σ,k,hn,hl,hj,hk=>by
  obtain⟨h1,h2⟩:=List.nodup_cons.1 hn;show(Ji J vs (σ.set j v)).getD _ .dead=_;cases k with
  |zero=>
   show(Ji J vs (σ.set j v)).getD j .dead=v;rw [Dj J vs _ j h1,Ar (hj j (List.mem_cons_self ..))]
  |succ k=>exact DW J vs _ k h2 (by simpa using hl) (fun i hi=>by simpa using hj i (mCM _ hi)) (by simpa using hk)
 | [],_,_,_,_,_,_,hk=>by simp at hk
 |_::_,[],_,_,_,hl,_,_=>by simp at hl
theorem CR.swap{C:Ctx}{σ ts:List V}{cts:Array Value}{w w':World}{D D':Nat->Prop}{ρ:Nat->Value}{F F1:Nat->Nat->Prop}(h:CR C σ ts cts w D ρ F){J:List Nat}(hJ:J.Nodup)(hJl: ∀j∈J,j<σ.length){σ1:List V}(hl:σ1.length=J.length)
  (wr1:Bt σ1 w' D' (fun k=>ρ (J.getD k 0)) F1) (hfr:Fr w w' (fun b=>∃j∈J,F j b)) (hF1: ∀i b,F1 i b->(∃j∈J,F j b)\/w.heap.size<=b) (hD1: ∀b,D b->D' b) (hD2: ∀b,D' b->D b\/(∃j∈J,F j b)\/w.heap.size<=b)
  (hn: ∀k,k<J.length->∃sz n f f',σ.getD (J.getD k 0) .dead= .nd true true sz n f/\σ1.getD k .dead= .nd true true sz n f'): ∃F',CR C (Ji J σ1 σ) (ts.map (JG J)) cts w' D' ρ F':=by
 have hsame: ∀b,b<w.heap.size->¬ (∃j∈J,F j b)->w'.heap[b]? =w.heap[b]?:=hfr.block;have hDs: ∀b,D b->w'.heap[b]? =w.heap[b]?:=fun b hb=>hsame b (h.wr.Dlt b hb) fun⟨j,_,hF⟩=>h.wr.dD j b hF hb
 have hFs: ∀i b,i∉J->F i b->w'.heap[b]? =w.heap[b]?:=fun i b hi hb=>hsame b (h.wr.lt i b hb) fun⟨j,hj,hF⟩=>h.wr.disj i j b (fun e=>hi (e▸hj)) hb hF
 have hidx: ∀i,i∈J->∃k,k<J.length/\J.getD k 0=i:=fun i hi=>by
  obtain⟨k,hk,rfl⟩:=List.getElem_of_mem hi;exact⟨k,hk,by simp [hk]⟩
 have hinj: ∀k k',k<J.length->k'<J.length->J.getD k 0=J.getD k' 0->k=k':=fun k k' h1 h2 he=>by
  simp only [gDE,gEE h1,gEE h2,Option.getD_some]at he;rcases Nat.lt_trichotomy k k' with hlt|heq|hlt
  ·exact absurd he (List.pairwise_iff_getElem.1 hJ k k' h1 h2 hlt)
  ·exact heq
  ·exact absurd he.symm (List.pairwise_iff_getElem.1 hJ k' k h2 h1 hlt)
 have hmem: ∀k,k<J.length->J.getD k 0∈J:=fun k hk=>by simp [hk]
 let F':Nat->Nat->Prop:=fun i b=>(i∉J/\F i b)\/∃k,k<J.length/\J.getD k 0=i/\F1 k b
 have hF'k: ∀k,k<J.length->∀b,F' (J.getD k 0) b↔F1 k b:=fun k hk b=>by
  constructor
  ·rintro (⟨h1,_⟩|⟨k',hk',he,hb⟩)
   ·exact absurd (hmem k hk) h1
   ·rw [hinj k' k hk' hk he]at hb;exact hb
  ·intro hb;exact .inr ⟨k,hk,rfl,hb⟩
 have hF'n: ∀i,i∉J->∀b,F' i b↔F i b:=fun i hi b=>by
  constructor
  ·rintro (⟨_,h1⟩|⟨k,hk,he,_⟩)
   ·exact h1
   ·exact absurd (he▸hmem k hk) hi
  ·intro hb;exact .inl ⟨hi,hb⟩
 refine⟨F',⟨⟨fun i hi=>?_,fun i j b hij hb hb'=>?_,fun i b hb hD=>?_,wr1.Dlt,fun i b hi hb=>?_⟩,by simpa using h.sz,fun t ht=>?_,?_,fun i b hb=>?_,fun b hb=>hD1 b (h.D1 b hb),fun b hb hlt=>?_,h.rt,by rw [BU];exact h.ml⟩⟩
 ·rw [BU]at hi
  by_cases hiJ:i∈J
  ·obtain⟨k,hk,rfl⟩:=hidx i hiJ
   rw [DW J σ1 σ k hJ hl hJl hk];exact Rel.fp_congr (fun b=>(hF'k k hk b).symm) (wr1.rel k (by omega))
  ·rw [Dj J σ1 σ i hiJ]
   refine Rel.fp_congr (fun b=>(hF'n i hiJ b).symm) (Rel.mono hD1 (fun _ _ h=>h) _ _ _ (fun b hb=>?_) (h.wr.rel i hi))
   exact hb.elim (hDs b) (hFs i b hiJ)
 ·by_cases hiJ:i∈J<;>by_cases hjJ:j∈J
  ·obtain⟨k,hk,rfl⟩:=hidx i hiJ
   obtain⟨l,hl',rfl⟩:=hidx j hjJ;exact wr1.disj k l b (fun e=>hij (e▸rfl)) ((hF'k k hk b).1 hb) ((hF'k l hl' b).1 hb')
  ·obtain⟨k,hk,rfl⟩:=hidx i hiJ
   have h2:=(hF'n j hjJ b).1 hb';rcases hF1 k b ((hF'k k hk b).1 hb)with⟨l,hl',h3⟩|h3
   ·exact h.wr.disj l j b (fun e=>hjJ (e▸hl')) h3 h2
   ·have:=h.wr.lt j b h2;omega
  ·obtain⟨l,hl',rfl⟩:=hidx j hjJ
   have h2:=(hF'n i hiJ b).1 hb;rcases hF1 l b ((hF'k l hl' b).1 hb')with⟨m,hm,h3⟩|h3
   ·exact h.wr.disj m i b (fun e=>hiJ (e▸hm)) h3 h2
   ·have:=h.wr.lt i b h2;omega
  ·exact h.wr.disj i j b hij ((hF'n i hiJ b).1 hb) ((hF'n j hjJ b).1 hb')
 ·by_cases hiJ:i∈J
  ·obtain⟨k,hk,rfl⟩:=hidx i hiJ
   exact wr1.dD k b ((hF'k k hk b).1 hb) hD
  ·have h2:=(hF'n i hiJ b).1 hb
   rcases hD2 b hD with h3|⟨j,hj,h3⟩|h3
   ·exact h.wr.dD i b h2 h3
   ·exact h.wr.disj i j b (fun e=>hiJ (e▸hj)) h2 h3
   ·have:=h.wr.lt i b h2;omega
 ·rw [BU]at hi
  by_cases hiJ:i∈J
  ·have:=hJl i hiJ;omega
  ·exact h.wr.out i b hi ((hF'n i hiJ b).1 hb)
 ·simp at ht
  have e1:(ts.map (JG J)).getD t .dead=JG J (ts.getD t .dead):=by simp [ht]
  rw [e1];refine Rel.mono (w:=w') (D:=D) hD1 (fun _ _ h=>h) _ _ _ (fun _ _=>rfl) ((NM J).rel hDs ?_ ?_ _ _ noF (fun _ h=>h) (h.tm t ht))
  ·rintro id p off len cv ⟨hid,sz,n,f,cn,ha,hle,hcv⟩
   unfold JG;split
   ·exact fun _ h=>h
   ·rename_i hk
    refine⟨⟨by rw [BU];exact hid,?_⟩,fun _ h=>h⟩
    by_cases hiJ:id∈J
    ·have hp:p= []:=Classical.byContradiction fun hp=>hk ⟨hiJ,hp⟩
     subst hp;obtain⟨k,hk',rfl⟩:=hidx id hiJ;obtain⟨sz',n',f1,f2,g1,g2⟩:=hn k hk';obtain⟨ha1,ha2⟩:=ha;rw [g1]at ha1;cases ha1;refine⟨sz,n,f2,cn,?_,hle,hcv⟩;rw [DW J σ1 σ k hJ hl hJl hk',g2];exact⟨rfl,ha2⟩
    ·refine⟨sz,n,f,cn,?_,hle,hcv⟩
     rw [Dj J σ1 σ id hiJ];exact At.same (h.wr.rel id hid) ha fun b hb=>hFs id b hiJ hb
  ·rintro id p i k cv ⟨hid,s,sz,n,f,b,o,cap,ha,h1,h2,hcv⟩
   unfold JG;split
   ·exact fun _ h=>h
   ·rename_i hk
    refine⟨⟨by rw [BU];exact hid,?_⟩,fun _ h=>h⟩
    by_cases hiJ:id∈J
    ·have hp:p= []:=Classical.byContradiction fun hp=>hk ⟨hiJ,hp⟩
     subst hp;obtain⟨l,hl',rfl⟩:=hidx id hiJ;obtain⟨sz',n',f1,f2,g1,g2⟩:=hn l hl';obtain⟨ha1,ha2⟩:=ha;rw [g1]at ha1;cases ha1;refine⟨true,sz,n,f2,b,o,cap,?_,h1,h2,hcv⟩;rw [DW J σ1 σ l hJ hl hJl hl',g2];exact⟨rfl,ha2⟩
    ·refine⟨s,sz,n,f,b,o,cap,?_,h1,h2,hcv⟩
     rw [Dj J σ1 σ id hiJ];exact At.same (h.wr.rel id hid) ha fun b hb=>hFs id b hiJ hb
 ·refine⟨hfr.os.trans h.fr.os,hfr.tape.trans h.fr.tape,hfr.output.trans h.fr.output,Nat.le_trans h.fr.size hfr.size,fun b hb hW=>?_,Nat.le_trans h.fr.drawn hfr.drawn⟩
  rw [hsame b (Nat.lt_of_lt_of_le hb h.fr.size) fun⟨j,_,hF⟩=>(h.Fn j b hF).elim hW fun h=>by omega]
  exact h.fr.block b hb hW
 ·rcases hb with⟨_,hb⟩|⟨k,hk,_,hb⟩
  ·exact h.Fn i b hb
  ·rcases hF1 k b hb with⟨j,_,h3⟩|h3
   ·exact h.Fn j b h3
   ·exact .inr (Nat.le_trans h.fr.size h3)
 ·rcases hD2 b hb with h3|⟨j,_,h3⟩|h3
  ·exact h.D2 b h3 hlt
  ·exact(h.Fn j b h3).elim .inr fun h=>by omega
  ·have:=h.fr.size;omega
theorem M4{w:World}{b off:Nat}{v:Value}(h:w.cell? ⟨b,off,none⟩=some v):w.setCell ⟨b,off,none⟩ v=w:=by
 unfold World.cell? at h;cases hb:w.heap[b]? with
 |none=>simp [hb]at h
 |some ob=>
  rw [hb]at h;cases ob with
  |cells cs T fr=>
   have hc:cs[off]? =some v:=by simpa using h
   rw [setCell_eq_setRow w b off cs T fr v hb];have e:cs.setIfInBounds off v=cs:=by
    apply Array.ext_getElem?;intro i;by_cases hi:off=i
    ·subst hi
     have:=(Array.getElem?_eq_some_iff.1 hc).1;rw [Array.getElem?_setIfInBounds_self_of_lt this,hc]
    ·rw [Array.getElem?_setIfInBounds_ne hi]
   rw [e];exact setRow_self w b cs T fr hb
  |_=>simp at h
theorem At.last{w:World}{i k:Nat}: ∀ {p:List (Nat×Nat)} {v:V} {cv:Value} {v':V} {c':Value},At w (p++ [(i,k)]) v cv v' c'->∃s sz n f b o cap,At w p v cv (.nd s true sz n f) (AD s b o n cap)/\i<n/\k<sz/\w.cell? ⟨b,o+i*sz+k,none⟩=some c'
 | [],v,cv,v',c',h=>by
  match v,h with
  | .nd s true sz n f,h=>
   obtain⟨h1,h2,b,o,cap,y,h3,h4,h5⟩:=h;exact⟨s,sz,n,f,b,o,cap,⟨rfl,h3.symm⟩,h1,h2,by rw [h5.2];exact h4⟩
 |(j,l)::p,v,cv,v',c',h=>by
  match v,h with
  | .nd s true sz n f,h=>
   obtain⟨h1,h2,b,o,cap,y,h3,h4,h5⟩:=h;obtain⟨s',sz',n',f',b',o',cap',g1,g2⟩:=At.last h5;exact⟨s',sz',n',f',b',o',cap',⟨h1,h2,b,o,cap,y,h3,h4,g1⟩,g2⟩
theorem Uk{id j:Nat}{p:List (Nat×Nat)}{S:Nat->List (Nat×Nat)->Prop}(h: ∀id' q,S id' q->id'≠j/\¬ (id'=id/\Ba p q=true)):CS (Bp id p j) S:=
 ⟨C9 id p j,fun id' q off len hs=>by unfold Bp;rw [if_neg (h id' q hs).1,if_neg (h id' q hs).2],fun id' q i k hs=>by unfold Bp;rw [if_neg (h id' q hs).1,if_neg (h id' q hs).2]⟩
theorem Kq: ∀ {p:List (Nat×Nat)},p≠[]->∃p0 i k,p=p0++ [(i,k)]
 | [],h=>absurd rfl h
 | [(i,k)],_=>⟨[],i,k,rfl⟩
 |a::b::p,_=>by
  obtain⟨p0,i,k,h⟩:=Kq (p:=b::p) (by simp)
  exact⟨a::p0,i,k,by rw [h];rfl⟩
theorem CR.plug{C:Ctx}{σ ts:List V}{cts:Array Value}{w:World}{D:Nat->Prop}{ρ:Nat->Value}{F:Nat->Nat->Prop}(h:CR C σ ts cts w D ρ F){a:C4}{j:Nat}(ho:Xe w σ ρ a j):
  ∃F',CR C ((σ.set a.1 (upd a.2 (σ.getD a.1 .dead) (σ.getD j .dead))).set j .dead) (ts.map (Bp a.1 a.2 j)) cts w D ρ F':=by
 obtain⟨id,p⟩:=a;obtain⟨hne,hi,hj,hij,hat⟩:=ho;simp only at hne hi hij hat⊢;obtain⟨p0,i,k,rfl⟩:=Kq hne;obtain⟨s,sz,n,f,b,o,cap,h1,h2,h3,h4⟩:=At.last hat;have h5:=h.store_move hi hj hij h1 h2 h3;rw [M4 h4]at h5;exact h5
def Dn(L:List (C4×V))(i:Nat)(v:V):V:=match L with
 | []=>v
 |a::L=>Dn L i (if a.1.1=i then upd a.1.2 v a.2 else v)
theorem PS{C:Ctx}{cts:Array Value}{w:World}{D:Nat->Prop}{ρ:Nat->Value}: ∀ (H:List (C4×Nat)) (σ ts:List V) (F:Nat->Nat->Prop),CR C σ ts cts w D ρ F->(∀h∈H,Xe w σ ρ h.1 h.2)->(H.map (·.2)).Nodup->(∀h∈H,∀h'∈H,h.2≠h'.1.1)->H.Pairwise (fun a b=>H5 a.1 b.1)->
  ∃ (σ3:List V) (M:V->V) (F':Nat->Nat->Prop),CR C σ3 (ts.map M) cts w D ρ F'/\σ3.length=σ.length/\CS M (fun id q=>(∀h∈H,id≠h.2)/\∀h∈H,¬ (id=h.1.1/\Ba h.1.2 q=true))/\
   ∀i,(∀h∈H,i≠h.2)->σ3.getD i .dead=Dn (H.map fun h=>(h.1,σ.getD h.2 .dead)) i (σ.getD i .dead)
 | [],σ,ts,F,h,_,_,_,_=>by
  have e:ts.map (fun v=>v)=ts:=by simp
  exact⟨σ,fun v=>v,F,by rw [e];exact h,rfl,CS.idf,fun _ _=>rfl⟩
 |(a,j)::H,σ,ts,F,h,hh,hnd,hne,hp=>by
  have ho:=hh _ (List.mem_cons_self ..);obtain⟨F1,h1⟩:=h.plug ho;obtain⟨hnj,hnd'⟩:=List.nodup_cons.1 hnd;obtain⟨hap,hp'⟩:=List.pairwise_cons.1 hp;have hi:=ho.hi;have hj:=ho.hj;have hij:=ho.ij;simp only at hi hj hij;have hjs: ∀h∈H,h.2≠j:=fun h hh e=>hnj (by rw [<-e];exact List.mem_map.2 ⟨h,hh,rfl⟩)
  have hg: ∀i,i≠j->((σ.set a.1 (upd a.2 (σ.getD a.1 .dead) (σ.getD j .dead))).set j .dead).getD i .dead=if a.1=i then upd a.2 (σ.getD i .dead) (σ.getD j .dead)else σ.getD i .dead:=by
   intro i hij';rw [Ao (Ne.symm hij')];by_cases he:a.1=i
   ·subst he;rw [if_pos rfl,Ar hi]
   ·rw [if_neg he,Ao he]
  obtain⟨σ3,M,F',h2,h3,h4,h5⟩:=PS H _ _ _ h1 (fun b hb=>by
   have hb':=hh b (mCM _ hb);have hbj:b.1.1≠j:=fun e=>hne _ (List.mem_cons_self ..) b (mCM _ hb) e.symm
   refine⟨hb'.ne,by simpa using hb'.hi,by simpa using hb'.hj,hb'.ij,?_⟩
   rw [hg _ hbj];split
   ·rename_i he
    rcases hap b hb with h6|h6
    ·exact absurd he h6
    ·exact At.dvg h6 hb'.at'
   ·exact hb'.at') hnd' (fun b hb c hc=>hne b (mCM _ hb) c (mCM _ hc)) hp'
  refine⟨σ3,fun v=>M (Bp a.1 a.2 j v),F',by simpa [List.map_map,Function.comp_def]using h2,by rw [h3];simp,CS.comp (h4.weak fun id q hq=>⟨fun b hb=>hq.1 b (mCM _ hb),fun b hb=>hq.2 b (mCM _ hb)⟩) (Uk fun id q hq=>⟨hq.1 _ (List.mem_cons_self ..),hq.2 _ (List.mem_cons_self ..)⟩),fun i hi'=>?_⟩
  have hij':i≠j:=hi' _ (List.mem_cons_self ..);rw [h5 i fun b hb=>hi' b (mCM _ hb),hg i hij']
  have e:(H.map fun h=>(h.1,((σ.set a.1 (upd a.2 (σ.getD a.1 .dead) (σ.getD j .dead))).set j .dead).getD h.2 .dead))=H.map fun h=>(h.1,σ.getD h.2 .dead):=by
   refine List.map_congr_left fun b hb=>?_
   have hb2:a.1≠b.2:=fun e=>hne b (mCM _ hb) _ (List.mem_cons_self ..) e.symm
   rw [hg _ (hjs b hb),if_neg hb2]
  rw [e];rfl
theorem Pq: ∀ {L:List C4} {a:C4} {i:Nat} {v x:V},a.1=i->(∀b∈L,H5 a b)->upd a.2 (Qp L i v) x=Qp L i (upd a.2 v x)
 | [],_,_,_,_,_,_=>rfl
 |b::L,a,i,v,x,h,hb=>by
  unfold Qp;rw [Pq h fun c hc=>hb c (mCM _ hc)]
  congr 1
  split
  ·rename_i h0
   rcases hb b (List.mem_cons_self ..)with h1|h1
   ·exact absurd (h.trans h0.1.symm) h1
   ·exact Pr _ _ _ _ _ h1
  ·rfl
theorem LN: ∀ {E:List (C4×V)} {i:Nat} {v:V},(E.map (·.1)).Pairwise H5->(∀a∈E,a.1.1=i->a.1.2≠[])->Dn E i (Qp (E.map (·.1)) i v)=Dn E i v
 | [],_,_,_,_=>rfl
 |a::E,i,v,hp,hn=>by
  obtain⟨hap,hp'⟩:=List.pairwise_cons.1 hp;show Dn E i (if a.1.1=i then upd a.1.2 (Qp (E.map (·.1)) i (if a.1.1=i/\a.1.2≠[]then upd a.1.2 v .dead else v)) a.2 else Qp (E.map (·.1)) i (if a.1.1=i/\a.1.2≠[]then upd a.1.2 v .dead else v))=Dn E i (if a.1.1=i then upd a.1.2 v a.2 else v)
  by_cases he:a.1.1=i
  ·rw [if_pos he,if_pos he,if_pos ⟨he,hn a (List.mem_cons_self ..) he⟩,Pq he hap,Kj]
   exact LN hp' fun b hb=>hn b (mCM _ hb)
  ·rw [if_neg he,if_neg he,if_neg (fun h=>he h.1)]
   exact LN hp' fun b hb=>hn b (mCM _ hb)
end Go.Ve


namespace Go.Ve
def FCW(P:Program)(f:FuncId)(args σ0:List V)(rv:Value)(σ1:List V):Prop:=
 ∀ (w:World) (D:Nat->Prop) (ρ:Nat->Value) (F:Nat->Nat->Prop) (cvs:Array Value),Wok w->(∀p,Zx=some p->∀i,¬F i p.1)->Bt σ0 w D ρ F->cvs.size=args.length->(∀i,i<args.length->Rel D w (An σ0 ρ w) (args.getD i .dead) (cvs.getD i undef) noF)->
  Calls P f cvs w fun e w'=>e= .returned rv/\∃ (D':Nat->Prop) (F':Nat->Nat->Prop),Bt σ1 w' D' ρ F'/\Fr w w' (fun b=>∃i,F i b)/\(∀i b,F' i b->(∃j,F j b)\/w.heap.size<=b)/\(∀b,D b->D' b)/\(∀b,D' b->D b\/(∃j,F j b)\/w.heap.size<=b)
theorem Rel.len_eq{D D':Nat->Prop}{w w':World}{sz sz' n n':Nat}{f f':Nat->Nat->V}{cv:Value}{fp fp':Nat->Prop}(h:Rel D w noR (.nd true true sz n f) cv fp)(h':Rel D' w' noR (.nd true true sz' n' f') cv fp'):n=n':=by
 obtain⟨a,c,e⟩:=Rel.sliceLen h;obtain⟨a',c',e'⟩:=Rel.sliceLen h';rw [e]at e';cases e';rfl
theorem Ip: ∀ {E:List (C4×V)} {i:Nat} {v:V},(∀a∈E,a.1.1≠i)->Dn E i v=v
 | [],_,_,_=>rfl
 |a::E,i,v,h=>by
  unfold Dn;rw [if_neg (h a (List.mem_cons_self ..))];exact Ip fun b hb=>h b (mCM _ hb)
theorem KG: ∀ {E:List (C4×V)} {i:Nat} {v x:V},(E.map (·.1)).Pairwise H5->((i,[]),x)∈E->Dn E i v=x
 | [],_,_,_,_,h=>by cases h
 |a::E,i,v,x,hp,h=>by
  obtain⟨hap,hp'⟩:=List.pairwise_cons.1 hp;unfold Dn;rcases List.mem_cons.1 h with rfl|h
  ·rw [if_pos rfl]
   refine Ip fun b hb e=>?_
   rcases hap _ (List.mem_map.2 ⟨b,hb,rfl⟩)with h1|h1
   ·exact h1 e.symm
   ·cases h1
  ·have hne:a.1.1≠i:=fun e=>by
    rcases hap _ (List.mem_map.2 ⟨_,h,rfl⟩)with h1|h1
    ·exact h1 e
    ·rw [Pc]at h1;cases h1
   rw [if_neg hne];exact KG hp' h
theorem IK: ∀ {E:List (C4×V)} {i:Nat} {v:V},(∀a∈E,a.1.1=i->a.1.2≠[])->Dn (E.filter fun a=>!a.1.2.isEmpty) i v=Dn E i v
 | [],_,_,_=>rfl
 |a::E,i,v,h=>by
  have ih:=fun v=>IK (E:=E) (i:=i) (v:=v) fun b hb=>h b (mCM _ hb)
  cases hb:a.1.2.isEmpty with
  |true=>
   have hn:a.1.1≠i:=fun e=>h a (List.mem_cons_self ..) e (List.isEmpty_iff.1 hb)
   rw [List.filter_cons_of_neg (by simp [hb]),ih]
   show _=Dn E i (if a.1.1=i then _ else v)
   rw [if_neg hn]
  |false=>
   rw [List.filter_cons_of_pos (by simp [hb])]
   exact ih _
theorem Yx{P:Program}{C:Ctx}{σ ts:List V}{cts:Array Value}{w:World}{D:Nat->Prop}{ρ:Nat->Value}{F:Nat->Nat->Prop}(h:CR C σ ts cts w D ρ F){f:FuncId}{args:List V}{L:List C4}{rv:Value}{σ1:List V}{cvs:Array Value}
  (hc:FCW P f args (L.map fun a=>sub a.2 (σ.getD a.1 .dead)) rv σ1) (hL: ∀a∈L,a.1<σ.length/\∃sz n f c,At w a.2 (σ.getD a.1 .dead) (ρ a.1) (.nd true true sz n f) c) (hp:L.Pairwise H5) (hl1:σ1.length=L.length)
  (hsz: ∀k,k<L.length->∃sz n n' f f',sub (L.getD k (0,[])).2 (σ.getD (L.getD k (0,[])).1 .dead)= .nd true true sz n f/\σ1.getD k .dead= .nd true true sz n' f')
  (hcs:cvs.size=args.length) (hargs: ∀ (ρ0:Nat->Value) (F0:Nat->Nat->Prop),Bt (L.map fun a=>sub a.2 (σ.getD a.1 .dead)) w D ρ0 F0->(∀k,k<L.length->At w (L.getD k (0,[])).2 (σ.getD (L.getD k (0,[])).1 .dead) (ρ (L.getD k (0,[])).1) (sub (L.getD k (0,[])).2 (σ.getD (L.getD k (0,[])).1 .dead)) (ρ0 k))->
   ∀i,i<args.length->Rel D w (An (L.map fun a=>sub a.2 (σ.getD a.1 .dead)) ρ0 w) (args.getD i .dead) (cvs.getD i undef) noF):
  Calls P f cvs w fun e w'=>e= .returned rv/\∃ (σ3:List V) (M:V->V),Xg C σ3 (ts.map M) cts w'/\σ.length<=σ3.length/\CS M (Off L σ.length)/\(∀i,i<σ.length->σ3.getD i .dead=Dn (L.zip σ1) i (σ.getD i .dead))/\
   ∀k,k<L.length->∃sz n f f',sub (L.getD k (0,[])).2 (σ.getD (L.getD k (0,[])).1 .dead)= .nd true true sz n f/\σ1.getD k .dead= .nd true true sz n f':=by
 obtain⟨σc,ρc,Fc,J,M,hcr,hk,hM,hcv⟩:=Pe L σ ts ρ F h hL hp;have hmemL: ∀k,k<L.length->L.getD k (0,[])∈L:=fun k hk=>by simp [hk]
 have hJl: ∀j∈J,j<σc.length:=by
  intro j hj;obtain⟨k,hk1,rfl⟩:=List.getElem_of_mem hj;have:=(hk.j k (by rw [<-hk.jl];exact hk1)).1
  simpa [hk1]using this
 have hinj: ∀k k',k<L.length->k'<L.length->J.getD k 0=J.getD k' 0->k=k':=fun k k' h1 h2 he=>by
  rw [<-hk.jl]at h1 h2;simp only [gDE,gEE h1,gEE h2,Option.getD_some]at he;rcases Nat.lt_trichotomy k k' with hlt|heq|hlt
  ·exact absurd he (List.pairwise_iff_getElem.1 hk.nd k k' h1 h2 hlt)
  ·exact heq
  ·exact absurd he.symm (List.pairwise_iff_getElem.1 hk.nd k' k h2 h1 hlt)
 have hg0: ∀k,k<L.length->(L.map fun a=>sub a.2 (σ.getD a.1 .dead)).getD k .dead=sub (L.getD k (0,[])).2 (σ.getD (L.getD k (0,[])).1 .dead):=fun k hk=>by simp [hk]
 have wr0:Bt (L.map fun a=>sub a.2 (σ.getD a.1 .dead)) w D (fun k=>ρc (J.getD k 0)) (fun k b=>k<L.length/\Fc (J.getD k 0) b):=by
  refine⟨fun i hi=>?_,fun i j b hij hb hb'=>?_,fun i b hb=>hcr.wr.dD _ b hb.2,hcr.wr.Dlt,fun i b hi hb=>?_⟩
  ·have hi:i<L.length:=by simpa using hi
   rw [hg0 i hi];obtain⟨h1,h2⟩:=hk.j i hi;rw [<-h2];exact Rel.fp_congr (fun b=>⟨fun hb=>⟨hi,hb⟩,fun hb=>hb.2⟩) (hcr.wr.rel _ h1)
  ·exact hcr.wr.disj _ _ b (fun e=>hij (hinj i j hb.1 hb'.1 e)) hb.2 hb'.2
  ·have:=hb.1;simp at hi;omega
 refine(hc w D _ _ cvs hcr.ok (fun p hp i hF=>(hcr.Fn _ _ hF.2).elim (C.ok.2 p hp) fun hle=>by have:=C.ok.1.lt hp;omega) wr0 hcs (hargs _ _ wr0 hk.val)).mono fun e w' hpost=>?_
 obtain⟨rfl,D',F1,wr1,hfr,hF1,hD1,hD2⟩:=hpost;refine⟨rfl,?_⟩;have hG: ∀b,(∃i,i<L.length/\Fc (J.getD i 0) b)->∃j∈J,Fc j b:=fun b ⟨i,hi,hb⟩=>⟨J.getD i 0,by rw [<-hk.jl]at hi;simp [hi],hb⟩
 have hfr':Fr w w' (fun b=>∃j∈J,Fc j b):=⟨hfr.os,hfr.tape,hfr.output,hfr.size,fun b hb hn=>hfr.block b hb fun hx=>hn (hG b hx),hfr.drawn⟩
 have hlen: ∀k,k<L.length->∃sz n f f',sub (L.getD k (0,[])).2 (σ.getD (L.getD k (0,[])).1 .dead)= .nd true true sz n f/\σ1.getD k .dead= .nd true true sz n f':=by
  intro k hkl;obtain⟨sz,n,n',f1,f2,g1,g2⟩:=hsz k hkl;obtain⟨h1,h2⟩:=hk.j k hkl;have r1:=hcr.wr.rel _ h1;rw [h2,g1]at r1;have r2:=wr1.rel k (by omega)
  rw [g2]at r2;have:=Rel.len_eq r1 r2;subst this;exact⟨sz,n,f1,f2,g1,g2⟩
 obtain⟨Fd,hsw⟩:=hcr.swap hk.nd hJl (by rw [hl1,hk.jl]) wr1 hfr' (fun i b hb=>(hF1 i b hb).imp (hG b) id) hD1 (fun b hb=>(hD2 b hb).imp id fun h=>h.imp (hG b) id) (fun k hkl=>by
  rw [hk.jl]at hkl;obtain⟨sz,n,f1,f2,g1,g2⟩:=hlen k hkl;exact⟨sz,n,f1,f2,by rw [(hk.j k hkl).2,g1],g2⟩)
 -- the holes
 have hparJ: ∀a∈L,a.2≠[]->a.1∉J:=by
  intro a ha hne hj;obtain⟨k,hk1,hk2⟩:=List.getElem_of_mem hj;have hkL:k<L.length:=by rw [<-hk.jl];exact hk1
  have e:J.getD k 0=a.1:=by simp [hk1,hk2]
  by_cases h0:(L.getD k (0,[])).2= []
  ·have h1:=hk.rt k hkL h0
   obtain⟨k',hk',rfl⟩:=List.getElem_of_mem ha;have e2:(L.getD k (0,[])).1=L[k'].1:=by omega
   have e3:L.getD k (0,[])=L[k]:=by simp [hkL]
   rw [e3]at e2 h0;rcases Nat.lt_trichotomy k k' with hlt|heq|hlt
   ·rcases List.pairwise_iff_getElem.1 hp k k' hkL hk' hlt with h2|h2
    ·exact h2 e2
    ·rw [h0]at h2;cases h2
   ·subst heq;exact hne h0
   ·rcases List.pairwise_iff_getElem.1 hp k' k hk' hkL hlt with h2|h2
    ·exact h2 e2.symm
    ·rw [h0,Pc]at h2;cases h2
  ·have:=(hk.pt k hkL h0).1
   have:=(hL a ha).1;omega
 have hzip: ∀h∈(L.zip J).filter (fun h=>!h.1.2.isEmpty),∃k,k<L.length/\h.1=L.getD k (0,[])/\h.2=J.getD k 0/\h.1.2≠[]:=by
  intro h hh;obtain⟨h1,h2⟩:=List.mem_filter.1 hh;obtain⟨k,hk1,rfl⟩:=List.getElem_of_mem h1;have hkL:k<L.length:=by simp at hk1;omega
  have hkJ:k<J.length:=by rw [hk.jl];exact hkL
  refine⟨k,hkL,by simp [hkL],by simp [hkJ],fun h0=>?_⟩
  rw [h0]at h2;cases h2
 have hsub2:((L.zip J).filter (fun h=>!h.1.2.isEmpty)).Sublist (L.zip J):=List.filter_sublist
 have hzl:(L.zip J).map (·.1)=L:=List.map_fst_zip (by have:=hk.jl;omega)
 have hzr:(L.zip J).map (·.2)=J:=List.map_snd_zip (by have:=hk.jl;omega)
 obtain⟨σ3,M3,F3,h3,hl3,hM3,hv3⟩:=PS ((L.zip J).filter fun h=>!h.1.2.isEmpty) _ _ _ hsw (fun a ha=>by
   obtain⟨k,hkL,e1,e2,hne⟩:=hzip a ha;obtain⟨_,ho⟩:=hk.pt k hkL (by rw [<-e1];exact hne)
   rw [<-e1,<-e2]at ho;have hnJ:a.1.1∉J:=hparJ a.1 (by rw [e1];exact hmemL k hkL) hne
   refine⟨ho.ne,by rw [BU];exact ho.hi,by rw [BU];exact ho.hj,ho.ij,?_⟩
   rw [Dj J σ1 σc _ hnJ];refine At.same (hcr.wr.rel _ ho.hi) ho.at' fun b hb=>hfr'.block b (hcr.wr.lt _ b hb) fun⟨j,hj,hF⟩=>hcr.wr.disj a.1.1 j b (fun e=>hnJ (by rw [e];exact hj)) hb hF)
  (List.Nodup.sublist (hsub2.map (·.2)) (by rw [hzr];exact hk.nd))
  (fun a ha b hb=>by
   obtain⟨k,hkL,e1,e2,hne⟩:=hzip a ha;obtain⟨k',hkL',e1',e2',hne'⟩:=hzip b hb;have h1:=(hk.pt k hkL (by rw [<-e1];exact hne)).1
   have h2:=(hL b.1 (by rw [e1'];exact hmemL k' hkL')).1
   omega)
  (by
   have h1:((L.zip J).map (·.1)).Pairwise H5:=by rw [hzl];exact hp
   exact List.Pairwise.sublist hsub2 (List.pairwise_map.1 h1))
 refine⟨σ3,fun v=>M3 (JG J (M v)),⟨_,_,_,by simpa [List.map_map,Function.comp_def]using h3⟩,by rw [hl3,BU];exact hk.len,?_,fun i hi=>?_,hlen⟩
 ·refine CS.comp (hM3.weak fun id q hq=>⟨fun a ha=>?_,fun a ha h0=>?_⟩) (CS.comp (Uq fun id q hq h0=>?_) hM)
  ·obtain⟨k,hkL,e1,e2,hne⟩:=hzip a ha
   have h1:=(hk.pt k hkL (by rw [<-e1];exact hne)).1
   have:=hq.1;omega
  ·obtain⟨k,hkL,e1,e2,hne⟩:=hzip a ha
   rcases hq.2 a.1 (by rw [e1];exact hmemL k hkL) h0.1.symm with h1|h1
   ·exact hne h1.1
   ·rw [h0.2]at h1;cases h1.2
  ·obtain⟨k,hk1,hk2⟩:=List.getElem_of_mem h0.1
   have hkL:k<L.length:=by rw [<-hk.jl];exact hk1
   have e:J.getD k 0=id:=by simp [hk1,hk2]
   by_cases h1:(L.getD k (0,[])).2= []
   ·have h2:=hk.rt k hkL h1
    rcases hq.2 _ (hmemL k hkL) (by omega)with h3|h3
    ·exact h0.2 h3.2
    ·exact h3.1 h1
   ·have:=(hk.pt k hkL h1).1
    have:=hq.1;omega
 ·rw [hv3 i fun a ha=>by
   obtain⟨k,hkL,e1,e2,hne⟩:=hzip a ha;have h1:=(hk.pt k hkL (by rw [<-e1];exact hne)).1
   omega]
  have hmapJ:J.map (fun j=>(Ji J σ1 σc).getD j .dead)=σ1:=by
   apply List.ext_getElem
   ·simp [hl1,hk.jl]
   ·intro k h1 h2
    have hkJ:k<J.length:=by simpa using h1
    have:=DW J σ1 σc k hk.nd (by rw [hl1,hk.jl]) hJl hkJ
    simp only [List.getElem_map];have e:J.getD k 0=J[k]:=by simp [hkJ]
    rw [e]at this;rw [this];simp [h2]
  have hmapE:((L.zip J).filter fun h=>!h.1.2.isEmpty).map (fun h=>(h.1,(Ji J σ1 σc).getD h.2 .dead))=(L.zip σ1).filter fun a=>!a.1.2.isEmpty:=by
   rw [<-hmapJ,List.zip_map_right,List.filter_map];simp only [Function.comp_def,hmapJ];rfl
  rw [hmapE];have hE1:(L.zip σ1).map (·.1)=L:=List.map_fst_zip (by omega)
  have hpE:((L.zip σ1).map (·.1)).Pairwise H5:=by rw [hE1];exact hp
  by_cases hroot: ∃k,k<L.length/\L.getD k (0,[])=(i,[])
  ·obtain⟨k,hkL,he⟩:=hroot
   have hmem:((i,([]:List (Nat×Nat))),σ1.getD k .dead)∈L.zip σ1:=by
    have e1:L[k]=(i,[]):=by rw [<-he];simp [hkL]
    have hk1:k<σ1.length:=by omega
    have e2:(L.zip σ1)[k]'(by simp;omega)=((i,[]),σ1.getD k .dead):=by
     rw [List.getElem_zip,e1];simp [hk1]
    rw [<-e2];exact List.getElem_mem _
   rw [KG hpE hmem];have hJk:J.getD k 0=i:=by
    have:=hk.rt k hkL (by rw [he])
    rw [he]at this;exact this
   rw [Ip]
   ·have:=DW J σ1 σc k hk.nd (by rw [hl1,hk.jl]) hJl (by rw [hk.jl];exact hkL)
    rw [hJk]at this;exact this
   ·intro a ha e
    obtain⟨h1,h2⟩:=List.mem_filter.1 ha;have h3:a.1∈L:=by rw [<-hE1];exact List.mem_map.2 ⟨a,h1,rfl⟩
    have h4:a.1.2≠[]:=fun h0=>by rw [h0]at h2;cases h2
    exact hparJ a.1 h3 h4 (by rw [e,<-hJk];rw [<-hk.jl]at hkL;simp [hkL])
  ·have hnr: ∀a∈L,a.1=i->a.2≠[]:=by
    intro a ha h1 h2;obtain⟨k,hkL,rfl⟩:=List.getElem_of_mem ha;exact hroot ⟨k,hkL,by simp only [gDE,gEE hkL,Option.getD_some];rw [<-h1,<-h2]⟩
   have hnrE: ∀a∈L.zip σ1,a.1.1=i->a.1.2≠[]:=fun a ha=>hnr a.1 (by rw [<-hE1];exact List.mem_map.2 ⟨a,ha,rfl⟩)
   rw [IK hnrE];have hiJ:i∉J:=by
    intro hj;obtain⟨k,hk1,hk2⟩:=List.getElem_of_mem hj;have hkL:k<L.length:=by rw [<-hk.jl];exact hk1
    have e:J.getD k 0=i:=by simp [hk1,hk2]
    by_cases h0:(L.getD k (0,[])).2= []
    ·have h1:=hk.rt k hkL h0
     exact hnr _ (hmemL k hkL) (by omega) h0
    ·have:=(hk.pt k hkL h0).1
     omega
   rw [Dj J σ1 σc i hiJ,hcv i hi];have:=LN (v:=σ.getD i .dead) hpE hnrE;rw [hE1]at this;exact this
end Go.Ve

