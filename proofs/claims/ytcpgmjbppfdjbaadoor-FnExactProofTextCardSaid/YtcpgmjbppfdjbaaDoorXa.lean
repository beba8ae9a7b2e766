/- Parts of trees are handed to a callee that writes them: they are cut out, and put back. -/
import Derived.Test.YtcpgmjbppfdjbaaDoorVy
namespace Go.Ve
variable{p:List (Nat×Nat)}{S:Nat->List (Nat×Nat)->Prop}{M:V->V}
def dvP:List (Nat×Nat)->List (Nat×Nat)->Bool
 |(_,k)::p,(_,l)::q=>!Nat.beq k l||dvP p q
 |_,_=>false
theorem P9: ∀ {p q:List (Nat×Nat)},dvP p q=true->dvP q p=true
 |(_,k)::p,(_,l)::q,h=>by
  simp [dvP,Bool.not_eq_true']at h⊢;rcases h with h|h
  ·left
   cases hb:Nat.beq l k with
   |false=>rfl
   |true=>simp_all
  ·exact .inr (P9 h)
 | [],_,h=>by cases h
 |_::_,[],h=>by cases h
theorem WD:dvP p []=false:=by cases p<;>rfl
theorem Kh{i k:Nat}{s o:Bool}{sz n:Nat}{f:Nat->Nat->V}{x:V}:upd ((i,k)::p) (.nd s o sz n f) x= .nd s o sz n λi' k'=>if i'=i/\k'=k then upd p (f i k) x else f i' k':=rfl
theorem HG: ∀ (p:List (Nat×Nat)) (v x y:V),upd p (upd p v x) y=upd p v y
 | [],_,_,_=>rfl
 |(i,k)::p,v,x,y=>by
  cases v with
  |nd s o sz n f=>
   rw [Kh,Kh]
   congr 1
   funext i' k'
   by_cases h:i'=i/\k'=k
   ·simp [h,if_true];exact HG p _ _ _
   grind
  |_=>rfl
theorem Ph: ∀ (p q:List (Nat×Nat)) (v x y:V),dvP p q=true->upd p (upd q v x) y=upd q (upd p v y) x
 |(i,k)::p,(j,l)::q,v,x,y,h=>by
  cases v with
  |nd s o sz n f=>
   rw [Kh,Kh,Kh,Kh]
   congr 1
   funext i' k'
   by_cases h1:i'=i/\k'=k<;>by_cases h2:i'=j/\k'=l
   ·obtain⟨rfl,rfl⟩:=h1
    obtain⟨rfl,rfl⟩:=h2;have h:=by
     simpa [dvP,Nat.beq_refl]using h
    simp only [if_true];exact Ph p q _ _ _ h
   ·grind
   ·grind
   grind
  |_=>rfl
 | [],_,_,_,_,h=>by cases h
 |_::_,[],_,_,_,h=>by cases h
theorem Sub.upd: ∀ (p:List (Nat×Nat)) {v v' x:V},Sub v v'->Sub (Go.Ve.upd p v x) (Go.Ve.upd p v' x)
 | [],_,_,_,_=>Sub.refl _
 |(i,k)::p,v,v',x,h=>by
  cases v with
  |nd s o sz n f=>
   obtain⟨g,rfl,hg⟩:=h;refine⟨_,rfl,λi' k' hi hk=>?_⟩
   by_cases h1:i'=i/\k'=k
   ·obtain⟨rfl,rfl⟩:=h1
    simp [if_true];exact Sub.upd p (hg _ _ hi hk)
   grind
  |c v=>
   rcases h with rfl|⟨rfl,own,sz,f,rfl⟩
   ·exact Sub.refl _
   ·exact .inr ⟨rfl,own,sz,_,rfl⟩
  |dead=>cases h;rfl
  |many t n f=>obtain⟨g,rfl,hg⟩:=h;exact⟨g,rfl,hg⟩
  |rs=>cases h;rfl
  |rp=>cases h;rfl
theorem At.dvg{w:World}{x:V}: ∀ {p q:List (Nat×Nat)} {v:V} {cv:Value} {v1:V} {c1:Value},dvP p q=true->At w q v cv v1 c1->At w q (upd p v x) cv v1 c1
 |(i,k)::p,(j,l)::q,v,cv,v1,c1,h,ha=>by
  match v,ha with
  | .nd s true sz n f,ha=>
   obtain⟨h1,h2,b,o,cap,y,h3,h4,h5⟩:=ha;refine⟨h1,h2,b,o,cap,y,h3,h4,?_⟩;by_cases he:j=i/\l=k
   ·obtain⟨rfl,rfl⟩:=he
    have h:=by simpa [dvP,Nat.beq_refl]using h
    simp [if_true];exact At.dvg h h5
   grind
 | [],_,_,_,_,_,h,_=>by cases h
 |_::_,[],_,_,_,_,h,_=>by cases h
theorem At.cut{w:World}: ∀ {p:List (Nat×Nat)} {v:V} {cv:Value} {v1:V} {c1:Value},At w p v cv v1 c1->At w p (upd p v .dead) cv .dead c1
 | [],_,_,_,_,ha=>⟨rfl,ha.2⟩
 |(i,k)::p,v,cv,v1,c1,ha=>by
  match v,ha with
  | .nd s true sz n f,ha=>
   obtain⟨h1,h2,b,o,cap,y,h3,h4,h5⟩:=ha;exact⟨h1,h2,b,o,cap,y,h3,h4,by simp [if_true];exact At.cut h5⟩
structure Cx(M:V->V)(S:Nat->List (Nat×Nat)->Prop):Prop where
 m:A2 M
 rs: ∀id q off len,S id q->M (.rs id q off len)= .rs id q off len
 rp: ∀id q i k,S id q->M (.rp id q i k)= .rp id q i k
theorem Cx.idf:Cx (λv=>v) S:=⟨⟨λ_=>rfl,rfl,λ_ _ _ _ _=>rfl,λ_ _ _=>rfl⟩,λ_ _ _ _ _=>rfl,λ_ _ _ _ _=>rfl⟩
theorem Cx.comp{N:V->V}(hM:Cx M S)(hN:Cx N S):Cx (λv=>M (N v)) S:=
 ⟨⟨λv=>by rw [hN.m.c,hM.m.c],by rw [hN.m.dead,hM.m.dead],λs own sz n f=>by rw [hN.m.nd,hM.m.nd],λt n f=>by rw [hN.m.many,hM.m.many]⟩,
  λid q off len h=>by rw [hN.rs id q off len h,hM.rs id q off len h],λid q i k h=>by rw [hN.rp id q i k h,hM.rp id q i k h]⟩
theorem Cx.weak{S':Nat->List (Nat×Nat)->Prop}(hM:Cx M S)(h: ∀id q,S' id q->S id q):Cx M S':=
 ⟨hM.m,λid q off len hs=>hM.rs id q off len (h id q hs),λid q i k hs=>hM.rp id q i k (h id q hs)⟩
abbrev CP:=Nat×List (Nat×Nat)
def Hz(a b:CP):Prop:=a.1≠b.1\/dvP a.2 b.2=true
def Off(L:List CP)(N:Nat)(id:Nat)(q:List (Nat×Nat)):Prop:=id<N/\∀a∈L,a.1=id->(a.2= []/\q= [])\/(a.2≠[]/\AW a.2 q=false)
structure W4(w:World)(σ:List V)(ρ:Nat->Value)(a:CP)(j:Nat):Prop where
 ne:a.2≠[]
 hi:a.1<σ.length
 hj:j<σ.length
 ij:j≠a.1
 at':At w a.2 (σ.getD a.1 .dead) (ρ a.1) .dead (ρ j)
structure CutOK(w:World)(σ σc:List V)(ρ ρc:Nat->Value)(L:List CP)(J:List Nat):Prop where
 len:σ.length<=σc.length
 jl:J.length=L.length
 old: ∀i,i<σ.length->ρc i=ρ i
 nd:J.Nodup
 j: ∀k,k<L.length->J.getD k 0<σc.length/\σc.getD (J.getD k 0) .dead=sub (L.getD k (0,[])).2 (σ.getD (L.getD k (0,[])).1 .dead)
 rt: ∀k,k<L.length->(L.getD k (0,[])).2= []->J.getD k 0=(L.getD k (0,[])).1
 pt: ∀k,k<L.length->(L.getD k (0,[])).2≠[]->σ.length<=J.getD k 0/\W4 w σc ρc (L.getD k (0,[])) (J.getD k 0)
 val: ∀k,k<L.length->At w (L.getD k (0,[])).2 (σ.getD (L.getD k (0,[])).1 .dead) (ρ (L.getD k (0,[])).1) (sub (L.getD k (0,[])).2 (σ.getD (L.getD k (0,[])).1 .dead)) (ρc (J.getD k 0))
def Qe(L:List CP)(i:Nat)(v:V):V:=match L with
 | []=>v
 |a::L=>Qe L i (if a.1=i/\a.2≠[]then upd a.2 v .dead else v)
theorem XG{id N:Nat}(h: ∀id' q,S id' q->¬ (id'=id/\AW p q=true)):Cx (rrV id p N) S:=
 ⟨CL id p N,λid' q off len hs=>by unfold rrV;grind,λid' q i k hs=>by unfold rrV;grind⟩
theorem At.det{w:World}: ∀ {p:List (Nat×Nat)} {v:V} {cv:Value} {v1 v2:V} {c1 c2:Value},At w p v cv v1 c1->At w p v cv v2 c2->c1=c2
 | [],_,_,_,_,_,_,h,h'=>h.2.trans h'.2.symm
 |(i,k)::p,v,cv,v1,v2,c1,c2,h,h'=>by
  match v,h,h' with
  | .nd s true sz n f,h,h'=>
   obtain⟨_,_,b,o,cap,y,h3,h4,h5⟩:=h;obtain⟨_,_,b',o',cap',y',h3',h4',h5'⟩:=h';obtain⟨rfl,rfl,_⟩:=Ap (h3.symm.trans h3');obtain rfl:y=y':=Option.some.inj (h4.symm.trans h4');exact At.det h5 h5'
theorem JQ: ∀ {L:List CP} {i:Nat} {v:V},(∀a∈L,a.1=i->a.2= [])->Qe L i v=v
 | [],_,_,_=>rfl
 |a::L,i,v,h=>by
  unfold Qe;rw [if_neg (λh0=>h0.2 (h a (List.mem_cons_self ..) h0.1))]
  exact JQ λb hb=>h b (mCM _ hb)
theorem WF{w:World}{q:List (Nat×Nat)}{cv:Value}{v1:V}{c1:Value}: ∀ {L:List CP} {i:Nat} {v:V},(∀a∈L,Hz (i,q) a)->At w q v cv v1 c1->At w q (Qe L i v) cv v1 c1
 | [],_,_,_,h=>h
 |a::L,i,v,h,ha=>by
  unfold Qe;refine WF (λb hb=>h b (mCM _ hb)) ?_
  split
  ·rcases h a (List.mem_cons_self ..)with h1|h1
   ·omega
   ·exact At.dvg (P9 h1) ha
  grind
theorem O3{C:Ctx}{cts:Array Value}{w:World}{D:Nat->Prop}: ∀ (L:List CP) (σ ts:List V) (ρ:Nat->Value) (F:Nat->Nat->Prop),CR C σ ts cts w D ρ F->
  (∀a∈L,a.1<σ.length/\∃sz n f c,At w a.2 (σ.getD a.1 .dead) (ρ a.1) (.nd true true sz n f) c)->L.Pairwise Hz->
  ∃ (σc:List V) (ρc:Nat->Value) (Fc:Nat->Nat->Prop) (J:List Nat) (M:V->V),CR C σc (ts.map M) cts w D ρc Fc/\CutOK w σ σc ρ ρc L J/\Cx M (Off L σ.length)/\(∀i,i<σ.length->σc.getD i .dead=Qe L i (σ.getD i .dead))
 | [],σ,ts,ρ,F,h,_,_=>by
  have e:ts.map (λv=>v)=ts:=by simp
  refine⟨σ,ρ,F,[],λv=>v,by rw [e];exact h,⟨Nat.le_refl _,rfl,λ_ _=>rfl,List.nodup_nil,λk hk=>by simp at hk,λk hk=>by simp at hk,λk hk=>by simp at hk,λk hk=>by simp at hk⟩,Cx.idf,λi hi=>rfl⟩
 |(id,p)::L,σ,ts,ρ,F,h,hL,hp=>by
  obtain⟨hid,sz,n,f,c,hat⟩:=hL _ (List.mem_cons_self ..);obtain⟨hap,hp'⟩:=List.pairwise_cons.1 hp;simp only at hid hat;have hLl: ∀a∈L,a.1<σ.length:=λa ha=>(hL a (mCM _ ha)).1
  by_cases hpn:p= []
  ·subst hpn
   obtain⟨σc,ρc,Fc,J,M,hcr,hc,hM,hcv⟩:=O3 L σ ts ρ F h (λa ha=>hL a (mCM _ ha)) hp'
   have hne: ∀a∈L,a.1≠id:=λa ha=>by
    rcases hap a ha with h1|h1
    ·exact Ne.symm h1
    ·cases h1
   have hcid:σc.getD id .dead=σ.getD id .dead:=by
    rw [hcv id hid];exact JQ λa ha h1=>absurd h1 (hne a ha)
   have hjn:id∉J:=by
    intro hj;obtain⟨k,hk,hk2⟩:=List.getElem_of_mem hj;have hkL:k<L.length:=by rw [<-hc.jl];exact hk
    have e:J.getD k 0=id:=by simp [hk,hk2]
    have hmem:L.getD k (0,[])∈L:=by simp [hkL]
    by_cases h0:(L.getD k (0,[])).2= []
    ·have:=hc.rt k hkL h0
     exact hne _ hmem (by omega)
    ·have:=(hc.pt k hkL h0).1
     omega
   refine⟨σc,ρc,Fc,id::J,M,hcr,⟨hc.len,by simp [hc.jl],hc.old,List.nodup_cons.2 ⟨hjn,hc.nd⟩,λk hk=>?_,λk hk=>?_,λk hk=>?_,λk hk=>?_⟩,hM.weak λid' q hq=>⟨hq.1,λa ha=>hq.2 a (mCM _ ha)⟩,λi hi=>?_⟩
   ·cases k with
    |zero=>exact⟨Nat.lt_of_lt_of_le hid hc.len,hcid⟩
    |succ k=>simpa using hc.j k (by simpa using hk)
   ·cases k with
    |zero=>intro _;rfl
    |succ k=>simpa using hc.rt k (by simpa using hk)
   ·cases k with
    |zero=>intro h0;exact absurd rfl h0
    |succ k=>simpa using hc.pt k (by simpa using hk)
   ·cases k with
    |zero=>
     show At w [] (σ.getD id .dead) (ρ id) (σ.getD id .dead) (ρc id);exact⟨rfl,hc.old id hid⟩
    |succ k=>simpa using hc.val k (by simpa using hk)
   ·show σc.getD i .dead=Qe L i (if id=i/\([]:List (Nat×Nat))≠[]then _ else σ.getD i .dead)
    rw [if_neg (λh=>h.2 rfl)]
    exact hcv i hi
  obtain⟨ρ1,F1,hcr1,hr1,hr2,_⟩:=h.reroot hid hat;have hsub:sub p (σ.getD id .dead)= .nd true true sz n f:=(At.sub hat).symm;generalize hσ1:σ.set id (upd p (σ.getD id .dead) .dead)++ [sub p (σ.getD id .dead)]=σ1 at hcr1;have hl1:σ1.length=σ.length+1:=by rw [<-hσ1];simp
  have hg: ∀i,i<σ.length->σ1.getD i .dead=if i=id then upd p (σ.getD id .dead) .dead else σ.getD i .dead:=by
   intro i hi;rw [<-hσ1,Aw (by simpa using hi)]
   by_cases he:i=id
   ·subst he;rw [Af hi,if_pos rfl]
   ·rw [Ad (Ne.symm he),if_neg he]
  have hgN:σ1.getD σ.length .dead=sub p (σ.getD id .dead):=by rw [<-hσ1];simp
  -- what lies elsewhere lies there still
  have hkeep: ∀a∈L,∀v1 c1,At w a.2 (σ.getD a.1 .dead) (ρ a.1) v1 c1->At w a.2 (σ1.getD a.1 .dead) (ρ1 a.1) v1 c1:=by
   intro a ha v1 c1 hA;rw [hg a.1 (hLl a ha),hr2 a.1 (hLl a ha)];split
   ·rename_i he
    rw [he]at hA⊢;rcases hap a ha with h1|h1
    ·exact absurd he.symm h1
    ·exact At.dvg h1 hA
   ·exact hA
  obtain⟨σc,ρc,Fc,J,M,hcr,hc,hM,hcv⟩:=O3 L _ _ _ _ hcr1 (λa ha=>by
   obtain⟨h1,sz',n',f',c',h2⟩:=hL a (mCM _ ha);exact⟨by omega,sz',n',f',c',hkeep a ha _ _ h2⟩) hp'
  have hlen:=hc.len;have hNJ:σ.length∉J:=by
   intro hj;obtain⟨k,hk,hk2⟩:=List.getElem_of_mem hj;have hkL:k<L.length:=by rw [<-hc.jl];exact hk
   have e:J.getD k 0=σ.length:=by simp [hk,hk2]
   have hmem:L.getD k (0,[])∈L:=by simp [hkL]
   by_cases h0:(L.getD k (0,[])).2= []
   ·have:=hc.rt k hkL h0
    have:=hLl _ hmem;omega
   ·have:=(hc.pt k hkL h0).1
    omega
  have hρid:ρc id=ρ id:=(hc.old id (by omega)).trans (hr2 id hid)
  have hρN:ρc σ.length=c:=(hc.old _ (by omega)).trans hr1
  have hmemL: ∀k,k<L.length->L.getD k (0,[])∈L:=λk hk=>by simp [hk]
  refine⟨σc,ρc,Fc,σ.length::J,λv=>M (rrV id p σ.length v),by simpa [List.map_map,Function.comp_def]using hcr,⟨by omega,by simp [hc.jl],λi hi=>(hc.old i (by omega)).trans (hr2 i hi),List.nodup_cons.2 ⟨hNJ,hc.nd⟩,λk hk=>?_,λk hk=>?_,λk hk=>?_,λk hk=>?_⟩,Cx.comp (hM.weak λid' q hq=>⟨by have:=hq.1;omega,λa ha=>hq.2 a (mCM _ ha)⟩) (XG λid' q hq h0=>?_),λi hi=>?_⟩
  ·cases k with
   |zero=>
    refine⟨by show σ.length<_;omega,?_⟩
    show σc.getD σ.length .dead=sub p (σ.getD id .dead);rw [hcv _ (by omega),JQ (λa ha h1=>by have:=hLl a ha;omega),hgN]
   |succ k=>
    have hk:k<L.length:=by simpa using hk
    obtain⟨h1,h2⟩:=hc.j k hk;refine⟨by simpa using h1,?_⟩
    obtain⟨_,sz',n',f',c',h3⟩:=hL _ (mCM _ (hmemL k hk));have h4:=At.sub (hkeep _ (hmemL k hk) _ _ h3);have h5:=At.sub h3;simp only [List.getD_cons_succ];rw [h2,<-h4,h5]
  ·cases k with
   |zero=>intro h0;exact absurd h0 hpn
   |succ k=>simpa using hc.rt k (by simpa using hk)
  ·cases k with
   |zero=>
    intro _;refine⟨Nat.le_refl _,hpn,by show id<_;omega,by show σ.length<_;omega,by show σ.length≠id;omega,?_⟩
    show At w p (σc.getD id .dead) (ρc id) .dead (ρc σ.length);rw [hρid,hρN,hcv id (by omega),hg id hid,if_pos rfl]
    exact WF (λa ha=>hap a ha) (At.cut hat)
   |succ k=>
    intro h0;have h1:=hc.pt k (by simpa using hk) (by simpa using h0)
    refine⟨?_,by simpa using h1.2⟩
    have:=h1.1;simp only [List.getD_cons_succ];omega
  ·cases k with
   |zero=>
    show At w p (σ.getD id .dead) (ρ id) (sub p (σ.getD id .dead)) (ρc σ.length);rw [hρN,hsub];exact hat
   |succ k=>
    have hk:k<L.length:=by simpa using hk
    simp only [List.getD_cons_succ];obtain⟨_,sz',n',f',c',h3⟩:=hL _ (mCM _ (hmemL k hk));have h4:=hkeep _ (hmemL k hk) _ _ h3;have h5:=At.det h4 (hc.val k hk);rw [<-h5,<-At.sub h3];exact h3
  ·have h1:=hq.2 _ (List.mem_cons_self ..) h0.1.symm
   rcases h1 with h1|h1
   ·exact hpn h1.1
   ·rw [h0.2]at h1;cases h1.2
  ·rw [hcv i (by omega),hg i hi]
   show _=Qe L i (if id=i/\p≠[]then upd p (σ.getD i .dead) .dead else σ.getD i .dead)
   by_cases he:i=id
   ·subst he
    rw [if_pos rfl,if_pos ⟨rfl,hpn⟩]
   ·rw [if_neg he,if_neg (λh0=>he h0.1.symm)]
end Go.Ve


namespace Go.Ve
variable{cts:Array Value}{C:Ctx}{J:List Nat}{ts σ:List V}{j:Nat}{S:Nat->List (Nat×Nat)->Prop}{F:Nat->Nat->Prop}{D:Nat->Prop}{ρ:Nat->Value}{w:World}
def JB(J:List Nat):V->V
 | .rs id q off len=>if id∈J/\q≠[]then .dead else .rs id q off len
 | .rp id q i k=>if id∈J/\q≠[]then .dead else .rp id q i k
 | .many t n f=>.many t n λk=>JB J (f k)
 |v=>v
theorem NE(J:List Nat):A2 (JB J):=⟨λ_=>rfl,rfl,λ_ _ _ _ _=>rfl,λ_ _ _=>rfl⟩
theorem Uk(h: ∀id q,S id q->¬ (id∈J/\q≠[])):Cx (JB J) S:=
 ⟨NE J,λid q off len hs=>by unfold JB;grind,λid q i k hs=>by unfold JB;grind⟩
def J6:List Nat->List V->List V->List V
 |j::J,v::vs,σ=>J6 J vs (σ.set j v)
 |_,_,σ=>σ
theorem BI: ∀ (J:List Nat) (vs σ:List V),(J6 J vs σ).length=σ.length
 |j::J,v::vs,σ=>by show(J6 J vs (σ.set j v)).length=_;rw [BI];simp
 | [],_,σ=>rfl
 |_::_,[],σ=>rfl
theorem CZ: ∀ (J:List Nat) (vs σ:List V) (i:Nat),i∉J->(J6 J vs σ).getD i .dead=σ.getD i .dead
 |j::J,v::vs,σ,i,h=>by
  simp [not_or]at h;show(J6 J vs (σ.set j v)).getD i .dead=_;rw [CZ J vs _ i h.2,Ad (Ne.symm h.1)]
 | [],_,σ,_,_=>rfl
 |_::_,[],σ,_,_=>rfl
theorem DB: ∀ (J:List Nat) (vs σ:List V) (k:Nat),J.Nodup->vs.length=J.length->(∀j∈J,j<σ.length)->k<J.length->(J6 J vs σ).getD (J.getD k 0) .dead=vs.getD k .dead
 |j::J,v::vs,σ,k,hn,hl,hj,hk=>by
  obtain⟨h1,h2⟩:=List.nodup_cons.1 hn;cases k with
  |zero=>
   show(J6 J vs (σ.set j v)).getD j .dead=v;rw [CZ J vs _ j h1,Af (hj j (List.mem_cons_self ..))]
  |succ k=>exact DB J vs _ k h2 (by grind) (λi hi=>by grind) (by simp_all)
 | [],_,_,_,_,_,_,hk=>by trivial
 |_::_,[],_,_,_,hl,_,_=>by trivial
theorem CR.swap{w':World}{D':Nat->Prop}{F1:Nat->Nat->Prop}(h:CR C σ ts cts w D ρ F)(hJ:J.Nodup)(hJl: ∀j∈J,j<σ.length){σ1:List V}(hl:σ1.length=J.length)
  (wr1:Bj σ1 w' D' (λk=>ρ (J.getD k 0)) F1) (hfr:Fr w w' (λb=>∃j∈J,F j b)) (hF1: ∀i b,F1 i b->(∃j∈J,F j b)\/w.heap.size<=b) (hD1: ∀b,D b->D' b) (hD2: ∀b,D' b->D b\/(∃j∈J,F j b)\/w.heap.size<=b)
  (hn: ∀k,k<J.length->∃sz n f f',σ.getD (J.getD k 0) .dead= .nd true true sz n f/\σ1.getD k .dead= .nd true true sz n f'): ∃F',CR C (J6 J σ1 σ) (ts.map (JB J)) cts w' D' ρ F':=by
 have hsame: ∀b,b<w.heap.size->¬ (∃j∈J,F j b)->w'.heap[b]? =w.heap[b]?:=hfr.block;have hDs: ∀b,D b->w'.heap[b]? =w.heap[b]?:=λb hb=>hsame b (h.wr.Dlt b hb) fun⟨j,_,hF⟩=>h.wr.dD j b hF hb
 have hFs: ∀i b,i∉J->F i b->w'.heap[b]? =w.heap[b]?:=λi b hi hb=>hsame b (h.wr.lt i b hb) fun⟨j,hj,hF⟩=>h.wr.disj i j b (λe=>hi (e▸hj)) hb hF
 have hidx: ∀i,i∈J->∃k,k<J.length/\J.getD k 0=i:=λi hi=>by
  obtain⟨k,hk,rfl⟩:=List.getElem_of_mem hi;exact⟨k,hk,by simp [hk]⟩
 have hinj: ∀k k',k<J.length->k'<J.length->J.getD k 0=J.getD k' 0->k=k':=λk k' h1 h2 he=>by
  simp only [gDE,gEE h1,gEE h2,Option.getD_some]at he;rcases Nat.lt_trichotomy k k' with hlt|heq|hlt
  ·exact absurd he (List.pairwise_iff_getElem.1 hJ k k' h1 h2 hlt)
  ·exact heq
  ·exact absurd he.symm (List.pairwise_iff_getElem.1 hJ k' k h2 h1 hlt)
 have hmem: ∀k,k<J.length->J.getD k 0∈J:=λk hk=>by simp [hk]
 let F':Nat->Nat->Prop:=λi b=>(i∉J/\F i b)\/∃k,k<J.length/\J.getD k 0=i/\F1 k b
 have hF'k: ∀k,k<J.length->∀b,F' (J.getD k 0) b↔F1 k b:=λk hk b=>by
  constructor
  ·rintro (⟨h1,_⟩|⟨k',hk',he,hb⟩)
   ·exact absurd (hmem k hk) h1
   ·rw [hinj k' k hk' hk he]at hb;exact hb
  ·intro hb;exact .inr ⟨k,hk,rfl,hb⟩
 have hF'n: ∀i,i∉J->∀b,F' i b↔F i b:=λi hi b=>by
  constructor
  ·rintro (⟨_,h1⟩|⟨k,hk,he,_⟩)
   ·exact h1
   ·exact absurd (he▸hmem k hk) hi
  ·intro hb;exact .inl ⟨hi,hb⟩
 refine⟨F',⟨⟨λi hi=>?_,λi j b hij hb hb'=>?_,λi b hb hD=>?_,wr1.Dlt,λi b hi hb=>?_⟩,by simpa using h.sz,λt ht=>?_,?_,λi b hb=>?_,λb hb=>hD1 b (h.D1 b hb),λb hb hlt=>?_,h.rt,by rw [BI];exact h.ml⟩⟩
 ·rw [BI]at hi
  by_cases hiJ:i∈J
  ·obtain⟨k,hk,rfl⟩:=hidx i hiJ
   rw [DB J σ1 σ k hJ hl hJl hk];exact Rel.fp_congr (λb=>(hF'k k hk b).symm) (wr1.rel k (by omega))
  ·rw [CZ J σ1 σ i hiJ]
   refine Rel.fp_congr (λb=>(hF'n i hiJ b).symm) (Rel.mono hD1 (λ_ _ h=>h) _ _ _ (λb hb=>?_) (h.wr.rel i hi))
   exact hb.elim (hDs b) (hFs i b hiJ)
 ·by_cases hiJ:i∈J<;>by_cases hjJ:j∈J
  ·obtain⟨k,hk,rfl⟩:=hidx i hiJ
   obtain⟨l,hl',rfl⟩:=hidx j hjJ;exact wr1.disj k l b (λe=>hij (e▸rfl)) ((hF'k k hk b).1 hb) ((hF'k l hl' b).1 hb')
  ·obtain⟨k,hk,rfl⟩:=hidx i hiJ
   have h2:=(hF'n j hjJ b).1 hb';rcases hF1 k b ((hF'k k hk b).1 hb)with⟨l,hl',h3⟩|h3
   ·exact h.wr.disj l j b (λe=>hjJ (e▸hl')) h3 h2
   ·have:=h.wr.lt j b h2;omega
  ·obtain⟨l,hl',rfl⟩:=hidx j hjJ
   have h2:=(hF'n i hiJ b).1 hb;rcases hF1 l b ((hF'k l hl' b).1 hb')with⟨m,hm,h3⟩|h3
   ·exact h.wr.disj m i b (λe=>hiJ (e▸hm)) h3 h2
   ·have:=h.wr.lt i b h2;omega
  ·exact h.wr.disj i j b hij ((hF'n i hiJ b).1 hb) ((hF'n j hjJ b).1 hb')
 ·by_cases hiJ:i∈J
  ·obtain⟨k,hk,rfl⟩:=hidx i hiJ
   exact wr1.dD k b ((hF'k k hk b).1 hb) hD
  ·have h2:=(hF'n i hiJ b).1 hb
   rcases hD2 b hD with h3|⟨j,hj,h3⟩|h3
   ·exact h.wr.dD i b h2 h3
   ·exact h.wr.disj i j b (λe=>hiJ (e▸hj)) h2 h3
   ·have:=h.wr.lt i b h2;omega
 ·rw [BI]at hi
  by_cases hiJ:i∈J
  ·have:=hJl i hiJ;omega
  ·exact h.wr.out i b hi ((hF'n i hiJ b).1 hb)
 ·simp at ht
  have e1:(ts.map (JB J)).getD t .dead=JB J (ts.getD t .dead):=by simp [ht]
  rw [e1];refine Rel.mono (w:=w') (D:=D) hD1 (λ_ _ h=>h) _ _ _ (λ_ _=>rfl) ((NE J).rel hDs ?_ ?_ _ _ noF (λ_ h=>h) (h.tm t ht))
  ·rintro id p off len cv ⟨hid,sz,n,f,cn,ha,hle,hcv⟩
   unfold JB;split
   ·exact λ_ h=>h
   ·rename_i hk
    refine⟨⟨by rw [BI];exact hid,?_⟩,λ_ h=>h⟩
    by_cases hiJ:id∈J
    ·have hp:p= []:=Classical.byContradiction λhp=>hk ⟨hiJ,hp⟩
     subst hp;obtain⟨k,hk',rfl⟩:=hidx id hiJ;obtain⟨sz',n',f1,f2,g1,g2⟩:=hn k hk';obtain⟨ha1,ha2⟩:=ha;rw [g1]at ha1;cases ha1;refine⟨sz,n,f2,cn,?_,hle,hcv⟩;rw [DB J σ1 σ k hJ hl hJl hk',g2];exact⟨rfl,ha2⟩
    ·refine⟨sz,n,f,cn,?_,hle,hcv⟩
     rw [CZ J σ1 σ id hiJ];exact At.same (h.wr.rel id hid) ha λb hb=>hFs id b hiJ hb
  ·rintro id p i k cv ⟨hid,s,sz,n,f,b,o,cap,ha,h1,h2,hcv⟩
   unfold JB;split
   ·exact λ_ h=>h
   ·rename_i hk
    refine⟨⟨by rw [BI];exact hid,?_⟩,λ_ h=>h⟩
    by_cases hiJ:id∈J
    ·have hp:p= []:=Classical.byContradiction λhp=>hk ⟨hiJ,hp⟩
     subst hp;obtain⟨l,hl',rfl⟩:=hidx id hiJ;obtain⟨sz',n',f1,f2,g1,g2⟩:=hn l hl';obtain⟨ha1,ha2⟩:=ha;rw [g1]at ha1;cases ha1;refine⟨true,sz,n,f2,b,o,cap,?_,h1,h2,hcv⟩;rw [DB J σ1 σ l hJ hl hJl hl',g2];exact⟨rfl,ha2⟩
    ·refine⟨s,sz,n,f,b,o,cap,?_,h1,h2,hcv⟩
     rw [CZ J σ1 σ id hiJ];exact At.same (h.wr.rel id hid) ha λb hb=>hFs id b hiJ hb
 ·refine⟨hfr.os.trans h.fr.os,hfr.tape.trans h.fr.tape,hfr.output.trans h.fr.output,Nat.le_trans h.fr.size hfr.size,λb hb hW=>?_,Nat.le_trans h.fr.drawn hfr.drawn⟩
  rw [hsame b (Nat.lt_of_lt_of_le hb h.fr.size) fun⟨j,_,hF⟩=>(h.Fn j b hF).elim hW λh=>by omega]
  exact h.fr.block b hb hW
 ·rcases hb with⟨_,hb⟩|⟨k,hk,_,hb⟩
  ·exact h.Fn i b hb
  ·rcases hF1 k b hb with⟨j,_,h3⟩|h3
   ·exact h.Fn j b h3
   ·exact .inr (Nat.le_trans h.fr.size h3)
 ·rcases hD2 b hb with h3|⟨j,_,h3⟩|h3
  ·exact h.D2 b h3 hlt
  ·exact(h.Fn j b h3).elim .inr λh=>by omega
  ·have:=h.fr.size;omega
theorem MS{b off:Nat}{v:Value}(h:w.cell? ⟨b,off,none⟩=some v):w.setCell ⟨b,off,none⟩ v=w:=by
 unfold World.cell? at h;cases hb:w.heap[b]? with
 |none=>simp_all
 |some ob=>
  rw [hb]at h;cases ob with
  |cells cs T fr=>
   rw [setCell_eq_setRow w b off cs T fr v hb];have e:cs.setIfInBounds off v=cs:=by
    grind
   rw [e];exact setRow_self w b cs T fr hb
  |_=>trivial
theorem At.last{w:World}{i k:Nat}: ∀ {p:List (Nat×Nat)} {v:V} {cv:Value} {v':V} {c':Value},At w (p++ [(i,k)]) v cv v' c'->∃s sz n f b o cap,At w p v cv (.nd s true sz n f) (As s b o n cap)/\i<n/\k<sz/\w.cell? ⟨b,o+i*sz+k,none⟩=some c'
 | [],v,cv,v',c',h=>by
  match v,h with
  | .nd s true sz n f,h=>
   obtain⟨h1,h2,b,o,cap,y,h3,h4,h5⟩:=h;exact⟨s,sz,n,f,b,o,cap,⟨rfl,h3.symm⟩,h1,h2,by rw [h5.2];grind⟩
 |(j,l)::p,v,cv,v',c',h=>by
  match v,h with
  | .nd s true sz n f,h=>
   obtain⟨h1,h2,b,o,cap,y,h3,h4,h5⟩:=h;obtain⟨s',sz',n',f',b',o',cap',g1,g2⟩:=At.last h5;exact⟨s',sz',n',f',b',o',cap',⟨h1,h2,b,o,cap,y,h3,h4,g1⟩,g2⟩
theorem Ue{id:Nat}{p:List (Nat×Nat)}(h: ∀id' q,S id' q->id'≠j/\¬ (id'=id/\AW p q=true)):Cx (A5 id p j) S:=
 ⟨Cq id p j,λid' q off len hs=>by unfold A5;grind,λid' q i k hs=>by unfold A5;grind⟩
theorem Kn: ∀ {p:List (Nat×Nat)},p≠[]->∃p0 i k,p=p0++ [(i,k)]
 | [],h=>absurd rfl h
 | [(i,k)],_=>⟨[],i,k,rfl⟩
 |a::b::p,_=>by
  obtain⟨p0,i,k,h⟩:=Kn (p:=b::p) (by simp)
  grind
theorem CR.plug(h:CR C σ ts cts w D ρ F){a:CP}(ho:W4 w σ ρ a j):
  ∃F',CR C ((σ.set a.1 (upd a.2 (σ.getD a.1 .dead) (σ.getD j .dead))).set j .dead) (ts.map (A5 a.1 a.2 j)) cts w D ρ F':=by
 obtain⟨id,p⟩:=a;obtain⟨hne,hi,hj,hij,hat⟩:=ho;obtain⟨p0,i,k,rfl⟩:=Kn hne;obtain⟨s,sz,n,f,b,o,cap,h1,h2,h3,h4⟩:=At.last hat;have h5:=h.store_move hi hj hij h1 h2 h3;rw [MS h4]at h5
 grind
def Dc(L:List (CP×V))(i:Nat)(v:V):V:=match L with
 | []=>v
 |a::L=>Dc L i (if a.1.1=i then upd a.1.2 v a.2 else v)
theorem PH{C:Ctx}{cts:Array Value}{w:World}{D:Nat->Prop}{ρ:Nat->Value}: ∀ (H:List (CP×Nat)) (σ ts:List V) (F:Nat->Nat->Prop),CR C σ ts cts w D ρ F->(∀h∈H,W4 w σ ρ h.1 h.2)->(H.map (·.2)).Nodup->(∀h∈H,∀h'∈H,h.2≠h'.1.1)->H.Pairwise (λa b=>Hz a.1 b.1)->
  ∃ (σ3:List V) (M:V->V) (F':Nat->Nat->Prop),CR C σ3 (ts.map M) cts w D ρ F'/\σ3.length=σ.length/\Cx M (λid q=>(∀h∈H,id≠h.2)/\∀h∈H,¬ (id=h.1.1/\AW h.1.2 q=true))/\
   ∀i,(∀h∈H,i≠h.2)->σ3.getD i .dead=Dc (H.map λh=>(h.1,σ.getD h.2 .dead)) i (σ.getD i .dead)
 | [],σ,ts,F,h,_,_,_,_=>by
  have e:ts.map (λv=>v)=ts:=by simp
  exact⟨σ,λv=>v,F,by rw [e];exact h,rfl,Cx.idf,λ_ _=>rfl⟩
 |(a,j)::H,σ,ts,F,h,hh,hnd,hne,hp=>by
  have ho:=hh _ (List.mem_cons_self ..);obtain⟨F1,h1⟩:=h.plug ho;obtain⟨hnj,hnd'⟩:=List.nodup_cons.1 hnd;obtain⟨hap,hp'⟩:=List.pairwise_cons.1 hp;have hi:=ho.hi;have hj:=ho.hj;have hij:=ho.ij;simp only at hi hj hij;have hjs: ∀h∈H,h.2≠j:=λh hh e=>hnj (by rw [<-e];exact List.mem_map.2 ⟨h,hh,rfl⟩)
  have hg: ∀i,i≠j->((σ.set a.1 (upd a.2 (σ.getD a.1 .dead) (σ.getD j .dead))).set j .dead).getD i .dead=if a.1=i then upd a.2 (σ.getD i .dead) (σ.getD j .dead)else σ.getD i .dead:=by
   intro i hij';rw [Ad (Ne.symm hij')];by_cases he:a.1=i
   ·subst he;rw [if_pos rfl,Af hi]
   ·rw [if_neg he,Ad he]
  obtain⟨σ3,M,F',h2,h3,h4,h5⟩:=PH H _ _ _ h1 (λb hb=>by
   have hb':=hh b (mCM _ hb);have hbj:b.1.1≠j:=λe=>hne _ (List.mem_cons_self ..) b (mCM _ hb) e.symm
   refine⟨hb'.ne,by simpa using hb'.hi,by simpa using hb'.hj,hb'.ij,?_⟩
   rw [hg _ hbj];split
   ·rename_i he
    rcases hap b hb with h6|h6
    ·exact absurd he h6
    ·exact At.dvg h6 hb'.at'
   ·exact hb'.at') hnd' (λb hb c hc=>hne b (mCM _ hb) c (mCM _ hc)) hp'
  refine⟨σ3,λv=>M (A5 a.1 a.2 j v),F',by simpa [List.map_map,Function.comp_def]using h2,by rw [h3];simp,Cx.comp (h4.weak λid q hq=>⟨λb hb=>hq.1 b (mCM _ hb),λb hb=>hq.2 b (mCM _ hb)⟩) (Ue λid q hq=>⟨hq.1 _ (List.mem_cons_self ..),hq.2 _ (List.mem_cons_self ..)⟩),λi hi'=>?_⟩
  have hij':i≠j:=hi' _ (List.mem_cons_self ..);rw [h5 i λb hb=>hi' b (mCM _ hb),hg i hij']
  have e:(H.map λh=>(h.1,((σ.set a.1 (upd a.2 (σ.getD a.1 .dead) (σ.getD j .dead))).set j .dead).getD h.2 .dead))=H.map λh=>(h.1,σ.getD h.2 .dead):=by
   refine List.map_congr_left λb hb=>?_
   have hb2:a.1≠b.2:=λe=>hne b (mCM _ hb) _ (List.mem_cons_self ..) e.symm
   rw [hg _ (hjs b hb),if_neg hb2]
  rw [e];rfl
theorem Pg: ∀ {L:List CP} {a:CP} {i:Nat} {v x:V},a.1=i->(∀b∈L,Hz a b)->upd a.2 (Qe L i v) x=Qe L i (upd a.2 v x)
 | [],_,_,_,_,_,_=>rfl
 |b::L,a,i,v,x,h,hb=>by
  unfold Qe;rw [Pg h λc hc=>hb c (mCM _ hc)]
  congr 1
  split
  ·rcases hb b (List.mem_cons_self ..)with h1|h1
   ·grind
   ·exact Ph _ _ _ _ _ h1
  rfl
theorem LJ: ∀ {E:List (CP×V)} {i:Nat} {v:V},(E.map (·.1)).Pairwise Hz->(∀a∈E,a.1.1=i->a.1.2≠[])->Dc E i (Qe (E.map (·.1)) i v)=Dc E i v
 | [],_,_,_,_=>rfl
 |a::E,i,v,hp,hn=>by
  obtain⟨hap,hp'⟩:=List.pairwise_cons.1 hp;show Dc E i (if a.1.1=i then upd a.1.2 (Qe (E.map (·.1)) i (if a.1.1=i/\a.1.2≠[]then upd a.1.2 v .dead else v)) a.2 else Qe (E.map (·.1)) i (if a.1.1=i/\a.1.2≠[]then upd a.1.2 v .dead else v))=Dc E i (if a.1.1=i then upd a.1.2 v a.2 else v)
  by_cases he:a.1.1=i
  ·rw [if_pos he,if_pos he,if_pos ⟨he,hn a (List.mem_cons_self ..) he⟩,Pg he hap,HG]
   exact LJ hp' λb hb=>hn b (mCM _ hb)
  ·rw [if_neg he,if_neg he,if_neg (λh=>he h.1)]
   exact LJ hp' λb hb=>hn b (mCM _ hb)
end Go.Ve


namespace Go.Ve
def FCW(P:Program)(f:FuncId)(args σ0:List V)(rv:Value)(σ1:List V):Prop:=
 ∀ (w:World) (D:Nat->Prop) (ρ:Nat->Value) (F:Nat->Nat->Prop) (cvs:Array Value),Wok w->(∀p,AaG=some p->∀i,¬F i p.1)->Bj σ0 w D ρ F->cvs.size=args.length->(∀i,i<args.length->Rel D w (Ag σ0 ρ w) (args.getD i .dead) (cvs.getD i undef) noF)->
  Calls P f cvs w λe w'=>e= .returned rv/\∃ (D':Nat->Prop) (F':Nat->Nat->Prop),Bj σ1 w' D' ρ F'/\Fr w w' (λb=>∃i,F i b)/\(∀i b,F' i b->(∃j,F j b)\/w.heap.size<=b)/\(∀b,D b->D' b)/\(∀b,D' b->D b\/(∃j,F j b)\/w.heap.size<=b)
theorem Rel.len_eq{D D':Nat->Prop}{w w':World}{sz sz' n n':Nat}{f f':Nat->Nat->V}{cv:Value}{fp fp':Nat->Prop}(h:Rel D w noR (.nd true true sz n f) cv fp)(h':Rel D' w' noR (.nd true true sz' n' f') cv fp'):n=n':=by
 obtain⟨a,c,e⟩:=Rel.sliceLen h;obtain⟨a',c',e'⟩:=Rel.sliceLen h'
 grind
theorem HX: ∀ {E:List (CP×V)} {i:Nat} {v:V},(∀a∈E,a.1.1≠i)->Dc E i v=v
 | [],_,_,_=>rfl
 |a::E,i,v,h=>by
  unfold Dc;rw [if_neg (h a (List.mem_cons_self ..))];exact HX λb hb=>h b (mCM _ hb)
theorem KC: ∀ {E:List (CP×V)} {i:Nat} {v x:V},(E.map (·.1)).Pairwise Hz->((i,[]),x)∈E->Dc E i v=x
 | [],_,_,_,_,h=>by grind
 |a::E,i,v,x,hp,h=>by
  obtain⟨hap,hp'⟩:=List.pairwise_cons.1 hp;unfold Dc;rcases List.mem_cons.1 h with rfl|h
  ·rw [if_pos rfl]
   refine HX λb hb e=>?_
   rcases hap _ (List.mem_map.2 ⟨b,hb,rfl⟩)with h1|h1
   ·grind
   trivial
  ·exact KC hp' h
theorem Ip: ∀ {E:List (CP×V)} {i:Nat} {v:V},(∀a∈E,a.1.1=i->a.1.2≠[])->Dc (E.filter λa=>!a.1.2.isEmpty) i v=Dc E i v
 | [],_,_,_=>rfl
 |a::E,i,v,h=>by
  have ih:=λv=>Ip (v:=v) λb hb=>h b (mCM _ hb)
  cases hb:a.1.2.isEmpty with
  |true=>
   have hn:=λe=>h a (List.mem_cons_self ..) e (List.isEmpty_iff.1 hb)
   show _=Dc E i (if a.1.1=i then _ else v)
   grind
  |false=>
   rw [List.filter_cons_of_pos (by grind)]
   exact ih _
theorem Ys{P:Program}{C:Ctx}{σ ts:List V}{cts:Array Value}{w:World}{D:Nat->Prop}{ρ:Nat->Value}{F:Nat->Nat->Prop}(h:CR C σ ts cts w D ρ F){f:FuncId}{args:List V}{L:List CP}{rv:Value}{σ1:List V}{cvs:Array Value}
  (hc:FCW P f args (L.map λa=>sub a.2 (σ.getD a.1 .dead)) rv σ1) (hL: ∀a∈L,a.1<σ.length/\∃sz n f c,At w a.2 (σ.getD a.1 .dead) (ρ a.1) (.nd true true sz n f) c) (hp:L.Pairwise Hz) (hl1:σ1.length=L.length)
  (hsz: ∀k,k<L.length->∃sz n n' f f',sub (L.getD k (0,[])).2 (σ.getD (L.getD k (0,[])).1 .dead)= .nd true true sz n f/\σ1.getD k .dead= .nd true true sz n' f')
  (hcs:cvs.size=args.length) (hargs: ∀ (ρ0:Nat->Value) (F0:Nat->Nat->Prop),Bj (L.map λa=>sub a.2 (σ.getD a.1 .dead)) w D ρ0 F0->(∀k,k<L.length->At w (L.getD k (0,[])).2 (σ.getD (L.getD k (0,[])).1 .dead) (ρ (L.getD k (0,[])).1) (sub (L.getD k (0,[])).2 (σ.getD (L.getD k (0,[])).1 .dead)) (ρ0 k))->
   ∀i,i<args.length->Rel D w (Ag (L.map λa=>sub a.2 (σ.getD a.1 .dead)) ρ0 w) (args.getD i .dead) (cvs.getD i undef) noF):
  Calls P f cvs w λe w'=>e= .returned rv/\∃ (σ3:List V) (M:V->V),UK C σ3 (ts.map M) cts w'/\σ.length<=σ3.length/\Cx M (Off L σ.length)/\(∀i,i<σ.length->σ3.getD i .dead=Dc (L.zip σ1) i (σ.getD i .dead))/\
   ∀k,k<L.length->∃sz n f f',sub (L.getD k (0,[])).2 (σ.getD (L.getD k (0,[])).1 .dead)= .nd true true sz n f/\σ1.getD k .dead= .nd true true sz n f':=by
 obtain⟨σc,ρc,Fc,J,M,hcr,hk,hM,hcv⟩:=O3 L σ ts ρ F h hL hp;have hmemL: ∀k,k<L.length->L.getD k (0,[])∈L:=λk hk=>by simp [hk]
 have hJl: ∀j∈J,j<σc.length:=by
  intro j hj;obtain⟨k,hk1,rfl⟩:=List.getElem_of_mem hj;have:=(hk.j k (by rw [<-hk.jl];exact hk1)).1
  simpa [hk1]using this
 have hinj: ∀k k',k<L.length->k'<L.length->J.getD k 0=J.getD k' 0->k=k':=λk k' h1 h2 he=>by
  rw [<-hk.jl]at h1 h2;simp only [gDE,gEE h1,gEE h2,Option.getD_some]at he;rcases Nat.lt_trichotomy k k' with hlt|heq|hlt
  ·exact absurd he (List.pairwise_iff_getElem.1 hk.nd k k' h1 h2 hlt)
  ·exact heq
  ·exact absurd he.symm (List.pairwise_iff_getElem.1 hk.nd k' k h2 h1 hlt)
 have hg0: ∀k,k<L.length->(L.map λa=>sub a.2 (σ.getD a.1 .dead)).getD k .dead=sub (L.getD k (0,[])).2 (σ.getD (L.getD k (0,[])).1 .dead):=λk hk=>by simp [hk]
 have wr0:Bj (L.map λa=>sub a.2 (σ.getD a.1 .dead)) w D (λk=>ρc (J.getD k 0)) (λk b=>k<L.length/\Fc (J.getD k 0) b):=by
  refine⟨λi hi=>?_,λi j b hij hb hb'=>?_,λi b hb=>hcr.wr.dD _ b hb.2,hcr.wr.Dlt,λi b hi hb=>?_⟩
  ·have hi:i<L.length:=by simpa using hi
   rw [hg0 i hi];obtain⟨h1,h2⟩:=hk.j i hi;rw [<-h2];exact Rel.fp_congr (λb=>⟨λhb=>⟨hi,hb⟩,λhb=>hb.2⟩) (hcr.wr.rel _ h1)
  ·exact hcr.wr.disj _ _ b (λe=>hij (hinj i j hb.1 hb'.1 e)) hb.2 hb'.2
  ·have:=hb.1;simp at hi;omega
 refine(hc w D _ _ cvs hcr.ok (λp hp i hF=>(hcr.Fn _ _ hF.2).elim (C.ok.2 p hp) λhle=>by have:=C.ok.1.lt hp;omega) wr0 hcs (hargs _ _ wr0 hk.val)).mono λe w' hpost=>?_
 obtain⟨rfl,D',F1,wr1,hfr,hF1,hD1,hD2⟩:=hpost;refine⟨rfl,?_⟩;have hG: ∀b,(∃i,i<L.length/\Fc (J.getD i 0) b)->∃j∈J,Fc j b:=λb ⟨i,hi,hb⟩=>⟨J.getD i 0,by rw [<-hk.jl]at hi;simp [hi],hb⟩
 have hfr':Fr w w' (λb=>∃j∈J,Fc j b):=⟨hfr.os,hfr.tape,hfr.output,hfr.size,λb hb hn=>hfr.block b hb λhx=>hn (hG b hx),hfr.drawn⟩
 have hlen: ∀k,k<L.length->∃sz n f f',sub (L.getD k (0,[])).2 (σ.getD (L.getD k (0,[])).1 .dead)= .nd true true sz n f/\σ1.getD k .dead= .nd true true sz n f':=by
  intro k hkl;obtain⟨sz,n,n',f1,f2,g1,g2⟩:=hsz k hkl;obtain⟨h1,h2⟩:=hk.j k hkl;have r1:=hcr.wr.rel _ h1;rw [h2,g1]at r1;have r2:=wr1.rel k (by omega)
  rw [g2]at r2;have:=Rel.len_eq r1 r2;subst this;exact⟨sz,n,f1,f2,g1,g2⟩
 obtain⟨Fd,hsw⟩:=hcr.swap hk.nd hJl (by rw [hl1,hk.jl]) wr1 hfr' (λi b hb=>(hF1 i b hb).imp (hG b) id) hD1 (λb hb=>(hD2 b hb).imp id λh=>h.imp (hG b) id) (λk hkl=>by
  rw [hk.jl]at hkl;obtain⟨sz,n,f1,f2,g1,g2⟩:=hlen k hkl;exact⟨sz,n,f1,f2,by rw [(hk.j k hkl).2,g1],g2⟩)
 -- the holes
 have hparJ: ∀a∈L,a.2≠[]->a.1∉J:=by
  intro a ha hne hj;obtain⟨k,hk1,hk2⟩:=List.getElem_of_mem hj;have hkL:k<L.length:=by rw [<-hk.jl];exact hk1
  have e:J.getD k 0=a.1:=by simp [hk1,hk2]
  by_cases h0:(L.getD k (0,[])).2= []
  ·have h1:=hk.rt k hkL h0
   obtain⟨k',hk',rfl⟩:=List.getElem_of_mem ha;have e2:(L.getD k (0,[])).1=L[k'].1:=by omega
   have e3:L.getD k (0,[])=L[k]:=by simp [hkL]
   rw [e3]at e2 h0;rcases Nat.lt_trichotomy k k' with hlt|heq|hlt
   ·rcases List.pairwise_iff_getElem.1 hp k k' hkL hk' hlt with h2|h2
    ·exact h2 e2
    ·rw [h0]at h2;cases h2
   ·subst heq;exact hne h0
   ·rcases List.pairwise_iff_getElem.1 hp k' k hk' hkL hlt with h2|h2
    ·exact h2 e2.symm
    ·rw [h0,WD]at h2;cases h2
  ·have:=(hk.pt k hkL h0).1
   have:=(hL a ha).1;omega
 have hzip: ∀h∈(L.zip J).filter (λh=>!h.1.2.isEmpty),∃k,k<L.length/\h.1=L.getD k (0,[])/\h.2=J.getD k 0/\h.1.2≠[]:=by
  intro h hh;obtain⟨h1,h2⟩:=List.mem_filter.1 hh;obtain⟨k,hk1,rfl⟩:=List.getElem_of_mem h1;have hkL:k<L.length:=by simp at hk1;omega
  have hkJ:k<J.length:=by rw [hk.jl];exact hkL
  refine⟨k,hkL,by simp [hkL],by simp [hkJ],λh0=>?_⟩
  rw [h0]at h2;cases h2
 have hsub2:((L.zip J).filter (λh=>!h.1.2.isEmpty)).Sublist (L.zip J):=List.filter_sublist
 have hzl:(L.zip J).map (·.1)=L:=List.map_fst_zip (by have:=hk.jl;omega)
 have hzr:(L.zip J).map (·.2)=J:=List.map_snd_zip (by have:=hk.jl;omega)
 obtain⟨σ3,M3,F3,h3,hl3,hM3,hv3⟩:=PH ((L.zip J).filter λh=>!h.1.2.isEmpty) _ _ _ hsw (λa ha=>by
   obtain⟨k,hkL,e1,e2,hne⟩:=hzip a ha;obtain⟨_,ho⟩:=hk.pt k hkL (by rw [<-e1];exact hne)
   rw [<-e1,<-e2]at ho;have hnJ:a.1.1∉J:=hparJ a.1 (by rw [e1];exact hmemL k hkL) hne
   refine⟨ho.ne,by rw [BI];exact ho.hi,by rw [BI];exact ho.hj,ho.ij,?_⟩
   rw [CZ J σ1 σc _ hnJ];refine At.same (hcr.wr.rel _ ho.hi) ho.at' λb hb=>hfr'.block b (hcr.wr.lt _ b hb) fun⟨j,hj,hF⟩=>hcr.wr.disj a.1.1 j b (λe=>hnJ (by rw [e];exact hj)) hb hF)
  (List.Nodup.sublist (hsub2.map (·.2)) (by rw [hzr];exact hk.nd))
  (λa ha b hb=>by
   obtain⟨k,hkL,e1,e2,hne⟩:=hzip a ha;obtain⟨k',hkL',e1',e2',hne'⟩:=hzip b hb;have h1:=(hk.pt k hkL (by rw [<-e1];exact hne)).1
   have h2:=(hL b.1 (by rw [e1'];exact hmemL k' hkL')).1
   omega)
  (by
   have h1:((L.zip J).map (·.1)).Pairwise Hz:=by rw [hzl];exact hp
   exact List.Pairwise.sublist hsub2 (List.pairwise_map.1 h1))
 refine⟨σ3,λv=>M3 (JB J (M v)),⟨_,_,_,by simpa [List.map_map,Function.comp_def]using h3⟩,by rw [hl3,BI];exact hk.len,?_,λi hi=>?_,hlen⟩
 ·refine Cx.comp (hM3.weak λid q hq=>⟨λa ha=>?_,λa ha h0=>?_⟩) (Cx.comp (Uk λid q hq h0=>?_) hM)
  ·obtain⟨k,hkL,e1,e2,hne⟩:=hzip a ha
   have h1:=(hk.pt k hkL (by rw [<-e1];exact hne)).1
   have:=hq.1;omega
  ·obtain⟨k,hkL,e1,e2,hne⟩:=hzip a ha
   rcases hq.2 a.1 (by rw [e1];exact hmemL k hkL) h0.1.symm with h1|h1
   ·exact hne h1.1
   ·rw [h0.2]at h1;cases h1.2
  ·obtain⟨k,hk1,hk2⟩:=List.getElem_of_mem h0.1
   have hkL:k<L.length:=by rw [<-hk.jl];exact hk1
   have e:J.getD k 0=id:=by simp [hk1,hk2]
   by_cases h1:(L.getD k (0,[])).2= []
   ·have h2:=hk.rt k hkL h1
    rcases hq.2 _ (hmemL k hkL) (by omega)with h3|h3
    ·exact h0.2 h3.2
    ·exact h3.1 h1
   ·have:=(hk.pt k hkL h1).1
    have:=hq.1;omega
 ·rw [hv3 i λa ha=>by
   obtain⟨k,hkL,e1,e2,hne⟩:=hzip a ha;have h1:=(hk.pt k hkL (by rw [<-e1];exact hne)).1
   omega]
  have hmapJ:J.map (λj=>(J6 J σ1 σc).getD j .dead)=σ1:=by
   apply List.ext_getElem
   ·simp [hl1,hk.jl]
   ·intro k h1 h2
    have hkJ:k<J.length:=by simpa using h1
    have:=DB J σ1 σc k hk.nd (by rw [hl1,hk.jl]) hJl hkJ
    simp only [List.getElem_map];have e:J.getD k 0=J[k]:=by simp [hkJ]
    rw [e]at this;rw [this];simp [h2]
  have hmapE:((L.zip J).filter λh=>!h.1.2.isEmpty).map (λh=>(h.1,(J6 J σ1 σc).getD h.2 .dead))=(L.zip σ1).filter λa=>!a.1.2.isEmpty:=by
   rw [<-hmapJ,List.zip_map_right,List.filter_map];simp only [Function.comp_def,hmapJ];rfl
  rw [hmapE];have hE1:(L.zip σ1).map (·.1)=L:=List.map_fst_zip (by omega)
  have hpE:((L.zip σ1).map (·.1)).Pairwise Hz:=by rw [hE1];exact hp
  by_cases hroot: ∃k,k<L.length/\L.getD k (0,[])=(i,[])
  ·obtain⟨k,hkL,he⟩:=hroot
   have hmem:((i,([]:List (Nat×Nat))),σ1.getD k .dead)∈L.zip σ1:=by
    have e1:L[k]=(i,[]):=by rw [<-he];simp [hkL]
    have hk1:k<σ1.length:=by omega
    have e2:(L.zip σ1)[k]'(by simp;omega)=((i,[]),σ1.getD k .dead):=by
     rw [List.getElem_zip,e1];simp [hk1]
    rw [<-e2];exact List.getElem_mem _
   rw [KC hpE hmem];have hJk:J.getD k 0=i:=by
    have:=hk.rt k hkL (by rw [he])
    rw [he]at this;exact this
   rw [HX]
   ·have:=DB J σ1 σc k hk.nd (by rw [hl1,hk.jl]) hJl (by rw [hk.jl];exact hkL)
    rw [hJk]at this;exact this
   ·intro a ha e
    obtain⟨h1,h2⟩:=List.mem_filter.1 ha;have h3:a.1∈L:=by rw [<-hE1];exact List.mem_map.2 ⟨a,h1,rfl⟩
    have h4:a.1.2≠[]:=λh0=>by rw [h0]at h2;cases h2
    exact hparJ a.1 h3 h4 (by rw [e,<-hJk];rw [<-hk.jl]at hkL;simp [hkL])
  ·have hnr: ∀a∈L,a.1=i->a.2≠[]:=by
    intro a ha h1 h2;obtain⟨k,hkL,rfl⟩:=List.getElem_of_mem ha;exact hroot ⟨k,hkL,by simp only [gDE,gEE hkL,Option.getD_some];rw [<-h1,<-h2]⟩
   have hnrE: ∀a∈L.zip σ1,a.1.1=i->a.1.2≠[]:=λa ha=>hnr a.1 (by rw [<-hE1];exact List.mem_map.2 ⟨a,ha,rfl⟩)
   rw [Ip hnrE];have hiJ:i∉J:=by
    intro hj;obtain⟨k,hk1,hk2⟩:=List.getElem_of_mem hj;have hkL:k<L.length:=by rw [<-hk.jl];exact hk1
    have e:J.getD k 0=i:=by simp [hk1,hk2]
    by_cases h0:(L.getD k (0,[])).2= []
    ·have h1:=hk.rt k hkL h0
     exact hnr _ (hmemL k hkL) (by omega) h0
    ·have:=(hk.pt k hkL h0).1
     omega
   rw [CZ J σ1 σc i hiJ,hcv i hi];have:=LJ (v:=σ.getD i .dead) hpE hnrE;rw [hE1]at this;exact this
end Go.Ve

