/- Parts of trees are handed to a callee that writes them: they are cut out, and put back. -/
import Derived.Test.YtdhfaeiafmlhlaaVy
set_option linter.all false
namespace Go.Ve
variable{p:List (Nat×Nat)}{S:Nat->List (Nat×Nat)->Prop}{M:V->V}
def dvP:List (Nat×Nat)->List (Nat×Nat)->Bool
 |(_,k)::p,(_,l)::q=>!Nat.beq k l||dvP p q
 |_,_=>false
def UF:∀{p q:List (Nat×Nat)},dvP p q=true->dvP q p=true
 |(_,k)::p,(_,l)::q,h=>by
  simp[dvP,Bool.not_eq_true']at h⊢;rcases h with h|h
  .left
   cases e:Nat.beq l k with
   |false=>rfl
   |true=>simp_all
  .exact .inr (UF h)
 |[],_,h=>by cases h
 |_::_,[],h=>by cases h
def Yz:dvP p []=false:=by cases p<;>rfl
def Lb{i k:Nat}{s o:Bool}{sz n:Nat}{f:Nat->Nat->V}{x:V}:upd ((i,k)::p) (.nd s o sz n f) x=.nd s o sz n λi' k'=>if i'=i/\k'=k then upd p (f i k) x else f i' k':=rfl
def Ij:∀(p:List (Nat×Nat)) (v x y:V),upd p (upd p v x) y=upd p v y
 |[],_,_,_=>rfl
 |(i,k)::p,v,x,y=>by
  cases v with
  |nd s o sz n f=>
   rw[Lb,Lb]
   congr 1
   funext i' k'
   by_cases h:i'=i/\k'=k
   .simp[h,if_true];exact Ij p _ _ _
   grind
  |_=>rfl
theorem QD:∀(p q:List (Nat×Nat)) (v x y:V),dvP p q=true->upd p (upd q v x) y=upd q (upd p v y) x
 |(i,k)::p,(j,l)::q,v,x,y,h=>by
  cases v with
  |nd s o sz n f=>
   rw[Lb,Lb,Lb,Lb]
   congr 1
   funext i' k'
   by_cases A:i'=i/\k'=k<;>by_cases e:i'=j/\k'=l
   .obtain⟨rfl,rfl⟩:=A
    obtain⟨rfl,rfl⟩:=e;have h:=by
     simpa [dvP,Nat.beq_refl]using h
    simp only[if_true];exact QD p q _ _ _ h
   .grind
   .grind
   grind
  |_=>rfl
 |[],_,_,_,_,h=>by cases h
 |_::_,[],_,_,_,h=>by cases h
theorem Sub.upd:∀(p:List (Nat×Nat)) {v v' x:V},Sub v v'->Sub (Go.Ve.upd p v x) (Go.Ve.upd p v' x)
 |[],_,_,_,_=>Sub.refl _
 |(i,k)::p,v,v',x,h=>by
  cases v with
  |nd s o sz n f=>
   obtain⟨g,rfl,e⟩:=h;refine⟨_,rfl,λi' k' hi A=>?_⟩
   by_cases B:i'=i/\k'=k
   .obtain⟨rfl,rfl⟩:=B
    simp[if_true];exact Sub.upd p (e _ _ hi A)
   grind
  |c v=>
   rcases h with rfl|⟨rfl,own,sz,f,rfl⟩
   .exact Sub.refl _
   .exact .inr ⟨rfl,own,sz,_,rfl⟩
  |dead=>cases h;rfl
  |many t n f=>obtain⟨g,rfl,e⟩:=h;exact⟨g,rfl,e⟩
  |rs=>cases h;rfl
  |rp=>cases h;rfl
  |rm=>cases h;rfl
  |mp=>cases h;rfl
theorem At.dvg{w:World}{x:V}:∀{p q:List (Nat×Nat)}{v:V}{cv:Value}{e:V}{c1:Value},dvP p q=true->At w q v cv e c1->At w q (upd p v x) cv e c1
 |(i,k)::p,(j,l)::q,v,cv,e,c1,h,ha=>by
  match v,ha with
  |.nd s true sz n f,ha=>
   obtain⟨W,U,b,o,cap,y,O,E,B⟩:=ha;refine⟨W,U,b,o,cap,y,O,E,?_⟩;by_cases A:j=i/\l=k
   .obtain⟨rfl,rfl⟩:=A
    have h:=by simpa [dvP,Nat.beq_refl]using h
    simp[if_true];exact At.dvg h B
   grind
 |[],_,_,_,_,_,h,_=>by cases h
 |_::_,[],_,_,_,_,h,_=>by cases h
def At.cut{w:World}:∀{p:List (Nat×Nat)}{v:V}{cv:Value}{e:V}{c1:Value},At w p v cv e c1->At w p (upd p v .dead) cv .dead c1
 |[],_,_,_,_,ha=>⟨rfl,ha.2⟩
 |(i,k)::p,v,cv,e,c1,ha=>by
  match v,ha with
  |.nd s true sz n f,ha=>
   obtain⟨U,O,b,o,cap,y,E,B,A⟩:=ha;exact⟨U,O,b,o,cap,y,E,B,by simp[if_true];exact At.cut A⟩
structure CL(M:V->V)(S:Nat->List (Nat×Nat)->Prop):Prop where
 m:Bb M
 rs:∀id q off len,S id q->M (.rs id q off len)=.rs id q off len
 rp:∀id q i k,S id q->M (.rp id q i k)=.rp id q i k
 rm:∀id q,S id q->M (.rm id q)=.rm id q
def CL.idf:CL (λv=>v) S:=⟨⟨λ_=>rfl,rfl,λ_ _ _ _ _=>rfl,λ_ _=>rfl,λ_ _ _=>rfl⟩,λ_ _ _ _ _=>rfl,λ_ _ _ _ _=>rfl,λ_ _ _=>rfl⟩
def CL.comp{N:V->V}(A:CL M S)(e:CL N S):CL (λv=>M (N v)) S:=
 ⟨⟨λv=>by rw[e.m.c,A.m.c],by rw[e.m.dead,A.m.dead],λs own sz n f=>by rw[e.m.nd,A.m.nd],λown l=>by rw[e.m.mp,A.m.mp],λt n f=>by rw[e.m.many,A.m.many]⟩,
  λid q off len h=>by rw[e.rs id q off len h,A.rs id q off len h],λid q i k h=>by rw[e.rp id q i k h,A.rp id q i k h],λid q h=>by rw[e.rm id q h,A.rm id q h]⟩
def CL.weak{S':Nat->List (Nat×Nat)->Prop}(A:CL M S)(h:∀id q,S' id q->S id q):CL M S':=
 ⟨A.m,λid q off len e=>A.rs id q off len (h id q e),λid q i k e=>A.rp id q i k (h id q e),λid q e=>A.rm id q (h id q e)⟩
abbrev C9:=Nat×List (Nat×Nat)
def Ic(a b:C9):Prop:=a.1≠b.1\/dvP a.2 b.2=true
def Off(L:List C9)(N:Nat)(id:Nat)(q:List (Nat×Nat)):Prop:=id<N/\∀a∈L,a.1=id->(a.2=[]/\q=[])\/(a.2≠[]/\AT a.2 q=false)
structure YZ(w:World)(σ:List V)(ρ:Nat->Value)(a:C9)(j:Nat):Prop where
 ne:a.2≠[]
 hi:a.1<σ.length
 hj:j<σ.length
 ij:j≠a.1
 at':At w a.2 (σ.getD a.1 .dead) (ρ a.1) .dead (ρ j)
structure CutOK(w:World)(σ σc:List V)(ρ ρc:Nat->Value)(L:List C9)(J:List Nat):Prop where
 len:σ.length<=σc.length
 jl:J.length=L.length
 old:∀i,i<σ.length->ρc i=ρ i
 nd:J.Nodup
 j:∀k,k<L.length->J.getD k 0<σc.length/\σc.getD (J.getD k 0) .dead=sub (L.getD k (0,[])).2 (σ.getD (L.getD k (0,[])).1 .dead)
 rt:∀k,k<L.length->(L.getD k (0,[])).2=[]->J.getD k 0=(L.getD k (0,[])).1
 pt:∀k,k<L.length->(L.getD k (0,[])).2≠[]->σ.length<=J.getD k 0/\YZ w σc ρc (L.getD k (0,[])) (J.getD k 0)
 val:∀k,k<L.length->At w (L.getD k (0,[])).2 (σ.getD (L.getD k (0,[])).1 .dead) (ρ (L.getD k (0,[])).1) (sub (L.getD k (0,[])).2 (σ.getD (L.getD k (0,[])).1 .dead)) (ρc (J.getD k 0))
def UL(L:List C9)(i:Nat)(v:V):V:=match L with
 |[]=>v
 |a::L=>UL L i (if a.1=i/\a.2≠[]then upd a.2 v .dead else v)
theorem ZE{id N:Nat}(h:∀id' q,S id' q->¬ (id'=id/\AT p q=true)):CL (rrV id p N) S:=
 ⟨C2 id p N,λid' q off len e=>by unfold rrV;grind,λid' q i k e=>by unfold rrV;grind,λid' q e=>by unfold rrV;grind⟩
def At.det{w:World}:∀{p:List (Nat×Nat)}{v:V}{cv:Value}{O E:V}{c1 c2:Value},At w p v cv O c1->At w p v cv E c2->c1=c2
 |[],_,_,_,_,_,_,h,h'=>h.2.trans h'.2.symm
 |(i,k)::p,v,cv,O,E,c1,c2,h,h'=>by
  match v,h,h' with
  |.nd s true sz n f,h,h'=>
   obtain⟨_,_,b,o,cap,y,h3,Z,Y⟩:=h;obtain⟨_,_,b',o',U,W,B,A,e⟩:=h';obtain⟨rfl,rfl,_⟩:=Av (h3.symm.trans B);obtain rfl:y=W:=Option.some.inj (Z.symm.trans A);exact At.det Y e
def KA:∀{L:List C9}{i:Nat}{v:V},(∀a∈L,a.1=i->a.2=[])->UL L i v=v
 |[],_,_,_=>rfl
 |a::L,i,v,h=>by
  unfold UL;rw[if_neg (λe=>e.2 (h a (List.mem_cons_self ..) e.1))]
  exact KA λb A=>h b (mCM _ A)
def YA{w:World}{q:List (Nat×Nat)}{cv:Value}{e:V}{c1:Value}:∀{L:List C9}{i:Nat}{v:V},(∀a∈L,Ic (i,q) a)->At w q v cv e c1->At w q (UL L i v) cv e c1
 |[],_,_,_,h=>h
 |a::L,i,v,h,ha=>by
  unfold UL;refine YA (λb A=>h b (mCM _ A)) ?_
  split
  .rcases h a (List.mem_cons_self ..)with h1|h1
   .omega
   .exact At.dvg (UF h1) ha
  grind
theorem Qp{C:Ctx}{cts:Array Value}{w:World}{D:Nat->Prop}:∀(L:List C9) (σ ts:List V) (ρ:Nat->Value) (F:Nat->Nat->Prop),CR C σ ts cts w D ρ F->
  (∀a∈L,a.1<σ.length/\∃sz n f c,At w a.2 (σ.getD a.1 .dead) (ρ a.1) (.nd true true sz n f) c)->L.Pairwise Ic->
  ∃(σc:List V) (ρc:Nat->Value) (Fc:Nat->Nat->Prop) (J:List Nat) (M:V->V),CR C σc (ts.map M) cts w D ρc Fc/\CutOK w σ σc ρ ρc L J/\CL M (Off L σ.length)/\(∀i,i<σ.length->σc.getD i .dead=UL L i (σ.getD i .dead))
 |[],σ,ts,ρ,F,h,_,_=>by
  have e:ts.map (λv=>v)=ts:=by simp
  refine⟨σ,ρ,F,[],λv=>v,by rw[e];exact h,⟨Nat.le_refl _,rfl,λ_ _=>rfl,List.nodup_nil,λk A=>by simp at A,λk A=>by simp at A,λk A=>by simp at A,λk A=>by simp at A⟩,CL.idf,λi hi=>rfl⟩
 |(id,p)::L,σ,ts,ρ,F,h,hL,hp=>by
  obtain⟨hid,sz,n,f,c,hat⟩:=hL _ (List.mem_cons_self ..);obtain⟨hap,hp'⟩:=List.pairwise_cons.1 hp;simp only at hid hat;have hLl:∀a∈L,a.1<σ.length:=λa O=>(hL a (mCM _ O)).1
  by_cases hpn:p=[]
  .subst hpn
   obtain⟨σc,ρc,Fc,J,M,hcr,B,hM,hcv⟩:=Qp L σ ts ρ F h (λa O=>hL a (mCM _ O)) hp'
   have hne:∀a∈L,a.1≠id:=λa O=>by
    rcases hap a O with E|E
    .exact Ne.symm E
    .cases E
   have hcid:σc.getD id .dead=σ.getD id .dead:=by
    rw[hcv id hid];exact KA λa O E=>absurd E (hne a O)
   have hjn:id∉J:=by
    intro hj;obtain⟨k,A,hk2⟩:=List.getElem_of_mem hj;have Z:k<L.length:=by rw[<-B.jl];exact A
    have e:J.getD k 0=id:=by simp[A,hk2]
    have hmem:L.getD k (0,[])∈L:=by simp[Z]
    by_cases W:(L.getD k (0,[])).2=[]
    .have:=B.rt k Z W
     exact hne _ hmem (by omega)
    .have:=(B.pt k Z W).1
     omega
   refine⟨σc,ρc,Fc,id::J,M,hcr,⟨B.len,by simp[B.jl],B.old,List.nodup_cons.2 ⟨hjn,B.nd⟩,λk A=>?_,λk A=>?_,λk A=>?_,λk A=>?_⟩,hM.weak λid' q hq=>⟨hq.1,λa O=>hq.2 a (mCM _ O)⟩,λi hi=>?_⟩
   .cases k with
    |zero=>exact⟨Nat.lt_of_lt_of_le hid B.len,hcid⟩
    |succ k=>simpa using B.j k (by simpa using A)
   .cases k with
    |zero=>intro _;rfl
    |succ k=>simpa using B.rt k (by simpa using A)
   .cases k with
    |zero=>intro W;exact absurd rfl W
    |succ k=>simpa using B.pt k (by simpa using A)
   .cases k with
    |zero=>
     show At w [] (σ.getD id .dead) (ρ id) (σ.getD id .dead) (ρc id);exact⟨rfl,B.old id hid⟩
    |succ k=>simpa using B.val k (by simpa using A)
   .show σc.getD i .dead=UL L i (if id=i/\([]:List (Nat×Nat))≠[]then _ else σ.getD i .dead)
    rw[if_neg (λh=>h.2 rfl)]
    exact hcv i hi
  obtain⟨ρ1,F1,hcr1,hr1,hr2,_⟩:=h.reroot hid hat;have hsub:sub p (σ.getD id .dead)=.nd true true sz n f:=(At.sub hat).symm;generalize hσ1:σ.set id (upd p (σ.getD id .dead) .dead)++[sub p (σ.getD id .dead)]=σ1 at hcr1;have hl1:σ1.length=σ.length+1:=by rw[<-hσ1];simp
  have hg:∀i,i<σ.length->σ1.getD i .dead=if i=id then upd p (σ.getD id .dead) .dead else σ.getD i .dead:=by
   intro i hi;rw[<-hσ1,AD (by simpa using hi)]
   by_cases he:i=id
   .subst he;rw[Ah hi,if_pos rfl]
   .rw[Ag (Ne.symm he),if_neg he]
  have hgN:σ1.getD σ.length .dead=sub p (σ.getD id .dead):=by rw[<-hσ1];simp
  -- what lies elsewhere lies there still
  have Y:∀a∈L,∀v1 c1,At w a.2 (σ.getD a.1 .dead) (ρ a.1) v1 c1->At w a.2 (σ1.getD a.1 .dead) (ρ1 a.1) v1 c1:=by
   intro a O v1 c1 hA;rw[hg a.1 (hLl a O),hr2 a.1 (hLl a O)];split
   .rename_i he
    rw[he]at hA⊢;rcases hap a O with E|E
    .exact absurd he.symm E
    .exact At.dvg E hA
   .exact hA
  obtain⟨σc,ρc,Fc,J,M,hcr,B,hM,hcv⟩:=Qp L _ _ _ _ hcr1 (λa O=>by
   obtain⟨E,sz',n',f',c',h2⟩:=hL a (mCM _ O);exact⟨by omega,sz',n',f',c',Y a O _ _ h2⟩) hp'
  have hlen:=B.len;have hNJ:σ.length∉J:=by
   intro hj;obtain⟨k,A,hk2⟩:=List.getElem_of_mem hj;have Z:k<L.length:=by rw[<-B.jl];exact A
   have e:J.getD k 0=σ.length:=by simp[A,hk2]
   have hmem:L.getD k (0,[])∈L:=by simp[Z]
   by_cases W:(L.getD k (0,[])).2=[]
   .have:=B.rt k Z W
    have:=hLl _ hmem;omega
   .have:=(B.pt k Z W).1
    omega
  have hρid:ρc id=ρ id:=(B.old id (by omega)).trans (hr2 id hid)
  have hρN:ρc σ.length=c:=(B.old _ (by omega)).trans hr1
  have U:∀k,k<L.length->L.getD k (0,[])∈L:=λk A=>by simp[A]
  refine⟨σc,ρc,Fc,σ.length::J,λv=>M (rrV id p σ.length v),by simpa [List.map_map,Function.comp_def]using hcr,⟨by omega,by simp[B.jl],λi hi=>(B.old i (by omega)).trans (hr2 i hi),List.nodup_cons.2 ⟨hNJ,B.nd⟩,λk A=>?_,λk A=>?_,λk A=>?_,λk A=>?_⟩,CL.comp (hM.weak λid' q hq=>⟨by have:=hq.1;omega,λa O=>hq.2 a (mCM _ O)⟩) (ZE λid' q hq W=>?_),λi hi=>?_⟩
  .cases k with
   |zero=>
    refine⟨by show σ.length<_;omega,?_⟩
    show σc.getD σ.length .dead=sub p (σ.getD id .dead);rw[hcv _ (by omega),KA (λa O E=>by have:=hLl a O;omega),hgN]
   |succ k=>
    have A:k<L.length:=by simpa using A
    obtain⟨E,h2⟩:=B.j k A;refine⟨by simpa using E,?_⟩
    obtain⟨_,sz',n',f',c',h3⟩:=hL _ (mCM _ (U k A));have h4:=At.sub (Y _ (U k A) _ _ h3);have h5:=At.sub h3;simp only[List.getD_cons_succ];rw[h2,<-h4,h5]
  .cases k with
   |zero=>intro W;exact absurd W hpn
   |succ k=>simpa using B.rt k (by simpa using A)
  .cases k with
   |zero=>
    intro _;refine⟨Nat.le_refl _,hpn,by show id<_;omega,by show σ.length<_;omega,by show σ.length≠id;omega,?_⟩
    show At w p (σc.getD id .dead) (ρc id) .dead (ρc σ.length);rw[hρid,hρN,hcv id (by omega),hg id hid,if_pos rfl]
    exact YA (λa O=>hap a O) (At.cut hat)
   |succ k=>
    intro W;have E:=B.pt k (by simpa using A) (by simpa using W)
    refine⟨?_,by simpa using E.2⟩
    have:=E.1;simp only[List.getD_cons_succ];omega
  .cases k with
   |zero=>
    show At w p (σ.getD id .dead) (ρ id) (sub p (σ.getD id .dead)) (ρc σ.length);rw[hρN,hsub];exact hat
   |succ k=>
    have A:k<L.length:=by simpa using A
    simp only[List.getD_cons_succ];obtain⟨_,sz',n',f',c',h3⟩:=hL _ (mCM _ (U k A));have h4:=Y _ (U k A) _ _ h3;have h5:=At.det h4 (B.val k A);rw[<-h5,<-At.sub h3];exact h3
  .have E:=hq.2 _ (List.mem_cons_self ..) W.1.symm
   rcases E with E|E
   .exact hpn E.1
   .rw[W.2]at E;cases E.2
  .rw[hcv i (by omega),hg i hi]
   show _=UL L i (if id=i/\p≠[]then upd p (σ.getD i .dead) .dead else σ.getD i .dead)
   by_cases he:i=id
   .subst he
    rw[if_pos rfl,if_pos ⟨rfl,hpn⟩]
   .rw[if_neg he,if_neg (λW=>he W.1.symm)]
end Go.Ve


namespace Go.Ve
variable{cts:Array Value}{C:Ctx}{J:List Nat}{ts σ:List V}{j:Nat}{S:Nat->List (Nat×Nat)->Prop}{F:Nat->Nat->Prop}{D:Nat->Prop}{ρ:Nat->Value}{w:World}
def IH(J:List Nat):V->V
 |.rs id q off len=>if id∈J/\q≠[]then .dead else .rs id q off len
 |.rp id q i k=>if id∈J/\q≠[]then .dead else .rp id q i k
 |.rm id q=>if id∈J/\q≠[]then .dead else .rm id q
 |.many t n f=>.many t n λk=>IH J (f k)
 |v=>v
def OQ(J:List Nat):Bb (IH J):=⟨λ_=>rfl,rfl,λ_ _ _ _ _=>rfl,λ_ _=>rfl,λ_ _ _=>rfl⟩
theorem VW(h:∀id q,S id q->¬ (id∈J/\q≠[])):CL (IH J) S:=
 ⟨OQ J,λid q off len e=>by unfold IH;grind,λid q i k e=>by unfold IH;grind,λid q e=>by unfold IH;grind⟩
def KY:List Nat->List V->List V->List V
 |j::J,v::vs,σ=>KY J vs (σ.set j v)
 |_,_,σ=>σ
def BF:∀(J:List Nat) (e σ:List V),(KY J e σ).length=σ.length
 |j::J,v::e,σ=>by show(KY J e (σ.set j v)).length=_;rw[BF];simp
 |[],_,σ=>rfl
 |_::_,[],σ=>rfl
def CQ:∀(J:List Nat) (e σ:List V) (i:Nat),i∉J->(KY J e σ).getD i .dead=σ.getD i .dead
 |j::J,v::e,σ,i,h=>by
  simp[not_or]at h;show(KY J e (σ.set j v)).getD i .dead=_;rw[CQ J e _ i h.2,Ag (Ne.symm h.1)]
 |[],_,σ,_,_=>rfl
 |_::_,[],σ,_,_=>rfl
theorem D6:∀(J:List Nat) (e σ:List V) (k:Nat),J.Nodup->e.length=J.length->(∀j∈J,j<σ.length)->k<J.length->(KY J e σ).getD (J.getD k 0) .dead=e.getD k .dead
 |j::J,v::e,σ,k,hn,hl,hj,hk=>by
  obtain⟨B,A⟩:=List.nodup_cons.1 hn;cases k with
  |zero=>
   show(KY J e (σ.set j v)).getD j .dead=v;rw[CQ J e _ j B,Ah (hj j (List.mem_cons_self ..))]
  |succ k=>exact D6 J e _ k A (by grind) (λi hi=>by grind) (by simp_all)
 |[],_,_,_,_,_,_,hk=>by trivial
 |_::_,[],_,_,_,hl,_,_=>by trivial
theorem CR.swap{w':World}{D':Nat->Prop}{F1:Nat->Nat->Prop}(h:CR C σ ts cts w D ρ F)(hJ:J.Nodup)(hJl:∀j∈J,j<σ.length){U:List V}(hl:U.length=J.length)
  (wr1:Bl U w' D' (λk=>ρ (J.getD k 0)) F1) (hfr:Fr w w' (λb=>∃j∈J,F j b)) (hF1:∀i b,F1 i b->(∃j∈J,F j b)\/w.heap.size<=b) (hD1:∀b,D b->D' b) (hD2:∀b,D' b->D b\/(∃j∈J,F j b)\/w.heap.size<=b)
  (hn:∀k,k<J.length->∃sz n f f',σ.getD (J.getD k 0) .dead=.nd true true sz n f/\U.getD k .dead=.nd true true sz n f'):∃F',CR C (KY J U σ) (ts.map (IH J)) cts w' D' ρ F':=by
 have hsame:∀b,b<w.heap.size->¬ (∃j∈J,F j b)->w'.heap[b]? =w.heap[b]?:=hfr.block;have hDs:∀b,D b->w'.heap[b]? =w.heap[b]?:=λb B=>hsame b (h.wr.Dlt b B) fun⟨j,_,hF⟩=>h.wr.dD j b hF B
 have hFs:∀i b,i∉J->F i b->w'.heap[b]? =w.heap[b]?:=λi b hi B=>hsame b (h.wr.lt i b B) fun⟨j,hj,hF⟩=>h.wr.disj i j b (λe=>hi (e▸hj)) B hF
 have E:∀i,i∈J->∃k,k<J.length/\J.getD k 0=i:=λi hi=>by
  obtain⟨k,O,rfl⟩:=List.getElem_of_mem hi;exact⟨k,O,by simp[O]⟩
 have hinj:∀k k',k<J.length->k'<J.length->J.getD k 0=J.getD k' 0->k=k':=λk k' h1 h2 he=>by
  simp only[gDE,gEE h1,gEE h2,Option.getD_some]at he;rcases Nat.lt_trichotomy k k' with hlt|heq|hlt
  .exact absurd he (List.pairwise_iff_getElem.1 hJ k k' h1 h2 hlt)
  .exact heq
  .exact absurd he.symm (List.pairwise_iff_getElem.1 hJ k' k h2 h1 hlt)
 have hmem:∀k,k<J.length->J.getD k 0∈J:=λk O=>by simp[O]
 let F':Nat->Nat->Prop:=λi b=>(i∉J/\F i b)\/∃k,k<J.length/\J.getD k 0=i/\F1 k b
 have Y:∀k,k<J.length->∀b,F' (J.getD k 0) b↔F1 k b:=λk O b=>by
  constructor
  .rintro (⟨h1,_⟩|⟨k',hk',he,B⟩)
   .exact absurd (hmem k O) h1
   .rw[hinj k' k hk' O he]at B;exact B
  .intro B;exact .inr ⟨k,O,rfl,B⟩
 have W:∀i,i∉J->∀b,F' i b↔F i b:=λi hi b=>by
  constructor
  .rintro (⟨_,h1⟩|⟨k,O,he,_⟩)
   .exact h1
   .exact absurd (he▸hmem k O) hi
  .intro B;exact .inl ⟨hi,B⟩
 refine⟨F',⟨⟨λi hi=>?_,λi j b hij B hb'=>?_,λi b B hD=>?_,wr1.Dlt,λi b hi B=>?_⟩,by simpa using h.sz,λt ht=>?_,?_,λi b B=>?_,λb B=>hD1 b (h.D1 b B),λb B hlt=>?_,h.rt,by rw[BF];exact h.ml⟩⟩
 .rw[BF]at hi
  by_cases A:i∈J
  .obtain⟨k,O,rfl⟩:=E i A
   rw[D6 J U σ k hJ hl hJl O];exact Rel.fp_congr (λb=>(Y k O b).symm) (wr1.rel k (by omega))
  .rw[CQ J U σ i A]
   refine Rel.fp_congr (λb=>(W i A b).symm) (Rel.mono hD1 (λ_ _ h=>h) _ _ _ (λb B=>?_) (h.wr.rel i hi))
   exact B.elim (hDs b) (hFs i b A)
 .by_cases A:i∈J<;>by_cases hjJ:j∈J
  .obtain⟨k,O,rfl⟩:=E i A
   obtain⟨l,hl',rfl⟩:=E j hjJ;exact wr1.disj k l b (λe=>hij (e▸rfl)) ((Y k O b).1 B) ((Y l hl' b).1 hb')
  .obtain⟨k,O,rfl⟩:=E i A
   have h2:=(W j hjJ b).1 hb';rcases hF1 k b ((Y k O b).1 B)with⟨l,hl',Z⟩|Z
   .exact h.wr.disj l j b (λe=>hjJ (e▸hl')) Z h2
   .have:=h.wr.lt j b h2;omega
  .obtain⟨l,hl',rfl⟩:=E j hjJ
   have h2:=(W i A b).1 B;rcases hF1 l b ((Y l hl' b).1 hb')with⟨m,hm,Z⟩|Z
   .exact h.wr.disj m i b (λe=>A (e▸hm)) Z h2
   .have:=h.wr.lt i b h2;omega
  .exact h.wr.disj i j b hij ((W i A b).1 B) ((W j hjJ b).1 hb')
 .by_cases A:i∈J
  .obtain⟨k,O,rfl⟩:=E i A
   exact wr1.dD k b ((Y k O b).1 B) hD
  .have h2:=(W i A b).1 B
   rcases hD2 b hD with Z|⟨j,hj,Z⟩|Z
   .exact h.wr.dD i b h2 Z
   .exact h.wr.disj i j b (λe=>A (e▸hj)) h2 Z
   .have:=h.wr.lt i b h2;omega
 .rw[BF]at hi
  by_cases A:i∈J
  .have:=hJl i A;omega
  .exact h.wr.out i b hi ((W i A b).1 B)
 .simp at ht
  have e1:(ts.map (IH J)).getD t .dead=IH J (ts.getD t .dead):=by simp[ht]
  rw[e1];refine Rel.mono (w:=w') (D:=D) hD1 (λ_ _ h=>h) _ _ _ (λ_ _=>rfl) ((OQ J).rel hDs ?_ ?_ ?_ _ _ noF (λ_ h=>h) (h.tm t ht))
  .rintro id p off len cv ⟨hid,sz,n,f,cn,ha,hle,hcv⟩
   unfold IH;split
   .exact λ_ h=>h
   .rename_i O
    refine⟨⟨by rw[BF];exact hid,?_⟩,λ_ h=>h⟩
    by_cases A:id∈J
    .have hp:p=[]:=Classical.byContradiction λhp=>O ⟨A,hp⟩
     subst hp;obtain⟨k,hk',rfl⟩:=E id A;obtain⟨sz',n',f1,f2,g1,g2⟩:=hn k hk';obtain⟨ha1,ha2⟩:=ha;rw[g1]at ha1;cases ha1;refine⟨sz,n,f2,cn,?_,hle,hcv⟩;rw[D6 J U σ k hJ hl hJl hk',g2];exact⟨rfl,ha2⟩
    .refine⟨sz,n,f,cn,?_,hle,hcv⟩
     rw[CQ J U σ id A];exact At.same (h.wr.rel id hid) ha λb B=>hFs id b A B
  .rintro id p i k cv ⟨hid,s,sz,n,f,b,o,cap,ha,h1,h2,hcv⟩
   unfold IH;split
   .exact λ_ h=>h
   .rename_i O
    refine⟨⟨by rw[BF];exact hid,?_⟩,λ_ h=>h⟩
    by_cases A:id∈J
    .have hp:p=[]:=Classical.byContradiction λhp=>O ⟨A,hp⟩
     subst hp;obtain⟨l,hl',rfl⟩:=E id A;obtain⟨sz',n',f1,f2,g1,g2⟩:=hn l hl';obtain⟨ha1,ha2⟩:=ha;rw[g1]at ha1;cases ha1;refine⟨true,sz,n,f2,b,o,cap,?_,h1,h2,hcv⟩;rw[D6 J U σ l hJ hl hJl hl',g2];exact⟨rfl,ha2⟩
    .refine⟨s,sz,n,f,b,o,cap,?_,h1,h2,hcv⟩
     rw[CQ J U σ id A];exact At.same (h.wr.rel id hid) ha λb B=>hFs id b A B
  .rintro id p cv ⟨hid,l,b,ha,hcv⟩
   unfold IH;split
   .exact λ_ h=>h
   .rename_i O
    refine⟨⟨by rw[BF];exact hid,l,b,?_,hcv⟩,λ_ h=>h⟩
    by_cases A:id∈J
    .have hp:p=[]:=Classical.byContradiction λhp=>O ⟨A,hp⟩
     subst hp;obtain⟨k,hk',rfl⟩:=E id A;obtain⟨sz',n',f1,f2,g1,g2⟩:=hn k hk';obtain⟨ha1,ha2⟩:=ha;rw[g1]at ha1;cases ha1
    .rw[CQ J U σ id A]
     exact At.same (h.wr.rel id hid) ha λb B=>hFs id b A B
 .refine⟨hfr.os.trans h.fr.os,hfr.tape.trans h.fr.tape,hfr.output.trans h.fr.output,Nat.le_trans h.fr.size hfr.size,λb B hW=>?_,Nat.le_trans h.fr.drawn hfr.drawn⟩
  rw[hsame b (Nat.lt_of_lt_of_le B h.fr.size) fun⟨j,_,hF⟩=>(h.Fn j b hF).elim hW λh=>by omega]
  exact h.fr.block b B hW
 .rcases B with⟨_,B⟩|⟨k,O,_,B⟩
  .exact h.Fn i b B
  .rcases hF1 k b B with⟨j,_,Z⟩|Z
   .exact h.Fn j b Z
   .exact .inr (Nat.le_trans h.fr.size Z)
 .rcases hD2 b B with Z|⟨j,_,Z⟩|Z
  .exact h.D2 b Z hlt
  .exact(h.Fn j b Z).elim .inr λh=>by omega
  .have:=h.fr.size;omega
theorem N0{b off:Nat}{v:Value}(h:w.cell? ⟨b,off,none⟩=some v):w.setCell ⟨b,off,none⟩ v=w:=by
 unfold World.cell? at h;cases A:w.heap[b]? with
 |none=>simp_all
 |some ob=>
  rw[A]at h;cases ob with
  |cells cs T fr=>
   rw[setCell_eq_setRow w b off cs T fr v A];have e:cs.setIfInBounds off v=cs:=by
    grind
   rw[e];exact setRow_self w b cs T fr A
  |_=>trivial
theorem At.last{w:World}{i k:Nat}:∀{p:List (Nat×Nat)}{v:V}{cv:Value}{v':V}{c':Value},At w (p++[(i,k)]) v cv v' c'->∃s sz n f b o cap,At w p v cv (.nd s true sz n f) (AA s b o n cap)/\i<n/\k<sz/\w.cell? ⟨b,o+i*sz+k,none⟩=some c'
 |[],v,cv,v',c',h=>by
  match v,h with
  |.nd s true sz n f,h=>
   obtain⟨U,O,b,o,cap,y,E,W,B⟩:=h;exact⟨s,sz,n,f,b,o,cap,⟨rfl,E.symm⟩,U,O,by rw[B.2];grind⟩
 |(j,l)::p,v,cv,v',c',h=>by
  match v,h with
  |.nd s true sz n f,h=>
   obtain⟨U,O,b,o,cap,y,E,W,B⟩:=h;obtain⟨s',A,Z,f',b',Y,e,g1,g2⟩:=At.last B;exact⟨s',A,Z,f',b',Y,e,⟨U,O,b,o,cap,y,E,W,g1⟩,g2⟩
theorem VO{id:Nat}{p:List (Nat×Nat)}(h:∀id' q,S id' q->id'≠j/\¬ (id'=id/\AT p q=true)):CL (A5 id p j) S:=
 ⟨CD id p j,λid' q off len e=>by unfold A5;grind,λid' q i k e=>by unfold A5;grind,λid' q e=>by unfold A5;grind⟩
theorem Li:∀{p:List (Nat×Nat)},p≠[]->∃p0 i k,p=p0++[(i,k)]
 |[],h=>absurd rfl h
 |[(i,k)],_=>⟨[],i,k,rfl⟩
 |a::b::p,_=>by
  obtain⟨p0,i,k,h⟩:=Li (p:=b::p) (by simp)
  grind
theorem CR.plug(h:CR C σ ts cts w D ρ F){a:C9}(E:YZ w σ ρ a j):
  ∃F',CR C ((σ.set a.1 (upd a.2 (σ.getD a.1 .dead) (σ.getD j .dead))).set j .dead) (ts.map (A5 a.1 a.2 j)) cts w D ρ F':=by
 obtain⟨id,p⟩:=a;obtain⟨e,hi,hj,A,B⟩:=E;obtain⟨p0,i,k,rfl⟩:=Li e;obtain⟨s,sz,n,f,b,o,cap,Z,Y,W,U⟩:=At.last B;have O:=h.store_move hi hj A Z Y W;rw[N0 U]at O
 grind
def DC(L:List (C9×V))(i:Nat)(v:V):V:=match L with
 |[]=>v
 |a::L=>DC L i (if a.1.1=i then upd a.1.2 v a.2 else v)
theorem Uc{C:Ctx}{cts:Array Value}{w:World}{D:Nat->Prop}{ρ:Nat->Value}:∀(H:List (C9×Nat)) (σ ts:List V) (F:Nat->Nat->Prop),CR C σ ts cts w D ρ F->(∀h∈H,YZ w σ ρ h.1 h.2)->(H.map (·.2)).Nodup->(∀h∈H,∀h'∈H,h.2≠h'.1.1)->H.Pairwise (λa b=>Ic a.1 b.1)->
  ∃(E:List V) (M:V->V) (F':Nat->Nat->Prop),CR C E (ts.map M) cts w D ρ F'/\E.length=σ.length/\CL M (λid q=>(∀h∈H,id≠h.2)/\∀h∈H,¬ (id=h.1.1/\AT h.1.2 q=true))/\
   ∀i,(∀h∈H,i≠h.2)->E.getD i .dead=DC (H.map λh=>(h.1,σ.getD h.2 .dead)) i (σ.getD i .dead)
 |[],σ,ts,F,h,_,_,_,_=>by
  have e:ts.map (λv=>v)=ts:=by simp
  exact⟨σ,λv=>v,F,by rw[e];exact h,rfl,CL.idf,λ_ _=>rfl⟩
 |(a,j)::H,σ,ts,F,h,hh,hnd,hne,hp=>by
  have ho:=hh _ (List.mem_cons_self ..);obtain⟨F1,h1⟩:=h.plug ho;obtain⟨hnj,W⟩:=List.nodup_cons.1 hnd;obtain⟨hap,hp'⟩:=List.pairwise_cons.1 hp;have hi:=ho.hi;have hj:=ho.hj;have hij:=ho.ij;simp only at hi hj hij;have hjs:∀h∈H,h.2≠j:=λh hh e=>hnj (by rw[<-e];exact List.mem_map.2 ⟨h,hh,rfl⟩)
  have hg:∀i,i≠j->((σ.set a.1 (upd a.2 (σ.getD a.1 .dead) (σ.getD j .dead))).set j .dead).getD i .dead=if a.1=i then upd a.2 (σ.getD i .dead) (σ.getD j .dead)else σ.getD i .dead:=by
   intro i O;rw[Ag (Ne.symm O)];by_cases Z:a.1=i
   .subst Z;rw[if_pos rfl,Ah hi]
   .rw[if_neg Z,Ag Z]
  obtain⟨E,M,F',h2,h3,h4,h5⟩:=Uc H _ _ _ h1 (λb A=>by
   have B:=hh b (mCM _ A);have hbj:b.1.1≠j:=λe=>hne _ (List.mem_cons_self ..) b (mCM _ A) e.symm
   refine⟨B.ne,by simpa using B.hi,by simpa using B.hj,B.ij,?_⟩
   rw[hg _ hbj];split
   .rename_i Z
    rcases hap b A with h6|h6
    .exact absurd Z h6
    .exact At.dvg h6 B.at'
   .exact B.at') W (λb A c hc=>hne b (mCM _ A) c (mCM _ hc)) hp'
  refine⟨E,λv=>M (A5 a.1 a.2 j v),F',by simpa [List.map_map,Function.comp_def]using h2,by rw[h3];simp,CL.comp (h4.weak λid q U=>⟨λb A=>U.1 b (mCM _ A),λb A=>U.2 b (mCM _ A)⟩) (VO λid q U=>⟨U.1 _ (List.mem_cons_self ..),U.2 _ (List.mem_cons_self ..)⟩),λi Y=>?_⟩
  have O:i≠j:=Y _ (List.mem_cons_self ..);rw[h5 i λb A=>Y b (mCM _ A),hg i O]
  have e:(H.map λh=>(h.1,((σ.set a.1 (upd a.2 (σ.getD a.1 .dead) (σ.getD j .dead))).set j .dead).getD h.2 .dead))=H.map λh=>(h.1,σ.getD h.2 .dead):=by
   refine List.map_congr_left λb A=>?_
   have hb2:a.1≠b.2:=λe=>hne b (mCM _ A) _ (List.mem_cons_self ..) e.symm
   rw[hg _ (hjs b A),if_neg hb2]
  rw[e];rfl
def QC:∀{L:List C9}{a:C9}{i:Nat}{v x:V},a.1=i->(∀b∈L,Ic a b)->upd a.2 (UL L i v) x=UL L i (upd a.2 v x)
 |[],_,_,_,_,_,_=>rfl
 |b::L,a,i,v,x,h,hb=>by
  unfold UL;rw[QC h λc e=>hb c (mCM _ e)]
  congr 1
  split
  .rcases hb b (List.mem_cons_self ..)with h1|h1
   .grind
   .exact QD _ _ _ _ _ h1
  rfl
def MR:∀{E:List (C9×V)}{i:Nat}{v:V},(E.map (·.1)).Pairwise Ic->(∀a∈E,a.1.1=i->a.1.2≠[])->DC E i (UL (E.map (·.1)) i v)=DC E i v
 |[],_,_,_,_=>rfl
 |a::E,i,v,hp,hn=>by
  obtain⟨O,A⟩:=List.pairwise_cons.1 hp;show DC E i (if a.1.1=i then upd a.1.2 (UL (E.map (·.1)) i (if a.1.1=i/\a.1.2≠[]then upd a.1.2 v .dead else v)) a.2 else UL (E.map (·.1)) i (if a.1.1=i/\a.1.2≠[]then upd a.1.2 v .dead else v))=DC E i (if a.1.1=i then upd a.1.2 v a.2 else v)
  by_cases e:a.1.1=i
  .rw[if_pos e,if_pos e,if_pos ⟨e,hn a (List.mem_cons_self ..) e⟩,QC e O,Ij]
   exact MR A λb B=>hn b (mCM _ B)
  .rw[if_neg e,if_neg e,if_neg (λh=>e h.1)]
   exact MR A λb B=>hn b (mCM _ B)
end Go.Ve


namespace Go.Ve
def FCW(P:Program)(f:FuncId)(args A:List V)(E:Value)(B:List V):Prop:=
 ∀(w:World) (D:Nat->Prop) (ρ:Nat->Value) (F:Nat->Nat->Prop) (cvs:Array Value),Wok w->(∀p,AbW=some p->∀i,¬F i p.1)->Bl A w D ρ F->cvs.size=args.length->(∀i,i<args.length->Rel D w (Ak A ρ w) (args.getD i .dead) (cvs.getD i undef) noF)->
  Calls P f cvs w λe w'=>e=.returned E/\∃(D':Nat->Prop) (F':Nat->Nat->Prop),Bl B w' D' ρ F'/\Fr w w' (λb=>∃i,F i b)/\(∀i b,F' i b->(∃j,F j b)\/w.heap.size<=b)/\(∀b,D b->D' b)/\(∀b,D' b->D b\/(∃j,F j b)\/w.heap.size<=b)
theorem Rel.len_eq{D D':Nat->Prop}{w w':World}{sz A n E:Nat}{f U:Nat->Nat->V}{cv:Value}{fp B:Nat->Prop}(h:Rel D w noR (.nd true true sz n f) cv fp)(O:Rel D' w' noR (.nd true true A E U) cv B):n=E:=by
 obtain⟨a,c,e⟩:=Rel.sliceLen h;obtain⟨Y,c',W⟩:=Rel.sliceLen O
 grind
def IA:∀{E:List (C9×V)}{i:Nat}{v:V},(∀a∈E,a.1.1≠i)->DC E i v=v
 |[],_,_,_=>rfl
 |a::E,i,v,h=>by
  unfold DC;rw[if_neg (h a (List.mem_cons_self ..))];exact IA λb e=>h b (mCM _ e)
theorem Lz:∀{E:List (C9×V)}{i:Nat}{v x:V},(E.map (·.1)).Pairwise Ic->((i,[]),x)∈E->DC E i v=x
 |[],_,_,_,_,h=>by grind
 |a::E,i,v,x,hp,h=>by
  obtain⟨B,A⟩:=List.pairwise_cons.1 hp;unfold DC;rcases List.mem_cons.1 h with rfl|h
  .rw[if_pos rfl]
   refine IA λb O e=>?_
   rcases B _ (List.mem_map.2 ⟨b,O,rfl⟩)with h1|h1
   .grind
   trivial
  .exact Lz A h
theorem I0:∀{E:List (C9×V)}{i:Nat}{v:V},(∀a∈E,a.1.1=i->a.1.2≠[])->DC (E.filter λa=>!a.1.2.isEmpty) i v=DC E i v
 |[],_,_,_=>rfl
 |a::E,i,v,h=>by
  have B:=λv=>I0 (v:=v) λb A=>h b (mCM _ A)
  cases A:a.1.2.isEmpty with
  |true=>
   have O:=λe=>h a (List.mem_cons_self ..) e (List.isEmpty_iff.1 A)
   show _=DC E i (if a.1.1=i then _ else v)
   grind
  |false=>
   rw[List.filter_cons_of_pos (by grind)]
   exact B _
theorem Aay{P:Program}{C:Ctx}{σ ts:List V}{cts:Array Value}{w:World}{D:Nat->Prop}{ρ:Nat->Value}{F:Nat->Nat->Prop}(h:CR C σ ts cts w D ρ F){f:FuncId}{args:List V}{L:List C9}{rv:Value}{B:List V}{cvs:Array Value}
  (hc:FCW P f args (L.map λa=>sub a.2 (σ.getD a.1 .dead)) rv B) (hL:∀a∈L,a.1<σ.length/\∃sz n f c,At w a.2 (σ.getD a.1 .dead) (ρ a.1) (.nd true true sz n f) c) (hp:L.Pairwise Ic) (hl1:B.length=L.length)
  (hsz:∀k,k<L.length->∃sz n n' f f',sub (L.getD k (0,[])).2 (σ.getD (L.getD k (0,[])).1 .dead)=.nd true true sz n f/\B.getD k .dead=.nd true true sz n' f')
  (hcs:cvs.size=args.length) (hargs:∀(ρ0:Nat->Value) (F0:Nat->Nat->Prop),Bl (L.map λa=>sub a.2 (σ.getD a.1 .dead)) w D ρ0 F0->(∀k,k<L.length->At w (L.getD k (0,[])).2 (σ.getD (L.getD k (0,[])).1 .dead) (ρ (L.getD k (0,[])).1) (sub (L.getD k (0,[])).2 (σ.getD (L.getD k (0,[])).1 .dead)) (ρ0 k))->
   ∀i,i<args.length->Rel D w (Ak (L.map λa=>sub a.2 (σ.getD a.1 .dead)) ρ0 w) (args.getD i .dead) (cvs.getD i undef) noF):
  Calls P f cvs w λe w'=>e=.returned rv/\∃(σ3:List V) (M:V->V),Wt C σ3 (ts.map M) cts w'/\σ.length<=σ3.length/\CL M (Off L σ.length)/\(∀i,i<σ.length->σ3.getD i .dead=DC (L.zip B) i (σ.getD i .dead))/\
   ∀k,k<L.length->∃sz n f f',sub (L.getD k (0,[])).2 (σ.getD (L.getD k (0,[])).1 .dead)=.nd true true sz n f/\B.getD k .dead=.nd true true sz n f':=by
 obtain⟨σc,ρc,Fc,J,M,hcr,E,hM,hcv⟩:=Qp L σ ts ρ F h hL hp;have Z:∀k,k<L.length->L.getD k (0,[])∈L:=λk E=>by simp[E]
 have hJl:∀j∈J,j<σc.length:=by
  intro j hj;obtain⟨k,U,rfl⟩:=List.getElem_of_mem hj;have:=(E.j k (by rw[<-E.jl];exact U)).1
  simpa [U]using this
 have hinj:∀k k',k<L.length->k'<L.length->J.getD k 0=J.getD k' 0->k=k':=λk k' O W he=>by
  rw[<-E.jl]at O W;simp only[gDE,gEE O,gEE W,Option.getD_some]at he;rcases Nat.lt_trichotomy k k' with hlt|heq|hlt
  .exact absurd he (List.pairwise_iff_getElem.1 E.nd k k' O W hlt)
  .exact heq
  .exact absurd he.symm (List.pairwise_iff_getElem.1 E.nd k' k W O hlt)
 have hg0:∀k,k<L.length->(L.map λa=>sub a.2 (σ.getD a.1 .dead)).getD k .dead=sub (L.getD k (0,[])).2 (σ.getD (L.getD k (0,[])).1 .dead):=λk E=>by simp[E]
 have wr0:Bl (L.map λa=>sub a.2 (σ.getD a.1 .dead)) w D (λk=>ρc (J.getD k 0)) (λk b=>k<L.length/\Fc (J.getD k 0) b):=by
  refine⟨λi hi=>?_,λi j b hij hb hb'=>?_,λi b hb=>hcr.wr.dD _ b hb.2,hcr.wr.Dlt,λi b hi hb=>?_⟩
  .have hi:i<L.length:=by simpa using hi
   rw[hg0 i hi];obtain⟨O,W⟩:=E.j i hi;rw[<-W];exact Rel.fp_congr (λb=>⟨λhb=>⟨hi,hb⟩,λhb=>hb.2⟩) (hcr.wr.rel _ O)
  .exact hcr.wr.disj _ _ b (λe=>hij (hinj i j hb.1 hb'.1 e)) hb.2 hb'.2
  .have:=hb.1;simp at hi;omega
 refine(hc w D _ _ cvs hcr.ok (λp hp i hF=>(hcr.Fn _ _ hF.2).elim (C.ok.2 p hp) λhle=>by have:=C.ok.1.lt hp;omega) wr0 hcs (hargs _ _ wr0 E.val)).mono λe w' hpost=>?_
 obtain⟨rfl,D',F1,wr1,hfr,hF1,hD1,hD2⟩:=hpost;refine⟨rfl,?_⟩;have hG:∀b,(∃i,i<L.length/\Fc (J.getD i 0) b)->∃j∈J,Fc j b:=λb ⟨i,hi,hb⟩=>⟨J.getD i 0,by rw[<-E.jl]at hi;simp[hi],hb⟩
 have hfr':Fr w w' (λb=>∃j∈J,Fc j b):=⟨hfr.os,hfr.tape,hfr.output,hfr.size,λb hb hn=>hfr.block b hb λhx=>hn (hG b hx),hfr.drawn⟩
 have hlen:∀k,k<L.length->∃sz n f f',sub (L.getD k (0,[])).2 (σ.getD (L.getD k (0,[])).1 .dead)=.nd true true sz n f/\B.getD k .dead=.nd true true sz n f':=by
  intro k hkl;obtain⟨sz,n,n',f1,f2,g1,g2⟩:=hsz k hkl;obtain⟨O,W⟩:=E.j k hkl;have r1:=hcr.wr.rel _ O;rw[W,g1]at r1;have r2:=wr1.rel k (by omega)
  rw[g2]at r2;have:=Rel.len_eq r1 r2;subst this;exact⟨sz,n,f1,f2,g1,g2⟩
 obtain⟨Fd,hsw⟩:=hcr.swap E.nd hJl (by rw[hl1,E.jl]) wr1 hfr' (λi b hb=>(hF1 i b hb).imp (hG b) id) hD1 (λb hb=>(hD2 b hb).imp id λh=>h.imp (hG b) id) (λk hkl=>by
  rw[E.jl]at hkl;obtain⟨sz,n,f1,f2,g1,g2⟩:=hlen k hkl;exact⟨sz,n,f1,f2,by rw[(E.j k hkl).2,g1],g2⟩)
 -- the holes
 have hparJ:∀a∈L,a.2≠[]->a.1∉J:=by
  intro a ha Y hj;obtain⟨k,U,hk2⟩:=List.getElem_of_mem hj;have A:k<L.length:=by rw[<-E.jl];exact U
  have e:J.getD k 0=a.1:=by simp[U,hk2]
  by_cases h0:(L.getD k (0,[])).2=[]
  .have O:=E.rt k A h0
   obtain⟨k',hk',rfl⟩:=List.getElem_of_mem ha;have e2:(L.getD k (0,[])).1=L[k'].1:=by omega
   have e3:L.getD k (0,[])=L[k]:=by simp[A]
   rw[e3]at e2 h0;rcases Nat.lt_trichotomy k k' with hlt|heq|hlt
   .rcases List.pairwise_iff_getElem.1 hp k k' A hk' hlt with W|W
    .exact W e2
    .rw[h0]at W;cases W
   .subst heq;exact Y h0
   .rcases List.pairwise_iff_getElem.1 hp k' k hk' A hlt with W|W
    .exact W e2.symm
    .rw[h0,Yz]at W;cases W
  .have:=(E.pt k A h0).1
   have:=(hL a ha).1;omega
 have hzip:∀h∈(L.zip J).filter (λh=>!h.1.2.isEmpty),∃k,k<L.length/\h.1=L.getD k (0,[])/\h.2=J.getD k 0/\h.1.2≠[]:=by
  intro h hh;obtain⟨O,W⟩:=List.mem_filter.1 hh;obtain⟨k,U,rfl⟩:=List.getElem_of_mem O;have A:k<L.length:=by simp at U;omega
  have hkJ:k<J.length:=by rw[E.jl];exact A
  refine⟨k,A,by simp[A],by simp[hkJ],λh0=>?_⟩
  rw[h0]at W;cases W
 have hsub2:((L.zip J).filter (λh=>!h.1.2.isEmpty)).Sublist (L.zip J):=List.filter_sublist
 have hzl:(L.zip J).map (·.1)=L:=List.map_fst_zip (by have:=E.jl;omega)
 have hzr:(L.zip J).map (·.2)=J:=List.map_snd_zip (by have:=E.jl;omega)
 obtain⟨σ3,M3,F3,h3,hl3,hM3,hv3⟩:=Uc ((L.zip J).filter λh=>!h.1.2.isEmpty) _ _ _ hsw (λa ha=>by
   obtain⟨k,A,e1,e2,Y⟩:=hzip a ha;obtain⟨_,ho⟩:=E.pt k A (by rw[<-e1];exact Y)
   rw[<-e1,<-e2]at ho;have hnJ:a.1.1∉J:=hparJ a.1 (by rw[e1];exact Z k A) Y
   refine⟨ho.ne,by rw[BF];exact ho.hi,by rw[BF];exact ho.hj,ho.ij,?_⟩
   rw[CQ J B σc _ hnJ];refine At.same (hcr.wr.rel _ ho.hi) ho.at' λb hb=>hfr'.block b (hcr.wr.lt _ b hb) fun⟨j,hj,hF⟩=>hcr.wr.disj a.1.1 j b (λe=>hnJ (by rw[e];exact hj)) hb hF)
  (List.Nodup.sublist (hsub2.map (·.2)) (by rw[hzr];exact E.nd))
  (λa ha b hb=>by
   obtain⟨k,A,e1,e2,Y⟩:=hzip a ha;obtain⟨k',hkL',e1',e2',hne'⟩:=hzip b hb;have O:=(E.pt k A (by rw[<-e1];exact Y)).1
   have W:=(hL b.1 (by rw[e1'];exact Z k' hkL')).1
   omega)
  (by
   have O:((L.zip J).map (·.1)).Pairwise Ic:=by rw[hzl];exact hp
   exact List.Pairwise.sublist hsub2 (List.pairwise_map.1 O))
 refine⟨σ3,λv=>M3 (IH J (M v)),⟨_,_,_,by simpa [List.map_map,Function.comp_def]using h3⟩,by rw[hl3,BF];exact E.len,?_,λi hi=>?_,hlen⟩
 .refine CL.comp (hM3.weak λid q hq=>⟨λa ha=>?_,λa ha h0=>?_⟩) (CL.comp (VW λid q hq h0=>?_) hM)
  .obtain⟨k,A,e1,e2,Y⟩:=hzip a ha
   have O:=(E.pt k A (by rw[<-e1];exact Y)).1
   have:=hq.1;omega
  .obtain⟨k,A,e1,e2,Y⟩:=hzip a ha
   rcases hq.2 a.1 (by rw[e1];exact Z k A) h0.1.symm with O|O
   .exact Y O.1
   .rw[h0.2]at O;cases O.2
  .obtain⟨k,U,hk2⟩:=List.getElem_of_mem h0.1
   have A:k<L.length:=by rw[<-E.jl];exact U
   have e:J.getD k 0=id:=by simp[U,hk2]
   by_cases O:(L.getD k (0,[])).2=[]
   .have W:=E.rt k A O
    rcases hq.2 _ (Z k A) (by omega)with h3|h3
    .exact h0.2 h3.2
    .exact h3.1 O
   .have:=(E.pt k A O).1
    have:=hq.1;omega
 .rw[hv3 i λa ha=>by
   obtain⟨k,A,e1,e2,Y⟩:=hzip a ha;have O:=(E.pt k A (by rw[<-e1];exact Y)).1
   omega]
  have hmapJ:J.map (λj=>(KY J B σc).getD j .dead)=B:=by
   apply List.ext_getElem
   .simp[hl1,E.jl]
   .intro k O W
    have hkJ:k<J.length:=by simpa using O
    have:=D6 J B σc k E.nd (by rw[hl1,E.jl]) hJl hkJ
    simp only[List.getElem_map];have e:J.getD k 0=J[k]:=by simp[hkJ]
    rw[e]at this;rw[this];simp[W]
  have hmapE:((L.zip J).filter λh=>!h.1.2.isEmpty).map (λh=>(h.1,(KY J B σc).getD h.2 .dead))=(L.zip B).filter λa=>!a.1.2.isEmpty:=by
   rw[<-hmapJ,List.zip_map_right,List.filter_map];simp only[Function.comp_def,hmapJ];rfl
  rw[hmapE];have hE1:(L.zip B).map (·.1)=L:=List.map_fst_zip (by omega)
  have hpE:((L.zip B).map (·.1)).Pairwise Ic:=by rw[hE1];exact hp
  by_cases hroot:∃k,k<L.length/\L.getD k (0,[])=(i,[])
  .obtain⟨k,A,he⟩:=hroot
   have hmem:((i,([]:List (Nat×Nat))),B.getD k .dead)∈L.zip B:=by
    have e1:L[k]=(i,[]):=by rw[<-he];simp[A]
    have U:k<B.length:=by omega
    have e2:(L.zip B)[k]'(by simp;omega)=((i,[]),B.getD k .dead):=by
     rw[List.getElem_zip,e1];simp[U]
    rw[<-e2];exact List.getElem_mem _
   rw[Lz hpE hmem];have hJk:J.getD k 0=i:=by
    have:=E.rt k A (by rw[he])
    rw[he]at this;exact this
   rw[IA]
   .have:=D6 J B σc k E.nd (by rw[hl1,E.jl]) hJl (by rw[E.jl];exact A)
    rw[hJk]at this;exact this
   .intro a ha e
    obtain⟨O,W⟩:=List.mem_filter.1 ha;have h3:a.1∈L:=by rw[<-hE1];exact List.mem_map.2 ⟨a,O,rfl⟩
    have h4:a.1.2≠[]:=λh0=>by rw[h0]at W;cases W
    exact hparJ a.1 h3 h4 (by rw[e,<-hJk];rw[<-E.jl]at A;simp[A])
  .have hnr:∀a∈L,a.1=i->a.2≠[]:=by
    intro a ha O W;obtain⟨k,A,rfl⟩:=List.getElem_of_mem ha;exact hroot ⟨k,A,by simp only[gDE,gEE A,Option.getD_some];rw[<-O,<-W]⟩
   have hnrE:∀a∈L.zip B,a.1.1=i->a.1.2≠[]:=λa ha=>hnr a.1 (by rw[<-hE1];exact List.mem_map.2 ⟨a,ha,rfl⟩)
   rw[I0 hnrE];have hiJ:i∉J:=by
    intro hj;obtain⟨k,U,hk2⟩:=List.getElem_of_mem hj;have A:k<L.length:=by rw[<-E.jl];exact U
    have e:J.getD k 0=i:=by simp[U,hk2]
    by_cases h0:(L.getD k (0,[])).2=[]
    .have O:=E.rt k A h0
     exact hnr _ (Z k A) (by omega) h0
    .have:=(E.pt k A h0).1
     omega
   rw[CQ J B σc i hiJ,hcv i hi];have:=MR (v:=σ.getD i .dead) hpE hnrE;rw[hE1]at this;exact this
end Go.Ve

