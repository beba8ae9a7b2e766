/- Parts of trees are handed to a callee that writes them: they are cut out, and put back. -/
import Derived.Test.YteakdlfnmhlifaaVy
open Nat(beq le_refl lt_trichotomy le_trans)
open List(mem_cons_self pairwise_cons getElem_of_mem nodup_cons map_map pairwise_iff_getElem mem_map range)
open Option(getD_some)
set_option linter.all false
namespace Go.Ve
variable{p:List (Nat×Nat)}{S:Nat->List (Nat×Nat)->Prop}{M:V->V}
def dvP:List (Nat×Nat)->List (Nat×Nat)->Bool
 |(_,k)::p,(_,l)::q=>!beq k l||dvP p q
 |_,_=>false
def U4:∀{p q:List (Nat×Nat)},dvP p q=true->dvP q p=true
 |(_,k)::p,(_,l)::q,h=>by
  simp[dvP,Bool.not_eq_true']at h⊢;rcases h with h|h
  .left
   cases e:beq l k with
   |false=>rfl
   |true=>simp_all
  .exact .inr (U4 h)
 |[],_,h=>by cases h
 |_::_,[],h=>by cases h
def YX:dvP p []=false:=by cases p<;>rfl
def Lh{i k:Nat}{s o:Bool}{sz n:Nat}{f:Nat->Nat->V}{x:V}:upd ((i,k)::p) (.nd s o sz n f) x=.nd s o sz n λi' k'=>if i'=i/\k'=k then upd p (f i k) x else f i' k':=rfl
def It:∀(p:List (Nat×Nat)) (v x y:V),upd p (upd p v x) y=upd p v y
 |[],_,_,_=>rfl
 |(i,k)::p,v,x,y=>by
  cases v with
  |nd s o sz n f=>
   rw[Lh,Lh]
   congr 1
   funext i' k'
   by_cases h:i'=i/\k'=k
   .simp[h,if_true];exact It p _ _ _
   grind
  |_=>rfl
theorem Q1:∀(p q:List (Nat×Nat)) (v x y:V),dvP p q=true->upd p (upd q v x) y=upd q (upd p v y) x
 |(i,k)::p,(j,l)::q,v,x,y,h=>by
  cases v with
  |nd s o sz n f=>
   rw[Lh,Lh,Lh,Lh]
   congr 1
   funext i' k'
   by_cases u:i'=i/\k'=k<;>by_cases e:i'=j/\k'=l
   .obtain⟨rfl,rfl⟩:=u
    obtain⟨rfl,rfl⟩:=e;have h:=by
     simpa [dvP,Nat.beq_refl]using h
    simp only[if_true];exact Q1 p q _ _ _ h
   .grind
   .grind
   grind
  |_=>rfl
 |[],_,_,_,_,h=>by cases h
 |_::_,[],_,_,_,h=>by cases h
theorem Sub.upd:∀(p:List (Nat×Nat)) {v v' x:V},Sub v v'->Sub (Go.Ve.upd p v x) (Go.Ve.upd p v' x)
 |[],_,_,_,_=>Sub.refl _
 |(i,k)::p,v,v',x,h=>by
  cases v with
  |nd s o sz n f=>
   obtain⟨g,rfl,e⟩:=h;refine⟨_,rfl,λi' k' hi u=>?_⟩
   by_cases A:i'=i/\k'=k
   .obtain⟨rfl,rfl⟩:=A
    simp[if_true];exact Sub.upd p (e _ _ hi u)
   grind
  |c v=>
   rcases h with rfl|⟨rfl,own,sz,f,rfl⟩
   .exact Sub.refl _
   .exact .inr ⟨rfl,own,sz,_,rfl⟩
  |dead=>cases h;rfl
  |many t n f=>obtain⟨g,rfl,e⟩:=h;exact⟨g,rfl,e⟩
  |rs=>cases h;rfl
  |rp=>cases h;rfl
  |rm=>cases h;rfl
  |mp=>cases h;rfl
theorem At.dvg{w:World}{x:V}:∀{p q:List (Nat×Nat)}{v:V}{cv:Value}{e:V}{c1:Value},dvP p q=true->At w q v cv e c1->At w q (upd p v x) cv e c1
 |(i,k)::p,(j,l)::q,v,cv,e,c1,h,ha=>by
  match v,ha with
  |.nd s true sz n f,ha=>
   obtain⟨O,H,b,o,cap,y,E,B,A⟩:=ha;refine⟨O,H,b,o,cap,y,E,B,?_⟩;by_cases u:j=i/\l=k
   .obtain⟨rfl,rfl⟩:=u
    have h:=by simpa [dvP,Nat.beq_refl]using h
    simp[if_true];exact At.dvg h A
   grind
 |[],_,_,_,_,_,h,_=>by cases h
 |_::_,[],_,_,_,_,h,_=>by cases h
def At.cut{w:World}:∀{p:List (Nat×Nat)}{v:V}{cv:Value}{e:V}{c1:Value},At w p v cv e c1->At w p (upd p v .dead) cv .dead c1
 |[],_,_,_,_,ha=>⟨rfl,ha.2⟩
 |(i,k)::p,v,cv,e,c1,ha=>by
  match v,ha with
  |.nd s true sz n f,ha=>
   obtain⟨H,E,b,o,cap,y,B,A,u⟩:=ha;exact⟨H,E,b,o,cap,y,B,A,by simp[if_true];exact At.cut u⟩
structure Cx(M:V->V)(S:Nat->List (Nat×Nat)->Prop):Prop where
 m:Bc M
 rs:∀id q off len,S id q->M (.rs id q off len)=.rs id q off len
 rp:∀id q i k,S id q->M (.rp id q i k)=.rp id q i k
 rm:∀id q,S id q->M (.rm id q)=.rm id q
def Cx.idf:Cx (λv=>v) S:=⟨⟨λ_=>rfl,rfl,λ_ _ _ _ _=>rfl,λ_ _=>rfl,λ_ _ _=>rfl⟩,λ_ _ _ _ _=>rfl,λ_ _ _ _ _=>rfl,λ_ _ _=>rfl⟩
def Cx.comp{N:V->V}(u:Cx M S)(e:Cx N S):Cx (λv=>M (N v)) S:=
 ⟨⟨λv=>by rw[e.m.c,u.m.c],by rw[e.m.dead,u.m.dead],λs own sz n f=>by rw[e.m.nd,u.m.nd],λown l=>by rw[e.m.mp,u.m.mp],λt n f=>by rw[e.m.many,u.m.many]⟩,
  λid q off len h=>by rw[e.rs id q off len h,u.rs id q off len h],λid q i k h=>by rw[e.rp id q i k h,u.rp id q i k h],λid q h=>by rw[e.rm id q h,u.rm id q h]⟩
def Cx.weak{S':Nat->List (Nat×Nat)->Prop}(u:Cx M S)(h:∀id q,S' id q->S id q):Cx M S':=
 ⟨u.m,λid q off len e=>u.rs id q off len (h id q e),λid q i k e=>u.rp id q i k (h id q e),λid q e=>u.rm id q (h id q e)⟩
abbrev Dh:=Nat×List (Nat×Nat)
def Il(a b:Dh):Prop:=a.1≠b.1\/dvP a.2 b.2=true
def Off(L:List Dh)(N:Nat)(id:Nat)(q:List (Nat×Nat)):Prop:=id<N/\∀a∈L,a.1=id->(a.2=[]/\q=[])\/(a.2≠[]/\AR a.2 q=false)
structure Zl(w:World)(σ:List V)(ρ:Nat->Value)(a:Dh)(j:Nat):Prop where
 ne:a.2≠[]
 hi:a.1<σ.length
 hj:j<σ.length
 ij:j≠a.1
 at':At w a.2 (σ.getD a.1 .dead) (ρ a.1) .dead (ρ j)
structure CutOK(w:World)(σ σc:List V)(ρ ρc:Nat->Value)(L:List Dh)(J:List Nat):Prop where
 len:σ.length<=σc.length
 jl:J.length=L.length
 old:∀i,i<σ.length->ρc i=ρ i
 nd:J.Nodup
 j:∀k,k<L.length->J.getD k 0<σc.length/\σc.getD (J.getD k 0) .dead=sub (L.getD k (0,[])).2 (σ.getD (L.getD k (0,[])).1 .dead)
 rt:∀k,k<L.length->(L.getD k (0,[])).2=[]->J.getD k 0=(L.getD k (0,[])).1
 pt:∀k,k<L.length->(L.getD k (0,[])).2≠[]->σ.length<=J.getD k 0/\Zl w σc ρc (L.getD k (0,[])) (J.getD k 0)
 val:∀k,k<L.length->At w (L.getD k (0,[])).2 (σ.getD (L.getD k (0,[])).1 .dead) (ρ (L.getD k (0,[])).1) (sub (L.getD k (0,[])).2 (σ.getD (L.getD k (0,[])).1 .dead)) (ρc (J.getD k 0))
def U8(L:List Dh)(i:Nat)(v:V):V:=match L with
 |[]=>v
 |a::L=>U8 L i (if a.1=i/\a.2≠[]then upd a.2 v .dead else v)
theorem Z1{id N:Nat}(h:∀id' q,S id' q->¬ (id'=id/\AR p q=true)):Cx (rrV id p N) S:=
 ⟨Dc id p N,λid' q off len e=>by unfold rrV;grind,λid' q i k e=>by unfold rrV;grind,λid' q e=>by unfold rrV;grind⟩
def At.det{w:World}:∀{p:List (Nat×Nat)}{v:V}{cv:Value}{E B:V}{c1 c2:Value},At w p v cv E c1->At w p v cv B c2->c1=c2
 |[],_,_,_,_,_,_,h,h'=>h.2.trans h'.2.symm
 |(i,k)::p,v,cv,E,B,c1,c2,h,h'=>by
  match v,h,h' with
  |.nd s true sz n f,h,h'=>
   obtain⟨_,_,b,o,cap,y,Y,W,U⟩:=h;obtain⟨_,_,b',Z,H,O,A,u,e⟩:=h';obtain⟨rfl,rfl,_⟩:=As (Y.symm.trans A);obtain rfl:y=O:=Option.some.inj (W.symm.trans u);exact At.det U e
def KI:∀{L:List Dh}{i:Nat}{v:V},(∀a∈L,a.1=i->a.2=[])->U8 L i v=v
 |[],_,_,_=>rfl
 |a::L,i,v,h=>by
  unfold U8;rw[if_neg (λe=>e.2 (h a (mem_cons_self ..) e.1))]
  exact KI λb u=>h b (mCM _ u)
def YY{w:World}{q:List (Nat×Nat)}{cv:Value}{e:V}{c1:Value}:∀{L:List Dh}{i:Nat}{v:V},(∀a∈L,Il (i,q) a)->At w q v cv e c1->At w q (U8 L i v) cv e c1
 |[],_,_,_,h=>h
 |a::L,i,v,h,ha=>by
  unfold U8;refine YY (λb u=>h b (mCM _ u)) ?_
  split
  .rcases h a (mem_cons_self ..)with h1|h1
   .omega
   .exact At.dvg (U4 h1) ha
  grind
theorem QL{C:Ctx}{cts:Array Value}{w:World}{D:Nat->Prop}:∀(L:List Dh) (σ ts:List V) (ρ:Nat->Value) (F:Nat->Nat->Prop),CR C σ ts cts w D ρ F->
  (∀a∈L,a.1<σ.length/\∃sz n f c,At w a.2 (σ.getD a.1 .dead) (ρ a.1) (.nd true true sz n f) c)->L.Pairwise Il->
  ∃(σc:List V) (ρc:Nat->Value) (Fc:Nat->Nat->Prop) (J:List Nat) (M:V->V),CR C σc (ts.map M) cts w D ρc Fc/\CutOK w σ σc ρ ρc L J/\Cx M (Off L σ.length)/\(∀i,i<σ.length->σc.getD i .dead=U8 L i (σ.getD i .dead))
 |[],σ,ts,ρ,F,h,_,_=>by
  have e:ts.map (λv=>v)=ts:=by simp
  refine⟨σ,ρ,F,[],λv=>v,by rw[e];exact h,⟨le_refl _,rfl,λ_ _=>rfl,List.nodup_nil,λk u=>by simp at u,λk u=>by simp at u,λk u=>by simp at u,λk u=>by simp at u⟩,Cx.idf,λi hi=>rfl⟩
 |(id,p)::L,σ,ts,ρ,F,h,hL,hp=>by
  obtain⟨Y,sz,n,f,c,hat⟩:=hL _ (mem_cons_self ..);obtain⟨hap,hp'⟩:=pairwise_cons.1 hp;simp only at Y hat;have hLl:∀a∈L,a.1<σ.length:=λa E=>(hL a (mCM _ E)).1
  by_cases hpn:p=[]
  .subst hpn
   obtain⟨σc,ρc,Fc,J,M,hcr,A,hM,Z⟩:=QL L σ ts ρ F h (λa E=>hL a (mCM _ E)) hp'
   have hne:∀a∈L,a.1≠id:=λa E=>by
    rcases hap a E with B|B
    .exact Ne.symm B
    .cases B
   have hcid:σc.getD id .dead=σ.getD id .dead:=by
    rw[Z id Y];exact KI λa E B=>absurd B (hne a E)
   have hjn:id∉J:=by
    intro hj;obtain⟨k,u,hk2⟩:=getElem_of_mem hj;have W:k<L.length:=by rw[<-A.jl];exact u
    have e:J.getD k 0=id:=by simp[u,hk2]
    have hmem:L.getD k (0,[])∈L:=by simp[W]
    by_cases O:(L.getD k (0,[])).2=[]
    .have:=A.rt k W O
     exact hne _ hmem (by omega)
    .have:=(A.pt k W O).1
     omega
   refine⟨σc,ρc,Fc,id::J,M,hcr,⟨A.len,by simp[A.jl],A.old,nodup_cons.2 ⟨hjn,A.nd⟩,λk u=>?_,λk u=>?_,λk u=>?_,λk u=>?_⟩,hM.weak λid' q hq=>⟨hq.1,λa E=>hq.2 a (mCM _ E)⟩,λi hi=>?_⟩
   .cases k with
    |zero=>exact⟨Nat.lt_of_lt_of_le Y A.len,hcid⟩
    |succ k=>simpa using A.j k (by simpa using u)
   .cases k with
    |zero=>intro _;rfl
    |succ k=>simpa using A.rt k (by simpa using u)
   .cases k with
    |zero=>intro O;exact absurd rfl O
    |succ k=>simpa using A.pt k (by simpa using u)
   .cases k with
    |zero=>
     show At w [] (σ.getD id .dead) (ρ id) (σ.getD id .dead) (ρc id);exact⟨rfl,A.old id Y⟩
    |succ k=>simpa using A.val k (by simpa using u)
   .show σc.getD i .dead=U8 L i (if id=i/\([]:List (Nat×Nat))≠[]then _ else σ.getD i .dead)
    rw[if_neg (λh=>h.2 rfl)]
    exact Z i hi
  obtain⟨ρ1,F1,hcr1,hr1,hr2,_⟩:=h.reroot Y hat;have hsub:sub p (σ.getD id .dead)=.nd true true sz n f:=(At.sub hat).symm;generalize hσ1:σ.set id (upd p (σ.getD id .dead) .dead)++[sub p (σ.getD id .dead)]=σ1 at hcr1;have hl1:σ1.length=σ.length+1:=by rw[<-hσ1];simp
  have hg:∀i,i<σ.length->σ1.getD i .dead=if i=id then upd p (σ.getD id .dead) .dead else σ.getD i .dead:=by
   intro i hi;rw[<-hσ1,AB (by simpa using hi)]
   by_cases he:i=id
   .subst he;rw[Ae hi,if_pos rfl]
   .rw[Ad (Ne.symm he),if_neg he]
  have hgN:σ1.getD σ.length .dead=sub p (σ.getD id .dead):=by rw[<-hσ1];simp
  -- what lies elsewhere lies there still
  have U:∀a∈L,∀v1 c1,At w a.2 (σ.getD a.1 .dead) (ρ a.1) v1 c1->At w a.2 (σ1.getD a.1 .dead) (ρ1 a.1) v1 c1:=by
   intro a E v1 c1 hA;rw[hg a.1 (hLl a E),hr2 a.1 (hLl a E)];split
   .rename_i he
    rw[he]at hA⊢;rcases hap a E with B|B
    .exact absurd he.symm B
    .exact At.dvg B hA
   .exact hA
  obtain⟨σc,ρc,Fc,J,M,hcr,A,hM,Z⟩:=QL L _ _ _ _ hcr1 (λa E=>by
   obtain⟨B,sz',n',f',c',h2⟩:=hL a (mCM _ E);exact⟨by omega,sz',n',f',c',U a E _ _ h2⟩) hp'
  have hlen:=A.len;have hNJ:σ.length∉J:=by
   intro hj;obtain⟨k,u,hk2⟩:=getElem_of_mem hj;have W:k<L.length:=by rw[<-A.jl];exact u
   have e:J.getD k 0=σ.length:=by simp[u,hk2]
   have hmem:L.getD k (0,[])∈L:=by simp[W]
   by_cases O:(L.getD k (0,[])).2=[]
   .have:=A.rt k W O
    have:=hLl _ hmem;omega
   .have:=(A.pt k W O).1
    omega
  have hρid:ρc id=ρ id:=(A.old id (by omega)).trans (hr2 id Y)
  have hρN:ρc σ.length=c:=(A.old _ (by omega)).trans hr1
  have H:∀k,k<L.length->L.getD k (0,[])∈L:=λk u=>by simp[u]
  refine⟨σc,ρc,Fc,σ.length::J,λv=>M (rrV id p σ.length v),by simpa [map_map,Function.comp_def]using hcr,⟨by omega,by simp[A.jl],λi hi=>(A.old i (by omega)).trans (hr2 i hi),nodup_cons.2 ⟨hNJ,A.nd⟩,λk u=>?_,λk u=>?_,λk u=>?_,λk u=>?_⟩,Cx.comp (hM.weak λid' q hq=>⟨by have:=hq.1;omega,λa E=>hq.2 a (mCM _ E)⟩) (Z1 λid' q hq O=>?_),λi hi=>?_⟩
  .cases k with
   |zero=>
    refine⟨by show σ.length<_;omega,?_⟩
    show σc.getD σ.length .dead=sub p (σ.getD id .dead);rw[Z _ (by omega),KI (λa E B=>by have:=hLl a E;omega),hgN]
   |succ k=>
    have u:k<L.length:=by simpa using u
    obtain⟨B,h2⟩:=A.j k u;refine⟨by simpa using B,?_⟩
    obtain⟨_,sz',n',f',c',h3⟩:=hL _ (mCM _ (H k u));have h4:=At.sub (U _ (H k u) _ _ h3);have h5:=At.sub h3;simp only[List.getD_cons_succ];rw[h2,<-h4,h5]
  .cases k with
   |zero=>intro O;exact absurd O hpn
   |succ k=>simpa using A.rt k (by simpa using u)
  .cases k with
   |zero=>
    intro _;refine⟨le_refl _,hpn,by show id<_;omega,by show σ.length<_;omega,by show σ.length≠id;omega,?_⟩
    show At w p (σc.getD id .dead) (ρc id) .dead (ρc σ.length);rw[hρid,hρN,Z id (by omega),hg id Y,if_pos rfl]
    exact YY (λa E=>hap a E) (At.cut hat)
   |succ k=>
    intro O;have B:=A.pt k (by simpa using u) (by simpa using O)
    refine⟨?_,by simpa using B.2⟩
    have:=B.1;simp only[List.getD_cons_succ];omega
  .cases k with
   |zero=>
    show At w p (σ.getD id .dead) (ρ id) (sub p (σ.getD id .dead)) (ρc σ.length);rw[hρN,hsub];exact hat
   |succ k=>
    have u:k<L.length:=by simpa using u
    simp only[List.getD_cons_succ];obtain⟨_,sz',n',f',c',h3⟩:=hL _ (mCM _ (H k u));have h4:=U _ (H k u) _ _ h3;have h5:=At.det h4 (A.val k u);rw[<-h5,<-At.sub h3];exact h3
  .have B:=hq.2 _ (mem_cons_self ..) O.1.symm
   rcases B with B|B
   .exact hpn B.1
   .rw[O.2]at B;cases B.2
  .rw[Z i (by omega),hg i hi]
   show _=U8 L i (if id=i/\p≠[]then upd p (σ.getD i .dead) .dead else σ.getD i .dead)
   by_cases he:i=id
   .subst he
    rw[if_pos rfl,if_pos ⟨rfl,hpn⟩]
   .rw[if_neg he,if_neg (λO=>he O.1.symm)]
end Go.Ve


namespace Go.Ve
variable{cts:Array Value}{C:Ctx}{J:List Nat}{ts σ:List V}{j:Nat}{S:Nat->List (Nat×Nat)->Prop}{F:Nat->Nat->Prop}{D:Nat->Prop}{ρ:Nat->Value}{w:World}
def D7(J:List Nat):V->V
 |.rs id q off len=>if id∈J/\q≠[]then .dead else .rs id q off len
 |.rp id q i k=>if id∈J/\q≠[]then .dead else .rp id q i k
 |.rm id q=>if id∈J/\q≠[]then .dead else .rm id q
 |.many t n f=>.many t n λk=>D7 J (f k)
 |v=>v
def O4(J:List Nat):Bc (D7 J):=⟨λ_=>rfl,rfl,λ_ _ _ _ _=>rfl,λ_ _=>rfl,λ_ _ _=>rfl⟩
theorem LV(h:∀id q,S id q->¬ (id∈J/\q≠[])):Cx (D7 J) S:=
 ⟨O4 J,λid q off len e=>by unfold D7;grind,λid q i k e=>by unfold D7;grind,λid q e=>by unfold D7;grind⟩
def Ho:List Nat->List V->List V->List V
 |j::J,v::vs,σ=>Ho J vs (σ.set j v)
 |_,_,σ=>σ
def BG:∀(J:List Nat) (e σ:List V),(Ho J e σ).length=σ.length
 |j::J,v::e,σ=>by show(Ho J e (σ.set j v)).length=_;rw[BG];simp
 |[],_,σ=>rfl
 |_::_,[],σ=>rfl
def C2:∀(J:List Nat) (e σ:List V) (i:Nat),i∉J->(Ho J e σ).getD i .dead=σ.getD i .dead
 |j::J,v::e,σ,i,h=>by
  simp[not_or]at h;show(Ho J e (σ.set j v)).getD i .dead=_;rw[C2 J e _ i h.2,Ad (Ne.symm h.1)]
 |[],_,σ,_,_=>rfl
 |_::_,[],σ,_,_=>rfl
theorem Hi:∀(J:List Nat) (e σ:List V) (k:Nat),J.Nodup->e.length=J.length->(∀j∈J,j<σ.length)->k<J.length->(Ho J e σ).getD (J.getD k 0) .dead=e.getD k .dead
 |j::J,v::e,σ,k,hn,hl,hj,hk=>by
  obtain⟨A,u⟩:=nodup_cons.1 hn;cases k with
  |zero=>
   show(Ho J e (σ.set j v)).getD j .dead=v;rw[C2 J e _ j A,Ae (hj j (mem_cons_self ..))]
  |succ k=>exact Hi J e _ k u (by grind) (λi hi=>by grind) (by simp_all)
 |[],_,_,_,_,_,_,hk=>by trivial
 |_::_,[],_,_,_,hl,_,_=>by trivial
theorem CR.swap{w':World}{D':Nat->Prop}{F1:Nat->Nat->Prop}(h:CR C σ ts cts w D ρ F)(hJ:J.Nodup)(hJl:∀j∈J,j<σ.length){H:List V}(hl:H.length=J.length)
  (wr1:Bg H w' D' (λk=>ρ (J.getD k 0)) F1) (hfr:Fr w w' (λb=>∃j∈J,F j b)) (hF1:∀i b,F1 i b->(∃j∈J,F j b)\/w.heap.size<=b) (hD1:∀b,D b->D' b) (hD2:∀b,D' b->D b\/(∃j∈J,F j b)\/w.heap.size<=b)
  (hn:∀k,k<J.length->∃s sz n f f',σ.getD (J.getD k 0) .dead=.nd s true sz n f/\H.getD k .dead=.nd s true sz n f'):∃F',CR C (Ho J H σ) (ts.map (D7 J)) cts w' D' ρ F'/\∀i b,F' i b->(i∉J/\F i b)\/∃k,F1 k b:=by
 have hsame:∀b,b<w.heap.size->¬ (∃j∈J,F j b)->w'.heap[b]? =w.heap[b]?:=hfr.block;have hDs:∀b,D b->w'.heap[b]? =w.heap[b]?:=λb A=>hsame b (h.wr.Dlt b A) fun⟨j,_,hF⟩=>h.wr.dD j b hF A
 have hFs:∀i b,i∉J->F i b->w'.heap[b]? =w.heap[b]?:=λi b hi A=>hsame b (h.wr.lt i b A) fun⟨j,hj,hF⟩=>h.wr.disj i j b (λe=>hi (e▸hj)) A hF
 have B:∀i,i∈J->∃k,k<J.length/\J.getD k 0=i:=λi hi=>by
  obtain⟨k,E,rfl⟩:=getElem_of_mem hi;exact⟨k,E,by simp[E]⟩
 have hinj:∀k k',k<J.length->k'<J.length->J.getD k 0=J.getD k' 0->k=k':=λk k' h1 h2 he=>by
  simp only[gDE,gEE h1,gEE h2,getD_some]at he;rcases lt_trichotomy k k' with hlt|heq|hlt
  .exact absurd he (pairwise_iff_getElem.1 hJ k k' h1 h2 hlt)
  .exact heq
  .exact absurd he.symm (pairwise_iff_getElem.1 hJ k' k h2 h1 hlt)
 have hmem:∀k,k<J.length->J.getD k 0∈J:=λk E=>by simp[E]
 let F':Nat->Nat->Prop:=λi b=>(i∉J/\F i b)\/∃k,k<J.length/\J.getD k 0=i/\F1 k b
 have U:∀k,k<J.length->∀b,F' (J.getD k 0) b↔F1 k b:=λk E b=>by
  constructor
  .rintro (⟨h1,_⟩|⟨k',hk',he,A⟩)
   .exact absurd (hmem k E) h1
   .rw[hinj k' k hk' E he]at A;exact A
  .intro A;exact .inr ⟨k,E,rfl,A⟩
 have O:∀i,i∉J->∀b,F' i b↔F i b:=λi hi b=>by
  constructor
  .rintro (⟨_,h1⟩|⟨k,E,he,_⟩)
   .exact h1
   .exact absurd (he▸hmem k E) hi
  .intro A;exact .inl ⟨hi,A⟩
 refine⟨F',⟨⟨λi hi=>?_,λi j b hij A hb'=>?_,λi b A hD=>?_,wr1.Dlt,λi b hi A=>?_⟩,by simpa using h.sz,λt ht=>?_,?_,λi b A=>?_,λb A=>hD1 b (h.D1 b A),λb A hlt=>?_,h.rt,by rw[BG];exact h.ml⟩,λi b A=>A.imp id fun⟨k,_,_,A⟩=>⟨k,A⟩⟩
 .rw[BG]at hi
  by_cases u:i∈J
  .obtain⟨k,E,rfl⟩:=B i u
   rw[Hi J H σ k hJ hl hJl E];exact Rel.fp_congr (λb=>(U k E b).symm) (wr1.rel k (by omega))
  .rw[C2 J H σ i u]
   refine Rel.fp_congr (λb=>(O i u b).symm) (Rel.mono hD1 (λ_ _ h=>h) _ _ _ (λb A=>?_) (h.wr.rel i hi))
   exact A.elim (hDs b) (hFs i b u)
 .by_cases u:i∈J<;>by_cases hjJ:j∈J
  .obtain⟨k,E,rfl⟩:=B i u
   obtain⟨l,Y,rfl⟩:=B j hjJ;exact wr1.disj k l b (λe=>hij (e▸rfl)) ((U k E b).1 A) ((U l Y b).1 hb')
  .obtain⟨k,E,rfl⟩:=B i u
   have h2:=(O j hjJ b).1 hb';rcases hF1 k b ((U k E b).1 A)with⟨l,Y,W⟩|W
   .exact h.wr.disj l j b (λe=>hjJ (e▸Y)) W h2
   .have:=h.wr.lt j b h2;omega
  .obtain⟨l,Y,rfl⟩:=B j hjJ
   have h2:=(O i u b).1 A;rcases hF1 l b ((U l Y b).1 hb')with⟨m,hm,W⟩|W
   .exact h.wr.disj m i b (λe=>u (e▸hm)) W h2
   .have:=h.wr.lt i b h2;omega
  .exact h.wr.disj i j b hij ((O i u b).1 A) ((O j hjJ b).1 hb')
 .by_cases u:i∈J
  .obtain⟨k,E,rfl⟩:=B i u
   exact wr1.dD k b ((U k E b).1 A) hD
  .have h2:=(O i u b).1 A
   rcases hD2 b hD with W|⟨j,hj,W⟩|W
   .exact h.wr.dD i b h2 W
   .exact h.wr.disj i j b (λe=>u (e▸hj)) h2 W
   .have:=h.wr.lt i b h2;omega
 .rw[BG]at hi
  by_cases u:i∈J
  .have:=hJl i u;omega
  .exact h.wr.out i b hi ((O i u b).1 A)
 .simp at ht
  have e1:(ts.map (D7 J)).getD t .dead=D7 J (ts.getD t .dead):=by simp[ht]
  rw[e1];refine Rel.mono (w:=w') (D:=D) hD1 (λ_ _ h=>h) _ _ _ (λ_ _=>rfl) ((O4 J).rel hDs ?_ ?_ ?_ _ _ noF (λ_ h=>h) (h.tm t ht))
  .rintro id p off len cv ⟨Z,sz,n,f,cn,ha,hle,hcv⟩
   unfold D7;split
   .exact λ_ h=>h
   .rename_i E
    refine⟨⟨by rw[BG];exact Z,?_⟩,λ_ h=>h⟩
    by_cases u:id∈J
    .have hp:p=[]:=Classical.byContradiction λhp=>E ⟨u,hp⟩
     subst hp;obtain⟨k,hk',rfl⟩:=B id u;obtain⟨s',sz',n',f1,f2,g1,g2⟩:=hn k hk';obtain⟨ha1,ha2⟩:=ha;rw[g1]at ha1;cases ha1;refine⟨sz,n,f2,cn,?_,hle,hcv⟩;rw[Hi J H σ k hJ hl hJl hk',g2];exact⟨rfl,ha2⟩
    .refine⟨sz,n,f,cn,?_,hle,hcv⟩
     rw[C2 J H σ id u];exact At.same (h.wr.rel id Z) ha λb A=>hFs id b u A
  .rintro id p i k cv ⟨Z,s,sz,n,f,b,o,cap,ha,h1,h2,hcv⟩
   unfold D7;split
   .exact λ_ h=>h
   .rename_i E
    refine⟨⟨by rw[BG];exact Z,?_⟩,λ_ h=>h⟩
    by_cases u:id∈J
    .have hp:p=[]:=Classical.byContradiction λhp=>E ⟨u,hp⟩
     subst hp;obtain⟨l,Y,rfl⟩:=B id u;obtain⟨s',sz',n',f1,f2,g1,g2⟩:=hn l Y;obtain⟨ha1,ha2⟩:=ha;rw[g1]at ha1;cases ha1;refine⟨s,sz,n,f2,b,o,cap,?_,h1,h2,hcv⟩;rw[Hi J H σ l hJ hl hJl Y,g2];exact⟨rfl,ha2⟩
    .refine⟨s,sz,n,f,b,o,cap,?_,h1,h2,hcv⟩
     rw[C2 J H σ id u];exact At.same (h.wr.rel id Z) ha λb A=>hFs id b u A
  .rintro id p cv ⟨Z,l,b,ha,hcv⟩
   unfold D7;split
   .exact λ_ h=>h
   .rename_i E
    refine⟨⟨by rw[BG];exact Z,l,b,?_,hcv⟩,λ_ h=>h⟩
    by_cases u:id∈J
    .have hp:p=[]:=Classical.byContradiction λhp=>E ⟨u,hp⟩
     subst hp;obtain⟨k,hk',rfl⟩:=B id u;obtain⟨s',sz',n',f1,f2,g1,g2⟩:=hn k hk';obtain⟨ha1,ha2⟩:=ha;rw[g1]at ha1;cases ha1
    .rw[C2 J H σ id u]
     exact At.same (h.wr.rel id Z) ha λb A=>hFs id b u A
 .refine⟨hfr.os.trans h.fr.os,hfr.tape.trans h.fr.tape,hfr.output.trans h.fr.output,le_trans h.fr.size hfr.size,λb A hW=>?_,le_trans h.fr.drawn hfr.drawn⟩
  rw[hsame b (Nat.lt_of_lt_of_le A h.fr.size) fun⟨j,_,hF⟩=>(h.Fn j b hF).elim hW λh=>by omega]
  exact h.fr.block b A hW
 .rcases A with⟨_,A⟩|⟨k,E,_,A⟩
  .exact h.Fn i b A
  .rcases hF1 k b A with⟨j,_,W⟩|W
   .exact h.Fn j b W
   .exact .inr (le_trans h.fr.size W)
 .rcases hD2 b A with W|⟨j,_,W⟩|W
  .exact h.D2 b W hlt
  .exact(h.Fn j b W).elim .inr λh=>by omega
  .have:=h.fr.size;omega
theorem Of{b off:Nat}{v:Value}(h:w.cell? ⟨b,off,none⟩=some v):w.setCell ⟨b,off,none⟩ v=w:=by
 unfold World.cell? at h;cases u:w.heap[b]? with
 |none=>simp_all
 |some ob=>
  rw[u]at h;cases ob with
  |cells cs T fr=>
   rw[setCell_eq_setRow w b off cs T fr v u];have e:cs.setIfInBounds off v=cs:=by
    grind
   rw[e];exact setRow_self w b cs T fr u
  |_=>trivial
theorem At.last{w:World}{i k:Nat}:∀{p:List (Nat×Nat)}{v:V}{cv:Value}{v':V}{c':Value},At w (p++[(i,k)]) v cv v' c'->∃s sz n f b o cap,At w p v cv (.nd s true sz n f) (Ay s b o n cap)/\i<n/\k<sz/\w.cell? ⟨b,o+i*sz+k,none⟩=some c'
 |[],v,cv,v',c',h=>by
  match v,h with
  |.nd s true sz n f,h=>
   obtain⟨H,E,b,o,cap,y,B,O,A⟩:=h;exact⟨s,sz,n,f,b,o,cap,⟨rfl,B.symm⟩,H,E,by rw[A.2];grind⟩
 |(j,l)::p,v,cv,v',c',h=>by
  match v,h with
  |.nd s true sz n f,h=>
   obtain⟨H,E,b,o,cap,y,B,O,A⟩:=h;obtain⟨s',u,W,Y,Z,U,e,g1,g2⟩:=At.last A;exact⟨s',u,W,Y,Z,U,e,⟨H,E,b,o,cap,y,B,O,g1⟩,g2⟩
theorem V5{id:Nat}{p:List (Nat×Nat)}(h:∀id' q,S id' q->id'≠j/\¬ (id'=id/\AR p q=true)):Cx (A2 id p j) S:=
 ⟨CL id p j,λid' q off len e=>by unfold A2;grind,λid' q i k e=>by unfold A2;grind,λid' q e=>by unfold A2;grind⟩
theorem Lp:∀{p:List (Nat×Nat)},p≠[]->∃p0 i k,p=p0++[(i,k)]
 |[],h=>absurd rfl h
 |[(i,k)],_=>⟨[],i,k,rfl⟩
 |a::b::p,_=>by
  obtain⟨p0,i,k,h⟩:=Lp (p:=b::p) (by simp)
  grind
theorem CR.plug(h:CR C σ ts cts w D ρ F){a:Dh}(B:Zl w σ ρ a j):
  ∃F',CR C ((σ.set a.1 (upd a.2 (σ.getD a.1 .dead) (σ.getD j .dead))).set j .dead) (ts.map (A2 a.1 a.2 j)) cts w D ρ F':=by
 obtain⟨id,p⟩:=a;obtain⟨e,hi,hj,u,A⟩:=B;obtain⟨p0,i,k,rfl⟩:=Lp e;obtain⟨s,sz,n,f,b,o,cap,W,U,O,H⟩:=At.last A;have E:=h.store_move hi hj u W U O;rw[Of H]at E
 grind
def DG(L:List (Dh×V))(i:Nat)(v:V):V:=match L with
 |[]=>v
 |a::L=>DG L i (if a.1.1=i then upd a.1.2 v a.2 else v)
theorem UA{C:Ctx}{cts:Array Value}{w:World}{D:Nat->Prop}{ρ:Nat->Value}:∀(H:List (Dh×Nat)) (σ ts:List V) (F:Nat->Nat->Prop),CR C σ ts cts w D ρ F->(∀h∈H,Zl w σ ρ h.1 h.2)->(H.map (·.2)).Nodup->(∀h∈H,∀h'∈H,h.2≠h'.1.1)->H.Pairwise (λa b=>Il a.1 b.1)->
  ∃(B:List V) (M:V->V) (F':Nat->Nat->Prop),CR C B (ts.map M) cts w D ρ F'/\B.length=σ.length/\Cx M (λid q=>(∀h∈H,id≠h.2)/\∀h∈H,¬ (id=h.1.1/\AR h.1.2 q=true))/\
   ∀i,(∀h∈H,i≠h.2)->B.getD i .dead=DG (H.map λh=>(h.1,σ.getD h.2 .dead)) i (σ.getD i .dead)
 |[],σ,ts,F,h,_,_,_,_=>by
  have e:ts.map (λv=>v)=ts:=by simp
  exact⟨σ,λv=>v,F,by rw[e];exact h,rfl,Cx.idf,λ_ _=>rfl⟩
 |(a,j)::H,σ,ts,F,h,hh,hnd,hne,hp=>by
  have Z:=hh _ (mem_cons_self ..);obtain⟨F1,h1⟩:=h.plug Z;obtain⟨hnj,U⟩:=nodup_cons.1 hnd;obtain⟨hap,hp'⟩:=pairwise_cons.1 hp;have hi:=Z.hi;have hj:=Z.hj;have hij:=Z.ij;simp only at hi hj hij;have hjs:∀h∈H,h.2≠j:=λh hh e=>hnj (by rw[<-e];exact mem_map.2 ⟨h,hh,rfl⟩)
  have hg:∀i,i≠j->((σ.set a.1 (upd a.2 (σ.getD a.1 .dead) (σ.getD j .dead))).set j .dead).getD i .dead=if a.1=i then upd a.2 (σ.getD i .dead) (σ.getD j .dead)else σ.getD i .dead:=by
   intro i E;rw[Ad (Ne.symm E)];by_cases Y:a.1=i
   .subst Y;rw[if_pos rfl,Ae hi]
   .rw[if_neg Y,Ad Y]
  obtain⟨B,M,F',h2,h3,h4,h5⟩:=UA H _ _ _ h1 (λb u=>by
   have A:=hh b (mCM _ u);have hbj:b.1.1≠j:=λe=>hne _ (mem_cons_self ..) b (mCM _ u) e.symm
   refine⟨A.ne,by simpa using A.hi,by simpa using A.hj,A.ij,?_⟩
   rw[hg _ hbj];split
   .rename_i Y
    rcases hap b u with h6|h6
    .exact absurd Y h6
    .exact At.dvg h6 A.at'
   .exact A.at') U (λb u c hc=>hne b (mCM _ u) c (mCM _ hc)) hp'
  refine⟨B,λv=>M (A2 a.1 a.2 j v),F',by simpa [map_map,Function.comp_def]using h2,by rw[h3];simp,Cx.comp (h4.weak λid q O=>⟨λb u=>O.1 b (mCM _ u),λb u=>O.2 b (mCM _ u)⟩) (V5 λid q O=>⟨O.1 _ (mem_cons_self ..),O.2 _ (mem_cons_self ..)⟩),λi W=>?_⟩
  have E:i≠j:=W _ (mem_cons_self ..);rw[h5 i λb u=>W b (mCM _ u),hg i E]
  have e:(H.map λh=>(h.1,((σ.set a.1 (upd a.2 (σ.getD a.1 .dead) (σ.getD j .dead))).set j .dead).getD h.2 .dead))=H.map λh=>(h.1,σ.getD h.2 .dead):=by
   refine List.map_congr_left λb u=>?_
   have hb2:a.1≠b.2:=λe=>hne b (mCM _ u) _ (mem_cons_self ..) e.symm
   rw[hg _ (hjs b u),if_neg hb2]
  rw[e];rfl
def QZ:∀{L:List Dh}{a:Dh}{i:Nat}{v x:V},a.1=i->(∀b∈L,Il a b)->upd a.2 (U8 L i v) x=U8 L i (upd a.2 v x)
 |[],_,_,_,_,_,_=>rfl
 |b::L,a,i,v,x,h,hb=>by
  unfold U8;rw[QZ h λc e=>hb c (mCM _ e)]
  congr 1
  split
  .rcases hb b (mem_cons_self ..)with h1|h1
   .grind
   .exact Q1 _ _ _ _ _ h1
  rfl
def MY:∀{E:List (Dh×V)}{i:Nat}{v:V},(E.map (·.1)).Pairwise Il->(∀a∈E,a.1.1=i->a.1.2≠[])->DG E i (U8 (E.map (·.1)) i v)=DG E i v
 |[],_,_,_,_=>rfl
 |a::E,i,v,hp,hn=>by
  obtain⟨B,u⟩:=pairwise_cons.1 hp;show DG E i (if a.1.1=i then upd a.1.2 (U8 (E.map (·.1)) i (if a.1.1=i/\a.1.2≠[]then upd a.1.2 v .dead else v)) a.2 else U8 (E.map (·.1)) i (if a.1.1=i/\a.1.2≠[]then upd a.1.2 v .dead else v))=DG E i (if a.1.1=i then upd a.1.2 v a.2 else v)
  by_cases e:a.1.1=i
  .rw[if_pos e,if_pos e,if_pos ⟨e,hn a (mem_cons_self ..) e⟩,QZ e B,It]
   exact MY u λb A=>hn b (mCM _ A)
  .rw[if_neg e,if_neg e,if_neg (λh=>e h.1)]
   exact MY u λb A=>hn b (mCM _ A)
end Go.Ve


namespace Go.Ve
variable{C:Ctx}{w:World}
def FCM(P:Program)(f:FuncId)(args σ0:List V)(r:V)(u:List V):Prop:=
 ∀(w:World) (D:Nat->Prop) (ρ:Nat->Value) (F:Nat->Nat->Prop) (cvs:Array Value),Wok w->(∀p,Abf=some p->∀i,¬F i p.1)->Bg σ0 w D ρ F->cvs.size=args.length->(∀i,i<args.length->Rel D w (Ai σ0 ρ w) (args.getD i .dead) (cvs.getD i undef) noF)->
  Calls P f cvs w λe w'=>∃(cv:Value) (fp D':Nat->Prop) (F':Nat->Nat->Prop),e=.returned cv/\Rel D' w' noR r cv fp/\Bg u w' D' ρ F'/\Fr w w' (λb=>∃i,F i b)/\
   (∀b,fp b->((∃j,F j b)\/w.heap.size<=b)/\¬D' b/\∀i,¬F' i b)/\(∀i b,F' i b->(∃j,F j b)\/w.heap.size<=b)/\(∀b,D b->D' b)/\(∀b,D' b->D b\/(∃j,F j b)\/w.heap.size<=b)
theorem AaY{P:Program}{σ ts:List V}{cts:Array Value}{D:Nat->Prop}{ρ:Nat->Value}{F:Nat->Nat->Prop}(h:CR C σ ts cts w D ρ F){f:FuncId}{args:List V}{J:List Nat}{r:V}{E:List V}{cvs:Array Value}
  {σ0:List V} (hc:FCM P f args σ0 r E) (hl0:σ0.length=J.length) (hs0:∀k,k<J.length->Sub (σ.getD (J.getD k 0) .dead) (σ0.getD k .dead)) (hJ:J.Nodup) (hJl:∀j∈J,j<σ.length) (hl1:E.length=J.length)
  (hsz:∀k,k<J.length->∃s sz n f f',σ.getD (J.getD k 0) .dead=.nd s true sz n f/\E.getD k .dead=.nd s true sz n f')
  (hcs:cvs.size=args.length) (U:∀i,i<args.length->Rel D w (Ai σ0 (λk=>ρ (J.getD k 0)) w) (args.getD i .dead) (cvs.getD i undef) noF):
  Calls P f cvs w λe w'=>∃(cv:Value) (fp D':Nat->Prop) (F':Nat->Nat->Prop),e=.returned cv/\CR C (Ho J E σ) (ts.map (D7 J)) cts w' D' ρ F'/\Rel D' w' noR r cv fp/\∀b,fp b->(C.W b\/C.w0.heap.size<=b)/\¬D' b/\∀i,¬F' i b:=by
 have Y:∀k k',k<J.length->k'<J.length->J.getD k 0=J.getD k' 0->k=k':=λk k' B h2 he=>by
  simp only[gDE,gEE B,gEE h2,getD_some]at he;rcases lt_trichotomy k k' with hlt|heq|hlt
  .exact absurd he (pairwise_iff_getElem.1 hJ k k' B h2 hlt)
  .exact heq
  .exact absurd he.symm (pairwise_iff_getElem.1 hJ k' k h2 B hlt)
 have H:∀k,k<J.length->J.getD k 0∈J:=λk hk=>by simp[hk]
 have wr0:Bg σ0 w D (λk=>ρ (J.getD k 0)) (λk b=>k<J.length/\F (J.getD k 0) b):=by
  refine⟨λi hi=>?_,λi j b hij u hb'=>?_,λi b u=>h.wr.dD _ b u.2,h.wr.Dlt,λi b hi u=>?_⟩
  .have hi:i<J.length:=by omega
   exact Rel.fp_congr (λb=>⟨λu=>⟨hi,u⟩,λu=>u.2⟩) (Rel.sub (hs0 i hi) (h.wr.rel _ (hJl _ (H i hi))))
  .exact h.wr.disj _ _ b (λe=>hij (Y i j u.1 hb'.1 e)) u.2 hb'.2
  .have:=u.1;omega
 have hG:∀b,(∃i,i<J.length/\F (J.getD i 0) b)->∃j∈J,F j b:=λb ⟨i,hi,u⟩=>⟨J.getD i 0,H i hi,u⟩
 refine(hc w D _ _ cvs h.ok (λp hp i hF=>(h.Fn _ _ hF.2).elim (C.ok.2 p hp) λhle=>by have:=C.ok.1.lt hp;omega) wr0 hcs U).mono λe w' O=>?_
 obtain⟨cv,fp,D',F1,rfl,hr,wr1,A,hfp,hF1,hD1,hD2⟩:=O;have Z:Fr w w' (λb=>∃j∈J,F j b):=⟨A.os,A.tape,A.output,A.size,λb u hn=>A.block b u λhx=>hn (hG b hx),A.drawn⟩
 obtain⟨F',hsw,hF'⟩:=h.swap hJ hJl hl1 wr1 Z (λi b u=>(hF1 i b u).imp (hG b) id) hD1 (λb u=>(hD2 b u).imp id λh=>h.imp (hG b) id) hsz
 refine⟨cv,fp,D',F',rfl,hsw,hr,λb u=>?_⟩
 obtain⟨B,h2,h3⟩:=hfp b u;refine⟨?_,h2,λi hF=>?_⟩
 .rcases B with B|B
  .obtain⟨j,_,hj⟩:=hG b B
   exact h.Fn j b hj
  .exact .inr (le_trans h.fr.size B)
 .rcases hF' i b hF with⟨h4,h5⟩|⟨k,h4⟩
  .rcases B with B|B
   .obtain⟨j,hj,hF2⟩:=hG b B
    exact h.wr.disj i j b (λe=>h4 (e▸hj)) h5 hF2
   .have:=h.wr.lt i b h5;omega
  .exact h3 k h4
def Ms.turn(S:Ms)(J:List Nat)(e:List V):Ms:=⟨λx=>D7 J (S.t x),Ho J e S.σ⟩
def AaW{P:Program}{h:Cd}{S:Ms}{a:Act}{o:Oper}{f:FuncId}{cvs:Array Value}{args:List V}{J:List Nat}{r:V}{A:List V}{next:Act->World->Prop}{Q:Exit->Act->World->Prop}(hs:AN C h.n S a w)
  (Y:(execOp a.eval o).run P w=.ok (.enter f cvs) w) {σ0:List V} (hc:FCM P f args σ0 r A) (hl0:σ0.length=J.length) (hs0:∀k,k<J.length->Sub (S.σ.getD (J.getD k 0) .dead) (σ0.getD k .dead)) (hJ:J.Nodup) (hJl:∀j∈J,j<S.σ.length) (hl1:A.length=J.length)
  (hsz:∀k,k<J.length->∃s sz n f f',S.σ.getD (J.getD k 0) .dead=.nd s true sz n f/\A.getD k .dead=.nd s true sz n f') (hcs:cvs.size=args.length)
  (W:∀D ρ F,CR C S.σ ((range h.n).map S.t) a.tmps w D ρ F->∀i,i<args.length->Rel D w (Ai σ0 (λk=>ρ (J.getD k 0)) w) (args.getD i .dead) (cvs.getD i undef) noF)
  (hd:∀d,o.dst=some d->d<h.n/\h.fz.contains d=false) (hn:∀a' w',AN C h.n ((S.turn J A).res h o.dst r) a' w'->next a' w'):o.wp P a w next Q:=by
 obtain⟨hd0,hdd,D,ρ,F,hcr⟩:=hs;unfold Oper.wp;rw[Y,Oper.upon_enter];refine(AaY hcr hc hl0 hs0 hJ hJl hl1 hsz hcs (W D ρ F hcr)).mono λe w' hp=>?_
 obtain⟨cv,fp,D',F',rfl,u,hr,H⟩:=hp;have e:((range h.n).map S.t).map (D7 J)=(range h.n).map (S.turn J A).t:=by rw[map_map];rfl
 rw[e]at u
 have O:∀x,h.n<=x->(S.turn J A).t x=.dead:=λx hx=>by
  show D7 J (S.t x)=.dead;rw[hdd x hx];rfl
 cases E:(o.dst:Option Nat)with
 |none=>
  refine hn _ _ ?_;rw[E];exact⟨hd0,O,D',ρ,F',u⟩
 |some d=>
  obtain⟨U,hfz⟩:=hd d E;refine hn _ _ ?_;rw[E];unfold Ms.res;simp only[U,if_true,hfz,Bool.false_eq_true,if_false];refine⟨hd0,λy hy=>?_,?_⟩
  .show AD _ d _ y=.dead
   have:¬y=d:=λe=>absurd U (Nat.not_lt.2 (e▸hy))
   unfold AD;rw[if_neg this];exact O y hy
  .have h1:=u.own (G:=fp) (λi b B Z=>(H b Z).2.2 i B) (λb B Z=>(H b Z).2.1 B) (λb B=>(H b B).1) rfl rfl rfl (le_refl _) (le_refl _) (λ_ _ _=>rfl) hr (λb B=>.inl B) (λ_ h=>h) (λb B=>.inl B) (λb B=>⟨u.wr.Dlt b B,λZ=>(H b Z).2.1 B⟩) d
   rw[BL,<-Co U];exact h1
end Go.Ve


namespace Go.Ve
def FCW(P:Program)(f:FuncId)(args σ0:List V)(A:Value)(u:List V):Prop:=
 ∀(w:World) (D:Nat->Prop) (ρ:Nat->Value) (F:Nat->Nat->Prop) (cvs:Array Value),Wok w->(∀p,Abf=some p->∀i,¬F i p.1)->Bg σ0 w D ρ F->cvs.size=args.length->(∀i,i<args.length->Rel D w (Ai σ0 ρ w) (args.getD i .dead) (cvs.getD i undef) noF)->
  Calls P f cvs w λe w'=>e=.returned A/\∃(D':Nat->Prop) (F':Nat->Nat->Prop),Bg u w' D' ρ F'/\Fr w w' (λb=>∃i,F i b)/\(∀i b,F' i b->(∃j,F j b)\/w.heap.size<=b)/\(∀b,D b->D' b)/\(∀b,D' b->D b\/(∃j,F j b)\/w.heap.size<=b)
theorem Rel.len_eq{D D':Nat->Prop}{w w':World}{sz u n B:Nat}{f H:Nat->Nat->V}{cv:Value}{fp A:Nat->Prop}(h:Rel D w noR (.nd true true sz n f) cv fp)(E:Rel D' w' noR (.nd true true u B H) cv A):n=B:=by
 obtain⟨a,c,e⟩:=Rel.sliceLen h;obtain⟨U,c',O⟩:=Rel.sliceLen E
 grind
def IF:∀{E:List (Dh×V)}{i:Nat}{v:V},(∀a∈E,a.1.1≠i)->DG E i v=v
 |[],_,_,_=>rfl
 |a::E,i,v,h=>by
  unfold DG;rw[if_neg (h a (mem_cons_self ..))];exact IF λb e=>h b (mCM _ e)
theorem LH:∀{E:List (Dh×V)}{i:Nat}{v x:V},(E.map (·.1)).Pairwise Il->((i,[]),x)∈E->DG E i v=x
 |[],_,_,_,_,h=>by grind
 |a::E,i,v,x,hp,h=>by
  obtain⟨A,u⟩:=pairwise_cons.1 hp;unfold DG;rcases List.mem_cons.1 h with rfl|h
  .rw[if_pos rfl]
   refine IF λb B e=>?_
   rcases A _ (mem_map.2 ⟨b,B,rfl⟩)with h1|h1
   .grind
   trivial
  .exact LH u h
theorem I6:∀{E:List (Dh×V)}{i:Nat}{v:V},(∀a∈E,a.1.1=i->a.1.2≠[])->DG (E.filter λa=>!a.1.2.isEmpty) i v=DG E i v
 |[],_,_,_=>rfl
 |a::E,i,v,h=>by
  have A:=λv=>I6 (v:=v) λb u=>h b (mCM _ u)
  cases u:a.1.2.isEmpty with
  |true=>
   have B:=λe=>h a (mem_cons_self ..) e (List.isEmpty_iff.1 u)
   show _=DG E i (if a.1.1=i then _ else v)
   grind
  |false=>
   rw[List.filter_cons_of_pos (by grind)]
   exact A _
theorem AaV{P:Program}{C:Ctx}{σ ts:List V}{cts:Array Value}{w:World}{D:Nat->Prop}{ρ:Nat->Value}{F:Nat->Nat->Prop}(h:CR C σ ts cts w D ρ F){f:FuncId}{args:List V}{L:List Dh}{rv:Value}{A:List V}{cvs:Array Value}
  (hc:FCW P f args (L.map λa=>sub a.2 (σ.getD a.1 .dead)) rv A) (hL:∀a∈L,a.1<σ.length/\∃sz n f c,At w a.2 (σ.getD a.1 .dead) (ρ a.1) (.nd true true sz n f) c) (hp:L.Pairwise Il) (hl1:A.length=L.length)
  (hsz:∀k,k<L.length->∃sz n n' f f',sub (L.getD k (0,[])).2 (σ.getD (L.getD k (0,[])).1 .dead)=.nd true true sz n f/\A.getD k .dead=.nd true true sz n' f')
  (hcs:cvs.size=args.length) (hargs:∀(ρ0:Nat->Value) (F0:Nat->Nat->Prop),Bg (L.map λa=>sub a.2 (σ.getD a.1 .dead)) w D ρ0 F0->(∀k,k<L.length->At w (L.getD k (0,[])).2 (σ.getD (L.getD k (0,[])).1 .dead) (ρ (L.getD k (0,[])).1) (sub (L.getD k (0,[])).2 (σ.getD (L.getD k (0,[])).1 .dead)) (ρ0 k))->
   ∀i,i<args.length->Rel D w (Ai (L.map λa=>sub a.2 (σ.getD a.1 .dead)) ρ0 w) (args.getD i .dead) (cvs.getD i undef) noF):
  Calls P f cvs w λe w'=>e=.returned rv/\∃(σ3:List V) (M:V->V),WK C σ3 (ts.map M) cts w'/\σ.length<=σ3.length/\Cx M (Off L σ.length)/\(∀i,i<σ.length->σ3.getD i .dead=DG (L.zip A) i (σ.getD i .dead))/\
   ∀k,k<L.length->∃sz n f f',sub (L.getD k (0,[])).2 (σ.getD (L.getD k (0,[])).1 .dead)=.nd true true sz n f/\A.getD k .dead=.nd true true sz n f':=by
 obtain⟨σc,ρc,Fc,J,M,Y,B,hM,hcv⟩:=QL L σ ts ρ F h hL hp;have W:∀k,k<L.length->L.getD k (0,[])∈L:=λk B=>by simp[B]
 have hJl:∀j∈J,j<σc.length:=by
  intro j hj;obtain⟨k,H,rfl⟩:=getElem_of_mem hj;have:=(B.j k (by rw[<-B.jl];exact H)).1
  simpa [H]using this
 have hinj:∀k k',k<L.length->k'<L.length->J.getD k 0=J.getD k' 0->k=k':=λk k' E O he=>by
  rw[<-B.jl]at E O;simp only[gDE,gEE E,gEE O,getD_some]at he;rcases lt_trichotomy k k' with hlt|heq|hlt
  .exact absurd he (pairwise_iff_getElem.1 B.nd k k' E O hlt)
  .exact heq
  .exact absurd he.symm (pairwise_iff_getElem.1 B.nd k' k O E hlt)
 have hg0:∀k,k<L.length->(L.map λa=>sub a.2 (σ.getD a.1 .dead)).getD k .dead=sub (L.getD k (0,[])).2 (σ.getD (L.getD k (0,[])).1 .dead):=λk B=>by simp[B]
 have wr0:Bg (L.map λa=>sub a.2 (σ.getD a.1 .dead)) w D (λk=>ρc (J.getD k 0)) (λk b=>k<L.length/\Fc (J.getD k 0) b):=by
  refine⟨λi hi=>?_,λi j b hij Z hb'=>?_,λi b Z=>Y.wr.dD _ b Z.2,Y.wr.Dlt,λi b hi Z=>?_⟩
  .have hi:i<L.length:=by simpa using hi
   rw[hg0 i hi];obtain⟨E,O⟩:=B.j i hi;rw[<-O];exact Rel.fp_congr (λb=>⟨λZ=>⟨hi,Z⟩,λZ=>Z.2⟩) (Y.wr.rel _ E)
  .exact Y.wr.disj _ _ b (λe=>hij (hinj i j Z.1 hb'.1 e)) Z.2 hb'.2
  .have:=Z.1;simp at hi;omega
 refine(hc w D _ _ cvs Y.ok (λp hp i hF=>(Y.Fn _ _ hF.2).elim (C.ok.2 p hp) λhle=>by have:=C.ok.1.lt hp;omega) wr0 hcs (hargs _ _ wr0 B.val)).mono λe w' hpost=>?_
 obtain⟨rfl,D',F1,wr1,hfr,hF1,hD1,hD2⟩:=hpost;refine⟨rfl,?_⟩;have hG:∀b,(∃i,i<L.length/\Fc (J.getD i 0) b)->∃j∈J,Fc j b:=λb ⟨i,hi,Z⟩=>⟨J.getD i 0,by rw[<-B.jl]at hi;simp[hi],Z⟩
 have hfr':Fr w w' (λb=>∃j∈J,Fc j b):=⟨hfr.os,hfr.tape,hfr.output,hfr.size,λb Z hn=>hfr.block b Z λhx=>hn (hG b hx),hfr.drawn⟩
 have hlen:∀k,k<L.length->∃sz n f f',sub (L.getD k (0,[])).2 (σ.getD (L.getD k (0,[])).1 .dead)=.nd true true sz n f/\A.getD k .dead=.nd true true sz n f':=by
  intro k hkl;obtain⟨sz,n,n',f1,f2,g1,g2⟩:=hsz k hkl;obtain⟨E,O⟩:=B.j k hkl;have r1:=Y.wr.rel _ E;rw[O,g1]at r1;have r2:=wr1.rel k (by omega)
  rw[g2]at r2;have:=Rel.len_eq r1 r2;subst this;exact⟨sz,n,f1,f2,g1,g2⟩
 obtain⟨Fd,hsw,_⟩:=Y.swap B.nd hJl (by rw[hl1,B.jl]) wr1 hfr' (λi b Z=>(hF1 i b Z).imp (hG b) id) hD1 (λb Z=>(hD2 b Z).imp id λh=>h.imp (hG b) id) (λk hkl=>by
  rw[B.jl]at hkl;obtain⟨sz,n,f1,f2,g1,g2⟩:=hlen k hkl;exact⟨true,sz,n,f1,f2,by rw[(B.j k hkl).2,g1],g2⟩)
 -- the holes
 have hparJ:∀a∈L,a.2≠[]->a.1∉J:=by
  intro a ha U hj;obtain⟨k,H,hk2⟩:=getElem_of_mem hj;have u:k<L.length:=by rw[<-B.jl];exact H
  have e:J.getD k 0=a.1:=by simp[H,hk2]
  by_cases h0:(L.getD k (0,[])).2=[]
  .have E:=B.rt k u h0
   obtain⟨k',hk',rfl⟩:=getElem_of_mem ha;have e2:(L.getD k (0,[])).1=L[k'].1:=by omega
   have e3:L.getD k (0,[])=L[k]:=by simp[u]
   rw[e3]at e2 h0;rcases lt_trichotomy k k' with hlt|heq|hlt
   .rcases pairwise_iff_getElem.1 hp k k' u hk' hlt with O|O
    .exact O e2
    .rw[h0]at O;cases O
   .subst heq;exact U h0
   .rcases pairwise_iff_getElem.1 hp k' k hk' u hlt with O|O
    .exact O e2.symm
    .rw[h0,YX]at O;cases O
  .have:=(B.pt k u h0).1
   have:=(hL a ha).1;omega
 have hzip:∀h∈(L.zip J).filter (λh=>!h.1.2.isEmpty),∃k,k<L.length/\h.1=L.getD k (0,[])/\h.2=J.getD k 0/\h.1.2≠[]:=by
  intro h hh;obtain⟨E,O⟩:=List.mem_filter.1 hh;obtain⟨k,H,rfl⟩:=getElem_of_mem E;have u:k<L.length:=by simp at H;omega
  have hkJ:k<J.length:=by rw[B.jl];exact u
  refine⟨k,u,by simp[u],by simp[hkJ],λh0=>?_⟩
  rw[h0]at O;cases O
 have hsub2:((L.zip J).filter (λh=>!h.1.2.isEmpty)).Sublist (L.zip J):=List.filter_sublist
 have hzl:(L.zip J).map (·.1)=L:=List.map_fst_zip (by have:=B.jl;omega)
 have hzr:(L.zip J).map (·.2)=J:=List.map_snd_zip (by have:=B.jl;omega)
 obtain⟨σ3,M3,F3,h3,hl3,hM3,hv3⟩:=UA ((L.zip J).filter λh=>!h.1.2.isEmpty) _ _ _ hsw (λa ha=>by
   obtain⟨k,u,e1,e2,U⟩:=hzip a ha;obtain⟨_,ho⟩:=B.pt k u (by rw[<-e1];exact U)
   rw[<-e1,<-e2]at ho;have hnJ:a.1.1∉J:=hparJ a.1 (by rw[e1];exact W k u) U
   refine⟨ho.ne,by rw[BG];exact ho.hi,by rw[BG];exact ho.hj,ho.ij,?_⟩
   rw[C2 J A σc _ hnJ];refine At.same (Y.wr.rel _ ho.hi) ho.at' λb Z=>hfr'.block b (Y.wr.lt _ b Z) fun⟨j,hj,hF⟩=>Y.wr.disj a.1.1 j b (λe=>hnJ (by rw[e];exact hj)) Z hF)
  (List.Nodup.sublist (hsub2.map (·.2)) (by rw[hzr];exact B.nd))
  (λa ha b Z=>by
   obtain⟨k,u,e1,e2,U⟩:=hzip a ha;obtain⟨k',hkL',e1',e2',hne'⟩:=hzip b Z;have E:=(B.pt k u (by rw[<-e1];exact U)).1
   have O:=(hL b.1 (by rw[e1'];exact W k' hkL')).1
   omega)
  (by
   have E:((L.zip J).map (·.1)).Pairwise Il:=by rw[hzl];exact hp
   exact List.Pairwise.sublist hsub2 (List.pairwise_map.1 E))
 refine⟨σ3,λv=>M3 (D7 J (M v)),⟨_,_,_,by simpa [map_map,Function.comp_def]using h3⟩,by rw[hl3,BG];exact B.len,?_,λi hi=>?_,hlen⟩
 .refine Cx.comp (hM3.weak λid q hq=>⟨λa ha=>?_,λa ha h0=>?_⟩) (Cx.comp (LV λid q hq h0=>?_) hM)
  .obtain⟨k,u,e1,e2,U⟩:=hzip a ha
   have E:=(B.pt k u (by rw[<-e1];exact U)).1
   have:=hq.1;omega
  .obtain⟨k,u,e1,e2,U⟩:=hzip a ha
   rcases hq.2 a.1 (by rw[e1];exact W k u) h0.1.symm with E|E
   .exact U E.1
   .rw[h0.2]at E;cases E.2
  .obtain⟨k,H,hk2⟩:=getElem_of_mem h0.1
   have u:k<L.length:=by rw[<-B.jl];exact H
   have e:J.getD k 0=id:=by simp[H,hk2]
   by_cases E:(L.getD k (0,[])).2=[]
   .have O:=B.rt k u E
    rcases hq.2 _ (W k u) (by omega)with h3|h3
    .exact h0.2 h3.2
    .exact h3.1 E
   .have:=(B.pt k u E).1
    have:=hq.1;omega
 .rw[hv3 i λa ha=>by
   obtain⟨k,u,e1,e2,U⟩:=hzip a ha;have E:=(B.pt k u (by rw[<-e1];exact U)).1
   omega]
  have hmapJ:J.map (λj=>(Ho J A σc).getD j .dead)=A:=by
   apply List.ext_getElem
   .simp[hl1,B.jl]
   .intro k E O
    have hkJ:k<J.length:=by simpa using E
    have:=Hi J A σc k B.nd (by rw[hl1,B.jl]) hJl hkJ
    simp only[List.getElem_map];have e:J.getD k 0=J[k]:=by simp[hkJ]
    rw[e]at this;rw[this];simp[O]
  have hmapE:((L.zip J).filter λh=>!h.1.2.isEmpty).map (λh=>(h.1,(Ho J A σc).getD h.2 .dead))=(L.zip A).filter λa=>!a.1.2.isEmpty:=by
   rw[<-hmapJ,List.zip_map_right,List.filter_map];simp only[Function.comp_def,hmapJ];rfl
  rw[hmapE];have hE1:(L.zip A).map (·.1)=L:=List.map_fst_zip (by omega)
  have hpE:((L.zip A).map (·.1)).Pairwise Il:=by rw[hE1];exact hp
  by_cases hroot:∃k,k<L.length/\L.getD k (0,[])=(i,[])
  .obtain⟨k,u,he⟩:=hroot
   have hmem:((i,([]:List (Nat×Nat))),A.getD k .dead)∈L.zip A:=by
    have e1:L[k]=(i,[]):=by rw[<-he];simp[u]
    have H:k<A.length:=by omega
    have e2:(L.zip A)[k]'(by simp;omega)=((i,[]),A.getD k .dead):=by
     rw[List.getElem_zip,e1];simp[H]
    rw[<-e2];exact List.getElem_mem _
   rw[LH hpE hmem];have hJk:J.getD k 0=i:=by
    have:=B.rt k u (by rw[he])
    rw[he]at this;exact this
   rw[IF]
   .have:=Hi J A σc k B.nd (by rw[hl1,B.jl]) hJl (by rw[B.jl];exact u)
    rw[hJk]at this;exact this
   .intro a ha e
    obtain⟨E,O⟩:=List.mem_filter.1 ha;have h3:a.1∈L:=by rw[<-hE1];exact mem_map.2 ⟨a,E,rfl⟩
    have h4:a.1.2≠[]:=λh0=>by rw[h0]at O;cases O
    exact hparJ a.1 h3 h4 (by rw[e,<-hJk];rw[<-B.jl]at u;simp[u])
  .have hnr:∀a∈L,a.1=i->a.2≠[]:=by
    intro a ha E O;obtain⟨k,u,rfl⟩:=getElem_of_mem ha;exact hroot ⟨k,u,by simp only[gDE,gEE u,getD_some];rw[<-E,<-O]⟩
   have hnrE:∀a∈L.zip A,a.1.1=i->a.1.2≠[]:=λa ha=>hnr a.1 (by rw[<-hE1];exact mem_map.2 ⟨a,ha,rfl⟩)
   rw[I6 hnrE];have hiJ:i∉J:=by
    intro hj;obtain⟨k,H,hk2⟩:=getElem_of_mem hj;have u:k<L.length:=by rw[<-B.jl];exact H
    have e:J.getD k 0=i:=by simp[H,hk2]
    by_cases h0:(L.getD k (0,[])).2=[]
    .have E:=B.rt k u h0
     exact hnr _ (W k u) (by omega) h0
    .have:=(B.pt k u h0).1
     omega
   rw[C2 J A σc i hiJ,hcv i hi];have:=MY (v:=σ.getD i .dead) hpE hnrE;rw[hE1]at this;exact this
end Go.Ve

