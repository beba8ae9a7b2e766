/- Parts of trees are handed to a callee that writes them: they are cut out, and put back. -/
import Derived.Test.YteakdlfnmhlifaaVy
import Derived.Defers
open Nat(beq le_refl lt_trichotomy le_trans)
open List(mem_cons_self pairwise_cons getElem_of_mem nodup_cons map_map pairwise_iff_getElem mem_map range)
open Option(getD_some)
set_option linter.all false
namespace Go.Ve
variable{p:List (Nat×Nat)}{S:Nat->List (Nat×Nat)->Prop}{M:V->V}
def dvP:List (Nat×Nat)->List (Nat×Nat)->Bool
 |(_,k)::p,(_,l)::q=>!beq k l||dvP p q
 |_,_=>false
def UE:∀{p q:List (Nat×Nat)},dvP p q=true->dvP q p=true
 |(_,k)::p,(_,l)::q,h=>by
  simp[dvP,Bool.not_eq_true']at h⊢;rcases h with h|h
  .left
   cases A:beq l k with
   |false=>rfl
   |true=>simp_all
  .exact .inr (UE h)
 |[],_,h=>by cases h
 |_::_,[],h=>by cases h
def Yr:dvP p []=false:=by cases p<;>rfl
def La{i k:Nat}{s o:Bool}{sz n:Nat}{f:Nat->Nat->V}{x:V}:upd ((i,k)::p) (.nd s o sz n f) x=.nd s o sz n λi' k'=>if i'=i/\k'=k then upd p (f i k) x else f i' k':=rfl
def Ik:∀(p:List (Nat×Nat)) (v x y:V),upd p (upd p v x) y=upd p v y
 |[],_,_,_=>rfl
 |(i,k)::p,v,x,y=>by
  cases v with
  |nd s o sz n f=>
   rw[La,La]
   congr 1
   funext i' k'
   by_cases h:i'=i/\k'=k
   .simp[h,if_true];exact Ik p _ _ _
   grind
  |_=>rfl
theorem Qw:∀(p q:List (Nat×Nat)) (v x y:V),dvP p q=true->upd p (upd q v x) y=upd q (upd p v y) x
 |(i,k)::p,(j,l)::q,v,x,y,h=>by
  cases v with
  |nd s o sz n f=>
   rw[La,La,La,La]
   congr 1
   funext i' k'
   by_cases B:i'=i/\k'=k<;>by_cases A:i'=j/\k'=l
   .obtain⟨rfl,rfl⟩:=B
    obtain⟨rfl,rfl⟩:=A;have h:=by
     simpa [dvP,Nat.beq_refl]using h
    simp only[if_true];exact Qw p q _ _ _ h
   .grind
   .grind
   grind
  |_=>rfl
 |[],_,_,_,_,h=>by cases h
 |_::_,[],_,_,_,h=>by cases h
theorem Sub.upd:∀(p:List (Nat×Nat)) {v v' x:V},Sub v v'->Sub (Go.Ve.upd p v x) (Go.Ve.upd p v' x)
 |[],_,_,_,_=>Sub.refl _
 |(i,k)::p,v,v',x,h=>by
  cases v with
  |nd s o sz n f=>
   obtain⟨g,rfl,A⟩:=h;refine⟨_,rfl,λi' k' hi B=>?_⟩
   by_cases H:i'=i/\k'=k
   .obtain⟨rfl,rfl⟩:=H
    simp[if_true];exact Sub.upd p (A _ _ hi B)
   grind
  |c v=>
   rcases h with rfl|⟨rfl,own,sz,f,rfl⟩
   .exact Sub.refl _
   .exact .inr ⟨rfl,own,sz,_,rfl⟩
  |dead=>cases h;rfl
  |many t n f=>obtain⟨g,rfl,A⟩:=h;exact⟨g,rfl,A⟩
  |rs=>cases h;rfl
  |rp=>cases h;rfl
  |rm=>cases h;rfl
  |mp=>cases h;rfl
theorem At.dvg{w:World}{x:V}:∀{p q:List (Nat×Nat)}{v:V}{cv:Value}{A:V}{c1:Value},dvP p q=true->At w q v cv A c1->At w q (upd p v x) cv A c1
 |(i,k)::p,(j,l)::q,v,cv,A,c1,h,ha=>by
  match v,ha with
  |.nd s true sz n f,ha=>
   obtain⟨W,U,b,o,cap,y,h3,h4,H⟩:=ha;refine⟨W,U,b,o,cap,y,h3,h4,?_⟩;by_cases B:j=i/\l=k
   .obtain⟨rfl,rfl⟩:=B
    have h:=by simpa [dvP,Nat.beq_refl]using h
    simp[if_true];exact At.dvg h H
   grind
 |[],_,_,_,_,_,h,_=>by cases h
 |_::_,[],_,_,_,_,h,_=>by cases h
def At.cut{w:World}:∀{p:List (Nat×Nat)}{v:V}{cv:Value}{A:V}{c1:Value},At w p v cv A c1->At w p (upd p v .dead) cv .dead c1
 |[],_,_,_,_,ha=>⟨rfl,ha.2⟩
 |(i,k)::p,v,cv,A,c1,ha=>by
  match v,ha with
  |.nd s true sz n f,ha=>
   obtain⟨U,H,b,o,cap,y,h3,h4,B⟩:=ha;exact⟨U,H,b,o,cap,y,h3,h4,by simp[if_true];exact At.cut B⟩
structure Cr(M:V->V)(S:Nat->List (Nat×Nat)->Prop):Prop where
 m:A9 M
 rs:∀id q off len,S id q->M (.rs id q off len)=.rs id q off len
 rp:∀id q i k,S id q->M (.rp id q i k)=.rp id q i k
 rm:∀id q,S id q->M (.rm id q)=.rm id q
def Cr.idf:Cr (λv=>v) S:=⟨⟨λ_=>rfl,rfl,λ_ _ _ _ _=>rfl,λ_ _=>rfl,λ_ _ _=>rfl⟩,λ_ _ _ _ _=>rfl,λ_ _ _ _ _=>rfl,λ_ _ _=>rfl⟩
theorem Cr.comp{N:V->V}(B:Cr M S)(A:Cr N S):Cr (λv=>M (N v)) S:=
 ⟨⟨λv=>by rw[A.m.c,B.m.c],by rw[A.m.dead,B.m.dead],λs own sz n f=>by rw[A.m.nd,B.m.nd],λown l=>by rw[A.m.mp,B.m.mp],λt n f=>by rw[A.m.many,B.m.many]⟩,
  λid q off len h=>by rw[A.rs id q off len h,B.rs id q off len h],λid q i k h=>by rw[A.rp id q i k h,B.rp id q i k h],λid q h=>by rw[A.rm id q h,B.rm id q h]⟩
def Cr.weak{S':Nat->List (Nat×Nat)->Prop}(B:Cr M S)(h:∀id q,S' id q->S id q):Cr M S':=
 ⟨B.m,λid q off len A=>B.rs id q off len (h id q A),λid q i k A=>B.rp id q i k (h id q A),λid q A=>B.rm id q (h id q A)⟩
abbrev Db:=Nat×List (Nat×Nat)
def Ib(a b:Db):Prop:=a.1≠b.1\/dvP a.2 b.2=true
def Off(L:List Db)(N:Nat)(id:Nat)(q:List (Nat×Nat)):Prop:=id<N/\∀a∈L,a.1=id->(a.2=[]/\q=[])\/(a.2≠[]/\AN a.2 q=false)
structure YP(w:World)(σ:List V)(ρ:Nat->Value)(a:Db)(j:Nat):Prop where
 ne:a.2≠[]
 hi:a.1<σ.length
 hj:j<σ.length
 ij:j≠a.1
 at':At w a.2 (σ.getD a.1 .dead) (ρ a.1) .dead (ρ j)
structure CutOK(w:World)(σ σc:List V)(ρ ρc:Nat->Value)(L:List Db)(J:List Nat):Prop where
 len:σ.length<=σc.length
 jl:J.length=L.length
 old:∀i,i<σ.length->ρc i=ρ i
 nd:J.Nodup
 j:∀k,k<L.length->J.getD k 0<σc.length/\σc.getD (J.getD k 0) .dead=sub (L.getD k (0,[])).2 (σ.getD (L.getD k (0,[])).1 .dead)
 rt:∀k,k<L.length->(L.getD k (0,[])).2=[]->J.getD k 0=(L.getD k (0,[])).1
 pt:∀k,k<L.length->(L.getD k (0,[])).2≠[]->σ.length<=J.getD k 0/\YP w σc ρc (L.getD k (0,[])) (J.getD k 0)
 val:∀k,k<L.length->At w (L.getD k (0,[])).2 (σ.getD (L.getD k (0,[])).1 .dead) (ρ (L.getD k (0,[])).1) (sub (L.getD k (0,[])).2 (σ.getD (L.getD k (0,[])).1 .dead)) (ρc (J.getD k 0))
def UI(L:List Db)(i:Nat)(v:V):V:=match L with
 |[]=>v
 |a::L=>UI L i (if a.1=i/\a.2≠[]then upd a.2 v .dead else v)
theorem Zt{id N:Nat}(h:∀id' q,S id' q->¬ (id'=id/\AN p q=true)):Cr (rrV id p N) S:=
 ⟨C6 id p N,λid' q off len A=>by unfold rrV;grind,λid' q i k A=>by unfold rrV;grind,λid' q A=>by unfold rrV;grind⟩
def At.det{w:World}:∀{p:List (Nat×Nat)}{v:V}{cv:Value}{W U:V}{c1 c2:Value},At w p v cv W c1->At w p v cv U c2->c1=c2
 |[],_,_,_,_,_,_,h,h'=>h.2.trans h'.2.symm
 |(i,k)::p,v,cv,W,U,c1,c2,h,h'=>by
  match v,h,h' with
  |.nd s true sz n f,h,h'=>
   obtain⟨_,_,b,o,cap,y,h3,h4,h5⟩:=h;obtain⟨_,_,b',o',Y,Z,H,B,A⟩:=h';obtain⟨rfl,rfl,_⟩:=Am (h3.symm.trans H);obtain rfl:y=Z:=Option.some.inj (h4.symm.trans B);exact At.det h5 A
def Ky:∀{L:List Db}{i:Nat}{v:V},(∀a∈L,a.1=i->a.2=[])->UI L i v=v
 |[],_,_,_=>rfl
 |a::L,i,v,h=>by
  unfold UI;rw[if_neg (λA=>A.2 (h a (mem_cons_self ..) A.1))]
  exact Ky λb B=>h b (mCM _ B)
def Ys{w:World}{q:List (Nat×Nat)}{cv:Value}{A:V}{c1:Value}:∀{L:List Db}{i:Nat}{v:V},(∀a∈L,Ib (i,q) a)->At w q v cv A c1->At w q (UI L i v) cv A c1
 |[],_,_,_,h=>h
 |a::L,i,v,h,ha=>by
  unfold UI;refine Ys (λb B=>h b (mCM _ B)) ?_
  split
  .rcases h a (mem_cons_self ..)with h1|h1
   .omega
   .exact At.dvg (UE h1) ha
  grind
theorem Qi{C:Ctx}{cts:Array Value}{w:World}{D:Nat->Prop}:∀(L:List Db) (σ ts:List V) (ρ:Nat->Value) (F:Nat->Nat->Prop),CR C σ ts cts w D ρ F->
  (∀a∈L,a.1<σ.length/\∃sz n f c,At w a.2 (σ.getD a.1 .dead) (ρ a.1) (.nd true true sz n f) c)->L.Pairwise Ib->
  ∃(σc:List V) (ρc:Nat->Value) (Fc:Nat->Nat->Prop) (J:List Nat) (M:V->V),CR C σc (ts.map M) cts w D ρc Fc/\CutOK w σ σc ρ ρc L J/\Cr M (Off L σ.length)/\(∀i,i<σ.length->σc.getD i .dead=UI L i (σ.getD i .dead))
 |[],σ,ts,ρ,F,h,_,_=>by
  have e:ts.map (λv=>v)=ts:=by simp
  refine⟨σ,ρ,F,[],λv=>v,by rw[e];exact h,⟨le_refl _,rfl,λ_ _=>rfl,List.nodup_nil,λk A=>by simp at A,λk A=>by simp at A,λk A=>by simp at A,λk A=>by simp at A⟩,Cr.idf,λi hi=>rfl⟩
 |(id,p)::L,σ,ts,ρ,F,h,hL,hp=>by
  obtain⟨hid,sz,n,f,c,hat⟩:=hL _ (mem_cons_self ..);obtain⟨hap,hp'⟩:=pairwise_cons.1 hp;simp only at hid hat;have hLl:∀a∈L,a.1<σ.length:=λa U=>(hL a (mCM _ U)).1
  by_cases hpn:p=[]
  .subst hpn
   obtain⟨σc,ρc,Fc,J,M,hcr,B,hM,hcv⟩:=Qi L σ ts ρ F h (λa U=>hL a (mCM _ U)) hp'
   have hne:∀a∈L,a.1≠id:=λa U=>by
    rcases hap a U with H|H
    .exact Ne.symm H
    .cases H
   have hcid:σc.getD id .dead=σ.getD id .dead:=by
    rw[hcv id hid];exact Ky λa U H=>absurd H (hne a U)
   have hjn:id∉J:=by
    intro hj;obtain⟨k,A,hk2⟩:=getElem_of_mem hj;have hkL:k<L.length:=by rw[<-B.jl];exact A
    have e:J.getD k 0=id:=by simp[A,hk2]
    have hmem:L.getD k (0,[])∈L:=by simp[hkL]
    by_cases Y:(L.getD k (0,[])).2=[]
    .have:=B.rt k hkL Y
     exact hne _ hmem (by omega)
    .have:=(B.pt k hkL Y).1
     omega
   refine⟨σc,ρc,Fc,id::J,M,hcr,⟨B.len,by simp[B.jl],B.old,nodup_cons.2 ⟨hjn,B.nd⟩,λk A=>?_,λk A=>?_,λk A=>?_,λk A=>?_⟩,hM.weak λid' q hq=>⟨hq.1,λa U=>hq.2 a (mCM _ U)⟩,λi hi=>?_⟩
   .cases k with
    |zero=>exact⟨Nat.lt_of_lt_of_le hid B.len,hcid⟩
    |succ k=>simpa using B.j k (by simpa using A)
   .cases k with
    |zero=>intro _;rfl
    |succ k=>simpa using B.rt k (by simpa using A)
   .cases k with
    |zero=>intro Y;exact absurd rfl Y
    |succ k=>simpa using B.pt k (by simpa using A)
   .cases k with
    |zero=>
     show At w [] (σ.getD id .dead) (ρ id) (σ.getD id .dead) (ρc id);exact⟨rfl,B.old id hid⟩
    |succ k=>simpa using B.val k (by simpa using A)
   .show σc.getD i .dead=UI L i (if id=i/\([]:List (Nat×Nat))≠[]then _ else σ.getD i .dead)
    rw[if_neg (λh=>h.2 rfl)]
    exact hcv i hi
  obtain⟨ρ1,F1,hcr1,hr1,hr2,_⟩:=h.reroot hid hat;have hsub:sub p (σ.getD id .dead)=.nd true true sz n f:=(At.sub hat).symm;generalize hσ1:σ.set id (upd p (σ.getD id .dead) .dead)++[sub p (σ.getD id .dead)]=σ1 at hcr1;have hl1:σ1.length=σ.length+1:=by rw[<-hσ1];simp
  have hg:∀i,i<σ.length->σ1.getD i .dead=if i=id then upd p (σ.getD id .dead) .dead else σ.getD i .dead:=by
   intro i hi;rw[<-hσ1,Az (by simpa using hi)]
   by_cases he:i=id
   .subst he;rw[Ag hi,if_pos rfl]
   .rw[Ad (Ne.symm he),if_neg he]
  have hgN:σ1.getD σ.length .dead=sub p (σ.getD id .dead):=by rw[<-hσ1];simp
  -- what lies elsewhere lies there still
  have Z:∀a∈L,∀v1 c1,At w a.2 (σ.getD a.1 .dead) (ρ a.1) v1 c1->At w a.2 (σ1.getD a.1 .dead) (ρ1 a.1) v1 c1:=by
   intro a U v1 c1 hA;rw[hg a.1 (hLl a U),hr2 a.1 (hLl a U)];split
   .rename_i he
    rw[he]at hA⊢;rcases hap a U with H|H
    .exact absurd he.symm H
    .exact At.dvg H hA
   .exact hA
  obtain⟨σc,ρc,Fc,J,M,hcr,B,hM,hcv⟩:=Qi L _ _ _ _ hcr1 (λa U=>by
   obtain⟨H,sz',n',f',c',h2⟩:=hL a (mCM _ U);exact⟨by omega,sz',n',f',c',Z a U _ _ h2⟩) hp'
  have hlen:=B.len;have hNJ:σ.length∉J:=by
   intro hj;obtain⟨k,A,hk2⟩:=getElem_of_mem hj;have hkL:k<L.length:=by rw[<-B.jl];exact A
   have e:J.getD k 0=σ.length:=by simp[A,hk2]
   have hmem:L.getD k (0,[])∈L:=by simp[hkL]
   by_cases Y:(L.getD k (0,[])).2=[]
   .have:=B.rt k hkL Y
    have:=hLl _ hmem;omega
   .have:=(B.pt k hkL Y).1
    omega
  have hρid:ρc id=ρ id:=(B.old id (by omega)).trans (hr2 id hid)
  have hρN:ρc σ.length=c:=(B.old _ (by omega)).trans hr1
  have W:∀k,k<L.length->L.getD k (0,[])∈L:=λk A=>by simp[A]
  refine⟨σc,ρc,Fc,σ.length::J,λv=>M (rrV id p σ.length v),by simpa [map_map,Function.comp_def]using hcr,⟨by omega,by simp[B.jl],λi hi=>(B.old i (by omega)).trans (hr2 i hi),nodup_cons.2 ⟨hNJ,B.nd⟩,λk A=>?_,λk A=>?_,λk A=>?_,λk A=>?_⟩,Cr.comp (hM.weak λid' q hq=>⟨by have:=hq.1;omega,λa U=>hq.2 a (mCM _ U)⟩) (Zt λid' q hq Y=>?_),λi hi=>?_⟩
  .cases k with
   |zero=>
    refine⟨by show σ.length<_;omega,?_⟩
    show σc.getD σ.length .dead=sub p (σ.getD id .dead);rw[hcv _ (by omega),Ky (λa U H=>by have:=hLl a U;omega),hgN]
   |succ k=>
    have A:k<L.length:=by simpa using A
    obtain⟨H,h2⟩:=B.j k A;refine⟨by simpa using H,?_⟩
    obtain⟨_,sz',n',f',c',h3⟩:=hL _ (mCM _ (W k A));have h4:=At.sub (Z _ (W k A) _ _ h3);have h5:=At.sub h3;simp only[List.getD_cons_succ];rw[h2,<-h4,h5]
  .cases k with
   |zero=>intro Y;exact absurd Y hpn
   |succ k=>simpa using B.rt k (by simpa using A)
  .cases k with
   |zero=>
    intro _;refine⟨le_refl _,hpn,by show id<_;omega,by show σ.length<_;omega,by show σ.length≠id;omega,?_⟩
    show At w p (σc.getD id .dead) (ρc id) .dead (ρc σ.length);rw[hρid,hρN,hcv id (by omega),hg id hid,if_pos rfl]
    exact Ys (λa U=>hap a U) (At.cut hat)
   |succ k=>
    intro Y;have H:=B.pt k (by simpa using A) (by simpa using Y)
    refine⟨?_,by simpa using H.2⟩
    have:=H.1;simp only[List.getD_cons_succ];omega
  .cases k with
   |zero=>
    show At w p (σ.getD id .dead) (ρ id) (sub p (σ.getD id .dead)) (ρc σ.length);rw[hρN,hsub];exact hat
   |succ k=>
    have A:k<L.length:=by simpa using A
    simp only[List.getD_cons_succ];obtain⟨_,sz',n',f',c',h3⟩:=hL _ (mCM _ (W k A));have h4:=Z _ (W k A) _ _ h3;have h5:=At.det h4 (B.val k A);rw[<-h5,<-At.sub h3];exact h3
  .have H:=hq.2 _ (mem_cons_self ..) Y.1.symm
   rcases H with H|H
   .exact hpn H.1
   .rw[Y.2]at H;cases H.2
  .rw[hcv i (by omega),hg i hi]
   show _=UI L i (if id=i/\p≠[]then upd p (σ.getD i .dead) .dead else σ.getD i .dead)
   by_cases he:i=id
   .subst he
    rw[if_pos rfl,if_pos ⟨rfl,hpn⟩]
   .rw[if_neg he,if_neg (λY=>he Y.1.symm)]
end Go.Ve


namespace Go.Ve
variable{cts:Array Value}{C:Ctx}{J:List Nat}{ts σ:List V}{j:Nat}{S:Nat->List (Nat×Nat)->Prop}{F:Nat->Nat->Prop}{D:Nat->Prop}{ρ:Nat->Value}{w:World}
def DS(J:List Nat):V->V
 |.rs id q off len=>if id∈J/\q≠[]then .dead else .rs id q off len
 |.rp id q i k=>if id∈J/\q≠[]then .dead else .rp id q i k
 |.rm id q=>if id∈J/\q≠[]then .dead else .rm id q
 |.many t n f=>.many t n λk=>DS J (f k)
 |v=>v
def OR(J:List Nat):A9 (DS J):=⟨λ_=>rfl,rfl,λ_ _ _ _ _=>rfl,λ_ _=>rfl,λ_ _ _=>rfl⟩
theorem LJ(h:∀id q,S id q->¬ (id∈J/\q≠[])):Cr (DS J) S:=
 ⟨OR J,λid q off len A=>by unfold DS;grind,λid q i k A=>by unfold DS;grind,λid q A=>by unfold DS;grind⟩
def DB:List Nat->List V->List V->List V
 |j::J,v::vs,σ=>DB J vs (σ.set j v)
 |_,_,σ=>σ
def By:∀(J:List Nat) (A σ:List V),(DB J A σ).length=σ.length
 |j::J,v::A,σ=>by show(DB J A (σ.set j v)).length=_;rw[By];simp
 |[],_,σ=>rfl
 |_::_,[],σ=>rfl
def CT:∀(J:List Nat) (A σ:List V) (i:Nat),i∉J->(DB J A σ).getD i .dead=σ.getD i .dead
 |j::J,v::A,σ,i,h=>by
  simp[not_or]at h;show(DB J A (σ.set j v)).getD i .dead=_;rw[CT J A _ i h.2,Ad (Ne.symm h.1)]
 |[],_,σ,_,_=>rfl
 |_::_,[],σ,_,_=>rfl
theorem D5:∀(J:List Nat) (A σ:List V) (k:Nat),J.Nodup->A.length=J.length->(∀j∈J,j<σ.length)->k<J.length->(DB J A σ).getD (J.getD k 0) .dead=A.getD k .dead
 |j::J,v::A,σ,k,hn,hl,hj,hk=>by
  obtain⟨H,B⟩:=nodup_cons.1 hn;cases k with
  |zero=>
   show(DB J A (σ.set j v)).getD j .dead=v;rw[CT J A _ j H,Ag (hj j (mem_cons_self ..))]
  |succ k=>exact D5 J A _ k B (by grind) (λi hi=>by grind) (by simp_all)
 |[],_,_,_,_,_,_,hk=>by trivial
 |_::_,[],_,_,_,hl,_,_=>by trivial
theorem CR.swap{w':World}{D':Nat->Prop}{F1:Nat->Nat->Prop}(h:CR C σ ts cts w D ρ F)(hJ:J.Nodup)(hJl:∀j∈J,j<σ.length){σ1:List V}(hl:σ1.length=J.length)
  (wr1:Be σ1 w' D' (λk=>ρ (J.getD k 0)) F1) (hfr:Fr w w' (λb=>∃j∈J,F j b)) (hF1:∀i b,F1 i b->(∃j∈J,F j b)\/w.heap.size<=b) (hD1:∀b,D b->D' b) (hD2:∀b,D' b->D b\/(∃j∈J,F j b)\/w.heap.size<=b)
  (hn:∀k,k<J.length->∃s sz n f f',σ.getD (J.getD k 0) .dead=.nd s true sz n f/\σ1.getD k .dead=.nd s true sz n f'):∃F',CR C (DB J σ1 σ) (ts.map (DS J)) cts w' D' ρ F'/\∀i b,F' i b->(i∉J/\F i b)\/∃k,F1 k b:=by
 have hsame:∀b,b<w.heap.size->¬ (∃j∈J,F j b)->w'.heap[b]? =w.heap[b]?:=hfr.block;have hDs:∀b,D b->w'.heap[b]? =w.heap[b]?:=λb B=>hsame b (h.wr.Dlt b B) fun⟨j,_,hF⟩=>h.wr.dD j b hF B
 have hFs:∀i b,i∉J->F i b->w'.heap[b]? =w.heap[b]?:=λi b hi B=>hsame b (h.wr.lt i b B) fun⟨j,hj,hF⟩=>h.wr.disj i j b (λe=>hi (e▸hj)) B hF
 have H:∀i,i∈J->∃k,k<J.length/\J.getD k 0=i:=λi hi=>by
  obtain⟨k,U,rfl⟩:=getElem_of_mem hi;exact⟨k,U,by simp[U]⟩
 have hinj:∀k k',k<J.length->k'<J.length->J.getD k 0=J.getD k' 0->k=k':=λk k' h1 h2 he=>by
  simp only[gDE,gEE h1,gEE h2,getD_some]at he;rcases lt_trichotomy k k' with hlt|heq|hlt
  .exact absurd he (pairwise_iff_getElem.1 hJ k k' h1 h2 hlt)
  .exact heq
  .exact absurd he.symm (pairwise_iff_getElem.1 hJ k' k h2 h1 hlt)
 have hmem:∀k,k<J.length->J.getD k 0∈J:=λk U=>by simp[U]
 let F':Nat->Nat->Prop:=λi b=>(i∉J/\F i b)\/∃k,k<J.length/\J.getD k 0=i/\F1 k b
 have Y:∀k,k<J.length->∀b,F' (J.getD k 0) b↔F1 k b:=λk U b=>by
  constructor
  .rintro (⟨h1,_⟩|⟨k',hk',he,B⟩)
   .exact absurd (hmem k U) h1
   .rw[hinj k' k hk' U he]at B;exact B
  .intro B;exact .inr ⟨k,U,rfl,B⟩
 have W:∀i,i∉J->∀b,F' i b↔F i b:=λi hi b=>by
  constructor
  .rintro (⟨_,h1⟩|⟨k,U,he,_⟩)
   .exact h1
   .exact absurd (he▸hmem k U) hi
  .intro B;exact .inl ⟨hi,B⟩
 refine⟨F',⟨⟨λi hi=>?_,λi j b hij B hb'=>?_,λi b B hD=>?_,wr1.Dlt,λi b hi B=>?_⟩,by simpa using h.sz,λt ht=>?_,?_,λi b B=>?_,λb B=>hD1 b (h.D1 b B),λb B hlt=>?_,h.rt,by rw[By];exact h.ml⟩,λi b B=>B.imp id fun⟨k,_,_,B⟩=>⟨k,B⟩⟩
 .rw[By]at hi
  by_cases A:i∈J
  .obtain⟨k,U,rfl⟩:=H i A
   rw[D5 J σ1 σ k hJ hl hJl U];exact Rel.fp_congr (λb=>(Y k U b).symm) (wr1.rel k (by omega))
  .rw[CT J σ1 σ i A]
   refine Rel.fp_congr (λb=>(W i A b).symm) (Rel.mono hD1 (λ_ _ h=>h) _ _ _ (λb B=>?_) (h.wr.rel i hi))
   exact B.elim (hDs b) (hFs i b A)
 .by_cases A:i∈J<;>by_cases hjJ:j∈J
  .obtain⟨k,U,rfl⟩:=H i A
   obtain⟨l,Z,rfl⟩:=H j hjJ;exact wr1.disj k l b (λe=>hij (e▸rfl)) ((Y k U b).1 B) ((Y l Z b).1 hb')
  .obtain⟨k,U,rfl⟩:=H i A
   have h2:=(W j hjJ b).1 hb';rcases hF1 k b ((Y k U b).1 B)with⟨l,Z,h3⟩|h3
   .exact h.wr.disj l j b (λe=>hjJ (e▸Z)) h3 h2
   .have:=h.wr.lt j b h2;omega
  .obtain⟨l,Z,rfl⟩:=H j hjJ
   have h2:=(W i A b).1 B;rcases hF1 l b ((Y l Z b).1 hb')with⟨m,hm,h3⟩|h3
   .exact h.wr.disj m i b (λe=>A (e▸hm)) h3 h2
   .have:=h.wr.lt i b h2;omega
  .exact h.wr.disj i j b hij ((W i A b).1 B) ((W j hjJ b).1 hb')
 .by_cases A:i∈J
  .obtain⟨k,U,rfl⟩:=H i A
   exact wr1.dD k b ((Y k U b).1 B) hD
  .have h2:=(W i A b).1 B
   rcases hD2 b hD with h3|⟨j,hj,h3⟩|h3
   .exact h.wr.dD i b h2 h3
   .exact h.wr.disj i j b (λe=>A (e▸hj)) h2 h3
   .have:=h.wr.lt i b h2;omega
 .rw[By]at hi
  by_cases A:i∈J
  .have:=hJl i A;omega
  .exact h.wr.out i b hi ((W i A b).1 B)
 .simp at ht
  have e1:(ts.map (DS J)).getD t .dead=DS J (ts.getD t .dead):=by simp[ht]
  rw[e1];refine Rel.mono (w:=w') (D:=D) hD1 (λ_ _ h=>h) _ _ _ (λ_ _=>rfl) ((OR J).rel hDs ?_ ?_ ?_ _ _ noF (λ_ h=>h) (h.tm t ht))
  .rintro id p off len cv ⟨hid,sz,n,f,cn,ha,hle,hcv⟩
   unfold DS;split
   .exact λ_ h=>h
   .rename_i U
    refine⟨⟨by rw[By];exact hid,?_⟩,λ_ h=>h⟩
    by_cases A:id∈J
    .have hp:p=[]:=Classical.byContradiction λhp=>U ⟨A,hp⟩
     subst hp;obtain⟨k,hk',rfl⟩:=H id A;obtain⟨s',sz',n',f1,f2,g1,g2⟩:=hn k hk';obtain⟨ha1,ha2⟩:=ha;rw[g1]at ha1;cases ha1;refine⟨sz,n,f2,cn,?_,hle,hcv⟩;rw[D5 J σ1 σ k hJ hl hJl hk',g2];exact⟨rfl,ha2⟩
    .refine⟨sz,n,f,cn,?_,hle,hcv⟩
     rw[CT J σ1 σ id A];exact At.same (h.wr.rel id hid) ha λb B=>hFs id b A B
  .rintro id p i k cv ⟨hid,s,sz,n,f,b,o,cap,ha,h1,h2,hcv⟩
   unfold DS;split
   .exact λ_ h=>h
   .rename_i U
    refine⟨⟨by rw[By];exact hid,?_⟩,λ_ h=>h⟩
    by_cases A:id∈J
    .have hp:p=[]:=Classical.byContradiction λhp=>U ⟨A,hp⟩
     subst hp;obtain⟨l,Z,rfl⟩:=H id A;obtain⟨s',sz',n',f1,f2,g1,g2⟩:=hn l Z;obtain⟨ha1,ha2⟩:=ha;rw[g1]at ha1;cases ha1;refine⟨s,sz,n,f2,b,o,cap,?_,h1,h2,hcv⟩;rw[D5 J σ1 σ l hJ hl hJl Z,g2];exact⟨rfl,ha2⟩
    .refine⟨s,sz,n,f,b,o,cap,?_,h1,h2,hcv⟩
     rw[CT J σ1 σ id A];exact At.same (h.wr.rel id hid) ha λb B=>hFs id b A B
  .rintro id p cv ⟨hid,l,b,ha,hcv⟩
   unfold DS;split
   .exact λ_ h=>h
   .rename_i U
    refine⟨⟨by rw[By];exact hid,l,b,?_,hcv⟩,λ_ h=>h⟩
    by_cases A:id∈J
    .have hp:p=[]:=Classical.byContradiction λhp=>U ⟨A,hp⟩
     subst hp;obtain⟨k,hk',rfl⟩:=H id A;obtain⟨s',sz',n',f1,f2,g1,g2⟩:=hn k hk';obtain⟨ha1,ha2⟩:=ha;rw[g1]at ha1;cases ha1
    .rw[CT J σ1 σ id A]
     exact At.same (h.wr.rel id hid) ha λb B=>hFs id b A B
 .refine⟨hfr.os.trans h.fr.os,hfr.tape.trans h.fr.tape,hfr.output.trans h.fr.output,le_trans h.fr.size hfr.size,λb B hW=>?_,le_trans h.fr.drawn hfr.drawn⟩
  rw[hsame b (Nat.lt_of_lt_of_le B h.fr.size) fun⟨j,_,hF⟩=>(h.Fn j b hF).elim hW λh=>by omega]
  exact h.fr.block b B hW
 .rcases B with⟨_,B⟩|⟨k,U,_,B⟩
  .exact h.Fn i b B
  .rcases hF1 k b B with⟨j,_,h3⟩|h3
   .exact h.Fn j b h3
   .exact .inr (le_trans h.fr.size h3)
 .rcases hD2 b B with h3|⟨j,_,h3⟩|h3
  .exact h.D2 b h3 hlt
  .exact(h.Fn j b h3).elim .inr λh=>by omega
  .have:=h.fr.size;omega
theorem N4{b off:Nat}{v:Value}(h:w.cell? ⟨b,off,none⟩=some v):w.setCell ⟨b,off,none⟩ v=w:=by
 unfold World.cell? at h;cases A:w.heap[b]? with
 |none=>simp_all
 |some ob=>
  rw[A]at h;cases ob with
  |cells cs T fr=>
   rw[setCell_eq_setRow w b off cs T fr v A];have e:cs.setIfInBounds off v=cs:=by
    grind
   rw[e];exact setRow_self w b cs T fr A
  |_=>trivial
theorem At.last{w:World}{i k:Nat}:∀{p:List (Nat×Nat)}{v:V}{cv:Value}{v':V}{c':Value},At w (p++[(i,k)]) v cv v' c'->∃s sz n f b o cap,At w p v cv (.nd s true sz n f) (Av s b o n cap)/\i<n/\k<sz/\w.cell? ⟨b,o+i*sz+k,none⟩=some c'
 |[],v,cv,v',c',h=>by
  match v,h with
  |.nd s true sz n f,h=>
   obtain⟨W,U,b,o,cap,y,h3,h4,H⟩:=h;exact⟨s,sz,n,f,b,o,cap,⟨rfl,h3.symm⟩,W,U,by rw[H.2];grind⟩
 |(j,l)::p,v,cv,v',c',h=>by
  match v,h with
  |.nd s true sz n f,h=>
   obtain⟨W,U,b,o,cap,y,h3,h4,H⟩:=h;obtain⟨s',B,Z,f',b',Y,A,g1,g2⟩:=At.last H;exact⟨s',B,Z,f',b',Y,A,⟨W,U,b,o,cap,y,h3,h4,g1⟩,g2⟩
theorem VF{id:Nat}{p:List (Nat×Nat)}(h:∀id' q,S id' q->id'≠j/\¬ (id'=id/\AN p q=true)):Cr (AY id p j) S:=
 ⟨CE id p j,λid' q off len A=>by unfold AY;grind,λid' q i k A=>by unfold AY;grind,λid' q A=>by unfold AY;grind⟩
theorem Li:∀{p:List (Nat×Nat)},p≠[]->∃p0 i k,p=p0++[(i,k)]
 |[],h=>absurd rfl h
 |[(i,k)],_=>⟨[],i,k,rfl⟩
 |a::b::p,_=>by
  obtain⟨p0,i,k,h⟩:=Li (p:=b::p) (by simp)
  grind
theorem CR.plug(h:CR C σ ts cts w D ρ F){a:Db}(U:YP w σ ρ a j):
  ∃F',CR C ((σ.set a.1 (upd a.2 (σ.getD a.1 .dead) (σ.getD j .dead))).set j .dead) (ts.map (AY a.1 a.2 j)) cts w D ρ F':=by
 obtain⟨id,p⟩:=a;obtain⟨A,hi,hj,B,H⟩:=U;obtain⟨p0,i,k,rfl⟩:=Li A;obtain⟨s,sz,n,f,b,o,cap,Z,Y,h3,h4⟩:=At.last H;have W:=h.store_move hi hj B Z Y h3;rw[N4 h4]at W
 grind
def Dz(L:List (Db×V))(i:Nat)(v:V):V:=match L with
 |[]=>v
 |a::L=>Dz L i (if a.1.1=i then upd a.1.2 v a.2 else v)
theorem Q9{C:Ctx}{cts:Array Value}{w:World}{D:Nat->Prop}{ρ:Nat->Value}:∀(H:List (Db×Nat)) (σ ts:List V) (F:Nat->Nat->Prop),CR C σ ts cts w D ρ F->(∀h∈H,YP w σ ρ h.1 h.2)->(H.map (·.2)).Nodup->(∀h∈H,∀h'∈H,h.2≠h'.1.1)->H.Pairwise (λa b=>Ib a.1 b.1)->
  ∃(U:List V) (M:V->V) (F':Nat->Nat->Prop),CR C U (ts.map M) cts w D ρ F'/\U.length=σ.length/\Cr M (λid q=>(∀h∈H,id≠h.2)/\∀h∈H,¬ (id=h.1.1/\AN h.1.2 q=true))/\
   ∀i,(∀h∈H,i≠h.2)->U.getD i .dead=Dz (H.map λh=>(h.1,σ.getD h.2 .dead)) i (σ.getD i .dead)
 |[],σ,ts,F,h,_,_,_,_=>by
  have e:ts.map (λv=>v)=ts:=by simp
  exact⟨σ,λv=>v,F,by rw[e];exact h,rfl,Cr.idf,λ_ _=>rfl⟩
 |(a,j)::H,σ,ts,F,h,hh,hnd,hne,hp=>by
  have ho:=hh _ (mem_cons_self ..);obtain⟨F1,h1⟩:=h.plug ho;obtain⟨hnj,Z⟩:=nodup_cons.1 hnd;obtain⟨hap,hp'⟩:=pairwise_cons.1 hp;have hi:=ho.hi;have hj:=ho.hj;have hij:=ho.ij;simp only at hi hj hij;have hjs:∀h∈H,h.2≠j:=λh hh e=>hnj (by rw[<-e];exact mem_map.2 ⟨h,hh,rfl⟩)
  have hg:∀i,i≠j->((σ.set a.1 (upd a.2 (σ.getD a.1 .dead) (σ.getD j .dead))).set j .dead).getD i .dead=if a.1=i then upd a.2 (σ.getD i .dead) (σ.getD j .dead)else σ.getD i .dead:=by
   intro i W;rw[Ad (Ne.symm W)];by_cases he:a.1=i
   .subst he;rw[if_pos rfl,Ag hi]
   .rw[if_neg he,Ad he]
  obtain⟨U,M,F',h2,h3,h4,h5⟩:=Q9 H _ _ _ h1 (λb A=>by
   have B:=hh b (mCM _ A);have hbj:b.1.1≠j:=λe=>hne _ (mem_cons_self ..) b (mCM _ A) e.symm
   refine⟨B.ne,by simpa using B.hi,by simpa using B.hj,B.ij,?_⟩
   rw[hg _ hbj];split
   .rename_i he
    rcases hap b A with h6|h6
    .exact absurd he h6
    .exact At.dvg h6 B.at'
   .exact B.at') Z (λb A c hc=>hne b (mCM _ A) c (mCM _ hc)) hp'
  refine⟨U,λv=>M (AY a.1 a.2 j v),F',by simpa [map_map,Function.comp_def]using h2,by rw[h3];simp,Cr.comp (h4.weak λid q Y=>⟨λb A=>Y.1 b (mCM _ A),λb A=>Y.2 b (mCM _ A)⟩) (VF λid q Y=>⟨Y.1 _ (mem_cons_self ..),Y.2 _ (mem_cons_self ..)⟩),λi hi'=>?_⟩
  have W:i≠j:=hi' _ (mem_cons_self ..);rw[h5 i λb A=>hi' b (mCM _ A),hg i W]
  have e:(H.map λh=>(h.1,((σ.set a.1 (upd a.2 (σ.getD a.1 .dead) (σ.getD j .dead))).set j .dead).getD h.2 .dead))=H.map λh=>(h.1,σ.getD h.2 .dead):=by
   refine List.map_congr_left λb A=>?_
   have hb2:a.1≠b.2:=λe=>hne b (mCM _ A) _ (mem_cons_self ..) e.symm
   rw[hg _ (hjs b A),if_neg hb2]
  rw[e];rfl
def Qv:∀{L:List Db}{a:Db}{i:Nat}{v x:V},a.1=i->(∀b∈L,Ib a b)->upd a.2 (UI L i v) x=UI L i (upd a.2 v x)
 |[],_,_,_,_,_,_=>rfl
 |b::L,a,i,v,x,h,hb=>by
  unfold UI;rw[Qv h λc A=>hb c (mCM _ A)]
  congr 1
  split
  .rcases hb b (mem_cons_self ..)with h1|h1
   .grind
   .exact Qw _ _ _ _ _ h1
  rfl
def MR:∀{E:List (Db×V)}{i:Nat}{v:V},(E.map (·.1)).Pairwise Ib->(∀a∈E,a.1.1=i->a.1.2≠[])->Dz E i (UI (E.map (·.1)) i v)=Dz E i v
 |[],_,_,_,_=>rfl
 |a::E,i,v,hp,hn=>by
  obtain⟨U,B⟩:=pairwise_cons.1 hp;show Dz E i (if a.1.1=i then upd a.1.2 (UI (E.map (·.1)) i (if a.1.1=i/\a.1.2≠[]then upd a.1.2 v .dead else v)) a.2 else UI (E.map (·.1)) i (if a.1.1=i/\a.1.2≠[]then upd a.1.2 v .dead else v))=Dz E i (if a.1.1=i then upd a.1.2 v a.2 else v)
  by_cases A:a.1.1=i
  .rw[if_pos A,if_pos A,if_pos ⟨A,hn a (mem_cons_self ..) A⟩,Qv A U,Ik]
   exact MR B λb H=>hn b (mCM _ H)
  .rw[if_neg A,if_neg A,if_neg (λh=>A h.1)]
   exact MR B λb H=>hn b (mCM _ H)
end Go.Ve


namespace Go.Ve
variable{C:Ctx}{f:FuncId}{args σ1:List V}{P:Program}{r:V}{w:World}
def Qo(w:World)(D:Nat->Prop)(ρ:Nat->Value)(F:Nat->Nat->Prop)(r:V)(σ1:List V):Ending->World->Prop:=λe w'=>∃(cv:Value) (fp D':Nat->Prop) (F':Nat->Nat->Prop),e=.returned cv/\Rel D' w' noR r cv fp/\Be σ1 w' D' ρ F'/\Fr w w' (λb=>∃i,F i b)/\
   (∀b,fp b->((∃j,F j b)\/w.heap.size<=b)/\¬D' b/\∀i,¬F' i b)/\(∀i b,F' i b->(∃j,F j b)\/w.heap.size<=b)/\(∀b,D b->D' b)/\(∀b,D' b->D b\/(∃j,F j b)\/w.heap.size<=b)
def Adu(X:(Ending->World->Prop)->Prop)(args σ0:List V)(r:V)(σ1:List V)(w:World)(D:Nat->Prop)(ρ:Nat->Value)(F:Nat->Nat->Prop)(cvs:Array Value):Prop:=
 Wok w->(∀p,WD=some p->∀i,¬F i p.1)->Be σ0 w D ρ F->cvs.size=args.length->(∀i,i<args.length->Rel D w (Ae σ0 ρ w) (args.getD i .dead) (cvs.getD i undef) noF)->X (Qo w D ρ F r σ1)
def Abg(u:FrameMode)(R:Ending->World->Prop):Ending->FrameMode->World->Prop:=λe A w'=>A=u/\R e w'
def FCM(P:Program)(f:FuncId)(args σ0:List V)(r:V)(σ1:List V):Prop:=
 ∀(w:World) (D:Nat->Prop) (ρ:Nat->Value) (F:Nat->Nat->Prop) (cvs:Array Value),Adu (λR=>Calls P f cvs w R/\∀u,CallsD P f cvs u w (Abg u R)) args σ0 r σ1 w D ρ F cvs
def FCM.calls{σ0:List V}(h:FCM P f args σ0 r σ1)(w:World)(D:Nat->Prop)(ρ:Nat->Value)(F:Nat->Nat->Prop)(cvs:Array Value):Adu (Calls P f cvs w) args σ0 r σ1 w D ρ F cvs:=λH B h3 h4 A=>(h w D ρ F cvs H B h3 h4 A).1
theorem UP{X:(Ending->World->Prop)->Prop}(hX:∀R R':Ending->World->Prop,(∀e w',R e w'->R' e w')->X R->X R'){σ ts:List V}{cts:Array Value}{D:Nat->Prop}{ρ:Nat->Value}{F:Nat->Nat->Prop}(h:CR C σ ts cts w D ρ F){args:List V}{J:List Nat}{r:V}{σ1:List V}{cvs:Array Value}
  {σ0:List V} (hc:Adu X args σ0 r σ1 w D (λk=>ρ (J.getD k 0)) (λk b=>k<J.length/\F (J.getD k 0) b) cvs) (hl0:σ0.length=J.length) (hs0:∀k,k<J.length->Sub (σ.getD (J.getD k 0) .dead) (σ0.getD k .dead)) (hJ:J.Nodup) (hJl:∀j∈J,j<σ.length) (hl1:σ1.length=J.length)
  (hsz:∀k,k<J.length->∃s sz n f f',σ.getD (J.getD k 0) .dead=.nd s true sz n f/\σ1.getD k .dead=.nd s true sz n f')
  (hcs:cvs.size=args.length) (Z:∀i,i<args.length->Rel D w (Ae σ0 (λk=>ρ (J.getD k 0)) w) (args.getD i .dead) (cvs.getD i undef) noF):
  X λe w'=>∃(cv:Value) (fp D':Nat->Prop) (F':Nat->Nat->Prop),e=.returned cv/\CR C (DB J σ1 σ) (ts.map (DS J)) cts w' D' ρ F'/\Rel D' w' noR r cv fp/\∀b,fp b->(C.W b\/C.w0.heap.size<=b)/\¬D' b/\∀i,¬F' i b:=by
 have hinj:∀k k',k<J.length->k'<J.length->J.getD k 0=J.getD k' 0->k=k':=λk k' H h2 he=>by
  simp only[gDE,gEE H,gEE h2,getD_some]at he;rcases lt_trichotomy k k' with hlt|heq|hlt
  .exact absurd he (pairwise_iff_getElem.1 hJ k k' H h2 hlt)
  .exact heq
  .exact absurd he.symm (pairwise_iff_getElem.1 hJ k' k h2 H hlt)
 have U:∀k,k<J.length->J.getD k 0∈J:=λk hk=>by simp[hk]
 have wr0:Be σ0 w D (λk=>ρ (J.getD k 0)) (λk b=>k<J.length/\F (J.getD k 0) b):=by
  refine⟨λi hi=>?_,λi j b hij A hb'=>?_,λi b A=>h.wr.dD _ b A.2,h.wr.Dlt,λi b hi A=>?_⟩
  .have hi:i<J.length:=by omega
   exact Rel.fp_congr (λb=>⟨λA=>⟨hi,A⟩,λA=>A.2⟩) (Rel.sub (hs0 i hi) (h.wr.rel _ (hJl _ (U i hi))))
  .exact h.wr.disj _ _ b (λe=>hij (hinj i j A.1 hb'.1 e)) A.2 hb'.2
  .have:=A.1;omega
 have hG:∀b,(∃i,i<J.length/\F (J.getD i 0) b)->∃j∈J,F j b:=λb ⟨i,hi,A⟩=>⟨J.getD i 0,U i hi,A⟩
 refine hX _ _ ?_ (hc h.ok (λp hp i hF=>(h.Fn _ _ hF.2).elim (C.ok.2 p hp) λhle=>by have:=C.ok.1.lt hp;omega) wr0 hcs Z)
 intro e w' Y;obtain⟨cv,fp,D',F1,rfl,hr,wr1,B,hfp,hF1,hD1,hD2⟩:=Y;have hfr':Fr w w' (λb=>∃j∈J,F j b):=⟨B.os,B.tape,B.output,B.size,λb A hn=>B.block b A λhx=>hn (hG b hx),B.drawn⟩
 obtain⟨F',hsw,hF'⟩:=h.swap hJ hJl hl1 wr1 hfr' (λi b A=>(hF1 i b A).imp (hG b) id) hD1 (λb A=>(hD2 b A).imp id λh=>h.imp (hG b) id) hsz
 refine⟨cv,fp,D',F',rfl,hsw,hr,λb A=>?_⟩
 obtain⟨H,h2,h3⟩:=hfp b A;refine⟨?_,h2,λi hF=>?_⟩
 .rcases H with H|H
  .obtain⟨j,_,hj⟩:=hG b H
   exact h.Fn j b hj
  .exact .inr (le_trans h.fr.size H)
 .rcases hF' i b hF with⟨h4,h5⟩|⟨k,h4⟩
  .rcases H with H|H
   .obtain⟨j,hj,hF2⟩:=hG b H
    exact h.wr.disj i j b (λe=>h4 (e▸hj)) h5 hF2
   .have:=h.wr.lt i b h5;omega
  .exact h3 k h4
def Ms.turn(S:Ms)(J:List Nat)(σ1:List V):Ms:=⟨λx=>DS J (S.t x),DB J σ1 S.σ⟩
def Aar{P:Program}{h:BW}{S:Ms}{a:Act}{o:Oper}{f:FuncId}{cvs:Array Value}{args:List V}{J:List Nat}{r:V}{σ1:List V}{next:Act->World->Prop}{Q:Exit->Act->World->Prop}(hs:AA C h.n S a w)
  (hrun:(execOp a.eval o).run P w=.ok (.enter f cvs) w) {σ0:List V} (hc:∀D ρ F,CR C S.σ ((range h.n).map S.t) a.tmps w D ρ F->Adu (Calls P f cvs w) args σ0 r σ1 w D (λk=>ρ (J.getD k 0)) (λk b=>k<J.length/\F (J.getD k 0) b) cvs) (hl0:σ0.length=J.length) (hs0:∀k,k<J.length->Sub (S.σ.getD (J.getD k 0) .dead) (σ0.getD k .dead)) (hJ:J.Nodup) (hJl:∀j∈J,j<S.σ.length) (hl1:σ1.length=J.length)
  (hsz:∀k,k<J.length->∃s sz n f f',S.σ.getD (J.getD k 0) .dead=.nd s true sz n f/\σ1.getD k .dead=.nd s true sz n f') (hcs:cvs.size=args.length)
  (hargs:∀D ρ F,CR C S.σ ((range h.n).map S.t) a.tmps w D ρ F->∀i,i<args.length->Rel D w (Ae σ0 (λk=>ρ (J.getD k 0)) w) (args.getD i .dead) (cvs.getD i undef) noF)
  (hd:∀d,o.dst=some d->d<h.n/\h.fz.contains d=false) (hn:∀a' w',AA C h.n ((S.turn J σ1).res h o.dst r) a' w'->next a' w'):o.wp P a w next Q:=by
 obtain⟨hd0,hdd,D,ρ,F,Z⟩:=hs;unfold Oper.wp;rw[hrun,Oper.upon_enter];refine(UP (X:=Calls P f cvs w) (λR R' hR hx=>hx.mono hR) Z (hc D ρ F Z) hl0 hs0 hJ hJl hl1 hsz hcs (hargs D ρ F Z)).mono λe w' hp=>?_
 obtain⟨cv,fp,D',F',rfl,A,hr,U⟩:=hp;have e:((range h.n).map S.t).map (DS J)=(range h.n).map (S.turn J σ1).t:=by rw[map_map];rfl
 rw[e]at A
 have W:∀x,h.n<=x->(S.turn J σ1).t x=.dead:=λx hx=>by
  show DS J (S.t x)=.dead;rw[hdd x hx];rfl
 cases H:(o.dst:Option Nat)with
 |none=>
  refine hn _ _ ?_;rw[H];exact⟨hd0,W,D',ρ,F',A⟩
 |some d=>
  obtain⟨Y,hfz⟩:=hd d H;refine hn _ _ ?_;rw[H];unfold Ms.res;simp only[Y,if_true,hfz,Bool.false_eq_true,if_false];refine⟨hd0,λy hy=>?_,?_⟩
  .show AD _ d _ y=.dead
   have:¬y=d:=λe=>absurd Y (Nat.not_lt.2 (e▸hy))
   unfold AD;rw[if_neg this];exact W y hy
  .have h1:=A.own (G:=fp) (λi b B hf=>(U b hf).2.2 i B) (λb B hf=>(U b hf).2.1 B) (λb B=>(U b B).1) rfl rfl rfl (le_refl _) (le_refl _) (λ_ _ _=>rfl) hr (λb B=>.inl B) (λ_ h=>h) (λb B=>.inl B) (λb B=>⟨A.wr.Dlt b B,λhf=>(U b hf).2.1 B⟩) d
   rw[BC,<-BO Y];exact h1
end Go.Ve


namespace Go.Ve
def FCW(P:Program)(f:FuncId)(args σ0:List V)(A:Value)(σ1:List V):Prop:=
 ∀(w:World) (D:Nat->Prop) (ρ:Nat->Value) (F:Nat->Nat->Prop) (cvs:Array Value),Wok w->(∀p,WD=some p->∀i,¬F i p.1)->Be σ0 w D ρ F->cvs.size=args.length->(∀i,i<args.length->Rel D w (Ae σ0 ρ w) (args.getD i .dead) (cvs.getD i undef) noF)->
  Calls P f cvs w λe w'=>e=.returned A/\∃(D':Nat->Prop) (F':Nat->Nat->Prop),Be σ1 w' D' ρ F'/\Fr w w' (λb=>∃i,F i b)/\(∀i b,F' i b->(∃j,F j b)\/w.heap.size<=b)/\(∀b,D b->D' b)/\(∀b,D' b->D b\/(∃j,F j b)\/w.heap.size<=b)
theorem Rel.len_eq{D D':Nat->Prop}{w w':World}{sz A n H:Nat}{f W:Nat->Nat->V}{cv:Value}{fp B:Nat->Prop}(h:Rel D w noR (.nd true true sz n f) cv fp)(U:Rel D' w' noR (.nd true true A H W) cv B):n=H:=by
 obtain⟨a,c,e⟩:=Rel.sliceLen h;obtain⟨Z,c',Y⟩:=Rel.sliceLen U
 grind
def IA:∀{E:List (Db×V)}{i:Nat}{v:V},(∀a∈E,a.1.1≠i)->Dz E i v=v
 |[],_,_,_=>rfl
 |a::E,i,v,h=>by
  unfold Dz;rw[if_neg (h a (mem_cons_self ..))];exact IA λb A=>h b (mCM _ A)
theorem Lx:∀{E:List (Db×V)}{i:Nat}{v x:V},(E.map (·.1)).Pairwise Ib->((i,[]),x)∈E->Dz E i v=x
 |[],_,_,_,_,h=>by grind
 |a::E,i,v,x,hp,h=>by
  obtain⟨B,A⟩:=pairwise_cons.1 hp;unfold Dz;rcases List.mem_cons.1 h with rfl|h
  .rw[if_pos rfl]
   refine IA λb H e=>?_
   rcases B _ (mem_map.2 ⟨b,H,rfl⟩)with h1|h1
   .grind
   trivial
  .exact Lx A h
theorem IZ:∀{E:List (Db×V)}{i:Nat}{v:V},(∀a∈E,a.1.1=i->a.1.2≠[])->Dz (E.filter λa=>!a.1.2.isEmpty) i v=Dz E i v
 |[],_,_,_=>rfl
 |a::E,i,v,h=>by
  have B:=λv=>IZ (v:=v) λb A=>h b (mCM _ A)
  cases A:a.1.2.isEmpty with
  |true=>
   have H:=λe=>h a (mem_cons_self ..) e (List.isEmpty_iff.1 A)
   show _=Dz E i (if a.1.1=i then _ else v)
   grind
  |false=>
   rw[List.filter_cons_of_pos (by grind)]
   exact B _
theorem Aaq{P:Program}{C:Ctx}{σ ts:List V}{cts:Array Value}{w:World}{D:Nat->Prop}{ρ:Nat->Value}{F:Nat->Nat->Prop}(h:CR C σ ts cts w D ρ F){f:FuncId}{args:List V}{L:List Db}{rv:Value}{σ1:List V}{cvs:Array Value}
  (hc:FCW P f args (L.map λa=>sub a.2 (σ.getD a.1 .dead)) rv σ1) (hL:∀a∈L,a.1<σ.length/\∃sz n f c,At w a.2 (σ.getD a.1 .dead) (ρ a.1) (.nd true true sz n f) c) (hp:L.Pairwise Ib) (hl1:σ1.length=L.length)
  (hsz:∀k,k<L.length->∃sz n n' f f',sub (L.getD k (0,[])).2 (σ.getD (L.getD k (0,[])).1 .dead)=.nd true true sz n f/\σ1.getD k .dead=.nd true true sz n' f')
  (hcs:cvs.size=args.length) (hargs:∀(ρ0:Nat->Value) (F0:Nat->Nat->Prop),Be (L.map λa=>sub a.2 (σ.getD a.1 .dead)) w D ρ0 F0->(∀k,k<L.length->At w (L.getD k (0,[])).2 (σ.getD (L.getD k (0,[])).1 .dead) (ρ (L.getD k (0,[])).1) (sub (L.getD k (0,[])).2 (σ.getD (L.getD k (0,[])).1 .dead)) (ρ0 k))->
   ∀i,i<args.length->Rel D w (Ae (L.map λa=>sub a.2 (σ.getD a.1 .dead)) ρ0 w) (args.getD i .dead) (cvs.getD i undef) noF):
  Calls P f cvs w λe w'=>e=.returned rv/\∃(σ3:List V) (M:V->V),Wi C σ3 (ts.map M) cts w'/\σ.length<=σ3.length/\Cr M (Off L σ.length)/\(∀i,i<σ.length->σ3.getD i .dead=Dz (L.zip σ1) i (σ.getD i .dead))/\
   ∀k,k<L.length->∃sz n f f',sub (L.getD k (0,[])).2 (σ.getD (L.getD k (0,[])).1 .dead)=.nd true true sz n f/\σ1.getD k .dead=.nd true true sz n f':=by
 obtain⟨σc,ρc,Fc,J,M,hcr,B,hM,hcv⟩:=Qi L σ ts ρ F h hL hp;have Z:∀k,k<L.length->L.getD k (0,[])∈L:=λk B=>by simp[B]
 have hJl:∀j∈J,j<σc.length:=by
  intro j hj;obtain⟨k,U,rfl⟩:=getElem_of_mem hj;have:=(B.j k (by rw[<-B.jl];exact U)).1
  simpa [U]using this
 have hinj:∀k k',k<L.length->k'<L.length->J.getD k 0=J.getD k' 0->k=k':=λk k' H W he=>by
  rw[<-B.jl]at H W;simp only[gDE,gEE H,gEE W,getD_some]at he;rcases lt_trichotomy k k' with hlt|heq|hlt
  .exact absurd he (pairwise_iff_getElem.1 B.nd k k' H W hlt)
  .exact heq
  .exact absurd he.symm (pairwise_iff_getElem.1 B.nd k' k W H hlt)
 have hg0:∀k,k<L.length->(L.map λa=>sub a.2 (σ.getD a.1 .dead)).getD k .dead=sub (L.getD k (0,[])).2 (σ.getD (L.getD k (0,[])).1 .dead):=λk B=>by simp[B]
 have wr0:Be (L.map λa=>sub a.2 (σ.getD a.1 .dead)) w D (λk=>ρc (J.getD k 0)) (λk b=>k<L.length/\Fc (J.getD k 0) b):=by
  refine⟨λi hi=>?_,λi j b hij hb hb'=>?_,λi b hb=>hcr.wr.dD _ b hb.2,hcr.wr.Dlt,λi b hi hb=>?_⟩
  .have hi:i<L.length:=by simpa using hi
   rw[hg0 i hi];obtain⟨H,W⟩:=B.j i hi;rw[<-W];exact Rel.fp_congr (λb=>⟨λhb=>⟨hi,hb⟩,λhb=>hb.2⟩) (hcr.wr.rel _ H)
  .exact hcr.wr.disj _ _ b (λe=>hij (hinj i j hb.1 hb'.1 e)) hb.2 hb'.2
  .have:=hb.1;simp at hi;omega
 refine(hc w D _ _ cvs hcr.ok (λp hp i hF=>(hcr.Fn _ _ hF.2).elim (C.ok.2 p hp) λhle=>by have:=C.ok.1.lt hp;omega) wr0 hcs (hargs _ _ wr0 B.val)).mono λe w' hpost=>?_
 obtain⟨rfl,D',F1,wr1,hfr,hF1,hD1,hD2⟩:=hpost;refine⟨rfl,?_⟩;have hG:∀b,(∃i,i<L.length/\Fc (J.getD i 0) b)->∃j∈J,Fc j b:=λb ⟨i,hi,hb⟩=>⟨J.getD i 0,by rw[<-B.jl]at hi;simp[hi],hb⟩
 have hfr':Fr w w' (λb=>∃j∈J,Fc j b):=⟨hfr.os,hfr.tape,hfr.output,hfr.size,λb hb hn=>hfr.block b hb λhx=>hn (hG b hx),hfr.drawn⟩
 have hlen:∀k,k<L.length->∃sz n f f',sub (L.getD k (0,[])).2 (σ.getD (L.getD k (0,[])).1 .dead)=.nd true true sz n f/\σ1.getD k .dead=.nd true true sz n f':=by
  intro k hkl;obtain⟨sz,n,n',f1,f2,g1,g2⟩:=hsz k hkl;obtain⟨H,W⟩:=B.j k hkl;have r1:=hcr.wr.rel _ H;rw[W,g1]at r1;have r2:=wr1.rel k (by omega)
  rw[g2]at r2;have:=Rel.len_eq r1 r2;subst this;exact⟨sz,n,f1,f2,g1,g2⟩
 obtain⟨Fd,hsw,_⟩:=hcr.swap B.nd hJl (by rw[hl1,B.jl]) wr1 hfr' (λi b hb=>(hF1 i b hb).imp (hG b) id) hD1 (λb hb=>(hD2 b hb).imp id λh=>h.imp (hG b) id) (λk hkl=>by
  rw[B.jl]at hkl;obtain⟨sz,n,f1,f2,g1,g2⟩:=hlen k hkl;exact⟨true,sz,n,f1,f2,by rw[(B.j k hkl).2,g1],g2⟩)
 -- the holes
 have hparJ:∀a∈L,a.2≠[]->a.1∉J:=by
  intro a ha Y hj;obtain⟨k,U,hk2⟩:=getElem_of_mem hj;have A:k<L.length:=by rw[<-B.jl];exact U
  have e:J.getD k 0=a.1:=by simp[U,hk2]
  by_cases h0:(L.getD k (0,[])).2=[]
  .have H:=B.rt k A h0
   obtain⟨k',hk',rfl⟩:=getElem_of_mem ha;have e2:(L.getD k (0,[])).1=L[k'].1:=by omega
   have e3:L.getD k (0,[])=L[k]:=by simp[A]
   rw[e3]at e2 h0;rcases lt_trichotomy k k' with hlt|heq|hlt
   .rcases pairwise_iff_getElem.1 hp k k' A hk' hlt with W|W
    .exact W e2
    .rw[h0]at W;cases W
   .subst heq;exact Y h0
   .rcases pairwise_iff_getElem.1 hp k' k hk' A hlt with W|W
    .exact W e2.symm
    .rw[h0,Yr]at W;cases W
  .have:=(B.pt k A h0).1
   have:=(hL a ha).1;omega
 have hzip:∀h∈(L.zip J).filter (λh=>!h.1.2.isEmpty),∃k,k<L.length/\h.1=L.getD k (0,[])/\h.2=J.getD k 0/\h.1.2≠[]:=by
  intro h hh;obtain⟨H,W⟩:=List.mem_filter.1 hh;obtain⟨k,U,rfl⟩:=getElem_of_mem H;have A:k<L.length:=by simp at U;omega
  have hkJ:k<J.length:=by rw[B.jl];exact A
  refine⟨k,A,by simp[A],by simp[hkJ],λh0=>?_⟩
  rw[h0]at W;cases W
 have hsub2:((L.zip J).filter (λh=>!h.1.2.isEmpty)).Sublist (L.zip J):=List.filter_sublist
 have hzl:(L.zip J).map (·.1)=L:=List.map_fst_zip (by have:=B.jl;omega)
 have hzr:(L.zip J).map (·.2)=J:=List.map_snd_zip (by have:=B.jl;omega)
 obtain⟨σ3,M3,F3,h3,hl3,hM3,hv3⟩:=Q9 ((L.zip J).filter λh=>!h.1.2.isEmpty) _ _ _ hsw (λa ha=>by
   obtain⟨k,A,e1,e2,Y⟩:=hzip a ha;obtain⟨_,ho⟩:=B.pt k A (by rw[<-e1];exact Y)
   rw[<-e1,<-e2]at ho;have hnJ:a.1.1∉J:=hparJ a.1 (by rw[e1];exact Z k A) Y
   refine⟨ho.ne,by rw[By];exact ho.hi,by rw[By];exact ho.hj,ho.ij,?_⟩
   rw[CT J σ1 σc _ hnJ];refine At.same (hcr.wr.rel _ ho.hi) ho.at' λb hb=>hfr'.block b (hcr.wr.lt _ b hb) fun⟨j,hj,hF⟩=>hcr.wr.disj a.1.1 j b (λe=>hnJ (by rw[e];exact hj)) hb hF)
  (List.Nodup.sublist (hsub2.map (·.2)) (by rw[hzr];exact B.nd))
  (λa ha b hb=>by
   obtain⟨k,A,e1,e2,Y⟩:=hzip a ha;obtain⟨k',hkL',e1',e2',hne'⟩:=hzip b hb;have H:=(B.pt k A (by rw[<-e1];exact Y)).1
   have W:=(hL b.1 (by rw[e1'];exact Z k' hkL')).1
   omega)
  (by
   have H:((L.zip J).map (·.1)).Pairwise Ib:=by rw[hzl];exact hp
   exact List.Pairwise.sublist hsub2 (List.pairwise_map.1 H))
 refine⟨σ3,λv=>M3 (DS J (M v)),⟨_,_,_,by simpa [map_map,Function.comp_def]using h3⟩,by rw[hl3,By];exact B.len,?_,λi hi=>?_,hlen⟩
 .refine Cr.comp (hM3.weak λid q hq=>⟨λa ha=>?_,λa ha h0=>?_⟩) (Cr.comp (LJ λid q hq h0=>?_) hM)
  .obtain⟨k,A,e1,e2,Y⟩:=hzip a ha
   have H:=(B.pt k A (by rw[<-e1];exact Y)).1
   have:=hq.1;omega
  .obtain⟨k,A,e1,e2,Y⟩:=hzip a ha
   rcases hq.2 a.1 (by rw[e1];exact Z k A) h0.1.symm with H|H
   .exact Y H.1
   .rw[h0.2]at H;cases H.2
  .obtain⟨k,U,hk2⟩:=getElem_of_mem h0.1
   have A:k<L.length:=by rw[<-B.jl];exact U
   have e:J.getD k 0=id:=by simp[U,hk2]
   by_cases H:(L.getD k (0,[])).2=[]
   .have W:=B.rt k A H
    rcases hq.2 _ (Z k A) (by omega)with h3|h3
    .exact h0.2 h3.2
    .exact h3.1 H
   .have:=(B.pt k A H).1
    have:=hq.1;omega
 .rw[hv3 i λa ha=>by
   obtain⟨k,A,e1,e2,Y⟩:=hzip a ha;have H:=(B.pt k A (by rw[<-e1];exact Y)).1
   omega]
  have hmapJ:J.map (λj=>(DB J σ1 σc).getD j .dead)=σ1:=by
   apply List.ext_getElem
   .simp[hl1,B.jl]
   .intro k H W
    have hkJ:k<J.length:=by simpa using H
    have:=D5 J σ1 σc k B.nd (by rw[hl1,B.jl]) hJl hkJ
    simp only[List.getElem_map];have e:J.getD k 0=J[k]:=by simp[hkJ]
    rw[e]at this;rw[this];simp[W]
  have hmapE:((L.zip J).filter λh=>!h.1.2.isEmpty).map (λh=>(h.1,(DB J σ1 σc).getD h.2 .dead))=(L.zip σ1).filter λa=>!a.1.2.isEmpty:=by
   rw[<-hmapJ,List.zip_map_right,List.filter_map];simp only[Function.comp_def,hmapJ];rfl
  rw[hmapE];have hE1:(L.zip σ1).map (·.1)=L:=List.map_fst_zip (by omega)
  have hpE:((L.zip σ1).map (·.1)).Pairwise Ib:=by rw[hE1];exact hp
  by_cases hroot:∃k,k<L.length/\L.getD k (0,[])=(i,[])
  .obtain⟨k,A,he⟩:=hroot
   have hmem:((i,([]:List (Nat×Nat))),σ1.getD k .dead)∈L.zip σ1:=by
    have e1:L[k]=(i,[]):=by rw[<-he];simp[A]
    have U:k<σ1.length:=by omega
    have e2:(L.zip σ1)[k]'(by simp;omega)=((i,[]),σ1.getD k .dead):=by
     rw[List.getElem_zip,e1];simp[U]
    rw[<-e2];exact List.getElem_mem _
   rw[Lx hpE hmem];have hJk:J.getD k 0=i:=by
    have:=B.rt k A (by rw[he])
    rw[he]at this;exact this
   rw[IA]
   .have:=D5 J σ1 σc k B.nd (by rw[hl1,B.jl]) hJl (by rw[B.jl];exact A)
    rw[hJk]at this;exact this
   .intro a ha e
    obtain⟨H,W⟩:=List.mem_filter.1 ha;have h3:a.1∈L:=by rw[<-hE1];exact mem_map.2 ⟨a,H,rfl⟩
    have h4:a.1.2≠[]:=λh0=>by rw[h0]at W;cases W
    exact hparJ a.1 h3 h4 (by rw[e,<-hJk];rw[<-B.jl]at A;simp[A])
  .have hnr:∀a∈L,a.1=i->a.2≠[]:=by
    intro a ha H W;obtain⟨k,A,rfl⟩:=getElem_of_mem ha;exact hroot ⟨k,A,by simp only[gDE,gEE A,getD_some];rw[<-H,<-W]⟩
   have hnrE:∀a∈L.zip σ1,a.1.1=i->a.1.2≠[]:=λa ha=>hnr a.1 (by rw[<-hE1];exact mem_map.2 ⟨a,ha,rfl⟩)
   rw[IZ hnrE];have hiJ:i∉J:=by
    intro hj;obtain⟨k,U,hk2⟩:=getElem_of_mem hj;have A:k<L.length:=by rw[<-B.jl];exact U
    have e:J.getD k 0=i:=by simp[U,hk2]
    by_cases h0:(L.getD k (0,[])).2=[]
    .have H:=B.rt k A h0
     exact hnr _ (Z k A) (by omega) h0
    .have:=(B.pt k A h0).1
     omega
   rw[CT J σ1 σc i hiJ,hcv i hi];have:=MR (v:=σ.getD i .dead) hpE hnrE;rw[hE1]at this;exact this
end Go.Ve

