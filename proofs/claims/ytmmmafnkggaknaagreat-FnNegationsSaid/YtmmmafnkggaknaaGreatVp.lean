/- The small machine's steps: a store of a whole variable; one operation behind the other. -/
import Derived.Test.YtmmmafnkggaknaaGreatVn
set_option linter.all false
namespace Go.Ve
variable{a:Act}{C:Ctx}{l σ:List V}{ct:List Value}{S:Ms}{N i:Nat}{F:Nat->Nat->Prop}{D:Nat->Prop}{t:Nat->V}{ρ:Nat->Value}{w:World}
theorem CR.left{t:List V}{cl:List Value}(h:CR C σ (t++l) (ct++cl).toArray w D ρ F)(u:ct.length=t.length):CR C σ t ct.toArray w D ρ F:=by
 refine⟨h.wr,by omega,λj A=>?_,h.fr,h.Fn,h.D1,h.D2,h.rt,h.ml⟩
 have B:=h.tm j (by grind)
 have e:(ct++cl).toArray.getD j undef=ct.toArray.getD j undef:=by simp[gAL,u,A]
 grind
section
variable {P:Program}{C:Ctx}{D:Nat->Prop}
def Qp{id:Nat}{p:List (Nat×Nat)}{i k0:Nat}{ct:List Value}{Z u N:Nat}{K:List V->(Nat->V)->Prop}:
  ∀(m:Nat) (cs:List V) (e:List Value) (j:Nat) (σ:List V) (t:Nat->V) (w:World) (ρ:Nat->Value) (F:Nat->Nat->Prop),
  CR C σ ((List.range N).map t++ .rp id p i k0::cs) (ct++ .pointer (some ⟨Z,u+k0,none⟩)::e).toArray w D ρ F->ct.length=N->(∀x,N<=x->t x=.dead)->e.length=cs.length->k0+j+cs.length<=AT σ id p->putL id p i m (k0+j) cs σ t K->
  ∃w' σ' t',(storeCells ⟨Z,u+k0,none⟩ e j).run P w=.ok () w'/\K σ' t'/\(∀x,N<=x->t' x=.dead)/\Wy C σ' ((List.range N).map t') ct.toArray w':=by
 intro m
 induction m with
 |zero=>intro cs e j σ t w ρ F _ _ _ _ _ h;exact h.elim
 |succ m ih=>
  intro cs e j σ t w ρ F W hl J A hsz h;cases cs with
  |nil=>
   cases e with
   |cons=>simp at A
   |nil=>exact⟨w,σ,t,rfl,h,J,D,ρ,F,W.left (by simpa using hl)⟩
  |cons c cs=>
   cases e with
   |nil=>simp at A
   |cons cx e=>
    simp only[List.length_cons]at hsz;obtain⟨G,σ1,b,off,ρ1,F1,⟨y,hy⟩,hfz,h1,⟨ofs,B,hoff⟩,hGm,hK,hns,hcr1⟩:=H2 W (by simpa using hl) (by omega) h
    rw[List.map_map]at hcr1;simp only[Value.pointer.injEq,Option.some.injEq,Addr.mk.injEq,and_true]at B;obtain⟨rfl,B⟩:=B;obtain rfl:u=ofs:=by omega
    obtain⟨w2,σ2,t2,E,hK2,hd2,U⟩:=ih (cs.map G) e (j+1) σ1 (λi=>G (t i)) _ ρ1 F1 hcr1 hl (λx hx=>by rw[J x hx,hGm.dead]) (by simpa using A) (by rw[hns];simp;omega) (by rw[<-Nat.add_assoc];exact hK)
    refine⟨w2,σ2,t2,?_,hK2,hd2,U⟩;have ea:(⟨Z,u+k0,none⟩:Addr).add j=⟨Z,off,none⟩:=by rw[AX rfl];simp;omega
    simp only[storeCells,Sem.run_bind,ea];rw[run_store P w _ cx .plain h1,hy];simp only[hfz,Bool.false_eq_true,if_false];exact E
end
def StK(K:Ms->Prop)(σ:List V)(t:Nat->V):Prop:=K ⟨t,σ⟩
def Ug(e:Option TyI)(x v:V)(K:Ms->Prop)(S:Ms):Prop:=
 match e,x with
 |some ⟨_,size,_⟩,.rp id p i k=>By v=true/\((cellsV v).length=size/\k+size<=AT S.σ id p)/\putL id p i (size+1) k (cellsV v) S.σ S.t (StK K)
 |_,_=>False
def vop(P:Program)(h:Cs)(o:Oper)(K:Ms->Prop)(S:Ms):Prop:=
 match o.op with
 |.store t x v=>o.dst=none/\Ug (tyI P t) (S.ev x) (S.ev v) K S
 |op=>qop P S.σ S.ev op (ResK h o.dst S K)
def AR(C:Ctx)(N:Nat)(S:Ms)(a:Act)(w:World):Prop:=a.defers=[]/\(∀x,N<=x->S.t x=.dead)/\Wy C S.σ ((List.range N).map S.t) a.tmps w
theorem AV{x:Nat}(h:x<N):((List.range N).map t).getD x .dead=t x:=by grind
theorem C0{d:Nat}{v:V}(h:d<N):((List.range N).map t).set d v=(List.range N).map (AI t d v):=by
 apply List.ext_getElem?;intro i;by_cases u:i<N
 .by_cases e:d=i
  .subst e;simp[u,AI]
  .rw[List.getElem?_set_ne e];simp[u,AI,Ne.symm e]
 grind
theorem Ii{R:V->Value->Prop}(v:Value):Rel D w R (KH v) v noF:=by
 unfold KH;split
 .rename_i cs
  split
  .rename_i h
   refine⟨cs,λ_=>noF,rfl,by simp,λk u=>?_,λ_ _ _ _ _ _ h=>h.elim,λb=>⟨λh=>h.elim,fun⟨_,_,h⟩=>h⟩⟩
   simp at u;have e:(cs.toList.map V.c).getD k .dead=.c (cs.getD k undef):=by simp_all
   show Rel D w R ((cs.toList.map V.c).getD k .dead) _ _;rw[e];refine⟨rfl,aET.1 h _ ?_,λ_ h=>h⟩
   grind
  .exact λ_ h=>h
 .split
  .exact⟨rfl,by grind,λ_ h=>h⟩
  .exact λ_ h=>h
theorem LE(h:l.length<=i):l.getD i .dead=.dead:=by grind
theorem BY(h:CR C S.σ ((List.range N).map S.t) a.tmps w D ρ F)(hd:∀x,N<=x->S.t x=.dead)(x:Operand):Rel D w (Au S.σ ρ w) (S.ev x) (a.eval x) noF:=by
 cases x with
 |tmp t=>
  by_cases e:t<N
  .have:=h.tm t (by grind)
   rw[AV e]at this
   trivial
  .show Rel D w _ (S.t t) _ noF
   rw[hd t (Nat.le_of_not_lt e)];exact λ_ h=>h
 |const v=>exact Ii v
 |global g=>exact⟨rfl,rfl,λ_ h=>h⟩
 |func f=>exact Oy
theorem CR.setv{ts:List V}{cts:Array Value}{w':World}{D':Nat->Prop}(h:CR C σ ts cts w D ρ F){r:V}{v':Value}(U:Below w.heap.size w w')(hr:Rel D' w' (Au σ ρ w') r v' noF)
  (u:∀b,D b->D' b) (E:∀b,D' b->D b\/w.heap.size<=b) (hd3:∀b,D' b->b<w'.heap.size) (d:Nat):Wy C σ (ts.set d r) (cts.setIfInBounds d v') w':=by
 have J:=h.wr.lt;have W:BG σ w' D' ρ F:=by
  have A:=h.wr.below U;refine⟨λi hi=>Rel.mono u (λ_ _ h=>h) _ _ _ (λ_ _=>rfl) (A.rel i hi),A.disj,λi b e hD=>?_,hd3,A.out⟩
  rcases E b hD with h2|h2
  .exact A.dD i b e h2
  grind
 refine⟨D',ρ,F,W,by simp[h.sz],λt Z=>?_,h.fr.below U,h.Fn,λb e=>u b (h.D1 b e),λb e B=>?_,h.rt,h.ml⟩
 .simp at Z
  by_cases he:d=t
  .subst he
   have B:d<cts.size:=by rw[h.sz];exact Z
   simp_all
  .have A:=h.tm t Z
   simp only[gDE,List.getElem?_set_ne he,Array.getD_eq_getD_getElem?,Array.getElem?_setIfInBounds_ne he];rw[<-Array.getD_eq_getD_getElem?];refine Rel.mono u (λv cv hv=>Au.same h.wr (λi b e=>U.block b (J i b e)) v cv hv) _ _ _ (λb e=>U.block b ?_) A
   rcases e with e|e
   .exact h.wr.Dlt b e
   .exact e.elim
 .rcases E b e with h2|h2
  .exact h.D2 b h2 B
  .have:=h.fr.size;omega
theorem CR.below{C:Ctx}{σ ts:List V}{cts:Array Value}{w w':World}{D:Nat->Prop}{ρ:Nat->Value}{F:Nat->Nat->Prop}(h:CR C σ ts cts w D ρ F)(e:Below w.heap.size w w'):Wy C σ ts cts w':=
 ⟨D,ρ,F,h.wr.below e,h.sz,λt B=>Rel.mono (λ_ h=>h) (λv cv A=>Au.same h.wr (λi b u=>e.block b (h.wr.lt i b u)) v cv A) _ _ _ (λb u=>e.block b (u.elim (h.wr.Dlt b) λh=>h.elim)) (h.tm t B),h.fr.below e,h.Fn,h.D1,h.D2,h.rt,h.ml⟩
def BU(a:Act)(d:Nat)(v:Value):(a.put (some d) v).tmps=a.tmps.setIfInBounds d v:=rfl
theorem I2{P:Program}{C:Ctx}{h:Cs}{o:Oper}{K:Ms->Prop}{S:Ms}{a:Act}{w:World}{next:Act->World->Prop}{Q:Exit->Act->World->Prop}
  (W:vop P h o K S) (hs:AR C h.n S a w) (hn:∀S' a' w',K S'->AR C h.n S' a' w'->next a' w'):o.wp P a w next Q:=by
 obtain⟨hd,E,D,ρ,F,u⟩:=hs;unfold vop at W;split at W
 .rename_i t x v ho
  obtain⟨A,W⟩:=W;unfold Ug at W;split at W
  case h_2=>exact W.elim
  rename_i ag size zero id p i k hti hx;obtain⟨hpl,⟨hlen,hksz⟩,hput⟩:=W;obtain⟨d,ti,z,hdt,hit,hz,his,_⟩:=CN hti;simp only at his;have hrx:=BY u E x;rw[hx]at hrx;obtain⟨s,sz,n,f,b,o',cap,hid,ha,hi,hk,had,_,hns,_,_⟩:=Jf u.wr hrx.1;have hrv:=BY u E v;obtain⟨⟨hcl,hcells⟩,_⟩:=Ce (λv cv h=>Au.one h) hpl hrv
  have hcr2:CR C S.σ ((List.range h.n).map S.t++ .rp id p i k::cellsV (S.ev v)) (a.tmps.toList++ .pointer (some ⟨b,(o'+i*sz)+k,none⟩)::(a.eval v).cells.toList).toArray w D ρ F:=by
   have Z:a.tmps.size=h.n:=by simpa using u.sz
   refine⟨u.wr,by simp[Z,hcl],λj hj=>?_,u.fr,u.Fn,u.D1,u.D2,u.rt,u.ml⟩
   by_cases hjt:j<h.n
   .rw[AG (by simpa using hjt)]
    have h1:=u.tm j (by simpa using hjt)
    have e:(a.tmps.toList++ .pointer (some ⟨b,(o'+i*sz)+k,none⟩)::(a.eval v).cells.toList).toArray.getD j undef=a.tmps.getD j undef:=by
     simp[gAL,Z,hjt]
    rw[e];exact h1
   .obtain⟨l,rfl⟩:∃l,j=h.n+l:=⟨j-h.n,by omega⟩
    have e1:((List.range h.n).map S.t++ .rp id p i k::cellsV (S.ev v)).getD (h.n+l) .dead=(.rp id p i k::cellsV (S.ev v)).getD l .dead:=by
     simp[gAR]
    have e2:(a.tmps.toList++ .pointer (some ⟨b,(o'+i*sz)+k,none⟩)::(a.eval v).cells.toList).toArray.getD (h.n+l) undef=(.pointer (some ⟨b,(o'+i*sz)+k,none⟩)::(a.eval v).cells.toList).getD l undef:=by
     simp only[Array.getD_eq_getD_getElem?,List.getElem?_toArray,gDE];rw[gAR (by simp;omega)]
     simp[Z]
    rw[e1,e2];cases l with
    |zero=>rw[had]at hrx;exact hrx
    |succ l=>
     simp at hj;have:=hcells l (by omega)
     simpa using this
  obtain⟨w',σ',t',hrun,U,B,hcr3⟩:=Qp (P:=P) (size+1) (cellsV (S.ev v)) (a.eval v).cells.toList 0 S.σ S.t w ρ F hcr2 (by simpa using u.sz) E (by simpa using hcl) (by rw[hns]at hksz⊢;omega) hput
  have hsv:(storeVar t ⟨b,(o'+i*sz)+k,none⟩ (a.eval v)).run P w=.ok () w':=by
   have hne:¬ ((a.eval v).cells.size≠size):=by rw[hcl,hlen];simp
   simp only[storeVar,Sem.run_bind,sizeOf,typeInfo];simp[hit,his,hrun];rw[hcl,hlen]
  have hex:(execOp a.eval o).run P w=.ok .skip w':=by
   unfold execOp;rw[ho];simp[Instr.storeAt,had,Instr.sureAddr,hsv]
  unfold Oper.wp;rw[hex,Oper.upon_skip,A];exact hn ⟨t',σ'⟩ a w' U ⟨hd,B,hcr3⟩
 .rename_i hst
  obtain⟨r,U,hy⟩:=ME (o:=o) u.ok u.wr (λx _=>⟨noF,BY u E x,λ_ h=>h.elim,λ_ _ _ h=>h⟩) W
  refine hy next Q λv' w' D' fp hB hr hf hd1 hd2 hd3=>?_
  have Z:a.tmps.size=h.n:=by simpa using u.sz
  unfold ResK Ms.res at U;have same:AR C h.n S a w':=⟨hd,E,u.below hB⟩;cases A:(o.dst:Option Nat)with
  |none=>
   rw[A]at U;exact hn S a w' U same
  |some d=>
   rw[A]at U;simp only at U;split at U
   .rename_i hdn
    have B:∀v x,h.n<=x->AI S.t d v x=.dead:=λv x hx=>by
     have hne:¬x=d:=by omega
     unfold AI;rw[if_neg hne];exact E x hx
    split at U
    .refine hn _ _ w' U ⟨hd,B _,?_⟩
     rw[BU,<-C0 hdn];refine u.setv hB (Rel.frz _ _ _ hr) (λb J=>.inl (hd1 b J)) (λb J=>?_) (λb J=>?_) d
     .rcases J with J|J
      .exact hd2 b J
      .exact .inr (hf b J)
     .rcases J with J|J
      .exact(hd3 b J).1
      .exact Rel.lt _ _ _ hr b J
    .refine hn _ _ w' U ⟨hd,B _,?_⟩
     rw[BU,<-C0 hdn];exact u.res hB hr hf hd1 hd2 hd3 d
   .rename_i hdn
    have e:a.put (some d) v'=a:=by
     have:a.tmps.setIfInBounds d v'=a.tmps:=Array.setIfInBounds_eq_of_size_le (by omega)
     unfold Act.put;simp only[this]
    rw[e];exact hn S a w' U same
end Go.Ve


namespace Go.Ve
variable{a:Act}{ops:Array Oper}{C:Ctx}{S:Ms}{N j:Nat}{w:World}
def udV:V:=.many .tu 0 λk=>([]:List V).getD k .dead
def Ms.skip(S:Ms)(d:Option Nat):Ms:=
 match d with
 |some d=>⟨AI S.t d .dead,S.σ⟩
 |none=>S
def Rel.ud{D:Nat->Prop}{R:V->Value->Prop}:Rel D w R udV undef noF:=
 ⟨#[],λ_=>noF,rfl,rfl,λk e=>absurd e (Nat.not_lt_zero _),λ_ _ _ e=>absurd e (Nat.not_lt_zero _),λb=>⟨λh=>h.elim,fun⟨_,_,h⟩=>h⟩⟩
def gv(t:Nat->V)(ops:Array Oper)(j:Nat):V:=
 match(ops[j]?).bind (·.dst)with
 |some d=>t d
 |none=>.dead
theorem VQ(hs:AR C N S a w){b:Bool}(h:gv S.t ops j=.c (.bool b)):yielded ops a.tmps j=some b:=by
 obtain⟨_,B,D,ρ,F,u⟩:=hs;unfold gv at h;split at h
 .rename_i d hd
  have e:d<N:=by
   grind
  have A:=u.tm d (by grind)
  rw[AV e,h]at A;have J:d<a.tmps.size:=by rw[u.sz];simpa using e
  have E:a.tmps[d]? =some (.bool b):=by
   have:=A.1
   simp_all
  unfold yielded
  grind
 grind
theorem VR(hs:AR C N S a w)(h:gv S.t ops j=udV):yielded ops a.tmps j=none:=by
 obtain⟨_,B,D,ρ,F,A⟩:=hs;unfold gv at h;split at h
 .rename_i d hd
  have e:d<N:=by
   rcases Nat.lt_or_ge d N with h'|h'
   .omega
   .rw[B d h']at h;cases h
  have E:=A.tm d (by grind)
  rw[AV e,h]at E;obtain⟨cs,_,u,_⟩:=E;have J:d<a.tmps.size:=by rw[A.sz];simpa using e
  have U:a.tmps[d]? =some (.tuple cs):=by
   simp[J]at u⊢;exact u
  unfold yielded
  grind
 trivial
theorem AR.skipU(hs:AR C N S a w){d:Nat}(u:d<N):AR C N ⟨AI S.t d udV,S.σ⟩ (a.put (some d) undef) w:=by
 obtain⟨hd,A,D,ρ,F,e⟩:=hs;refine⟨hd,λx B=>?_,?_⟩
 .unfold AI
  grind
 .have:=e.setv (Below.refl _ _) Rel.ud (λ_ h=>h) (λ_ h=>.inl h) e.wr.Dlt d
  rw[C0 u]at this;trivial
theorem AR.skip{C:Ctx}{N:Nat}{S:Ms}{a:Act}{w:World}(hs:AR C N S a w)(d:Option Nat)(v:Value):AR C N (S.skip d) (a.put d v) w:=by
 obtain⟨hd,B,D,ρ,F,u⟩:=hs;cases d with
 |none=>exact⟨hd,B,D,ρ,F,u⟩
 |some d=>
  refine⟨hd,λx J=>?_,?_⟩
  .show AI S.t d .dead x=.dead
   unfold AI
   grind
  .have:=u.setv (r:=.dead) (Below.refl _ _) (D':=D) (show Rel D w _ .dead v noF from λ_ h=>h) (λ_ h=>h) (λ_ h=>.inl h) u.wr.Dlt d
   by_cases A:d<N
   .rw[C0 A]at this;exact this
   .have e:(List.range N).map (AI S.t d .dead)=((List.range N).map S.t).set d .dead:=by
     apply List.ext_getElem?;intro i;by_cases E:i<N
     .have:d≠i:=by omega
      rw[List.getElem?_set_ne this];simp[E,AI,Ne.symm this]
     grind
    show Wy C S.σ ((List.range N).map (AI S.t d .dead)) _ w;rw[e];exact this
theorem At.dead{w:World}{p:List (Nat×Nat)}{cv:Value}{s o:Bool}{sz n:Nat}{f:Nat->Nat->V}{e:Value}(h:At w p .dead cv (.nd s o sz n f) e):False:=by
 cases p with
 |nil=>exact absurd h.1 (by simp)
 |cons a p=>exact h
theorem Qz{p:Nat->Prop}(h:∃n,p n):∃n,p n/\∀m,m<n->¬p m:=by
 obtain⟨n,u⟩:=h
 induction n using Nat.strongRecOn with
 |_ n e=>
  grind
end Go.Ve

