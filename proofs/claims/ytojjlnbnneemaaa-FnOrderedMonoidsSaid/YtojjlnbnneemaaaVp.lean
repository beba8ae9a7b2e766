/- The small machine's steps: a store of a whole variable; one operation behind the other. -/
import Derived.Test.YtojjlnbnneemaaaVn
set_option linter.all false
namespace Go.Ve
variable{a:Act}{C:Ctx}{l σ:List V}{ct:List Value}{S:Ms}{N i:Nat}{F:Nat->Nat->Prop}{D:Nat->Prop}{t:Nat->V}{ρ:Nat->Value}{w:World}
theorem CR.left{t:List V}{cl:List Value}(h:CR C σ (t++l) (ct++cl).toArray w D ρ F)(A:ct.length=t.length):CR C σ t ct.toArray w D ρ F:=by
 refine⟨h.wr,by omega,λj B=>?_,h.fr,h.Fn,h.D1,h.D2,h.rt,h.ml⟩
 have E:=h.tm j (by grind)
 have e:(ct++cl).toArray.getD j undef=ct.toArray.getD j undef:=by simp[gAL,A,B]
 grind
section
variable {P:Program}{C:Ctx}{D:Nat->Prop}
def UZ{id:Nat}{p:List (Nat×Nat)}{i k0:Nat}{ct:List Value}{U A N:Nat}{K:List V->(Nat->V)->Prop}:
  ∀(m:Nat) (cs:List V) (e:List Value) (j:Nat) (σ:List V) (t:Nat->V) (w:World) (ρ:Nat->Value) (F:Nat->Nat->Prop),
  CR C σ ((List.range N).map t++ .rp id p i k0::cs) (ct++ .pointer (some ⟨U,A+k0,none⟩)::e).toArray w D ρ F->ct.length=N->(∀x,N<=x->t x=.dead)->e.length=cs.length->k0+j+cs.length<=A6 σ id p->putL id p i m (k0+j) cs σ t K->
  ∃w' σ' Y,(storeCells ⟨U,A+k0,none⟩ e j).run P w=.ok () w'/\K σ' Y/\(∀x,N<=x->Y x=.dead)/\X1 C σ' ((List.range N).map Y) ct.toArray w':=by
 intro m
 induction m with
 |zero=>intro cs e j σ t w ρ F _ _ _ _ _ h;exact h.elim
 |succ m ih=>
  intro cs e j σ t w ρ F O hl L B hsz h;cases cs with
  |nil=>
   cases e with
   |cons=>simp at B
   |nil=>exact⟨w,σ,t,rfl,h,L,D,ρ,F,O.left (by simpa using hl)⟩
  |cons c cs=>
   cases e with
   |nil=>simp at B
   |cons cx e=>
    simp only[List.length_cons]at hsz;obtain⟨G,σ1,b,off,ρ1,F1,⟨y,hy⟩,hfz,h1,⟨Z,E,hoff⟩,hGm,hK,hns,hcr1⟩:=IA O (by simpa using hl) (by omega) h
    rw[List.map_map]at hcr1;simp only[Value.pointer.injEq,Option.some.injEq,Addr.mk.injEq,and_true]at E;obtain⟨rfl,E⟩:=E;obtain rfl:A=Z:=by omega
    obtain⟨w2,W,t2,J,hK2,hd2,M⟩:=ih (cs.map G) e (j+1) σ1 (λi=>G (t i)) _ ρ1 F1 hcr1 hl (λx hx=>by rw[L x hx,hGm.dead]) (by simpa using B) (by rw[hns];simp;omega) (by rw[<-Nat.add_assoc];exact hK)
    refine⟨w2,W,t2,?_,hK2,hd2,M⟩;have ea:(⟨U,A+k0,none⟩:Addr).add j=⟨U,off,none⟩:=by rw[A9 rfl];simp;omega
    simp only[storeCells,Sem.run_bind,ea];rw[run_store P w _ cx .plain h1,hy];simp only[hfz,Bool.false_eq_true,if_false];exact J
end
def StK(K:Ms->Prop)(σ:List V)(t:Nat->V):Prop:=K ⟨t,σ⟩
def VQ(e:Option TyI)(x v:V)(K:Ms->Prop)(S:Ms):Prop:=
 match e,x with
 |some ⟨_,size,_⟩,.rp id p i k=>Bw v=true/\((cellsV v).length=size/\k+size<=A6 S.σ id p)/\putL id p i (size+1) k (cellsV v) S.σ S.t (StK K)
 |_,_=>False
def Pd(P:Program)(t:TypeId)(B E A:V)(K:Ms->Prop)(S:Ms):Prop:=
 match B with
 |.rm id p=>∃kt et l k x,VJ P t=some (kt,et)/\sub p (S.σ.getD id .dead)=.mp true l/\Z9 E=some k/\Z9 A=some x/\X9 P kt k=true/\(∀e∈l,BI P kt k e.1=true)/\
   K ⟨S.t,S.σ.set id (upd p (S.σ.getD id .dead) (.mp true (ZJ k x l)))⟩
 |_=>False
def vop(P:Program)(h:Cz)(o:Oper)(K:Ms->Prop)(S:Ms):Prop:=
 match o.op with
 |.store t x v=>o.dst=none/\VQ (tyI P t) (S.ev x) (S.ev v) K S
 |.mapUpdate t m k x=>o.dst=none/\Pd P t (S.ev m) (S.ev k) (S.ev x) K S
 |op=>qop P S.σ S.ev op (ResK h o.dst S K)
def AU(C:Ctx)(N:Nat)(S:Ms)(a:Act)(w:World):Prop:=a.defers=[]/\(∀x,N<=x->S.t x=.dead)/\X1 C S.σ ((List.range N).map S.t) a.tmps w
theorem AX{x:Nat}(h:x<N):((List.range N).map t).getD x .dead=t x:=by grind
theorem CS{d:Nat}{v:V}(h:d<N):((List.range N).map t).set d v=(List.range N).map (AJ t d v):=by
 apply List.ext_getElem?;intro i;by_cases A:i<N
 .by_cases e:d=i
  .subst e;simp[A,AJ]
  .rw[List.getElem?_set_ne e];simp[A,AJ,Ne.symm e]
 grind
theorem IR{R:V->Value->Prop}(v:Value):Rel D w R (LE v) v noF:=by
 unfold LE;split
 .rename_i cs
  split
  .rename_i h
   refine⟨cs,λ_=>noF,rfl,by simp,λk A=>?_,λ_ _ _ _ _ _ h=>h.elim,λb=>⟨λh=>h.elim,fun⟨_,_,h⟩=>h⟩⟩
   simp at A;have e:(cs.toList.map V.c).getD k .dead=.c (cs.getD k undef):=by simp_all
   show Rel D w R ((cs.toList.map V.c).getD k .dead) _ _;rw[e];refine⟨rfl,aET.1 h _ ?_,λ_ h=>h⟩
   grind
  .exact λ_ h=>h
 .split
  .exact⟨rfl,by grind,λ_ h=>h⟩
  .exact λ_ h=>h
theorem IM(h:l.length<=i):l.getD i .dead=.dead:=by grind
theorem Bu(h:CR C S.σ ((List.range N).map S.t) a.tmps w D ρ F)(hd:∀x,N<=x->S.t x=.dead)(x:Operand):Rel D w (Am S.σ ρ w) (S.ev x) (a.eval x) noF:=by
 cases x with
 |tmp t=>
  by_cases e:t<N
  .have:=h.tm t (by grind)
   rw[AX e]at this
   trivial
  .show Rel D w _ (S.t t) _ noF
   rw[hd t (Nat.le_of_not_lt e)];exact λ_ h=>h
 |const v=>exact IR v
 |global g=>exact⟨rfl,rfl,λ_ h=>h⟩
 |func f=>exact PY
theorem CR.setv{ts:List V}{cts:Array Value}{w':World}{D':Nat->Prop}(h:CR C σ ts cts w D ρ F){r:V}{v':Value}(M:Below w.heap.size w w')(hr:Rel D' w' (Am σ ρ w') r v' noF)
  (A:∀b,D b->D' b) (J:∀b,D' b->D b\/w.heap.size<=b) (Y:∀b,D' b->b<w'.heap.size) (d:Nat):X1 C σ (ts.set d r) (cts.setIfInBounds d v') w':=by
 have L:=h.wr.lt;have O:Bs σ w' D' ρ F:=by
  have B:=h.wr.below M;refine⟨λi hi=>Rel.mono A (λ_ _ h=>h) _ _ _ (λ_ _=>rfl) (B.rel i hi),B.disj,λi b e hD=>?_,Y,B.out⟩
  rcases J b hD with h2|h2
  .exact B.dD i b e h2
  grind
 refine⟨D',ρ,F,O,by simp[h.sz],λt U=>?_,h.fr.below M,h.Fn,λb e=>A b (h.D1 b e),λb e E=>?_,h.rt,h.ml⟩
 .simp at U
  by_cases W:d=t
  .subst W
   have E:d<cts.size:=by rw[h.sz];exact U
   simp_all
  .have B:=h.tm t U
   simp only[gDE,List.getElem?_set_ne W,Array.getD_eq_getD_getElem?,Array.getElem?_setIfInBounds_ne W];rw[<-Array.getD_eq_getD_getElem?];refine Rel.mono A (λv cv Z=>Am.same h.wr (λi b e=>M.block b (L i b e)) v cv Z) _ _ _ (λb e=>M.block b ?_) B
   rcases e with e|e
   .exact h.wr.Dlt b e
   .exact e.elim
 .rcases J b e with h2|h2
  .exact h.D2 b h2 E
  .have:=h.fr.size;omega
theorem CR.below{C:Ctx}{σ ts:List V}{cts:Array Value}{w w':World}{D:Nat->Prop}{ρ:Nat->Value}{F:Nat->Nat->Prop}(h:CR C σ ts cts w D ρ F)(e:Below w.heap.size w w'):X1 C σ ts cts w':=
 ⟨D,ρ,F,h.wr.below e,h.sz,λt E=>Rel.mono (λ_ h=>h) (λv cv B=>Am.same h.wr (λi b A=>e.block b (h.wr.lt i b A)) v cv B) _ _ _ (λb A=>e.block b (A.elim (h.wr.Dlt b) λh=>h.elim)) (h.tm t E),h.fr.below e,h.Fn,h.D1,h.D2,h.rt,h.ml⟩
def BL(a:Act)(d:Nat)(v:Value):(a.put (some d) v).tmps=a.tmps.setIfInBounds d v:=rfl
theorem HD{P:Program}{C:Ctx}{h:Cz}{o:Oper}{K:Ms->Prop}{S:Ms}{a:Act}{w:World}{next:Act->World->Prop}{Q:Exit->Act->World->Prop}
  (L:vop P h o K S) (hs:AU C h.n S a w) (hn:∀S' a' w',K S'->AU C h.n S' a' w'->next a' w'):o.wp P a w next Q:=by
 obtain⟨hd,B,D,ρ,F,A⟩:=hs;unfold vop at L;split at L
 .rename_i t x v ho
  obtain⟨E,L⟩:=L;unfold VQ at L;split at L
  case h_2=>exact L.elim
  rename_i ag size zero id p i k hti hx;obtain⟨hpl,⟨hlen,hksz⟩,hput⟩:=L;obtain⟨d,ti,z,hdt,hit,hz,his,_⟩:=C5 hti;simp only at his;have Y:=Bu A B x;rw[hx]at Y;obtain⟨s,sz,n,f,b,o',cap,hid,ha,hi,hk,had,_,hns,_,_⟩:=JN A.wr Y.1;have hrv:=Bu A B v;obtain⟨⟨Z,hcells⟩,_⟩:=Ce (λv cv h=>Am.one h) hpl hrv
  have hcr2:CR C S.σ ((List.range h.n).map S.t++ .rp id p i k::cellsV (S.ev v)) (a.tmps.toList++ .pointer (some ⟨b,(o'+i*sz)+k,none⟩)::(a.eval v).cells.toList).toArray w D ρ F:=by
   have W:a.tmps.size=h.n:=by simpa using A.sz
   refine⟨A.wr,by simp[W,Z],λj hj=>?_,A.fr,A.Fn,A.D1,A.D2,A.rt,A.ml⟩
   by_cases hjt:j<h.n
   .rw[AE (by simpa using hjt)]
    have h1:=A.tm j (by simpa using hjt)
    have e:(a.tmps.toList++ .pointer (some ⟨b,(o'+i*sz)+k,none⟩)::(a.eval v).cells.toList).toArray.getD j undef=a.tmps.getD j undef:=by
     simp[gAL,W,hjt]
    rw[e];exact h1
   .obtain⟨l,rfl⟩:∃l,j=h.n+l:=⟨j-h.n,by omega⟩
    have e1:((List.range h.n).map S.t++ .rp id p i k::cellsV (S.ev v)).getD (h.n+l) .dead=(.rp id p i k::cellsV (S.ev v)).getD l .dead:=by
     simp[gAR]
    have e2:(a.tmps.toList++ .pointer (some ⟨b,(o'+i*sz)+k,none⟩)::(a.eval v).cells.toList).toArray.getD (h.n+l) undef=(.pointer (some ⟨b,(o'+i*sz)+k,none⟩)::(a.eval v).cells.toList).getD l undef:=by
     simp only[Array.getD_eq_getD_getElem?,List.getElem?_toArray,gDE];rw[gAR (by simp;omega)]
     simp[W]
    rw[e1,e2];cases l with
    |zero=>rw[had]at Y;exact Y
    |succ l=>
     simp at hj;have:=hcells l (by omega)
     simpa using this
  obtain⟨w',σ',t',U,O,M,hcr3⟩:=UZ (P:=P) (size+1) (cellsV (S.ev v)) (a.eval v).cells.toList 0 S.σ S.t w ρ F hcr2 (by simpa using A.sz) B (by simpa using Z) (by rw[hns]at hksz⊢;omega) hput
  have hsv:(storeVar t ⟨b,(o'+i*sz)+k,none⟩ (a.eval v)).run P w=.ok () w':=by
   have hne:¬ ((a.eval v).cells.size≠size):=by rw[Z,hlen];simp
   simp only[storeVar,Sem.run_bind,sizeOf,typeInfo];simp[hit,his,U];rw[Z,hlen]
  have hex:(execOp a.eval o).run P w=.ok .skip w':=by
   unfold execOp;rw[ho];simp[Instr.storeAt,had,Instr.sureAddr,hsv]
  unfold Oper.wp;rw[hex,Oper.upon_skip,E];exact hn ⟨t',σ'⟩ a w' O ⟨hd,M,hcr3⟩
 .rename_i t m k x ho
  obtain⟨E,L⟩:=L;unfold Pd at L;split at L
  case h_2=>exact L.elim
  rename_i id p hm;obtain⟨kt,et,l,kv,xv,h1,h2,h3,h4,h5,h6,O⟩:=L;have hrm:=Bu A B m;rw[hm]at hrm;obtain⟨⟨hid,l',b,hat,hcv⟩,_⟩:=hrm;have hl:l'=l:=by
   have:=At.sub hat;rw[h2]at this;cases this;rfl
  subst hl;rw[hcv]at hat;obtain⟨fp1,hr1,_⟩:=Dg (w':=w) p _ _ _ _ _ (A.wr.rel id hid) (λb J h'=>A.wr.dD id b h' J) hat
  obtain⟨b',e0,⟨es,c,J,hes⟩,_⟩:=hr1;cases e0;have hk:=MO (Bu A B k) h3;have hx:=MO (Bu A B x) h4;obtain⟨es',c',U,hes'⟩:=ME (P:=P) (w:=w) (v:=xv) h1 J h5 (λe he=>h6 (e.key,e.val) (by rw[<-hes];exact List.mem_map.2 ⟨e,he,rfl⟩))
  rw[hes]at hes';obtain⟨F',hcr'⟩:=A.map_upd hid hat es' c';rw[hes']at hcr'
  have hex:(execOp a.eval o).run P w=.ok .skip {w with heap:=w.heap.setIfInBounds b (.map es' c')}:=by
   unfold execOp;rw[ho];simp[hcv,hk,hx,U]
  unfold Oper.wp;rw[hex,Oper.upon_skip,E];exact hn _ a _ O ⟨hd,B,D,ρ,F',hcr'⟩
 .rename_i hst
  obtain⟨r,O,hy⟩:=NX (o:=o) A.ok A.wr (λx _=>⟨noF,Bu A B x,λ_ h=>h.elim,λ_ _ _ h=>h⟩) L
  refine hy next Q λv' w' D' fp hB hr hf hd1 hd2 hd3=>?_
  have W:a.tmps.size=h.n:=by simpa using A.sz
  unfold ResK Ms.res at O;have same:AU C h.n S a w':=⟨hd,B,A.below hB⟩;cases E:(o.dst:Option Nat)with
  |none=>
   rw[E]at O;exact hn S a w' O same
  |some d=>
   rw[E]at O;simp only at O;split at O
   .rename_i hdn
    have M:∀v x,h.n<=x->AJ S.t d v x=.dead:=λv x hx=>by
     have hne:¬x=d:=by omega
     unfold AJ;rw[if_neg hne];exact B x hx
    split at O
    .refine hn _ _ w' O ⟨hd,M _,?_⟩
     rw[BL,<-CS hdn];refine A.setv hB (Rel.frz _ _ _ hr) (λb J=>.inl (hd1 b J)) (λb J=>?_) (λb J=>?_) d
     .rcases J with J|J
      .exact hd2 b J
      .exact .inr (hf b J)
     .rcases J with J|J
      .exact(hd3 b J).1
      .exact Rel.lt _ _ _ hr b J
    .refine hn _ _ w' O ⟨hd,M _,?_⟩
     rw[BL,<-CS hdn];exact A.res hB hr hf hd1 hd2 hd3 d
   .rename_i hdn
    have e:a.put (some d) v'=a:=by
     have:a.tmps.setIfInBounds d v'=a.tmps:=Array.setIfInBounds_eq_of_size_le (by omega)
     unfold Act.put;simp only[this]
    rw[e];exact hn S a w' O same
end Go.Ve


namespace Go.Ve
variable{a:Act}{ops:Array Oper}{C:Ctx}{S:Ms}{N j:Nat}{w:World}
def udV:V:=.many .tu 0 λk=>([]:List V).getD k .dead
def Ms.skip(S:Ms)(d:Option Nat):Ms:=
 match d with
 |some d=>⟨AJ S.t d .dead,S.σ⟩
 |none=>S
def Rel.ud{D:Nat->Prop}{R:V->Value->Prop}:Rel D w R udV undef noF:=
 ⟨#[],λ_=>noF,rfl,rfl,λk e=>absurd e (Nat.not_lt_zero _),λ_ _ _ e=>absurd e (Nat.not_lt_zero _),λb=>⟨λh=>h.elim,fun⟨_,_,h⟩=>h⟩⟩
def gv(t:Nat->V)(ops:Array Oper)(j:Nat):V:=
 match(ops[j]?).bind (·.dst)with
 |some d=>t d
 |none=>.dead
theorem Xq(E:AU C N S a w){b:Bool}(h:gv S.t ops j=.c (.bool b)):yielded ops a.tmps j=some b:=by
 obtain⟨_,J,D,ρ,F,A⟩:=E;unfold gv at h;split at h
 .rename_i d hd
  have e:d<N:=by
   grind
  have B:=A.tm d (by grind)
  rw[AX e,h]at B;have M:d<a.tmps.size:=by rw[A.sz];simpa using e
  have L:a.tmps[d]? =some (.bool b):=by
   have:=B.1
   simp_all
  unfold yielded
  grind
 grind
theorem Xr(L:AU C N S a w)(h:gv S.t ops j=udV):yielded ops a.tmps j=none:=by
 obtain⟨_,E,D,ρ,F,B⟩:=L;unfold gv at h;split at h
 .rename_i d hd
  have e:d<N:=by
   rcases Nat.lt_or_ge d N with h'|h'
   .omega
   .rw[E d h']at h;cases h
  have J:=B.tm d (by grind)
  rw[AX e,h]at J;obtain⟨cs,_,A,_⟩:=J;have M:d<a.tmps.size:=by rw[B.sz];simpa using e
  have O:a.tmps[d]? =some (.tuple cs):=by
   simp[M]at A⊢;exact A
  unfold yielded
  grind
 trivial
theorem AU.skipU(B:AU C N S a w){d:Nat}(A:d<N):AU C N ⟨AJ S.t d udV,S.σ⟩ (a.put (some d) undef) w:=by
 obtain⟨hd,E,D,ρ,F,e⟩:=B;refine⟨hd,λx J=>?_,?_⟩
 .unfold AJ
  grind
 .have:=e.setv (Below.refl _ _) Rel.ud (λ_ h=>h) (λ_ h=>.inl h) e.wr.Dlt d
  rw[CS A]at this;trivial
theorem AU.skip{C:Ctx}{N:Nat}{S:Ms}{a:Act}{w:World}(J:AU C N S a w)(d:Option Nat)(v:Value):AU C N (S.skip d) (a.put d v) w:=by
 obtain⟨hd,E,D,ρ,F,A⟩:=J;cases d with
 |none=>exact⟨hd,E,D,ρ,F,A⟩
 |some d=>
  refine⟨hd,λx M=>?_,?_⟩
  .show AJ S.t d .dead x=.dead
   unfold AJ
   grind
  .have:=A.setv (r:=.dead) (Below.refl _ _) (D':=D) (show Rel D w _ .dead v noF from λ_ h=>h) (λ_ h=>h) (λ_ h=>.inl h) A.wr.Dlt d
   by_cases B:d<N
   .rw[CS B]at this;exact this
   .have e:(List.range N).map (AJ S.t d .dead)=((List.range N).map S.t).set d .dead:=by
     apply List.ext_getElem?;intro i;by_cases L:i<N
     .have:d≠i:=by omega
      rw[List.getElem?_set_ne this];simp[L,AJ,Ne.symm this]
     grind
    show X1 C S.σ ((List.range N).map (AJ S.t d .dead)) _ w;rw[e];exact this
theorem At.dead{w:World}{p:List (Nat×Nat)}{cv:Value}{s o:Bool}{sz n:Nat}{f:Nat->Nat->V}{e:Value}(h:At w p .dead cv (.nd s o sz n f) e):False:=by
 cases p with
 |nil=>exact absurd h.1 (by simp)
 |cons a p=>exact h
def Aco(P:Program)(h:Cz)(id:Nat)(ops:Array Oper)(K:Ms->Prop)(S:Ms):Prop:=
 ∀(C:Ctx) (Q:Exit->Act->World->Prop) (a:Act) (w:World),(∀S a w,K S->AU C h.n S a w->Q .normal a w)->AU C h.n S a w->(Code.region id ops true).wp P Q a w
theorem Vc{p:Nat->Prop}(h:∃n,p n):∃n,p n/\∀m,m<n->¬p m:=by
 obtain⟨n,hn⟩:=h
 induction n using Nat.strongRecOn with
 |_ n e=>
  grind
end Go.Ve

