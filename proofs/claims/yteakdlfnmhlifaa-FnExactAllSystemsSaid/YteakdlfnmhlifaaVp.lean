/- The small machine's steps. -/
import Derived.Test.YteakdlfnmhlifaaVn
open List(range)
set_option linter.all false
namespace Go.Ve
variable{a:Act}{C:Ctx}{l σ:List V}{ct:List Value}{S:Ms}{N i:Nat}{F:Nat->Nat->Prop}{D:Nat->Prop}{t:Nat->V}{ρ:Nat->Value}{w:World}
theorem CR.left{t:List V}{cl:List Value}(h:CR C σ (t++l) (ct++cl).toArray w D ρ F)(A:ct.length=t.length):CR C σ t ct.toArray w D ρ F:=by
 refine⟨h.wr,by omega,λj hj=>?_,h.fr,h.Fn,h.D1,h.D2,h.rt,h.ml⟩
 have B:=h.tm j (by grind)
 have e:(ct++cl).toArray.getD j undef=ct.toArray.getD j undef:=by simp[gAL,A,hj]
 grind
section
variable {P:Program}{C:Ctx}{D:Nat->Prop}
def Vy{id:Nat}{p:List (Nat×Nat)}{i k0:Nat}{ct:List Value}{b0 B N:Nat}{K:List V->(Nat->V)->Prop}:
  ∀(m:Nat) (cs:List V) (A:List Value) (j:Nat) (σ:List V) (t:Nat->V) (w:World) (ρ:Nat->Value) (F:Nat->Nat->Prop),
  CR C σ ((range N).map t++ .rp id p i k0::cs) (ct++ .pointer (some ⟨b0,B+k0,none⟩)::A).toArray w D ρ F->ct.length=N->(∀x,N<=x->t x=.dead)->A.length=cs.length->k0+j+cs.length<=AW σ id p->putL id p i m (k0+j) cs σ t K->
  ∃w' σ' t',(storeCells ⟨b0,B+k0,none⟩ A j).run P w=.ok () w'/\K σ' t'/\(∀x,N<=x->t' x=.dead)/\Wi C σ' ((range N).map t') ct.toArray w':=by
 intro m
 induction m with
 |zero=>intro cs A j σ t w ρ F _ _ _ _ _ h;exact h.elim
 |succ m ih=>
  intro cs A j σ t w ρ F hcr hl Y H hsz h;cases cs with
  |nil=>
   cases A with
   |cons=>simp at H
   |nil=>exact⟨w,σ,t,rfl,h,Y,D,ρ,F,hcr.left (by simpa using hl)⟩
  |cons c cs=>
   cases A with
   |nil=>simp at H
   |cons cx A=>
    simp only[List.length_cons]at hsz;obtain⟨G,σ1,b,off,ρ1,F1,⟨y,hy⟩,hfz,h1,⟨ofs,U,hoff⟩,hGm,hK,hns,hcr1⟩:=Iw hcr (by simpa using hl) (by omega) h
    rw[List.map_map]at hcr1;simp only[Value.pointer.injEq,Option.some.injEq,Addr.mk.injEq,and_true]at U;obtain⟨rfl,U⟩:=U;obtain rfl:B=ofs:=by omega
    obtain⟨w2,σ2,t2,W,hK2,hd2,Z⟩:=ih (cs.map G) A (j+1) σ1 (λi=>G (t i)) _ ρ1 F1 hcr1 hl (λx hx=>by rw[Y x hx,hGm.dead]) (by simpa using H) (by rw[hns];simp;omega) (by rw[<-Nat.add_assoc];exact hK)
    refine⟨w2,σ2,t2,?_,hK2,hd2,Z⟩;have ea:(⟨b0,B+k0,none⟩:Addr).add j=⟨b0,off,none⟩:=by rw[AZ rfl];simp;omega
    simp only[storeCells,Sem.run_bind,ea];rw[run_store P w _ cx .plain h1,hy];simp only[hfz,Bool.false_eq_true,if_false];exact W
end
def StK(K:Ms->Prop)(σ:List V)(t:Nat->V):Prop:=K ⟨t,σ⟩
def Wq(A:Option TyI)(x v:V)(K:Ms->Prop)(S:Ms):Prop:=
 match A,x with
 |some ⟨_,size,_⟩,.rp id p i k=>Bs v=true/\((cellsV v).length=size/\k+size<=AW S.σ id p)/\putL id p i (size+1) k (cellsV v) S.σ S.t (StK K)
 |_,_=>False
def Abx(_:Program)(_:TypeId)(_ _ _:V)(_:Ms->Prop)(_:Ms):Prop:=False
def vop(P:Program)(h:BW)(o:Oper)(K:Ms->Prop)(S:Ms):Prop:=
 match o.op with
 |.store t x v=>o.dst=none/\Wq (tyI P t) (S.ev x) (S.ev v) K S
 |.mapUpdate t m k x=>o.dst=none/\Abx P t (S.ev m) (S.ev k) (S.ev x) K S
 |op=>qop P S.σ S.ev op (ResK h o.dst S K)
def AA(C:Ctx)(N:Nat)(S:Ms)(a:Act)(w:World):Prop:=a.defers=C.dfs/\(∀x,N<=x->S.t x=.dead)/\Wi C S.σ ((range N).map S.t) a.tmps w
theorem Ay{x:Nat}(h:x<N):((range N).map t).getD x .dead=t x:=by grind
theorem BO{d:Nat}{v:V}(h:d<N):((range N).map t).set d v=(range N).map (AD t d v):=by
 apply List.ext_getElem?;intro i;by_cases hi:i<N
 .by_cases A:d=i
  .subst A;simp[hi,AD]
  .rw[List.getElem?_set_ne A];simp[hi,AD,Ne.symm A]
 grind
theorem IM{R:V->Value->Prop}(v:Value):Rel D w R (LZ v) v noF:=by
 unfold LZ;split
 .rename_i cs
  split
  .rename_i h
   refine⟨cs,λ_=>noF,rfl,by simp,λk A=>?_,λ_ _ _ _ _ _ h=>h.elim,λb=>⟨λh=>h.elim,fun⟨_,_,h⟩=>h⟩⟩
   simp at A;have e:(cs.toList.map V.c).getD k .dead=.c (cs.getD k undef):=by simp_all
   show Rel D w R ((cs.toList.map V.c).getD k .dead) _ _;rw[e];refine⟨rfl,aET.1 h _ ?_,λ_ h=>h⟩
   grind
  .exact λ_ h=>h
 .split
  .exact⟨rfl,by grind,λ_ h=>h⟩
  .exact λ_ h=>h
theorem Hm(h:l.length<=i):l.getD i .dead=.dead:=by grind
theorem Bh(h:CR C S.σ ((range N).map S.t) a.tmps w D ρ F)(hd:∀x,N<=x->S.t x=.dead)(x:Operand):Rel D w (Ae S.σ ρ w) (S.ev x) (a.eval x) noF:=by
 cases x with
 |tmp t=>
  by_cases A:t<N
  .have:=h.tm t (by grind)
   rw[Ay A]at this
   trivial
  .show Rel D w _ (S.t t) _ noF
   rw[hd t (Nat.le_of_not_lt A)];exact λ_ h=>h
 |const v=>exact IM v
 |global g=>exact⟨rfl,rfl,λ_ h=>h⟩
 |func f=>exact Qe
theorem CR.setv{ts:List V}{cts:Array Value}{w':World}{D':Nat->Prop}(h:CR C σ ts cts w D ρ F){r:V}{v':Value}(Z:Below w.heap.size w w')(hr:Rel D' w' (Ae σ ρ w') r v' noF)
  (B:∀b,D b->D' b) (W:∀b,D' b->D b\/w.heap.size<=b) (hd3:∀b,D' b->b<w'.heap.size) (d:Nat):Wi C σ (ts.set d r) (cts.setIfInBounds d v') w':=by
 have Y:=h.wr.lt;have wr':Be σ w' D' ρ F:=by
  have H:=h.wr.below Z;refine⟨λi hi=>Rel.mono B (λ_ _ h=>h) _ _ _ (λ_ _=>rfl) (H.rel i hi),H.disj,λi b A hD=>?_,hd3,H.out⟩
  rcases W b hD with h2|h2
  .exact H.dD i b A h2
  grind
 refine⟨D',ρ,F,wr',by simp[h.sz],λt ht=>?_,h.fr.below Z,h.Fn,λb A=>B b (h.D1 b A),λb A U=>?_,h.rt,h.ml⟩
 .simp at ht
  by_cases he:d=t
  .subst he
   have U:d<cts.size:=by rw[h.sz];exact ht
   simp_all
  .have H:=h.tm t ht
   simp only[gDE,List.getElem?_set_ne he,Array.getD_eq_getD_getElem?,Array.getElem?_setIfInBounds_ne he];rw[<-Array.getD_eq_getD_getElem?];refine Rel.mono B (λv cv hv=>Ae.same h.wr (λi b A=>Z.block b (Y i b A)) v cv hv) _ _ _ (λb A=>Z.block b ?_) H
   rcases A with A|A
   .exact h.wr.Dlt b A
   .exact A.elim
 .rcases W b A with h2|h2
  .exact h.D2 b h2 U
  .have:=h.fr.size;omega
theorem CR.below{C:Ctx}{σ ts:List V}{cts:Array Value}{w w':World}{D:Nat->Prop}{ρ:Nat->Value}{F:Nat->Nat->Prop}(h:CR C σ ts cts w D ρ F)(A:Below w.heap.size w w'):Wi C σ ts cts w':=
 ⟨D,ρ,F,h.wr.below A,h.sz,λt H=>Rel.mono (λ_ h=>h) (λv cv hv=>Ae.same h.wr (λi b B=>A.block b (h.wr.lt i b B)) v cv hv) _ _ _ (λb B=>A.block b (B.elim (h.wr.Dlt b) λh=>h.elim)) (h.tm t H),h.fr.below A,h.Fn,h.D1,h.D2,h.rt,h.ml⟩
def BC(a:Act)(d:Nat)(v:Value):(a.put (some d) v).tmps=a.tmps.setIfInBounds d v:=rfl
theorem JC{P:Program}{C:Ctx}{h:BW}{o:Oper}{K:Ms->Prop}{S:Ms}{a:Act}{w:World}{next:Act->World->Prop}{Q:Exit->Act->World->Prop}
  (hv:vop P h o K S) (hs:AA C h.n S a w) (hn:∀S' a' w',K S'->AA C h.n S' a' w'->next a' w'):o.wp P a w next Q:=by
 obtain⟨hd,U,D,ρ,F,A⟩:=hs;unfold vop at hv;split at hv
 .rename_i t x v ho
  obtain⟨B,hv⟩:=hv;unfold Wq at hv;split at hv
  case h_2=>exact hv.elim
  rename_i ag size zero id p i k hti hx;obtain⟨hpl,⟨hlen,hksz⟩,hput⟩:=hv;obtain⟨d,ti,z,hdt,hit,hz,his,_⟩:=CP hti;simp only at his;have hrx:=Bh A U x;rw[hx]at hrx;obtain⟨s,sz,n,f,b,o',cap,hid,ha,hi,hk,had,_,hns,_,_⟩:=JS A.wr hrx.1;have hrv:=Bh A U v;obtain⟨⟨hcl,hcells⟩,_⟩:=B9 (λv cv h=>Ae.one h) hpl hrv
  have hcr2:CR C S.σ ((range h.n).map S.t++ .rp id p i k::cellsV (S.ev v)) (a.tmps.toList++ .pointer (some ⟨b,(o'+i*sz)+k,none⟩)::(a.eval v).cells.toList).toArray w D ρ F:=by
   have Z:a.tmps.size=h.n:=by simpa using A.sz
   refine⟨A.wr,by simp[Z,hcl],λj hj=>?_,A.fr,A.Fn,A.D1,A.D2,A.rt,A.ml⟩
   by_cases hjt:j<h.n
   .rw[Az (by simpa using hjt)]
    have h1:=A.tm j (by simpa using hjt)
    have e:(a.tmps.toList++ .pointer (some ⟨b,(o'+i*sz)+k,none⟩)::(a.eval v).cells.toList).toArray.getD j undef=a.tmps.getD j undef:=by
     simp[gAL,Z,hjt]
    rw[e];exact h1
   .obtain⟨l,rfl⟩:∃l,j=h.n+l:=⟨j-h.n,by omega⟩
    have e1:((range h.n).map S.t++ .rp id p i k::cellsV (S.ev v)).getD (h.n+l) .dead=(.rp id p i k::cellsV (S.ev v)).getD l .dead:=by
     simp[gAR]
    have e2:(a.tmps.toList++ .pointer (some ⟨b,(o'+i*sz)+k,none⟩)::(a.eval v).cells.toList).toArray.getD (h.n+l) undef=(.pointer (some ⟨b,(o'+i*sz)+k,none⟩)::(a.eval v).cells.toList).getD l undef:=by
     simp only[Array.getD_eq_getD_getElem?,List.getElem?_toArray,gDE];rw[gAR (by simp;omega)]
     simp[Z]
    rw[e1,e2];cases l with
    |zero=>rw[had]at hrx;exact hrx
    |succ l=>
     simp at hj;have:=hcells l (by omega)
     simpa using this
  obtain⟨w',σ',t',hrun,Y,H,hcr3⟩:=Vy (P:=P) (size+1) (cellsV (S.ev v)) (a.eval v).cells.toList 0 S.σ S.t w ρ F hcr2 (by simpa using A.sz) U (by simpa using hcl) (by rw[hns]at hksz⊢;omega) hput
  have hsv:(storeVar t ⟨b,(o'+i*sz)+k,none⟩ (a.eval v)).run P w=.ok () w':=by
   have hne:¬ ((a.eval v).cells.size≠size):=by rw[hcl,hlen];simp
   simp only[storeVar,Sem.run_bind,sizeOf,typeInfo];simp[hit,his,hrun];rw[hcl,hlen]
  have hex:(execOp a.eval o).run P w=.ok .skip w':=by
   unfold execOp;rw[ho];simp[Instr.storeAt,had,Instr.sureAddr,hsv]
  unfold Oper.wp;rw[hex,Oper.upon_skip,B];exact hn ⟨t',σ'⟩ a w' Y ⟨hd,H,hcr3⟩
 .exact False.elim hv.2
 .rename_i hst
  obtain⟨r,Y,hy⟩:=Oc (o:=o) A.ok A.wr (λx _=>⟨noF,Bh A U x,λ_ h=>h.elim,λ_ _ _ h=>h⟩) hv
  refine hy next Q λv' w' D' fp hB hr hf hd1 hd2 hd3=>?_
  have Z:a.tmps.size=h.n:=by simpa using A.sz
  unfold ResK Ms.res at Y;have same:AA C h.n S a w':=⟨hd,U,A.below hB⟩;cases B:(o.dst:Option Nat)with
  |none=>
   rw[B]at Y;exact hn S a w' Y same
  |some d=>
   rw[B]at Y;simp only at Y;split at Y
   .rename_i hdn
    have H:∀v x,h.n<=x->AD S.t d v x=.dead:=λv x hx=>by
     have hne:¬x=d:=by omega
     unfold AD;rw[if_neg hne];exact U x hx
    split at Y
    .refine hn _ _ w' Y ⟨hd,H _,?_⟩
     rw[BC,<-BO hdn];refine A.setv hB (Rel.frz _ _ _ hr) (λb W=>.inl (hd1 b W)) (λb W=>?_) (λb W=>?_) d
     .rcases W with W|W
      .exact hd2 b W
      .exact .inr (hf b W)
     .rcases W with W|W
      .exact(hd3 b W).1
      .exact Rel.lt _ _ _ hr b W
    .refine hn _ _ w' Y ⟨hd,H _,?_⟩
     rw[BC,<-BO hdn];exact A.res hB hr hf hd1 hd2 hd3 d
   .rename_i hdn
    have e:a.put (some d) v'=a:=by
     have:a.tmps.setIfInBounds d v'=a.tmps:=Array.setIfInBounds_eq_of_size_le (by omega)
     unfold Act.put;simp only[this]
    rw[e];exact hn S a w' Y same
end Go.Ve


namespace Go.Ve
variable{a:Act}{ops:Array Oper}{C:Ctx}{S:Ms}{N j:Nat}{w:World}
def udV:V:=.many .tu 0 λk=>([]:List V).getD k .dead
def Ms.skip(S:Ms)(d:Option Nat):Ms:=
 match d with
 |some d=>⟨AD S.t d .dead,S.σ⟩
 |none=>S
def Rel.ud{D:Nat->Prop}{R:V->Value->Prop}:Rel D w R udV undef noF:=
 ⟨#[],λ_=>noF,rfl,rfl,λk A=>absurd A (Nat.not_lt_zero _),λ_ _ _ A=>absurd A (Nat.not_lt_zero _),λb=>⟨λh=>h.elim,fun⟨_,_,h⟩=>h⟩⟩
def gv(t:Nat->V)(ops:Array Oper)(j:Nat):V:=
 match(ops[j]?).bind (·.dst)with
 |some d=>t d
 |none=>.dead
theorem AcI(U:AA C N S a w){b:Bool}(h:gv S.t ops j=.c (.bool b)):yielded ops a.tmps j=some b:=by
 obtain⟨_,W,D,ρ,F,B⟩:=U;unfold gv at h;split at h
 .rename_i d hd
  have A:d<N:=by
   grind
  have H:=B.tm d (by grind)
  rw[Ay A,h]at H;have Y:d<a.tmps.size:=by rw[B.sz];simpa using A
  have h3:a.tmps[d]? =some (.bool b):=by
   have:=H.1
   simp_all
  unfold yielded
  grind
 grind
theorem AcJ(Y:AA C N S a w)(h:gv S.t ops j=udV):yielded ops a.tmps j=none:=by
 obtain⟨_,U,D,ρ,F,H⟩:=Y;unfold gv at h;split at h
 .rename_i d hd
  have A:d<N:=by
   rcases Nat.lt_or_ge d N with h'|h'
   .omega
   .rw[U d h']at h;cases h
  have W:=H.tm d (by grind)
  rw[Ay A,h]at W;obtain⟨cs,_,B,_⟩:=W;have Z:d<a.tmps.size:=by rw[H.sz];simpa using A
  have h3:a.tmps[d]? =some (.tuple cs):=by
   simp[Z]at B⊢;exact B
  unfold yielded
  grind
 trivial
theorem AA.skipU(H:AA C N S a w){d:Nat}(B:d<N):AA C N ⟨AD S.t d udV,S.σ⟩ (a.put (some d) undef) w:=by
 obtain⟨hd,U,D,ρ,F,A⟩:=H;refine⟨hd,λx W=>?_,?_⟩
 .unfold AD
  grind
 .have:=A.setv (Below.refl _ _) Rel.ud (λ_ h=>h) (λ_ h=>.inl h) A.wr.Dlt d
  rw[BO B]at this;trivial
theorem AA.skip{C:Ctx}{N:Nat}{S:Ms}{a:Act}{w:World}(U:AA C N S a w)(d:Option Nat)(v:Value):AA C N (S.skip d) (a.put d v) w:=by
 obtain⟨hd,H,D,ρ,F,A⟩:=U;cases d with
 |none=>exact⟨hd,H,D,ρ,F,A⟩
 |some d=>
  refine⟨hd,λx W=>?_,?_⟩
  .show AD S.t d .dead x=.dead
   unfold AD
   grind
  .have:=A.setv (r:=.dead) (Below.refl _ _) (D':=D) (show Rel D w _ .dead v noF from λ_ h=>h) (λ_ h=>h) (λ_ h=>.inl h) A.wr.Dlt d
   by_cases B:d<N
   .rw[BO B]at this;exact this
   .have e:(range N).map (AD S.t d .dead)=((range N).map S.t).set d .dead:=by
     apply List.ext_getElem?;intro i;by_cases hi:i<N
     .have:d≠i:=by omega
      rw[List.getElem?_set_ne this];simp[hi,AD,Ne.symm this]
     grind
    show Wi C S.σ ((range N).map (AD S.t d .dead)) _ w;rw[e];exact this
theorem At.dead{w:World}{p:List (Nat×Nat)}{cv:Value}{s o:Bool}{sz n:Nat}{f:Nat->Nat->V}{A:Value}(h:At w p .dead cv (.nd s o sz n f) A):False:=by
 cases p with
 |nil=>exact absurd h.1 (by simp)
 |cons a p=>exact h
theorem VL{p:Nat->Prop}(h:∃n,p n):∃n,p n/\∀m,m<n->¬p m:=by
 obtain⟨n,B⟩:=h
 induction n using Nat.strongRecOn with
 |_ n A=>
  grind
end Go.Ve

