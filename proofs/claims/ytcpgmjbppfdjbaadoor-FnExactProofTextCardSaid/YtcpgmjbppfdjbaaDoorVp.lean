/- The small machine's steps: a store of a whole variable; one operation behind the other. -/
import Derived.Test.YtcpgmjbppfdjbaaDoorVn
namespace Go.Ve
variable{a:Act}{C:Ctx}{l σ:List V}{ct:List Value}{S:Ms}{N i:Nat}{F:Nat->Nat->Prop}{D:Nat->Prop}{t:Nat->V}{ρ:Nat->Value}{w:World}
theorem CR.left{t:List V}{cl:List Value}(h:CR C σ (t++l) (ct++cl).toArray w D ρ F)(hl:ct.length=t.length):CR C σ t ct.toArray w D ρ F:=by
 refine⟨h.wr,by omega,λj hj=>?_,h.fr,h.Fn,h.D1,h.D2,h.rt,h.ml⟩
 have h1:=h.tm j (by grind)
 have e:(ct++cl).toArray.getD j undef=ct.toArray.getD j undef:=by simp [gAL,hl,hj]
 grind
section
variable {P:Program} {C:Ctx} {D:Nat->Prop}
theorem Q7{id:Nat}{p:List (Nat×Nat)}{i k0:Nat}{ct:List Value}{b0 ofs0 N:Nat}{K:List V->(Nat->V)->Prop}:
  ∀ (m:Nat) (cs:List V) (ccs:List Value) (j:Nat) (σ:List V) (t:Nat->V) (w:World) (ρ:Nat->Value) (F:Nat->Nat->Prop),
  CR C σ ((List.range N).map t++ .rp id p i k0::cs) (ct++ .pointer (some ⟨b0,ofs0+k0,none⟩)::ccs).toArray w D ρ F->ct.length=N->(∀x,N<=x->t x= .dead)->ccs.length=cs.length->k0+j+cs.length<=AS σ id p->putL id p i m (k0+j) cs σ t K->
  ∃w' σ' t',(storeCells ⟨b0,ofs0+k0,none⟩ ccs j).run P w= .ok () w'/\K σ' t'/\(∀x,N<=x->t' x= .dead)/\UK C σ' ((List.range N).map t') ct.toArray w':=by
 intro m
 induction m with
 |zero=>intro cs ccs j σ t w ρ F _ _ _ _ _ h;exact h.elim
 |succ m ih=>
  intro cs ccs j σ t w ρ F hcr hl hdd hlc hsz h;cases cs with
  |nil=>
   cases ccs with
   |cons=>simp at hlc
   |nil=>exact⟨w,σ,t,rfl,h,hdd,D,ρ,F,hcr.left (by simpa using hl)⟩
  |cons c cs=>
   cases ccs with
   |nil=>simp at hlc
   |cons cx ccs=>
    simp only [List.length_cons]at hsz;obtain⟨G,σ1,b,off,ρ1,F1,⟨y,hy⟩,hfz,h1,⟨ofs,had,hoff⟩,hGm,hK,hns,hcr1⟩:=HT hcr (by simpa using hl) (by omega) h
    rw [List.map_map]at hcr1;simp only [Value.pointer.injEq,Option.some.injEq,Addr.mk.injEq,and_true]at had;obtain⟨rfl,had⟩:=had;obtain rfl:ofs0=ofs:=by omega
    obtain⟨w2,σ2,t2,hrun,hK2,hd2,hcr2⟩:=ih (cs.map G) ccs (j+1) σ1 (λi=>G (t i)) _ ρ1 F1 hcr1 hl (λx hx=>by rw [hdd x hx,hGm.dead]) (by simpa using hlc) (by rw [hns];simp;omega) (by rw [<-Nat.add_assoc];exact hK)
    refine⟨w2,σ2,t2,?_,hK2,hd2,hcr2⟩;have ea:(⟨b0,ofs0+k0,none⟩:Addr).add j=⟨b0,off,none⟩:=by rw [AT rfl];simp;omega
    simp only [storeCells,Sem.run_bind,ea];rw [run_store P w _ cx .plain h1,hy];simp only [hfz,Bool.false_eq_true,if_false];exact hrun
end
def StK(K:Ms->Prop)(σ:List V)(t:Nat->V):Prop:=K ⟨t,σ⟩
def UR(ti:Option TyI)(x v:V)(K:Ms->Prop)(S:Ms):Prop:=
 match ti,x with
 |some ⟨_,size,_⟩,.rp id p i k=>Bo v=true/\((cellsV v).length=size/\k+size<=AS S.σ id p)/\putL id p i (size+1) k (cellsV v) S.σ S.t (StK K)
 |_,_=>False
def vop(P:Program)(h:Cg)(o:Oper)(K:Ms->Prop)(S:Ms):Prop:=
 match o.op with
 | .store t x v=>o.dst=none/\UR (tyI P t) (S.ev x) (S.ev v) K S
 |op=>qop P S.σ S.ev op (ResK h o.dst S K)
def AI(C:Ctx)(N:Nat)(S:Ms)(a:Act)(w:World):Prop:=a.defers= []/\(∀x,N<=x->S.t x= .dead)/\UK C S.σ ((List.range N).map S.t) a.tmps w
theorem AV{x:Nat}(h:x<N):((List.range N).map t).getD x .dead=t x:=by grind
theorem Cn{d:Nat}{v:V}(h:d<N):((List.range N).map t).set d v=(List.range N).map (Az t d v):=by
 apply List.ext_getElem?;intro i;by_cases hi:i<N
 ·by_cases he:d=i
  ·subst he;simp [hi,Az]
  ·rw [List.getElem?_set_ne he];simp [hi,Az,Ne.symm he]
 grind
theorem H9{R:V->Value->Prop}(v:Value):Rel D w R (KY v) v noF:=by
 unfold KY;split
 ·rename_i cs
  split
  ·rename_i h
   refine⟨cs,λ_=>noF,rfl,by simp,λk hk=>?_,λ_ _ _ _ _ _ h=>h.elim,λb=>⟨λh=>h.elim,fun⟨_,_,h⟩=>h⟩⟩
   simp at hk;have e:(cs.toList.map V.c).getD k .dead= .c (cs.getD k undef):=by simp_all
   show Rel D w R ((cs.toList.map V.c).getD k .dead) _ _;rw [e];refine⟨rfl,aET.1 h _ ?_,λ_ h=>h⟩
   grind
  ·exact λ_ h=>h
 ·split
  ·exact⟨rfl,by grind,λ_ h=>h⟩
  ·exact λ_ h=>h
theorem Wv(h:l.length<=i):l.getD i .dead= .dead:=by grind
theorem BB(h:CR C S.σ ((List.range N).map S.t) a.tmps w D ρ F)(hd: ∀x,N<=x->S.t x= .dead)(x:Operand):Rel D w (Ag S.σ ρ w) (S.ev x) (a.eval x) noF:=by
 cases x with
 |tmp t=>
  by_cases ht:t<N
  ·have:=h.tm t (by grind)
   rw [AV ht]at this
   trivial
  ·show Rel D w _ (S.t t) _ noF
   rw [hd t (Nat.le_of_not_lt ht)];exact λ_ h=>h
 |const v=>exact H9 v
 |global g=>exact⟨rfl,rfl,λ_ h=>h⟩
 |func f=>exact OZ
theorem CR.setv{ts:List V}{cts:Array Value}{w':World}{D':Nat->Prop}(h:CR C σ ts cts w D ρ F){r:V}{v':Value}(hB:Below w.heap.size w w')(hr:Rel D' w' (Ag σ ρ w') r v' noF)
  (hd1: ∀b,D b->D' b) (hd2: ∀b,D' b->D b\/w.heap.size<=b) (hd3: ∀b,D' b->b<w'.heap.size) (d:Nat):UK C σ (ts.set d r) (cts.setIfInBounds d v') w':=by
 have hFlt:=h.wr.lt;have wr':Bj σ w' D' ρ F:=by
  have h1:=h.wr.below hB;refine⟨λi hi=>Rel.mono hd1 (λ_ _ h=>h) _ _ _ (λ_ _=>rfl) (h1.rel i hi),h1.disj,λi b hb hD=>?_,hd3,h1.out⟩
  rcases hd2 b hD with h2|h2
  ·exact h1.dD i b hb h2
  grind
 refine⟨D',ρ,F,wr',by simp [h.sz],λt ht=>?_,h.fr.below hB,h.Fn,λb hb=>hd1 b (h.D1 b hb),λb hb hlt=>?_,h.rt,h.ml⟩
 ·simp at ht
  by_cases he:d=t
  ·subst he
   have hlt:d<cts.size:=by rw [h.sz];exact ht
   simp_all
  ·have h1:=h.tm t ht
   simp only [gDE,List.getElem?_set_ne he,Array.getD_eq_getD_getElem?,Array.getElem?_setIfInBounds_ne he];rw [<-Array.getD_eq_getD_getElem?];refine Rel.mono hd1 (λv cv hv=>Ag.same h.wr (λi b hb=>hB.block b (hFlt i b hb)) v cv hv) _ _ _ (λb hb=>hB.block b ?_) h1
   rcases hb with hb|hb
   ·exact h.wr.Dlt b hb
   ·exact hb.elim
 ·rcases hd2 b hb with h2|h2
  ·exact h.D2 b h2 hlt
  ·have:=h.fr.size;omega
theorem CR.below{C:Ctx}{σ ts:List V}{cts:Array Value}{w w':World}{D:Nat->Prop}{ρ:Nat->Value}{F:Nat->Nat->Prop}(h:CR C σ ts cts w D ρ F)(hB:Below w.heap.size w w'):UK C σ ts cts w':=
 ⟨D,ρ,F,h.wr.below hB,h.sz,λt ht=>Rel.mono (λ_ h=>h) (λv cv hv=>Ag.same h.wr (λi b hb=>hB.block b (h.wr.lt i b hb)) v cv hv) _ _ _ (λb hb=>hB.block b (hb.elim (h.wr.Dlt b) λh=>h.elim)) (h.tm t ht),h.fr.below hB,h.Fn,h.D1,h.D2,h.rt,h.ml⟩
theorem BK(a:Act)(d:Nat)(v:Value):(a.put (some d) v).tmps=a.tmps.setIfInBounds d v:=rfl
theorem IZ{P:Program}{C:Ctx}{h:Cg}{o:Oper}{K:Ms->Prop}{S:Ms}{a:Act}{w:World}{next:Act->World->Prop}{Q:Exit->Act->World->Prop}
  (hv:vop P h o K S) (hs:AI C h.n S a w) (hn: ∀S' a' w',K S'->AI C h.n S' a' w'->next a' w'):o.wp P a w next Q:=by
 obtain⟨hd,hdd,D,ρ,F,hcr⟩:=hs;unfold vop at hv;split at hv
 ·rename_i t x v ho
  obtain⟨hdst,hv⟩:=hv;unfold UR at hv;split at hv
  case h_2=>exact hv.elim
  rename_i ag size zero id p i k hti hx;obtain⟨hpl,⟨hlen,hksz⟩,hput⟩:=hv;obtain⟨d,ti,z,hdt,hit,hz,his,_⟩:=Cz hti;simp only at his;have hrx:=BB hcr hdd x;rw [hx]at hrx;obtain⟨s,sz,n,f,b,o',cap,hid,ha,hi,hk,had,_,hns,_,_⟩:=Jg hcr.wr hrx.1;have hrv:=BB hcr hdd v;obtain⟨⟨hcl,hcells⟩,_⟩:=Ci (λv cv h=>Ag.one h) hpl hrv
  have hcr2:CR C S.σ ((List.range h.n).map S.t++ .rp id p i k::cellsV (S.ev v)) (a.tmps.toList++ .pointer (some ⟨b,(o'+i*sz)+k,none⟩)::(a.eval v).cells.toList).toArray w D ρ F:=by
   have hsz:a.tmps.size=h.n:=by simpa using hcr.sz
   refine⟨hcr.wr,by simp [hsz,hcl],λj hj=>?_,hcr.fr,hcr.Fn,hcr.D1,hcr.D2,hcr.rt,hcr.ml⟩
   by_cases hjt:j<h.n
   ·rw [Aw (by simpa using hjt)]
    have h1:=hcr.tm j (by simpa using hjt)
    have e:(a.tmps.toList++ .pointer (some ⟨b,(o'+i*sz)+k,none⟩)::(a.eval v).cells.toList).toArray.getD j undef=a.tmps.getD j undef:=by
     simp [gAL,hsz,hjt]
    rw [e];exact h1
   ·obtain⟨l,rfl⟩: ∃l,j=h.n+l:=⟨j-h.n,by omega⟩
    have e1:((List.range h.n).map S.t++ .rp id p i k::cellsV (S.ev v)).getD (h.n+l) .dead=(.rp id p i k::cellsV (S.ev v)).getD l .dead:=by
     simp [gAR]
    have e2:(a.tmps.toList++ .pointer (some ⟨b,(o'+i*sz)+k,none⟩)::(a.eval v).cells.toList).toArray.getD (h.n+l) undef=(.pointer (some ⟨b,(o'+i*sz)+k,none⟩)::(a.eval v).cells.toList).getD l undef:=by
     simp only [Array.getD_eq_getD_getElem?,List.getElem?_toArray,gDE];rw [gAR (by simp;omega)]
     simp [hsz]
    rw [e1,e2];cases l with
    |zero=>rw [had]at hrx;exact hrx
    |succ l=>
     simp at hj;have:=hcells l (by omega)
     simpa using this
  obtain⟨w',σ',t',hrun,hK,hdd',hcr3⟩:=Q7 (P:=P) (size+1) (cellsV (S.ev v)) (a.eval v).cells.toList 0 S.σ S.t w ρ F hcr2 (by simpa using hcr.sz) hdd (by simpa using hcl) (by rw [hns]at hksz⊢;omega) hput
  have hsv:(storeVar t ⟨b,(o'+i*sz)+k,none⟩ (a.eval v)).run P w= .ok () w':=by
   have hne: ¬ ((a.eval v).cells.size≠size):=by rw [hcl,hlen];simp
   simp only [storeVar,Sem.run_bind,sizeOf,typeInfo];simp [hit,his,hrun];rw [hcl,hlen]
  have hex:(execOp a.eval o).run P w= .ok .skip w':=by
   unfold execOp;rw [ho];simp [Instr.storeAt,had,Instr.sureAddr,hsv]
  unfold Oper.wp;rw [hex,Oper.upon_skip,hdst];exact hn ⟨t',σ'⟩ a w' hK ⟨hd,hdd',hcr3⟩
 ·rename_i hst
  obtain⟨r,hK,hy⟩:=MZ (o:=o) hcr.ok hcr.wr (λx _=>⟨noF,BB hcr hdd x,λ_ h=>h.elim,λ_ _ _ h=>h⟩) hv
  refine hy next Q λv' w' D' fp hB hr hf hd1 hd2 hd3=>?_
  have hsz:a.tmps.size=h.n:=by simpa using hcr.sz
  unfold ResK Ms.res at hK;have same:AI C h.n S a w':=⟨hd,hdd,hcr.below hB⟩;cases hdst:(o.dst:Option Nat)with
  |none=>
   rw [hdst]at hK;exact hn S a w' hK same
  |some d=>
   rw [hdst]at hK;simp only at hK;split at hK
   ·rename_i hdn
    have hdd': ∀v x,h.n<=x->Az S.t d v x= .dead:=λv x hx=>by
     have hne: ¬x=d:=by omega
     unfold Az;rw [if_neg hne];exact hdd x hx
    split at hK
    ·refine hn _ _ w' hK ⟨hd,hdd' _,?_⟩
     rw [BK,<-Cn hdn];refine hcr.setv hB (Rel.frz _ _ _ hr) (λb hb=>.inl (hd1 b hb)) (λb hb=>?_) (λb hb=>?_) d
     ·rcases hb with hb|hb
      ·exact hd2 b hb
      ·exact .inr (hf b hb)
     ·rcases hb with hb|hb
      ·exact(hd3 b hb).1
      ·exact Rel.lt _ _ _ hr b hb
    ·refine hn _ _ w' hK ⟨hd,hdd' _,?_⟩
     rw [BK,<-Cn hdn];exact hcr.res hB hr hf hd1 hd2 hd3 d
   ·rename_i hdn
    have e:a.put (some d) v'=a:=by
     have:a.tmps.setIfInBounds d v'=a.tmps:=Array.setIfInBounds_eq_of_size_le (by omega)
     unfold Act.put;simp only [this]
    rw [e];exact hn S a w' hK same
end Go.Ve


namespace Go.Ve
variable{a:Act}{ops:Array Oper}{C:Ctx}{S:Ms}{N j:Nat}{w:World}
def udV:V:=.many .tu 0 λk=>([]:List V).getD k .dead
def Ms.skip(S:Ms)(d:Option Nat):Ms:=
 match d with
 |some d=>⟨Az S.t d .dead,S.σ⟩
 |none=>S
theorem Rel.ud{D:Nat->Prop}{R:V->Value->Prop}:Rel D w R udV undef noF:=
 ⟨#[],λ_=>noF,rfl,rfl,λk hk=>absurd hk (Nat.not_lt_zero _),λ_ _ _ hk=>absurd hk (Nat.not_lt_zero _),λb=>⟨λh=>h.elim,fun⟨_,_,h⟩=>h⟩⟩
def gv(t:Nat->V)(ops:Array Oper)(j:Nat):V:=
 match(ops[j]?).bind (·.dst)with
 |some d=>t d
 |none=>.dead
theorem Wp(hs:AI C N S a w){b:Bool}(h:gv S.t ops j= .c (.bool b)):yielded ops a.tmps j=some b:=by
 obtain⟨_,hdd,D,ρ,F,hcr⟩:=hs;unfold gv at h;split at h
 ·rename_i d hd
  have hlt:d<N:=by
   grind
  have h1:=hcr.tm d (by grind)
  rw [AV hlt,h]at h1;have h2:d<a.tmps.size:=by rw [hcr.sz];simpa using hlt
  have h3:a.tmps[d]? =some (.bool b):=by
   have:=h1.1
   simp_all
  unfold yielded
  grind
 grind
theorem Wq(hs:AI C N S a w)(h:gv S.t ops j=udV):yielded ops a.tmps j=none:=by
 obtain⟨_,hdd,D,ρ,F,hcr⟩:=hs;unfold gv at h;split at h
 ·rename_i d hd
  have hlt:d<N:=by
   rcases Nat.lt_or_ge d N with h'|h'
   ·omega
   ·rw [hdd d h']at h;cases h
  have h1:=hcr.tm d (by grind)
  rw [AV hlt,h]at h1;obtain⟨cs,_,hcv,_⟩:=h1;have h2:d<a.tmps.size:=by rw [hcr.sz];simpa using hlt
  have h3:a.tmps[d]? =some (.tuple cs):=by
   simp [h2]at hcv⊢;exact hcv
  unfold yielded
  grind
 trivial
theorem AI.skipU(hs:AI C N S a w){d:Nat}(hdn:d<N):AI C N ⟨Az S.t d udV,S.σ⟩ (a.put (some d) undef) w:=by
 obtain⟨hd,hdd,D,ρ,F,hcr⟩:=hs;refine⟨hd,λx hx=>?_,?_⟩
 ·unfold Az
  grind
 ·have:=hcr.setv (Below.refl _ _) Rel.ud (λ_ h=>h) (λ_ h=>.inl h) hcr.wr.Dlt d
  rw [Cn hdn]at this;trivial
theorem AI.skip{C:Ctx}{N:Nat}{S:Ms}{a:Act}{w:World}(hs:AI C N S a w)(d:Option Nat)(v:Value):AI C N (S.skip d) (a.put d v) w:=by
 obtain⟨hd,hdd,D,ρ,F,hcr⟩:=hs;cases d with
 |none=>exact⟨hd,hdd,D,ρ,F,hcr⟩
 |some d=>
  refine⟨hd,λx hx=>?_,?_⟩
  ·show Az S.t d .dead x= .dead
   unfold Az
   grind
  ·have:=hcr.setv (r:=.dead) (Below.refl _ _) (D':=D) (show Rel D w _ .dead v noF from λ_ h=>h) (λ_ h=>h) (λ_ h=>.inl h) hcr.wr.Dlt d
   by_cases hdn:d<N
   ·rw [Cn hdn]at this;exact this
   ·have e:(List.range N).map (Az S.t d .dead)=((List.range N).map S.t).set d .dead:=by
     apply List.ext_getElem?;intro i;by_cases hi:i<N
     ·have:d≠i:=by omega
      rw [List.getElem?_set_ne this];simp [hi,Az,Ne.symm this]
     grind
    show UK C S.σ ((List.range N).map (Az S.t d .dead)) _ w;rw [e];exact this
theorem At.dead{w:World}{p:List (Nat×Nat)}{cv:Value}{s o:Bool}{sz n:Nat}{f:Nat->Nat->V}{cv':Value}(h:At w p .dead cv (.nd s o sz n f) cv'):False:=by
 cases p with
 |nil=>exact absurd h.1 (by simp)
 |cons a p=>exact h
theorem OT{p:Nat->Prop}(h: ∃n,p n): ∃n,p n/\∀m,m<n->¬p m:=by
 obtain⟨n,hn⟩:=h
 induction n using Nat.strongRecOn with
 |_ n ih=>
  grind
end Go.Ve

