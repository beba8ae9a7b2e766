/- The small machine's steps. -/
import Derived.Test.YtojjlnbnneemaaaVn
open List(range)
set_option linter.all false
namespace Go.Ve
variable{a:Act}{C:Ctx}{l σ:List V}{ct:List Value}{S:Ms}{N i:Nat}{F:Nat->Nat->Prop}{D:Nat->Prop}{t:Nat->V}{ρ:Nat->Value}{w:World}
theorem CR.left{t:List V}{cl:List Value}(h:CR C σ (t++l) (ct++cl).toArray w D ρ F)(u:ct.length=t.length):CR C σ t ct.toArray w D ρ F:=by
 refine⟨h.wr,by omega,λj A=>?_,h.fr,h.Fn,h.D1,h.D2,h.rt,h.ml⟩
 have B:=h.tm j (by grind)
 have e:(ct++cl).toArray.getD j undef=ct.toArray.getD j undef:=by simp[gAL,u,A]
 grind
section
variable {P:Program}{C:Ctx}{D:Nat->Prop}
def Uw{id:Nat}{p:List (Nat×Nat)}{i k0:Nat}{ct:List Value}{Y A N:Nat}{K:List V->(Nat->V)->Prop}:
  ∀(m:Nat) (cs:List V) (u:List Value) (j:Nat) (σ:List V) (t:Nat->V) (w:World) (ρ:Nat->Value) (F:Nat->Nat->Prop),
  CR C σ ((range N).map t++ .rp id p i k0::cs) (ct++ .pointer (some ⟨Y,A+k0,none⟩)::u).toArray w D ρ F->ct.length=N->(∀x,N<=x->t x=.dead)->u.length=cs.length->k0+j+cs.length<=AW σ id p->putL id p i m (k0+j) cs σ t K->
  ∃w' σ' t',(storeCells ⟨Y,A+k0,none⟩ u j).run P w=.ok () w'/\K σ' t'/\(∀x,N<=x->t' x=.dead)/\XX C σ' ((range N).map t') ct.toArray w':=by
 intro m
 induction m with
 |zero=>intro cs u j σ t w ρ F _ _ _ _ _ h;exact h.elim
 |succ m ih=>
  intro cs u j σ t w ρ F W hl O B hsz h;cases cs with
  |nil=>
   cases u with
   |cons=>simp at B
   |nil=>exact⟨w,σ,t,rfl,h,O,D,ρ,F,W.left (by simpa using hl)⟩
  |cons c cs=>
   cases u with
   |nil=>simp at B
   |cons cx u=>
    simp only[List.length_cons]at hsz;obtain⟨G,σ1,b,off,ρ1,F1,⟨y,hy⟩,hfz,h1,⟨ofs,E,hoff⟩,hGm,hK,hns,hcr1⟩:=Id W (by simpa using hl) (by omega) h
    rw[List.map_map]at hcr1;simp only[Value.pointer.injEq,Option.some.injEq,Addr.mk.injEq,and_true]at E;obtain⟨rfl,E⟩:=E;obtain rfl:A=ofs:=by omega
    obtain⟨w2,Z,t2,J,hK2,hd2,U⟩:=ih (cs.map G) u (j+1) σ1 (λi=>G (t i)) _ ρ1 F1 hcr1 hl (λx hx=>by rw[O x hx,hGm.dead]) (by simpa using B) (by rw[hns];simp;omega) (by rw[<-Nat.add_assoc];exact hK)
    refine⟨w2,Z,t2,?_,hK2,hd2,U⟩;have ea:(⟨Y,A+k0,none⟩:Addr).add j=⟨Y,off,none⟩:=by rw[AZ rfl];simp;omega
    simp only[storeCells,Sem.run_bind,ea];rw[run_store P w _ cx .plain h1,hy];simp only[hfz,Bool.false_eq_true,if_false];exact J
end
def StK(K:Ms->Prop)(σ:List V)(t:Nat->V):Prop:=K ⟨t,σ⟩
def Vp(u:Option TyI)(x v:V)(K:Ms->Prop)(S:Ms):Prop:=
 match u,x with
 |some ⟨_,size,_⟩,.rp id p i k=>Bv v=true/\((cellsV v).length=size/\k+size<=AW S.σ id p)/\putL id p i (size+1) k (cellsV v) S.σ S.t (StK K)
 |_,_=>False
def OB(P:Program)(t:TypeId)(A B u:V)(K:Ms->Prop)(S:Ms):Prop:=
 match A with
 |.rm id p=>∃kt et l k x,Vf P t=some (kt,et)/\sub p (S.σ.getD id .dead)=.mp true l/\Z4 B=some k/\Z4 u=some x/\X5 P kt k=true/\(∀e∈l,BJ P kt k e.1=true)/\
   K ⟨S.t,S.σ.set id (upd p (S.σ.getD id .dead) (.mp true (Zz k x l)))⟩
 |_=>False
def vop(P:Program)(h:Cy)(o:Oper)(K:Ms->Prop)(S:Ms):Prop:=
 match o.op with
 |.store t x v=>o.dst=none/\Vp (tyI P t) (S.ev x) (S.ev v) K S
 |.mapUpdate t m k x=>o.dst=none/\OB P t (S.ev m) (S.ev k) (S.ev x) K S
 |op=>qop P S.σ S.ev op (ResK h o.dst S K)
def AQ(C:Ctx)(N:Nat)(S:Ms)(a:Act)(w:World):Prop:=a.defers=[]/\(∀x,N<=x->S.t x=.dead)/\XX C S.σ ((range N).map S.t) a.tmps w
theorem AY{x:Nat}(h:x<N):((range N).map t).getD x .dead=t x:=by grind
theorem Db{d:Nat}{v:V}(h:d<N):((range N).map t).set d v=(range N).map (AI t d v):=by
 apply List.ext_getElem?;intro i;by_cases A:i<N
 .by_cases u:d=i
  .subst u;simp[A,AI]
  .rw[List.getElem?_set_ne u];simp[A,AI,Ne.symm u]
 grind
theorem Ir{R:V->Value->Prop}(v:Value):Rel D w R (Lc v) v noF:=by
 unfold Lc;split
 .rename_i cs
  split
  .rename_i h
   refine⟨cs,λ_=>noF,rfl,by simp,λk u=>?_,λ_ _ _ _ _ _ h=>h.elim,λb=>⟨λh=>h.elim,fun⟨_,_,h⟩=>h⟩⟩
   simp at u;have e:(cs.toList.map V.c).getD k .dead=.c (cs.getD k undef):=by simp_all
   show Rel D w R ((cs.toList.map V.c).getD k .dead) _ _;rw[e];refine⟨rfl,aET.1 h _ ?_,λ_ h=>h⟩
   grind
  .exact λ_ h=>h
 .split
  .exact⟨rfl,by grind,λ_ h=>h⟩
  .exact λ_ h=>h
theorem Mq(h:l.length<=i):l.getD i .dead=.dead:=by grind
theorem BE(h:CR C S.σ ((range N).map S.t) a.tmps w D ρ F)(hd:∀x,N<=x->S.t x=.dead)(x:Operand):Rel D w (Aq S.σ ρ w) (S.ev x) (a.eval x) noF:=by
 cases x with
 |tmp t=>
  by_cases u:t<N
  .have:=h.tm t (by grind)
   rw[AY u]at this
   trivial
  .show Rel D w _ (S.t t) _ noF
   rw[hd t (Nat.le_of_not_lt u)];exact λ_ h=>h
 |const v=>exact Ir v
 |global g=>exact⟨rfl,rfl,λ_ h=>h⟩
 |func f=>exact Pq
theorem CR.setv{ts:List V}{cts:Array Value}{w':World}{D':Nat->Prop}(h:CR C σ ts cts w D ρ F){r:V}{v':Value}(U:Below w.heap.size w w')(hr:Rel D' w' (Aq σ ρ w') r v' noF)
  (A:∀b,D b->D' b) (J:∀b,D' b->D b\/w.heap.size<=b) (hd3:∀b,D' b->b<w'.heap.size) (d:Nat):XX C σ (ts.set d r) (cts.setIfInBounds d v') w':=by
 have O:=h.wr.lt;have W:Bu σ w' D' ρ F:=by
  have B:=h.wr.below U;refine⟨λi hi=>Rel.mono A (λ_ _ h=>h) _ _ _ (λ_ _=>rfl) (B.rel i hi),B.disj,λi b u hD=>?_,hd3,B.out⟩
  rcases J b hD with h2|h2
  .exact B.dD i b u h2
  grind
 refine⟨D',ρ,F,W,by simp[h.sz],λt Y=>?_,h.fr.below U,h.Fn,λb u=>A b (h.D1 b u),λb u E=>?_,h.rt,h.ml⟩
 .simp at Y
  by_cases Z:d=t
  .subst Z
   have E:d<cts.size:=by rw[h.sz];exact Y
   simp_all
  .have B:=h.tm t Y
   simp only[gDE,List.getElem?_set_ne Z,Array.getD_eq_getD_getElem?,Array.getElem?_setIfInBounds_ne Z];rw[<-Array.getD_eq_getD_getElem?];refine Rel.mono A (λv cv hv=>Aq.same h.wr (λi b u=>U.block b (O i b u)) v cv hv) _ _ _ (λb u=>U.block b ?_) B
   rcases u with u|u
   .exact h.wr.Dlt b u
   .exact u.elim
 .rcases J b u with h2|h2
  .exact h.D2 b h2 E
  .have:=h.fr.size;omega
theorem CR.below{C:Ctx}{σ ts:List V}{cts:Array Value}{w w':World}{D:Nat->Prop}{ρ:Nat->Value}{F:Nat->Nat->Prop}(h:CR C σ ts cts w D ρ F)(u:Below w.heap.size w w'):XX C σ ts cts w':=
 ⟨D,ρ,F,h.wr.below u,h.sz,λt E=>Rel.mono (λ_ h=>h) (λv cv B=>Aq.same h.wr (λi b A=>u.block b (h.wr.lt i b A)) v cv B) _ _ _ (λb A=>u.block b (A.elim (h.wr.Dlt b) λh=>h.elim)) (h.tm t E),h.fr.below u,h.Fn,h.D1,h.D2,h.rt,h.ml⟩
def BW(a:Act)(d:Nat)(v:Value):(a.put (some d) v).tmps=a.tmps.setIfInBounds d v:=rfl
theorem Hl{P:Program}{C:Ctx}{h:Cy}{o:Oper}{K:Ms->Prop}{S:Ms}{a:Act}{w:World}{next:Act->World->Prop}{Q:Exit->Act->World->Prop}
  (J:vop P h o K S) (hs:AQ C h.n S a w) (hn:∀S' a' w',K S'->AQ C h.n S' a' w'->next a' w'):o.wp P a w next Q:=by
 obtain⟨hd,A,D,ρ,F,u⟩:=hs;unfold vop at J;split at J
 .rename_i t x v ho
  obtain⟨B,J⟩:=J;unfold Vp at J;split at J
  case h_2=>exact J.elim
  rename_i ag size zero id p i k hti hx;obtain⟨hpl,⟨hlen,hksz⟩,hput⟩:=J;obtain⟨d,ti,z,hdt,hit,hz,his,_⟩:=CX hti;simp only at his;have Z:=BE u A x;rw[hx]at Z;obtain⟨s,sz,n,f,b,o',cap,hid,ha,hi,hk,had,_,hns,_,_⟩:=Jn u.wr Z.1;have hrv:=BE u A v;obtain⟨⟨hcl,hcells⟩,_⟩:=Ch (λv cv h=>Aq.one h) hpl hrv
  have hcr2:CR C S.σ ((range h.n).map S.t++ .rp id p i k::cellsV (S.ev v)) (a.tmps.toList++ .pointer (some ⟨b,(o'+i*sz)+k,none⟩)::(a.eval v).cells.toList).toArray w D ρ F:=by
   have Y:a.tmps.size=h.n:=by simpa using u.sz
   refine⟨u.wr,by simp[Y,hcl],λj hj=>?_,u.fr,u.Fn,u.D1,u.D2,u.rt,u.ml⟩
   by_cases hjt:j<h.n
   .rw[AD (by simpa using hjt)]
    have h1:=u.tm j (by simpa using hjt)
    have e:(a.tmps.toList++ .pointer (some ⟨b,(o'+i*sz)+k,none⟩)::(a.eval v).cells.toList).toArray.getD j undef=a.tmps.getD j undef:=by
     simp[gAL,Y,hjt]
    rw[e];exact h1
   .obtain⟨l,rfl⟩:∃l,j=h.n+l:=⟨j-h.n,by omega⟩
    have e1:((range h.n).map S.t++ .rp id p i k::cellsV (S.ev v)).getD (h.n+l) .dead=(.rp id p i k::cellsV (S.ev v)).getD l .dead:=by
     simp[gAR]
    have e2:(a.tmps.toList++ .pointer (some ⟨b,(o'+i*sz)+k,none⟩)::(a.eval v).cells.toList).toArray.getD (h.n+l) undef=(.pointer (some ⟨b,(o'+i*sz)+k,none⟩)::(a.eval v).cells.toList).getD l undef:=by
     simp only[Array.getD_eq_getD_getElem?,List.getElem?_toArray,gDE];rw[gAR (by simp;omega)]
     simp[Y]
    rw[e1,e2];cases l with
    |zero=>rw[had]at Z;exact Z
    |succ l=>
     simp at hj;have:=hcells l (by omega)
     simpa using this
  obtain⟨w',σ',t',W,U,O,hcr3⟩:=Uw (P:=P) (size+1) (cellsV (S.ev v)) (a.eval v).cells.toList 0 S.σ S.t w ρ F hcr2 (by simpa using u.sz) A (by simpa using hcl) (by rw[hns]at hksz⊢;omega) hput
  have hsv:(storeVar t ⟨b,(o'+i*sz)+k,none⟩ (a.eval v)).run P w=.ok () w':=by
   have hne:¬ ((a.eval v).cells.size≠size):=by rw[hcl,hlen];simp
   simp only[storeVar,Sem.run_bind,sizeOf,typeInfo];simp[hit,his,W];rw[hcl,hlen]
  have hex:(execOp a.eval o).run P w=.ok .skip w':=by
   unfold execOp;rw[ho];simp[Instr.storeAt,had,Instr.sureAddr,hsv]
  unfold Oper.wp;rw[hex,Oper.upon_skip,B];exact hn ⟨t',σ'⟩ a w' U ⟨hd,O,hcr3⟩
 .rename_i t m k x ho
  obtain⟨B,J⟩:=J;unfold OB at J;split at J
  case h_2=>exact J.elim
  rename_i id p hm;obtain⟨kt,et,l,kv,xv,h1,h2,h3,h4,h5,h6,U⟩:=J;have hrm:=BE u A m;rw[hm]at hrm;obtain⟨⟨hid,l',b,hat,hcv⟩,_⟩:=hrm;have hl:l'=l:=by
   have:=At.sub hat;rw[h2]at this;cases this;rfl
  subst hl;rw[hcv]at hat;obtain⟨fp1,hr1,_⟩:=C9 (w':=w) p _ _ _ _ _ (u.wr.rel id hid) (λb E h'=>u.wr.dD id b h' E) hat
  obtain⟨b',e0,⟨es,c,E,hes⟩,_⟩:=hr1;cases e0;have hk:=Mk (BE u A k) h3;have hx:=Mk (BE u A x) h4;obtain⟨es',c',W,hes'⟩:=Mb (P:=P) (w:=w) (v:=xv) h1 E h5 (λe he=>h6 (e.key,e.val) (by rw[<-hes];exact List.mem_map.2 ⟨e,he,rfl⟩))
  rw[hes]at hes';obtain⟨F',hcr'⟩:=u.map_upd hid hat es' c';rw[hes']at hcr'
  have hex:(execOp a.eval o).run P w=.ok .skip {w with heap:=w.heap.setIfInBounds b (.map es' c')}:=by
   unfold execOp;rw[ho];simp[hcv,hk,hx,W]
  unfold Oper.wp;rw[hex,Oper.upon_skip,B];exact hn _ a _ U ⟨hd,A,D,ρ,F',hcr'⟩
 .rename_i hst
  obtain⟨r,U,hy⟩:=Ns (o:=o) u.ok u.wr (λx _=>⟨noF,BE u A x,λ_ h=>h.elim,λ_ _ _ h=>h⟩) J
  refine hy next Q λv' w' D' fp hB hr hf hd1 hd2 hd3=>?_
  have Y:a.tmps.size=h.n:=by simpa using u.sz
  unfold ResK Ms.res at U;have same:AQ C h.n S a w':=⟨hd,A,u.below hB⟩;cases B:(o.dst:Option Nat)with
  |none=>
   rw[B]at U;exact hn S a w' U same
  |some d=>
   rw[B]at U;simp only at U;split at U
   .rename_i hdn
    have O:∀v x,h.n<=x->AI S.t d v x=.dead:=λv x hx=>by
     have hne:¬x=d:=by omega
     unfold AI;rw[if_neg hne];exact A x hx
    split at U
    .refine hn _ _ w' U ⟨hd,O _,?_⟩
     rw[BW,<-Db hdn];refine u.setv hB (Rel.frz _ _ _ hr) (λb E=>.inl (hd1 b E)) (λb E=>?_) (λb E=>?_) d
     .rcases E with E|E
      .exact hd2 b E
      .exact .inr (hf b E)
     .rcases E with E|E
      .exact(hd3 b E).1
      .exact Rel.lt _ _ _ hr b E
    .refine hn _ _ w' U ⟨hd,O _,?_⟩
     rw[BW,<-Db hdn];exact u.res hB hr hf hd1 hd2 hd3 d
   .rename_i hdn
    have e:a.put (some d) v'=a:=by
     have:a.tmps.setIfInBounds d v'=a.tmps:=Array.setIfInBounds_eq_of_size_le (by omega)
     unfold Act.put;simp only[this]
    rw[e];exact hn S a w' U same
end Go.Ve


namespace Go.Ve
variable{a:Act}{ops:Array Oper}{C:Ctx}{S:Ms}{N j:Nat}{w:World}
def udV:V:=.many .tu 0 λk=>([]:List V).getD k .dead
def Ms.skip(S:Ms)(d:Option Nat):Ms:=
 match d with
 |some d=>⟨AI S.t d .dead,S.σ⟩
 |none=>S
def Rel.ud{D:Nat->Prop}{R:V->Value->Prop}:Rel D w R udV undef noF:=
 ⟨#[],λ_=>noF,rfl,rfl,λk u=>absurd u (Nat.not_lt_zero _),λ_ _ _ u=>absurd u (Nat.not_lt_zero _),λb=>⟨λh=>h.elim,fun⟨_,_,h⟩=>h⟩⟩
def gv(t:Nat->V)(ops:Array Oper)(j:Nat):V:=
 match(ops[j]?).bind (·.dst)with
 |some d=>t d
 |none=>.dead
theorem Xe(E:AQ C N S a w){b:Bool}(h:gv S.t ops j=.c (.bool b)):yielded ops a.tmps j=some b:=by
 obtain⟨_,J,D,ρ,F,A⟩:=E;unfold gv at h;split at h
 .rename_i d hd
  have u:d<N:=by
   grind
  have B:=A.tm d (by grind)
  rw[AY u,h]at B;have U:d<a.tmps.size:=by rw[A.sz];simpa using u
  have O:a.tmps[d]? =some (.bool b):=by
   have:=B.1
   simp_all
  unfold yielded
  grind
 grind
theorem Xf(O:AQ C N S a w)(h:gv S.t ops j=udV):yielded ops a.tmps j=none:=by
 obtain⟨_,E,D,ρ,F,B⟩:=O;unfold gv at h;split at h
 .rename_i d hd
  have u:d<N:=by
   rcases Nat.lt_or_ge d N with h'|h'
   .omega
   .rw[E d h']at h;cases h
  have J:=B.tm d (by grind)
  rw[AY u,h]at J;obtain⟨cs,_,A,_⟩:=J;have U:d<a.tmps.size:=by rw[B.sz];simpa using u
  have W:a.tmps[d]? =some (.tuple cs):=by
   simp[U]at A⊢;exact A
  unfold yielded
  grind
 trivial
theorem AQ.skipU(B:AQ C N S a w){d:Nat}(A:d<N):AQ C N ⟨AI S.t d udV,S.σ⟩ (a.put (some d) undef) w:=by
 obtain⟨hd,E,D,ρ,F,u⟩:=B;refine⟨hd,λx J=>?_,?_⟩
 .unfold AI
  grind
 .have:=u.setv (Below.refl _ _) Rel.ud (λ_ h=>h) (λ_ h=>.inl h) u.wr.Dlt d
  rw[Db A]at this;trivial
theorem AQ.skip{C:Ctx}{N:Nat}{S:Ms}{a:Act}{w:World}(E:AQ C N S a w)(d:Option Nat)(v:Value):AQ C N (S.skip d) (a.put d v) w:=by
 obtain⟨hd,B,D,ρ,F,u⟩:=E;cases d with
 |none=>exact⟨hd,B,D,ρ,F,u⟩
 |some d=>
  refine⟨hd,λx O=>?_,?_⟩
  .show AI S.t d .dead x=.dead
   unfold AI
   grind
  .have:=u.setv (r:=.dead) (Below.refl _ _) (D':=D) (show Rel D w _ .dead v noF from λ_ h=>h) (λ_ h=>h) (λ_ h=>.inl h) u.wr.Dlt d
   by_cases A:d<N
   .rw[Db A]at this;exact this
   .have e:(range N).map (AI S.t d .dead)=((range N).map S.t).set d .dead:=by
     apply List.ext_getElem?;intro i;by_cases J:i<N
     .have:d≠i:=by omega
      rw[List.getElem?_set_ne this];simp[J,AI,Ne.symm this]
     grind
    show XX C S.σ ((range N).map (AI S.t d .dead)) _ w;rw[e];exact this
theorem At.dead{w:World}{p:List (Nat×Nat)}{cv:Value}{s o:Bool}{sz n:Nat}{f:Nat->Nat->V}{u:Value}(h:At w p .dead cv (.nd s o sz n f) u):False:=by
 cases p with
 |nil=>exact absurd h.1 (by simp)
 |cons a p=>exact h
theorem UI{p:Nat->Prop}(h:∃n,p n):∃n,p n/\∀m,m<n->¬p m:=by
 obtain⟨n,A⟩:=h
 induction n using Nat.strongRecOn with
 |_ n u=>
  grind
end Go.Ve

