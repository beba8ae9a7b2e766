/- The small machine's steps. -/
import Derived.Test.YteakdlfnmhlifaaVn
open List(range)
set_option linter.all false
namespace Go.Ve
variable{a:Act}{C:Ctx}{l σ:List V}{ct:List Value}{S:Ms}{N i:Nat}{F:Nat->Nat->Prop}{D:Nat->Prop}{t:Nat->V}{ρ:Nat->Value}{w:World}
theorem CR.left{t:List V}{cl:List Value}(h:CR C σ (t++l) (ct++cl).toArray w D ρ F)(u:ct.length=t.length):CR C σ t ct.toArray w D ρ F:=by
 refine⟨h.wr,by omega,λj hj=>?_,h.fr,h.Fn,h.D1,h.D2,h.rt,h.ml⟩
 have A:=h.tm j (by grind)
 have e:(ct++cl).toArray.getD j undef=ct.toArray.getD j undef:=by simp[gAL,u,hj]
 grind
section
variable {P:Program}{C:Ctx}{D:Nat->Prop}
def VW{id:Nat}{p:List (Nat×Nat)}{i k0:Nat}{ct:List Value}{U u N:Nat}{K:List V->(Nat->V)->Prop}:
  ∀(m:Nat) (cs:List V) (e:List Value) (j:Nat) (σ:List V) (t:Nat->V) (w:World) (ρ:Nat->Value) (F:Nat->Nat->Prop),
  CR C σ ((range N).map t++ .rp id p i k0::cs) (ct++ .pointer (some ⟨U,u+k0,none⟩)::e).toArray w D ρ F->ct.length=N->(∀x,N<=x->t x=.dead)->e.length=cs.length->k0+j+cs.length<=AY σ id p->putL id p i m (k0+j) cs σ t K->
  ∃w' σ' Y,(storeCells ⟨U,u+k0,none⟩ e j).run P w=.ok () w'/\K σ' Y/\(∀x,N<=x->Y x=.dead)/\WK C σ' ((range N).map Y) ct.toArray w':=by
 intro m
 induction m with
 |zero=>intro cs e j σ t w ρ F _ _ _ _ _ h;exact h.elim
 |succ m ih=>
  intro cs e j σ t w ρ F O hl H A hsz h;cases cs with
  |nil=>
   cases e with
   |cons=>simp at A
   |nil=>exact⟨w,σ,t,rfl,h,H,D,ρ,F,O.left (by simpa using hl)⟩
  |cons c cs=>
   cases e with
   |nil=>simp at A
   |cons cx e=>
    simp only[List.length_cons]at hsz;obtain⟨G,σ1,b,off,ρ1,F1,⟨y,hy⟩,hfz,h1,⟨Z,B,hoff⟩,hGm,hK,hns,hcr1⟩:=IB O (by simpa using hl) (by omega) h
    rw[List.map_map]at hcr1;simp only[Value.pointer.injEq,Option.some.injEq,Addr.mk.injEq,and_true]at B;obtain⟨rfl,B⟩:=B;obtain rfl:u=Z:=by omega
    obtain⟨w2,W,t2,E,hK2,hd2,J⟩:=ih (cs.map G) e (j+1) σ1 (λi=>G (t i)) _ ρ1 F1 hcr1 hl (λx hx=>by rw[H x hx,hGm.dead]) (by simpa using A) (by rw[hns];simp;omega) (by rw[<-Nat.add_assoc];exact hK)
    refine⟨w2,W,t2,?_,hK2,hd2,J⟩;have ea:(⟨U,u+k0,none⟩:Addr).add j=⟨U,off,none⟩:=by rw[A3 rfl];simp;omega
    simp only[storeCells,Sem.run_bind,ea];rw[run_store P w _ cx .plain h1,hy];simp only[hfz,Bool.false_eq_true,if_false];exact E
end
def StK(K:Ms->Prop)(σ:List V)(t:Nat->V):Prop:=K ⟨t,σ⟩
def WU(e:Option TyI)(x v:V)(K:Ms->Prop)(S:Ms):Prop:=
 match e,x with
 |some ⟨_,size,_⟩,.rp id p i k=>Bv v=true/\((cellsV v).length=size/\k+size<=AY S.σ id p)/\putL id p i (size+1) k (cellsV v) S.σ S.t (StK K)
 |_,_=>False
def PI(P:Program)(t:TypeId)(A B u:V)(K:Ms->Prop)(S:Ms):Prop:=
 match A with
 |.rm id p=>∃kt et l k x,WI P t=some (kt,et)/\sub p (S.σ.getD id .dead)=.mp true l/\Abx B=some k/\Abx u=some x/\Zu P kt k=true/\(∀e∈l,BI P kt k e.1=true)/\
   K ⟨S.t,S.σ.set id (upd p (S.σ.getD id .dead) (.mp true (Abd k x l)))⟩
 |_=>False
def vop(P:Program)(h:Cd)(o:Oper)(K:Ms->Prop)(S:Ms):Prop:=
 match o.op with
 |.store t x v=>o.dst=none/\WU (tyI P t) (S.ev x) (S.ev v) K S
 |.mapUpdate t m k x=>o.dst=none/\PI P t (S.ev m) (S.ev k) (S.ev x) K S
 |op=>qop P S.σ S.ev op (ResK h o.dst S K)
def AN(C:Ctx)(N:Nat)(S:Ms)(a:Act)(w:World):Prop:=a.defers=[]/\(∀x,N<=x->S.t x=.dead)/\WK C S.σ ((range N).map S.t) a.tmps w
theorem AP{x:Nat}(h:x<N):((range N).map t).getD x .dead=t x:=by grind
theorem Co{d:Nat}{v:V}(h:d<N):((range N).map t).set d v=(range N).map (AD t d v):=by
 apply List.ext_getElem?;intro i;by_cases hi:i<N
 .by_cases e:d=i
  .subst e;simp[hi,AD]
  .rw[List.getElem?_set_ne e];simp[hi,AD,Ne.symm e]
 grind
theorem IS{R:V->Value->Prop}(v:Value):Rel D w R (L9 v) v noF:=by
 unfold L9;split
 .rename_i cs
  split
  .rename_i h
   refine⟨cs,λ_=>noF,rfl,by simp,λk u=>?_,λ_ _ _ _ _ _ h=>h.elim,λb=>⟨λh=>h.elim,fun⟨_,_,h⟩=>h⟩⟩
   simp at u;have e:(cs.toList.map V.c).getD k .dead=.c (cs.getD k undef):=by simp_all
   show Rel D w R ((cs.toList.map V.c).getD k .dead) _ _;rw[e];refine⟨rfl,aET.1 h _ ?_,λ_ h=>h⟩
   grind
  .exact λ_ h=>h
 .split
  .exact⟨rfl,by grind,λ_ h=>h⟩
  .exact λ_ h=>h
theorem IM(h:l.length<=i):l.getD i .dead=.dead:=by grind
theorem Bq(h:CR C S.σ ((range N).map S.t) a.tmps w D ρ F)(hd:∀x,N<=x->S.t x=.dead)(x:Operand):Rel D w (Ai S.σ ρ w) (S.ev x) (a.eval x) noF:=by
 cases x with
 |tmp t=>
  by_cases e:t<N
  .have:=h.tm t (by grind)
   rw[AP e]at this
   trivial
  .show Rel D w _ (S.t t) _ noF
   rw[hd t (Nat.le_of_not_lt e)];exact λ_ h=>h
 |const v=>exact IS v
 |global g=>exact⟨rfl,rfl,λ_ h=>h⟩
 |func f=>exact QE
theorem CR.setv{ts:List V}{cts:Array Value}{w':World}{D':Nat->Prop}(h:CR C σ ts cts w D ρ F){r:V}{v':Value}(J:Below w.heap.size w w')(hr:Rel D' w' (Ai σ ρ w') r v' noF)
  (u:∀b,D b->D' b) (E:∀b,D' b->D b\/w.heap.size<=b) (Y:∀b,D' b->b<w'.heap.size) (d:Nat):WK C σ (ts.set d r) (cts.setIfInBounds d v') w':=by
 have H:=h.wr.lt;have O:Bg σ w' D' ρ F:=by
  have A:=h.wr.below J;refine⟨λi hi=>Rel.mono u (λ_ _ h=>h) _ _ _ (λ_ _=>rfl) (A.rel i hi),A.disj,λi b e hD=>?_,Y,A.out⟩
  rcases E b hD with h2|h2
  .exact A.dD i b e h2
  grind
 refine⟨D',ρ,F,O,by simp[h.sz],λt U=>?_,h.fr.below J,h.Fn,λb e=>u b (h.D1 b e),λb e B=>?_,h.rt,h.ml⟩
 .simp at U
  by_cases W:d=t
  .subst W
   have B:d<cts.size:=by rw[h.sz];exact U
   simp_all
  .have A:=h.tm t U
   simp only[gDE,List.getElem?_set_ne W,Array.getD_eq_getD_getElem?,Array.getElem?_setIfInBounds_ne W];rw[<-Array.getD_eq_getD_getElem?];refine Rel.mono u (λv cv Z=>Ai.same h.wr (λi b e=>J.block b (H i b e)) v cv Z) _ _ _ (λb e=>J.block b ?_) A
   rcases e with e|e
   .exact h.wr.Dlt b e
   .exact e.elim
 .rcases E b e with h2|h2
  .exact h.D2 b h2 B
  .have:=h.fr.size;omega
theorem CR.below{C:Ctx}{σ ts:List V}{cts:Array Value}{w w':World}{D:Nat->Prop}{ρ:Nat->Value}{F:Nat->Nat->Prop}(h:CR C σ ts cts w D ρ F)(e:Below w.heap.size w w'):WK C σ ts cts w':=
 ⟨D,ρ,F,h.wr.below e,h.sz,λt B=>Rel.mono (λ_ h=>h) (λv cv A=>Ai.same h.wr (λi b u=>e.block b (h.wr.lt i b u)) v cv A) _ _ _ (λb u=>e.block b (u.elim (h.wr.Dlt b) λh=>h.elim)) (h.tm t B),h.fr.below e,h.Fn,h.D1,h.D2,h.rt,h.ml⟩
def BL(a:Act)(d:Nat)(v:Value):(a.put (some d) v).tmps=a.tmps.setIfInBounds d v:=rfl
theorem HK{P:Program}{C:Ctx}{h:Cd}{o:Oper}{K:Ms->Prop}{S:Ms}{a:Act}{w:World}{next:Act->World->Prop}{Q:Exit->Act->World->Prop}
  (H:vop P h o K S) (hs:AN C h.n S a w) (hn:∀S' a' w',K S'->AN C h.n S' a' w'->next a' w'):o.wp P a w next Q:=by
 obtain⟨hd,A,D,ρ,F,u⟩:=hs;unfold vop at H;split at H
 .rename_i t x v ho
  obtain⟨B,H⟩:=H;unfold WU at H;split at H
  case h_2=>exact H.elim
  rename_i ag size zero id p i k hti hx;obtain⟨hpl,⟨hlen,hksz⟩,hput⟩:=H;obtain⟨d,ti,z,hdt,hit,hz,his,_⟩:=CZ hti;simp only at his;have Y:=Bq u A x;rw[hx]at Y;obtain⟨s,sz,n,f,b,o',cap,hid,ha,hi,hk,had,_,hns,_,_⟩:=JZ u.wr Y.1;have hrv:=Bq u A v;obtain⟨⟨Z,hcells⟩,_⟩:=Cc (λv cv h=>Ai.one h) hpl hrv
  have hcr2:CR C S.σ ((range h.n).map S.t++ .rp id p i k::cellsV (S.ev v)) (a.tmps.toList++ .pointer (some ⟨b,(o'+i*sz)+k,none⟩)::(a.eval v).cells.toList).toArray w D ρ F:=by
   have W:a.tmps.size=h.n:=by simpa using u.sz
   refine⟨u.wr,by simp[W,Z],λj hj=>?_,u.fr,u.Fn,u.D1,u.D2,u.rt,u.ml⟩
   by_cases hjt:j<h.n
   .rw[AB (by simpa using hjt)]
    have h1:=u.tm j (by simpa using hjt)
    have e:(a.tmps.toList++ .pointer (some ⟨b,(o'+i*sz)+k,none⟩)::(a.eval v).cells.toList).toArray.getD j undef=a.tmps.getD j undef:=by
     simp[gAL,W,hjt]
    rw[e];exact h1
   .obtain⟨l,rfl⟩:∃l,j=h.n+l:=⟨j-h.n,by omega⟩
    have e1:((range h.n).map S.t++ .rp id p i k::cellsV (S.ev v)).getD (h.n+l) .dead=(.rp id p i k::cellsV (S.ev v)).getD l .dead:=by
     simp[gAR]
    have e2:(a.tmps.toList++ .pointer (some ⟨b,(o'+i*sz)+k,none⟩)::(a.eval v).cells.toList).toArray.getD (h.n+l) undef=(.pointer (some ⟨b,(o'+i*sz)+k,none⟩)::(a.eval v).cells.toList).getD l undef:=by
     simp only[Array.getD_eq_getD_getElem?,List.getElem?_toArray,gDE];rw[gAR (by simp;omega)]
     simp[W]
    rw[e1,e2];cases l with
    |zero=>rw[had]at Y;exact Y
    |succ l=>
     simp at hj;have:=hcells l (by omega)
     simpa using this
  obtain⟨w',σ',t',U,O,J,hcr3⟩:=VW (P:=P) (size+1) (cellsV (S.ev v)) (a.eval v).cells.toList 0 S.σ S.t w ρ F hcr2 (by simpa using u.sz) A (by simpa using Z) (by rw[hns]at hksz⊢;omega) hput
  have hsv:(storeVar t ⟨b,(o'+i*sz)+k,none⟩ (a.eval v)).run P w=.ok () w':=by
   have hne:¬ ((a.eval v).cells.size≠size):=by rw[Z,hlen];simp
   simp only[storeVar,Sem.run_bind,sizeOf,typeInfo];simp[hit,his,U];rw[Z,hlen]
  have hex:(execOp a.eval o).run P w=.ok .skip w':=by
   unfold execOp;rw[ho];simp[Instr.storeAt,had,Instr.sureAddr,hsv]
  unfold Oper.wp;rw[hex,Oper.upon_skip,B];exact hn ⟨t',σ'⟩ a w' O ⟨hd,J,hcr3⟩
 .rename_i t m k x ho
  obtain⟨B,H⟩:=H;unfold PI at H;split at H
  case h_2=>exact H.elim
  rename_i id p hm;obtain⟨kt,et,l,kv,xv,h1,h2,h3,h4,h5,h6,O⟩:=H;have hrm:=Bq u A m;rw[hm]at hrm;obtain⟨⟨hid,l',b,hat,hcv⟩,_⟩:=hrm;have hl:l'=l:=by
   have:=At.sub hat;rw[h2]at this;cases this;rfl
  subst hl;rw[hcv]at hat;obtain⟨fp1,hr1,_⟩:=Dg (w':=w) p _ _ _ _ _ (u.wr.rel id hid) (λb E h'=>u.wr.dD id b h' E) hat
  obtain⟨b',e0,⟨es,c,E,hes⟩,_⟩:=hr1;cases e0;have hk:=Nj (Bq u A k) h3;have hx:=Nj (Bq u A x) h4;obtain⟨es',c',U,hes'⟩:=M8 (P:=P) (w:=w) (v:=xv) h1 E h5 (λe he=>h6 (e.key,e.val) (by rw[<-hes];exact List.mem_map.2 ⟨e,he,rfl⟩))
  rw[hes]at hes';obtain⟨F',hcr'⟩:=u.map_upd hid hat es' c';rw[hes']at hcr'
  have hex:(execOp a.eval o).run P w=.ok .skip {w with heap:=w.heap.setIfInBounds b (.map es' c')}:=by
   unfold execOp;rw[ho];simp[hcv,hk,hx,U]
  unfold Oper.wp;rw[hex,Oper.upon_skip,B];exact hn _ a _ O ⟨hd,A,D,ρ,F',hcr'⟩
 .rename_i hst
  obtain⟨r,O,hy⟩:=On (o:=o) u.ok u.wr (λx _=>⟨noF,Bq u A x,λ_ h=>h.elim,λ_ _ _ h=>h⟩) H
  refine hy next Q λv' w' D' fp hB hr hf hd1 hd2 hd3=>?_
  have W:a.tmps.size=h.n:=by simpa using u.sz
  unfold ResK Ms.res at O;have same:AN C h.n S a w':=⟨hd,A,u.below hB⟩;cases B:(o.dst:Option Nat)with
  |none=>
   rw[B]at O;exact hn S a w' O same
  |some d=>
   rw[B]at O;simp only at O;split at O
   .rename_i hdn
    have J:∀v x,h.n<=x->AD S.t d v x=.dead:=λv x hx=>by
     have hne:¬x=d:=by omega
     unfold AD;rw[if_neg hne];exact A x hx
    split at O
    .refine hn _ _ w' O ⟨hd,J _,?_⟩
     rw[BL,<-Co hdn];refine u.setv hB (Rel.frz _ _ _ hr) (λb E=>.inl (hd1 b E)) (λb E=>?_) (λb E=>?_) d
     .rcases E with E|E
      .exact hd2 b E
      .exact .inr (hf b E)
     .rcases E with E|E
      .exact(hd3 b E).1
      .exact Rel.lt _ _ _ hr b E
    .refine hn _ _ w' O ⟨hd,J _,?_⟩
     rw[BL,<-Co hdn];exact u.res hB hr hf hd1 hd2 hd3 d
   .rename_i hdn
    have e:a.put (some d) v'=a:=by
     have:a.tmps.setIfInBounds d v'=a.tmps:=Array.setIfInBounds_eq_of_size_le (by omega)
     unfold Act.put;simp only[this]
    rw[e];exact hn S a w' O same
end Go.Ve


namespace Go.Ve
variable{a:Act}{ops:Array Oper}{C:Ctx}{S:Ms}{N j:Nat}{w:World}
def udV:V:=.many .tu 0 λk=>([]:List V).getD k .dead
def Ms.skip(S:Ms)(d:Option Nat):Ms:=
 match d with
 |some d=>⟨AD S.t d .dead,S.σ⟩
 |none=>S
def Rel.ud{D:Nat->Prop}{R:V->Value->Prop}:Rel D w R udV undef noF:=
 ⟨#[],λ_=>noF,rfl,rfl,λk e=>absurd e (Nat.not_lt_zero _),λ_ _ _ e=>absurd e (Nat.not_lt_zero _),λb=>⟨λh=>h.elim,fun⟨_,_,h⟩=>h⟩⟩
def gv(t:Nat->V)(ops:Array Oper)(j:Nat):V:=
 match(ops[j]?).bind (·.dst)with
 |some d=>t d
 |none=>.dead
theorem Adg(B:AN C N S a w){b:Bool}(h:gv S.t ops j=.c (.bool b)):yielded ops a.tmps j=some b:=by
 obtain⟨_,E,D,ρ,F,u⟩:=B;unfold gv at h;split at h
 .rename_i d hd
  have e:d<N:=by
   grind
  have A:=u.tm d (by grind)
  rw[AP e,h]at A;have J:d<a.tmps.size:=by rw[u.sz];simpa using e
  have H:a.tmps[d]? =some (.bool b):=by
   have:=A.1
   simp_all
  unfold yielded
  grind
 grind
theorem Adh(H:AN C N S a w)(h:gv S.t ops j=udV):yielded ops a.tmps j=none:=by
 obtain⟨_,B,D,ρ,F,A⟩:=H;unfold gv at h;split at h
 .rename_i d hd
  have e:d<N:=by
   rcases Nat.lt_or_ge d N with h'|h'
   .omega
   .rw[B d h']at h;cases h
  have E:=A.tm d (by grind)
  rw[AP e,h]at E;obtain⟨cs,_,u,_⟩:=E;have J:d<a.tmps.size:=by rw[A.sz];simpa using e
  have O:a.tmps[d]? =some (.tuple cs):=by
   simp[J]at u⊢;exact u
  unfold yielded
  grind
 trivial
theorem AN.skipU(A:AN C N S a w){d:Nat}(u:d<N):AN C N ⟨AD S.t d udV,S.σ⟩ (a.put (some d) undef) w:=by
 obtain⟨hd,B,D,ρ,F,e⟩:=A;refine⟨hd,λx E=>?_,?_⟩
 .unfold AD
  grind
 .have:=e.setv (Below.refl _ _) Rel.ud (λ_ h=>h) (λ_ h=>.inl h) e.wr.Dlt d
  rw[Co u]at this;trivial
theorem AN.skip{C:Ctx}{N:Nat}{S:Ms}{a:Act}{w:World}(E:AN C N S a w)(d:Option Nat)(v:Value):AN C N (S.skip d) (a.put d v) w:=by
 obtain⟨hd,B,D,ρ,F,u⟩:=E;cases d with
 |none=>exact⟨hd,B,D,ρ,F,u⟩
 |some d=>
  refine⟨hd,λx H=>?_,?_⟩
  .show AD S.t d .dead x=.dead
   unfold AD
   grind
  .have:=u.setv (r:=.dead) (Below.refl _ _) (D':=D) (show Rel D w _ .dead v noF from λ_ h=>h) (λ_ h=>h) (λ_ h=>.inl h) u.wr.Dlt d
   by_cases A:d<N
   .rw[Co A]at this;exact this
   .have e:(range N).map (AD S.t d .dead)=((range N).map S.t).set d .dead:=by
     apply List.ext_getElem?;intro i;by_cases hi:i<N
     .have:d≠i:=by omega
      rw[List.getElem?_set_ne this];simp[hi,AD,Ne.symm this]
     grind
    show WK C S.σ ((range N).map (AD S.t d .dead)) _ w;rw[e];exact this
theorem At.dead{w:World}{p:List (Nat×Nat)}{cv:Value}{s o:Bool}{sz n:Nat}{f:Nat->Nat->V}{e:Value}(h:At w p .dead cv (.nd s o sz n f) e):False:=by
 cases p with
 |nil=>exact absurd h.1 (by simp)
 |cons a p=>exact h
theorem Wd{p:Nat->Prop}(h:∃n,p n):∃n,p n/\∀m,m<n->¬p m:=by
 obtain⟨n,u⟩:=h
 induction n using Nat.strongRecOn with
 |_ n e=>
  grind
end Go.Ve

