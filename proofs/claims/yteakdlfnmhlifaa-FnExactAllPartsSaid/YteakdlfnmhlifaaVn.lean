/- The small machine's steps: an operation, by its kind. -/
import Derived.Test.YteakdlfnmhlifaaVm
set_option linter.all false
namespace Go.Ve
def L9(v:Value):V:=
 match v with
 |.agg cs=>if cs.toList.all (·.oneCell')=true then Ag (cs.toList.map .c)else .dead
 |v=>if v.oneCell'=true then .c v else .dead
structure Ms where
 t:Nat->V
 σ:List V
def fnV(f:Nat):V:=bif Nat.blt f 1000000 then .many (.cl f) 0 (λ_=>.dead)else .c (.func (.func f) #[] #[])
def QE{D:Nat->Prop}{w:World}{R:V->Value->Prop}{f:Nat}:Rel D w R (fnV f) (.func (.func f) #[] #[]) noF:=by
 unfold fnV;cases h:Nat.blt f 1000000 with
 |true=>exact⟨#[],λ_=>noF,(Pq h).symm,rfl,λk e=>by omega,λ_ _ _ _ _ _ h=>h.elim,λb=>⟨λh=>h.elim,fun⟨_,_,h⟩=>h⟩⟩
 |false=>exact⟨rfl,rfl,λ_ h=>h⟩
def Ms.ev(S:Ms):Operand->V
 |.tmp t=>S.t t
 |.const v=>L9 v
 |.global g=>.c (.pointer (some ⟨g,0,none⟩))
 |.func f=>fnV f
def AD(t:Nat->V)(d:Nat)(v:V):Nat->V:=λi=>if i=d then v else t i
structure Cd where
 n:Nat
 fz:List Nat
 keep:Nat
def Ms.res(S:Ms)(h:Cd)(d:Option Nat)(r:V):Ms:=
 match d with
 |some d=>if d<h.n then(if h.fz.contains d then⟨AD S.t d (frz r),S.σ⟩else⟨AD S.t d (prom r S.σ.length).1,S.σ++(prom r S.σ.length).2⟩)else S
 |none=>S
def ResK(h:Cd)(d:Option Nat)(S:Ms)(K:Ms->Prop)(r:V):Prop:=K (S.res h d r)
def Ac4(l:LenI)(v:V):Bool:=
 match l,v with
 |.string,.c (.string _)=>true
 |.slice,.c (.string _)=>false
 |.slice,_=>true
 |_,_=>false
def DT(b:Builtin)(x y:V)(K:V->Prop):Prop:=
 match b,x,y with
 |.min,.c (.int k x),.c (.int _ y)=>K (.c (.int k (if y<x then y else x)))
 |.max,.c (.int k x),.c (.int _ y)=>K (.c (.int k (if x<y then y else x)))
 |_,_,_=>False
def MV(P:Program)(σ:List V)(b:Builtin)(args:List V)(e:List TypeId)(K:V->Prop):Prop:=
 match b,args,e with
 |.len,[x],[t]=>(Ac4 (NP P t) x=true/\qLen x K)\/((∃q,WI P t=some q)/\qLenM σ x K)
 |.min,[x,y],_=>DT .min x y K
 |.max,[x,y],_=>DT .max x y K
 |_,_,_=>False
def Oq(P:Program)(σ:List V)(ev:Operand->V)(op:Op)(K:V->Prop):Prop:=
 match op with
 |.move x=>XX (ev x) K
 |.assign x=>XX (ev x) K
 |.pick c x y=>XW (ev c) (ev x) (ev y) K
 |.load t x=>Iz (tyI P t) σ (ev x) K
 |.fieldAddr t x k=>J6 (Wm P t k) σ (ev x) K
 |.indexAddr t x i=>B5 (slI P t) σ (ev x) (ev i) K
 |.index t x i=>(slK P t=.string/\Uv (ev x) (ev i) K)\/(0<arI P t/\MU (arI P t) (ev x) (ev i) K)
 |.nilCheck x=>AcD (ev x) K
 |.binOp op t x y _=>VV P op t x y (ev x) (ev y) K
 |.unOp op _ x=>qUn op (ev x) K
 |.convert s d x=>Oz P σ s d (ev x) K
 |.extract x i=>Cz (ev x) i K
 |.build t ps=>LC (AbT P t) (ps.toList.map λp=>(p.1,ev p.2)) K
 |.buildSlice t n ps=>B6 (slI P t) (Acz P t) n (ps.toList.map λp=>(p.1,ev p.2)) K
 |.alloc t=>OG (tyI P t) K
 |.box _ x=>qBox (ev x) K
 |.makeSlice t l c=>XY (slI P t) (Acz P t) (ev l) (ev c) K
 |.slice t x u hi e=>e=none/\Lz (slK P t) σ (ev x) (u.map ev) (hi.map ev) K
 |.call c=>match c.callee with
  |.value (.func f)=>Call P f ((c.args.toList.map ev).any AL) ((c.args.toList.map ev).map (BQ σ)) K
  |.value (.tmp y)=>OB P σ (ev (.tmp y)) (c.args.toList.map ev) K
  |.builtin b=>MV P σ b (c.args.toList.map ev) c.argTypes.toList K
  |.invoke y name=>OD P σ (ev y) name (c.args.toList.map ev) K
  |_=>False
 |.makeFunc fn first cs=>match fn,first.toList with
  |.func g,[]=>qMkF g (cs.toList.map ev) K
  |_,_=>False
 |.makeInterface t x=>qMkI P t (ev x) K
 |.makeMap _ n=>Uu n K
 |.lookup t x i co=>XZ P σ t (ev x) (ev i) co K
 |_=>False
section
variable {P:Program}{o:Oper}{a:Act}{w:World}{σ:List V}{D:Nat->Prop}{ρ:Nat->Value}{F:Nat->Nat->Prop}{K:V->Prop}
theorem Acr{t:TypeId}(h:slK P t=.string):P.underlying t=some .string:=by
 unfold slK at h;grind
theorem Aaq{α:Type}{xs:Array α}{x:α}(h:xs.toList=[x]):xs= #[x]:=by grind
def HX(wr:Bg σ w D ρ F){b:Builtin}{x y:Operand}{E B:V}{A:Array TypeId}(H:o.op=.call {callee:=.builtin b,args:=#[x,y],argTypes:=A})(u:OpR σ w D ρ F E (a.eval x))(e:OpR σ w D ρ F B (a.eval y))(h:DT b E B K):∃r,K r/\Ar P o a w σ D ρ r:=by
 obtain⟨_,u,_⟩:=u;obtain⟨_,e,_⟩:=e;unfold DT at h;split at h
 .refine⟨_,h,Ar.pure wr ?_ ⟨rfl,rfl,λ_ h=>h⟩⟩
  unfold execOp;rw[H];simp[resolve,invoke,builtin,Builtin.min_,Builtin.min2,u.1,e.1]
 .refine⟨_,h,Ar.pure wr ?_ ⟨rfl,rfl,λ_ h=>h⟩⟩
  unfold execOp;rw[H];simp[resolve,invoke,builtin,Builtin.max_,Builtin.max2,u.1,e.1]
 .exact h.elim
def VN(hk:Wok w)(wr:Bg σ w D ρ F){ev:Operand->V}(B:∀x∈o.op.operands,OpR σ w D ρ F (ev x) (a.eval x))(h:Oq P σ ev o.op K):∃r,K r/\Ar P o a w σ D ρ r:=by
 have J:∀(ps:Array (Nat×Operand)),(∀x∈(ps.toList.map (·.2)).toArray,OpR σ w D ρ F (ev x) (a.eval x))->Mr σ w D ρ F (ps.toList.map λp=>(p.1,ev p.2)) (ps.toList.map λp=>(p.1,a.eval p.2)):=by
  intro ps hp;refine⟨by simp,λj i v hj=>?_⟩
  simp only[List.getElem?_map]at hj⊢;cases Y:ps.toList[j]? with
  |none=>simp[Y]at hj
  |some q=>
   simp only[Y,Option.map_some,Option.some.injEq,Prod.mk.injEq]at hj⊢;obtain⟨rfl,rfl⟩:=hj
   exact⟨_,⟨rfl,rfl⟩,hp q.2 (by
    simp only[List.mem_toArray,List.mem_map];exact⟨q,List.mem_of_getElem? Y,rfl⟩)⟩
 have opt:∀(O:Option Operand),(∀x∈O.toArray,OpR σ w D ρ F (ev x) (a.eval x))->OptR σ w D ρ F (O.map ev) (O.map a.eval):=by
  intro O H;cases O with
  |none=>trivial
  |some x=>exact H x (by simp)
 unfold Oq at h;split at h
 case h_1 x u=>exact J5 wr (.inl u) (B x (by simp[u,Op.operands])) h
 case h_2 x u=>exact J5 wr (.inr u) (B x (by simp[u,Op.operands])) h
 case h_3 c x y u=>exact Qb wr u (B c (by simp[u,Op.operands])) (B x (by simp[u,Op.operands])) (B y (by simp[u,Op.operands])) h
 case h_4 t x u=>exact Qd wr u (B x (by simp[u,Op.operands])) h
 case h_5 t x k u=>exact Ow wr u (B x (by simp[u,Op.operands])) h
 case h_6 t x i u=>exact Jl wr u (B x (by simp[u,Op.operands])) (B i (by simp[u,Op.operands])) h
 case h_7 t x i u=>
  rcases h with h|h
  .exact Ov wr (Acr h.1) u (B x (by simp[u,Op.operands])) (B i (by simp[u,Op.operands])) h.2
  .exact MT wr h.1 u (B x (by simp[u,Op.operands])) (B i (by simp[u,Op.operands])) h.2
 case h_8 x u=>exact VO wr u (B x (by simp[u,Op.operands])) h
 case h_9 op t x y yt u=>exact VU wr u (B x (by simp[u,Op.operands])) (B y (by simp[u,Op.operands])) h
 case h_10 op t x u=>exact XV wr u (B x (by simp[u,Op.operands])) h
 case h_11 s d x u=>exact Oy wr u (B x (by simp[u,Op.operands])) h
 case h_12 x i u=>exact La wr u (B x (by simp[u,Op.operands])) h
 case h_13 t ps u=>exact OE wr u (J ps λx E=>B x (by rw[u];exact E)) h
 case h_14 t n ps u=>exact IA wr u (J ps λx E=>B x (by rw[u];exact E)) h
 case h_15 t u=>exact OF wr u h
 case h_16 t x u=>exact VT wr u (B x (by simp[u,Op.operands])) h
 case h_17 t l c u=>exact Qc wr u (B l (by simp[u,Op.operands])) (B c (by simp[u,Op.operands])) h
 case h_18 t x O hi mx u=>
  obtain⟨rfl,h⟩:=h;exact Ot wr u (B x (by simp[u,Op.operands])) (opt O λy hy=>B y (by rw[u];simp only[Op.operands,Array.mem_append];exact .inl (.inl (.inr hy)))) (opt hi λy hy=>B y (by rw[u];simp only[Op.operands,Array.mem_append];exact .inl (.inr hy))) h
 case h_19 c u=>
  obtain⟨callee,args,ats⟩:=c;simp only at h;split at h
  .refine WD hk wr u ⟨by simp,λj hj=>?_⟩ h
   simp at hj;have:=B args[j] (by rw[u];simp[Op.operands,Call.operands])
   simpa [hj]using this
  .refine OA hk wr u (B _ (by rw[u];simp[Op.operands,Call.operands])) ⟨by simp,λj hj=>?_⟩ h
   simp at hj;have:=B args[j] (by rw[u];simp[Op.operands,Call.operands])
   simpa [hj]using this
  .unfold MV at h
   have U:∀x∈args.toList,OpR σ w D ρ F (ev x) (a.eval x):=λx E=>B x (by rw[u];simp[Op.operands,Call.operands];simpa using E)
   split at h
   .rename_i W t A Z
    obtain⟨x,E,rfl⟩:∃x,args.toList=[x]/\ev x=W:=by
     cases H:args.toList with
     |nil=>simp[H]at A
     |cons x l=>cases l with
      |nil=>simp[H]at A;exact⟨x,rfl,A⟩
      |cons=>simp[H]at A
    rw[Aaq E,Aaq Z]at u;rcases h with⟨H,h⟩|⟨⟨q,Y⟩,h⟩
    case inr=>exact Qe (kt:=q.1) (et:=q.2) wr Y u (U x (by simp[E])) h
    refine VR wr ?_ u (U x (by simp[E])) h
    unfold Ac4 at H;split at H
    .rename_i s h1 h2;exact .inl ⟨h1,s,h2⟩
    .cases H
    .rename_i h1 h2;exact .inr ⟨h1,fun⟨s,hs⟩=>h2 s hs⟩
    .cases H
   .rename_i W vy A
    obtain⟨x,y,E,rfl,rfl⟩:∃x y,args.toList=[x,y]/\ev x=W/\ev y=vy:=by
     match H:args.toList,A with
     |[x,y],A=>simp at A;exact⟨x,y,rfl,A⟩
     |[],A=>simp at A
     |[_],A=>simp at A
     |_::_::_::_,A=>simp at A
    have e:args= #[x,y]:=by cases args;simp at E;simp[E]
    rw[e]at u;exact HX wr u (U x (by simp[E])) (U y (by simp[E])) h
   .rename_i W vy A
    obtain⟨x,y,E,rfl,rfl⟩:∃x y,args.toList=[x,y]/\ev x=W/\ev y=vy:=by
     match H:args.toList,A with
     |[x,y],A=>simp at A;exact⟨x,y,rfl,A⟩
     |[],A=>simp at A
     |[_],A=>simp at A
     |_::_::_::_,A=>simp at A
    have e:args= #[x,y]:=by cases args;simp at E;simp[E]
    rw[e]at u;exact HX wr u (U x (by simp[E])) (U y (by simp[E])) h
   .exact h.elim
  .refine OC hk wr u (B _ (by rw[u];simp[Op.operands,Call.operands])) ⟨by simp,λj hj=>?_⟩ h
   simp at hj;have:=B args[j] (by rw[u];simp[Op.operands,Call.operands])
   simpa [hj]using this
  .exact h.elim
 case h_20 fn first cs u=>
  split at h
  case h_2=>exact h.elim
  rename_i g hf;have hf:first= #[]:=by cases first;simp at hf;simp[hf]
  subst hf;refine VQ wr u ⟨by simp,λj hj=>?_⟩ h
  simp at hj;have:=B cs[j] (by rw[u];simp[Op.operands])
  simpa [hj]using this
 case h_21 t x u=>exact VP wr u (B x (by simp[u,Op.operands])) h
 case h_22 t n u=>exact K9 wr u h
 case h_23 t x i co u=>exact MS wr u (B x (by simp[u,Op.operands])) (B i (by simp[u,Op.operands])) h
 all_goals exact h.elim
def Ar.sub{r r':V}(E:Sub r r')(B:Ar P o a w σ D ρ r):Ar P o a w σ D ρ r':=
 λnext Q J=>B next Q λv' w' D' fp U H O A u e=>J v' w' D' fp U (Rel.sub E H) O A u e
def qop(P:Program)(σ:List V)(ev:Operand->V)(op:Op)(K:V->Prop):Prop:=Oq P σ ev op λr0=>∃r,Sub r0 r/\K r
def On(u:Wok w)(wr:Bg σ w D ρ F){ev:Operand->V}(A:∀x∈o.op.operands,OpR σ w D ρ F (ev x) (a.eval x))(h:qop P σ ev o.op K):∃r,K r/\Ar P o a w σ D ρ r:=by
 obtain⟨r0,⟨r,e,B⟩,hy⟩:=VN u wr A h;exact⟨r,B,hy.sub e⟩
end
end Go.Ve


namespace Go.Ve
def isN:V->Bool
 |.nd _ own _ _ _=>own
 |.mp own _=>own
 |_=>false
def MX(id:Nat)(p:List (Nat×Nat))(i k:Nat)(c:V)(cs σ:List V)(K:List V->List V->(V->V)->Prop):Prop:=
 match c with
 |.c y=>match isN (Cs σ id p i k)with
  |true=>K (cs.map (AI id (p++[(i,k)]))) (σ.set id (upd (p++[(i,k)]) (σ.getD id .dead) (.c y))) (AI id (p++[(i,k)]))
  |false=>K cs (σ.set id (upd (p++[(i,k)]) (σ.getD id .dead) (.c y))) (λv=>v)
 |.nd s false sz n f=>K (cs.map (AI id (p++[(i,k)]))) (σ.set id (upd (p++[(i,k)]) (σ.getD id .dead) (.nd s false sz n f))) (AI id (p++[(i,k)]))
 |.mp false l=>K (cs.map (AI id (p++[(i,k)]))) (σ.set id (upd (p++[(i,k)]) (σ.getD id .dead) (.mp false l))) (AI id (p++[(i,k)]))
 |.rs j q off len=>match sub q (σ.getD j .dead)with
  |.nd true true sz n f=>if j=id/\q=p++[(i,k)]then K (cs.map (AI id (p++[(i,k)]))) (σ.set id (upd (p++[(i,k)]) (σ.getD id .dead) (.nd true true sz len λa b=>f (a+off) b))) (AI id (p++[(i,k)]))else(off=0/\len=n/\j≠id)/\match q with
   |[]=>K (cs.map (A2 id (p++[(i,k)]) j)) ((σ.set id (upd (p++[(i,k)]) (σ.getD id .dead) (σ.getD j .dead))).set j .dead) (A2 id (p++[(i,k)]) j)
   |_=>K ((cs.map (rrV j q σ.length)).map (A2 id (p++[(i,k)]) σ.length))
     (((σ.set j (upd q (σ.getD j .dead) .dead)++[V.nd true true sz n f]).set id (upd (p++[(i,k)]) (σ.getD id .dead) (.nd true true sz n f))).set σ.length .dead) (λv=>A2 id (p++[(i,k)]) σ.length (rrV j q σ.length v))
  |_=>False
 |.rp j q 0 0=>match sub q (σ.getD j .dead)with
  |.nd false true sz n f=>j≠id/\match q with
   |[]=>K (cs.map (A2 id (p++[(i,k)]) j)) ((σ.set id (upd (p++[(i,k)]) (σ.getD id .dead) (σ.getD j .dead))).set j .dead) (A2 id (p++[(i,k)]) j)
   |_=>K ((cs.map (rrV j q σ.length)).map (A2 id (p++[(i,k)]) σ.length))
     (((σ.set j (upd q (σ.getD j .dead) .dead)++[V.nd false true sz n f]).set id (upd (p++[(i,k)]) (σ.getD id .dead) (.nd false true sz n f))).set σ.length .dead) (λv=>A2 id (p++[(i,k)]) σ.length (rrV j q σ.length v))
  |_=>False
 |.rm j q=>match sub q (σ.getD j .dead)with
  |.mp true l=>j≠id/\match q with
   |[]=>K (cs.map (A2 id (p++[(i,k)]) j)) ((σ.set id (upd (p++[(i,k)]) (σ.getD id .dead) (σ.getD j .dead))).set j .dead) (A2 id (p++[(i,k)]) j)
   |_=>K ((cs.map (rrV j q σ.length)).map (A2 id (p++[(i,k)]) σ.length))
     (((σ.set j (upd q (σ.getD j .dead) .dead)++[V.mp true l]).set id (upd (p++[(i,k)]) (σ.getD id .dead) (.mp true l))).set σ.length .dead) (λv=>A2 id (p++[(i,k)]) σ.length (rrV j q σ.length v))
  |_=>False
 |_=>False
def putL(id:Nat)(p:List (Nat×Nat))(i:Nat):Nat->Nat->List V->List V->(Nat->V)->(List V->(Nat->V)->Prop)->Prop
 |0,_,_,_,_,_=>False
 |_+1,_,[],σ,t,K=>K σ t
 |m+1,k,c::cs,σ,t,K=>MX id p i k c cs σ λe σ' G=>putL id p i m (k+1) e σ' (λi=>G (t i)) K
theorem IL:∀(p:List (Nat×Nat)) (x:Nat×Nat),AR (p++[x]) p=false:=by
 intro p x;cases h:AR (p++[x]) p with
 |false=>rfl
 |true=>have:=congrArg List.length (Cq h);grind
section
variable {C:Ctx}{w:World}{D:Nat->Prop}{ρ:Nat->Value}{F:Nat->Nat->Prop}
def JZ{σ:List V}(wr:Bg σ w D ρ F){id:Nat}{p:List (Nat×Nat)}{i k:Nat}{cv:Value}(h:Ai σ ρ w (.rp id p i k) cv):
  ∃s sz n f b o cap,id<σ.length/\At w p (σ.getD id .dead) (ρ id) (.nd s true sz n f) (Ay s b o n cap)/\i<n/\k<sz/\cv=.pointer (some ⟨b,o+i*sz+k,none⟩)/\Cs σ id p i k=f i k/\AY σ id p=sz/\
   (∃y,w.cell? ⟨b,o+i*sz+k,none⟩=some y)/\w.frozen? ⟨b,o+i*sz+k,none⟩=false:=by
 obtain⟨e,s,sz,n,f,b,o,cap,u,hi,J,rfl⟩:=h;obtain⟨fp1,A,_⟩:=Dg (w':=w) p _ _ _ _ _ (wr.rel id e) (λb Y Z=>wr.dD id b Z Y) u
 rcases A with⟨h0,_⟩|⟨b2,o2,O,F2,B,_,_,_,W,_,U⟩
 .omega
 obtain⟨rfl,rfl,_⟩:=As B;obtain⟨y,H,_⟩:=W i k hi J;obtain⟨⟨cs,T,E,_⟩,_⟩:=U rfl;exact⟨s,sz,n,f,b,o,cap,e,u,hi,J,rfl,by unfold Cs;rw[<-At.sub u],by unfold AY;rw[<-At.sub u],⟨y,H⟩,E.frozen H⟩
theorem IB{σ t cs:List V}{c:V}{ct U:List Value}{ad cx:Value}{id:Nat}{p:List (Nat×Nat)}{i k0 k:Nat}{K:List V->List V->(V->V)->Prop}
  (h:CR C σ (t++ .rp id p i k0::c::cs) (ct++ad::cx::U).toArray w D ρ F) (hl:ct.length=t.length) (hk:k<AY σ id p) (E:MX id p i k c cs σ K):
  ∃(G:V->V) (σ':List V) (b off:Nat) (ρ':Nat->Value) (F':Nat->Nat->Prop),(∃y,w.cell? ⟨b,off,none⟩=some y)/\w.frozen? ⟨b,off,none⟩=false/\cx.oneCell'=true/\
   (∃ofs,ad=.pointer (some ⟨b,ofs+k0,none⟩)/\off=ofs+k)/\
   Bc G/\K (cs.map G) σ' G/\AY σ' id p=AY σ id p/\CR C σ' (t.map G++ .rp id p i k0::cs.map G) (ct++ad::U).toArray (w.setCell ⟨b,off,none⟩ cx) D ρ' F':=by
 have hp0:Ai σ ρ w (.rp id p i k0) ad:=by
  have J:=h.tm t.length (by simp)
  have e1:(t++ .rp id p i k0::c::cs).getD t.length .dead=.rp id p i k0:=by simp
  have e2:(ct++ad::cx::U).toArray.getD t.length undef=ad:=by simp[<-hl]
  rw[e1,e2]at J;exact J.1
 have O:Rel D w (Ai σ ρ w) c cx noF:=by
  have J:=h.tm (t.length+1) (by simp)
  have e1:(t++ .rp id p i k0::c::cs).getD (t.length+1) .dead=c:=by simp[gAR]
  have e2:(ct++ad::cx::U).toArray.getD (t.length+1) undef=cx:=by simp[<-hl,gAR]
  rw[e1,e2]at J;exact J
 obtain⟨s,sz,n,f,b,o,cap,A,ha,hi,hk0,had,_,hns,_,hfz⟩:=JZ h.wr hp0;rw[hns]at hk
 -- the cell itself
 -- the lists behind a change of references that leaves the pointer alone
 have fin:∀(G:V->V) (σ':List V) (ρ':Nat->Value) (F':Nat->Nat->Prop) (w':World),Bc G->G (.rp id p i k0)=.rp id p i k0->CR C σ' ((t++ .rp id p i k0::c::cs).map G) (ct++ad::cx::U).toArray w' D ρ' F'->
   CR C σ' (t.map G++ .rp id p i k0::cs.map G) (ct++ad::U).toArray w' D ρ' F':=by
  intro G σ' ρ' F' w' hG hGp u;have e:(t++ .rp id p i k0::c::cs).map G=t.map G++ .rp id p i k0::G c::cs.map G:=by simp[hGp]
  rw[e]at u;have hs:=u.sz;simp at hs;refine⟨u.wr,by simp;omega,λj hj=>?_,u.fr,u.Fn,u.D1,u.D2,u.rt,u.ml⟩
  simp at hj;by_cases hjt:j<=t.length
  .have J:=u.tm j (by simp;omega)
   have e1:(t.map G++ .rp id p i k0::G c::cs.map G).getD j .dead=(t.map G++ .rp id p i k0::cs.map G).getD j .dead:=by
    by_cases hlt:j<t.length
    .simp[gDE,gAL,hlt]
    .obtain rfl:j=t.length:=by omega
     simp[gAR]
   have e2:(ct++ad::cx::U).toArray.getD j undef=(ct++ad::U).toArray.getD j undef:=by
    by_cases hlt:j<ct.length
    .simp[gAL,hlt]
    .obtain rfl:j=ct.length:=by omega
     simp[gAR]
   rw[e1,e2]at J;exact J
  .have J:=u.tm (j+1) (by simp;omega)
   have e1:(t.map G++ .rp id p i k0::G c::cs.map G).getD (j+1) .dead=(t.map G++ .rp id p i k0::cs.map G).getD j .dead:=by
    obtain⟨l,rfl⟩:∃l,j=t.length+1+l:=⟨j-t.length-1,by omega⟩
    simp only[gDE];rw[gAR (by simp;omega),gAR (by simp;omega)]
    simp only[List.length_map];rw[show t.length+1+l+1-t.length=l+1+1 by omega,show t.length+1+l-t.length=l+1 by omega]
    rfl
   have e2:(ct++ad::cx::U).toArray.getD (j+1) undef=(ct++ad::U).toArray.getD j undef:=by
    obtain⟨l,rfl⟩:∃l,j=ct.length+1+l:=⟨j-ct.length-1,by omega⟩
    simp only[Array.getD_eq_getD_getElem?,List.getElem?_toArray];rw[gAR (by omega),gAR (by omega)]
    rw[show ct.length+1+l+1-ct.length=l+1+1 by omega,show ct.length+1+l-ct.length=l+1 by omega]
    rfl
   rw[e1,e2]at J;exact J
 have hat:∃ofs,ad=.pointer (some ⟨b,ofs+k0,none⟩)/\o+i*sz+k=ofs+k:=⟨o+i*sz,had,rfl⟩
 have hnsz:∀x,AY (σ.set id (upd (p++[(i,k)]) (σ.getD id .dead) x)) id p=sz:=by
  intro x;unfold AY;rw[Ae A,Hv p _ _ _ (At.ok ha),JS p _ _ (At.ok ha),<-At.sub ha];rfl
 have hcy0:∃y,w.cell? ⟨b,o+i*sz+k,none⟩=some y:=by
  obtain⟨fp1,hr1,_⟩:=Dg (w':=w) p _ _ _ _ _ (h.wr.rel id A) (λb hb h'=>h.wr.dD id b h' hb) ha
  rcases hr1 with⟨h0,_⟩|⟨b2,o2,cap2,F2,hcv,_,_,_,hc,_⟩
  .omega
  obtain⟨rfl,rfl,_⟩:=As hcv;obtain⟨y,hy,_⟩:=hc i k hi hk;exact⟨y,hy⟩
 have hfz0:w.frozen? ⟨b,o+i*sz+k,none⟩=false:=by
  have e:w.frozen? ⟨b,o+i*sz+k0,none⟩=false:=hfz;obtain⟨fp1,hr1,_⟩:=Dg (w':=w) p _ _ _ _ _ (h.wr.rel id A) (λb hb h'=>h.wr.dD id b h' hb) ha
  rcases hr1 with⟨h0,_⟩|⟨b2,o2,cap2,F2,hcv,_,_,_,hc,_,ho⟩
  .omega
  obtain⟨rfl,rfl,_⟩:=As hcv;obtain⟨⟨cs,T,hb1,_⟩,_⟩:=ho rfl;obtain⟨y,hy,_⟩:=hc i k hi hk;exact hb1.frozen hy
 have hcellk:Cs σ id p i k=f i k:=by unfold Cs;rw[<-At.sub ha]
 have kp:AI id (p++[(i,k)]) (.rp id p i k0)=.rp id p i k0:=by simp[AI,IL]
 have mp:∀j,j≠id->A2 id (p++[(i,k)]) j (.rp id p i k0)=.rp id p i k0:=by intro j hj;simp[A2,IL,Ne.symm hj]
 -- a whole tree that is Y in
 have move:∀(σ:List V) (t cs:List V) (ρ:Nat->Value) (F:Nat->Nat->Prop) (j:Nat) (c':V),CR C σ (t++ .rp id p i k0::c'::cs) (ct++ad::cx::U).toArray w D ρ F->id<σ.length->j<σ.length->j≠id->
   At w p (σ.getD id .dead) (ρ id) (.nd s true sz n f) (Ay s b o n cap)->ρ j=cx->
   ∃F',CR C ((σ.set id (upd (p++[(i,k)]) (σ.getD id .dead) (σ.getD j .dead))).set j .dead) ((t++ .rp id p i k0::c'::cs).map (A2 id (p++[(i,k)]) j)) (ct++ad::cx::U).toArray (w.setCell ⟨b,o+i*sz+k,none⟩ cx) D ρ F':=by
  intro σ t cs ρ F j c' u A hj hij ha hρ;have:=CR.store_move u A hj hij ha hi hk;rw[hρ]at this;exact this
 have nszm:∀(σ:List V) (ρ:Nat->Value) (j:Nat) (x:V),id<σ.length->j≠id->At w p (σ.getD id .dead) (ρ id) (.nd s true sz n f) (Ay s b o n cap)->AY ((σ.set id (upd (p++[(i,k)]) (σ.getD id .dead) x)).set j .dead) id p=sz:=by
  intro σ ρ j x A hj ha;unfold AY;rw[Ad hj,Ae A,Hv p _ _ _ (At.ok ha),JS p _ _ (At.ok ha),<-At.sub ha];rfl
 -- a node that is Y in
 have Y:∀(c':V) (j:Nat) (q:List (Nat×Nat)) (v1:V),c=c'->j<σ.length->j≠id->At w q (σ.getD j .dead) (ρ j) v1 cx->cx.oneCell'=true->
   (q=[]->K (cs.map (A2 id (p++[(i,k)]) j)) ((σ.set id (upd (p++[(i,k)]) (σ.getD id .dead) (σ.getD j .dead))).set j .dead) (A2 id (p++[(i,k)]) j))->
   (q≠[]->K ((cs.map (rrV j q σ.length)).map (A2 id (p++[(i,k)]) σ.length))
     (((σ.set j (upd q (σ.getD j .dead) .dead)++[v1]).set id (upd (p++[(i,k)]) (σ.getD id .dead) v1)).set σ.length .dead) (λv=>A2 id (p++[(i,k)]) σ.length (rrV j q σ.length v)))->
   ∃(G:V->V) (σ':List V) (b off:Nat) (ρ':Nat->Value) (F':Nat->Nat->Prop),(∃y,w.cell? ⟨b,off,none⟩=some y)/\w.frozen? ⟨b,off,none⟩=false/\cx.oneCell'=true/\
    (∃ofs,ad=.pointer (some ⟨b,ofs+k0,none⟩)/\off=ofs+k)/\
    Bc G/\K (cs.map G) σ' G/\AY σ' id p=AY σ id p/\CR C σ' (t.map G++ .rp id p i k0::cs.map G) (ct++ad::U).toArray (w.setCell ⟨b,off,none⟩ cx) D ρ' F':=by
  intro c' j q v1 _ hj Z B J hK1 hK2;cases q with
  |nil=>
   obtain⟨_,hcn⟩:=B;obtain⟨F',u⟩:=move σ t cs ρ F j _ h A hj Z ha hcn.symm;exact⟨A2 id (p++[(i,k)]) j,_,b,_,ρ,F',hcy0,hfz0,J,hat,CL _ _ _,hK1 rfl,by rw[nszm σ ρ j _ A Z ha,hns],fin _ _ _ _ _ (CL _ _ _) (mp j Z) u⟩
  |cons a0 q0=>
   have W:=(At.sub B).symm;obtain⟨ρ',F',u,hρ,hρo,_⟩:=CR.reroot h hj B;rw[W]at u;have rrd:rrV j (a0::q0) σ.length (.rp id p i k0)=.rp id p i k0:=by simp[rrV,Ne.symm Z]
   have e1:(t++ .rp id p i k0::c::cs).map (rrV j (a0::q0) σ.length)=t.map (rrV j (a0::q0) σ.length)++ .rp id p i k0::rrV j (a0::q0) σ.length c::cs.map (rrV j (a0::q0) σ.length):=by
    rw[List.map_append,List.map_cons,List.map_cons,rrd]
   have hid':id<(σ.set j (upd (a0::q0) (σ.getD j .dead) .dead)++[v1]).length:=by simp;omega
   have hg1:(σ.set j (upd (a0::q0) (σ.getD j .dead) .dead)++[v1]).getD id .dead=σ.getD id .dead:=by
    rw[AB (by simpa using A),Ad Z]
   have hg2:(σ.set j (upd (a0::q0) (σ.getD j .dead) .dead)++[v1]).getD σ.length .dead=v1:=by simp
   have hlj:σ.length≠id:=by omega
   have hcr1:=u;rw[e1]at hcr1;obtain⟨F'',hcr2⟩:=move _ _ _ ρ' F' σ.length _ hcr1 hid' (by simp) hlj (by rw[hg1,hρo id A];exact ha) hρ
   rw[hg1,hg2,<-e1]at hcr2;rw[List.map_map]at hcr2;have hcomp:Bc (A2 id (p++[(i,k)]) σ.length∘rrV j (a0::q0) σ.length):=⟨λ_=>rfl,rfl,λ_ _ _ _ _=>rfl,λ_ _=>rfl,λ_ _ _=>rfl⟩
   refine⟨A2 id (p++[(i,k)]) σ.length∘rrV j (a0::q0) σ.length,_,b,_,ρ',F'',hcy0,hfz0,J,hat,hcomp,?_,?_,fin _ _ _ _ _ hcomp ?_ hcr2⟩
   .rw[<-List.map_map];exact hK2 (by simp)
   .have:=nszm (σ.set j (upd (a0::q0) (σ.getD j .dead) .dead)++[v1]) ρ' σ.length v1 hid' hlj (by rw[hg1,hρo id A];exact ha)
    rw[hg1]at this;rw[this,hns]
   .simp only[Function.comp,rrd,mp σ.length hlj]
 unfold MX at E;split at E
 .-- a plain value
  obtain⟨rfl,J,_⟩:=O;rw[hcellk]at E;split at E
  .rename_i hN
   obtain⟨F',u⟩:=CR.store_plain h A ha hi hk (x:=.c cx) (cx:=cx) ⟨rfl,J,λ_ h=>h⟩ (.inl rfl)
   exact⟨AI id (p++[(i,k)]),_,b,_,ρ,F',hcy0,hfz0,J,hat,Ba _ _,E,by rw[hnsz,hns],fin _ _ _ _ _ (Ba _ _) kp u⟩
  .rename_i hN
   obtain⟨F',u⟩:=CR.store_plain h A ha hi hk (x:=.c cx) (cx:=cx) ⟨rfl,J,λ_ h=>h⟩ (G:=λv=>v) (.inr ⟨rfl,(λs' sz' n' f' e=>by rw[e]at hN;cases hN),λl e=>by rw[e]at hN;cases hN⟩)
   exact⟨λv=>v,_,b,_,ρ,F',hcy0,hfz0,J,hat,⟨λ_=>rfl,rfl,λ_ _ _ _ _=>rfl,λ_ _=>rfl,λ_ _ _=>rfl⟩,by simpa using E,by rw[hnsz,hns],fin _ _ _ _ _ ⟨λ_=>rfl,rfl,λ_ _ _ _ _=>rfl,λ_ _=>rfl,λ_ _ _=>rfl⟩ rfl u⟩
 .-- something only read
  rename_i s1 sz1 n1 f1;have J:cx.oneCell'=true:=(Rel.cells1 O (λ_ _ h=>Ai.one h) rfl).2
  obtain⟨F',u⟩:=CR.store_plain h A ha hi hk (x:=.nd s1 false sz1 n1 f1) (cx:=cx) (Rel.nd_R O) (.inl rfl);exact⟨AI id (p++[(i,k)]),_,b,_,ρ,F',hcy0,hfz0,J,hat,Ba _ _,E,by rw[hnsz,hns],fin _ _ _ _ _ (Ba _ _) kp u⟩
 .-- a map that is only read
  rename_i l;have J:cx.oneCell'=true:=(Rel.cells1 O (λ_ _ h=>Ai.one h) rfl).2
  obtain⟨F',u⟩:=CR.store_plain h A ha hi hk (x:=.mp false l) (cx:=cx) (show Rel D w noR (.mp false l) cx noF from O) (.inl rfl)
  exact⟨AI id (p++[(i,k)]),_,b,_,ρ,F',hcy0,hfz0,J,hat,Ba _ _,E,by rw[hnsz,hns],fin _ _ _ _ _ (Ba _ _) kp u⟩
 .-- an owned slice
  rename_i j q off len;have J:cx.oneCell'=true:=Ai.one O.1;split at E
  case h_2=>exact E.elim
  rename_i sz1 n1 f1 W;split at E
  .rename_i hjq
   obtain⟨rfl,rfl⟩:=hjq;have hcx0:=O.1;obtain⟨⟨_,sz2,n2,f2,cn,B,_,_⟩,_⟩:=O;have H:=At.sub B;rw[W]at H;simp only[V.nd.injEq,true_and]at H;obtain⟨rfl,rfl,rfl⟩:=H;obtain⟨_,_,_,_,_,_,_,_,e3⟩:=At.split B ha;obtain⟨F',u⟩:=CR.store_part h A ha hi hk e3.1.symm hcx0;exact⟨AI j (p++[(i,k)]),_,b,_,ρ,F',hcy0,hfz0,J,hat,Ba _ _,E,by rw[hnsz,hns],fin _ _ _ _ _ (Ba _ _) kp u⟩
  obtain⟨⟨rfl,rfl,Z⟩,E⟩:=E;obtain⟨⟨hj,sz2,n2,f2,cn,B,hle,hcv⟩,_⟩:=O;have H:=At.sub B;rw[W]at H;simp only[V.nd.injEq,true_and]at H;obtain⟨rfl,rfl,rfl⟩:=H;have hcx:cn=cx:=by
   rcases hcv with⟨b2,o2,cap2,rfl,rfl⟩|⟨h0,_,_,hfull,_⟩
   .simp[Ay]
   .exact(hfull rfl h0).symm
  subst hcx;refine Y _ j q _ rfl hj Z B J (λe=>?_) (λe=>?_)
  .subst e;exact E
  .split at E
   .exact absurd rfl e
   .exact E
 .-- an owned object
  rename_i j q;have J:cx.oneCell'=true:=Ai.one O.1;split at E
  case h_2=>exact E.elim
  rename_i sz1 n1 f1 W;obtain⟨Z,E⟩:=E;obtain⟨⟨hj,s2,sz2,n2,f2,b2,o2,cap2,B,_,_,hcv⟩,_⟩:=O;have H:=At.sub B;rw[W]at H;simp only[V.nd.injEq,true_and]at H;obtain⟨rfl,rfl,rfl,rfl⟩:=H;have hcx:Ay false b2 o2 n2 cap2=cx:=by rw[hcv];simp[Ay]
  rw[hcx]at B;refine Y _ j q _ rfl hj Z B J (λe=>?_) (λe=>?_)
  .subst e;exact E
  .split at E
   .exact absurd rfl e
   .exact E
 .-- an owned map
  rename_i j q;have J:cx.oneCell'=true:=Ai.one O.1;split at E
  case h_2=>exact E.elim
  rename_i l W;obtain⟨Z,E⟩:=E;obtain⟨⟨hj,l2,b2,B,hcv⟩,_⟩:=O;have H:=At.sub B;rw[W]at H;simp only[V.mp.injEq,true_and]at H;subst H;refine Y _ j q _ rfl hj Z B J (λe=>?_) (λe=>?_)
  .subst e;exact E
  .split at E
   .exact absurd rfl e
   .exact E
 .exact E.elim
end
end Go.Ve

