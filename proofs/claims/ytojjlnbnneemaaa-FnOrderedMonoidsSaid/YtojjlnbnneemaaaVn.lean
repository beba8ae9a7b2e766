/- The small machine's steps: an operation, by its kind. -/
import Derived.Test.YtojjlnbnneemaaaVm
set_option linter.all false
namespace Go.Ve
def LE(v:Value):V:=
 match v with
 |.agg cs=>if cs.toList.all (·.oneCell')=true then Aj (cs.toList.map .c)else .dead
 |v=>if v.oneCell'=true then .c v else .dead
structure Ms where
 t:Nat->V
 σ:List V
def fnV(f:Nat):V:=bif Nat.blt f 1000000 then .many (.cl f) 0 (λ_=>.dead)else .c (.func (.func f) #[] #[])
def PY{D:Nat->Prop}{w:World}{R:V->Value->Prop}{f:Nat}:Rel D w R (fnV f) (.func (.func f) #[] #[]) noF:=by
 unfold fnV;cases h:Nat.blt f 1000000 with
 |true=>exact⟨#[],λ_=>noF,(Ue h).symm,rfl,λk e=>by omega,λ_ _ _ _ _ _ h=>h.elim,λb=>⟨λh=>h.elim,fun⟨_,_,h⟩=>h⟩⟩
 |false=>exact⟨rfl,rfl,λ_ h=>h⟩
def Ms.ev(S:Ms):Operand->V
 |.tmp t=>S.t t
 |.const v=>LE v
 |.global g=>.c (.pointer (some ⟨g,0,none⟩))
 |.func f=>fnV f
def AJ(t:Nat->V)(d:Nat)(v:V):Nat->V:=λi=>if i=d then v else t i
structure Cz where
 n:Nat
 fz:List Nat
 keep:Nat
def Ms.res(S:Ms)(h:Cz)(d:Option Nat)(r:V):Ms:=
 match d with
 |some d=>if d<h.n then(if h.fz.contains d then⟨AJ S.t d (frz r),S.σ⟩else⟨AJ S.t d (prom r S.σ.length).1,S.σ++(prom r S.σ.length).2⟩)else S
 |none=>S
def ResK(h:Cz)(d:Option Nat)(S:Ms)(K:Ms->Prop)(r:V):Prop:=K (S.res h d r)
def AbN(l:LenI)(v:V):Bool:=
 match l,v with
 |.string,.c (.string _)=>true
 |.slice,.c (.string _)=>false
 |.slice,_=>true
 |_,_=>false
def DW(b:Builtin)(x y:V)(K:V->Prop):Prop:=
 match b,x,y with
 |.min,.c (.int k x),.c (.int _ y)=>K (.c (.int k (if y<x then y else x)))
 |.max,.c (.int k x),.c (.int _ y)=>K (.c (.int k (if x<y then y else x)))
 |_,_,_=>False
def Mu(P:Program)(σ:List V)(b:Builtin)(args:List V)(e:List TypeId)(K:V->Prop):Prop:=
 match b,args,e with
 |.len,[x],[t]=>(AbN (Nm P t) x=true/\qLen x K)\/((∃q,VJ P t=some q)/\qLenM σ x K)
 |.min,[x,y],_=>DW .min x y K
 |.max,[x,y],_=>DW .max x y K
 |_,_,_=>False
def NZ(P:Program)(σ:List V)(ev:Operand->V)(op:Op)(K:V->Prop):Prop:=
 match op with
 |.move x=>WL (ev x) K
 |.assign x=>WL (ev x) K
 |.pick c x y=>WK (ev c) (ev x) (ev y) K
 |.load t x=>Iy (tyI P t) σ (ev x) K
 |.fieldAddr t x k=>JV (Vm P t k) σ (ev x) K
 |.indexAddr t x i=>B7 (slI P t) σ (ev x) (ev i) K
 |.index t x i=>(slK P t=.string/\Qz (ev x) (ev i) K)\/(0<arI P t/\Mt (arI P t) (ev x) (ev i) K)
 |.nilCheck x=>Abk (ev x) K
 |.binOp op t x y _=>UY P op t x y (ev x) (ev y) K
 |.unOp op _ x=>qUn op (ev x) K
 |.convert s d x=>DI P σ s d (ev x) K
 |.extract x i=>CD (ev x) i K
 |.build t ps=>Lj (Aax P t) (ps.toList.map λp=>(p.1,ev p.2)) K
 |.buildSlice t n ps=>B8 (slI P t) (Abc P t) n (ps.toList.map λp=>(p.1,ev p.2)) K
 |.alloc t=>Od (tyI P t) K
 |.box _ x=>qBox (ev x) K
 |.makeSlice t l c=>WM (slI P t) (Abc P t) (ev l) (ev c) K
 |.slice t x A B e=>e=none/\Lh (slK P t) σ (ev x) (A.map ev) (B.map ev) K
 |.call c=>match c.callee with
  |.value (.func f)=>Call P f ((c.args.toList.map ev).any AT) ((c.args.toList.map ev).map (BS σ)) K
  |.value (.tmp y)=>N8 P σ (ev (.tmp y)) (c.args.toList.map ev) K
  |.builtin b=>Mu P σ b (c.args.toList.map ev) c.argTypes.toList K
  |.invoke y name=>Oa P σ (ev y) name (c.args.toList.map ev) K
  |_=>False
 |.makeFunc fn first cs=>match fn,first.toList with
  |.func g,[]=>qMkF g (cs.toList.map ev) K
  |_,_=>False
 |.makeInterface t x=>qMkI P t (ev x) K
 |.makeMap _ n=>Qy n K
 |.lookup t x i co=>WN P σ t (ev x) (ev i) co K
 |_=>False
section
variable {P:Program}{o:Oper}{a:Act}{w:World}{σ:List V}{D:Nat->Prop}{ρ:Nat->Value}{F:Nat->Nat->Prop}{K:V->Prop}
theorem JK{t:TypeId}(h:slK P t=.string):P.underlying t=some .string:=by
 unfold slK at h;grind
theorem Y0{α:Type}{xs:Array α}{x:α}(h:xs.toList=[x]):xs= #[x]:=by grind
def HS(wr:Bs σ w D ρ F){b:Builtin}{x y:Operand}{J E:V}{B:Array TypeId}(ho:o.op=.call {callee:=.builtin b,args:=#[x,y],argTypes:=B})(A:OpR σ w D ρ F J (a.eval x))(e:OpR σ w D ρ F E (a.eval y))(h:DW b J E K):∃r,K r/\Av P o a w σ D ρ r:=by
 obtain⟨_,A,_⟩:=A;obtain⟨_,e,_⟩:=e;unfold DW at h;split at h
 .refine⟨_,h,Av.pure wr ?_ ⟨rfl,rfl,λ_ h=>h⟩⟩
  unfold execOp;rw[ho];simp[resolve,invoke,builtin,Builtin.min_,Builtin.min2,A.1,e.1]
 .refine⟨_,h,Av.pure wr ?_ ⟨rfl,rfl,λ_ h=>h⟩⟩
  unfold execOp;rw[ho];simp[resolve,invoke,builtin,Builtin.max_,Builtin.max2,A.1,e.1]
 .exact h.elim
def UR(hk:Wok w)(wr:Bs σ w D ρ F){ev:Operand->V}(B:∀x∈o.op.operands,OpR σ w D ρ F (ev x) (a.eval x))(h:NZ P σ ev o.op K):∃r,K r/\Av P o a w σ D ρ r:=by
 have M:∀(ps:Array (Nat×Operand)),(∀x∈(ps.toList.map (·.2)).toArray,OpR σ w D ρ F (ev x) (a.eval x))->LY σ w D ρ F (ps.toList.map λp=>(p.1,ev p.2)) (ps.toList.map λp=>(p.1,a.eval p.2)):=by
  intro ps hp;refine⟨by simp,λj i v J=>?_⟩
  simp only[List.getElem?_map]at J⊢;cases Y:ps.toList[j]? with
  |none=>simp[Y]at J
  |some q=>
   simp only[Y,Option.map_some,Option.some.injEq,Prod.mk.injEq]at J⊢;obtain⟨rfl,rfl⟩:=J
   exact⟨_,⟨rfl,rfl⟩,hp q.2 (by
    simp only[List.mem_toArray,List.mem_map];exact⟨q,List.mem_of_getElem? Y,rfl⟩)⟩
 have opt:∀(O:Option Operand),(∀x∈O.toArray,OpR σ w D ρ F (ev x) (a.eval x))->OptR σ w D ρ F (O.map ev) (O.map a.eval):=by
  intro O L;cases O with
  |none=>trivial
  |some x=>exact L x (by simp)
 unfold NZ at h;split at h
 case h_1 x ho=>exact JU wr (.inl ho) (B x (by simp[ho,Op.operands])) h
 case h_2 x ho=>exact JU wr (.inr ho) (B x (by simp[ho,Op.operands])) h
 case h_3 c x y ho=>exact Pw wr ho (B c (by simp[ho,Op.operands])) (B x (by simp[ho,Op.operands])) (B y (by simp[ho,Op.operands])) h
 case h_4 t x ho=>exact Py wr ho (B x (by simp[ho,Op.operands])) h
 case h_5 t x k ho=>exact N3 wr ho (B x (by simp[ho,Op.operands])) h
 case h_6 t x i ho=>exact Ji wr ho (B x (by simp[ho,Op.operands])) (B i (by simp[ho,Op.operands])) h
 case h_7 t x i ho=>
  rcases h with h|h
  .exact N2 wr (JK h.1) ho (B x (by simp[ho,Op.operands])) (B i (by simp[ho,Op.operands])) h.2
  .exact Mr wr h.1 ho (B x (by simp[ho,Op.operands])) (B i (by simp[ho,Op.operands])) h.2
 case h_8 x ho=>exact US wr ho (B x (by simp[ho,Op.operands])) h
 case h_9 op t x y yt ho=>exact UX wr ho (B x (by simp[ho,Op.operands])) (B y (by simp[ho,Op.operands])) h
 case h_10 op t x ho=>exact WJ wr ho (B x (by simp[ho,Op.operands])) h
 case h_11 s d x ho=>exact N5 wr ho (B x (by simp[ho,Op.operands])) h
 case h_12 x i ho=>exact KO wr ho (B x (by simp[ho,Op.operands])) h
 case h_13 t ps ho=>exact Ob wr ho (M ps λx E=>B x (by rw[ho];exact E)) h
 case h_14 t n ps ho=>exact Iz wr ho (M ps λx E=>B x (by rw[ho];exact E)) h
 case h_15 t ho=>exact Oc wr ho h
 case h_16 t x ho=>exact UW wr ho (B x (by simp[ho,Op.operands])) h
 case h_17 t l c ho=>exact Px wr ho (B l (by simp[ho,Op.operands])) (B c (by simp[ho,Op.operands])) h
 case h_18 t x O hi mx ho=>
  obtain⟨rfl,h⟩:=h;exact N0 wr ho (B x (by simp[ho,Op.operands])) (opt O λy hy=>B y (by rw[ho];simp only[Op.operands,Array.mem_append];exact .inl (.inl (.inr hy)))) (opt hi λy hy=>B y (by rw[ho];simp only[Op.operands,Array.mem_append];exact .inl (.inr hy))) h
 case h_19 c ho=>
  obtain⟨callee,args,ats⟩:=c;simp only at h;split at h
  .refine VD hk wr ho ⟨by simp,λj J=>?_⟩ h
   simp at J;have:=B args[j] (by rw[ho];simp[Op.operands,Call.operands])
   simpa [J]using this
  .refine N7 hk wr ho (B _ (by rw[ho];simp[Op.operands,Call.operands])) ⟨by simp,λj J=>?_⟩ h
   simp at J;have:=B args[j] (by rw[ho];simp[Op.operands,Call.operands])
   simpa [J]using this
  .unfold Mu at h
   have U:∀x∈args.toList,OpR σ w D ρ F (ev x) (a.eval x):=λx E=>B x (by rw[ho];simp[Op.operands,Call.operands];simpa using E)
   split at h
   .rename_i W t A Z
    obtain⟨x,E,rfl⟩:∃x,args.toList=[x]/\ev x=W:=by
     cases L:args.toList with
     |nil=>simp[L]at A
     |cons x l=>cases l with
      |nil=>simp[L]at A;exact⟨x,rfl,A⟩
      |cons=>simp[L]at A
    rw[Y0 E,Y0 Z]at ho;rcases h with⟨L,h⟩|⟨⟨q,Y⟩,h⟩
    case inr=>exact Pz (kt:=q.1) (et:=q.2) wr Y ho (U x (by simp[E])) h
    refine UV wr ?_ ho (U x (by simp[E])) h
    unfold AbN at L;split at L
    .rename_i s h1 h2;exact .inl ⟨h1,s,h2⟩
    .cases L
    .rename_i h1 h2;exact .inr ⟨h1,fun⟨s,hs⟩=>h2 s hs⟩
    .cases L
   .rename_i W vy A
    obtain⟨x,y,E,rfl,rfl⟩:∃x y,args.toList=[x,y]/\ev x=W/\ev y=vy:=by
     match L:args.toList,A with
     |[x,y],A=>simp at A;exact⟨x,y,rfl,A⟩
     |[],A=>simp at A
     |[_],A=>simp at A
     |_::_::_::_,A=>simp at A
    have e:args= #[x,y]:=by cases args;simp at E;simp[E]
    rw[e]at ho;exact HS wr ho (U x (by simp[E])) (U y (by simp[E])) h
   .rename_i W vy A
    obtain⟨x,y,E,rfl,rfl⟩:∃x y,args.toList=[x,y]/\ev x=W/\ev y=vy:=by
     match L:args.toList,A with
     |[x,y],A=>simp at A;exact⟨x,y,rfl,A⟩
     |[],A=>simp at A
     |[_],A=>simp at A
     |_::_::_::_,A=>simp at A
    have e:args= #[x,y]:=by cases args;simp at E;simp[E]
    rw[e]at ho;exact HS wr ho (U x (by simp[E])) (U y (by simp[E])) h
   .exact h.elim
  .refine N9 hk wr ho (B _ (by rw[ho];simp[Op.operands,Call.operands])) ⟨by simp,λj J=>?_⟩ h
   simp at J;have:=B args[j] (by rw[ho];simp[Op.operands,Call.operands])
   simpa [J]using this
  .exact h.elim
 case h_20 fn first cs ho=>
  split at h
  case h_2=>exact h.elim
  rename_i g hf;have hf:first= #[]:=by cases first;simp at hf;simp[hf]
  subst hf;refine UU wr ho ⟨by simp,λj J=>?_⟩ h
  simp at J;have:=B cs[j] (by rw[ho];simp[Op.operands])
  simpa [J]using this
 case h_21 t x ho=>exact UT wr ho (B x (by simp[ho,Op.operands])) h
 case h_22 t n ho=>exact KN wr ho h
 case h_23 t x i co ho=>exact Mq wr ho (B x (by simp[ho,Op.operands])) (B i (by simp[ho,Op.operands])) h
 all_goals exact h.elim
def Av.sub{r r':V}(J:Sub r r')(E:Av P o a w σ D ρ r):Av P o a w σ D ρ r':=
 λnext Q hn=>E next Q λv' w' D' fp O L M B A e=>hn v' w' D' fp O (Rel.sub J L) M B A e
def qop(P:Program)(σ:List V)(ev:Operand->V)(op:Op)(K:V->Prop):Prop:=NZ P σ ev op λr0=>∃r,Sub r0 r/\K r
def NX(A:Wok w)(wr:Bs σ w D ρ F){ev:Operand->V}(B:∀x∈o.op.operands,OpR σ w D ρ F (ev x) (a.eval x))(h:qop P σ ev o.op K):∃r,K r/\Av P o a w σ D ρ r:=by
 obtain⟨r0,⟨r,e,E⟩,hy⟩:=UR A wr B h;exact⟨r,E,hy.sub e⟩
end
end Go.Ve


namespace Go.Ve
def isN:V->Bool
 |.nd _ own _ _ _=>own
 |.mp own _=>own
 |_=>false
def Mx(id:Nat)(p:List (Nat×Nat))(i k:Nat)(c:V)(cs σ:List V)(K:List V->List V->(V->V)->Prop):Prop:=
 match c with
 |.c y=>match isN (Cx σ id p i k)with
  |true=>K (cs.map (AP id (p++[(i,k)]))) (σ.set id (upd (p++[(i,k)]) (σ.getD id .dead) (.c y))) (AP id (p++[(i,k)]))
  |false=>K cs (σ.set id (upd (p++[(i,k)]) (σ.getD id .dead) (.c y))) (λv=>v)
 |.nd s false sz n f=>K (cs.map (AP id (p++[(i,k)]))) (σ.set id (upd (p++[(i,k)]) (σ.getD id .dead) (.nd s false sz n f))) (AP id (p++[(i,k)]))
 |.mp false l=>K (cs.map (AP id (p++[(i,k)]))) (σ.set id (upd (p++[(i,k)]) (σ.getD id .dead) (.mp false l))) (AP id (p++[(i,k)]))
 |.rs j q off len=>match sub q (σ.getD j .dead)with
  |.nd true true sz n f=>if j=id/\q=p++[(i,k)]then K (cs.map (AP id (p++[(i,k)]))) (σ.set id (upd (p++[(i,k)]) (σ.getD id .dead) (.nd true true sz len λa b=>f (a+off) b))) (AP id (p++[(i,k)]))else(off=0/\len=n/\j≠id)/\match q with
   |[]=>K (cs.map (Bc id (p++[(i,k)]) j)) ((σ.set id (upd (p++[(i,k)]) (σ.getD id .dead) (σ.getD j .dead))).set j .dead) (Bc id (p++[(i,k)]) j)
   |_=>K ((cs.map (rrV j q σ.length)).map (Bc id (p++[(i,k)]) σ.length))
     (((σ.set j (upd q (σ.getD j .dead) .dead)++[V.nd true true sz n f]).set id (upd (p++[(i,k)]) (σ.getD id .dead) (.nd true true sz n f))).set σ.length .dead) (λv=>Bc id (p++[(i,k)]) σ.length (rrV j q σ.length v))
  |_=>False
 |.rp j q 0 0=>match sub q (σ.getD j .dead)with
  |.nd false true sz n f=>j≠id/\match q with
   |[]=>K (cs.map (Bc id (p++[(i,k)]) j)) ((σ.set id (upd (p++[(i,k)]) (σ.getD id .dead) (σ.getD j .dead))).set j .dead) (Bc id (p++[(i,k)]) j)
   |_=>K ((cs.map (rrV j q σ.length)).map (Bc id (p++[(i,k)]) σ.length))
     (((σ.set j (upd q (σ.getD j .dead) .dead)++[V.nd false true sz n f]).set id (upd (p++[(i,k)]) (σ.getD id .dead) (.nd false true sz n f))).set σ.length .dead) (λv=>Bc id (p++[(i,k)]) σ.length (rrV j q σ.length v))
  |_=>False
 |.rm j q=>match sub q (σ.getD j .dead)with
  |.mp true l=>j≠id/\match q with
   |[]=>K (cs.map (Bc id (p++[(i,k)]) j)) ((σ.set id (upd (p++[(i,k)]) (σ.getD id .dead) (σ.getD j .dead))).set j .dead) (Bc id (p++[(i,k)]) j)
   |_=>K ((cs.map (rrV j q σ.length)).map (Bc id (p++[(i,k)]) σ.length))
     (((σ.set j (upd q (σ.getD j .dead) .dead)++[V.mp true l]).set id (upd (p++[(i,k)]) (σ.getD id .dead) (.mp true l))).set σ.length .dead) (λv=>Bc id (p++[(i,k)]) σ.length (rrV j q σ.length v))
  |_=>False
 |_=>False
def putL(id:Nat)(p:List (Nat×Nat))(i:Nat):Nat->Nat->List V->List V->(Nat->V)->(List V->(Nat->V)->Prop)->Prop
 |0,_,_,_,_,_=>False
 |_+1,_,[],σ,t,K=>K σ t
 |m+1,k,c::cs,σ,t,K=>Mx id p i k c cs σ λe σ' G=>putL id p i m (k+1) e σ' (λi=>G (t i)) K
theorem IL:∀(p:List (Nat×Nat)) (x:Nat×Nat),A1 (p++[x]) p=false:=by
 intro p x;cases h:A1 (p++[x]) p with
 |false=>rfl
 |true=>have:=congrArg List.length (Cu h);grind
section
variable {C:Ctx}{w:World}{D:Nat->Prop}{ρ:Nat->Value}{F:Nat->Nat->Prop}
def JN{σ:List V}(wr:Bs σ w D ρ F){id:Nat}{p:List (Nat×Nat)}{i k:Nat}{cv:Value}(h:Am σ ρ w (.rp id p i k) cv):
  ∃s sz n f b o cap,id<σ.length/\At w p (σ.getD id .dead) (ρ id) (.nd s true sz n f) (AD s b o n cap)/\i<n/\k<sz/\cv=.pointer (some ⟨b,o+i*sz+k,none⟩)/\Cx σ id p i k=f i k/\A6 σ id p=sz/\
   (∃y,w.cell? ⟨b,o+i*sz+k,none⟩=some y)/\w.frozen? ⟨b,o+i*sz+k,none⟩=false:=by
 obtain⟨e,s,sz,n,f,b,o,cap,ha,M,L,rfl⟩:=h;obtain⟨Z,A,_⟩:=Dg (w':=w) p _ _ _ _ _ (wr.rel id e) (λb W Y=>wr.dD id b Y W) ha
 rcases A with⟨h0,_⟩|⟨b2,o2,O,F2,B,_,_,_,U,_,ho⟩
 .omega
 obtain⟨rfl,rfl,_⟩:=Az B;obtain⟨y,J,_⟩:=U i k M L;obtain⟨⟨cs,T,E,_⟩,_⟩:=ho rfl;exact⟨s,sz,n,f,b,o,cap,e,ha,M,L,rfl,by unfold Cx;rw[<-At.sub ha],by unfold A6;rw[<-At.sub ha],⟨y,J⟩,E.frozen J⟩
theorem IA{σ t cs:List V}{c:V}{ct U:List Value}{ad cx:Value}{id:Nat}{p:List (Nat×Nat)}{i k0 k:Nat}{K:List V->List V->(V->V)->Prop}
  (h:CR C σ (t++ .rp id p i k0::c::cs) (ct++ad::cx::U).toArray w D ρ F) (hl:ct.length=t.length) (hk:k<A6 σ id p) (J:Mx id p i k c cs σ K):
  ∃(G:V->V) (σ':List V) (b off:Nat) (ρ':Nat->Value) (F':Nat->Nat->Prop),(∃y,w.cell? ⟨b,off,none⟩=some y)/\w.frozen? ⟨b,off,none⟩=false/\cx.oneCell'=true/\
   (∃ofs,ad=.pointer (some ⟨b,ofs+k0,none⟩)/\off=ofs+k)/\
   Bg G/\K (cs.map G) σ' G/\A6 σ' id p=A6 σ id p/\CR C σ' (t.map G++ .rp id p i k0::cs.map G) (ct++ad::U).toArray (w.setCell ⟨b,off,none⟩ cx) D ρ' F':=by
 have hp0:Am σ ρ w (.rp id p i k0) ad:=by
  have M:=h.tm t.length (by simp)
  have e1:(t++ .rp id p i k0::c::cs).getD t.length .dead=.rp id p i k0:=by simp
  have e2:(ct++ad::cx::U).toArray.getD t.length undef=ad:=by simp[<-hl]
  rw[e1,e2]at M;exact M.1
 have O:Rel D w (Am σ ρ w) c cx noF:=by
  have M:=h.tm (t.length+1) (by simp)
  have e1:(t++ .rp id p i k0::c::cs).getD (t.length+1) .dead=c:=by simp[gAR]
  have e2:(ct++ad::cx::U).toArray.getD (t.length+1) undef=cx:=by simp[<-hl,gAR]
  rw[e1,e2]at M;exact M
 obtain⟨s,sz,n,f,b,o,cap,B,ha,hi,hk0,had,_,hns,_,hfz⟩:=JN h.wr hp0;rw[hns]at hk
 -- the cell itself
 -- the lists behind a change of references that leaves the pointer alone
 have fin:∀(G:V->V) (σ':List V) (ρ':Nat->Value) (F':Nat->Nat->Prop) (w':World),Bg G->G (.rp id p i k0)=.rp id p i k0->CR C σ' ((t++ .rp id p i k0::c::cs).map G) (ct++ad::cx::U).toArray w' D ρ' F'->
   CR C σ' (t.map G++ .rp id p i k0::cs.map G) (ct++ad::U).toArray w' D ρ' F':=by
  intro G σ' ρ' F' w' hG hGp A;have e:(t++ .rp id p i k0::c::cs).map G=t.map G++ .rp id p i k0::G c::cs.map G:=by simp[hGp]
  rw[e]at A;have hs:=A.sz;simp at hs;refine⟨A.wr,by simp;omega,λj hj=>?_,A.fr,A.Fn,A.D1,A.D2,A.rt,A.ml⟩
  simp at hj;by_cases hjt:j<=t.length
  .have M:=A.tm j (by simp;omega)
   have e1:(t.map G++ .rp id p i k0::G c::cs.map G).getD j .dead=(t.map G++ .rp id p i k0::cs.map G).getD j .dead:=by
    by_cases hlt:j<t.length
    .simp[gDE,gAL,hlt]
    .obtain rfl:j=t.length:=by omega
     simp[gAR]
   have e2:(ct++ad::cx::U).toArray.getD j undef=(ct++ad::U).toArray.getD j undef:=by
    by_cases hlt:j<ct.length
    .simp[gAL,hlt]
    .obtain rfl:j=ct.length:=by omega
     simp[gAR]
   rw[e1,e2]at M;exact M
  .have M:=A.tm (j+1) (by simp;omega)
   have e1:(t.map G++ .rp id p i k0::G c::cs.map G).getD (j+1) .dead=(t.map G++ .rp id p i k0::cs.map G).getD j .dead:=by
    obtain⟨l,rfl⟩:∃l,j=t.length+1+l:=⟨j-t.length-1,by omega⟩
    simp only[gDE];rw[gAR (by simp;omega),gAR (by simp;omega)]
    simp only[List.length_map];rw[show t.length+1+l+1-t.length=l+1+1 by omega,show t.length+1+l-t.length=l+1 by omega]
    rfl
   have e2:(ct++ad::cx::U).toArray.getD (j+1) undef=(ct++ad::U).toArray.getD j undef:=by
    obtain⟨l,rfl⟩:∃l,j=ct.length+1+l:=⟨j-ct.length-1,by omega⟩
    simp only[Array.getD_eq_getD_getElem?,List.getElem?_toArray];rw[gAR (by omega),gAR (by omega)]
    rw[show ct.length+1+l+1-ct.length=l+1+1 by omega,show ct.length+1+l-ct.length=l+1 by omega]
    rfl
   rw[e1,e2]at M;exact M
 have hat:∃ofs,ad=.pointer (some ⟨b,ofs+k0,none⟩)/\o+i*sz+k=ofs+k:=⟨o+i*sz,had,rfl⟩
 have hnsz:∀x,A6 (σ.set id (upd (p++[(i,k)]) (σ.getD id .dead) x)) id p=sz:=by
  intro x;unfold A6;rw[Ag B,Hq p _ _ _ (At.ok ha),JI p _ _ (At.ok ha),<-At.sub ha];rfl
 have hcy0:∃y,w.cell? ⟨b,o+i*sz+k,none⟩=some y:=by
  obtain⟨fp1,hr1,_⟩:=Dg (w':=w) p _ _ _ _ _ (h.wr.rel id B) (λb hb h'=>h.wr.dD id b h' hb) ha
  rcases hr1 with⟨h0,_⟩|⟨b2,o2,cap2,F2,hcv,_,_,_,hc,_⟩
  .omega
  obtain⟨rfl,rfl,_⟩:=Az hcv;obtain⟨y,hy,_⟩:=hc i k hi hk;exact⟨y,hy⟩
 have hfz0:w.frozen? ⟨b,o+i*sz+k,none⟩=false:=by
  have e:w.frozen? ⟨b,o+i*sz+k0,none⟩=false:=hfz;obtain⟨fp1,hr1,_⟩:=Dg (w':=w) p _ _ _ _ _ (h.wr.rel id B) (λb hb h'=>h.wr.dD id b h' hb) ha
  rcases hr1 with⟨h0,_⟩|⟨b2,o2,cap2,F2,hcv,_,_,_,hc,_,ho⟩
  .omega
  obtain⟨rfl,rfl,_⟩:=Az hcv;obtain⟨⟨cs,T,hb1,_⟩,_⟩:=ho rfl;obtain⟨y,hy,_⟩:=hc i k hi hk;exact hb1.frozen hy
 have hcellk:Cx σ id p i k=f i k:=by unfold Cx;rw[<-At.sub ha]
 have kp:AP id (p++[(i,k)]) (.rp id p i k0)=.rp id p i k0:=by simp[AP,IL]
 have mp:∀j,j≠id->Bc id (p++[(i,k)]) j (.rp id p i k0)=.rp id p i k0:=by intro j hj;simp[Bc,IL,Ne.symm hj]
 -- a BU tree that is Y in
 have move:∀(σ:List V) (t cs:List V) (ρ:Nat->Value) (F:Nat->Nat->Prop) (j:Nat) (c':V),CR C σ (t++ .rp id p i k0::c'::cs) (ct++ad::cx::U).toArray w D ρ F->id<σ.length->j<σ.length->j≠id->
   At w p (σ.getD id .dead) (ρ id) (.nd s true sz n f) (AD s b o n cap)->ρ j=cx->
   ∃F',CR C ((σ.set id (upd (p++[(i,k)]) (σ.getD id .dead) (σ.getD j .dead))).set j .dead) ((t++ .rp id p i k0::c'::cs).map (Bc id (p++[(i,k)]) j)) (ct++ad::cx::U).toArray (w.setCell ⟨b,o+i*sz+k,none⟩ cx) D ρ F':=by
  intro σ t cs ρ F j c' A B hj hij ha hρ;have:=CR.store_move A B hj hij ha hi hk;rw[hρ]at this;exact this
 have nszm:∀(σ:List V) (ρ:Nat->Value) (j:Nat) (x:V),id<σ.length->j≠id->At w p (σ.getD id .dead) (ρ id) (.nd s true sz n f) (AD s b o n cap)->A6 ((σ.set id (upd (p++[(i,k)]) (σ.getD id .dead) x)).set j .dead) id p=sz:=by
  intro σ ρ j x B hj ha;unfold A6;rw[Af hj,Ag B,Hq p _ _ _ (At.ok ha),JI p _ _ (At.ok ha),<-At.sub ha];rfl
 -- a node that is Y in
 have Y:∀(c':V) (j:Nat) (q:List (Nat×Nat)) (v1:V),c=c'->j<σ.length->j≠id->At w q (σ.getD j .dead) (ρ j) v1 cx->cx.oneCell'=true->
   (q=[]->K (cs.map (Bc id (p++[(i,k)]) j)) ((σ.set id (upd (p++[(i,k)]) (σ.getD id .dead) (σ.getD j .dead))).set j .dead) (Bc id (p++[(i,k)]) j))->
   (q≠[]->K ((cs.map (rrV j q σ.length)).map (Bc id (p++[(i,k)]) σ.length))
     (((σ.set j (upd q (σ.getD j .dead) .dead)++[v1]).set id (upd (p++[(i,k)]) (σ.getD id .dead) v1)).set σ.length .dead) (λv=>Bc id (p++[(i,k)]) σ.length (rrV j q σ.length v)))->
   ∃(G:V->V) (σ':List V) (b off:Nat) (ρ':Nat->Value) (F':Nat->Nat->Prop),(∃y,w.cell? ⟨b,off,none⟩=some y)/\w.frozen? ⟨b,off,none⟩=false/\cx.oneCell'=true/\
    (∃ofs,ad=.pointer (some ⟨b,ofs+k0,none⟩)/\off=ofs+k)/\
    Bg G/\K (cs.map G) σ' G/\A6 σ' id p=A6 σ id p/\CR C σ' (t.map G++ .rp id p i k0::cs.map G) (ct++ad::U).toArray (w.setCell ⟨b,off,none⟩ cx) D ρ' F':=by
  intro c' j q v1 _ hj Z E M hK1 hK2;cases q with
  |nil=>
   obtain⟨_,hcn⟩:=E;obtain⟨F',A⟩:=move σ t cs ρ F j _ h B hj Z ha hcn.symm;exact⟨Bc id (p++[(i,k)]) j,_,b,_,ρ,F',hcy0,hfz0,M,hat,Dl _ _ _,hK1 rfl,by rw[nszm σ ρ j _ B Z ha,hns],fin _ _ _ _ _ (Dl _ _ _) (mp j Z) A⟩
  |cons a0 q0=>
   have W:=(At.sub E).symm;obtain⟨ρ',F',A,hρ,hρo,_⟩:=CR.reroot h hj E;rw[W]at A;have rrd:rrV j (a0::q0) σ.length (.rp id p i k0)=.rp id p i k0:=by simp[rrV,Ne.symm Z]
   have e1:(t++ .rp id p i k0::c::cs).map (rrV j (a0::q0) σ.length)=t.map (rrV j (a0::q0) σ.length)++ .rp id p i k0::rrV j (a0::q0) σ.length c::cs.map (rrV j (a0::q0) σ.length):=by
    rw[List.map_append,List.map_cons,List.map_cons,rrd]
   have hid':id<(σ.set j (upd (a0::q0) (σ.getD j .dead) .dead)++[v1]).length:=by simp;omega
   have hg1:(σ.set j (upd (a0::q0) (σ.getD j .dead) .dead)++[v1]).getD id .dead=σ.getD id .dead:=by
    rw[AE (by simpa using B),Af Z]
   have hg2:(σ.set j (upd (a0::q0) (σ.getD j .dead) .dead)++[v1]).getD σ.length .dead=v1:=by simp
   have hlj:σ.length≠id:=by omega
   have hcr1:=A;rw[e1]at hcr1;obtain⟨F'',hcr2⟩:=move _ _ _ ρ' F' σ.length _ hcr1 hid' (by simp) hlj (by rw[hg1,hρo id B];exact ha) hρ
   rw[hg1,hg2,<-e1]at hcr2;rw[List.map_map]at hcr2;have hcomp:Bg (Bc id (p++[(i,k)]) σ.length∘rrV j (a0::q0) σ.length):=⟨λ_=>rfl,rfl,λ_ _ _ _ _=>rfl,λ_ _=>rfl,λ_ _ _=>rfl⟩
   refine⟨Bc id (p++[(i,k)]) σ.length∘rrV j (a0::q0) σ.length,_,b,_,ρ',F'',hcy0,hfz0,M,hat,hcomp,?_,?_,fin _ _ _ _ _ hcomp ?_ hcr2⟩
   .rw[<-List.map_map];exact hK2 (by simp)
   .have:=nszm (σ.set j (upd (a0::q0) (σ.getD j .dead) .dead)++[v1]) ρ' σ.length v1 hid' hlj (by rw[hg1,hρo id B];exact ha)
    rw[hg1]at this;rw[this,hns]
   .simp only[Function.comp,rrd,mp σ.length hlj]
 unfold Mx at J;split at J
 .-- a plain value
  obtain⟨rfl,M,_⟩:=O;rw[hcellk]at J;split at J
  .rename_i hN
   obtain⟨F',A⟩:=CR.store_plain h B ha hi hk (x:=.c cx) (cx:=cx) ⟨rfl,M,λ_ h=>h⟩ (.inl rfl)
   exact⟨AP id (p++[(i,k)]),_,b,_,ρ,F',hcy0,hfz0,M,hat,Be _ _,J,by rw[hnsz,hns],fin _ _ _ _ _ (Be _ _) kp A⟩
  .rename_i hN
   obtain⟨F',A⟩:=CR.store_plain h B ha hi hk (x:=.c cx) (cx:=cx) ⟨rfl,M,λ_ h=>h⟩ (G:=λv=>v) (.inr ⟨rfl,(λs' sz' n' f' e=>by rw[e]at hN;cases hN),λl e=>by rw[e]at hN;cases hN⟩)
   exact⟨λv=>v,_,b,_,ρ,F',hcy0,hfz0,M,hat,⟨λ_=>rfl,rfl,λ_ _ _ _ _=>rfl,λ_ _=>rfl,λ_ _ _=>rfl⟩,by simpa using J,by rw[hnsz,hns],fin _ _ _ _ _ ⟨λ_=>rfl,rfl,λ_ _ _ _ _=>rfl,λ_ _=>rfl,λ_ _ _=>rfl⟩ rfl A⟩
 .-- something only read
  rename_i s1 sz1 n1 f1;have M:cx.oneCell'=true:=(Rel.cells1 O (λ_ _ h=>Am.one h) rfl).2
  obtain⟨F',A⟩:=CR.store_plain h B ha hi hk (x:=.nd s1 false sz1 n1 f1) (cx:=cx) (Rel.nd_R O) (.inl rfl);exact⟨AP id (p++[(i,k)]),_,b,_,ρ,F',hcy0,hfz0,M,hat,Be _ _,J,by rw[hnsz,hns],fin _ _ _ _ _ (Be _ _) kp A⟩
 .-- a map that is only read
  rename_i l;have M:cx.oneCell'=true:=(Rel.cells1 O (λ_ _ h=>Am.one h) rfl).2
  obtain⟨F',A⟩:=CR.store_plain h B ha hi hk (x:=.mp false l) (cx:=cx) (show Rel D w noR (.mp false l) cx noF from O) (.inl rfl)
  exact⟨AP id (p++[(i,k)]),_,b,_,ρ,F',hcy0,hfz0,M,hat,Be _ _,J,by rw[hnsz,hns],fin _ _ _ _ _ (Be _ _) kp A⟩
 .-- an owned slice
  rename_i j q off len;have M:cx.oneCell'=true:=Am.one O.1;split at J
  case h_2=>exact J.elim
  rename_i sz1 n1 f1 W;split at J
  .rename_i hjq
   obtain⟨rfl,rfl⟩:=hjq;have hcx0:=O.1;obtain⟨⟨_,sz2,n2,f2,cn,E,_,_⟩,_⟩:=O;have L:=At.sub E;rw[W]at L;simp only[V.nd.injEq,true_and]at L;obtain⟨rfl,rfl,rfl⟩:=L;obtain⟨_,_,_,_,_,_,_,_,e3⟩:=At.split E ha;obtain⟨F',A⟩:=CR.store_part h B ha hi hk e3.1.symm hcx0;exact⟨AP j (p++[(i,k)]),_,b,_,ρ,F',hcy0,hfz0,M,hat,Be _ _,J,by rw[hnsz,hns],fin _ _ _ _ _ (Be _ _) kp A⟩
  obtain⟨⟨rfl,rfl,Z⟩,J⟩:=J;obtain⟨⟨hj,sz2,n2,f2,cn,E,hle,hcv⟩,_⟩:=O;have L:=At.sub E;rw[W]at L;simp only[V.nd.injEq,true_and]at L;obtain⟨rfl,rfl,rfl⟩:=L;have hcx:cn=cx:=by
   rcases hcv with⟨b2,o2,cap2,rfl,rfl⟩|⟨h0,_,_,hfull,_⟩
   .simp[AD]
   .exact(hfull rfl h0).symm
  subst hcx;refine Y _ j q _ rfl hj Z E M (λe=>?_) (λe=>?_)
  .subst e;exact J
  .split at J
   .exact absurd rfl e
   .exact J
 .-- an owned object
  rename_i j q;have M:cx.oneCell'=true:=Am.one O.1;split at J
  case h_2=>exact J.elim
  rename_i sz1 n1 f1 W;obtain⟨Z,J⟩:=J;obtain⟨⟨hj,s2,sz2,n2,f2,b2,o2,cap2,E,_,_,hcv⟩,_⟩:=O;have L:=At.sub E;rw[W]at L;simp only[V.nd.injEq,true_and]at L;obtain⟨rfl,rfl,rfl,rfl⟩:=L;have hcx:AD false b2 o2 n2 cap2=cx:=by rw[hcv];simp[AD]
  rw[hcx]at E;refine Y _ j q _ rfl hj Z E M (λe=>?_) (λe=>?_)
  .subst e;exact J
  .split at J
   .exact absurd rfl e
   .exact J
 .-- an owned map
  rename_i j q;have M:cx.oneCell'=true:=Am.one O.1;split at J
  case h_2=>exact J.elim
  rename_i l W;obtain⟨Z,J⟩:=J;obtain⟨⟨hj,l2,b2,E,hcv⟩,_⟩:=O;have L:=At.sub E;rw[W]at L;simp only[V.mp.injEq,true_and]at L;subst L;refine Y _ j q _ rfl hj Z E M (λe=>?_) (λe=>?_)
  .subst e;exact J
  .split at J
   .exact absurd rfl e
   .exact J
 .exact J.elim
end
end Go.Ve

