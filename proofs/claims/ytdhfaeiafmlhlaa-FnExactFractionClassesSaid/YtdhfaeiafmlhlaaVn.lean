/- The small machine's steps: an operation, by its kind. -/
import Derived.Test.YtdhfaeiafmlhlaaVm
set_option linter.all false
namespace Go.Ve
def L6(v:Value):V:=
 match v with
 |.agg cs=>if cs.toList.all (·.oneCell')=true then Ai (cs.toList.map .c)else .dead
 |v=>if v.oneCell'=true then .c v else .dead
structure Ms where
 t:Nat->V
 σ:List V
def fnV(f:Nat):V:=bif Nat.blt f 1000000 then .many (.cl f) 0 (λ_=>.dead)else .c (.func (.func f) #[] #[])
def Qj{D:Nat->Prop}{w:World}{R:V->Value->Prop}{f:Nat}:Rel D w R (fnV f) (.func (.func f) #[] #[]) noF:=by
 unfold fnV;cases h:Nat.blt f 1000000 with
 |true=>exact⟨#[],λ_=>noF,(YE h).symm,rfl,λk e=>by omega,λ_ _ _ _ _ _ h=>h.elim,λb=>⟨λh=>h.elim,fun⟨_,_,h⟩=>h⟩⟩
 |false=>exact⟨rfl,rfl,λ_ h=>h⟩
def Ms.ev(S:Ms):Operand->V
 |.tmp t=>S.t t
 |.const v=>L6 v
 |.global g=>.c (.pointer (some ⟨g,0,none⟩))
 |.func f=>fnV f
def AF(t:Nat->V)(d:Nat)(v:V):Nat->V:=λi=>if i=d then v else t i
structure Cw where
 n:Nat
 fz:List Nat
 keep:Nat
def Ms.res(S:Ms)(h:Cw)(d:Option Nat)(r:V):Ms:=
 match d with
 |some d=>if d<h.n then(if h.fz.contains d then⟨AF S.t d (frz r),S.σ⟩else⟨AF S.t d (prom r S.σ.length).1,S.σ++(prom r S.σ.length).2⟩)else S
 |none=>S
def ResK(h:Cw)(d:Option Nat)(S:Ms)(K:Ms->Prop)(r:V):Prop:=K (S.res h d r)
def AcN(l:LenI)(v:V):Bool:=
 match l,v with
 |.string,.c (.string _)=>true
 |.slice,.c (.string _)=>false
 |.slice,_=>true
 |_,_=>false
def DK(b:Builtin)(x y:V)(K:V->Prop):Prop:=
 match b,x,y with
 |.min,.c (.int k x),.c (.int _ y)=>K (.c (.int k (if y<x then y else x)))
 |.max,.c (.int k x),.c (.int _ y)=>K (.c (.int k (if x<y then y else x)))
 |_,_,_=>False
def MO(P:Program)(σ:List V)(b:Builtin)(args:List V)(e:List TypeId)(K:V->Prop):Prop:=
 match b,args,e with
 |.len,[x],[t]=>(AcN (NB P t) x=true/\qLen x K)\/((∃q,Wq P t=some q)/\qLenM σ x K)
 |.min,[x,y],_=>DK .min x y K
 |.max,[x,y],_=>DK .max x y K
 |_,_,_=>False
def Oc(P:Program)(σ:List V)(ev:Operand->V)(op:Op)(K:V->Prop):Prop:=
 match op with
 |.move x=>XC (ev x) K
 |.assign x=>XC (ev x) K
 |.pick c x y=>Vy (ev c) (ev x) (ev y) K
 |.load t x=>It (tyI P t) σ (ev x) K
 |.fieldAddr t x k=>J1 (V4 P t k) σ (ev x) K
 |.indexAddr t x i=>B7 (slI P t) σ (ev x) (ev i) K
 |.index t x i=>(slK P t=.string/\Og (ev x) (ev i) K)\/(0<arI P t/\Iu (arI P t) (ev x) (ev i) K)
 |.nilCheck x=>Acn (ev x) K
 |.binOp op t x y _=>VF P op t x y (ev x) (ev y) K
 |.unOp op _ x=>qUn op (ev x) K
 |.convert s d x=>Dx P σ s d (ev x) K
 |.extract x i=>Cv (ev x) i K
 |.build t ps=>Lv (AbD P t) (ps.toList.map λp=>(p.1,ev p.2)) K
 |.buildSlice t n ps=>B8 (slI P t) (Ach P t) n (ps.toList.map λp=>(p.1,ev p.2)) K
 |.alloc t=>Ou (tyI P t) K
 |.box _ x=>qBox (ev x) K
 |.makeSlice t l c=>XD (slI P t) (Ach P t) (ev l) (ev c) K
 |.slice t x A hi e=>e=none/\Lt (slK P t) σ (ev x) (A.map ev) (hi.map ev) K
 |.call c=>match c.callee with
  |.value (.func f)=>Call P f ((c.args.toList.map ev).any AP) ((c.args.toList.map ev).map (BQ σ)) K
  |.value (.tmp y)=>Om P σ (ev (.tmp y)) (c.args.toList.map ev) K
  |.builtin b=>MO P σ b (c.args.toList.map ev) c.argTypes.toList K
  |.invoke y name=>Oo P σ (ev y) name (c.args.toList.map ev) K
  |_=>False
 |.makeFunc fn first cs=>match fn,first.toList with
  |.func g,[]=>qMkF g (cs.toList.map ev) K
  |_,_=>False
 |.makeInterface t x=>qMkI P t (ev x) K
 |.makeMap _ n=>Q8 n K
 |.lookup t x i co=>XE P σ t (ev x) (ev i) co K
 |_=>False
section
variable {P:Program}{o:Oper}{a:Act}{w:World}{σ:List V}{D:Nat->Prop}{ρ:Nat->Value}{F:Nat->Nat->Prop}{K:V->Prop}
theorem JM{t:TypeId}(h:slK P t=.string):P.underlying t=some .string:=by
 unfold slK at h;grind
theorem Z3{α:Type}{xs:Array α}{x:α}(h:xs.toList=[x]):xs= #[x]:=by grind
def HN(wr:Bl σ w D ρ F){b:Builtin}{x y:Operand}{J E:V}{B:Array TypeId}(O:o.op=.call {callee:=.builtin b,args:=#[x,y],argTypes:=B})(A:OpR σ w D ρ F J (a.eval x))(e:OpR σ w D ρ F E (a.eval y))(h:DK b J E K):∃r,K r/\Au P o a w σ D ρ r:=by
 obtain⟨_,A,_⟩:=A;obtain⟨_,e,_⟩:=e;unfold DK at h;split at h
 .refine⟨_,h,Au.pure wr ?_ ⟨rfl,rfl,λ_ h=>h⟩⟩
  unfold execOp;rw[O];simp[resolve,invoke,builtin,Builtin.min_,Builtin.min2,A.1,e.1]
 .refine⟨_,h,Au.pure wr ?_ ⟨rfl,rfl,λ_ h=>h⟩⟩
  unfold execOp;rw[O];simp[resolve,invoke,builtin,Builtin.max_,Builtin.max2,A.1,e.1]
 .exact h.elim
def Vx(hk:Wok w)(wr:Bl σ w D ρ F){ev:Operand->V}(E:∀x∈o.op.operands,OpR σ w D ρ F (ev x) (a.eval x))(h:Oc P σ ev o.op K):∃r,K r/\Au P o a w σ D ρ r:=by
 have U:∀(ps:Array (Nat×Operand)),(∀x∈(ps.toList.map (·.2)).toArray,OpR σ w D ρ F (ev x) (a.eval x))->Ml σ w D ρ F (ps.toList.map λp=>(p.1,ev p.2)) (ps.toList.map λp=>(p.1,a.eval p.2)):=by
  intro ps hp;refine⟨by simp,λj i v hj=>?_⟩
  simp only[List.getElem?_map]at hj⊢;cases hq:ps.toList[j]? with
  |none=>simp[hq]at hj
  |some q=>
   simp only[hq,Option.map_some,Option.some.injEq,Prod.mk.injEq]at hj⊢;obtain⟨rfl,rfl⟩:=hj
   exact⟨_,⟨rfl,rfl⟩,hp q.2 (by
    simp only[List.mem_toArray,List.mem_map];exact⟨q,List.mem_of_getElem? hq,rfl⟩)⟩
 have opt:∀(W:Option Operand),(∀x∈W.toArray,OpR σ w D ρ F (ev x) (a.eval x))->OptR σ w D ρ F (W.map ev) (W.map a.eval):=by
  intro W O;cases W with
  |none=>trivial
  |some x=>exact O x (by simp)
 unfold Oc at h;split at h
 case h_1 x A=>exact J0 wr (.inl A) (E x (by simp[A,Op.operands])) h
 case h_2 x A=>exact J0 wr (.inr A) (E x (by simp[A,Op.operands])) h
 case h_3 c x y A=>exact PQ wr A (E c (by simp[A,Op.operands])) (E x (by simp[A,Op.operands])) (E y (by simp[A,Op.operands])) h
 case h_4 t x A=>exact PU wr A (E x (by simp[A,Op.operands])) h
 case h_5 t x k A=>exact Oh wr A (E x (by simp[A,Op.operands])) h
 case h_6 t x i A=>exact Jc wr A (E x (by simp[A,Op.operands])) (E i (by simp[A,Op.operands])) h
 case h_7 t x i A=>
  rcases h with h|h
  .exact Of wr (JM h.1) A (E x (by simp[A,Op.operands])) (E i (by simp[A,Op.operands])) h.2
  .exact MN wr h.1 A (E x (by simp[A,Op.operands])) (E i (by simp[A,Op.operands])) h.2
 case h_8 x A=>exact Vz wr A (E x (by simp[A,Op.operands])) h
 case h_9 op t x y yt A=>exact VE wr A (E x (by simp[A,Op.operands])) (E y (by simp[A,Op.operands])) h
 case h_10 op t x A=>exact XB wr A (E x (by simp[A,Op.operands])) h
 case h_11 s d x A=>exact Oj wr A (E x (by simp[A,Op.operands])) h
 case h_12 x i A=>exact K3 wr A (E x (by simp[A,Op.operands])) h
 case h_13 t ps A=>exact Oq wr A (U ps λx J=>E x (by rw[A];exact J)) h
 case h_14 t n ps A=>exact Iv wr A (U ps λx J=>E x (by rw[A];exact J)) h
 case h_15 t A=>exact Ot wr A h
 case h_16 t x A=>exact VD wr A (E x (by simp[A,Op.operands])) h
 case h_17 t l c A=>exact PS wr A (E l (by simp[A,Op.operands])) (E c (by simp[A,Op.operands])) h
 case h_18 t x W hi mx A=>
  obtain⟨rfl,h⟩:=h;exact Od wr A (E x (by simp[A,Op.operands])) (opt W λy hy=>E y (by rw[A];simp only[Op.operands,Array.mem_append];exact .inl (.inl (.inr hy)))) (opt hi λy hy=>E y (by rw[A];simp only[Op.operands,Array.mem_append];exact .inl (.inr hy))) h
 case h_19 c A=>
  obtain⟨callee,args,ats⟩:=c;simp only at h;split at h
  .refine Wl hk wr A ⟨by simp,λj hj=>?_⟩ h
   simp at hj;have:=E args[j] (by rw[A];simp[Op.operands,Call.operands])
   simpa [hj]using this
  .refine Ol hk wr A (E _ (by rw[A];simp[Op.operands,Call.operands])) ⟨by simp,λj hj=>?_⟩ h
   simp at hj;have:=E args[j] (by rw[A];simp[Op.operands,Call.operands])
   simpa [hj]using this
  .unfold MO at h
   have Y:∀x∈args.toList,OpR σ w D ρ F (ev x) (a.eval x):=λx J=>E x (by rw[A];simp[Op.operands,Call.operands];simpa using J)
   split at h
   .rename_i Z t B hats
    obtain⟨x,J,rfl⟩:∃x,args.toList=[x]/\ev x=Z:=by
     cases O:args.toList with
     |nil=>simp[O]at B
     |cons x l=>cases l with
      |nil=>simp[O]at B;exact⟨x,rfl,B⟩
      |cons=>simp[O]at B
    rw[Z3 J,Z3 hats]at A;rcases h with⟨O,h⟩|⟨⟨q,hq⟩,h⟩
    case inr=>exact PV (kt:=q.1) (et:=q.2) wr hq A (Y x (by simp[J])) h
    refine VC wr ?_ A (Y x (by simp[J])) h
    unfold AcN at O;split at O
    .rename_i s h1 h2;exact .inl ⟨h1,s,h2⟩
    .cases O
    .rename_i h1 h2;exact .inr ⟨h1,fun⟨s,hs⟩=>h2 s hs⟩
    .cases O
   .rename_i Z vy B
    obtain⟨x,y,J,rfl,rfl⟩:∃x y,args.toList=[x,y]/\ev x=Z/\ev y=vy:=by
     match O:args.toList,B with
     |[x,y],B=>simp at B;exact⟨x,y,rfl,B⟩
     |[],B=>simp at B
     |[_],B=>simp at B
     |_::_::_::_,B=>simp at B
    have e:args= #[x,y]:=by cases args;simp at J;simp[J]
    rw[e]at A;exact HN wr A (Y x (by simp[J])) (Y y (by simp[J])) h
   .rename_i Z vy B
    obtain⟨x,y,J,rfl,rfl⟩:∃x y,args.toList=[x,y]/\ev x=Z/\ev y=vy:=by
     match O:args.toList,B with
     |[x,y],B=>simp at B;exact⟨x,y,rfl,B⟩
     |[],B=>simp at B
     |[_],B=>simp at B
     |_::_::_::_,B=>simp at B
    have e:args= #[x,y]:=by cases args;simp at J;simp[J]
    rw[e]at A;exact HN wr A (Y x (by simp[J])) (Y y (by simp[J])) h
   .exact h.elim
  .refine On hk wr A (E _ (by rw[A];simp[Op.operands,Call.operands])) ⟨by simp,λj hj=>?_⟩ h
   simp at hj;have:=E args[j] (by rw[A];simp[Op.operands,Call.operands])
   simpa [hj]using this
  .exact h.elim
 case h_20 fn first cs A=>
  split at h
  case h_2=>exact h.elim
  rename_i g hf;have hf:first= #[]:=by cases first;simp at hf;simp[hf]
  subst hf;refine VB wr A ⟨by simp,λj hj=>?_⟩ h
  simp at hj;have:=E cs[j] (by rw[A];simp[Op.operands])
  simpa [hj]using this
 case h_21 t x A=>exact VA wr A (E x (by simp[A,Op.operands])) h
 case h_22 t n A=>exact K2 wr A h
 case h_23 t x i co A=>exact MM wr A (E x (by simp[A,Op.operands])) (E i (by simp[A,Op.operands])) h
 all_goals exact h.elim
def Au.sub{r r':V}(J:Sub r r')(E:Au P o a w σ D ρ r):Au P o a w σ D ρ r':=
 λnext Q U=>E next Q λv' w' D' fp Y O W B A e=>U v' w' D' fp Y (Rel.sub J O) W B A e
def qop(P:Program)(σ:List V)(ev:Operand->V)(op:Op)(K:V->Prop):Prop:=Oc P σ ev op λe=>∃r,Sub e r/\K r
def Oa(A:Wok w)(wr:Bl σ w D ρ F){ev:Operand->V}(B:∀x∈o.op.operands,OpR σ w D ρ F (ev x) (a.eval x))(h:qop P σ ev o.op K):∃r,K r/\Au P o a w σ D ρ r:=by
 obtain⟨r0,⟨r,e,E⟩,hy⟩:=Vx A wr B h;exact⟨r,E,hy.sub e⟩
end
end Go.Ve


namespace Go.Ve
def isN:V->Bool
 |.nd _ own _ _ _=>own
 |.mp own _=>own
 |_=>false
def Ov(id:Nat)(p:List (Nat×Nat))(i k:Nat)(c:V)(cs σ:List V)(K:List V->List V->(V->V)->Prop):Prop:=
 match c with
 |.c y=>match isN (Cq σ id p i k)with
  |true=>K (cs.map (AJ id (p++[(i,k)]))) (σ.set id (upd (p++[(i,k)]) (σ.getD id .dead) (.c y))) (AJ id (p++[(i,k)]))
  |false=>K cs (σ.set id (upd (p++[(i,k)]) (σ.getD id .dead) (.c y))) (λv=>v)
 |.nd s false sz n f=>K (cs.map (AJ id (p++[(i,k)]))) (σ.set id (upd (p++[(i,k)]) (σ.getD id .dead) (.nd s false sz n f))) (AJ id (p++[(i,k)]))
 |.mp false l=>K (cs.map (AJ id (p++[(i,k)]))) (σ.set id (upd (p++[(i,k)]) (σ.getD id .dead) (.mp false l))) (AJ id (p++[(i,k)]))
 |.rs j q off len=>match sub q (σ.getD j .dead)with
  |.nd true true sz n f=>if j=id/\q=p++[(i,k)]then K (cs.map (AJ id (p++[(i,k)]))) (σ.set id (upd (p++[(i,k)]) (σ.getD id .dead) (.nd true true sz len λa b=>f (a+off) b))) (AJ id (p++[(i,k)]))else(off=0/\len=n/\j≠id)/\match q with
   |[]=>K (cs.map (A5 id (p++[(i,k)]) j)) ((σ.set id (upd (p++[(i,k)]) (σ.getD id .dead) (σ.getD j .dead))).set j .dead) (A5 id (p++[(i,k)]) j)
   |_=>K ((cs.map (rrV j q σ.length)).map (A5 id (p++[(i,k)]) σ.length))
     (((σ.set j (upd q (σ.getD j .dead) .dead)++[V.nd true true sz n f]).set id (upd (p++[(i,k)]) (σ.getD id .dead) (.nd true true sz n f))).set σ.length .dead) (λv=>A5 id (p++[(i,k)]) σ.length (rrV j q σ.length v))
  |_=>False
 |.rp j q 0 0=>match sub q (σ.getD j .dead)with
  |.nd false true sz n f=>j≠id/\match q with
   |[]=>K (cs.map (A5 id (p++[(i,k)]) j)) ((σ.set id (upd (p++[(i,k)]) (σ.getD id .dead) (σ.getD j .dead))).set j .dead) (A5 id (p++[(i,k)]) j)
   |_=>K ((cs.map (rrV j q σ.length)).map (A5 id (p++[(i,k)]) σ.length))
     (((σ.set j (upd q (σ.getD j .dead) .dead)++[V.nd false true sz n f]).set id (upd (p++[(i,k)]) (σ.getD id .dead) (.nd false true sz n f))).set σ.length .dead) (λv=>A5 id (p++[(i,k)]) σ.length (rrV j q σ.length v))
  |_=>False
 |.rm j q=>match sub q (σ.getD j .dead)with
  |.mp true l=>j≠id/\match q with
   |[]=>K (cs.map (A5 id (p++[(i,k)]) j)) ((σ.set id (upd (p++[(i,k)]) (σ.getD id .dead) (σ.getD j .dead))).set j .dead) (A5 id (p++[(i,k)]) j)
   |_=>K ((cs.map (rrV j q σ.length)).map (A5 id (p++[(i,k)]) σ.length))
     (((σ.set j (upd q (σ.getD j .dead) .dead)++[V.mp true l]).set id (upd (p++[(i,k)]) (σ.getD id .dead) (.mp true l))).set σ.length .dead) (λv=>A5 id (p++[(i,k)]) σ.length (rrV j q σ.length v))
  |_=>False
 |_=>False
def putL(id:Nat)(p:List (Nat×Nat))(i:Nat):Nat->Nat->List V->List V->(Nat->V)->(List V->(Nat->V)->Prop)->Prop
 |0,_,_,_,_,_=>False
 |_+1,_,[],σ,t,K=>K σ t
 |m+1,k,c::cs,σ,t,K=>Ov id p i k c cs σ λe σ' G=>putL id p i m (k+1) e σ' (λi=>G (t i)) K
theorem II:∀(p:List (Nat×Nat)) (x:Nat×Nat),AT (p++[x]) p=false:=by
 intro p x;cases h:AT (p++[x]) p with
 |false=>rfl
 |true=>have:=congrArg List.length (Cp h);grind
section
variable {C:Ctx}{w:World}{D:Nat->Prop}{ρ:Nat->Value}{F:Nat->Nat->Prop}
def JU{σ:List V}(wr:Bl σ w D ρ F){id:Nat}{p:List (Nat×Nat)}{i k:Nat}{cv:Value}(h:Ak σ ρ w (.rp id p i k) cv):
  ∃s sz n f b o cap,id<σ.length/\At w p (σ.getD id .dead) (ρ id) (.nd s true sz n f) (AA s b o n cap)/\i<n/\k<sz/\cv=.pointer (some ⟨b,o+i*sz+k,none⟩)/\Cq σ id p i k=f i k/\A2 σ id p=sz/\
   (∃y,w.cell? ⟨b,o+i*sz+k,none⟩=some y)/\w.frozen? ⟨b,o+i*sz+k,none⟩=false:=by
 obtain⟨e,s,sz,n,f,b,o,cap,A,hi,U,rfl⟩:=h;obtain⟨fp1,B,_⟩:=C7 (w':=w) p _ _ _ _ _ (wr.rel id e) (λb hb h'=>wr.dD id b h' hb) A
 rcases B with⟨h0,_⟩|⟨b2,o2,W,F2,E,_,_,_,Z,_,Y⟩
 .omega
 obtain⟨rfl,rfl,_⟩:=Av E;obtain⟨y,O,_⟩:=Z i k hi U;obtain⟨⟨cs,T,J,_⟩,_⟩:=Y rfl;exact⟨s,sz,n,f,b,o,cap,e,A,hi,U,rfl,by unfold Cq;rw[<-At.sub A],by unfold A2;rw[<-At.sub A],⟨y,O⟩,J.frozen O⟩
theorem Iw{σ t cs:List V}{c:V}{ct Y:List Value}{ad cx:Value}{id:Nat}{p:List (Nat×Nat)}{i k0 k:Nat}{K:List V->List V->(V->V)->Prop}
  (h:CR C σ (t++ .rp id p i k0::c::cs) (ct++ad::cx::Y).toArray w D ρ F) (hl:ct.length=t.length) (hk:k<A2 σ id p) (J:Ov id p i k c cs σ K):
  ∃(G:V->V) (σ':List V) (b off:Nat) (ρ':Nat->Value) (F':Nat->Nat->Prop),(∃y,w.cell? ⟨b,off,none⟩=some y)/\w.frozen? ⟨b,off,none⟩=false/\cx.oneCell'=true/\
   (∃ofs,ad=.pointer (some ⟨b,ofs+k0,none⟩)/\off=ofs+k)/\
   Bb G/\K (cs.map G) σ' G/\A2 σ' id p=A2 σ id p/\CR C σ' (t.map G++ .rp id p i k0::cs.map G) (ct++ad::Y).toArray (w.setCell ⟨b,off,none⟩ cx) D ρ' F':=by
 have hp0:Ak σ ρ w (.rp id p i k0) ad:=by
  have U:=h.tm t.length (by simp)
  have e1:(t++ .rp id p i k0::c::cs).getD t.length .dead=.rp id p i k0:=by simp
  have e2:(ct++ad::cx::Y).toArray.getD t.length undef=ad:=by simp[<-hl]
  rw[e1,e2]at U;exact U.1
 have W:Rel D w (Ak σ ρ w) c cx noF:=by
  have U:=h.tm (t.length+1) (by simp)
  have e1:(t++ .rp id p i k0::c::cs).getD (t.length+1) .dead=c:=by simp[gAR]
  have e2:(ct++ad::cx::Y).toArray.getD (t.length+1) undef=cx:=by simp[<-hl,gAR]
  rw[e1,e2]at U;exact U
 obtain⟨s,sz,n,f,b,o,cap,B,ha,hi,hk0,had,_,hns,_,hfz⟩:=JU h.wr hp0;rw[hns]at hk
 -- the cell itself
 -- the lists behind a change of references that leaves the pointer alone
 have fin:∀(G:V->V) (σ':List V) (ρ':Nat->Value) (F':Nat->Nat->Prop) (w':World),Bb G->G (.rp id p i k0)=.rp id p i k0->CR C σ' ((t++ .rp id p i k0::c::cs).map G) (ct++ad::cx::Y).toArray w' D ρ' F'->
   CR C σ' (t.map G++ .rp id p i k0::cs.map G) (ct++ad::Y).toArray w' D ρ' F':=by
  intro G σ' ρ' F' w' hG hGp A;have e:(t++ .rp id p i k0::c::cs).map G=t.map G++ .rp id p i k0::G c::cs.map G:=by simp[hGp]
  rw[e]at A;have hs:=A.sz;simp at hs;refine⟨A.wr,by simp;omega,λj hj=>?_,A.fr,A.Fn,A.D1,A.D2,A.rt,A.ml⟩
  simp at hj;by_cases hjt:j<=t.length
  .have U:=A.tm j (by simp;omega)
   have e1:(t.map G++ .rp id p i k0::G c::cs.map G).getD j .dead=(t.map G++ .rp id p i k0::cs.map G).getD j .dead:=by
    by_cases hlt:j<t.length
    .simp[gDE,gAL,hlt]
    .obtain rfl:j=t.length:=by omega
     simp[gAR]
   have e2:(ct++ad::cx::Y).toArray.getD j undef=(ct++ad::Y).toArray.getD j undef:=by
    by_cases hlt:j<ct.length
    .simp[gAL,hlt]
    .obtain rfl:j=ct.length:=by omega
     simp[gAR]
   rw[e1,e2]at U;exact U
  .have U:=A.tm (j+1) (by simp;omega)
   have e1:(t.map G++ .rp id p i k0::G c::cs.map G).getD (j+1) .dead=(t.map G++ .rp id p i k0::cs.map G).getD j .dead:=by
    obtain⟨l,rfl⟩:∃l,j=t.length+1+l:=⟨j-t.length-1,by omega⟩
    simp only[gDE];rw[gAR (by simp;omega),gAR (by simp;omega)]
    simp only[List.length_map];rw[show t.length+1+l+1-t.length=l+1+1 by omega,show t.length+1+l-t.length=l+1 by omega]
    rfl
   have e2:(ct++ad::cx::Y).toArray.getD (j+1) undef=(ct++ad::Y).toArray.getD j undef:=by
    obtain⟨l,rfl⟩:∃l,j=ct.length+1+l:=⟨j-ct.length-1,by omega⟩
    simp only[Array.getD_eq_getD_getElem?,List.getElem?_toArray];rw[gAR (by omega),gAR (by omega)]
    rw[show ct.length+1+l+1-ct.length=l+1+1 by omega,show ct.length+1+l-ct.length=l+1 by omega]
    rfl
   rw[e1,e2]at U;exact U
 have hat:∃ofs,ad=.pointer (some ⟨b,ofs+k0,none⟩)/\o+i*sz+k=ofs+k:=⟨o+i*sz,had,rfl⟩
 have hnsz:∀x,A2 (σ.set id (upd (p++[(i,k)]) (σ.getD id .dead) x)) id p=sz:=by
  intro x;unfold A2;rw[Ah B,Hj p _ _ _ (At.ok ha),JL p _ _ (At.ok ha),<-At.sub ha];rfl
 have hcy0:∃y,w.cell? ⟨b,o+i*sz+k,none⟩=some y:=by
  obtain⟨fp1,hr1,_⟩:=C7 (w':=w) p _ _ _ _ _ (h.wr.rel id B) (λb hb h'=>h.wr.dD id b h' hb) ha
  rcases hr1 with⟨h0,_⟩|⟨b2,o2,cap2,F2,hcv,_,_,_,hc,_⟩
  .omega
  obtain⟨rfl,rfl,_⟩:=Av hcv;obtain⟨y,hy,_⟩:=hc i k hi hk;exact⟨y,hy⟩
 have hfz0:w.frozen? ⟨b,o+i*sz+k,none⟩=false:=by
  have e:w.frozen? ⟨b,o+i*sz+k0,none⟩=false:=hfz;obtain⟨fp1,hr1,_⟩:=C7 (w':=w) p _ _ _ _ _ (h.wr.rel id B) (λb hb h'=>h.wr.dD id b h' hb) ha
  rcases hr1 with⟨h0,_⟩|⟨b2,o2,cap2,F2,hcv,_,_,_,hc,_,ho⟩
  .omega
  obtain⟨rfl,rfl,_⟩:=Av hcv;obtain⟨⟨cs,T,hb1,_⟩,_⟩:=ho rfl;obtain⟨y,hy,_⟩:=hc i k hi hk;exact hb1.frozen hy
 have hcellk:Cq σ id p i k=f i k:=by unfold Cq;rw[<-At.sub ha]
 have kp:AJ id (p++[(i,k)]) (.rp id p i k0)=.rp id p i k0:=by simp[AJ,II]
 have mp:∀j,j≠id->A5 id (p++[(i,k)]) j (.rp id p i k0)=.rp id p i k0:=by intro j hj;simp[A5,II,Ne.symm hj]
 -- a whole tree that is moved in
 have move:∀(σ:List V) (t cs:List V) (ρ:Nat->Value) (F:Nat->Nat->Prop) (j:Nat) (c':V),CR C σ (t++ .rp id p i k0::c'::cs) (ct++ad::cx::Y).toArray w D ρ F->id<σ.length->j<σ.length->j≠id->
   At w p (σ.getD id .dead) (ρ id) (.nd s true sz n f) (AA s b o n cap)->ρ j=cx->
   ∃F',CR C ((σ.set id (upd (p++[(i,k)]) (σ.getD id .dead) (σ.getD j .dead))).set j .dead) ((t++ .rp id p i k0::c'::cs).map (A5 id (p++[(i,k)]) j)) (ct++ad::cx::Y).toArray (w.setCell ⟨b,o+i*sz+k,none⟩ cx) D ρ F':=by
  intro σ t cs ρ F j c' A B hj hij ha hρ;have:=CR.store_move A B hj hij ha hi hk;rw[hρ]at this;exact this
 have nszm:∀(σ:List V) (ρ:Nat->Value) (j:Nat) (x:V),id<σ.length->j≠id->At w p (σ.getD id .dead) (ρ id) (.nd s true sz n f) (AA s b o n cap)->A2 ((σ.set id (upd (p++[(i,k)]) (σ.getD id .dead) x)).set j .dead) id p=sz:=by
  intro σ ρ j x B hj ha;unfold A2;rw[Ag hj,Ah B,Hj p _ _ _ (At.ok ha),JL p _ _ (At.ok ha),<-At.sub ha];rfl
 -- a node that is moved in
 have moved:∀(c':V) (j:Nat) (q:List (Nat×Nat)) (v1:V),c=c'->j<σ.length->j≠id->At w q (σ.getD j .dead) (ρ j) v1 cx->cx.oneCell'=true->
   (q=[]->K (cs.map (A5 id (p++[(i,k)]) j)) ((σ.set id (upd (p++[(i,k)]) (σ.getD id .dead) (σ.getD j .dead))).set j .dead) (A5 id (p++[(i,k)]) j))->
   (q≠[]->K ((cs.map (rrV j q σ.length)).map (A5 id (p++[(i,k)]) σ.length))
     (((σ.set j (upd q (σ.getD j .dead) .dead)++[v1]).set id (upd (p++[(i,k)]) (σ.getD id .dead) v1)).set σ.length .dead) (λv=>A5 id (p++[(i,k)]) σ.length (rrV j q σ.length v)))->
   ∃(G:V->V) (σ':List V) (b off:Nat) (ρ':Nat->Value) (F':Nat->Nat->Prop),(∃y,w.cell? ⟨b,off,none⟩=some y)/\w.frozen? ⟨b,off,none⟩=false/\cx.oneCell'=true/\
    (∃ofs,ad=.pointer (some ⟨b,ofs+k0,none⟩)/\off=ofs+k)/\
    Bb G/\K (cs.map G) σ' G/\A2 σ' id p=A2 σ id p/\CR C σ' (t.map G++ .rp id p i k0::cs.map G) (ct++ad::Y).toArray (w.setCell ⟨b,off,none⟩ cx) D ρ' F':=by
  intro c' j q v1 _ hj hji E U hK1 hK2;cases q with
  |nil=>
   obtain⟨_,hcn⟩:=E;obtain⟨F',A⟩:=move σ t cs ρ F j _ h B hj hji ha hcn.symm;exact⟨A5 id (p++[(i,k)]) j,_,b,_,ρ,F',hcy0,hfz0,U,hat,CD _ _ _,hK1 rfl,by rw[nszm σ ρ j _ B hji ha,hns],fin _ _ _ _ _ (CD _ _ _) (mp j hji) A⟩
  |cons a0 q0=>
   have Z:=(At.sub E).symm;obtain⟨ρ',F',A,hρ,hρo,_⟩:=CR.reroot h hj E;rw[Z]at A;have rrd:rrV j (a0::q0) σ.length (.rp id p i k0)=.rp id p i k0:=by simp[rrV,Ne.symm hji]
   have e1:(t++ .rp id p i k0::c::cs).map (rrV j (a0::q0) σ.length)=t.map (rrV j (a0::q0) σ.length)++ .rp id p i k0::rrV j (a0::q0) σ.length c::cs.map (rrV j (a0::q0) σ.length):=by
    rw[List.map_append,List.map_cons,List.map_cons,rrd]
   have hid':id<(σ.set j (upd (a0::q0) (σ.getD j .dead) .dead)++[v1]).length:=by simp;omega
   have hg1:(σ.set j (upd (a0::q0) (σ.getD j .dead) .dead)++[v1]).getD id .dead=σ.getD id .dead:=by
    rw[AD (by simpa using B),Ag hji]
   have hg2:(σ.set j (upd (a0::q0) (σ.getD j .dead) .dead)++[v1]).getD σ.length .dead=v1:=by simp
   have hlj:σ.length≠id:=by omega
   have hcr1:=A;rw[e1]at hcr1;obtain⟨F'',hcr2⟩:=move _ _ _ ρ' F' σ.length _ hcr1 hid' (by simp) hlj (by rw[hg1,hρo id B];exact ha) hρ
   rw[hg1,hg2,<-e1]at hcr2;rw[List.map_map]at hcr2;have hcomp:Bb (A5 id (p++[(i,k)]) σ.length∘rrV j (a0::q0) σ.length):=⟨λ_=>rfl,rfl,λ_ _ _ _ _=>rfl,λ_ _=>rfl,λ_ _ _=>rfl⟩
   refine⟨A5 id (p++[(i,k)]) σ.length∘rrV j (a0::q0) σ.length,_,b,_,ρ',F'',hcy0,hfz0,U,hat,hcomp,?_,?_,fin _ _ _ _ _ hcomp ?_ hcr2⟩
   .rw[<-List.map_map];exact hK2 (by simp)
   .have:=nszm (σ.set j (upd (a0::q0) (σ.getD j .dead) .dead)++[v1]) ρ' σ.length v1 hid' hlj (by rw[hg1,hρo id B];exact ha)
    rw[hg1]at this;rw[this,hns]
   .simp only[Function.comp,rrd,mp σ.length hlj]
 unfold Ov at J;split at J
 .-- a plain value
  obtain⟨rfl,U,_⟩:=W;rw[hcellk]at J;split at J
  .rename_i hN
   obtain⟨F',A⟩:=CR.store_plain h B ha hi hk (x:=.c cx) (cx:=cx) ⟨rfl,U,λ_ h=>h⟩ (.inl rfl)
   exact⟨AJ id (p++[(i,k)]),_,b,_,ρ,F',hcy0,hfz0,U,hat,Ba _ _,J,by rw[hnsz,hns],fin _ _ _ _ _ (Ba _ _) kp A⟩
  .rename_i hN
   obtain⟨F',A⟩:=CR.store_plain h B ha hi hk (x:=.c cx) (cx:=cx) ⟨rfl,U,λ_ h=>h⟩ (G:=λv=>v) (.inr ⟨rfl,(λs' sz' n' f' e=>by rw[e]at hN;cases hN),λl e=>by rw[e]at hN;cases hN⟩)
   exact⟨λv=>v,_,b,_,ρ,F',hcy0,hfz0,U,hat,⟨λ_=>rfl,rfl,λ_ _ _ _ _=>rfl,λ_ _=>rfl,λ_ _ _=>rfl⟩,by simpa using J,by rw[hnsz,hns],fin _ _ _ _ _ ⟨λ_=>rfl,rfl,λ_ _ _ _ _=>rfl,λ_ _=>rfl,λ_ _ _=>rfl⟩ rfl A⟩
 .-- something only read
  rename_i s1 sz1 n1 f1;have U:cx.oneCell'=true:=(Rel.cells1 W (λ_ _ h=>Ak.one h) rfl).2
  obtain⟨F',A⟩:=CR.store_plain h B ha hi hk (x:=.nd s1 false sz1 n1 f1) (cx:=cx) (Rel.nd_R W) (.inl rfl);exact⟨AJ id (p++[(i,k)]),_,b,_,ρ,F',hcy0,hfz0,U,hat,Ba _ _,J,by rw[hnsz,hns],fin _ _ _ _ _ (Ba _ _) kp A⟩
 .-- a map that is only read
  rename_i l;have U:cx.oneCell'=true:=(Rel.cells1 W (λ_ _ h=>Ak.one h) rfl).2
  obtain⟨F',A⟩:=CR.store_plain h B ha hi hk (x:=.mp false l) (cx:=cx) (show Rel D w noR (.mp false l) cx noF from W) (.inl rfl)
  exact⟨AJ id (p++[(i,k)]),_,b,_,ρ,F',hcy0,hfz0,U,hat,Ba _ _,J,by rw[hnsz,hns],fin _ _ _ _ _ (Ba _ _) kp A⟩
 .-- an owned slice
  rename_i j q off len;have U:cx.oneCell'=true:=Ak.one W.1;split at J
  case h_2=>exact J.elim
  rename_i sz1 n1 f1 Z;split at J
  .rename_i hjq
   obtain⟨rfl,rfl⟩:=hjq;have hcx0:=W.1;obtain⟨⟨_,sz2,n2,f2,cn,E,_,_⟩,_⟩:=W;have O:=At.sub E;rw[Z]at O;simp only[V.nd.injEq,true_and]at O;obtain⟨rfl,rfl,rfl⟩:=O;obtain⟨_,_,_,_,_,_,_,_,e3⟩:=At.split E ha;obtain⟨F',A⟩:=CR.store_part h B ha hi hk e3.1.symm hcx0;exact⟨AJ j (p++[(i,k)]),_,b,_,ρ,F',hcy0,hfz0,U,hat,Ba _ _,J,by rw[hnsz,hns],fin _ _ _ _ _ (Ba _ _) kp A⟩
  obtain⟨⟨rfl,rfl,hji⟩,J⟩:=J;obtain⟨⟨hj,sz2,n2,f2,cn,E,hle,hcv⟩,_⟩:=W;have O:=At.sub E;rw[Z]at O;simp only[V.nd.injEq,true_and]at O;obtain⟨rfl,rfl,rfl⟩:=O;have hcx:cn=cx:=by
   rcases hcv with⟨b2,o2,cap2,rfl,rfl⟩|⟨h0,_,_,hfull,_⟩
   .simp[AA]
   .exact(hfull rfl h0).symm
  subst hcx;refine moved _ j q _ rfl hj hji E U (λe=>?_) (λe=>?_)
  .subst e;exact J
  .split at J
   .exact absurd rfl e
   .exact J
 .-- an owned object
  rename_i j q;have U:cx.oneCell'=true:=Ak.one W.1;split at J
  case h_2=>exact J.elim
  rename_i sz1 n1 f1 Z;obtain⟨hji,J⟩:=J;obtain⟨⟨hj,s2,sz2,n2,f2,b2,o2,cap2,E,_,_,hcv⟩,_⟩:=W;have O:=At.sub E;rw[Z]at O;simp only[V.nd.injEq,true_and]at O;obtain⟨rfl,rfl,rfl,rfl⟩:=O;have hcx:AA false b2 o2 n2 cap2=cx:=by rw[hcv];simp[AA]
  rw[hcx]at E;refine moved _ j q _ rfl hj hji E U (λe=>?_) (λe=>?_)
  .subst e;exact J
  .split at J
   .exact absurd rfl e
   .exact J
 .-- an owned map
  rename_i j q;have U:cx.oneCell'=true:=Ak.one W.1;split at J
  case h_2=>exact J.elim
  rename_i l Z;obtain⟨hji,J⟩:=J;obtain⟨⟨hj,l2,b2,E,hcv⟩,_⟩:=W;have O:=At.sub E;rw[Z]at O;simp only[V.mp.injEq,true_and]at O;subst O;refine moved _ j q _ rfl hj hji E U (λe=>?_) (λe=>?_)
  .subst e;exact J
  .split at J
   .exact absurd rfl e
   .exact J
 .exact J.elim
end
end Go.Ve

