/- The small machine's steps: an operation, by its kind. -/
import Derived.Test.YteakdlfnmhlifaaVm
set_option linter.all false
namespace Go.Ve
def LZ(v:Value):V:=
 match v with
 |.agg cs=>if cs.toList.all (·.oneCell')=true then Ah (cs.toList.map .c)else .dead
 |v=>if v.oneCell'=true then .c v else .dead
structure Ms where
 t:Nat->V
 σ:List V
def fnV(f:Nat):V:=bif Nat.blt f 1000000 then .many (.cl f) 0 (λ_=>.dead)else .c (.func (.func f) #[] #[])
def Qe{D:Nat->Prop}{w:World}{R:V->Value->Prop}{f:Nat}:Rel D w R (fnV f) (.func (.func f) #[] #[]) noF:=by
 unfold fnV;cases h:Nat.blt f 1000000 with
 |true=>exact⟨#[],λ_=>noF,(Pb h).symm,rfl,λk A=>by omega,λ_ _ _ _ _ _ h=>h.elim,λb=>⟨λh=>h.elim,fun⟨_,_,h⟩=>h⟩⟩
 |false=>exact⟨rfl,rfl,λ_ h=>h⟩
def Ms.ev(S:Ms):Operand->V
 |.tmp t=>S.t t
 |.const v=>LZ v
 |.global g=>.c (.pointer (some ⟨g,0,none⟩))
 |.func f=>fnV f
def AD(t:Nat->V)(d:Nat)(v:V):Nat->V:=λi=>if i=d then v else t i
structure BW where
 n:Nat
 fz:List Nat
 keep:Nat
def Ms.res(S:Ms)(h:BW)(d:Option Nat)(r:V):Ms:=
 match d with
 |some d=>if d<h.n then(if h.fz.contains d then⟨AD S.t d (frz r),S.σ⟩else⟨AD S.t d (prom r S.σ.length).1,S.σ++(prom r S.σ.length).2⟩)else S
 |none=>S
def ResK(h:BW)(d:Option Nat)(S:Ms)(K:Ms->Prop)(r:V):Prop:=K (S.res h d r)
def Acx(l:LenI)(v:V):Bool:=
 match l,v with
 |.string,.c (.string _)=>true
 |.slice,.c (.string _)=>false
 |.slice,_=>true
 |_,_=>false
def DK(b:Builtin)(x y:V)(K:V->Prop):Prop:=
 match b,x,y with
 |.min,.c (.int k x),.c (.int _ y)=>K (.c (.int k (if y<x then y else x)))
 |.max,.c (.int k x),.c (.int _ y)=>K (.c (.int k (if x<y then y else x)))
 |_,_,_=>False
def MO(P:Program)(σ:List V)(b:Builtin)(args:List V)(ats:List TypeId)(K:V->Prop):Prop:=
 match b,args,ats with
 |.len,[x],[t]=>(Acx (ND P t) x=true/\qLen x K)\/((∃q,mapI P t=some q)/\qLenM σ x K)
 |.min,[x,y],_=>DK .min x y K
 |.max,[x,y],_=>DK .max x y K
 |_,_,_=>False
def Oe(P:Program)(σ:List V)(ev:Operand->V)(op:Op)(K:V->Prop):Prop:=
 match op with
 |.move x=>Xt (ev x) K
 |.assign x=>Xt (ev x) K
 |.pick c x y=>Xs (ev c) (ev x) (ev y) K
 |.load t x=>Iu (tyI P t) σ (ev x) K
 |.fieldAddr t x k=>J0 (VS P t k) σ (ev x) K
 |.indexAddr t x i=>B1 (slI P t) σ (ev x) (ev i) K
 |.index t x i=>(slK P t=.string/\Q5 (ev x) (ev i) K)\/(0<arI P t/\MN (arI P t) (ev x) (ev i) K)
 |.nilCheck x=>Ab8 (ev x) K
 |.binOp op t x y _=>Vx P op t x y (ev x) (ev y) K
 |.unOp op _ x=>qUn op (ev x) K
 |.convert s d x=>Ol P σ s d (ev x) K
 |.extract x i=>Cs (ev x) i K
 |.build t ps=>Lt (Abo P t) (ps.toList.map λp=>(p.1,ev p.2)) K
 |.buildSlice t n ps=>B2 (slI P t) (Ab3 P t) n (ps.toList.map λp=>(p.1,ev p.2)) K
 |.alloc t=>Ot (tyI P t) K
 |.box _ x=>qBox (ev x) K
 |.makeSlice t l c=>Xu (slI P t) (Ab3 P t) (ev l) (ev c) K
 |.slice t x B hi A=>A=none/\Lr (slK P t) σ (ev x) (B.map ev) (hi.map ev) K
 |.call c=>match c.callee with
  |.value (.func f)=>Call P f ((c.args.toList.map ev).any AR) ((c.args.toList.map ev).map (B6 σ)) K
  |.value (.tmp y)=>AaS P σ (ev (.tmp y)) (c.args.toList.map ev) K
  |.builtin b=>MO P σ b (c.args.toList.map ev) c.argTypes.toList K
  |.invoke y name=>AaT P σ (ev y) name (c.args.toList.map ev) K
  |_=>False
 |.makeFunc fn first cs=>match fn,first.toList with
  |.func g,[]=>qMkF g (cs.toList.map ev) K
  |_,_=>False
 |.makeInterface t x=>qMkI P t (ev x) K
 |.makeMap _ n=>Q4 n K
 |.lookup t x i H=>Xv P σ t (ev x) (ev i) H K
 |_=>False
section
variable {P:Program}{o:Oper}{a:Act}{w:World}{σ:List V}{D:Nat->Prop}{ρ:Nat->Value}{F:Nat->Nat->Prop}{K:V->Prop}
theorem AbV{t:TypeId}(h:slK P t=.string):P.underlying t=some .string:=by
 unfold slK at h;grind
theorem ZO{α:Type}{xs:Array α}{x:α}(h:xs.toList=[x]):xs= #[x]:=by grind
def HJ(wr:Be σ w D ρ F){b:Builtin}{x y:Operand}{U H:V}{ats:Array TypeId}(W:o.op=.call {callee:=.builtin b,args:=#[x,y],argTypes:=ats})(B:OpR σ w D ρ F U (a.eval x))(A:OpR σ w D ρ F H (a.eval y))(h:DK b U H K):∃r,K r/\Ap P o a w σ D ρ r:=by
 obtain⟨_,B,_⟩:=B;obtain⟨_,A,_⟩:=A;unfold DK at h;split at h
 .refine⟨_,h,Ap.pure wr ?_ ⟨rfl,rfl,λ_ h=>h⟩⟩
  unfold execOp;rw[W];simp[resolve,invoke,builtin,Builtin.min_,Builtin.min2,B.1,A.1]
 .refine⟨_,h,Ap.pure wr ?_ ⟨rfl,rfl,λ_ h=>h⟩⟩
  unfold execOp;rw[W];simp[resolve,invoke,builtin,Builtin.max_,Builtin.max2,B.1,A.1]
 .exact h.elim
def Vp(hk:Wok w)(wr:Be σ w D ρ F){ev:Operand->V}(H:∀x∈o.op.operands,OpR σ w D ρ F (ev x) (a.eval x))(h:Oe P σ ev o.op K):∃r,K r/\Ap P o a w σ D ρ r:=by
 have Y:∀(ps:Array (Nat×Operand)),(∀x∈(ps.toList.map (·.2)).toArray,OpR σ w D ρ F (ev x) (a.eval x))->Mh σ w D ρ F (ps.toList.map λp=>(p.1,ev p.2)) (ps.toList.map λp=>(p.1,a.eval p.2)):=by
  intro ps hp;refine⟨by simp,λj i v hj=>?_⟩
  simp only[List.getElem?_map]at hj⊢;cases hq:ps.toList[j]? with
  |none=>simp[hq]at hj
  |some q=>
   simp only[hq,Option.map_some,Option.some.injEq,Prod.mk.injEq]at hj⊢;obtain⟨rfl,rfl⟩:=hj
   exact⟨_,⟨rfl,rfl⟩,hp q.2 (by
    simp only[List.mem_toArray,List.mem_map];exact⟨q,List.mem_of_getElem? hq,rfl⟩)⟩
 have opt:∀(Z:Option Operand),(∀x∈Z.toArray,OpR σ w D ρ F (ev x) (a.eval x))->OptR σ w D ρ F (Z.map ev) (Z.map a.eval):=by
  intro Z W;cases Z with
  |none=>trivial
  |some x=>exact W x (by simp)
 unfold Oe at h;split at h
 case h_1 x A=>exact JY wr (.inl A) (H x (by simp[A,Op.operands])) h
 case h_2 x A=>exact JY wr (.inr A) (H x (by simp[A,Op.operands])) h
 case h_3 c x y A=>exact PL wr A (H c (by simp[A,Op.operands])) (H x (by simp[A,Op.operands])) (H y (by simp[A,Op.operands])) h
 case h_4 t x A=>exact JZ wr A (H x (by simp[A,Op.operands])) h
 case h_5 t x k A=>exact Oi wr A (H x (by simp[A,Op.operands])) h
 case h_6 t x i A=>exact Jb wr A (H x (by simp[A,Op.operands])) (H i (by simp[A,Op.operands])) h
 case h_7 t x i A=>
  rcases h with h|h
  .exact Oh wr (AbV h.1) A (H x (by simp[A,Op.operands])) (H i (by simp[A,Op.operands])) h.2
  .exact MM wr h.1 A (H x (by simp[A,Op.operands])) (H i (by simp[A,Op.operands])) h.2
 case h_8 x A=>exact Vq wr A (H x (by simp[A,Op.operands])) h
 case h_9 op t x y yt A=>exact Vw wr A (H x (by simp[A,Op.operands])) (H y (by simp[A,Op.operands])) h
 case h_10 op t x A=>exact Xr wr A (H x (by simp[A,Op.operands])) h
 case h_11 s d x A=>exact Ok wr A (H x (by simp[A,Op.operands])) h
 case h_12 x i A=>exact K2 wr A (H x (by simp[A,Op.operands])) h
 case h_13 t ps A=>exact Oo wr A (Y ps λx U=>H x (by rw[A];exact U)) h
 case h_14 t n ps A=>exact Iv wr A (Y ps λx U=>H x (by rw[A];exact U)) h
 case h_15 t A=>exact Oq wr A h
 case h_16 t x A=>exact Vv wr A (H x (by simp[A,Op.operands])) h
 case h_17 t l c A=>exact PN wr A (H l (by simp[A,Op.operands])) (H c (by simp[A,Op.operands])) h
 case h_18 t x Z hi mx A=>
  obtain⟨rfl,h⟩:=h;exact Of wr A (H x (by simp[A,Op.operands])) (opt Z λy hy=>H y (by rw[A];simp only[Op.operands,Array.mem_append];exact .inl (.inl (.inr hy)))) (opt hi λy hy=>H y (by rw[A];simp only[Op.operands,Array.mem_append];exact .inl (.inr hy))) h
 case h_19 c A=>
  obtain⟨callee,args,ats⟩:=c;simp only at h;split at h
  .refine Wb hk wr A ⟨by simp,λj hj=>?_⟩ h
   simp at hj;have:=H args[j] (by rw[A];simp[Op.operands,Call.operands])
   simpa [hj]using this
  .refine Om hk wr A (H _ (by rw[A];simp[Op.operands,Call.operands])) ⟨by simp,λj hj=>?_⟩ h
   simp at hj;have:=H args[j] (by rw[A];simp[Op.operands,Call.operands])
   simpa [hj]using this
  .unfold MO at h
   have hm:∀x∈args.toList,OpR σ w D ρ F (ev x) (a.eval x):=λx U=>H x (by rw[A];simp[Op.operands,Call.operands];simpa using U)
   split at h
   .rename_i vx t B hats
    obtain⟨x,U,rfl⟩:∃x,args.toList=[x]/\ev x=vx:=by
     cases W:args.toList with
     |nil=>simp[W]at B
     |cons x l=>cases l with
      |nil=>simp[W]at B;exact⟨x,rfl,B⟩
      |cons=>simp[W]at B
    rw[ZO U,ZO hats]at A;rcases h with⟨W,h⟩|⟨⟨q,hq⟩,h⟩
    case inr=>exact PO (kt:=q.1) (et:=q.2) wr hq A (hm x (by simp[U])) h
    refine Vt wr ?_ A (hm x (by simp[U])) h
    unfold Acx at W;split at W
    .rename_i s h1 h2;exact .inl ⟨h1,s,h2⟩
    .cases W
    .rename_i h1 h2;exact .inr ⟨h1,fun⟨s,hs⟩=>h2 s hs⟩
    .cases W
   .rename_i vx vy B
    obtain⟨x,y,U,rfl,rfl⟩:∃x y,args.toList=[x,y]/\ev x=vx/\ev y=vy:=by
     match W:args.toList,B with
     |[x,y],B=>simp at B;exact⟨x,y,rfl,B⟩
     |[],B=>simp at B
     |[_],B=>simp at B
     |_::_::_::_,B=>simp at B
    have e:args= #[x,y]:=by cases args;simp at U;simp[U]
    rw[e]at A;exact HJ wr A (hm x (by simp[U])) (hm y (by simp[U])) h
   .rename_i vx vy B
    obtain⟨x,y,U,rfl,rfl⟩:∃x y,args.toList=[x,y]/\ev x=vx/\ev y=vy:=by
     match W:args.toList,B with
     |[x,y],B=>simp at B;exact⟨x,y,rfl,B⟩
     |[],B=>simp at B
     |[_],B=>simp at B
     |_::_::_::_,B=>simp at B
    have e:args= #[x,y]:=by cases args;simp at U;simp[U]
    rw[e]at A;exact HJ wr A (hm x (by simp[U])) (hm y (by simp[U])) h
   .exact h.elim
  .refine On hk wr A (H _ (by rw[A];simp[Op.operands,Call.operands])) ⟨by simp,λj hj=>?_⟩ h
   simp at hj;have:=H args[j] (by rw[A];simp[Op.operands,Call.operands])
   simpa [hj]using this
  .exact h.elim
 case h_20 fn first cs A=>
  split at h
  case h_2=>exact h.elim
  rename_i g hf;have hf:first= #[]:=by cases first;simp at hf;simp[hf]
  subst hf;refine Vs wr A ⟨by simp,λj hj=>?_⟩ h
  simp at hj;have:=H cs[j] (by rw[A];simp[Op.operands])
  simpa [hj]using this
 case h_21 t x A=>exact Vr wr A (H x (by simp[A,Op.operands])) h
 case h_22 t n A=>exact K0 wr A h
 case h_23 t x i co A=>exact ML wr A (H x (by simp[A,Op.operands])) (H i (by simp[A,Op.operands])) h
 all_goals exact h.elim
def Ap.sub{r r':V}(W:Sub r r')(U:Ap P o a w σ D ρ r):Ap P o a w σ D ρ r':=
 λnext Q Z=>U next Q λv' w' D' fp hB Y hf H B A=>Z v' w' D' fp hB (Rel.sub W Y) hf H B A
def qop(P:Program)(σ:List V)(ev:Operand->V)(op:Op)(K:V->Prop):Prop:=Oe P σ ev op λA=>∃r,Sub A r/\K r
def Oc(B:Wok w)(wr:Be σ w D ρ F){ev:Operand->V}(H:∀x∈o.op.operands,OpR σ w D ρ F (ev x) (a.eval x))(h:qop P σ ev o.op K):∃r,K r/\Ap P o a w σ D ρ r:=by
 obtain⟨r0,⟨r,A,U⟩,hy⟩:=Vp B wr H h;exact⟨r,U,hy.sub A⟩
end
end Go.Ve


namespace Go.Ve
def isN:V->Bool
 |.nd _ own _ _ _=>own
 |.mp own _=>own
 |_=>false
def MQ(id:Nat)(p:List (Nat×Nat))(i k:Nat)(c:V)(cs σ:List V)(K:List V->List V->(V->V)->Prop):Prop:=
 match c with
 |.c y=>match isN (Co σ id p i k)with
  |true=>K (cs.map (AF id (p++[(i,k)]))) (σ.set id (upd (p++[(i,k)]) (σ.getD id .dead) (.c y))) (AF id (p++[(i,k)]))
  |false=>K cs (σ.set id (upd (p++[(i,k)]) (σ.getD id .dead) (.c y))) (λv=>v)
 |.nd s false sz n f=>K (cs.map (AF id (p++[(i,k)]))) (σ.set id (upd (p++[(i,k)]) (σ.getD id .dead) (.nd s false sz n f))) (AF id (p++[(i,k)]))
 |.mp false l=>K (cs.map (AF id (p++[(i,k)]))) (σ.set id (upd (p++[(i,k)]) (σ.getD id .dead) (.mp false l))) (AF id (p++[(i,k)]))
 |.rs j q off len=>match sub q (σ.getD j .dead)with
  |.nd true true sz n f=>if j=id/\q=p++[(i,k)]then K (cs.map (AF id (p++[(i,k)]))) (σ.set id (upd (p++[(i,k)]) (σ.getD id .dead) (.nd true true sz len λa b=>f (a+off) b))) (AF id (p++[(i,k)]))else(off=0/\len=n/\j≠id)/\match q with
   |[]=>K (cs.map (AY id (p++[(i,k)]) j)) ((σ.set id (upd (p++[(i,k)]) (σ.getD id .dead) (σ.getD j .dead))).set j .dead) (AY id (p++[(i,k)]) j)
   |_=>K ((cs.map (rrV j q σ.length)).map (AY id (p++[(i,k)]) σ.length))
     (((σ.set j (upd q (σ.getD j .dead) .dead)++[V.nd true true sz n f]).set id (upd (p++[(i,k)]) (σ.getD id .dead) (.nd true true sz n f))).set σ.length .dead) (λv=>AY id (p++[(i,k)]) σ.length (rrV j q σ.length v))
  |_=>False
 |.rp j q 0 0=>match sub q (σ.getD j .dead)with
  |.nd false true sz n f=>j≠id/\match q with
   |[]=>K (cs.map (AY id (p++[(i,k)]) j)) ((σ.set id (upd (p++[(i,k)]) (σ.getD id .dead) (σ.getD j .dead))).set j .dead) (AY id (p++[(i,k)]) j)
   |_=>K ((cs.map (rrV j q σ.length)).map (AY id (p++[(i,k)]) σ.length))
     (((σ.set j (upd q (σ.getD j .dead) .dead)++[V.nd false true sz n f]).set id (upd (p++[(i,k)]) (σ.getD id .dead) (.nd false true sz n f))).set σ.length .dead) (λv=>AY id (p++[(i,k)]) σ.length (rrV j q σ.length v))
  |_=>False
 |.rm j q=>match sub q (σ.getD j .dead)with
  |.mp true l=>j≠id/\match q with
   |[]=>K (cs.map (AY id (p++[(i,k)]) j)) ((σ.set id (upd (p++[(i,k)]) (σ.getD id .dead) (σ.getD j .dead))).set j .dead) (AY id (p++[(i,k)]) j)
   |_=>K ((cs.map (rrV j q σ.length)).map (AY id (p++[(i,k)]) σ.length))
     (((σ.set j (upd q (σ.getD j .dead) .dead)++[V.mp true l]).set id (upd (p++[(i,k)]) (σ.getD id .dead) (.mp true l))).set σ.length .dead) (λv=>AY id (p++[(i,k)]) σ.length (rrV j q σ.length v))
  |_=>False
 |_=>False
def putL(id:Nat)(p:List (Nat×Nat))(i:Nat):Nat->Nat->List V->List V->(Nat->V)->(List V->(Nat->V)->Prop)->Prop
 |0,_,_,_,_,_=>False
 |_+1,_,[],σ,t,K=>K σ t
 |m+1,k,c::cs,σ,t,K=>MQ id p i k c cs σ λA σ' G=>putL id p i m (k+1) A σ' (λi=>G (t i)) K
theorem IF:∀(p:List (Nat×Nat)) (x:Nat×Nat),AN (p++[x]) p=false:=by
 intro p x;cases h:AN (p++[x]) p with
 |false=>rfl
 |true=>have:=congrArg List.length (CG h);grind
section
variable {C:Ctx}{w:World}{D:Nat->Prop}{ρ:Nat->Value}{F:Nat->Nat->Prop}
def JS{σ:List V}(wr:Be σ w D ρ F){id:Nat}{p:List (Nat×Nat)}{i k:Nat}{cv:Value}(h:Ae σ ρ w (.rp id p i k) cv):
  ∃s sz n f b o cap,id<σ.length/\At w p (σ.getD id .dead) (ρ id) (.nd s true sz n f) (Av s b o n cap)/\i<n/\k<sz/\cv=.pointer (some ⟨b,o+i*sz+k,none⟩)/\Co σ id p i k=f i k/\AW σ id p=sz/\
   (∃y,w.cell? ⟨b,o+i*sz+k,none⟩=some y)/\w.frozen? ⟨b,o+i*sz+k,none⟩=false:=by
 obtain⟨A,s,sz,n,f,b,o,cap,B,hi,Z,rfl⟩:=h;obtain⟨fp1,H,_⟩:=Ds (w':=w) p _ _ _ _ _ (wr.rel id A) (λb hb h'=>wr.dD id b h' hb) B
 rcases H with⟨h0,_⟩|⟨b2,o2,cap2,F2,U,_,_,_,hc,_,ho⟩
 .omega
 obtain⟨rfl,rfl,_⟩:=Am U;obtain⟨y,Y,_⟩:=hc i k hi Z;obtain⟨⟨cs,T,W,_⟩,_⟩:=ho rfl;exact⟨s,sz,n,f,b,o,cap,A,B,hi,Z,rfl,by unfold Co;rw[<-At.sub B],by unfold AW;rw[<-At.sub B],⟨y,Y⟩,W.frozen Y⟩
theorem Iw{σ t cs:List V}{c:V}{ct ccs:List Value}{ad cx:Value}{id:Nat}{p:List (Nat×Nat)}{i k0 k:Nat}{K:List V->List V->(V->V)->Prop}
  (h:CR C σ (t++ .rp id p i k0::c::cs) (ct++ad::cx::ccs).toArray w D ρ F) (hl:ct.length=t.length) (hk:k<AW σ id p) (U:MQ id p i k c cs σ K):
  ∃(G:V->V) (σ':List V) (b off:Nat) (ρ':Nat->Value) (F':Nat->Nat->Prop),(∃y,w.cell? ⟨b,off,none⟩=some y)/\w.frozen? ⟨b,off,none⟩=false/\cx.oneCell'=true/\
   (∃ofs,ad=.pointer (some ⟨b,ofs+k0,none⟩)/\off=ofs+k)/\
   A9 G/\K (cs.map G) σ' G/\AW σ' id p=AW σ id p/\CR C σ' (t.map G++ .rp id p i k0::cs.map G) (ct++ad::ccs).toArray (w.setCell ⟨b,off,none⟩ cx) D ρ' F':=by
 have hp0:Ae σ ρ w (.rp id p i k0) ad:=by
  have Y:=h.tm t.length (by simp)
  have e1:(t++ .rp id p i k0::c::cs).getD t.length .dead=.rp id p i k0:=by simp
  have e2:(ct++ad::cx::ccs).toArray.getD t.length undef=ad:=by simp[<-hl]
  rw[e1,e2]at Y;exact Y.1
 have Z:Rel D w (Ae σ ρ w) c cx noF:=by
  have Y:=h.tm (t.length+1) (by simp)
  have e1:(t++ .rp id p i k0::c::cs).getD (t.length+1) .dead=c:=by simp[gAR]
  have e2:(ct++ad::cx::ccs).toArray.getD (t.length+1) undef=cx:=by simp[<-hl,gAR]
  rw[e1,e2]at Y;exact Y
 obtain⟨s,sz,n,f,b,o,cap,B,ha,hi,hk0,had,_,hns,_,hfz⟩:=JS h.wr hp0;rw[hns]at hk
 -- the cell itself
 -- the lists behind a change of references that leaves the pointer alone
 have fin:∀(G:V->V) (σ':List V) (ρ':Nat->Value) (F':Nat->Nat->Prop) (w':World),A9 G->G (.rp id p i k0)=.rp id p i k0->CR C σ' ((t++ .rp id p i k0::c::cs).map G) (ct++ad::cx::ccs).toArray w' D ρ' F'->
   CR C σ' (t.map G++ .rp id p i k0::cs.map G) (ct++ad::ccs).toArray w' D ρ' F':=by
  intro G σ' ρ' F' w' hG hGp A;have e:(t++ .rp id p i k0::c::cs).map G=t.map G++ .rp id p i k0::G c::cs.map G:=by simp[hGp]
  rw[e]at A;have hs:=A.sz;simp at hs;refine⟨A.wr,by simp;omega,λj hj=>?_,A.fr,A.Fn,A.D1,A.D2,A.rt,A.ml⟩
  simp at hj;by_cases hjt:j<=t.length
  .have Y:=A.tm j (by simp;omega)
   have e1:(t.map G++ .rp id p i k0::G c::cs.map G).getD j .dead=(t.map G++ .rp id p i k0::cs.map G).getD j .dead:=by
    by_cases hlt:j<t.length
    .simp[gDE,gAL,hlt]
    .obtain rfl:j=t.length:=by omega
     simp[gAR]
   have e2:(ct++ad::cx::ccs).toArray.getD j undef=(ct++ad::ccs).toArray.getD j undef:=by
    by_cases hlt:j<ct.length
    .simp[gAL,hlt]
    .obtain rfl:j=ct.length:=by omega
     simp[gAR]
   rw[e1,e2]at Y;exact Y
  .have Y:=A.tm (j+1) (by simp;omega)
   have e1:(t.map G++ .rp id p i k0::G c::cs.map G).getD (j+1) .dead=(t.map G++ .rp id p i k0::cs.map G).getD j .dead:=by
    obtain⟨l,rfl⟩:∃l,j=t.length+1+l:=⟨j-t.length-1,by omega⟩
    simp only[gDE];rw[gAR (by simp;omega),gAR (by simp;omega)]
    simp only[List.length_map];rw[show t.length+1+l+1-t.length=l+1+1 by omega,show t.length+1+l-t.length=l+1 by omega]
    rfl
   have e2:(ct++ad::cx::ccs).toArray.getD (j+1) undef=(ct++ad::ccs).toArray.getD j undef:=by
    obtain⟨l,rfl⟩:∃l,j=ct.length+1+l:=⟨j-ct.length-1,by omega⟩
    simp only[Array.getD_eq_getD_getElem?,List.getElem?_toArray];rw[gAR (by omega),gAR (by omega)]
    rw[show ct.length+1+l+1-ct.length=l+1+1 by omega,show ct.length+1+l-ct.length=l+1 by omega]
    rfl
   rw[e1,e2]at Y;exact Y
 have hat:∃ofs,ad=.pointer (some ⟨b,ofs+k0,none⟩)/\o+i*sz+k=ofs+k:=⟨o+i*sz,had,rfl⟩
 have hnsz:∀x,AW (σ.set id (upd (p++[(i,k)]) (σ.getD id .dead) x)) id p=sz:=by
  intro x;unfold AW;rw[Ag B,Hg p _ _ _ (At.ok ha),JK p _ _ (At.ok ha),<-At.sub ha];rfl
 have hcy0:∃y,w.cell? ⟨b,o+i*sz+k,none⟩=some y:=by
  obtain⟨fp1,hr1,_⟩:=Ds (w':=w) p _ _ _ _ _ (h.wr.rel id B) (λb hb h'=>h.wr.dD id b h' hb) ha
  rcases hr1 with⟨h0,_⟩|⟨b2,o2,cap2,F2,hcv,_,_,_,hc,_⟩
  .omega
  obtain⟨rfl,rfl,_⟩:=Am hcv;obtain⟨y,hy,_⟩:=hc i k hi hk;exact⟨y,hy⟩
 have hfz0:w.frozen? ⟨b,o+i*sz+k,none⟩=false:=by
  have e:w.frozen? ⟨b,o+i*sz+k0,none⟩=false:=hfz;obtain⟨fp1,hr1,_⟩:=Ds (w':=w) p _ _ _ _ _ (h.wr.rel id B) (λb hb h'=>h.wr.dD id b h' hb) ha
  rcases hr1 with⟨h0,_⟩|⟨b2,o2,cap2,F2,hcv,_,_,_,hc,_,ho⟩
  .omega
  obtain⟨rfl,rfl,_⟩:=Am hcv;obtain⟨⟨cs,T,hb1,_⟩,_⟩:=ho rfl;obtain⟨y,hy,_⟩:=hc i k hi hk;exact hb1.frozen hy
 have hcellk:Co σ id p i k=f i k:=by unfold Co;rw[<-At.sub ha]
 have kp:AF id (p++[(i,k)]) (.rp id p i k0)=.rp id p i k0:=by simp[AF,IF]
 have mp:∀j,j≠id->AY id (p++[(i,k)]) j (.rp id p i k0)=.rp id p i k0:=by intro j hj;simp[AY,IF,Ne.symm hj]
 -- a whole tree that is moved in
 have move:∀(σ:List V) (t cs:List V) (ρ:Nat->Value) (F:Nat->Nat->Prop) (j:Nat) (c':V),CR C σ (t++ .rp id p i k0::c'::cs) (ct++ad::cx::ccs).toArray w D ρ F->id<σ.length->j<σ.length->j≠id->
   At w p (σ.getD id .dead) (ρ id) (.nd s true sz n f) (Av s b o n cap)->ρ j=cx->
   ∃F',CR C ((σ.set id (upd (p++[(i,k)]) (σ.getD id .dead) (σ.getD j .dead))).set j .dead) ((t++ .rp id p i k0::c'::cs).map (AY id (p++[(i,k)]) j)) (ct++ad::cx::ccs).toArray (w.setCell ⟨b,o+i*sz+k,none⟩ cx) D ρ F':=by
  intro σ t cs ρ F j c' A B hj hij ha hρ;have:=CR.store_move A B hj hij ha hi hk;rw[hρ]at this;exact this
 have nszm:∀(σ:List V) (ρ:Nat->Value) (j:Nat) (x:V),id<σ.length->j≠id->At w p (σ.getD id .dead) (ρ id) (.nd s true sz n f) (Av s b o n cap)->AW ((σ.set id (upd (p++[(i,k)]) (σ.getD id .dead) x)).set j .dead) id p=sz:=by
  intro σ ρ j x B hj ha;unfold AW;rw[Ad hj,Ag B,Hg p _ _ _ (At.ok ha),JK p _ _ (At.ok ha),<-At.sub ha];rfl
 -- a node that is moved in
 have moved:∀(c':V) (j:Nat) (q:List (Nat×Nat)) (v1:V),c=c'->j<σ.length->j≠id->At w q (σ.getD j .dead) (ρ j) v1 cx->cx.oneCell'=true->
   (q=[]->K (cs.map (AY id (p++[(i,k)]) j)) ((σ.set id (upd (p++[(i,k)]) (σ.getD id .dead) (σ.getD j .dead))).set j .dead) (AY id (p++[(i,k)]) j))->
   (q≠[]->K ((cs.map (rrV j q σ.length)).map (AY id (p++[(i,k)]) σ.length))
     (((σ.set j (upd q (σ.getD j .dead) .dead)++[v1]).set id (upd (p++[(i,k)]) (σ.getD id .dead) v1)).set σ.length .dead) (λv=>AY id (p++[(i,k)]) σ.length (rrV j q σ.length v)))->
   ∃(G:V->V) (σ':List V) (b off:Nat) (ρ':Nat->Value) (F':Nat->Nat->Prop),(∃y,w.cell? ⟨b,off,none⟩=some y)/\w.frozen? ⟨b,off,none⟩=false/\cx.oneCell'=true/\
    (∃ofs,ad=.pointer (some ⟨b,ofs+k0,none⟩)/\off=ofs+k)/\
    A9 G/\K (cs.map G) σ' G/\AW σ' id p=AW σ id p/\CR C σ' (t.map G++ .rp id p i k0::cs.map G) (ct++ad::ccs).toArray (w.setCell ⟨b,off,none⟩ cx) D ρ' F':=by
  intro c' j q v1 _ hj hji H Y hK1 hK2;cases q with
  |nil=>
   obtain⟨_,hcn⟩:=H;obtain⟨F',A⟩:=move σ t cs ρ F j _ h B hj hji ha hcn.symm;exact⟨AY id (p++[(i,k)]) j,_,b,_,ρ,F',hcy0,hfz0,Y,hat,CE _ _ _,hK1 rfl,by rw[nszm σ ρ j _ B hji ha,hns],fin _ _ _ _ _ (CE _ _ _) (mp j hji) A⟩
  |cons a0 q0=>
   have hsub:=(At.sub H).symm;obtain⟨ρ',F',A,hρ,hρo,_⟩:=CR.reroot h hj H;rw[hsub]at A;have rrd:rrV j (a0::q0) σ.length (.rp id p i k0)=.rp id p i k0:=by simp[rrV,Ne.symm hji]
   have e1:(t++ .rp id p i k0::c::cs).map (rrV j (a0::q0) σ.length)=t.map (rrV j (a0::q0) σ.length)++ .rp id p i k0::rrV j (a0::q0) σ.length c::cs.map (rrV j (a0::q0) σ.length):=by
    rw[List.map_append,List.map_cons,List.map_cons,rrd]
   have hid':id<(σ.set j (upd (a0::q0) (σ.getD j .dead) .dead)++[v1]).length:=by simp;omega
   have hg1:(σ.set j (upd (a0::q0) (σ.getD j .dead) .dead)++[v1]).getD id .dead=σ.getD id .dead:=by
    rw[Az (by simpa using B),Ad hji]
   have hg2:(σ.set j (upd (a0::q0) (σ.getD j .dead) .dead)++[v1]).getD σ.length .dead=v1:=by simp
   have hlj:σ.length≠id:=by omega
   have hcr1:=A;rw[e1]at hcr1;obtain⟨F'',hcr2⟩:=move _ _ _ ρ' F' σ.length _ hcr1 hid' (by simp) hlj (by rw[hg1,hρo id B];exact ha) hρ
   rw[hg1,hg2,<-e1]at hcr2;rw[List.map_map]at hcr2;have hcomp:A9 (AY id (p++[(i,k)]) σ.length∘rrV j (a0::q0) σ.length):=⟨λ_=>rfl,rfl,λ_ _ _ _ _=>rfl,λ_ _=>rfl,λ_ _ _=>rfl⟩
   refine⟨AY id (p++[(i,k)]) σ.length∘rrV j (a0::q0) σ.length,_,b,_,ρ',F'',hcy0,hfz0,Y,hat,hcomp,?_,?_,fin _ _ _ _ _ hcomp ?_ hcr2⟩
   .rw[<-List.map_map];exact hK2 (by simp)
   .have:=nszm (σ.set j (upd (a0::q0) (σ.getD j .dead) .dead)++[v1]) ρ' σ.length v1 hid' hlj (by rw[hg1,hρo id B];exact ha)
    rw[hg1]at this;rw[this,hns]
   .simp only[Function.comp,rrd,mp σ.length hlj]
 unfold MQ at U;split at U
 .-- a plain value
  obtain⟨rfl,Y,_⟩:=Z;rw[hcellk]at U;split at U
  .rename_i hN
   obtain⟨F',A⟩:=CR.store_plain h B ha hi hk (x:=.c cx) (cx:=cx) ⟨rfl,Y,λ_ h=>h⟩ (.inl rfl)
   exact⟨AF id (p++[(i,k)]),_,b,_,ρ,F',hcy0,hfz0,Y,hat,A5 _ _,U,by rw[hnsz,hns],fin _ _ _ _ _ (A5 _ _) kp A⟩
  .rename_i hN
   obtain⟨F',A⟩:=CR.store_plain h B ha hi hk (x:=.c cx) (cx:=cx) ⟨rfl,Y,λ_ h=>h⟩ (G:=λv=>v) (.inr ⟨rfl,(λs' sz' n' f' e=>by rw[e]at hN;cases hN),λl e=>by rw[e]at hN;cases hN⟩)
   exact⟨λv=>v,_,b,_,ρ,F',hcy0,hfz0,Y,hat,⟨λ_=>rfl,rfl,λ_ _ _ _ _=>rfl,λ_ _=>rfl,λ_ _ _=>rfl⟩,by simpa using U,by rw[hnsz,hns],fin _ _ _ _ _ ⟨λ_=>rfl,rfl,λ_ _ _ _ _=>rfl,λ_ _=>rfl,λ_ _ _=>rfl⟩ rfl A⟩
 .-- something only read
  rename_i s1 sz1 n1 f1;have Y:cx.oneCell'=true:=(Rel.cells1 Z (λ_ _ h=>Ae.one h) rfl).2
  obtain⟨F',A⟩:=CR.store_plain h B ha hi hk (x:=.nd s1 false sz1 n1 f1) (cx:=cx) (Rel.nd_R Z) (.inl rfl);exact⟨AF id (p++[(i,k)]),_,b,_,ρ,F',hcy0,hfz0,Y,hat,A5 _ _,U,by rw[hnsz,hns],fin _ _ _ _ _ (A5 _ _) kp A⟩
 .-- a map that is only read
  rename_i l;have Y:cx.oneCell'=true:=(Rel.cells1 Z (λ_ _ h=>Ae.one h) rfl).2
  obtain⟨F',A⟩:=CR.store_plain h B ha hi hk (x:=.mp false l) (cx:=cx) (show Rel D w noR (.mp false l) cx noF from Z) (.inl rfl)
  exact⟨AF id (p++[(i,k)]),_,b,_,ρ,F',hcy0,hfz0,Y,hat,A5 _ _,U,by rw[hnsz,hns],fin _ _ _ _ _ (A5 _ _) kp A⟩
 .-- an owned slice
  rename_i j q off len;have Y:cx.oneCell'=true:=Ae.one Z.1;split at U
  case h_2=>exact U.elim
  rename_i sz1 n1 f1 hsub;split at U
  .rename_i hjq
   obtain⟨rfl,rfl⟩:=hjq;have hcx0:=Z.1;obtain⟨⟨_,sz2,n2,f2,cn,H,_,_⟩,_⟩:=Z;have W:=At.sub H;rw[hsub]at W;simp only[V.nd.injEq,true_and]at W;obtain⟨rfl,rfl,rfl⟩:=W;obtain⟨_,_,_,_,_,_,_,_,e3⟩:=At.split H ha;obtain⟨F',A⟩:=CR.store_part h B ha hi hk e3.1.symm hcx0;exact⟨AF j (p++[(i,k)]),_,b,_,ρ,F',hcy0,hfz0,Y,hat,A5 _ _,U,by rw[hnsz,hns],fin _ _ _ _ _ (A5 _ _) kp A⟩
  obtain⟨⟨rfl,rfl,hji⟩,U⟩:=U;obtain⟨⟨hj,sz2,n2,f2,cn,H,hle,hcv⟩,_⟩:=Z;have W:=At.sub H;rw[hsub]at W;simp only[V.nd.injEq,true_and]at W;obtain⟨rfl,rfl,rfl⟩:=W;have hcx:cn=cx:=by
   rcases hcv with⟨b2,o2,cap2,rfl,rfl⟩|⟨h0,_,_,hfull,_⟩
   .simp[Av]
   .exact(hfull rfl h0).symm
  subst hcx;refine moved _ j q _ rfl hj hji H Y (λe=>?_) (λe=>?_)
  .subst e;exact U
  .split at U
   .exact absurd rfl e
   .exact U
 .-- an owned object
  rename_i j q;have Y:cx.oneCell'=true:=Ae.one Z.1;split at U
  case h_2=>exact U.elim
  rename_i sz1 n1 f1 hsub;obtain⟨hji,U⟩:=U;obtain⟨⟨hj,s2,sz2,n2,f2,b2,o2,cap2,H,_,_,hcv⟩,_⟩:=Z;have W:=At.sub H;rw[hsub]at W;simp only[V.nd.injEq,true_and]at W;obtain⟨rfl,rfl,rfl,rfl⟩:=W;have hcx:Av false b2 o2 n2 cap2=cx:=by rw[hcv];simp[Av]
  rw[hcx]at H;refine moved _ j q _ rfl hj hji H Y (λe=>?_) (λe=>?_)
  .subst e;exact U
  .split at U
   .exact absurd rfl e
   .exact U
 .-- an owned map
  rename_i j q;have Y:cx.oneCell'=true:=Ae.one Z.1;split at U
  case h_2=>exact U.elim
  rename_i l hsub;obtain⟨hji,U⟩:=U;obtain⟨⟨hj,l2,b2,H,hcv⟩,_⟩:=Z;have W:=At.sub H;rw[hsub]at W;simp only[V.mp.injEq,true_and]at W;subst W;refine moved _ j q _ rfl hj hji H Y (λe=>?_) (λe=>?_)
  .subst e;exact U
  .split at U
   .exact absurd rfl e
   .exact U
 .exact U.elim
end
end Go.Ve

