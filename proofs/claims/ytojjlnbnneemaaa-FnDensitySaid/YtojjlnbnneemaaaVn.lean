/- The small machine's steps: an operation, by its kind. -/
import Derived.Test.YtojjlnbnneemaaaVm
set_option linter.all false
namespace Go.Ve
def Lc(v:Value):V:=
 match v with
 |.agg cs=>if cs.toList.all (·.oneCell')=true then Am (cs.toList.map .c)else .dead
 |v=>if v.oneCell'=true then .c v else .dead
structure Ms where
 t:Nat->V
 σ:List V
def fnV(f:Nat):V:=bif Nat.blt f 1000000 then .many (.cl f) 0 (λ_=>.dead)else .c (.func (.func f) #[] #[])
def Pq{D:Nat->Prop}{w:World}{R:V->Value->Prop}{f:Nat}:Rel D w R (fnV f) (.func (.func f) #[] #[]) noF:=by
 unfold fnV;cases h:Nat.blt f 1000000 with
 |true=>exact⟨#[],λ_=>noF,(cloV_f h).symm,rfl,λk u=>by omega,λ_ _ _ _ _ _ h=>h.elim,λb=>⟨λh=>h.elim,fun⟨_,_,h⟩=>h⟩⟩
 |false=>exact⟨rfl,rfl,λ_ h=>h⟩
def Ms.ev(S:Ms):Operand->V
 |.tmp t=>S.t t
 |.const v=>Lc v
 |.global g=>.c (.pointer (some ⟨g,0,none⟩))
 |.func f=>fnV f
def AI(t:Nat->V)(d:Nat)(v:V):Nat->V:=λi=>if i=d then v else t i
structure Cy where
 n:Nat
 fz:List Nat
 keep:Nat
def Ms.res(S:Ms)(h:Cy)(d:Option Nat)(r:V):Ms:=
 match d with
 |some d=>if d<h.n then(if h.fz.contains d then⟨AI S.t d (frz r),S.σ⟩else⟨AI S.t d (prom r S.σ.length).1,S.σ++(prom r S.σ.length).2⟩)else S
 |none=>S
def ResK(h:Cy)(d:Option Nat)(S:Ms)(K:Ms->Prop)(r:V):Prop:=K (S.res h d r)
def Aby(l:LenI)(v:V):Bool:=
 match l,v with
 |.string,.c (.string _)=>true
 |.slice,.c (.string _)=>false
 |.slice,_=>true
 |_,_=>false
def DG(b:Builtin)(x y:V)(K:V->Prop):Prop:=
 match b,x,y with
 |.min,.c (.int k x),.c (.int _ y)=>K (.c (.int k (if y<x then y else x)))
 |.max,.c (.int k x),.c (.int _ y)=>K (.c (.int k (if x<y then y else x)))
 |_,_,_=>False
def LW(P:Program)(σ:List V)(b:Builtin)(args:List V)(u:List TypeId)(K:V->Prop):Prop:=
 match b,args,u with
 |.len,[x],[t]=>(Aby (MV P t) x=true/\qLen x K)\/((∃q,Vf P t=some q)/\qLenM σ x K)
 |.min,[x,y],_=>DG .min x y K
 |.max,[x,y],_=>DG .max x y K
 |_,_,_=>False
def Nu(P:Program)(σ:List V)(ev:Operand->V)(op:Op)(K:V->Prop):Prop:=
 match op with
 |.move x=>Wp (ev x) K
 |.assign x=>Wp (ev x) K
 |.pick c x y=>Wo (ev c) (ev x) (ev y) K
 |.load t x=>Ib (tyI P t) σ (ev x) K
 |.fieldAddr t x k=>Ju (US P t k) σ (ev x) K
 |.indexAddr t x i=>B9 (slI P t) σ (ev x) (ev i) K
 |.index t x i=>(slK P t=.string/\ZN (ev x) (ev i) K)\/(0<arI P t/\Ws (arI P t) (ev x) (ev i) K)
 |.nilCheck x=>Abb (ev x) K
 |.binOp op t x y _=>Uv P op t x y (ev x) (ev y) K
 |.unOp op _ x=>qUn op (ev x) K
 |.convert s d x=>KN P σ s d (ev x) K
 |.extract x i=>CC (ev x) i K
 |.build t ps=>KO (Aas P t) (ps.toList.map λp=>(p.1,ev p.2)) K
 |.buildSlice t n ps=>Cb (slI P t) (Bs P t) n (ps.toList.map λp=>(p.1,ev p.2)) K
 |.alloc t=>NG (tyI P t) K
 |.box _ x=>qBox (ev x) K
 |.makeSlice t l c=>Wq (slI P t) (Bs P t) (ev l) (ev c) K
 |.slice t x A B u=>u=none/\KL (slK P t) σ (ev x) (A.map ev) (B.map ev) K
 |.call c=>match c.callee with
  |.value (.func f)=>Call P f ((c.args.toList.map ev).any AU) ((c.args.toList.map ev).map (Ce σ)) K
  |.value (.tmp y)=>ZO P σ (ev (.tmp y)) (c.args.toList.map ev) K
  |.builtin b=>LW P σ b (c.args.toList.map ev) c.argTypes.toList K
  |.invoke y name=>ZP P σ (ev y) name (c.args.toList.map ev) K
  |_=>False
 |.makeFunc fn first cs=>match fn,first.toList with
  |.func g,[]=>qMkF g (cs.toList.map ev) K
  |_,_=>False
 |.makeInterface t x=>qMkI P t (ev x) K
 |.makeMap _ n=>Qc n K
 |.lookup t x i co=>Wr P σ t (ev x) (ev i) co K
 |_=>False
section
variable {P:Program}{o:Oper}{a:Act}{w:World}{σ:List V}{D:Nat->Prop}{ρ:Nat->Value}{F:Nat->Nat->Prop}{K:V->Prop}
theorem V1{t:TypeId}(h:slK P t=.string):P.underlying t=some .string:=by
 unfold slK at h;grind
theorem YV{α:Type}{xs:Array α}{x:α}(h:xs.toList=[x]):xs= #[x]:=by grind
def HA(wr:Bu σ w D ρ F){b:Builtin}{x y:Operand}{J E:V}{B:Array TypeId}(O:o.op=.call {callee:=.builtin b,args:=#[x,y],argTypes:=B})(A:OpR σ w D ρ F J (a.eval x))(u:OpR σ w D ρ F E (a.eval y))(h:DG b J E K):∃r,K r/\Av P o a w σ D ρ r:=by
 obtain⟨_,A,_⟩:=A;obtain⟨_,u,_⟩:=u;unfold DG at h;split at h
 .refine⟨_,h,Av.pure wr ?_ ⟨rfl,rfl,λ_ h=>h⟩⟩
  unfold execOp;rw[O];simp[resolve,invoke,builtin,Builtin.min_,Builtin.min2,A.1,u.1]
 .refine⟨_,h,Av.pure wr ?_ ⟨rfl,rfl,λ_ h=>h⟩⟩
  unfold execOp;rw[O];simp[resolve,invoke,builtin,Builtin.max_,Builtin.max2,A.1,u.1]
 .exact h.elim
def Un(hk:Wok w)(wr:Bu σ w D ρ F){ev:Operand->V}(B:∀x∈o.op.operands,OpR σ w D ρ F (ev x) (a.eval x))(h:Nu P σ ev o.op K):∃r,K r/\Av P o a w σ D ρ r:=by
 have U:∀(ps:Array (Nat×Operand)),(∀x∈(ps.toList.map (·.2)).toArray,OpR σ w D ρ F (ev x) (a.eval x))->Lq σ w D ρ F (ps.toList.map λp=>(p.1,ev p.2)) (ps.toList.map λp=>(p.1,a.eval p.2)):=by
  intro ps hp;refine⟨by simp,λj i v J=>?_⟩
  simp only[List.getElem?_map]at J⊢;cases hq:ps.toList[j]? with
  |none=>simp[hq]at J
  |some q=>
   simp only[hq,Option.map_some,Option.some.injEq,Prod.mk.injEq]at J⊢;obtain⟨rfl,rfl⟩:=J
   exact⟨_,⟨rfl,rfl⟩,hp q.2 (by
    simp only[List.mem_toArray,List.mem_map];exact⟨q,List.mem_of_getElem? hq,rfl⟩)⟩
 have opt:∀(W:Option Operand),(∀x∈W.toArray,OpR σ w D ρ F (ev x) (a.eval x))->OptR σ w D ρ F (W.map ev) (W.map a.eval):=by
  intro W O;cases W with
  |none=>trivial
  |some x=>exact O x (by simp)
 unfold Nu at h;split at h
 case h_1 x u=>exact Jt wr (.inl u) (B x (by simp[u,Op.operands])) h
 case h_2 x u=>exact Jt wr (.inr u) (B x (by simp[u,Op.operands])) h
 case h_3 c x y u=>exact O0 wr u (B c (by simp[u,Op.operands])) (B x (by simp[u,Op.operands])) (B y (by simp[u,Op.operands])) h
 case h_4 t x u=>exact O2 wr u (B x (by simp[u,Op.operands])) h
 case h_5 t x k u=>exact Ny wr u (B x (by simp[u,Op.operands])) h
 case h_6 t x i u=>exact IQ wr u (B x (by simp[u,Op.operands])) (B i (by simp[u,Op.operands])) h
 case h_7 t x i u=>
  rcases h with h|h
  .exact Nx wr (V1 h.1) u (B x (by simp[u,Op.operands])) (B i (by simp[u,Op.operands])) h.2
  .exact LV wr h.1 u (B x (by simp[u,Op.operands])) (B i (by simp[u,Op.operands])) h.2
 case h_8 x u=>exact Uo wr u (B x (by simp[u,Op.operands])) h
 case h_9 op t x y yt u=>exact Uu wr u (B x (by simp[u,Op.operands])) (B y (by simp[u,Op.operands])) h
 case h_10 op t x u=>exact Wn wr u (B x (by simp[u,Op.operands])) h
 case h_11 s d x u=>exact NA wr u (B x (by simp[u,Op.operands])) h
 case h_12 x i u=>exact Ki wr u (B x (by simp[u,Op.operands])) h
 case h_13 t ps u=>exact NE wr u (U ps λx E=>B x (by rw[u];exact E)) h
 case h_14 t n ps u=>exact Ic wr u (U ps λx E=>B x (by rw[u];exact E)) h
 case h_15 t u=>exact NF wr u h
 case h_16 t x u=>exact Ut wr u (B x (by simp[u,Op.operands])) h
 case h_17 t l c u=>exact O1 wr u (B l (by simp[u,Op.operands])) (B c (by simp[u,Op.operands])) h
 case h_18 t x W hi mx u=>
  obtain⟨rfl,h⟩:=h;exact Nv wr u (B x (by simp[u,Op.operands])) (opt W λy hy=>B y (by rw[u];simp only[Op.operands,Array.mem_append];exact .inl (.inl (.inr hy)))) (opt hi λy hy=>B y (by rw[u];simp only[Op.operands,Array.mem_append];exact .inl (.inr hy))) h
 case h_19 c u=>
  obtain⟨callee,args,ats⟩:=c;simp only at h;split at h
  .refine U8 hk wr u ⟨by simp,λj J=>?_⟩ h
   simp at J;have:=B args[j] (by rw[u];simp[Op.operands,Call.operands])
   simpa [J]using this
  .refine NC hk wr u (B _ (by rw[u];simp[Op.operands,Call.operands])) ⟨by simp,λj J=>?_⟩ h
   simp at J;have:=B args[j] (by rw[u];simp[Op.operands,Call.operands])
   simpa [J]using this
  .unfold LW at h
   have Y:∀x∈args.toList,OpR σ w D ρ F (ev x) (a.eval x):=λx E=>B x (by rw[u];simp[Op.operands,Call.operands];simpa using E)
   split at h
   .rename_i Z t A hats
    obtain⟨x,E,rfl⟩:∃x,args.toList=[x]/\ev x=Z:=by
     cases O:args.toList with
     |nil=>simp[O]at A
     |cons x l=>cases l with
      |nil=>simp[O]at A;exact⟨x,rfl,A⟩
      |cons=>simp[O]at A
    rw[YV E,YV hats]at u;rcases h with⟨O,h⟩|⟨⟨q,hq⟩,h⟩
    case inr=>exact O3 (kt:=q.1) (et:=q.2) wr hq u (Y x (by simp[E])) h
    refine Ur wr ?_ u (Y x (by simp[E])) h
    unfold Aby at O;split at O
    .rename_i s h1 h2;exact .inl ⟨h1,s,h2⟩
    .cases O
    .rename_i h1 h2;exact .inr ⟨h1,fun⟨s,hs⟩=>h2 s hs⟩
    .cases O
   .rename_i Z vy A
    obtain⟨x,y,E,rfl,rfl⟩:∃x y,args.toList=[x,y]/\ev x=Z/\ev y=vy:=by
     match O:args.toList,A with
     |[x,y],A=>simp at A;exact⟨x,y,rfl,A⟩
     |[],A=>simp at A
     |[_],A=>simp at A
     |_::_::_::_,A=>simp at A
    have e:args= #[x,y]:=by cases args;simp at E;simp[E]
    rw[e]at u;exact HA wr u (Y x (by simp[E])) (Y y (by simp[E])) h
   .rename_i Z vy A
    obtain⟨x,y,E,rfl,rfl⟩:∃x y,args.toList=[x,y]/\ev x=Z/\ev y=vy:=by
     match O:args.toList,A with
     |[x,y],A=>simp at A;exact⟨x,y,rfl,A⟩
     |[],A=>simp at A
     |[_],A=>simp at A
     |_::_::_::_,A=>simp at A
    have e:args= #[x,y]:=by cases args;simp at E;simp[E]
    rw[e]at u;exact HA wr u (Y x (by simp[E])) (Y y (by simp[E])) h
   .exact h.elim
  .refine ND hk wr u (B _ (by rw[u];simp[Op.operands,Call.operands])) ⟨by simp,λj J=>?_⟩ h
   simp at J;have:=B args[j] (by rw[u];simp[Op.operands,Call.operands])
   simpa [J]using this
  .exact h.elim
 case h_20 fn first cs u=>
  split at h
  case h_2=>exact h.elim
  rename_i g hf;have hf:first= #[]:=by cases first;simp at hf;simp[hf]
  subst hf;refine Uq wr u ⟨by simp,λj J=>?_⟩ h
  simp at J;have:=B cs[j] (by rw[u];simp[Op.operands])
  simpa [J]using this
 case h_21 t x u=>exact Up wr u (B x (by simp[u,Op.operands])) h
 case h_22 t n u=>exact Kh wr u h
 case h_23 t x i co u=>exact LU wr u (B x (by simp[u,Op.operands])) (B i (by simp[u,Op.operands])) h
 all_goals exact h.elim
def Av.sub{r r':V}(J:Sub r r')(E:Av P o a w σ D ρ r):Av P o a w σ D ρ r':=
 λnext Q U=>E next Q λv' w' D' fp Y O W B A u=>U v' w' D' fp Y (Rel.sub J O) W B A u
def qop(P:Program)(σ:List V)(ev:Operand->V)(op:Op)(K:V->Prop):Prop:=Nu P σ ev op λr0=>∃r,Sub r0 r/\K r
def Ns(A:Wok w)(wr:Bu σ w D ρ F){ev:Operand->V}(B:∀x∈o.op.operands,OpR σ w D ρ F (ev x) (a.eval x))(h:qop P σ ev o.op K):∃r,K r/\Av P o a w σ D ρ r:=by
 obtain⟨r0,⟨r,u,E⟩,hy⟩:=Un A wr B h;exact⟨r,E,hy.sub u⟩
end
end Go.Ve


namespace Go.Ve
def isN:V->Bool
 |.nd _ own _ _ _=>own
 |.mp own _=>own
 |_=>false
def LY(id:Nat)(p:List (Nat×Nat))(i k:Nat)(c:V)(cs σ:List V)(K:List V->List V->(V->V)->Prop):Prop:=
 match c with
 |.c y=>match isN (Cw σ id p i k)with
  |true=>K (cs.map (AJ id (p++[(i,k)]))) (σ.set id (upd (p++[(i,k)]) (σ.getD id .dead) (.c y))) (AJ id (p++[(i,k)]))
  |false=>K cs (σ.set id (upd (p++[(i,k)]) (σ.getD id .dead) (.c y))) (λv=>v)
 |.nd s false sz n f=>K (cs.map (AJ id (p++[(i,k)]))) (σ.set id (upd (p++[(i,k)]) (σ.getD id .dead) (.nd s false sz n f))) (AJ id (p++[(i,k)]))
 |.mp false l=>K (cs.map (AJ id (p++[(i,k)]))) (σ.set id (upd (p++[(i,k)]) (σ.getD id .dead) (.mp false l))) (AJ id (p++[(i,k)]))
 |.rs j q off len=>match sub q (σ.getD j .dead)with
  |.nd true true sz n f=>if j=id/\q=p++[(i,k)]then K (cs.map (AJ id (p++[(i,k)]))) (σ.set id (upd (p++[(i,k)]) (σ.getD id .dead) (.nd true true sz len λa b=>f (a+off) b))) (AJ id (p++[(i,k)]))else(off=0/\len=n/\j≠id)/\match q with
   |[]=>K (cs.map (A9 id (p++[(i,k)]) j)) ((σ.set id (upd (p++[(i,k)]) (σ.getD id .dead) (σ.getD j .dead))).set j .dead) (A9 id (p++[(i,k)]) j)
   |_=>K ((cs.map (rrV j q σ.length)).map (A9 id (p++[(i,k)]) σ.length))
     (((σ.set j (upd q (σ.getD j .dead) .dead)++[V.nd true true sz n f]).set id (upd (p++[(i,k)]) (σ.getD id .dead) (.nd true true sz n f))).set σ.length .dead) (λv=>A9 id (p++[(i,k)]) σ.length (rrV j q σ.length v))
  |_=>False
 |.rp j q 0 0=>match sub q (σ.getD j .dead)with
  |.nd false true sz n f=>j≠id/\match q with
   |[]=>K (cs.map (A9 id (p++[(i,k)]) j)) ((σ.set id (upd (p++[(i,k)]) (σ.getD id .dead) (σ.getD j .dead))).set j .dead) (A9 id (p++[(i,k)]) j)
   |_=>K ((cs.map (rrV j q σ.length)).map (A9 id (p++[(i,k)]) σ.length))
     (((σ.set j (upd q (σ.getD j .dead) .dead)++[V.nd false true sz n f]).set id (upd (p++[(i,k)]) (σ.getD id .dead) (.nd false true sz n f))).set σ.length .dead) (λv=>A9 id (p++[(i,k)]) σ.length (rrV j q σ.length v))
  |_=>False
 |.rm j q=>match sub q (σ.getD j .dead)with
  |.mp true l=>j≠id/\match q with
   |[]=>K (cs.map (A9 id (p++[(i,k)]) j)) ((σ.set id (upd (p++[(i,k)]) (σ.getD id .dead) (σ.getD j .dead))).set j .dead) (A9 id (p++[(i,k)]) j)
   |_=>K ((cs.map (rrV j q σ.length)).map (A9 id (p++[(i,k)]) σ.length))
     (((σ.set j (upd q (σ.getD j .dead) .dead)++[V.mp true l]).set id (upd (p++[(i,k)]) (σ.getD id .dead) (.mp true l))).set σ.length .dead) (λv=>A9 id (p++[(i,k)]) σ.length (rrV j q σ.length v))
  |_=>False
 |_=>False
def putL(id:Nat)(p:List (Nat×Nat))(i:Nat):Nat->Nat->List V->List V->(Nat->V)->(List V->(Nat->V)->Prop)->Prop
 |0,_,_,_,_,_=>False
 |_+1,_,[],σ,t,K=>K σ t
 |m+1,k,c::cs,σ,t,K=>LY id p i k c cs σ λu σ' G=>putL id p i m (k+1) u σ' (λi=>G (t i)) K
theorem Im:∀(p:List (Nat×Nat)) (x:Nat×Nat),AT (p++[x]) p=false:=by
 intro p x;cases h:AT (p++[x]) p with
 |false=>rfl
 |true=>have:=congrArg List.length (Cv h);grind
section
variable {C:Ctx}{w:World}{D:Nat->Prop}{ρ:Nat->Value}{F:Nat->Nat->Prop}
def Jn{σ:List V}(wr:Bu σ w D ρ F){id:Nat}{p:List (Nat×Nat)}{i k:Nat}{cv:Value}(h:Aq σ ρ w (.rp id p i k) cv):
  ∃s sz n f b o cap,id<σ.length/\At w p (σ.getD id .dead) (ρ id) (.nd s true sz n f) (AC s b o n cap)/\i<n/\k<sz/\cv=.pointer (some ⟨b,o+i*sz+k,none⟩)/\Cw σ id p i k=f i k/\AW σ id p=sz/\
   (∃y,w.cell? ⟨b,o+i*sz+k,none⟩=some y)/\w.frozen? ⟨b,o+i*sz+k,none⟩=false:=by
 obtain⟨u,s,sz,n,f,b,o,cap,A,W,U,rfl⟩:=h;obtain⟨fp1,B,_⟩:=C9 (w':=w) p _ _ _ _ _ (wr.rel id u) (λb hb h'=>wr.dD id b h' hb) A
 rcases B with⟨h0,_⟩|⟨b2,o2,Y,F2,E,_,_,_,hc,_,Z⟩
 .omega
 obtain⟨rfl,rfl,_⟩:=Aw E;obtain⟨y,O,_⟩:=hc i k W U;obtain⟨⟨cs,T,J,_⟩,_⟩:=Z rfl;exact⟨s,sz,n,f,b,o,cap,u,A,W,U,rfl,by unfold Cw;rw[<-At.sub A],by unfold AW;rw[<-At.sub A],⟨y,O⟩,J.frozen O⟩
theorem Id{σ t cs:List V}{c:V}{ct W:List Value}{ad cx:Value}{id:Nat}{p:List (Nat×Nat)}{i k0 k:Nat}{K:List V->List V->(V->V)->Prop}
  (h:CR C σ (t++ .rp id p i k0::c::cs) (ct++ad::cx::W).toArray w D ρ F) (hl:ct.length=t.length) (hk:k<AW σ id p) (E:LY id p i k c cs σ K):
  ∃(G:V->V) (σ':List V) (b off:Nat) (ρ':Nat->Value) (F':Nat->Nat->Prop),(∃y,w.cell? ⟨b,off,none⟩=some y)/\w.frozen? ⟨b,off,none⟩=false/\cx.oneCell'=true/\
   (∃ofs,ad=.pointer (some ⟨b,ofs+k0,none⟩)/\off=ofs+k)/\
   Bb G/\K (cs.map G) σ' G/\AW σ' id p=AW σ id p/\CR C σ' (t.map G++ .rp id p i k0::cs.map G) (ct++ad::W).toArray (w.setCell ⟨b,off,none⟩ cx) D ρ' F':=by
 have hp0:Aq σ ρ w (.rp id p i k0) ad:=by
  have O:=h.tm t.length (by simp)
  have e1:(t++ .rp id p i k0::c::cs).getD t.length .dead=.rp id p i k0:=by simp
  have e2:(ct++ad::cx::W).toArray.getD t.length undef=ad:=by simp[<-hl]
  rw[e1,e2]at O;exact O.1
 have U:Rel D w (Aq σ ρ w) c cx noF:=by
  have O:=h.tm (t.length+1) (by simp)
  have e1:(t++ .rp id p i k0::c::cs).getD (t.length+1) .dead=c:=by simp[gAR]
  have e2:(ct++ad::cx::W).toArray.getD (t.length+1) undef=cx:=by simp[<-hl,gAR]
  rw[e1,e2]at O;exact O
 obtain⟨s,sz,n,f,b,o,cap,A,ha,hi,hk0,had,_,hns,_,hfz⟩:=Jn h.wr hp0;rw[hns]at hk
 -- the cell itself
 -- the lists behind a change of references that leaves the pointer alone
 have fin:∀(G:V->V) (σ':List V) (ρ':Nat->Value) (F':Nat->Nat->Prop) (w':World),Bb G->G (.rp id p i k0)=.rp id p i k0->CR C σ' ((t++ .rp id p i k0::c::cs).map G) (ct++ad::cx::W).toArray w' D ρ' F'->
   CR C σ' (t.map G++ .rp id p i k0::cs.map G) (ct++ad::W).toArray w' D ρ' F':=by
  intro G σ' ρ' F' w' hG hGp u;have e:(t++ .rp id p i k0::c::cs).map G=t.map G++ .rp id p i k0::G c::cs.map G:=by simp[hGp]
  rw[e]at u;have hs:=u.sz;simp at hs;refine⟨u.wr,by simp;omega,λj hj=>?_,u.fr,u.Fn,u.D1,u.D2,u.rt,u.ml⟩
  simp at hj;by_cases hjt:j<=t.length
  .have O:=u.tm j (by simp;omega)
   have e1:(t.map G++ .rp id p i k0::G c::cs.map G).getD j .dead=(t.map G++ .rp id p i k0::cs.map G).getD j .dead:=by
    by_cases hlt:j<t.length
    .simp[gDE,gAL,hlt]
    .obtain rfl:j=t.length:=by omega
     simp[gAR]
   have e2:(ct++ad::cx::W).toArray.getD j undef=(ct++ad::W).toArray.getD j undef:=by
    by_cases hlt:j<ct.length
    .simp[gAL,hlt]
    .obtain rfl:j=ct.length:=by omega
     simp[gAR]
   rw[e1,e2]at O;exact O
  .have O:=u.tm (j+1) (by simp;omega)
   have e1:(t.map G++ .rp id p i k0::G c::cs.map G).getD (j+1) .dead=(t.map G++ .rp id p i k0::cs.map G).getD j .dead:=by
    obtain⟨l,rfl⟩:∃l,j=t.length+1+l:=⟨j-t.length-1,by omega⟩
    simp only[gDE];rw[gAR (by simp;omega),gAR (by simp;omega)]
    simp only[List.length_map];rw[show t.length+1+l+1-t.length=l+1+1 by omega,show t.length+1+l-t.length=l+1 by omega]
    rfl
   have e2:(ct++ad::cx::W).toArray.getD (j+1) undef=(ct++ad::W).toArray.getD j undef:=by
    obtain⟨l,rfl⟩:∃l,j=ct.length+1+l:=⟨j-ct.length-1,by omega⟩
    simp only[Array.getD_eq_getD_getElem?,List.getElem?_toArray];rw[gAR (by omega),gAR (by omega)]
    rw[show ct.length+1+l+1-ct.length=l+1+1 by omega,show ct.length+1+l-ct.length=l+1 by omega]
    rfl
   rw[e1,e2]at O;exact O
 have hat:∃ofs,ad=.pointer (some ⟨b,ofs+k0,none⟩)/\o+i*sz+k=ofs+k:=⟨o+i*sz,had,rfl⟩
 have hnsz:∀x,AW (σ.set id (upd (p++[(i,k)]) (σ.getD id .dead) x)) id p=sz:=by
  intro x;unfold AW;rw[Aj A,D8 p _ _ _ (At.ok ha),Ji p _ _ (At.ok ha),<-At.sub ha];rfl
 have hcy0:∃y,w.cell? ⟨b,o+i*sz+k,none⟩=some y:=by
  obtain⟨fp1,hr1,_⟩:=C9 (w':=w) p _ _ _ _ _ (h.wr.rel id A) (λb hb h'=>h.wr.dD id b h' hb) ha
  rcases hr1 with⟨h0,_⟩|⟨b2,o2,cap2,F2,hcv,_,_,_,hc,_⟩
  .omega
  obtain⟨rfl,rfl,_⟩:=Aw hcv;obtain⟨y,hy,_⟩:=hc i k hi hk;exact⟨y,hy⟩
 have hfz0:w.frozen? ⟨b,o+i*sz+k,none⟩=false:=by
  have e:w.frozen? ⟨b,o+i*sz+k0,none⟩=false:=hfz;obtain⟨fp1,hr1,_⟩:=C9 (w':=w) p _ _ _ _ _ (h.wr.rel id A) (λb hb h'=>h.wr.dD id b h' hb) ha
  rcases hr1 with⟨h0,_⟩|⟨b2,o2,cap2,F2,hcv,_,_,_,hc,_,ho⟩
  .omega
  obtain⟨rfl,rfl,_⟩:=Aw hcv;obtain⟨⟨cs,T,hb1,_⟩,_⟩:=ho rfl;obtain⟨y,hy,_⟩:=hc i k hi hk;exact hb1.frozen hy
 have hcellk:Cw σ id p i k=f i k:=by unfold Cw;rw[<-At.sub ha]
 have kp:AJ id (p++[(i,k)]) (.rp id p i k0)=.rp id p i k0:=by simp[AJ,Im]
 have mp:∀j,j≠id->A9 id (p++[(i,k)]) j (.rp id p i k0)=.rp id p i k0:=by intro j hj;simp[A9,Im,Ne.symm hj]
 -- a whole tree that is Z in
 have move:∀(σ:List V) (t cs:List V) (ρ:Nat->Value) (F:Nat->Nat->Prop) (j:Nat) (c':V),CR C σ (t++ .rp id p i k0::c'::cs) (ct++ad::cx::W).toArray w D ρ F->id<σ.length->j<σ.length->j≠id->
   At w p (σ.getD id .dead) (ρ id) (.nd s true sz n f) (AC s b o n cap)->ρ j=cx->
   ∃F',CR C ((σ.set id (upd (p++[(i,k)]) (σ.getD id .dead) (σ.getD j .dead))).set j .dead) ((t++ .rp id p i k0::c'::cs).map (A9 id (p++[(i,k)]) j)) (ct++ad::cx::W).toArray (w.setCell ⟨b,o+i*sz+k,none⟩ cx) D ρ F':=by
  intro σ t cs ρ F j c' u A hj hij ha hρ;have:=CR.store_move u A hj hij ha hi hk;rw[hρ]at this;exact this
 have nszm:∀(σ:List V) (ρ:Nat->Value) (j:Nat) (x:V),id<σ.length->j≠id->At w p (σ.getD id .dead) (ρ id) (.nd s true sz n f) (AC s b o n cap)->AW ((σ.set id (upd (p++[(i,k)]) (σ.getD id .dead) x)).set j .dead) id p=sz:=by
  intro σ ρ j x A hj ha;unfold AW;rw[Ai hj,Aj A,D8 p _ _ _ (At.ok ha),Ji p _ _ (At.ok ha),<-At.sub ha];rfl
 -- a node that is Z in
 have Z:∀(c':V) (j:Nat) (q:List (Nat×Nat)) (v1:V),c=c'->j<σ.length->j≠id->At w q (σ.getD j .dead) (ρ j) v1 cx->cx.oneCell'=true->
   (q=[]->K (cs.map (A9 id (p++[(i,k)]) j)) ((σ.set id (upd (p++[(i,k)]) (σ.getD id .dead) (σ.getD j .dead))).set j .dead) (A9 id (p++[(i,k)]) j))->
   (q≠[]->K ((cs.map (rrV j q σ.length)).map (A9 id (p++[(i,k)]) σ.length))
     (((σ.set j (upd q (σ.getD j .dead) .dead)++[v1]).set id (upd (p++[(i,k)]) (σ.getD id .dead) v1)).set σ.length .dead) (λv=>A9 id (p++[(i,k)]) σ.length (rrV j q σ.length v)))->
   ∃(G:V->V) (σ':List V) (b off:Nat) (ρ':Nat->Value) (F':Nat->Nat->Prop),(∃y,w.cell? ⟨b,off,none⟩=some y)/\w.frozen? ⟨b,off,none⟩=false/\cx.oneCell'=true/\
    (∃ofs,ad=.pointer (some ⟨b,ofs+k0,none⟩)/\off=ofs+k)/\
    Bb G/\K (cs.map G) σ' G/\AW σ' id p=AW σ id p/\CR C σ' (t.map G++ .rp id p i k0::cs.map G) (ct++ad::W).toArray (w.setCell ⟨b,off,none⟩ cx) D ρ' F':=by
  intro c' j q v1 _ hj hji B O hK1 hK2;cases q with
  |nil=>
   obtain⟨_,hcn⟩:=B;obtain⟨F',u⟩:=move σ t cs ρ F j _ h A hj hji ha hcn.symm;exact⟨A9 id (p++[(i,k)]) j,_,b,_,ρ,F',hcy0,hfz0,O,hat,De _ _ _,hK1 rfl,by rw[nszm σ ρ j _ A hji ha,hns],fin _ _ _ _ _ (De _ _ _) (mp j hji) u⟩
  |cons a0 q0=>
   have Y:=(At.sub B).symm;obtain⟨ρ',F',u,hρ,hρo,_⟩:=CR.reroot h hj B;rw[Y]at u;have rrd:rrV j (a0::q0) σ.length (.rp id p i k0)=.rp id p i k0:=by simp[rrV,Ne.symm hji]
   have e1:(t++ .rp id p i k0::c::cs).map (rrV j (a0::q0) σ.length)=t.map (rrV j (a0::q0) σ.length)++ .rp id p i k0::rrV j (a0::q0) σ.length c::cs.map (rrV j (a0::q0) σ.length):=by
    rw[List.map_append,List.map_cons,List.map_cons,rrd]
   have hid':id<(σ.set j (upd (a0::q0) (σ.getD j .dead) .dead)++[v1]).length:=by simp;omega
   have hg1:(σ.set j (upd (a0::q0) (σ.getD j .dead) .dead)++[v1]).getD id .dead=σ.getD id .dead:=by
    rw[AD (by simpa using A),Ai hji]
   have hg2:(σ.set j (upd (a0::q0) (σ.getD j .dead) .dead)++[v1]).getD σ.length .dead=v1:=by simp
   have hlj:σ.length≠id:=by omega
   have hcr1:=u;rw[e1]at hcr1;obtain⟨F'',hcr2⟩:=move _ _ _ ρ' F' σ.length _ hcr1 hid' (by simp) hlj (by rw[hg1,hρo id A];exact ha) hρ
   rw[hg1,hg2,<-e1]at hcr2;rw[List.map_map]at hcr2;have hcomp:Bb (A9 id (p++[(i,k)]) σ.length∘rrV j (a0::q0) σ.length):=⟨λ_=>rfl,rfl,λ_ _ _ _ _=>rfl,λ_ _=>rfl,λ_ _ _=>rfl⟩
   refine⟨A9 id (p++[(i,k)]) σ.length∘rrV j (a0::q0) σ.length,_,b,_,ρ',F'',hcy0,hfz0,O,hat,hcomp,?_,?_,fin _ _ _ _ _ hcomp ?_ hcr2⟩
   .rw[<-List.map_map];exact hK2 (by simp)
   .have:=nszm (σ.set j (upd (a0::q0) (σ.getD j .dead) .dead)++[v1]) ρ' σ.length v1 hid' hlj (by rw[hg1,hρo id A];exact ha)
    rw[hg1]at this;rw[this,hns]
   .simp only[Function.comp,rrd,mp σ.length hlj]
 unfold LY at E;split at E
 .-- a plain value
  obtain⟨rfl,O,_⟩:=U;rw[hcellk]at E;split at E
  .rename_i hN
   obtain⟨F',u⟩:=CR.store_plain h A ha hi hk (x:=.c cx) (cx:=cx) ⟨rfl,O,λ_ h=>h⟩ (.inl rfl)
   exact⟨AJ id (p++[(i,k)]),_,b,_,ρ,F',hcy0,hfz0,O,hat,Ba _ _,E,by rw[hnsz,hns],fin _ _ _ _ _ (Ba _ _) kp u⟩
  .rename_i hN
   obtain⟨F',u⟩:=CR.store_plain h A ha hi hk (x:=.c cx) (cx:=cx) ⟨rfl,O,λ_ h=>h⟩ (G:=λv=>v) (.inr ⟨rfl,(λs' sz' n' f' e=>by rw[e]at hN;cases hN),λl e=>by rw[e]at hN;cases hN⟩)
   exact⟨λv=>v,_,b,_,ρ,F',hcy0,hfz0,O,hat,⟨λ_=>rfl,rfl,λ_ _ _ _ _=>rfl,λ_ _=>rfl,λ_ _ _=>rfl⟩,by simpa using E,by rw[hnsz,hns],fin _ _ _ _ _ ⟨λ_=>rfl,rfl,λ_ _ _ _ _=>rfl,λ_ _=>rfl,λ_ _ _=>rfl⟩ rfl u⟩
 .-- something only read
  rename_i s1 sz1 n1 f1;have O:cx.oneCell'=true:=(Rel.cells1 U (λ_ _ h=>Aq.one h) rfl).2
  obtain⟨F',u⟩:=CR.store_plain h A ha hi hk (x:=.nd s1 false sz1 n1 f1) (cx:=cx) (Rel.nd_R U) (.inl rfl);exact⟨AJ id (p++[(i,k)]),_,b,_,ρ,F',hcy0,hfz0,O,hat,Ba _ _,E,by rw[hnsz,hns],fin _ _ _ _ _ (Ba _ _) kp u⟩
 .-- a map that is only read
  rename_i l;have O:cx.oneCell'=true:=(Rel.cells1 U (λ_ _ h=>Aq.one h) rfl).2
  obtain⟨F',u⟩:=CR.store_plain h A ha hi hk (x:=.mp false l) (cx:=cx) (show Rel D w noR (.mp false l) cx noF from U) (.inl rfl)
  exact⟨AJ id (p++[(i,k)]),_,b,_,ρ,F',hcy0,hfz0,O,hat,Ba _ _,E,by rw[hnsz,hns],fin _ _ _ _ _ (Ba _ _) kp u⟩
 .-- an owned slice
  rename_i j q off len;have O:cx.oneCell'=true:=Aq.one U.1;split at E
  case h_2=>exact E.elim
  rename_i sz1 n1 f1 Y;split at E
  .rename_i hjq
   obtain⟨rfl,rfl⟩:=hjq;have hcx0:=U.1;obtain⟨⟨_,sz2,n2,f2,cn,B,_,_⟩,_⟩:=U;have J:=At.sub B;rw[Y]at J;simp only[V.nd.injEq,true_and]at J;obtain⟨rfl,rfl,rfl⟩:=J;obtain⟨_,_,_,_,_,_,_,_,e3⟩:=At.split B ha;obtain⟨F',u⟩:=CR.store_part h A ha hi hk e3.1.symm hcx0;exact⟨AJ j (p++[(i,k)]),_,b,_,ρ,F',hcy0,hfz0,O,hat,Ba _ _,E,by rw[hnsz,hns],fin _ _ _ _ _ (Ba _ _) kp u⟩
  obtain⟨⟨rfl,rfl,hji⟩,E⟩:=E;obtain⟨⟨hj,sz2,n2,f2,cn,B,hle,hcv⟩,_⟩:=U;have J:=At.sub B;rw[Y]at J;simp only[V.nd.injEq,true_and]at J;obtain⟨rfl,rfl,rfl⟩:=J;have hcx:cn=cx:=by
   rcases hcv with⟨b2,o2,cap2,rfl,rfl⟩|⟨h0,_,_,hfull,_⟩
   .simp[AC]
   .exact(hfull rfl h0).symm
  subst hcx;refine Z _ j q _ rfl hj hji B O (λe=>?_) (λe=>?_)
  .subst e;exact E
  .split at E
   .exact absurd rfl e
   .exact E
 .-- an owned object
  rename_i j q;have O:cx.oneCell'=true:=Aq.one U.1;split at E
  case h_2=>exact E.elim
  rename_i sz1 n1 f1 Y;obtain⟨hji,E⟩:=E;obtain⟨⟨hj,s2,sz2,n2,f2,b2,o2,cap2,B,_,_,hcv⟩,_⟩:=U;have J:=At.sub B;rw[Y]at J;simp only[V.nd.injEq,true_and]at J;obtain⟨rfl,rfl,rfl,rfl⟩:=J;have hcx:AC false b2 o2 n2 cap2=cx:=by rw[hcv];simp[AC]
  rw[hcx]at B;refine Z _ j q _ rfl hj hji B O (λe=>?_) (λe=>?_)
  .subst e;exact E
  .split at E
   .exact absurd rfl e
   .exact E
 .-- an owned map
  rename_i j q;have O:cx.oneCell'=true:=Aq.one U.1;split at E
  case h_2=>exact E.elim
  rename_i l Y;obtain⟨hji,E⟩:=E;obtain⟨⟨hj,l2,b2,B,hcv⟩,_⟩:=U;have J:=At.sub B;rw[Y]at J;simp only[V.mp.injEq,true_and]at J;subst J;refine Z _ j q _ rfl hj hji B O (λe=>?_) (λe=>?_)
  .subst e;exact E
  .split at E
   .exact absurd rfl e
   .exact E
 .exact E.elim
end
end Go.Ve

