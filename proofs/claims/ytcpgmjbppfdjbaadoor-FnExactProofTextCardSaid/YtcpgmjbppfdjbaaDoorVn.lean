/- The small machine's steps: an operation, by its kind. -/
import Derived.Test.YtcpgmjbppfdjbaaDoorVm
namespace Go.Ve
def KY(v:Value):V:=
 match v with
 | .agg cs=>if cs.toList.all (·.oneCell')=true then Ac (cs.toList.map .c)else .dead
 |v=>if v.oneCell'=true then .c v else .dead
structure Ms where
 t:Nat->V
 σ:List V
def fnV(f:Nat):V:=bif Nat.blt f 1000000 then .many (.cl f) 0 (λ_=>.dead)else .c (.func (.func f) #[] #[])
theorem OZ{D:Nat->Prop}{w:World}{R:V->Value->Prop}{f:Nat}:Rel D w R (fnV f) (.func (.func f) #[] #[]) noF:=by
 unfold fnV;cases h:Nat.blt f 1000000 with
 |true=>exact⟨#[],λ_=>noF,(WL h).symm,rfl,λk hk=>by omega,λ_ _ _ _ _ _ h=>h.elim,λb=>⟨λh=>h.elim,fun⟨_,_,h⟩=>h⟩⟩
 |false=>exact⟨rfl,rfl,λ_ h=>h⟩
def Ms.ev(S:Ms):Operand->V
 | .tmp t=>S.t t
 | .const v=>KY v
 | .global g=>.c (.pointer (some ⟨g,0,none⟩))
 | .func f=>fnV f
def Az(t:Nat->V)(d:Nat)(v:V):Nat->V:=λi=>if i=d then v else t i
structure Cg where
 n:Nat
 fz:List Nat
 keep:Nat
def Ms.res(S:Ms)(h:Cg)(d:Option Nat)(r:V):Ms:=
 match d with
 |some d=>if d<h.n then(if h.fz.contains d then⟨Az S.t d (frz r),S.σ⟩else⟨Az S.t d (prom r S.σ.length).1,S.σ++(prom r S.σ.length).2⟩)else S
 |none=>S
def ResK(h:Cg)(d:Option Nat)(S:Ms)(K:Ms->Prop)(r:V):Prop:=K (S.res h d r)
def Z7(l:LenI)(v:V):Bool:=
 match l,v with
 | .string,.c (.string _)=>true
 | .slice,.c (.string _)=>false
 | .slice,_=>true
 |_,_=>false
def Di(b:Builtin)(x y:V)(K:V->Prop):Prop:=
 match b,x,y with
 | .min,.c (.int k x),.c (.int _ y)=>K (.c (.int k (if y<x then y else x)))
 | .max,.c (.int k x),.c (.int _ y)=>K (.c (.int k (if x<y then y else x)))
 |_,_,_=>False
def LG(P:Program)(b:Builtin)(args:List V)(ats:List TypeId)(K:V->Prop):Prop:=
 match b,args,ats with
 | .len,[x],[t]=>Z7 (Mt P t) x=true/\qLen x K
 | .min,[x,y],_=>Di .min x y K
 | .max,[x,y],_=>Di .max x y K
 |_,_,_=>False
def M1(P:Program)(σ:List V)(ev:Operand->V)(op:Op)(K:V->Prop):Prop:=
 match op with
 | .move x=>VP (ev x) K
 | .assign x=>VP (ev x) K
 | .pick c x y=>QY (ev c) (ev x) (ev y) K
 | .load t x=>HQ (tyI P t) σ (ev x) K
 | .fieldAddr t x k=>Jp (Uq P t k) σ (ev x) K
 | .indexAddr t x i=>BS (slI P t) σ (ev x) (ev i) K
 | .index t x i=>(slK P t= .string/\M6 (ev x) (ev i) K)\/(0<arI P t/\HR (arI P t) (ev x) (ev i) K)
 | .nilCheck x=>ZN (ev x) K
 | .binOp op t x y _=>Q6 P op t x y (ev x) (ev y) K
 | .unOp op _ x=>qUn op (ev x) K
 | .convert s d x=>C9 P σ s d (ev x) K
 | .extract x i=>Cd (ev x) i K
 | .build t ps=>Ky (Zc P t) (ps.toList.map λp=>(p.1,ev p.2)) K
 | .buildSlice t n ps=>BT (slI P t) (ZJ P t) n (ps.toList.map λp=>(p.1,ev p.2)) K
 | .alloc t=>Nj (tyI P t) K
 | .box _ x=>qBox (ev x) K
 | .makeSlice t l c=>VQ (slI P t) (ZJ P t) (ev l) (ev c) K
 | .slice t x lo hi mx=>mx=none/\Kw (slK P t) σ (ev x) (lo.map ev) (hi.map ev) K
 | .call c=>match c.callee with
  | .value (.func f)=>Call P f ((c.args.toList.map ev).any AG) ((c.args.toList.map ev).map (BE σ)) K
  | .value (.tmp y)=>Nd P σ (ev (.tmp y)) (c.args.toList.map ev) K
  | .builtin b=>LG P b (c.args.toList.map ev) c.argTypes.toList K
  | .invoke y name=>Ng P σ (ev y) name (c.args.toList.map ev) K
  |_=>False
 | .makeFunc fn first cs=>match fn,first.toList with
  | .func g,[]=>qMkF g (cs.toList.map ev) K
  |_,_=>False
 | .makeInterface t x=>qMkI P t (ev x) K
 |_=>False
section
variable {P:Program} {o:Oper} {a:Act} {w:World} {σ:List V} {D:Nat->Prop} {ρ:Nat->Value} {F:Nat->Nat->Prop} {K:V->Prop}
theorem I8{t:TypeId}(h:slK P t= .string):P.underlying t=some .string:=by
 unfold slK at h;grind
theorem XX{α:Type}{xs:Array α}{x:α}(h:xs.toList= [x]):xs= #[x]:=by grind
theorem Hc(wr:Bj σ w D ρ F){b:Builtin}{x y:Operand}{vx vy:V}{ats:Array TypeId}(ho:o.op= .call {callee:=.builtin b,args:=#[x,y],argTypes:=ats})(hx:OpR σ w D ρ F vx (a.eval x))(hy:OpR σ w D ρ F vy (a.eval y))(h:Di b vx vy K): ∃r,K r/\Ak P o a w σ D ρ r:=by
 obtain⟨_,hx,_⟩:=hx;obtain⟨_,hy,_⟩:=hy;unfold Di at h;split at h
 ·refine⟨_,h,Ak.pure wr ?_ ⟨rfl,rfl,λ_ h=>h⟩⟩
  unfold execOp;rw [ho];simp [resolve,invoke,builtin,Builtin.min_,Builtin.min2,hx.1,hy.1]
 ·refine⟨_,h,Ak.pure wr ?_ ⟨rfl,rfl,λ_ h=>h⟩⟩
  unfold execOp;rw [ho];simp [resolve,invoke,builtin,Builtin.max_,Builtin.max2,hx.1,hy.1]
 ·exact h.elim
theorem QX(hk:Wok w)(wr:Bj σ w D ρ F){ev:Operand->V}(he: ∀x∈o.op.operands,OpR σ w D ρ F (ev x) (a.eval x))(h:M1 P σ ev o.op K): ∃r,K r/\Ak P o a w σ D ρ r:=by
 have parts: ∀ (ps:Array (Nat×Operand)),(∀x∈(ps.toList.map (·.2)).toArray,OpR σ w D ρ F (ev x) (a.eval x))->Lf σ w D ρ F (ps.toList.map λp=>(p.1,ev p.2)) (ps.toList.map λp=>(p.1,a.eval p.2)):=by
  intro ps hp;refine⟨by simp,λj i v hj=>?_⟩
  simp only [List.getElem?_map]at hj⊢;cases hq:ps.toList[j]? with
  |none=>simp [hq]at hj
  |some q=>
   simp only [hq,Option.map_some,Option.some.injEq,Prod.mk.injEq]at hj⊢;obtain⟨rfl,rfl⟩:=hj
   exact⟨_,⟨rfl,rfl⟩,hp q.2 (by
    simp only [List.mem_toArray,List.mem_map];exact⟨q,List.mem_of_getElem? hq,rfl⟩)⟩
 have opt: ∀ (lo:Option Operand),(∀x∈lo.toArray,OpR σ w D ρ F (ev x) (a.eval x))->OptR σ w D ρ F (lo.map ev) (lo.map a.eval):=by
  intro lo hl;cases lo with
  |none=>trivial
  |some x=>exact hl x (by simp)
 unfold M1 at h;split at h
 case h_1 x ho=>exact Jo wr (.inl ho) (he x (by simp [ho,Op.operands])) h
 case h_2 x ho=>exact Jo wr (.inr ho) (he x (by simp [ho,Op.operands])) h
 case h_3 c x y ho=>exact Oz wr ho (he c (by simp [ho,Op.operands])) (he x (by simp [ho,Op.operands])) (he y (by simp [ho,Op.operands])) h
 case h_4 t x ho=>exact OB wr ho (he x (by simp [ho,Op.operands])) h
 case h_5 t x k ho=>exact M7 wr ho (he x (by simp [ho,Op.operands])) h
 case h_6 t x i ho=>exact IA wr ho (he x (by simp [ho,Op.operands])) (he i (by simp [ho,Op.operands])) h
 case h_7 t x i ho=>
  rcases h with h|h
  ·exact M5 wr (I8 h.1) ho (he x (by simp [ho,Op.operands])) (he i (by simp [ho,Op.operands])) h.2
  ·exact LF wr h.1 ho (he x (by simp [ho,Op.operands])) (he i (by simp [ho,Op.operands])) h.2
 case h_8 x ho=>exact QZ wr ho (he x (by simp [ho,Op.operands])) h
 case h_9 op t x y yt ho=>exact Q5 wr ho (he x (by simp [ho,Op.operands])) (he y (by simp [ho,Op.operands])) h
 case h_10 op t x ho=>exact VO wr ho (he x (by simp [ho,Op.operands])) h
 case h_11 s d x ho=>exact Na wr ho (he x (by simp [ho,Op.operands])) h
 case h_12 x i ho=>exact J9 wr ho (he x (by simp [ho,Op.operands])) h
 case h_13 t ps ho=>exact Nh wr ho (parts ps λx hx=>he x (by rw [ho];exact hx)) h
 case h_14 t n ps ho=>exact HS wr ho (parts ps λx hx=>he x (by rw [ho];exact hx)) h
 case h_15 t ho=>exact Ni wr ho h
 case h_16 t x ho=>exact Q4 wr ho (he x (by simp [ho,Op.operands])) h
 case h_17 t l c ho=>exact OA wr ho (he l (by simp [ho,Op.operands])) (he c (by simp [ho,Op.operands])) h
 case h_18 t x lo hi mx ho=>
  obtain⟨rfl,h⟩:=h;exact M2 wr ho (he x (by simp [ho,Op.operands])) (opt lo λy hy=>he y (by rw [ho];simp only [Op.operands,Array.mem_append];exact .inl (.inl (.inr hy)))) (opt hi λy hy=>he y (by rw [ho];simp only [Op.operands,Array.mem_append];exact .inl (.inr hy))) h
 case h_19 c ho=>
  obtain⟨callee,args,ats⟩:=c;simp only at h;split at h
  ·refine UG hk wr ho ⟨by simp,λj hj=>?_⟩ h
   simp at hj;have:=he args[j] (by rw [ho];simp [Op.operands,Call.operands])
   simpa [hj]using this
  ·refine Nc hk wr ho (he _ (by rw [ho];simp [Op.operands,Call.operands])) ⟨by simp,λj hj=>?_⟩ h
   simp at hj;have:=he args[j] (by rw [ho];simp [Op.operands,Call.operands])
   simpa [hj]using this
  ·unfold LG at h
   have hm: ∀x∈args.toList,OpR σ w D ρ F (ev x) (a.eval x):=λx hx=>he x (by rw [ho];simp [Op.operands,Call.operands];simpa using hx)
   split at h
   ·rename_i vx t hvx hats
    obtain⟨x,hx,rfl⟩: ∃x,args.toList= [x]/\ev x=vx:=by
     cases hl:args.toList with
     |nil=>simp [hl]at hvx
     |cons x l=>cases l with
      |nil=>simp [hl]at hvx;exact⟨x,rfl,hvx⟩
      |cons=>simp [hl]at hvx
    rw [XX hx,XX hats]at ho;obtain⟨hl,h⟩:=h;refine Q3 wr ?_ ho (hm x (by simp [hx])) h
    unfold Z7 at hl;split at hl
    ·rename_i s h1 h2;exact .inl ⟨h1,s,h2⟩
    ·cases hl
    ·rename_i h1 h2;exact .inr ⟨h1,fun⟨s,hs⟩=>h2 s hs⟩
    ·cases hl
   ·rename_i vx vy hvx
    obtain⟨x,y,hx,rfl,rfl⟩: ∃x y,args.toList= [x,y]/\ev x=vx/\ev y=vy:=by
     match hl:args.toList,hvx with
     | [x,y],hvx=>simp at hvx;exact⟨x,y,rfl,hvx⟩
     | [],hvx=>simp at hvx
     | [_],hvx=>simp at hvx
     |_::_::_::_,hvx=>simp at hvx
    have e:args= #[x,y]:=by cases args;simp at hx;simp [hx]
    rw [e]at ho;exact Hc wr ho (hm x (by simp [hx])) (hm y (by simp [hx])) h
   ·rename_i vx vy hvx
    obtain⟨x,y,hx,rfl,rfl⟩: ∃x y,args.toList= [x,y]/\ev x=vx/\ev y=vy:=by
     match hl:args.toList,hvx with
     | [x,y],hvx=>simp at hvx;exact⟨x,y,rfl,hvx⟩
     | [],hvx=>simp at hvx
     | [_],hvx=>simp at hvx
     |_::_::_::_,hvx=>simp at hvx
    have e:args= #[x,y]:=by cases args;simp at hx;simp [hx]
    rw [e]at ho;exact Hc wr ho (hm x (by simp [hx])) (hm y (by simp [hx])) h
   ·exact h.elim
  ·refine Nf hk wr ho (he _ (by rw [ho];simp [Op.operands,Call.operands])) ⟨by simp,λj hj=>?_⟩ h
   simp at hj;have:=he args[j] (by rw [ho];simp [Op.operands,Call.operands])
   simpa [hj]using this
  ·exact h.elim
 case h_20 fn first cs ho=>
  split at h
  case h_2=>exact h.elim
  rename_i g hf;have hf:first= #[]:=by cases first;simp at hf;simp [hf]
  subst hf;refine Q2 wr ho ⟨by simp,λj hj=>?_⟩ h
  simp at hj;have:=he cs[j] (by rw [ho];simp [Op.operands])
  simpa [hj]using this
 case h_21 t x ho=>exact Q1 wr ho (he x (by simp [ho,Op.operands])) h
 all_goals exact h.elim
theorem Ak.sub{r r':V}(hs:Sub r r')(hy:Ak P o a w σ D ρ r):Ak P o a w σ D ρ r':=
 λnext Q hn=>hy next Q λv' w' D' fp hB hr hf hd1 hd2 hd3=>hn v' w' D' fp hB (Rel.sub hs hr) hf hd1 hd2 hd3
def qop(P:Program)(σ:List V)(ev:Operand->V)(op:Op)(K:V->Prop):Prop:=M1 P σ ev op λr0=>∃r,Sub r0 r/\K r
theorem MZ(hk:Wok w)(wr:Bj σ w D ρ F){ev:Operand->V}(he: ∀x∈o.op.operands,OpR σ w D ρ F (ev x) (a.eval x))(h:qop P σ ev o.op K): ∃r,K r/\Ak P o a w σ D ρ r:=by
 obtain⟨r0,⟨r,hs,hK⟩,hy⟩:=QX hk wr he h;exact⟨r,hK,hy.sub hs⟩
end
end Go.Ve


namespace Go.Ve
def isN:V->Bool
 | .nd _ own _ _ _=>own
 |_=>false
def Nk(id:Nat)(p:List (Nat×Nat))(i k:Nat)(c:V)(cs σ:List V)(K:List V->List V->(V->V)->Prop):Prop:=
 match c with
 | .c y=>match isN (B7 σ id p i k)with
  |true=>K (cs.map (AK id (p++ [(i,k)]))) (σ.set id (upd (p++ [(i,k)]) (σ.getD id .dead) (.c y))) (AK id (p++ [(i,k)]))
  |false=>K cs (σ.set id (upd (p++ [(i,k)]) (σ.getD id .dead) (.c y))) (λv=>v)
 | .nd s false sz n f=>K (cs.map (AK id (p++ [(i,k)]))) (σ.set id (upd (p++ [(i,k)]) (σ.getD id .dead) (.nd s false sz n f))) (AK id (p++ [(i,k)]))
 | .rs j q off len=>match sub q (σ.getD j .dead)with
  | .nd true true sz n f=>if j=id/\q=p++ [(i,k)]then K (cs.map (AK id (p++ [(i,k)]))) (σ.set id (upd (p++ [(i,k)]) (σ.getD id .dead) (.nd true true sz len λa b=>f (a+off) b))) (AK id (p++ [(i,k)]))else(off=0/\len=n/\j≠id)/\match q with
   | []=>K (cs.map (A5 id (p++ [(i,k)]) j)) ((σ.set id (upd (p++ [(i,k)]) (σ.getD id .dead) (σ.getD j .dead))).set j .dead) (A5 id (p++ [(i,k)]) j)
   |_=>K ((cs.map (rrV j q σ.length)).map (A5 id (p++ [(i,k)]) σ.length))
     (((σ.set j (upd q (σ.getD j .dead) .dead)++ [V.nd true true sz n f]).set id (upd (p++ [(i,k)]) (σ.getD id .dead) (.nd true true sz n f))).set σ.length .dead) (λv=>A5 id (p++ [(i,k)]) σ.length (rrV j q σ.length v))
  |_=>False
 | .rp j q 0 0=>match sub q (σ.getD j .dead)with
  | .nd false true sz n f=>j≠id/\match q with
   | []=>K (cs.map (A5 id (p++ [(i,k)]) j)) ((σ.set id (upd (p++ [(i,k)]) (σ.getD id .dead) (σ.getD j .dead))).set j .dead) (A5 id (p++ [(i,k)]) j)
   |_=>K ((cs.map (rrV j q σ.length)).map (A5 id (p++ [(i,k)]) σ.length))
     (((σ.set j (upd q (σ.getD j .dead) .dead)++ [V.nd false true sz n f]).set id (upd (p++ [(i,k)]) (σ.getD id .dead) (.nd false true sz n f))).set σ.length .dead) (λv=>A5 id (p++ [(i,k)]) σ.length (rrV j q σ.length v))
  |_=>False
 |_=>False
def putL(id:Nat)(p:List (Nat×Nat))(i:Nat):Nat->Nat->List V->List V->(Nat->V)->(List V->(Nat->V)->Prop)->Prop
 |0,_,_,_,_,_=>False
 |_+1,_,[],σ,t,K=>K σ t
 |m+1,k,c::cs,σ,t,K=>Nk id p i k c cs σ λcs' σ' G=>putL id p i m (k+1) cs' σ' (λi=>G (t i)) K
theorem H6: ∀ (p:List (Nat×Nat)) (x:Nat×Nat),AW (p++ [x]) p=false:=by
 intro p x;cases h:AW (p++ [x]) p with
 |false=>rfl
 |true=>have:=congrArg List.length (Dr h);grind
section
variable {C:Ctx} {w:World} {D:Nat->Prop} {ρ:Nat->Value} {F:Nat->Nat->Prop}
theorem Jg{σ:List V}(wr:Bj σ w D ρ F){id:Nat}{p:List (Nat×Nat)}{i k:Nat}{cv:Value}(h:Ag σ ρ w (.rp id p i k) cv):
  ∃s sz n f b o cap,id<σ.length/\At w p (σ.getD id .dead) (ρ id) (.nd s true sz n f) (As s b o n cap)/\i<n/\k<sz/\cv= .pointer (some ⟨b,o+i*sz+k,none⟩)/\B7 σ id p i k=f i k/\AS σ id p=sz/\
   (∃y,w.cell? ⟨b,o+i*sz+k,none⟩=some y)/\w.frozen? ⟨b,o+i*sz+k,none⟩=false:=by
 obtain⟨hid,s,sz,n,f,b,o,cap,ha,hi,hk,rfl⟩:=h;obtain⟨fp1,hr1,_⟩:=Dt (w':=w) p _ _ _ _ _ (wr.rel id hid) (λb hb h'=>wr.dD id b h' hb) ha
 rcases hr1 with⟨h0,_⟩|⟨b2,o2,cap2,F2,hcv,_,_,_,hc,_,ho⟩
 ·omega
 obtain⟨rfl,rfl,_⟩:=Ap hcv;obtain⟨y,hy,_⟩:=hc i k hi hk;obtain⟨⟨cs,T,hb1,_⟩,_⟩:=ho rfl;exact⟨s,sz,n,f,b,o,cap,hid,ha,hi,hk,rfl,by unfold B7;rw [<-At.sub ha],by unfold AS;rw [<-At.sub ha],⟨y,hy⟩,hb1.frozen hy⟩
theorem HT{σ t cs:List V}{c:V}{ct ccs:List Value}{ad cx:Value}{id:Nat}{p:List (Nat×Nat)}{i k0 k:Nat}{K:List V->List V->(V->V)->Prop}
  (h:CR C σ (t++ .rp id p i k0::c::cs) (ct++ad::cx::ccs).toArray w D ρ F) (hl:ct.length=t.length) (hk:k<AS σ id p) (hp:Nk id p i k c cs σ K):
  ∃ (G:V->V) (σ':List V) (b off:Nat) (ρ':Nat->Value) (F':Nat->Nat->Prop),(∃y,w.cell? ⟨b,off,none⟩=some y)/\w.frozen? ⟨b,off,none⟩=false/\cx.oneCell'=true/\
   (∃ofs,ad= .pointer (some ⟨b,ofs+k0,none⟩)/\off=ofs+k)/\
   A2 G/\K (cs.map G) σ' G/\AS σ' id p=AS σ id p/\CR C σ' (t.map G++ .rp id p i k0::cs.map G) (ct++ad::ccs).toArray (w.setCell ⟨b,off,none⟩ cx) D ρ' F':=by
 have hp0:Ag σ ρ w (.rp id p i k0) ad:=by
  have h1:=h.tm t.length (by simp)
  have e1:(t++ .rp id p i k0::c::cs).getD t.length .dead= .rp id p i k0:=by simp
  have e2:(ct++ad::cx::ccs).toArray.getD t.length undef=ad:=by simp [<-hl]
  rw [e1,e2]at h1;exact h1.1
 have hc0:Rel D w (Ag σ ρ w) c cx noF:=by
  have h1:=h.tm (t.length+1) (by simp)
  have e1:(t++ .rp id p i k0::c::cs).getD (t.length+1) .dead=c:=by simp [gAR]
  have e2:(ct++ad::cx::ccs).toArray.getD (t.length+1) undef=cx:=by simp [<-hl,gAR]
  rw [e1,e2]at h1;exact h1
 obtain⟨s,sz,n,f,b,o,cap,hid,ha,hi,hk0,had,_,hns,_,hfz⟩:=Jg h.wr hp0;rw [hns]at hk
 -- the cell itself
 -- the lists behind a change of references that leaves the pointer alone
 have fin: ∀ (G:V->V) (σ':List V) (ρ':Nat->Value) (F':Nat->Nat->Prop) (w':World),A2 G->G (.rp id p i k0)= .rp id p i k0->CR C σ' ((t++ .rp id p i k0::c::cs).map G) (ct++ad::cx::ccs).toArray w' D ρ' F'->
   CR C σ' (t.map G++ .rp id p i k0::cs.map G) (ct++ad::ccs).toArray w' D ρ' F':=by
  intro G σ' ρ' F' w' hG hGp hcr;have e:(t++ .rp id p i k0::c::cs).map G=t.map G++ .rp id p i k0::G c::cs.map G:=by simp [hGp]
  rw [e]at hcr;have hs:=hcr.sz;simp at hs;refine⟨hcr.wr,by simp;omega,λj hj=>?_,hcr.fr,hcr.Fn,hcr.D1,hcr.D2,hcr.rt,hcr.ml⟩
  simp at hj;by_cases hjt:j<=t.length
  ·have h1:=hcr.tm j (by simp;omega)
   have e1:(t.map G++ .rp id p i k0::G c::cs.map G).getD j .dead=(t.map G++ .rp id p i k0::cs.map G).getD j .dead:=by
    by_cases hlt:j<t.length
    ·simp [gDE,gAL,hlt]
    ·obtain rfl:j=t.length:=by omega
     simp [gAR]
   have e2:(ct++ad::cx::ccs).toArray.getD j undef=(ct++ad::ccs).toArray.getD j undef:=by
    by_cases hlt:j<ct.length
    ·simp [gAL,hlt]
    ·obtain rfl:j=ct.length:=by omega
     simp [gAR]
   rw [e1,e2]at h1;exact h1
  ·have h1:=hcr.tm (j+1) (by simp;omega)
   have e1:(t.map G++ .rp id p i k0::G c::cs.map G).getD (j+1) .dead=(t.map G++ .rp id p i k0::cs.map G).getD j .dead:=by
    obtain⟨l,rfl⟩: ∃l,j=t.length+1+l:=⟨j-t.length-1,by omega⟩
    simp only [gDE];rw [gAR (by simp;omega),gAR (by simp;omega)]
    simp only [List.length_map];rw [show t.length+1+l+1-t.length=l+1+1 by omega,show t.length+1+l-t.length=l+1 by omega]
    rfl
   have e2:(ct++ad::cx::ccs).toArray.getD (j+1) undef=(ct++ad::ccs).toArray.getD j undef:=by
    obtain⟨l,rfl⟩: ∃l,j=ct.length+1+l:=⟨j-ct.length-1,by omega⟩
    simp only [Array.getD_eq_getD_getElem?,List.getElem?_toArray];rw [gAR (by omega),gAR (by omega)]
    rw [show ct.length+1+l+1-ct.length=l+1+1 by omega,show ct.length+1+l-ct.length=l+1 by omega]
    rfl
   rw [e1,e2]at h1;exact h1
 have hat: ∃ofs,ad= .pointer (some ⟨b,ofs+k0,none⟩)/\o+i*sz+k=ofs+k:=⟨o+i*sz,had,rfl⟩
 have hnsz: ∀x,AS (σ.set id (upd (p++ [(i,k)]) (σ.getD id .dead) x)) id p=sz:=by
  intro x;unfold AS;rw [Af hid,DJ p _ _ _ (At.ok ha),I7 p _ _ (At.ok ha),<-At.sub ha];rfl
 have hcy0: ∃y,w.cell? ⟨b,o+i*sz+k,none⟩=some y:=by
  obtain⟨fp1,hr1,_⟩:=Dt (w':=w) p _ _ _ _ _ (h.wr.rel id hid) (λb hb h'=>h.wr.dD id b h' hb) ha
  rcases hr1 with⟨h0,_⟩|⟨b2,o2,cap2,F2,hcv,_,_,_,hc,_⟩
  ·omega
  obtain⟨rfl,rfl,_⟩:=Ap hcv;obtain⟨y,hy,_⟩:=hc i k hi hk;exact⟨y,hy⟩
 have hfz0:w.frozen? ⟨b,o+i*sz+k,none⟩=false:=by
  have e:w.frozen? ⟨b,o+i*sz+k0,none⟩=false:=hfz;obtain⟨fp1,hr1,_⟩:=Dt (w':=w) p _ _ _ _ _ (h.wr.rel id hid) (λb hb h'=>h.wr.dD id b h' hb) ha
  rcases hr1 with⟨h0,_⟩|⟨b2,o2,cap2,F2,hcv,_,_,_,hc,_,ho⟩
  ·omega
  obtain⟨rfl,rfl,_⟩:=Ap hcv;obtain⟨⟨cs,T,hb1,_⟩,_⟩:=ho rfl;obtain⟨y,hy,_⟩:=hc i k hi hk;exact hb1.frozen hy
 have hcellk:B7 σ id p i k=f i k:=by unfold B7;rw [<-At.sub ha]
 have kp:AK id (p++ [(i,k)]) (.rp id p i k0)= .rp id p i k0:=by simp [AK,H6]
 have mp: ∀j,j≠id->A5 id (p++ [(i,k)]) j (.rp id p i k0)= .rp id p i k0:=by intro j hj;simp [A5,H6,Ne.symm hj]
 -- a whole tree that is moved in
 have move: ∀ (σ:List V) (t cs:List V) (ρ:Nat->Value) (F:Nat->Nat->Prop) (j:Nat) (c':V),CR C σ (t++ .rp id p i k0::c'::cs) (ct++ad::cx::ccs).toArray w D ρ F->id<σ.length->j<σ.length->j≠id->
   At w p (σ.getD id .dead) (ρ id) (.nd s true sz n f) (As s b o n cap)->ρ j=cx->
   ∃F',CR C ((σ.set id (upd (p++ [(i,k)]) (σ.getD id .dead) (σ.getD j .dead))).set j .dead) ((t++ .rp id p i k0::c'::cs).map (A5 id (p++ [(i,k)]) j)) (ct++ad::cx::ccs).toArray (w.setCell ⟨b,o+i*sz+k,none⟩ cx) D ρ F':=by
  intro σ t cs ρ F j c' hcr hid hj hij ha hρ;have:=CR.store_move hcr hid hj hij ha hi hk;rw [hρ]at this;exact this
 have nszm: ∀ (σ:List V) (ρ:Nat->Value) (j:Nat) (x:V),id<σ.length->j≠id->At w p (σ.getD id .dead) (ρ id) (.nd s true sz n f) (As s b o n cap)->AS ((σ.set id (upd (p++ [(i,k)]) (σ.getD id .dead) x)).set j .dead) id p=sz:=by
  intro σ ρ j x hid hj ha;unfold AS;rw [Ad hj,Af hid,DJ p _ _ _ (At.ok ha),I7 p _ _ (At.ok ha),<-At.sub ha];rfl
 -- a node that is moved in
 have moved: ∀ (c':V) (j:Nat) (q:List (Nat×Nat)) (v1:V),c=c'->j<σ.length->j≠id->At w q (σ.getD j .dead) (ρ j) v1 cx->cx.oneCell'=true->
   (q= []->K (cs.map (A5 id (p++ [(i,k)]) j)) ((σ.set id (upd (p++ [(i,k)]) (σ.getD id .dead) (σ.getD j .dead))).set j .dead) (A5 id (p++ [(i,k)]) j))->
   (q≠[]->K ((cs.map (rrV j q σ.length)).map (A5 id (p++ [(i,k)]) σ.length))
     (((σ.set j (upd q (σ.getD j .dead) .dead)++ [v1]).set id (upd (p++ [(i,k)]) (σ.getD id .dead) v1)).set σ.length .dead) (λv=>A5 id (p++ [(i,k)]) σ.length (rrV j q σ.length v)))->
   ∃ (G:V->V) (σ':List V) (b off:Nat) (ρ':Nat->Value) (F':Nat->Nat->Prop),(∃y,w.cell? ⟨b,off,none⟩=some y)/\w.frozen? ⟨b,off,none⟩=false/\cx.oneCell'=true/\
    (∃ofs,ad= .pointer (some ⟨b,ofs+k0,none⟩)/\off=ofs+k)/\
    A2 G/\K (cs.map G) σ' G/\AS σ' id p=AS σ id p/\CR C σ' (t.map G++ .rp id p i k0::cs.map G) (ct++ad::ccs).toArray (w.setCell ⟨b,off,none⟩ cx) D ρ' F':=by
  intro c' j q v1 _ hj hji haj h1 hK1 hK2;cases q with
  |nil=>
   obtain⟨_,hcn⟩:=haj;obtain⟨F',hcr⟩:=move σ t cs ρ F j _ h hid hj hji ha hcn.symm;exact⟨A5 id (p++ [(i,k)]) j,_,b,_,ρ,F',hcy0,hfz0,h1,hat,Cq _ _ _,hK1 rfl,by rw [nszm σ ρ j _ hid hji ha,hns],fin _ _ _ _ _ (Cq _ _ _) (mp j hji) hcr⟩
  |cons a0 q0=>
   have hsub:=(At.sub haj).symm;obtain⟨ρ',F',hcr,hρ,hρo,_⟩:=CR.reroot h hj haj;rw [hsub]at hcr;have rrd:rrV j (a0::q0) σ.length (.rp id p i k0)= .rp id p i k0:=by simp [rrV,Ne.symm hji]
   have e1:(t++ .rp id p i k0::c::cs).map (rrV j (a0::q0) σ.length)=t.map (rrV j (a0::q0) σ.length)++ .rp id p i k0::rrV j (a0::q0) σ.length c::cs.map (rrV j (a0::q0) σ.length):=by
    rw [List.map_append,List.map_cons,List.map_cons,rrd]
   have hid':id<(σ.set j (upd (a0::q0) (σ.getD j .dead) .dead)++ [v1]).length:=by simp;omega
   have hg1:(σ.set j (upd (a0::q0) (σ.getD j .dead) .dead)++ [v1]).getD id .dead=σ.getD id .dead:=by
    rw [Aw (by simpa using hid),Ad hji]
   have hg2:(σ.set j (upd (a0::q0) (σ.getD j .dead) .dead)++ [v1]).getD σ.length .dead=v1:=by simp
   have hlj:σ.length≠id:=by omega
   have hcr1:=hcr;rw [e1]at hcr1;obtain⟨F'',hcr2⟩:=move _ _ _ ρ' F' σ.length _ hcr1 hid' (by simp) hlj (by rw [hg1,hρo id hid];exact ha) hρ
   rw [hg1,hg2,<-e1]at hcr2;rw [List.map_map]at hcr2;have hcomp:A2 (A5 id (p++ [(i,k)]) σ.length∘rrV j (a0::q0) σ.length):=⟨λ_=>rfl,rfl,λ_ _ _ _ _=>rfl,λ_ _ _=>rfl⟩
   refine⟨A5 id (p++ [(i,k)]) σ.length∘rrV j (a0::q0) σ.length,_,b,_,ρ',F'',hcy0,hfz0,h1,hat,hcomp,?_,?_,fin _ _ _ _ _ hcomp ?_ hcr2⟩
   ·rw [<-List.map_map];exact hK2 (by simp)
   ·have:=nszm (σ.set j (upd (a0::q0) (σ.getD j .dead) .dead)++ [v1]) ρ' σ.length v1 hid' hlj (by rw [hg1,hρo id hid];exact ha)
    rw [hg1]at this;rw [this,hns]
   ·simp only [Function.comp,rrd,mp σ.length hlj]
 unfold Nk at hp;split at hp
 ·-- a plain value
  obtain⟨rfl,h1,_⟩:=hc0;rw [hcellk]at hp;split at hp
  ·rename_i hN
   obtain⟨F',hcr⟩:=CR.store_plain h hid ha hi hk (x:=.c cx) (cx:=cx) ⟨rfl,h1,λ_ h=>h⟩ (.inl rfl)
   exact⟨AK id (p++ [(i,k)]),_,b,_,ρ,F',hcy0,hfz0,h1,hat,Ba _ _,hp,by rw [hnsz,hns],fin _ _ _ _ _ (Ba _ _) kp hcr⟩
  ·rename_i hN
   obtain⟨F',hcr⟩:=CR.store_plain h hid ha hi hk (x:=.c cx) (cx:=cx) ⟨rfl,h1,λ_ h=>h⟩ (G:=λv=>v) (.inr ⟨rfl,λs' sz' n' f' e=>by rw [e]at hN;cases hN⟩)
   exact⟨λv=>v,_,b,_,ρ,F',hcy0,hfz0,h1,hat,⟨λ_=>rfl,rfl,λ_ _ _ _ _=>rfl,λ_ _ _=>rfl⟩,by simpa using hp,by rw [hnsz,hns],fin _ _ _ _ _ ⟨λ_=>rfl,rfl,λ_ _ _ _ _=>rfl,λ_ _ _=>rfl⟩ rfl hcr⟩
 ·-- something only read
  rename_i s1 sz1 n1 f1;have h1:cx.oneCell'=true:=(Rel.cells1 hc0 (λ_ _ h=>Ag.one h) rfl).2
  obtain⟨F',hcr⟩:=CR.store_plain h hid ha hi hk (x:=.nd s1 false sz1 n1 f1) (cx:=cx) (Rel.nd_R hc0) (.inl rfl);exact⟨AK id (p++ [(i,k)]),_,b,_,ρ,F',hcy0,hfz0,h1,hat,Ba _ _,hp,by rw [hnsz,hns],fin _ _ _ _ _ (Ba _ _) kp hcr⟩
 ·-- an owned slice
  rename_i j q off len;have h1:cx.oneCell'=true:=Ag.one hc0.1;split at hp
  case h_2=>exact hp.elim
  rename_i sz1 n1 f1 hsub;split at hp
  ·rename_i hjq
   obtain⟨rfl,rfl⟩:=hjq;have hcx0:=hc0.1;obtain⟨⟨_,sz2,n2,f2,cn,haj,_,_⟩,_⟩:=hc0;have hsj:=At.sub haj;rw [hsub]at hsj;simp only [V.nd.injEq,true_and]at hsj;obtain⟨rfl,rfl,rfl⟩:=hsj;obtain⟨_,_,_,_,_,_,_,_,e3⟩:=At.split haj ha;obtain⟨F',hcr⟩:=CR.store_part h hid ha hi hk e3.1.symm hcx0;exact⟨AK j (p++ [(i,k)]),_,b,_,ρ,F',hcy0,hfz0,h1,hat,Ba _ _,hp,by rw [hnsz,hns],fin _ _ _ _ _ (Ba _ _) kp hcr⟩
  obtain⟨⟨rfl,rfl,hji⟩,hp⟩:=hp;obtain⟨⟨hj,sz2,n2,f2,cn,haj,hle,hcv⟩,_⟩:=hc0;have hsj:=At.sub haj;rw [hsub]at hsj;simp only [V.nd.injEq,true_and]at hsj;obtain⟨rfl,rfl,rfl⟩:=hsj;have hcx:cn=cx:=by
   rcases hcv with⟨b2,o2,cap2,rfl,rfl⟩|⟨h0,_,_,hfull,_⟩
   ·simp [As]
   ·exact(hfull rfl h0).symm
  subst hcx;refine moved _ j q _ rfl hj hji haj h1 (λe=>?_) (λe=>?_)
  ·subst e;exact hp
  ·split at hp
   ·exact absurd rfl e
   ·exact hp
 ·-- an owned object
  rename_i j q;have h1:cx.oneCell'=true:=Ag.one hc0.1;split at hp
  case h_2=>exact hp.elim
  rename_i sz1 n1 f1 hsub;obtain⟨hji,hp⟩:=hp;obtain⟨⟨hj,s2,sz2,n2,f2,b2,o2,cap2,haj,_,_,hcv⟩,_⟩:=hc0;have hsj:=At.sub haj;rw [hsub]at hsj;simp only [V.nd.injEq,true_and]at hsj;obtain⟨rfl,rfl,rfl,rfl⟩:=hsj;have hcx:As false b2 o2 n2 cap2=cx:=by rw [hcv];simp [As]
  rw [hcx]at haj;refine moved _ j q _ rfl hj hji haj h1 (λe=>?_) (λe=>?_)
  ·subst e;exact hp
  ·split at hp
   ·exact absurd rfl e
   ·exact hp
 ·exact hp.elim
end
end Go.Ve

