/- Regions that draw their order: quiet operations in whatever order, then a tail in order. -/
import Derived.Test.YtcpgmjbppfdjbaaDoorVp
import Derived.StillTail
namespace Go.Ve
variable{σ:List V}{op:Op}{ev ev':Operand->V}{P:Program}{K:V->Prop}
theorem Kv(h: ∀x∈op.operands,ev x=ev' x)(hq:M1 P σ ev op K):M1 P σ ev' op K:=by
 have pairs: ∀ps:Array (Nat×Operand),(∀x∈(ps.toList.map (·.2)).toArray,ev x=ev' x)->(ps.toList.map λp=>(p.1,ev p.2))=ps.toList.map λp=>(p.1,ev' p.2):=by
  intro ps hp;apply List.map_congr_left;intro p hm;rw [hp p.2 (by simp only [List.mem_toArray,List.mem_map];exact⟨p,hm,rfl⟩)]
 unfold M1 at hq⊢;cases op<;>simp only [Op.operands]at h<;>simp only at hq⊢ <;>try exact hq
 case call c=>
  obtain⟨callee,args,ats⟩:=c;have hm:args.toList.map ev=args.toList.map ev':=List.map_congr_left λx hx=>h x (by simp [Call.operands];right;simpa using hx)
  cases callee with
  |value f=>
   have hf:ev f=ev' f:=h f (by simp [Call.operands])
   cases f<;>simp only at hq⊢ <;>first|exact hq|(rw [<-hm,<-hf];exact hq)|(rw [<-hm];exact hq)
  |invoke r m=>
   have hf:ev r=ev' r:=h r (by simp [Call.operands])
   simp only at hq⊢;rw [<-hm,<-hf];exact hq
  |builtin b=>simp only at hq⊢;rw [<-hm];exact hq
 case build t ps=>rw [<-pairs ps h];exact hq
 case buildSlice t n ps=>rw [<-pairs ps h];exact hq
 case slice t x lo hi mx=>
  have h1:lo.map ev=lo.map ev':=by cases lo with|none=>rfl|some y=>simp;exact h y (by simp)
  have h2:hi.map ev=hi.map ev':=by cases hi with|none=>rfl|some y=>simp;exact h y (by simp)
  rw [<-h1,<-h2,<-h x (by simp)];exact hq
 case makeFunc fn first cs=>
  have hm:cs.toList.map ev=cs.toList.map ev':=List.map_congr_left λx hx=>h x (by simp;right;simpa using hx)
  rw [<-hm];exact hq
 all_goals (simp at h;simp_all)
theorem PC(hq:M1 P σ ev op K): ∃r,K r/\∀K':V->Prop,K' r->M1 P σ ev op K':=by
 unfold M1 at hq⊢;cases op<;>simp only at hq⊢ <;>try exact hq.elim
 case move x=>exact⟨_,hq.2,λK' h'=>⟨hq.1,h'⟩⟩
 case assign x=>exact⟨_,hq.2,λK' h'=>⟨hq.1,h'⟩⟩
 case pick c x y=>
  unfold QY at hq⊢;split at hq<;>try exact hq.elim
  rename_i b hb;obtain⟨h1,h2,h3,h4⟩:=hq;cases b
  ·exact⟨_,h4 rfl,λK' h'=>⟨h1,h2,(λh=>by cases h),λ_=>h'⟩⟩
  ·exact⟨_,h3 rfl,λK' h'=>⟨h1,h2,λ_=>h',(λh=>by cases h)⟩⟩
 case load t x=>
  unfold HQ at hq⊢;split at hq<;>try exact hq.elim
  ·split at hq<;>try exact hq.elim
   ·exact⟨_,hq.2,λK' h'=>⟨hq.1,h'⟩⟩
   ·exact⟨_,hq.2,λK' h'=>⟨hq.1,h'⟩⟩
   ·exact⟨_,hq.2,λK' h'=>⟨hq.1,h'⟩⟩
  ·split at hq<;>try exact hq.elim
   ·exact⟨_,hq.2,λK' h'=>⟨hq.1,h'⟩⟩
   ·exact⟨_,hq.2.2,λK' h'=>⟨hq.1,hq.2.1,h'⟩⟩
   ·exact⟨_,hq.2,λK' h'=>⟨hq.1,h'⟩⟩
 case fieldAddr t x k=>
  unfold Jp at hq⊢;split at hq<;>try exact hq.elim
  split at hq<;>try exact hq.elim
  ·exact⟨_,hq.2,λK' h'=>⟨hq.1,h'⟩⟩
  ·exact⟨_,hq.2,λK' h'=>⟨hq.1,h'⟩⟩
  ·exact⟨_,hq.2,λK' h'=>⟨hq.1,h'⟩⟩
 case indexAddr t x i=>
  unfold BS at hq⊢;split at hq<;>try exact hq.elim
  split at hq<;>try exact hq.elim
  ·exact⟨_,hq.2.2.2,λK' h'=>⟨hq.1,hq.2.1,hq.2.2.1,h'⟩⟩
  ·exact⟨_,hq.2.2.2,λK' h'=>⟨hq.1,hq.2.1,hq.2.2.1,h'⟩⟩
 case index t x i=>
  unfold M6 HR at hq⊢;rcases hq with⟨h1,hq⟩|⟨h1,hq⟩
  ·split at hq<;>try exact hq.elim
   exact⟨_,hq.2,λK' h'=>.inl ⟨h1,hq.1,h'⟩⟩
  ·split at hq<;>try exact hq.elim
   exact⟨_,hq.2.2.2,λK' h'=>.inr ⟨h1,hq.1,hq.2.1,hq.2.2.1,h'⟩⟩
 case nilCheck x=>
  unfold ZN at hq⊢;split at hq<;>try exact hq.elim
  ·exact⟨_,hq,λK' h'=>h'⟩
  ·exact⟨_,hq,λK' h'=>h'⟩
  ·exact⟨_,hq.2,λK' h'=>⟨hq.1,h'⟩⟩
 case binOp op t x y yt=>
  unfold Q6 at hq⊢;split at hq
  ·split at hq
   ·rename_i h;exact⟨_,hq.2,λK' h'=>by first|exact⟨hq.1,h'⟩|(simp only [h];exact⟨hq.1,h'⟩)⟩
   ·rename_i h;obtain⟨z,h1,h2,h3,hK⟩:=hq;exact⟨z,hK,λK' h'=>by first|exact⟨z,h1,h2,h3,h'⟩|(simp only [h];exact⟨z,h1,h2,h3,h'⟩)⟩
  ·obtain⟨z,h1,h2,h3,hK⟩:=hq;exact⟨z,hK,λK' h'=>⟨z,h1,h2,h3,h'⟩⟩
 case unOp op t x=>
  unfold qUn at hq⊢;split at hq<;>try exact hq.elim
  ·exact⟨_,hq,λK' h'=>h'⟩
  ·exact⟨_,hq,λK' h'=>h'⟩
 case convert s d x=>
  cases hcb:cvB P s d with
  |some e=>
   unfold C9 at hq⊢;simp only [hcb]at hq⊢;split at hq
   ·exact⟨_,hq.2,λK' h'=>by first|exact⟨hq.1,h'⟩|(simp only [*];exact⟨hq.1,h'⟩)⟩
   ·exact hq.elim
   ·contradiction
  |none=>
  unfold C9 at hq⊢;simp only [hcb]at hq⊢;unfold Nb at hq⊢;split at hq
  ·exact⟨_,hq,λK' h'=>h'⟩
  ·exact⟨_,hq,λK' h'=>h'⟩
  ·split at hq
   ·rename_i h;exact⟨_,hq,λK' h'=>by first|exact h'|(simp only [h];exact h')⟩
   ·exact hq.elim
  ·obtain⟨z,h1,h2,hK⟩:=hq;exact⟨z,hK,λK' h'=>⟨z,h1,h2,h'⟩⟩
 case extract x i=>
  unfold Cd at hq⊢;split at hq<;>try exact hq.elim
  exact⟨_,hq.2.2,λK' h'=>⟨hq.1,hq.2.1,h'⟩⟩
 case build t ps=>
  unfold Ky at hq⊢;split at hq<;>try exact hq.elim
  obtain⟨h1,hq⟩:=hq;split at hq<;>try exact hq.elim
  rename_i h;exact⟨_,hq,λK' h'=>⟨h1,h'⟩⟩
 case buildSlice t n ps=>
  unfold BT at hq⊢;split at hq<;>try exact hq.elim
  obtain⟨h1,h2,hq⟩:=hq;split at hq<;>try exact hq.elim
  rename_i h;exact⟨_,hq.2,λK' h'=>⟨h1,h2,hq.1,h'⟩⟩
 case alloc t=>
  unfold Nj at hq⊢;split at hq<;>try exact hq.elim
  exact⟨_,hq.2,λK' h'=>⟨hq.1,h'⟩⟩
 case box t x=>
  obtain⟨h1,h2|h2⟩:=hq
  ·exact⟨_,h2.2,λK' h'=>⟨h1,.inl ⟨h2.1,h'⟩⟩⟩
  ·exact⟨_,h2,λK' h'=>⟨h1,.inr h'⟩⟩
 case makeSlice t l c=>
  unfold VQ at hq⊢;split at hq<;>try exact hq.elim
  exact⟨_,hq.2.2,λK' h'=>⟨hq.1,hq.2.1,h'⟩⟩
 case slice t x lo hi mx=>
  obtain⟨h0,hq⟩:=hq;unfold Kw at hq⊢;split at hq<;>try exact hq.elim
  all_goals
   split at hq<;>try exact hq.elim
   rename_i h1 h2
  ·exact⟨_,hq.2,λK' h'=>⟨h0,hq.1,h'⟩⟩
  ·exact⟨_,hq.2.2,λK' h'=>⟨h0,hq.1,hq.2.1,h'⟩⟩
  ·exact⟨_,hq.2.2,λK' h'=>⟨h0,hq.1,hq.2.1,h'⟩⟩
 case call c=>
  obtain⟨callee,args,ats⟩:=c;simp only at hq⊢;split at hq
  ·obtain⟨r,h1,h2,hK⟩:=hq;exact⟨r,hK,λK' h'=>⟨r,h1,h2,h'⟩⟩
  ·unfold Nd at hq⊢
   split at hq
   case h_2=>exact hq.elim
   obtain⟨h0,r,h1,h2,hK⟩:=hq;exact⟨r,hK,λK' h'=>⟨h0,r,h1,h2,h'⟩⟩
  ·unfold LG at hq⊢
   split at hq<;>try exact hq.elim
   ·obtain⟨h1,hq⟩:=hq
    unfold qLen at hq⊢;split at hq<;>first|exact hq.elim|exact⟨_,hq,λK' h'=>⟨h1,h'⟩⟩
   ·unfold Di at hq⊢
    split at hq<;>first|exact hq.elim|exact⟨_,hq,λK' h'=>h'⟩
   ·unfold Di at hq⊢
    split at hq<;>first|exact hq.elim|exact⟨_,hq,λK' h'=>h'⟩
  ·unfold Ng at hq⊢
   split at hq
   case h_2=>exact hq.elim
   obtain⟨t,fn,h0,r,h1,h2,hK⟩:=hq;exact⟨r,hK,λK' h'=>⟨t,fn,h0,r,h1,h2,h'⟩⟩
  ·exact hq.elim
 case makeInterface t x=>exact⟨_,hq.2,λK' h'=>⟨hq.1,h'⟩⟩
 case makeFunc fn first cs=>
  split at hq
  case h_2=>exact hq.elim
  exact⟨_,hq.2,λK' h'=>⟨hq.1,h'⟩⟩
theorem VN(h: ∀x∈op.operands,ev x=ev' x)(hq:qop P σ ev op K):qop P σ ev' op K:=Kv h hq
theorem VM(hq:qop P σ ev op K): ∃r,K r/\qop P σ ev op (λr'=>r'=r):=by
 obtain⟨r0,⟨r,hs,hK⟩,hd⟩:=PC hq;exact⟨r,hK,hd _ ⟨r,hs,rfl⟩⟩
theorem M0{K':V->Prop}(hq:M1 P σ ev op K)(h: ∀r,K r->K' r):M1 P σ ev op K':=by
 obtain⟨r,hK,hd⟩:=PC hq
 grind
end Go.Ve


namespace Go.Ve
variable{a:Act}{ops:Array Oper}{h:Cg}{C:Ctx}{σ:List V}{N i j n x y:Nat}{B F T:Nat->Nat->Prop}{A D fp:Nat->Prop}{t:Nat->V}{ρ:Nat->Value}{o:Oper}{w:World}
def QK(h:Cg)(d:Option Nat)(t:Nat->V)(K:(Nat->V)->Prop)(r:V):Prop:=
 match d with
 |some d=>d<h.n/\K (Az t d (if h.fz.contains d then frz r else r))
 |none=>False
def J7(t:Nat->V)(d:Option Nat):Nat->V:=
 match d with
 |some d=>Az t d udV
 |none=>t
def XR(ops:Array Oper)(y:Nat):Bool:=decide (((List.range ops.size).filter λj=>match ops[j]? with
 |some o=>(o.looksAt ops).contains y
 |none=>false).length<=1)
def AA(ops:Array Oper)(i:Nat):Option Nat:=(ops[i]?).bind (·.dst)
def mvB(ops:Array Oper)(o:Oper)(y:Nat):Bool:=(o.looksAt ops).contains y&&XR ops y&&o.after.toList.any λe=>Region.binds .any e&&(match AA ops e.on with
 |some d=>Nat.beq d y
 |none=>false)
def NF(c:Nat):V->V
 | .many t n f=>.many t n λk=>if k=c then .dead else f k
 |v=>v
inductive Tk where
 |all
 |part (c:Nat)
 |put (v:V)
variable{m:Nat->List (Nat×Tk)}
def Tk.isPart:Tk->Bool
 | .part _=>true
 |_=>false
def hdV:V->V
 | .nd true true _ n _=>.nd true false 0 n λ_ _=>.dead
 |_=>.dead
theorem Rel.hd{R:V->Value->Prop}{v:V}{cv:Value}(h:Rel D w R v cv fp):Rel D w R (hdV v) cv noF:=by
 unfold hdV;split
 ·rcases h with⟨h1,h2,h3,_⟩|⟨b,o,cap,F,hcv,hcap,hmax,hs,_⟩
  ·exact .inl ⟨h1,h2,PP h3,λ_ h=>h⟩
  ·exact .inr ⟨b,o,cap,λ_ _=>noF,hcv,hcap,hmax,hs,λ_ _ _ hk=>absurd hk (Nat.not_lt_zero _),λ_=>⟨λh=>absurd h (by simp),λ_ _ _ _ hk=>absurd hk (Nat.not_lt_zero _),λ_ h=>h⟩,λh=>by grind⟩
 ·exact λ_ h=>h
def kapp(tk:Tk)(v:V):V:=match tk with
 | .all=>.dead
 | .part c=>NF c v
 | .put u=>u
def HE(o:Option Tk)(v:V):V:=match o with
 |some tk=>kapp tk v
 |none=>v
theorem Ul(a b:Nat)(v:V):NF a (NF b v)=NF b (NF a v):=by
 cases v<;>try rfl
 show V.many _ _ _=V.many _ _ _
 grind
theorem Wk(a b:Option Tk)(v:V)(h: ∀x y,a=some x->b=some y->x.isPart=true/\y.isPart=true):HE a (HE b v)=HE b (HE a v):=by
 cases a with
 |none=>rfl
 |some x=>
  cases b with
  |none=>rfl
  |some y=>
   obtain⟨h1,h2⟩:=h x y rfl rfl;cases x<;>first|trivial|skip
   cases y<;>first|cases h2|rfl
   exact Ul _ _ _
def A9:List (Nat×Tk)->Nat->Option Tk
 | [],_=>none
 |(y,tk)::l,x=>if y=x then some tk else A9 l x
theorem Cr: ∀ {l:List (Nat×Tk)} {x:Nat} {tk:Tk},A9 l x=some tk->(x,tk)∈l
 | [],_,_,h=>by cases h
 |(y,tk')::l,x,tk,h=>by
  unfold A9 at h;split at h
  ·grind
  ·exact mCM _ (Cr h)
def AH(ys:List (Nat×Tk))(t:Nat->V):Nat->V:=λx=>HE (A9 ys x) (t x)
theorem Dp(t:Nat->V):AH [] t=t:=rfl
def DI(ops:Array Oper)(y:Nat):Bool:=(List.range ops.size).all λj=>match AA ops j with
 |some d=>!Nat.beq d y
 |none=>true
def mvR(ops:Array Oper)(o:Oper)(y:Nat):Bool:=(o.looksAt ops).contains y&&XR ops y&&DI ops y
def LV(ops:Array Oper)(y:Nat):List Nat:=(List.range ops.size).filter λj=>match ops[j]? with
 |some o=>(o.looksAt ops).contains y
 |none=>false
def K2(ops:Array Oper):List Nat->Bool
 | []=>true
 |i::l=>(match l with
  | []=>true
  |j::_=>Region.waitsFor .any ops j i)&&K2 ops l
def mvC(ops:Array Oper)(o:Oper)(y:Nat):Bool:=(o.looksAt ops).contains y&&DI ops y&&K2 ops (LV ops y)
def DP(op:Op):List Nat:=op.operands.toList.filterMap λx=>match x with
 | .tmp y=>some y
 |_=>none
def isFn:Op->Bool
 | .call c=>match c.callee with
  | .value (.func _)=>true
  |_=>false
 |_=>false
def alM(h:Cg)(ops:Array Oper)(o:Oper):Bool:=o.guard.isNone&&(match o.op,o.dst with
 | .move (.tmp y),some z=>h.fz.contains (3000000+y)&&DI ops y&&ops.toList.any λc=>isFn c.op&&(DP c.op).contains z
 |_,_=>false)
def alB(h:Cg)(ops:Array Oper)(o:Oper)(y:Nat):Bool:=o.after.toList.any λe=>Region.binds .any e&&(match ops[e.on]? with
 |some c=>alM h ops c&&(match c.op,c.dst with
  | .move (.tmp y'),some z=>Nat.beq y' y&&(DP o.op).contains z
  |_,_=>false)
 |none=>false)
def alU(h:Cg)(ops:Array Oper)(y:Nat):List Nat:=(List.range ops.size).filter λj=>match ops[j]? with
 |some o=>alB h ops o y
 |none=>false
def Qy(h:Cg)(ops:Array Oper)(o:Oper)(p:Nat×Tk):Bool:=!p.2.isPart&&alB h ops o p.1&&DI ops p.1&&K2 ops (alU h ops p.1)&&(List.range ops.size).all λj=>match ops[j]? with
 |some oj=>!(oj.looksAt ops).contains p.1||alM h ops oj
 |none=>true
def AlP(h:Cg)(ops:Array Oper)(o:Oper)(z y:Nat):Prop:=∃e∈o.after,Region.binds .any e=true/\∃c,ops[e.on]? =some c/\alM h ops c=true/\c.op= .move (.tmp y)/\c.dst=some z
def WS(ops:Array Oper)(i j:Nat):Prop:=j<i/\∀listed:Array Bool,(∀k ok,ops[k]? =some ok->listed.getD k false=true->∀e∈ok.after,Region.binds .any e=true->listed.getD e.on false=true)->
 (∀oi,ops[i]? =some oi->∀e∈oi.after,Region.binds .any e=true->listed.getD e.on false=true)->listed.getD j false=true
theorem WS.of(hb: ∀o e,ops[i]? =some o->e∈o.after->Region.binds .any e=true->e.on<i)(h:Region.waitsFor .any ops i j=true):WS ops i j:=by
 obtain⟨o,ho,e,he,h1,h2⟩:=Region.waitsFor_spec h;exact⟨h2▸hb o e ho he h1,λlisted _ h3=>h2▸h3 o ho e he h1⟩
theorem WS.trans{k:Nat}(hs: ∃o,ops[j]? =some o)(h:WS ops i j)(h':WS ops j k):WS ops i k:=by
 refine⟨Nat.lt_trans h'.1 h.1,λlisted hc hi=>h'.2 listed hc λoj hoj e he hb=>?_⟩
 exact hc j oj hoj (h.2 listed hc hi) e he hb
theorem WS.listed{ops:Array Oper}{i j:Nat}(h:WS ops i j){listed:Array Bool}(hc: ∀k ok,ops[k]? =some ok->listed.getD k false=true->∀e∈ok.after,Region.binds .any e=true->listed.getD e.on false=true)(hl:listed.getD i false=true):listed.getD j false=true:=
 h.2 listed hc λoi hoi e he hb=>hc i oi hoi hl e he hb
theorem JS{ops:Array Oper}(hb: ∀j o e,ops[j]? =some o->e∈o.after->Region.binds .any e=true->e.on<j): ∀ {l:List Nat},K2 ops l=true->(∀i∈l,∃o,ops[i]? =some o)->l.Pairwise λi j=>WS ops j i
 | [],_,_=>List.Pairwise.nil
 |i::l,h,hs=>by
  unfold K2 at h;rw [bAE]at h;have ih:=JS hb h.2 λi hi=>hs i (mCM _ hi)
  refine List.pairwise_cons.2 ⟨λk hk=>?_,ih⟩
  cases l with
  |nil=>grind
  |cons j l=>
   have h1:=WS.of (hb j) h.1;rcases List.mem_cons.1 hk with rfl|hk
   ·grind
   ·exact((List.pairwise_cons.1 ih).1 k hk).trans (hs j (by simp)) h1
theorem UA{oi oj:Oper}(hb: ∀j o e,ops[j]? =some o->e∈o.after->Region.binds .any e=true->e.on<j)(h:K2 ops (LV ops y)=true)(hi:ops[i]? =some oi)(hyi:y∈oi.looksAt ops)(hj:ops[j]? =some oj)(hyj:y∈oj.looksAt ops):j=i\/WS ops i j\/WS ops j i:=by
 have hin: ∀k ok,ops[k]? =some ok->y∈ok.looksAt ops->k∈LV ops y:=by
  intro k ok hk hyk;unfold LV
  grind
 have hp:=JS hb h λk hk=>by
  have hk:=List.mem_range.1 (List.mem_filter.1 hk).1;exact⟨ops[k],by simp⟩
 obtain⟨a,ha,ea⟩:=List.getElem_of_mem (hin i oi hi hyi);obtain⟨b,hb',eb⟩:=List.getElem_of_mem (hin j oj hj hyj);rcases Nat.lt_trichotomy a b with hlt|heq|hlt
 ·have:=List.pairwise_iff_getElem.1 hp a b ha hb' hlt
  rw [ea,eb]at this;exact .inr (.inr this)
 ·subst heq
  exact .inl (eb.symm.trans ea)
 ·have:=List.pairwise_iff_getElem.1 hp b a hb' ha hlt
  rw [ea,eb]at this;exact .inr (.inl this)
theorem Cp(h:DI ops y=true): ∀j,AA ops j≠some y:=by
 intro j hj;have hs:j<ops.size:=by
  rcases Nat.lt_or_ge j ops.size with h|h
  ·omega
  ·unfold AA at hj
   grind
 have:=aET.1 h j (List.mem_range.2 hs)
 simp_all
def exB(ops:Array Oper)(o:Oper)(y c:Nat):Bool:=(o.looksAt ops).contains y&&((List.range ops.size).all λj=>match ops[j]? with
 |some oj=>!(oj.looksAt ops).contains y||(oj.guard.isNone&&(match oj.op with
  | .extract (.tmp y') c'=>Nat.beq y' y&&(!Nat.beq c' c||oj.dst==o.dst)
  |_=>false))
 |none=>true)&&o.after.toList.any λe=>Region.binds .any e&&(match AA ops e.on with
 |some d=>Nat.beq d y
 |none=>false)
def I3(ops:Array Oper)(o:Oper)(p:Nat×Tk):Bool:=match p.2 with
 | .all=>mvB ops o p.1
 | .part c=>exB ops o p.1 c
 | .put _=>mvB ops o p.1||mvR ops o p.1||mvC ops o p.1
structure PR(C:Ctx)(N:Nat)(σ:List V)(ρ:Nat->Value)(F:Nat->Nat->Prop)(t:Nat->V)(a:Act)(w:World)(D:Nat->Prop)(T:Nat->Nat->Prop):Prop where
 df:a.defers= []
 sz:a.tmps.size=N
 dd: ∀x,N<=x->t x= .dead
 wr:Bj σ w D ρ F
 tm: ∀x,x<N->Rel D w (Ag σ ρ w) (t x) (a.tmps.getD x undef) (T x)
 tD: ∀x b,T x b->¬D b
 tF: ∀i x b,F i b->¬T x b
 tT: ∀x y b,x≠y->T x b->¬T y b
 tn: ∀x b,T x b->C.W b\/C.w0.heap.size<=b
 fr:Fr C.w0 w C.W
 Fn: ∀i b,F i b->C.W b\/C.w0.heap.size<=b
 D1: ∀b,C.D0 b->D b
 D2: ∀b,D b->b<C.w0.heap.size->C.D0 b\/C.W b
 rt: ∀i,i<C.m->ρ i=C.ρ0 i
 ml:C.m<=σ.length
 tx: ∀x b,N<=x->¬T x b
def mq(t:Nat->V)(o:Oper)(ys:List (Nat×Tk))(r:V):Prop:=
 (∃y,(o.op= .assign (.tmp y)\/o.op= .move (.tmp y))/\ys= [(y,.put (hdV r))]/\r=t y)\/
 ∃y c n f,o.op= .extract (.tmp y) c/\ys= [(y,.part c)]/\t y= .many .tu n f/\c<n/\r=f c
def Ih(d:Option Nat)(r:V)(t:Nat->V):Nat->V:=match d with
 |some d=>Az t d r
 |none=>t
def Uc:Op->Bool
 | .extract _ _=>false
 |_=>true
theorem PR.ok{C:Ctx}{N:Nat}{σ:List V}{ρ:Nat->Value}{F:Nat->Nat->Prop}{t:Nat->V}{a:Act}{w:World}{D:Nat->Prop}{T:Nat->Nat->Prop}(h:PR C N σ ρ F t a w D T):Wok w:=
 C.ok.1.same λp hp=>h.fr.block p.1 (C.ok.1.lt hp) (C.ok.2 p hp)
def LQ(P:Program)(N:Nat)(σ:List V)(Al:Nat->Nat->Prop)(o:Oper)(t:Nat->V)(ys:List (Nat×Tk))(r:V):Prop:=
 ∀ (C:Ctx) (ρ:Nat->Value) (F:Nat->Nat->Prop) (a:Act) (w:World) (D:Nat->Prop) (T:Nat->Nat->Prop) (t':Nat->V),(∀x,(x∈DP o.op\/A9 ys x≠none)->t' x=t x)->(∀z y,Al z y->a.tmps.getD z undef=a.tmps.getD y undef)->PR C N σ ρ F t' a w D T->
  ∀ (next:Act->World->Prop) (Q:Exit->Act->World->Prop),(∀a' w' D' T',PR C N σ ρ F (Ih o.dst r (AH ys t')) a' w' D' T'->(∀x b,T' x b->o.dst=some x\/∃b',T x b')->(∀x,o.dst≠some x->a'.tmps[x]? =a.tmps[x]?)->next a' w')->o.wp P a w next Q
def vq(P:Program)(h:Cg)(ops:Array Oper)(σ:List V):List Oper->((Nat->V)->Prop)->(Nat->V)->Prop
 | [],K,t=>K t
 |o::rest,K,t=>match o.guard with
  |none=>(alM h ops o=false/\(qop P σ (Ms.ev ⟨t,σ⟩) o.op (QK h o.dst t (vq P h ops σ rest K))\/(∃ys d r,o.dst=some d/\d<h.n/\h.fz.contains d=false/\(∀p∈ys,I3 ops o p=true)/\mq t o ys r/\vq P h ops σ rest K (Az (AH ys t) d r))\/
   ∃ys r,(∀p∈ys,I3 ops o p=true\/Qy h ops o p=true)/\Uc o.op=true/\LQ P h.n σ (AlP h ops o) o t ys r/\vq P h ops σ rest K (Ih o.dst r (AH ys t))))\/
   (alM h ops o=true/\∃d,o.dst=some d/\d<h.n/\vq P h ops σ rest K (Az t d .dead))
  |some (j,want)=>match gv t ops j with
   | .c (.bool b)=>(b=want->qop P σ (Ms.ev ⟨t,σ⟩) o.op (QK h o.dst t (vq P h ops σ rest K)))/\(b=(!want)->(∀d,o.dst=some d->d<h.n)/\vq P h ops σ rest K (J7 t o.dst))
   |v=>v=udV/\(∀d,o.dst=some d->d<h.n)/\vq P h ops σ rest K (J7 t o.dst)
def gskip(v:V)(want:Bool):Prop:=v= .c (.bool (!want))\/v=udV
def promA:List (Option Nat)->Ms->Ms
 | [],S=>S
 |none::ds,S=>promA ds S
 |some d::ds,S=>if AE (S.t d)then promA ds ⟨Az S.t d (prom (S.t d) S.σ.length).1,S.σ++(prom (S.t d) S.σ.length).2⟩else promA ds S
def YS:Op->Bool
 | .select _ _=>false
 |_=>true
def flB(ops:Array Oper)(n f:Nat):Bool:=(List.range n).all (λi=>i==f||Region.waitsFor .any ops n i)&&match ops[f]? with
 |some o=>o.guard.isNone&&match o.op,o.dst with
  | .extract (.tmp y) _,some d=>(List.range ops.size).all λt=>decide (t<n)||Region.waitsFor .any ops t f||match ops[t]? with
   |some ot=>!(ot.looksAt ops).contains d&&ot.dst !=some d&&ot.dst !=some y&&YS ot.op
   |none=>true
  |_,_=>false
 |none=>false
structure FL(ops:Array Oper)(n f:Nat):Prop where
 fn:f<n
 others: ∀i,i<n->i≠f->Region.waitsFor .any ops n i=true
 it: ∃o y c d,ops[f]? =some o/\o.guard=none/\o.op= .extract (.tmp y) c/\o.dst=some d/\∀t ot,n<=t->ops[t]? =some ot->Region.waitsFor .any ops t f=false->d∉ot.looksAt ops/\ot.dst≠some d/\ot.dst≠some y/\∀cs b,ot.op≠.select cs b
theorem Yh{f:Nat}(hf:f<n)(h:flB ops n f=true):FL ops n f:=by
 unfold flB at h;rw [bAE]at h;obtain⟨h1,h2⟩:=h;refine⟨hf,λi hi hne=>?_,?_⟩
 ·grind
 ·split at h2
  case h_2=>cases h2
  rename_i o ho;rw [bAE]at h2;obtain⟨hg,h2⟩:=h2;split at h2
  case h_2=>cases h2
  rename_i y c d hop hd;refine⟨o,y,c,d,ho,by simpa using hg,hop,hd,λt ot ht hot hw=>?_⟩
  have:=aET.1 h2 t (List.mem_range.2 (Array.getElem?_eq_some_iff.1 hot).1);rw [hot,hw]at this;have hnt: ¬t<n:=by omega
  simp only [hnt,decide_false,Bool.false_or,bAE,Bool.not_eq_true',bne_iff_ne,ne_eq]at this;obtain⟨⟨⟨g1,g2⟩,g3⟩,g4⟩:=this;refine⟨λhm=>?_,g2,g3,λcs b e=>?_⟩
  ·have:(ot.looksAt ops).contains d=true:=by simpa using hm
   rw [g1]at this;cases this
  ·rw [e]at g4;cases g4
def PB(ops:Array Oper)(n:Nat):Bool:=
 decide (n<=ops.size)&&
 (List.range n).all (λi=>match ops[i]? with
  |none=>false
  |some oi=>match oi.dst with
   |none=>true
   |some d=>!(oi.looksAt ops).contains d&&(List.range n).all λj=>j==i||match ops[j]? with
    |none=>false
    |some oj=>oj.dst !=some d&&(!(oj.looksAt ops).contains d||Region.waitsFor .any ops j i))&&
 (List.range ops.size).all (λj=>match ops[j]? with
  |some o=>o.after.toList.all λe=>!Region.binds .any e||decide (e.on<j)
  |none=>false)
def HP(ops:Array Oper)(n:Nat):Bool:=
 PB ops n&&(n==ops.size||(Region.chainB .any ops n&&(Region.sinkB .any ops n||(List.range n).any (flB ops n))))
structure QOK(ops:Array Oper)(n:Nat):Prop where
 le:n<=ops.size
 dst: ∀i,i<n->∃oi,ops[i]? =some oi/\∀d,oi.dst=some d->d∉oi.looksAt ops
 ne: ∀i j d oj,i<n->j<n->i≠j->AA ops i=some d->ops[j]? =some oj->oj.dst≠some d/\(d∈oj.looksAt ops->∃e∈oj.after,Region.binds .any e=true/\e.on=i)
 back: ∀j o e,ops[j]? =some o->e∈o.after->Region.binds .any e=true->e.on<j
def Qm(ops:Array Oper)(n:Nat):Prop:=n=ops.size\/(Region.chainB .any ops n=true/\(Region.sinkB .any ops n=true\/∃f,FL ops n f))
theorem Jn(h:PB ops n=true):QOK ops n:=by
 simp only [PB,bAE,decide_eq_true_eq]at h;obtain⟨⟨h1,h2⟩,h3⟩:=h
 have hd: ∀i,i<n->∃oi,ops[i]? =some oi/\∀d,oi.dst=some d->d∉oi.looksAt ops/\∀j,j<n->j≠i->∃oj,ops[j]? =some oj/\oj.dst≠some d/\(d∈oj.looksAt ops->Region.waitsFor .any ops j i=true):=by
  intro i hi;have:=aET.1 h2 i (List.mem_range.2 hi);split at this
  ·cases this
  ·rename_i oi hoi
   refine⟨oi,hoi,λd hd=>?_⟩
   rw [hd]at this
   ·simp only [bAE,Bool.not_eq_true']at this
    obtain⟨ha,hb⟩:=this;refine⟨by simpa using ha,λj hj hne=>?_⟩
    have hj2:=aET.1 hb j (List.mem_range.2 hj);simp only [Bool.or_eq_true,beq_iff_eq,hne,false_or]at hj2;split at hj2
    ·cases hj2
    ·rename_i oj hoj
     simp only [bAE,bne_iff_ne,ne_eq,Bool.or_eq_true,Bool.not_eq_true']at hj2;refine⟨oj,hoj,hj2.1,λhm=>?_⟩
     rcases hj2.2 with h|h
     ·simp at h;exact absurd hm h
     ·exact h
 refine⟨h1,λi hi=>?_,λi j d oj hi hj hij hdi hoj=>?_,λj o e hj he hb=>?_⟩
 ·obtain⟨oi,a,b⟩:=hd i hi;exact⟨oi,a,λd h=>(b d h).1⟩
 ·obtain⟨oi,hoi,hd'⟩:=hd i hi
  have hdd:oi.dst=some d:=by simpa [AA,hoi]using hdi
  obtain⟨_,hall⟩:=hd' d hdd;obtain⟨oj',hoj',g1,g2⟩:=hall j hj (Ne.symm hij);have:oj'=oj:=Option.some.inj (hoj'.symm.trans hoj);subst this;refine⟨g1,λhm=>?_⟩
  obtain⟨oj2,hoj2,e,he,hb,hon⟩:=Region.waitsFor_spec (g2 hm);have:oj2=oj':=Option.some.inj (hoj2.symm.trans hoj);subst this;exact⟨e,he,hb,hon⟩
 ·have hlt:j<ops.size:=(Array.getElem?_eq_some_iff.1 hj).1
  have:=aET.1 h3 j (List.mem_range.2 hlt);rw [hj]at this;have:=aET.1 this e (by simpa using he)
  simp [hb]at this;exact this
theorem MY(h:HP ops n=true):QOK ops n/\Qm ops n:=by
 simp only [HP,bAE,Bool.or_eq_true,beq_iff_eq]at h;refine⟨Jn h.1,?_⟩;have h4:=h.2;rcases h4 with h4|⟨h4,h5|h5⟩
 ·exact .inl h4
 ·exact .inr ⟨h4,.inl h5⟩
 ·obtain⟨f,hf,hb⟩:=List.any_eq_true.1 h5
  exact .inr ⟨h4,.inr ⟨f,Yh (List.mem_range.1 hf) hb⟩⟩
def AaO:Op->Bool
 | .fieldAddr _ _ _=>true
 | .load _ _=>true
 | .move _=>true
 | .indexAddr _ _ _=>true
 |_=>false
def flsB(ops:Array Oper)(n:Nat)(fs:List Nat):Bool:=decide (n+1<ops.size)&&Region.chainB .any ops n&&fs.all (λf=>decide (f<n)&&Region.waitsFor .any ops (n+1) f)&&
 (List.range n).all (λi=>fs.contains i||(List.range (n+1)).any λj=>decide (i<j)&& !fs.contains j&&Region.waitsFor .any ops j i)&&
 match ops[n]? with
 |some on=>on.guard.isNone&&YS on.op&&match on.dst with
  |some dn=>fs.all λf=>match ops[f]? with
   |some o=>o.guard.isNone&&AaO o.op&&match o.dst with
    |some d=>!(on.looksAt ops).contains d&&dn !=d&& !(o.looksAt ops).contains dn
    |none=>false
   |none=>false
  |none=>false
 |none=>false
structure FLS(ops:Array Oper)(n:Nat)(fs:List Nat):Prop where
 lt1:n+1<ops.size
 chain:Region.chainB .any ops n=true
 lt: ∀f∈fs,f<n/\Region.waitsFor .any ops (n+1) f=true
 others: ∀i,i<n->i∉fs->∃j,i<j/\j<=n/\j∉fs/\Region.waitsFor .any ops j i=true
 it: ∃on dn,ops[n]? =some on/\on.guard=none/\on.dst=some dn/\(∀cs b,on.op≠.select cs b)/\∀f∈fs,∃o d,ops[f]? =some o/\o.guard=none/\AaO o.op=true/\o.dst=some d/\d∉on.looksAt ops/\dn≠d/\dn∉o.looksAt ops
theorem Ww{fs:List Nat}(h:flsB ops n fs=true):FLS ops n fs:=by
 unfold flsB at h;simp only [bAE,decide_eq_true_eq]at h;obtain⟨⟨⟨⟨h1,h2⟩,h3⟩,h4⟩,h5⟩:=h;refine⟨h1,h2,λf hf=>?_,λi hi hn=>?_,?_⟩
 ·have:=aET.1 h3 f hf
  simpa using this
 ·have:=aET.1 h4 i (List.mem_range.2 hi)
  rw [Bool.or_eq_true]at this;rcases this with h|h
  ·exact absurd (by simpa using h) hn
  ·obtain⟨j,hj,hb⟩:=List.any_eq_true.1 h
   simp only [bAE,decide_eq_true_eq,Bool.not_eq_true']at hb;have:=List.mem_range.1 hj;exact⟨j,hb.1.1,by omega,by simpa using hb.1.2,hb.2⟩
 ·split at h5
  case h_2=>cases h5
  rename_i on hon;rw [bAE,bAE]at h5;obtain⟨⟨g1,g2⟩,h5⟩:=h5;split at h5
  case h_2=>cases h5
  rename_i dn hdn;refine⟨on,dn,hon,by simpa using g1,hdn,(λcs b e=>by rw [e]at g2;cases g2),λf hf=>?_⟩
  have:=aET.1 h5 f hf;split at this
  case h_2=>cases this
  rename_i o ho;rw [bAE,bAE]at this;obtain⟨⟨k1,k2⟩,this⟩:=this;split at this
  case h_2=>cases this
  rename_i d hd;simp only [bAE,Bool.not_eq_true',bne_iff_ne,ne_eq]at this;obtain⟨⟨m1,m2⟩,m3⟩:=this;exact⟨o,d,ho,by simpa using k1,k2,hd,by simpa using m1,m2,by simpa using m3⟩
def ID(P:Program)(h:Cg)(ops:Array Oper)(σ:List V)(o:Oper)(t:Nat->V)(r:V)(ys:List (Nat×Tk)):Prop:=
 (alM h ops o=false/\((∃d:Nat,o.dst=some d/\
  (((d<h.n/\((o.guard=none\/∃j want,o.guard=some (j,want)/\gv t ops j= .c (.bool want))/\∃r',qop P σ (Ms.ev ⟨t,σ⟩) o.op (λx=>x=r')/\r=(if h.fz.contains d then frz r' else r'))\/
   (∃j want,o.guard=some (j,want)/\gskip (gv t ops j) want/\d<h.n/\r=udV))/\ys= [])\/
   (d<h.n/\o.guard=none/\h.fz.contains d=false/\(∀p∈ys,I3 ops o p=true)/\mq t o ys r)))\/
 (o.guard=none/\(∀p∈ys,I3 ops o p=true\/Qy h ops o p=true)/\Uc o.op=true/\LQ P h.n σ (AlP h ops o) o t ys r)\/
 (∃j want,o.guard=some (j,want)/\gskip (gv t ops j) want/\o.dst=none/\ys= [])))\/
 (alM h ops o=true/\∃d,o.dst=some d/\d<h.n/\r= .dead/\ys= [])
theorem CX{g:Nat×Bool}(hg:o.guard=some g):alM h ops o=false:=by
 unfold alM;grind
theorem Mk(hm:alM h ops o=true):o.guard=none/\∃y z,o.op= .move (.tmp y)/\o.dst=some z/\∀j,AA ops j≠some y:=by
 unfold alM at hm;rw [bAE]at hm;refine⟨by simp_all,?_⟩
 have h2:=hm.2;split at h2
 ·rename_i y z hop hd
  simp at h2;exact⟨y,z,hop,hd,Cp h2.1.2⟩
 grind
def BY(ops:Array Oper)(r:Nat->V)(m:Nat->List (Nat×Tk))(t:Nat->V):Nat->(Nat->V)
 |0=>t
 |i+1=>Ih (AA ops i) (r i) (AH (m i) (BY ops r m t i))
theorem Xi{P:Program}{h:Cg}{σ:List V}{t0:Nat->V}{K:(Nat->V)->Prop}(hn:n<=ops.size)(hq:QOK ops n): ∀ (k i:Nat) (r:Nat->V) (m:Nat->List (Nat×Tk)),i+k=n->
  vq P h ops σ ((ops.toList.drop i).take k) K (BY ops r m t0 i)->(∀j,j<i->∀o,ops[j]? =some o->ID P h ops σ o (BY ops r m t0 j) (r j) (m j))->
  ∃ (r':Nat->V) (m':Nat->List (Nat×Tk)),(∀j,j<n->∀o,ops[j]? =some o->ID P h ops σ o (BY ops r' m' t0 j) (r' j) (m' j))/\K (BY ops r' m' t0 n):=by
 intro k
 induction k with
 |zero=>
  intro i r m hi hv hs;obtain rfl:i=n:=by omega
  simp [vq]at hv;exact⟨r,m,hs,hv⟩
 |succ k ih=>
  intro i r m hi hv hs;have hlt:i<ops.toList.length:=by simp;omega
  rw [List.drop_eq_getElem_cons hlt,List.take_succ_cons]at hv;obtain⟨oi,hoi,hnl⟩:=hq.dst i (by omega)
  have hdo:AA ops i=oi.dst:=by simp [AA,hoi]
  have he:ops.toList[i]=oi:=by
   have:=hoi;rw [<-Array.getElem?_toList,gEE hlt]at this;exact Option.some.inj this
  rw [he]at hv
  -- go on with the value v at place i
  have go: ∀v ys,ID P h ops σ oi (BY ops r m t0 i) v ys->vq P h ops σ ((ops.toList.drop (i+1)).take k) K (Ih oi.dst v (AH ys (BY ops r m t0 i)))->∃ (r':Nat->V) (m':Nat->List (Nat×Tk)),(∀j,j<n->∀o,ops[j]? =some o->ID P h ops σ o (BY ops r' m' t0 j) (r' j) (m' j))/\K (BY ops r' m' t0 n):=by
   intro v ys hst hv
   have same: ∀j,j<=i->BY ops (λx=>if x=i then v else r x) (λx=>if x=i then ys else m x) t0 j=BY ops r m t0 j:=by
    intro j
    induction j with
    |zero=>intro _;rfl
    |succ j ihj=>
     intro hj;have h1:j≠i:=by omega
     simp only [BY,ihj (by omega),h1,if_false]
   refine ih (i+1) (λx=>if x=i then v else r x) (λx=>if x=i then ys else m x) (by omega) ?_ ?_
   ·have:BY ops (λx=>if x=i then v else r x) (λx=>if x=i then ys else m x) t0 (i+1)=Ih oi.dst v (AH ys (BY ops r m t0 i)):=by
     simp only [BY,hdo,same i (Nat.le_refl _),if_true]
    rw [this];exact hv
   ·intro j hj o ho
    by_cases hji:j=i
    ·subst hji
     have:o=oi:=Option.some.inj (ho.symm.trans hoi);subst this;rw [same j (Nat.le_refl _)];simpa using hst
    ·rw [same j (by omega)]
     simp only [hji,if_false];exact hs j (by omega) o ho
  have go0: ∀v d,oi.dst=some d->ID P h ops σ oi (BY ops r m t0 i) v []->vq P h ops σ ((ops.toList.drop (i+1)).take k) K (Az (BY ops r m t0 i) d v)->∃ (r':Nat->V) (m':Nat->List (Nat×Tk)),(∀j,j<n->∀o,ops[j]? =some o->ID P h ops σ o (BY ops r' m' t0 j) (r' j) (m' j))/\K (BY ops r' m' t0 n):=
   λv d hd h1 h2=>go v [] h1 (by rw [Dp,hd];exact h2)
  unfold vq at hv;split at hv
  ·rename_i hg
   have dsome: ∀ (K:(Nat->V)->Prop) r',QK h oi.dst (BY ops r m t0 i) K r'->∃d,oi.dst=some d:=by
    intro K r' hK;unfold QK at hK;split at hK
    ·exact⟨_,by assumption⟩
    ·exact hK.elim
   rcases hv with⟨hna,hv|⟨ys,d,v,hd,hdn,hfz,hmv,hmq,hv⟩|⟨ys,v,hmv,hne,hlq,hv⟩⟩|⟨hal,d,hd,hdn,hv⟩
   ·obtain⟨r',hK,hdet⟩:=VM hv
    obtain⟨d,hd⟩:=dsome _ _ hK;rw [hd]at hK;obtain⟨hdn,hK⟩:=hK;exact go0 _ d hd (.inl ⟨hna,.inl ⟨d,hd,.inl ⟨.inl ⟨hdn,.inl hg,r',hdet,rfl⟩,rfl⟩⟩⟩) hK
   ·exact go v ys (.inl ⟨hna,.inl ⟨d,hd,.inr ⟨hdn,hg,hfz,hmv,hmq⟩⟩⟩) (by rw [hd];exact hv)
   ·exact go v ys (.inl ⟨hna,.inr (.inl ⟨hg,hmv,hne,hlq⟩)⟩) hv
   ·exact go0 .dead d hd (.inr ⟨hal,d,hd,hdn,rfl,rfl⟩) hv
  ·rename_i j want hg
   split at hv
   ·rename_i b hb
    by_cases hbw:b=want
    ·obtain⟨r',hK,hdet⟩:=VM (hv.1 hbw)
     unfold QK at hK;split at hK
     case h_2=>exact hK.elim
     rename_i d hd;obtain⟨hdn,hK⟩:=hK;exact go0 _ d hd (.inl ⟨CX hg,.inl ⟨d,hd,.inl ⟨.inl ⟨hdn,.inr ⟨j,want,hg,by rw [hb,hbw]⟩,r',hdet,rfl⟩,rfl⟩⟩⟩) hK
    ·have hbn:b=(!want):=by cases b<;>cases want<;>simp_all
     obtain⟨hlt,hK⟩:=hv.2 hbn;cases hd:oi.dst with
     |none=>
      rw [hd]at hK;exact go .dead [] (.inl ⟨CX hg,.inr (.inr ⟨j,want,hg,.inl (by rw [hb,hbn]),hd,rfl⟩)⟩) (by rw [hd];exact hK)
     |some d=>
      rw [hd]at hK;exact go0 udV d hd (.inl ⟨CX hg,.inl ⟨d,hd,.inl ⟨.inr ⟨j,want,hg,.inl (by rw [hb,hbn]),hlt d hd,rfl⟩,rfl⟩⟩⟩) hK
   ·obtain⟨hu,hlt,hK⟩:=hv
    cases hd:oi.dst with
    |none=>
     rw [hd]at hK;exact go .dead [] (.inl ⟨CX hg,.inr (.inr ⟨j,want,hg,.inr hu,hd,rfl⟩)⟩) (by rw [hd];exact hK)
    |some d=>
     rw [hd]at hK;exact go0 udV d hd (.inl ⟨CX hg,.inl ⟨d,hd,.inl ⟨.inr ⟨j,want,hg,.inr hu,hlt d hd,rfl⟩,rfl⟩⟩⟩) hK
structure MOK1(A:Nat->Prop)(ops:Array Oper)(n i:Nat)(p:Nat×Tk)(oi:Oper):Prop where
 at_:ops[i]? =some oi
 na: ¬A i
 looks:p.1∈oi.looksAt ops
 one:p.2.isPart=false->∀j oj,ops[j]? =some oj->p.1∈oj.looksAt ops->j=i\/WS ops i j\/WS ops j i
 nx:p.2.isPart=false->∀y c,oi.op≠.extract y c
 part: ∀c,p.2= .part c->∀j oj,j<n->ops[j]? =some oj->p.1∈oj.looksAt ops->oj.guard=none/\∃c',oj.op= .extract (.tmp p.1) c'/\(j≠i->c'≠c)
 edge:(∃e∈oi.after,Region.binds .any e=true/\AA ops e.on=some p.1)\/(p.2.isPart=false/\∀j,AA ops j≠some p.1)
structure MOKA(A:Nat->Prop)(B:Nat->Nat->Prop)(ops:Array Oper)(n i:Nat)(p:Nat×Tk)(oi:Oper):Prop where
 at_:ops[i]? =some oi
 put:p.2.isPart=false
 nd: ∀j,AA ops j≠some p.1
 us:B i p.1
 one: ∀j,B j p.1->j=i\/WS ops i j\/WS ops j i
 look: ∀j oj,ops[j]? =some oj->p.1∈oj.looksAt ops->A j
def MOK(A:Nat->Prop)(B:Nat->Nat->Prop)(ops:Array Oper)(n:Nat)(m:Nat->List (Nat×Tk)):Prop:=∀i,i<n->∀p∈m i,∃oi,MOK1 A ops n i p oi\/MOKA A B ops n i p oi
def isA(h:Cg)(ops:Array Oper)(i:Nat):Prop:=∃o,ops[i]? =some o/\alM h ops o=true
def isB(h:Cg)(ops:Array Oper)(i x:Nat):Prop:=i∈alU h ops x
theorem le_one{α:Type}{l:List α}(h:l.length<=1){a b:α}(ha:a∈l)(hb:b∈l):a=b:=by
 match l,h with
 | [c],_=>grind
theorem DT{ops:Array Oper}{oi:Oper}{y:Nat}(h3:(oi.after.toList.any λe=>Region.binds .any e&&(match AA ops e.on with
 |some d=>Nat.beq d y
 |none=>false))=true): ∃e∈oi.after,Region.binds .any e=true/\AA ops e.on=some y:=by
 obtain⟨e,he,hb⟩:=List.any_eq_true.1 h3;rw [bAE]at hb;refine⟨e,by grind,hb.1,?_⟩
 have:=hb.2;split at this
 ·simp_all
 grind
theorem YV{P:Program}{h:Cg}{σ:List V}{t0 r:Nat->V}{m:Nat->List (Nat×Tk)}(hq:QOK ops n)
  (hst: ∀j,j<n->∀o,ops[j]? =some o->ID P h ops σ o (BY ops r m t0 j) (r j) (m j)):MOK (isA h ops) (isB h ops) ops n m:=by
 intro i hi p hp;obtain⟨oi,hoi,_⟩:=hq.dst i hi;have hdo:AA ops i=oi.dst:=by simp [AA,hoi]
 have hm: ¬isA h ops i/\(I3 ops oi p=true\/Qy h ops oi p=true)/\(p.2.isPart=false->∀y c,oi.op≠.extract y c):=by
  rcases hst i hi oi hoi with⟨hna,hs⟩|⟨_,_,_,_,_,he⟩
  rotate_left
  ·rw [he]at hp;cases hp
  refine⟨fun⟨o',ho',hal⟩=>?_,?_⟩
  ·obtain rfl:o'=oi:=Option.some.inj (ho'.symm.trans hoi)
   rw [hna]at hal;cases hal
  rcases hs with⟨_,_,⟨_,he⟩|⟨_,_,_,hm,hmq⟩⟩|⟨_,hm,hne,_⟩|⟨_,_,_,_,_,he⟩
  ·rw [he]at hp;cases hp
  ·refine⟨.inl (hm p hp),λhpt y c hop=>?_⟩
   rcases hmq with⟨z,hz,_⟩|⟨z,c',n',f,_,hys,_⟩
   ·rcases hz with hz|hz<;>(rw [hop]at hz;cases hz)
   ·rw [hys,List.mem_singleton]at hp
    rw [hp]at hpt;cases hpt
  ·exact⟨hm p hp,λ_ y c hop=>by rw [hop]at hne;cases hne⟩
  ·rw [he]at hp;cases hp
 obtain⟨hna,hm,hnx⟩:=hm;rcases hm with hm|hm
 rotate_left
 ·unfold Qy at hm
  simp only [bAE,Bool.not_eq_true']at hm;obtain⟨⟨⟨⟨h1,h2⟩,h3⟩,h4⟩,h5⟩:=hm;have hin: ∀j oj,ops[j]? =some oj->alB h ops oj p.1=true->j∈alU h ops p.1:=by
   intro j oj hoj hb;unfold alU;rw [List.mem_filter,List.mem_range];refine⟨(Array.getElem?_eq_some_iff.1 hoj).1,?_⟩;rw [hoj];exact hb
  refine⟨oi,.inr ⟨hoi,h1,Cp h3,hin i oi hoi h2,λj hj=>?_,λj oj hoj hl=>?_⟩⟩
  ·have hp:=JS hq.back h4 λk hk=>by
    have hk:=List.mem_range.1 (List.mem_filter.1 hk).1;exact⟨ops[k],by simp [hk]⟩
   obtain⟨a,ha,ea⟩:=List.getElem_of_mem (hin i oi hoi h2);obtain⟨b,hb',eb⟩:=List.getElem_of_mem (show j∈alU h ops p.1 from hj)
   rcases Nat.lt_trichotomy a b with hlt|heq|hlt
   ·have:=List.pairwise_iff_getElem.1 hp a b ha hb' hlt
    rw [ea,eb]at this;exact .inr (.inr this)
   ·subst heq
    exact .inl (eb.symm.trans ea)
   ·have:=List.pairwise_iff_getElem.1 hp b a hb' ha hlt
    rw [ea,eb]at this;exact .inr (.inl this)
  ·have:=aET.1 h5 j (List.mem_range.2 (Array.getElem?_eq_some_iff.1 hoj).1)
   rw [hoj]at this;simp only [Bool.or_eq_true,Bool.not_eq_true']at this;rcases this with h6|h6
   ·have:(oj.looksAt ops).contains p.1=true:=by simpa using hl
    rw [h6]at this;cases this
   ·exact⟨oj,hoj,h6⟩
 obtain⟨y,tk⟩:=p
 have wholeC:mvC ops oi y=true->tk.isPart=false->∃oi,MOK1 (isA h ops) ops n i (y,tk) oi\/MOKA (isA h ops) (isB h ops) ops n i (y,tk) oi:=by
  intro hm htk;unfold mvC at hm;rw [bAE,bAE]at hm;have h1:y∈oi.looksAt ops:=by simpa using hm.1.1
  exact⟨oi,.inl ⟨hoi,hna,h1,λ_ j oj hoj hyj=>UA hq.back hm.2 hoi h1 hoj hyj,hnx,(λc hc=>by have hc:tk= .part c:=hc;rw [hc]at htk;cases htk),.inr ⟨htk,Cp hm.1.2⟩⟩⟩
 have whole:mvB ops oi y=true\/mvR ops oi y=true->tk.isPart=false->∃oi,MOK1 (isA h ops) ops n i (y,tk) oi\/MOKA (isA h ops) (isB h ops) ops n i (y,tk) oi:=by
  intro hm htk
  obtain⟨h1,h2,h3⟩:(oi.looksAt ops).contains y=true/\XR ops y=true/\((∃e∈oi.after,Region.binds .any e=true/\AA ops e.on=some y)\/(tk.isPart=false/\∀j,AA ops j≠some y)):=by
   rcases hm with hm|hm
   ·unfold mvB at hm
    rw [bAE,bAE]at hm;exact⟨hm.1.1,hm.1.2,.inl (DT hm.2)⟩
   ·unfold mvR at hm
    rw [bAE,bAE]at hm;exact⟨hm.1.1,hm.1.2,.inr ⟨htk,Cp hm.2⟩⟩
  have h1:y∈oi.looksAt ops:=by simpa using h1
  refine⟨oi,.inl ⟨hoi,hna,h1,λ_ j oj hoj hyj=>.inl ?_,hnx,(λc hc=>by have hc:tk= .part c:=hc;rw [hc]at htk;cases htk),h3⟩⟩
  unfold XR at h2;have h2:=of_decide_eq_true h2
  have hin: ∀k ok,ops[k]? =some ok->y∈ok.looksAt ops->k∈(List.range ops.size).filter λj=>match ops[j]? with
    |some o=>(o.looksAt ops).contains y
    |none=>false:=by
   intro k ok hk hyk;rw [List.mem_filter,List.mem_range];refine⟨(Array.getElem?_eq_some_iff.1 hk).1,?_⟩;rw [hk];simpa using hyk
  exact le_one h2 (hin j oj hoj hyj) (hin i oi hoi h1)
 unfold I3 at hm;cases tk with
 |all=>exact whole (.inl hm) rfl
 |put v=>
  have hm:(mvB ops oi y||mvR ops oi y||mvC ops oi y)=true:=hm;rw [Bool.or_eq_true,Bool.or_eq_true]at hm;exact hm.elim (λh=>whole h rfl) λh=>wholeC h rfl
 |part c=>
  have hm:exB ops oi y c=true:=hm;unfold exB at hm;rw [bAE,bAE]at hm;obtain⟨⟨h1,h2⟩,h3⟩:=hm;have h1:y∈oi.looksAt ops:=by simpa using h1
  refine⟨oi,.inl ⟨hoi,hna,h1,(λhc=>by cases hc),(λhc=>by cases hc),λc0 hc j oj hj hoj hyj=>?_,.inl (DT h3)⟩⟩
  cases hc;have hown:=aET.1 h2 i (List.mem_range.2 (Array.getElem?_eq_some_iff.1 hoi).1);have:=aET.1 h2 j (List.mem_range.2 (Array.getElem?_eq_some_iff.1 hoj).1);rw [hoj]at this;simp only [Bool.or_eq_true,Bool.not_eq_true',bAE]at this;rcases this with h4|⟨h4,h5⟩
  ·have hyj:y∈oj.looksAt ops:=hyj
   have:(oj.looksAt ops).contains y=true:=by simpa using hyj
   rw [h4]at this;cases this
  ·refine⟨by simpa using h4,?_⟩
   split at h5
   case h_2=>cases h5
   rename_i y' c' hop;simp only [bAE,Bool.or_eq_true,Bool.not_eq_true',beq_iff_eq]at h5;obtain⟨h6,h7⟩:=h5;have h6:=bqE h6;subst h6;refine⟨c',hop,λhji hcc=>?_⟩
   rcases h7 with h7|h7
   ·rw [hcc,Nat.beq_refl]at h7;cases h7
   ·cases hdi:oi.dst with
    |some d=>exact(hq.ne i j d oj hi hj (Ne.symm hji) (hdo.trans hdi) hoj).1 (h7.trans hdi)
    |none=>
     rcases hst i hi oi hoi with⟨_,⟨d,hd,_⟩|⟨_,_,hne,_⟩|⟨_,_,_,_,_,he⟩⟩|⟨_,d,hd,_⟩
     ·rw [hdi]at hd;cases hd
     rotate_left
     ·rw [he]at hp;cases hp
     ·rw [hdi]at hd;cases hd
     ·rw [hoi]at hown
      simp only [Bool.or_eq_true,Bool.not_eq_true',bAE]at hown;rcases hown with h8|⟨_,h8⟩
      ·have:(oi.looksAt ops).contains y'=true:=by simpa using h1
       rw [h8]at this;cases this
      ·split at h8
       ·rename_i hop';rw [hop']at hne;cases hne
       ·cases h8
def apS(S:Nat->Bool)(m:Nat->List (Nat×Tk))(x:Nat)(v:V):Nat->V
 |0=>v
 |n+1=>if S n=true then HE (A9 (m n) x) (apS S m x v n)else apS S m x v n
theorem HC{S:Nat->Bool}{m:Nat->List (Nat×Tk)}{x:Nat}{v:V}: ∀n,(∀i,i<n->S i=true->A9 (m i) x=none)->apS S m x v n=v
 |0,_=>rfl
 |n+1,h=>by
  unfold apS;rw [HC n λi hi=>h i (by omega)]
  split
  ·rename_i hs;rw [h n (by simp) hs];rfl
  rfl
theorem B8{S S':Nat->Bool}{m:Nat->List (Nat×Tk)}{x:Nat}{v:V}: ∀n,(∀i,i<n->S i=S' i)->apS S m x v n=apS S' m x v n
 |0,_=>rfl
 |n+1,h=>by
  unfold apS;rw [B8 n λi hi=>h i (by omega),h n (by simp)]
theorem JZ{S S':Nat->Bool}{m:Nat->List (Nat×Tk)}{x j:Nat}{v:V}(h1:S j=false)(h2:S' j=true)(h3: ∀i,i≠j->S' i=S i): ∀n,(∀i,i<n->j<i->S i=true->∀u,HE (A9 (m i) x) (HE (A9 (m j) x) u)=HE (A9 (m j) x) (HE (A9 (m i) x) u))->j<n->apS S' m x v n=HE (A9 (m j) x) (apS S m x v n)
 |0,_,h=>by omega
 |n+1,hc,h=>by
  unfold apS;by_cases hj:j=n
  ·subst hj
   rw [if_pos h2,h1,B8 (S':=S) j λi hi=>h3 i (by omega)]
   simp
  ·rw [JZ h1 h2 h3 n (λi hi=>hc i (by omega)) (by omega),h3 n (Ne.symm hj)]
   grind
def EqC(c:Nat)(v v':V):Prop:=v=v'\/∃tg n f g,v= .many tg n f/\v'= .many tg n g/\f c=g c
theorem EqC.symm{c:Nat}{v v':V}(h:EqC c v v'):EqC c v' v:=by
 rcases h with rfl|⟨tg,n,f,g,h1,h2,h3⟩
 ·exact .inl rfl
 ·exact .inr ⟨tg,n,g,f,h2,h1,h3.symm⟩
theorem EqC.trans{c:Nat}{v v' v'':V}(h:EqC c v v')(h':EqC c v' v''):EqC c v v'':=by
 rcases h with rfl|⟨tg,n,f,g,h1,h2,h3⟩
 ·omega
 ·rcases h' with rfl|⟨tg',n',f',g',h1',h2',h3'⟩
  ·exact .inr ⟨tg,n,f,g,h1,h2,h3⟩
  ·rw [h2]at h1'
   cases h1';exact .inr ⟨tg,n,f,g',h1,h2',h3.trans h3'⟩
theorem EqC.kill{c c':Nat}(h:c'≠c)(v:V):EqC c v (NF c' v):=by
 cases v<;>try exact .inl rfl
 exact .inr ⟨_,_,_,_,rfl,rfl,by grind⟩
theorem WV{S:Nat->Bool}{m:Nat->List (Nat×Tk)}{x c:Nat}{v:V}: ∀n,(∀i,i<n->S i=true->∀tk,A9 (m i) x=some tk->∃c',tk= .part c'/\c'≠c)->EqC c v (apS S m x v n)
 |0,_=>.inl rfl
 |n+1,h=>by
  have ih:=WV (v:=v) n λi hi=>h i (by omega)
  unfold apS;split
  ·rename_i hs
   cases hl:A9 (m n) x with
   |none=>trivial
   |some tk=>
    obtain⟨c',rfl,hc⟩:=h n (by simp) hs tk hl
    exact ih.trans (EqC.kill hc _)
  grind
def Co(ops:Array Oper)(n x:Nat):Option Nat:=(List.range n).find? λi=>AA ops i==some x
theorem A8(h:Co ops n x=some i):i<n/\AA ops i=some x:=by
 unfold Co at h
 grind
theorem KF(h:Co ops n x=none): ∀i,i<n->AA ops i≠some x:=by
 unfold Co at h
 grind
theorem LN(hq:QOK ops n)(hi:i<n)(h:AA ops i=some x):Co ops n x=some i:=by
 cases ho:Co ops n x with
 |none=>exact absurd h (KF ho i hi)
 |some j=>
  obtain⟨hj,hdj⟩:=A8 ho;by_cases he:j=i
  ·grind
  ·obtain⟨oi,hoi,_⟩:=hq.dst i hi
   have:=(hq.ne j i x oi hj hi he hdj hoi).1;simp [AA,hoi]at h
   grind
theorem C2(hq:QOK ops n)(hm:MOK A B ops n m){tk:Tk}(hi:i<n)(h:A9 (m i) x=some tk):Co ops n x=none\/∃k,Co ops n x=some k/\k<i/\∃oi,ops[i]? =some oi/\∃e∈oi.after,Region.binds .any e=true/\e.on=k:=by
 obtain⟨oi,ho⟩:=hm i hi _ (Cr h);rcases ho with ho|ho
 rotate_left
 ·left
  cases hw:Co ops n x with
  |none=>rfl
  |some k=>exact absurd (A8 hw).2 (ho.nd k)
 rcases ho.edge with⟨e,he,hb,hd⟩|⟨_,hnd⟩
 rotate_left
 ·left
  cases ho:Co ops n x with
  |none=>rfl
  |some k=>exact absurd (A8 ho).2 (hnd k)
 right;have hlt:=hq.back i oi e ho.at_ he hb;exact⟨e.on,LN hq (by omega) hd,hlt,oi,ho.at_,e,he,hb,rfl⟩
theorem PQ(hm:MOK A B ops n m)(hi:i<n)(hj:j<n)(hij:i≠j)(h1: ¬WS ops i j)(h2: ¬WS ops j i)(u:V):HE (A9 (m i) x) (HE (A9 (m j) x) u)=HE (A9 (m j) x) (HE (A9 (m i) x) u):=by
 refine Wk _ _ _ λa b ha hb=>?_
 obtain⟨oi,mi⟩:=hm i hi _ (Cr ha);obtain⟨oj,mj⟩:=hm j hj _ (Cr hb);rcases mi with mi|mi
 rotate_left
 ·rcases mj with mj|mj
  ·exact absurd (mi.look j oj mj.at_ mj.looks) mj.na
  ·rcases mi.one j mj.us with h3|h3|h3<;>first|omega|exact absurd h3 h1|exact absurd h3 h2
 rcases mj with mj|mj
 rotate_left
 ·exact absurd (mj.look i oi mi.at_ mi.looks) mi.na
 refine⟨?_,?_⟩
 ·cases h:a.isPart with
  |true=>rfl
  |false=>rcases mi.one h j oj mj.at_ mj.looks with h3|h3|h3<;>first|grind|rfl|rfl
 ·cases h:b.isPart with
  |true=>rfl
  |false=>rcases mj.one h i oi mi.at_ mi.looks with h3|h3|h3<;>first|grind|rfl|exact absurd h3 h2
def pt(ops:Array Oper)(n:Nat)(r:Nat->V)(m:Nat->List (Nat×Tk))(t0:Nat->V)(listed:Array Bool)(x:Nat):V:=
 match Co ops n x with
 |some k=>if listed.getD k false then apS (λi=>listed.getD i false) m x (r k) n else .dead
 |none=>apS (λi=>listed.getD i false) m x (t0 x) n
theorem Ha(hq:QOK ops n)(hm:MOK A B ops n m)(r t0:Nat->V)(x:Nat): ∀j,j<=n->BY ops r m t0 j x=match Co ops n x with
  |some k=>if k<j then apS (λi=>decide (i<j)) m x (r k) n else t0 x
  |none=>apS (λi=>decide (i<j)) m x (t0 x) n:=by
 intro j
 induction j with
 |zero=>
  intro _;cases Co ops n x with
  |none=>exact(HC n λi _ hs=>by simp at hs).symm
  |some k=>simp [BY]
 |succ j ih=>
  intro hj;obtain⟨oj,hoj,_⟩:=hq.dst j (by omega)
  have hdo:AA ops j=oj.dst:=by simp [AA,hoj]
  have other:AA ops j≠some x->BY ops r m t0 (j+1) x=match Co ops n x with
    |some k=>if k<j+1 then apS (λi=>decide (i<j+1)) m x (r k) n else t0 x
    |none=>apS (λi=>decide (i<j+1)) m x (t0 x) n:=by
   intro hx
   have e:BY ops r m t0 (j+1) x=AH (m j) (BY ops r m t0 j) x:=by
    show Ih (AA ops j) (r j) (AH (m j) (BY ops r m t0 j)) x=_;cases hd:AA ops j with
    |none=>rfl
    |some d=>
     show Az _ d _ x=_;unfold Az;rw [if_neg]
     rintro rfl
     exact hx hd
   rw [e];unfold AH;rw [ih (by omega)]
   cases ho:Co ops n x with
   |none=>
    exact(JZ (by simp) (by simp) (λi hi=>by
      simp only [decide_eq_decide];omega) n (λi _ hij hs=>absurd (of_decide_eq_true hs) (by omega)) (by omega)).symm
   |some k=>
    have hkj:k≠j:=by
     rintro rfl
     exact hx (A8 ho).2
    simp only;by_cases hlt:k<j
    ·rw [if_pos hlt,if_pos (by omega)]
     exact(JZ (by simp) (by simp) (λi hi=>by
      simp only [decide_eq_decide];omega) n (λi _ hij hs=>absurd (of_decide_eq_true hs) (by omega)) (by omega)).symm
    ·rw [if_neg hlt,if_neg (by omega)]
     cases hl:A9 (m j) x with
     |none=>rfl
     |some tk=>
      rcases C2 hq hm (by omega:j<n) hl with hk'|⟨k',hk',hkj',_⟩
      ·rw [ho]at hk';cases hk'
      ·rw [ho]at hk';cases hk';omega
  by_cases hx:AA ops j=some x
  ·have ho:=LN hq (by omega:j<n) hx
   have e:BY ops r m t0 (j+1) x=r j:=by
    show Ih (AA ops j) (r j) (AH (m j) (BY ops r m t0 j)) x=_;rw [hx];show Az _ x _ x=_;unfold Az;rw [if_pos rfl]
   rw [e,ho];simp only [Nat.lt_succ_self,if_true];refine(HC n λi hi hs=>?_).symm
   cases hl:A9 (m i) x with
   |none=>rfl
   |some tk=>
    rcases C2 hq hm hi hl with hk|⟨k,hk,hki,_⟩
    ·rw [ho]at hk;cases hk
    rw [ho]at hk;cases hk;have:=of_decide_eq_true hs;omega
  ·exact other hx
theorem PR.ev{C:Ctx}{N:Nat}{σ:List V}{ρ:Nat->Value}{F:Nat->Nat->Prop}{t:Nat->V}{a:Act}{w:World}{D:Nat->Prop}{T:Nat->Nat->Prop}(h:PR C N σ ρ F t a w D T)(x:Operand):OpR σ w D ρ F (Ms.ev ⟨t,σ⟩ x) (a.eval x):=by
 have plain: ∀v cv,Rel D w (Ag σ ρ w) v cv noF->OpR σ w D ρ F v cv:=λv cv hr=>⟨noF,hr,λ_ h=>h.elim,λ_ _ _ h=>h⟩
 cases x with
 |tmp y=>
  by_cases hy:y<N
  ·exact⟨T y,h.tm y hy,h.tD y,λi b hb=>h.tF i y b hb⟩
  ·refine plain _ _ ?_
   show Rel D w _ (t y) _ noF;rw [h.dd y (Nat.le_of_not_lt hy)];exact λ_ h=>h
 |const v=>exact plain _ _ (H9 v)
 |global g=>exact plain _ _ ⟨rfl,rfl,λ_ h=>h⟩
 |func f=>exact plain _ _ OZ
theorem PR.gvN(h:PR C N σ ρ F t a w D T)(hg:Go.Ve.gv t ops j=udV):yielded ops a.tmps j=none:=by
 unfold Go.Ve.gv at hg;split at hg
 ·rename_i d hd
  have hlt:d<N:=by
   rcases Nat.lt_or_ge d N with h'|h'
   ·grind
   ·rw [h.dd d h']at hg;cases hg
  have h1:=h.tm d hlt;rw [hg]at h1;obtain⟨cs,_,hcv,_⟩:=h1;have h2:d<a.tmps.size:=by rw [h.sz];omega
  have h3:a.tmps[d]? =some (.tuple cs):=by
   simp [h2]at hcv⊢
   trivial
  unfold yielded
  grind
 trivial
theorem PR.gv{C:Ctx}{N:Nat}{σ:List V}{ρ:Nat->Value}{F:Nat->Nat->Prop}{t:Nat->V}{a:Act}{w:World}{D:Nat->Prop}{T:Nat->Nat->Prop}(h:PR C N σ ρ F t a w D T){ops:Array Oper}{j:Nat}{b:Bool}(hg:Go.Ve.gv t ops j= .c (.bool b)):yielded ops a.tmps j=some b:=by
 unfold Go.Ve.gv at hg;split at hg
 ·rename_i d hd
  have hlt:d<N:=by
   rcases Nat.lt_or_ge d N with h'|h'
   ·omega
   ·rw [h.dd d h']at hg;grind
  have h1:=h.tm d hlt;rw [hg]at h1;have h2:d<a.tmps.size:=by rw [h.sz];grind
  have h3:a.tmps[d]? =some (.bool b):=by
   have:=h1.1
   simp_all
  unfold yielded
  grind
 grind
theorem PR.put{C:Ctx}{N:Nat}{σ:List V}{ρ:Nat->Value}{F:Nat->Nat->Prop}{t:Nat->V}{a:Act}{w w':World}{D D':Nat->Prop}{T:Nat->Nat->Prop}(h:PR C N σ ρ F t a w D T){r:V}{v':Value}{fp:Nat->Prop}{d:Nat}(hB:Below w.heap.size w w')(hr:Rel D' w' (Ag σ ρ w') r v' fp)
  (hf: ∀b,fp b->w.heap.size<=b) (hd1: ∀b,D b->D' b) (hd2: ∀b,D' b->D b\/w.heap.size<=b) (hd3: ∀b,D' b->b<w'.heap.size/\¬fp b) (hdn:d<N):
  PR C N σ ρ F (Az t d r) (a.put (some d) v') w' D' (λx=>if x=d then fp else T x):=by
 have hFlt: ∀i b,F i b->b<w.heap.size:=h.wr.lt;have hTlt: ∀x b,T x b->b<w.heap.size:=by
  intro x b hb;by_cases hx:x<N
  ·exact Rel.lt _ _ _ (h.tm x hx) b hb
  ·exact absurd hb (h.tx x b (Nat.le_of_not_lt hx))
 have wr':Bj σ w' D' ρ F:=by
  have h1:=h.wr.below hB;refine⟨λi hi=>Rel.mono hd1 (λ_ _ h=>h) _ _ _ (λ_ _=>rfl) (h1.rel i hi),h1.disj,λi b hb hD=>?_,λb hb=>(hd3 b hb).1,h1.out⟩
  rcases hd2 b hD with h2|h2
  ·exact h1.dD i b hb h2
  ·have:=hFlt i b hb;omega
 refine⟨h.df,by rw [BK];simpa using h.sz,λx hx=>?_,wr',λx hx=>?_,λx b hb=>?_,λi x b hb hT=>?_,λx y b hxy h1 h2=>?_,λx b hb=>?_,h.fr.below hB,h.Fn,λb hb=>hd1 b (h.D1 b hb),λb hb hlt=>?_,h.rt,h.ml,λx b hx hb=>?_⟩
 ·have: ¬x=d:=by omega
  simp only [Az,this,if_false];exact h.dd x hx
 ·have hlt:x<a.tmps.size:=by rw [h.sz];exact hx
  rw [BK];by_cases he:x=d
  ·subst he
   simp only [Az,if_true];simpa [hlt]using hr
  ·simp only [Az,he,if_false]
   rw [Array.getD_eq_getD_getElem?,Array.getElem?_setIfInBounds_ne (Ne.symm he),<-Array.getD_eq_getD_getElem?];refine Rel.mono hd1 (λv cv hv=>Ag.same h.wr (λi b hb=>hB.block b (hFlt i b hb)) v cv hv) _ _ _ (λb hb=>hB.block b ?_) (h.tm x hx)
   exact hb.elim (h.wr.Dlt b) (hTlt x b)
 ·split at hb
  ·exact λhD=>(hd3 b hD).2 hb
  ·intro hD
   rcases hd2 b hD with h2|h2
   ·exact h.tD x b hb h2
   ·have:=hTlt x b hb;omega
 ·split at hT
  ·have:=hFlt i b hb;have:=hf b hT;omega
  ·exact h.tF i x b hb hT
 ·split at h1<;>split at h2
  ·omega
  ·have:=hf b h1;have:=hTlt y b h2;omega
  ·have:=hf b h2;have:=hTlt x b h1;omega
  ·exact h.tT x y b hxy h1 h2
 ·split at hb
  ·exact .inr (Nat.le_trans h.fr.size (hf b hb))
  ·exact h.tn x b hb
 ·rcases hd2 b hb with h2|h2
  ·exact h.D2 b h2 hlt
  ·have:=h.fr.size;omega
 ·have: ¬x=d:=by omega
  simp only [this,if_false]at hb;exact h.tx x b hx hb
theorem PR.move{w':World}{D':Nat->Prop}(h:PR C N σ ρ F t a w D T){r:V}{v':Value}{d:Nat}{t1:Nat->V}{T1:Nat->Nat->Prop}(g1: ∀x,x<N->Rel D w (Ag σ ρ w) (t1 x) (a.tmps.getD x undef) (T1 x))(g2: ∀x b,T1 x b->T x b)(g3: ∀x,N<=x->t1 x= .dead)(hB:Below w.heap.size w w')(hr:Rel D' w' (Ag σ ρ w') r v' fp)
  (hf: ∀b,fp b->(∃y,T y b/\∀x,¬T1 x b)\/w.heap.size<=b) (hd1: ∀b,D b->D' b) (hd2: ∀b,D' b->D b\/w.heap.size<=b) (hd3: ∀b,D' b->b<w'.heap.size/\¬fp b) (hdn:d<N):
  PR C N σ ρ F (Az t1 d r) (a.put (some d) v') w' D' (λx=>if x=d then fp else T1 x):=by
 have hFlt: ∀i b,F i b->b<w.heap.size:=h.wr.lt;have hTlt: ∀x b,T x b->b<w.heap.size:=by
  intro x b hb;by_cases hx:x<N
  ·exact Rel.lt _ _ _ (h.tm x hx) b hb
  ·exact absurd hb (h.tx x b (Nat.le_of_not_lt hx))
 have wr':Bj σ w' D' ρ F:=by
  have h1:=h.wr.below hB;refine⟨λi hi=>Rel.mono hd1 (λ_ _ h=>h) _ _ _ (λ_ _=>rfl) (h1.rel i hi),h1.disj,λi b hb hD=>?_,λb hb=>(hd3 b hb).1,h1.out⟩
  rcases hd2 b hD with h2|h2
  ·exact h1.dD i b hb h2
  ·have:=hFlt i b hb;omega
 refine⟨h.df,by rw [BK];simpa using h.sz,λx hx=>?_,wr',λx hx=>?_,λx b hb=>?_,λi x b hb hT=>?_,λx y b hxy h1 h2=>?_,λx b hb=>?_,h.fr.below hB,h.Fn,λb hb=>hd1 b (h.D1 b hb),λb hb hlt=>?_,h.rt,h.ml,λx b hx hb=>?_⟩
 ·have: ¬x=d:=by omega
  simp only [Az,this,if_false];exact g3 x hx
 ·have hlt:x<a.tmps.size:=by rw [h.sz];exact hx
  rw [BK];by_cases he:x=d
  ·subst he
   simp only [Az,if_true];simpa [hlt]using hr
  ·simp only [Az,he,if_false]
   rw [Array.getD_eq_getD_getElem?,Array.getElem?_setIfInBounds_ne (Ne.symm he),<-Array.getD_eq_getD_getElem?];refine Rel.mono hd1 (λv cv hv=>Ag.same h.wr (λi b hb=>hB.block b (hFlt i b hb)) v cv hv) _ _ _ (λb hb=>hB.block b ?_) (g1 x hx)
   exact hb.elim (h.wr.Dlt b) λh'=>hTlt x b (g2 x b h')
 ·split at hb
  ·exact λhD=>(hd3 b hD).2 hb
  ·intro hD
   rcases hd2 b hD with h2|h2
   ·exact h.tD x b (g2 x b hb) h2
   ·have:=hTlt x b (g2 x b hb);omega
 ·split at hT
  ·rcases hf b hT with⟨y,hy,_⟩|h2
   ·exact h.tF i y b hb hy
   ·have:=hFlt i b hb;omega
  ·exact h.tF i x b hb (g2 x b hT)
 ·have one: ∀x,fp b->T1 x b->False:=by
   intro x h3 h4;rcases hf b h3 with⟨z,_,h5⟩|h5
   ·exact h5 x h4
   ·have:=hTlt x b (g2 x b h4);omega
  split at h1<;>split at h2
  ·omega
  ·exact one y h1 h2
  ·exact one x h2 h1
  ·exact h.tT x y b hxy (g2 x b h1) (g2 y b h2)
 ·split at hb
  ·rcases hf b hb with⟨y,hy,_⟩|h2
   ·exact h.tn y b hy
   ·exact .inr (Nat.le_trans h.fr.size h2)
  ·exact h.tn x b (g2 x b hb)
 ·rcases hd2 b hb with h2|h2
  ·exact h.D2 b h2 hlt
  ·have:=h.fr.size;omega
 ·have: ¬x=d:=by omega
  simp only [this,if_false]at hb;exact h.tx x b hx (g2 x b hb)
end Go.Ve


namespace Go.Ve
variable{a:Act}{K K':Act->World->Prop}{listed:Array Bool}{Q Q0:Exit->Act->World->Prop}{N c d f i x y:Nat}{D:Nat->Prop}{o oi:Oper}{dst:Option Nat}{u v:Value}{w:World}
theorem Below.drew(w:World):Below w.heap.size w {w with drawn:=w.drawn+1}:=
 ⟨rfl,rfl,rfl,Nat.le_refl _,λ_ _=>rfl,Nat.le_refl _⟩
theorem Bt(h:dst≠some x):(a.put dst u).tmps[x]? =a.tmps[x]?:=by
 cases dst with
 |none=>rfl
 |some e=>
  show(a.tmps.setIfInBounds e u)[x]? =_
  grind
section
def Pa(ops:Array Oper)(n:Nat)(X:Nat->Prop)(x:Nat):Prop:=(∃i,i<n/\AA ops i=some x)\/X x
variable {X A:Nat->Prop} {B:Nat->Nat->Prop} {P:Program} {C:Ctx} {h:Cg} {ops:Array Oper} {σ:List V} {ρ:Nat->Value} {F:Nat->Nat->Prop} {t0 r:Nat->V} {m:Nat->List (Nat×Tk)} {n:Nat}
theorem pt_set(hq:QOK ops n)(hm:MOK A B ops n m)(inv:HeadInv .any ops n listed)(hi:i<n)(hr:i∈Region.ready .any ops listed):
  pt ops n r m t0 (listed.setIfInBounds i true)=Ih (AA ops i) (r i) (AH (m i) (pt ops n r m t0 listed)):=by
 have hl:=inv.size;have hii:i<listed.size:=by rw [hl];exact Nat.lt_of_lt_of_le hi hq.le
 obtain⟨hun,o2,ho2,hall⟩:=mem_ready.1 hr;have hun:=getD_both hun;have eI:(listed.setIfInBounds i true).getD i false=true:=by simp [hii]
 funext x
 by_cases hx:AA ops i=some x
 ·have e:Ih (AA ops i) (r i) (AH (m i) (pt ops n r m t0 listed)) x=r i:=by
   rw [hx];show Az _ x _ x=_;unfold Az;rw [if_pos rfl]
  rw [e];have ho:=LN hq hi hx;unfold pt;rw [ho];simp only;rw [if_pos eI];refine HC n λj hj hs=>?_
  cases hc:A9 (m j) x with
  |none=>rfl
  |some tk=>
   rcases C2 hq hm hj hc with hk|⟨k,hk,hkj,oj,hoj,e,he,hb,hon⟩
   ·rw [ho]at hk;cases hk
   rw [ho]at hk;cases hk;rw [getD_set_ne false (by omega)]at hs
   have:=inv.closed j oj hoj hs e he hb;rw [hon,hun]at this;cases this
 ·have e:Ih (AA ops i) (r i) (AH (m i) (pt ops n r m t0 listed)) x=AH (m i) (pt ops n r m t0 listed) x:=by
   cases hd:AA ops i with
   |none=>rfl
   |some d=>
    show Az _ d _ x=_;unfold Az;rw [if_neg]
    rintro rfl
    exact hx hd
  rw [e];unfold AH pt;cases ho:Co ops n x with
  |none=>
   exact JZ (S:=λi=>listed.getD i false) hun eI (λj hj=>getD_set_ne false (Ne.symm hj)) n (λj hj hij hs u=>PQ hm hj hi (by omega) (λh=>by have:=h.listed inv.closed hs;rw [hun]at this;cases this) (λh=>absurd h.1 (by omega)) u) hi
  |some k=>
   have hne:i≠k:=by
    rintro rfl
    exact hx (A8 ho).2
   simp only;rw [getD_set_ne false hne];by_cases hlk:listed.getD k false=true
   ·rw [if_pos hlk,if_pos hlk]
    exact JZ (S:=λi=>listed.getD i false) hun eI (λj hj=>getD_set_ne false (Ne.symm hj)) n (λj hj hij hs u=>PQ hm hj hi (by omega) (λh=>by have:=h.listed inv.closed hs;rw [hun]at this;cases this) (λh=>absurd h.1 (by omega)) u) hi
   ·rw [if_neg hlk,if_neg hlk]
    cases hc:A9 (m i) x with
    |none=>rfl
    |some tk=>
     rcases C2 hq hm hi hc with hk'|⟨k',hk',hki,oi,hoi,e,he,hb,hon⟩
     ·rw [ho]at hk';cases hk'
     rw [ho]at hk';cases hk';obtain rfl:oi=o2:=Option.some.inj (hoi.symm.trans ho2);have:=hall e he hb;rw [hon]at this;exact absurd this hlk
theorem DD{S S':Nat->Bool}{x:Nat}{v:V}: ∀n,(∀i,i<n->A9 (m i) x≠none->S i=S' i)->apS S m x v n=apS S' m x v n
 |0,_=>rfl
 |n+1,h=>by
  unfold apS;rw [DD n λi hi=>h i (by omega)]
  cases hl:A9 (m n) x with
  |none=>
   have: ∀b,(if b=true then HE none (apS S' m x v n)else apS S' m x v n)=apS S' m x v n:=by
    intro b;cases b<;>rfl
   simp_all
  |some tk=>grind
theorem WZ(hq:QOK ops n)(hm:MOK A B ops n m)(inv:HeadInv .any ops n listed)(hoi:ops[i]? =some oi)(hi:i<n)(hr:i∈Region.ready .any ops listed)(hna: ¬A i)(hx:x∈oi.looksAt ops):
  BY ops r m t0 i x=pt ops n r m t0 listed x\/(oi.guard=none/\∃c,oi.op= .extract (.tmp x) c/\EqC c (BY ops r m t0 i x) (pt ops n r m t0 listed x)):=by
 rw [Ha hq hm r t0 x i (Nat.le_of_lt hi)];unfold pt
 have hm1: ∀j,j<n->∀tk,A9 (m j) x=some tk->∃oj,MOK1 A ops n j (x,tk) oj:=by
  intro j hj tk hl;obtain⟨oj,ok|ok⟩:=hm j hj _ (Cr hl)
  ·exact⟨oj,ok⟩
  ·exact absurd (ok.look i oi hoi hx) hna
 have one: ∀j,j<n->∀tk,A9 (m j) x=some tk->tk.isPart=false->decide (j<i)=listed.getD j false:=by
  intro j hj tk hl htk;obtain⟨oj,ok⟩:=hm1 j hj _ hl;obtain⟨hun,o2,ho2,hall⟩:=mem_ready.1 hr;have hun:=getD_both hun;rcases ok.one htk i oi hoi hx with h|h|h
  ·subst h
   rw [hun];simp
  ·have h1:=h.1
   have:listed.getD j false=false:=by
    cases hb:listed.getD j false with
    |false=>rfl
    |true=>have:=h.listed inv.closed hb;rw [hun]at this;cases this
   rw [this];exact dF (by omega)
  ·rw [h.2 listed inv.closed λoi' hoi' e he hb=>by
    obtain rfl:oi'=o2:=Option.some.inj (hoi'.symm.trans ho2);exact hall e he hb]
   exact dT h.1
 cases ho:Co ops n x with
 |none=>
  left;refine DD n λj hj hl=>?_
  cases hlj:A9 (m j) x with
  |none=>exact absurd hlj hl
  |some tk=>
   obtain⟨oj,ok⟩:=hm1 j hj _ hlj;rcases ok.edge with⟨e,he,hb,hd⟩|⟨htk,_⟩
   ·have hlt:=hq.back j oj e ok.at_ he hb
    exact absurd hd (KF ho e.on (by omega))
   ·exact one j hj tk hlj htk
 |some k=>
  obtain⟨hk,hdk⟩:=A8 ho;obtain⟨oi',hoi',hnl⟩:=hq.dst i hi;obtain rfl:oi'=oi:=Option.some.inj (hoi'.symm.trans hoi);have hne:k≠i:=by
   rintro rfl
   have:oi'.dst=some x:=by simpa [AA,hoi]using hdk
   exact hnl x this hx
  obtain⟨e,he,hb,hon⟩:=(hq.ne k i x oi' hk hi hne hdk hoi).2 hx;obtain⟨hun,o2,ho2,hall⟩:=mem_ready.1 hr;obtain rfl:o2=oi':=Option.some.inj (ho2.symm.trans hoi);have h1:=hall e he hb;rw [hon]at h1;have h2:=hq.back i o2 e hoi he hb;rw [hon]at h2;simp only [h1,h2,if_true];have hun:=getD_both hun;by_cases hex: ∃j c,j<n/\A9 (m j) x=some (.part c)
  ·obtain⟨j,c,hj,hl⟩:=hex
   obtain⟨oj,ok⟩:=hm1 j hj _ hl;obtain⟨hg,c',hop,_⟩:=ok.part c rfl i o2 hi hoi hx;right;refine⟨hg,c',hop,?_⟩
   have side: ∀S:Nat->Bool,S i=false->EqC c' (r k) (apS S m x (r k) n):=by
    intro S hSi;refine WV n λj' hj' hs tk hl'=>?_
    obtain⟨oj',ok'⟩:=hm1 j' hj' _ hl';cases htk:tk.isPart with
    |false=>
     obtain⟨_,c3,hop3,_⟩:=ok.part c rfl j' oj' hj' ok'.at_ ok'.looks;exact absurd hop3 (ok'.nx htk _ _)
    |true=>
     cases tk<;>first|cases htk|skip
     rename_i c2;obtain⟨_,c3,hop3,hne3⟩:=ok'.part c2 rfl i o2 hi hoi hx;rw [hop]at hop3;cases hop3;refine⟨c2,rfl,λe=>?_⟩
     have hij:i≠j':=by
      rintro rfl
      rw [hSi]at hs;cases hs
     exact hne3 hij e.symm
   exact(side (λj=>decide (j<i)) (by simp)).symm.trans (side (λj=>listed.getD j false) hun)
  ·left
   refine DD n λj hj hl=>?_
   cases hlj:A9 (m j) x with
   |none=>exact absurd hlj hl
   |some tk=>
    cases htk:tk.isPart with
    |true=>
     cases tk<;>first|cases htk|skip
     exact absurd ⟨j,_,hj,hlj⟩ hex
    |false=>exact one j hj tk hlj htk
theorem agreeA(hq:QOK ops n)(hm:MOK A B ops n m)(inv:HeadInv .any ops n listed)(hi:i<n)(hr:i∈Region.ready .any ops listed){tk:Tk}(hk:MOKA A B ops n i (x,tk) oi):
  BY ops r m t0 i x=pt ops n r m t0 listed x:=by
 rw [Ha hq hm r t0 x i (Nat.le_of_lt hi)];unfold pt;have hon:Co ops n x=none:=by
  cases hw:Co ops n x with
  |none=>rfl
  |some k=>exact absurd (A8 hw).2 (hk.nd k)
 rw [hon];refine DD n λj hj hl=>?_
 cases hlj:A9 (m j) x with
 |none=>exact absurd hlj hl
 |some tk'=>
  obtain⟨hun,o2,ho2,hall⟩:=mem_ready.1 hr;have hun:=getD_both hun;have key:j=i\/WS ops i j\/WS ops j i:=by
   obtain⟨oj,ok|ok⟩:=hm j hj _ (Cr hlj)
   ·exact absurd (hk.look j oj ok.at_ ok.looks) ok.na
   ·exact hk.one j ok.us
  rcases key with h|h|h
  ·subst h
   rw [hun];simp
  ·rw [h.2 listed inv.closed λoi' hoi' e he hb=>by
    grind]
   exact dT h.1
  ·have h1:=h.1
   have:listed.getD j false=false:=by
    cases hb:listed.getD j false with
    |false=>rfl
    |true=>have:=h.listed inv.closed hb;rw [hun]at this;cases this
   grind
theorem Ml(hq:QOK ops n)(hm:MOK A B ops n m)(inv:HeadInv .any ops n listed)(hoi:ops[i]? =some oi)(hi:i<n)(hr:i∈Region.ready .any ops listed)(hna: ¬A i)(hx:x∈oi.looksAt ops)(hne: ∀y c,oi.op≠.extract y c):
  BY ops r m t0 i x=pt ops n r m t0 listed x:=by
 rcases WZ hq hm inv hoi hi hr hna hx with h|⟨_,c,h,_⟩
 ·omega
 grind
theorem M8{v v':V}{K:V->Prop}(h:EqC c v v')(hq:Cd v c K):Cd v' c K:=by
 rcases h with rfl|⟨tg,n,f,g,rfl,rfl,h3⟩
 ·omega
 ·unfold Cd at hq⊢
  grind
theorem PR.skip{T:Nat->Nat->Prop}{t:Nat->V}(hp:PR C N σ ρ F t a w D T)(hdn:d<N):
  ∃T',PR C N σ ρ F (Az t d udV) (a.put (some d) undef) w D T'/\∀x b,T' x b->T x b:=
 ⟨_,hp.put (Below.refl _ _) Rel.ud (λ_ h=>h.elim) (λ_ h=>h) (λ_ h=>.inl h) (λb hb=>⟨hp.wr.Dlt b hb,λh=>h⟩) hdn,λx b hb=>by split at hb;exact hb.elim;grind⟩
theorem Hs{Q:Exit->Act->World->Prop}{K:Act->World->Prop}(hq:QOK ops n)(hm:MOK (isA h ops) (isB h ops) ops n m)(inv:HeadInv .any ops n listed)(hi:i<n)(hr:i∈Region.ready .any ops listed)
  (hst: ∀j,j<n->∀o,ops[j]? =some o->ID P h ops σ o (BY ops r m t0 j) (r j) (m j)) {D:Nat->Prop} {T:Nat->Nat->Prop} {a:Act} {w:World}
  (hp:PR C h.n σ ρ F (pt ops n r m t0 listed) a w D T) (hT: ∀x b,T x b->Pa ops n X x) (hal: ∀oi,ops[i]? =some oi->∀z y,AlP h ops oi z y->a.tmps.getD z undef=a.tmps.getD y undef)
  (hK: ∀a' w' D' T',PR C h.n σ ρ F (pt ops n r m t0 (listed.setIfInBounds i true)) a' w' D' T'->(∀x b,T' x b->Pa ops n X x)->(∀x,AA ops i≠some x->a'.tmps[x]? =a.tmps[x]?)->K a' w'):wpOp P ops Q i K a w:=by
 obtain⟨oi,hoi,hnl⟩:=hq.dst i hi;have hdoi:AA ops i=oi.dst:=by simp [AA,hoi]
 rw [pt_set hq hm inv hi hr,hdoi]at hK
 have hgv: ∀j want,oi.guard=some (j,want)->gv (pt ops n r m t0 listed) ops j=gv (BY ops r m t0 i) ops j:=by
  intro j want hg;unfold gv;split
  ·rename_i x hx
   rcases WZ (r:=r) (t0:=t0) hq hm inv hoi hi hr (fun⟨o',ho',ha⟩=>by
    obtain rfl:o'=oi:=Option.some.inj (ho'.symm.trans hoi);rw [CX hg]at ha;cases ha) (x:=x) (by unfold Oper.looksAt;rw [hg];simp [hx])with h|⟨h,_⟩
   ·exact h.symm
   ·rw [hg]at h;cases h
  ·rfl
 unfold wpOp;simp only [hoi];rcases hst i hi oi hoi with⟨hna,hs⟩|⟨ha,d,hd,hdn,hri,hmi⟩
 rotate_left
 ·obtain⟨hg,y,z,hop,hz,_⟩:=Mk ha
  have hw:Region.wanted oi (yielded ops a.tmps)=true:=by simp [Region.wanted,hg]
  rw [if_pos hw];refine .inl ?_;have hrun:(execOp a.eval oi).run P w= .ok (.value (a.eval (.tmp y))) w:=by unfold execOp;rw [hop];rfl
  unfold Oper.wp;rw [hrun];show K (a.put oi.dst (a.eval (.tmp y))) w;rw [hd]at hK⊢;rw [hmi,Dp,hri]at hK;refine hK _ _ _ _ (hp.put (fp:=noF) (Below.refl _ _) (show Rel D w (Ag σ ρ w) .dead (a.eval (.tmp y)) noF from λ_ h=>h) (λ_ h=>h.elim) (λ_ h=>h) (λ_ h=>.inl h) (λb hb=>⟨hp.wr.Dlt b hb,λh=>h⟩) hdn) (λx b hb=>?_) λx hx=>Bt hx
  split at hb
  ·exact hb.elim
  ·exact hT x b hb
 have hnA: ¬isA h ops i:=fun⟨o',ho',ha⟩=>by
  obtain rfl:o'=oi:=Option.some.inj (ho'.symm.trans hoi);rw [hna]at ha;cases ha
 rcases hs with⟨d,hd,hs⟩|⟨hg,hmv,hne,hlq⟩|⟨j,want,hg,hgj,hdn,hmi⟩
 rotate_left
 ·have hw:Region.wanted oi (yielded ops a.tmps)=true:=by simp [Region.wanted,hg]
  rw [if_pos hw];refine .inl (hlq C ρ F a w D T (pt ops n r m t0 listed) (λx hx=>?_) (hal oi hoi) hp K Q λa' w' D' T' hp' hT' htm=>hK a' w' D' T' hp' (λx b hb=>?_) htm)
  ·have hnx: ∀y c,oi.op≠.extract y c:=λy c e=>by rw [e]at hne;cases hne
   rcases hx with hx|hx
   rotate_left
   ·cases hl:A9 (m i) x with
    |none=>exact absurd hl hx
    |some tk=>
     obtain⟨oi',ok|ok⟩:=hm i hi _ (Cr hl)
     ·obtain rfl:oi'=oi:=Option.some.inj (ok.at_.symm.trans hoi)
      exact(Ml hq hm inv hoi hi hr hnA ok.looks hnx).symm
     ·exact(agreeA hq hm inv hi hr ok).symm
   refine(Ml hq hm inv hoi hi hr hnA ?_ hnx).symm;unfold DP at hx;obtain⟨u,hu,he⟩:=List.mem_filterMap.1 hx;cases u with
   |tmp y=>
    cases he;unfold Oper.looksAt;refine List.mem_append_left _ ?_;rw [List.mem_filterMap];exact⟨.tmp x,by simpa using hu,rfl⟩
   |const v=>cases he
   |global g=>cases he
   |func f=>cases he
  ·rcases hT' x b hb with h|⟨b',h⟩
   ·exact .inl ⟨i,hi,hdoi.trans h⟩
   ·exact hT x b' h
 ·have hgj':=hgj
  rw [<-hgv j want hg]at hgj'
  have hw:Region.wanted oi (yielded ops a.tmps)=false:=by
   rcases hgj' with hgj'|hgj'
   ·have:=hp.gv hgj'
    cases want<;>simp [Region.wanted,hg,this]
   ·simp [Region.wanted,hg,hp.gvN hgj']
  rw [if_neg (by simp [hw]),hdn]
  rw [hdn,hmi,Dp]at hK;exact hK _ _ _ _ hp hT λ_ _=>rfl
 have hdo:AA ops i=some d:=hdoi.trans hd;have htm: ∀ (v:Value) x,some d≠some x->(a.put (some d) v).tmps[x]? =a.tmps[x]?:=λv x hx=>Bt hx
 have hT': ∀ (fp:Nat->Prop) x b,(if x=d then fp else T x) b->Pa ops n X x:=by
  intro fp x b hb;split at hb
  ·rename_i hx;subst hx;exact .inl ⟨i,hi,hdo⟩
  ·exact hT x b hb
 rw [hd]at hK;rcases hs with⟨⟨hdn,hg,r',hqop,hri⟩|⟨j,want,hg,hgj,hdn,hri⟩,hmi⟩|⟨hdn,hg,hfz,hmv,hmq⟩
 ·rw [hmi,Dp]at hK
  have hw:Region.wanted oi (yielded ops a.tmps)=true:=by
   rcases hg with hg|⟨j,want,hg,hgj⟩
   ·simp [Region.wanted,hg]
   ·rw [<-hgv j want hg]at hgj
    simp [Region.wanted,hg,hp.gv hgj]
  rw [if_pos hw];refine .inl ?_;have look: ∀y,Operand.tmp y∈oi.op.operands->y∈oi.looksAt ops:=by
   intro y hx;unfold Oper.looksAt;refine List.mem_append_left _ ?_;rw [List.mem_filterMap];exact⟨.tmp y,by simpa using hx,rfl⟩
  have hqop':qop P σ (Ms.ev ⟨pt ops n r m t0 listed,σ⟩) oi.op (λx=>x=r'):=by
   by_cases hex: ∃y c,oi.op= .extract (.tmp y) c
   ·obtain⟨y,c,hop⟩:=hex
    have hE:EqC c (BY ops r m t0 i y) (pt ops n r m t0 listed y):=by
     rcases WZ (r:=r) (t0:=t0) hq hm inv hoi hi hr hnA (x:=y) (look y (by rw [hop];simp [Op.operands]))with h|⟨_,c',h,h'⟩
     ·exact .inl h
     ·rw [hop]at h;cases h;exact h'
    rw [hop]at hqop⊢;exact M8 (K:=λr0=>∃r,Sub r0 r/\r=r') hE hqop
   ·refine VN (λx hx=>?_) hqop
    cases x with
    |tmp y=>
     show BY ops r m t0 i y=pt ops n r m t0 listed y;rcases WZ (r:=r) (t0:=t0) hq hm inv hoi hi hr hnA (look y hx)with h|⟨_,c,h,_⟩
     ·exact h
     ·exact absurd ⟨y,c,h⟩ hex
    |const v=>rfl
    |global g=>rfl
    |func f=>rfl
  obtain⟨r2,rfl,hy⟩:=MZ (o:=oi) hp.ok hp.wr (λx _=>hp.ev x) hqop'
  refine hy K Q λv' w' D' fp hB hr' hf hd1 hd2 hd3=>?_
  rw [hd];rw [hri]at hK;split at hK
  ·refine hK _ _ _ _ (hp.put (D':=λb=>D' b\/fp b) (fp:=noF) hB (Rel.frz _ _ _ hr') (λ_ h=>h.elim) (λb hb=>.inl (hd1 b hb)) (λb hb=>?_) (λb hb=>⟨?_,λh=>h⟩) hdn) (hT' _) (htm _)
   ·rcases hb with hb|hb
    ·exact hd2 b hb
    ·exact .inr (hf b hb)
   ·rcases hb with hb|hb
    ·exact(hd3 b hb).1
    ·exact Rel.lt _ _ _ hr' b hb
  ·exact hK _ _ _ _ (hp.put hB hr' hf hd1 hd2 hd3 hdn) (hT' _) (htm _)
 ·rw [hmi,Dp]at hK
  have hgj':=hgj;rw [<-hgv j want hg]at hgj'
  have hw:Region.wanted oi (yielded ops a.tmps)=false:=by
   rcases hgj' with hgj'|hgj'
   ·have:=hp.gv hgj'
    cases want<;>simp [Region.wanted,hg,this]
   ·simp [Region.wanted,hg,hp.gvN hgj']
  rw [if_neg (by simp [hw]),hd]
  rw [hri]at hK;obtain⟨T',hp',hsub⟩:=hp.skip hdn;exact hK _ _ _ _ hp' (λx b hb=>hT x b (hsub x b hb)) (htm _)
 ·have hw:Region.wanted oi (yielded ops a.tmps)=true:=by simp [Region.wanted,hg]
  rw [if_pos hw];refine .inl ?_;have hlook: ∀p∈m i,p.1∈oi.looksAt ops:=by
   intro p hp;have look: ∀y,Operand.tmp y∈oi.op.operands->y∈oi.looksAt ops:=by
    intro y hx;unfold Oper.looksAt;refine List.mem_append_left _ ?_;rw [List.mem_filterMap];exact⟨.tmp y,by simpa using hx,rfl⟩
   rcases hmq with⟨y,hop,hys,_⟩|⟨y,c,nn,f,hop,hys,_⟩
   ·rw [hys,List.mem_singleton]at hp
    rw [hp];exact look y (by rcases hop with hop|hop<;>(rw [hop];simp [Op.operands]))
   ·rw [hys,List.mem_singleton]at hp
    rw [hp];exact look y (by rw [hop];simp [Op.operands])
  rcases hmq with⟨y,hop,hys,hri⟩|⟨y,c,nn,f,hop,hys,hty,hcn,hri⟩
  ·rw [hys]at hK hlook
   rw [Ml hq hm inv hoi hi hr hnA (hlook (y,.put (hdV (r i))) (by simp)) (by rintro z c h;rcases hop with hop|hop<;>(rw [hop]at h;cases h))]at hri
   have hrun:(execOp a.eval oi).run P w= .ok (.value (a.eval (.tmp y))) w:=by unfold execOp;rcases hop with hop|hop<;>(rw [hop];rfl)
   unfold Oper.wp;rw [hrun];show K (a.put oi.dst (a.eval (.tmp y))) w;rw [hd]
   obtain⟨fp,hrel,hfp⟩: ∃fp,Rel D w (Ag σ ρ w) (r i) (a.eval (.tmp y)) fp/\∀b,fp b->T y b:=by
    rw [hri];by_cases hy:y<h.n
    ·exact⟨T y,hp.tm y hy,λ_ h=>h⟩
    ·exact⟨noF,by rw [hp.dd y (Nat.le_of_not_lt hy)];exact λ_ h=>h,λ_ h=>h.elim⟩
   have kM: ∀x,AH [(y,.put (hdV (r i)))] (pt ops n r m t0 listed) x=if x=y then hdV (r i)else pt ops n r m t0 listed x:=by
    intro x;unfold AH;by_cases hx:x=y
    ·subst hx
     rw [if_pos rfl];show HE (if x=x then some (.put (hdV (r i)))else none) _=_
     rw [if_pos rfl];rfl
    ·rw [if_neg hx]
     show HE (if y=x then some (.put (hdV (r i)))else none) _=_
     rw [if_neg (Ne.symm hx)];rfl
   refine hK _ _ _ _ (hp.move (t1:=AH [(y,.put (hdV (r i)))] (pt ops n r m t0 listed)) (T1:=λx=>if x=y then noF else T x) (λx hx=>?_) (λx b hb=>?_) (λx hx=>?_) (Below.refl _ _) hrel (λb hb=>.inl ⟨y,hfp b hb,λx hx=>?_⟩) (λ_ h=>h) (λ_ h=>.inl h) (λb hb=>⟨hp.wr.Dlt b hb,λh=>hp.tD y b (hfp b h) hb⟩) hdn) (λx b hb=>?_) (htm _)
   ·rw [kM]
    by_cases hxy:x=y
    ·rw [if_pos hxy,if_pos hxy,hxy];exact hrel.hd
    ·rw [if_neg hxy,if_neg hxy];exact hp.tm x hx
   ·split at hb
    ·exact hb.elim
    ·exact hb
   ·rw [kM]
    split
    ·rename_i hxy
     rw [hri,<-hxy,hp.dd x hx];rfl
    ·exact hp.dd x hx
   ·split at hx
    ·exact hx.elim
    ·rename_i hxy;exact hp.tT x y b hxy hx (hfp b hb)
   ·split at hb
    ·rename_i hx;subst hx;exact .inl ⟨i,hi,hdo⟩
    ·split at hb
     ·exact hb.elim
     ·exact hT x b hb
  ·rw [hys]at hK hlook
   -- the part, and what is left
   obtain⟨g,hg',hgc⟩: ∃g,pt ops n r m t0 listed y= .many .tu nn g/\g c=f c:=by
    rcases WZ (r:=r) (t0:=t0) hq hm inv hoi hi hr hnA (hlook (y,.part c) (by simp))with h|⟨_,c',h,h'⟩
    ·exact⟨f,h▸hty,rfl⟩
    ·rw [hop]at h
     cases h;rcases h' with h'|⟨tg,n2,f2,g2,h1,h2,h3⟩
     ·exact⟨f,h'▸hty,rfl⟩
     ·rw [hty]at h1
      cases h1;exact⟨g2,h2,h3.symm⟩
   have hyn:y<h.n:=by
    rcases Nat.lt_or_ge y h.n with h'|h'
    ·exact h'
    ·rw [hp.dd y h']at hg';cases hg'
   have hry:=hp.tm y hyn;rw [hg']at hry;obtain⟨cs,G,hcv,hcs,hrel,hdis,hfp⟩:=hry;have hcv:a.eval (.tmp y)= .tuple cs:=hcv
   have hrun:(execOp a.eval oi).run P w= .ok (.value (cs.getD c undef)) w:=by
    unfold execOp;rw [hop];simp [Instr.extract,hcv,hcs,hcn]
   unfold Oper.wp;rw [hrun];show K (a.put oi.dst (cs.getD c undef)) w;rw [hd];have hrc:Rel D w (Ag σ ρ w) (r i) (cs.getD c undef) (G c):=by rw [hri,<-hgc];exact hrel c hcn
   have kM: ∀x,AH [(y,.part c)] (pt ops n r m t0 listed) x=if x=y then NF c (.many .tu nn g)else pt ops n r m t0 listed x:=by
    intro x;unfold AH;by_cases hx:x=y
    ·subst hx
     rw [if_pos rfl];show HE (if x=x then some (.part c)else none) _=_
     rw [if_pos rfl,hg'];rfl
    ·rw [if_neg hx]
     show HE (if y=x then some (.part c)else none) _=_
     rw [if_neg (Ne.symm hx)];rfl
   refine hK _ _ _ _ (hp.move (t1:=AH [(y,.part c)] (pt ops n r m t0 listed)) (T1:=λx=>if x=y then λb=>∃k,k<nn/\k≠c/\G k b else T x) (λx hx=>?_) (λx b hb=>?_) (λx hx=>?_) (Below.refl _ _) hrc (λb hb=>.inl ⟨y,(hfp b).2 ⟨c,hcn,hb⟩,λx hx=>?_⟩) (λ_ h=>h) (λ_ h=>.inl h) (λb hb=>⟨hp.wr.Dlt b hb,λh=>hp.tD y b ((hfp b).2 ⟨c,hcn,h⟩) hb⟩) hdn) (λx b hb=>?_) (htm _)
   ·rw [kM]
    by_cases hxy:x=y
    ·rw [if_pos hxy,if_pos hxy]
     subst hxy;refine⟨cs,λk=>if k=c then noF else G k,hcv,hcs,λk hk=>?_,λk k' b hk hk' hne h1 h2=>?_,λb=>⟨fun⟨k,h1,h2,h3⟩=>⟨k,h1,by show(if k=c then noF else G k) b;rw [if_neg h2];exact h3⟩,fun⟨k,h1,h2⟩=>?_⟩⟩
     ·show Rel D w _ (if k=c then .dead else g k) _ (if k=c then noF else G k)
      by_cases hkc:k=c
      ·rw [if_pos hkc,if_pos hkc];exact λ_ h=>h
      ·rw [if_neg hkc,if_neg hkc];exact hrel k hk
     ·have h1:(if k=c then noF else G k) b:=h1
      have h2:(if k'=c then noF else G k') b:=h2
      split at h1
      ·exact h1
      ·split at h2
       ·exact h2
       ·exact hdis k k' b hk hk' hne h1 h2
     ·have h2:(if k=c then noF else G k) b:=h2
      split at h2
      ·exact h2.elim
      ·rename_i hkc;exact⟨k,h1,hkc,h2⟩
    ·rw [if_neg hxy,if_neg hxy];exact hp.tm x hx
   ·split at hb
    ·rename_i hxy
     subst hxy;obtain⟨k,h1,_,h3⟩:=hb;exact(hfp b).2 ⟨k,h1,h3⟩
    ·exact hb
   ·rw [kM]
    have:x≠y:=λe=>absurd hyn (Nat.not_lt.2 (e▸hx))
    rw [if_neg this];exact hp.dd x hx
   ·split at hx
    ·obtain⟨k,h1,h2,h3⟩:=hx
     exact hdis k c b h1 hcn h2 h3 hb
    ·rename_i hxy;exact hp.tT x y b hxy hx ((hfp b).2 ⟨c,hcn,hb⟩)
   ·split at hb
    ·rename_i hx;subst hx;exact .inl ⟨i,hi,hdo⟩
    ·split at hb
     ·rename_i hxy
      subst hxy;obtain⟨k,h1,_,h3⟩:=hb;exact hT x b ((hfp b).2 ⟨k,h1,h3⟩)
     ·exact hT x b hb
theorem I4{Q:Exit->Act->World->Prop}(hq:QOK ops n)(htl:n=ops.size\/Region.chainB .any ops n=true): ∀ (fuel m:Nat) (listed:Array Bool) (a:Act) (w:World),n<=m->m<=ops.size->ops.size<=m+fuel->listed.size=ops.size->
  (∀j,j<ops.size->listed.getD j true=decide (j<m))->wpList P ops Q (ops.toList.drop m) a w->wpAny P .any ops Q fuel listed a w:=by
 have fals: ∀ {listed:Array Bool} {j m:Nat},listed.size=ops.size->(∀j,j<ops.size->listed.getD j true=decide (j<m))->j<ops.size->listed.getD j false=decide (j<m):=by
  intro listed j m hs hl hj;have:=hl j hj;rw [<-hs]at hj;simp [hj]at this⊢;exact this
 intro fuel
 induction fuel with
 |zero=>
  intro m listed a w hnm hm hf hs hl hw;obtain rfl:m=ops.size:=by omega
  refine⟨?_,?_⟩
  ·cases hr:Region.ready .any ops listed with
   |nil=>rfl
   |cons j js=>
    have hj:j∈Region.ready .any ops listed:=by rw [hr];simp
    obtain⟨h1,o,ho,_⟩:=mem_ready.1 hj;have hlt:j<ops.size:=(Array.getElem?_eq_some_iff.1 ho).1;rw [hl j hlt]at h1;simp [hlt]at h1
  ·have:ops.toList.drop ops.size= []:=by simp
   rw [this]at hw;exact hw
 |succ f ih=>
  intro m listed a w hnm hm hf hs hl hw;by_cases hms:m=ops.size
  ·subst hms
   have hnil:Region.ready .any ops listed= []:=by
    cases hr:Region.ready .any ops listed with
    |nil=>rfl
    |cons j js=>
     have hj:j∈Region.ready .any ops listed:=by rw [hr];simp
     obtain⟨h1,o,ho,_⟩:=mem_ready.1 hj;have hlt:j<ops.size:=(Array.getElem?_eq_some_iff.1 ho).1;rw [hl j hlt]at h1;simp [hlt]at h1
   refine⟨λ_=>?_,λi hi=>by rw [hnil]at hi;cases hi⟩
   have:ops.toList.drop ops.size= []:=by simp
   rw [this]at hw;exact hw
  ·have hlt:m<ops.size:=by omega
   have hom:ops[m]? =some ops[m]:=by simp [hlt]
   have hmr:m∈Region.ready .any ops listed:=by
    refine mem_ready.2 ⟨by rw [hl m hlt];simp,ops[m],hom,λe he hb=>?_⟩
    have h1:=hq.back m ops[m] e hom he hb;rw [fals hs hl (by omega)]
    simp [h1]
   refine⟨λh0=>(by rw [h0]at hmr;cases hmr),λi hi=>?_⟩
   have him:i=m:=by
    obtain⟨h1,o,ho,hall⟩:=mem_ready.1 hi;have hil:i<ops.size:=(Array.getElem?_eq_some_iff.1 ho).1;rw [hl i hil]at h1;simp at h1;by_cases he:i=m
    ·exact he
    ·rcases htl with ht|hc
     ·omega
     ·have h2:=aET.1 hc i (List.mem_range.2 hil)
      simp only [Bool.or_eq_true,decide_eq_true_eq]at h2;rcases h2 with h2|h2
      ·omega
      ·obtain⟨o',ho',e,he',hb,hon⟩:=Region.waitsFor_spec h2
       obtain rfl:o'=o:=Option.some.inj (ho'.symm.trans ho);have h3:=hall e he' hb;rw [hon,fals hs hl (by omega)]at h3
       simp at h3;omega
   subst him
   have hdrop:ops.toList.drop i=ops[i]::ops.toList.drop (i+1):=by
    have:=List.drop_eq_getElem_cons (l:=ops.toList) (i:=i) (by simpa using hlt)
    simpa using this
   rw [hdrop]at hw
   have hw':wpOp P ops Q i (wpList P ops Q (ops.toList.drop (i+1))) a w:=by
    unfold wpOp;simp only [hom];exact hw
   refine wpOp_mono (λa' w' h'=>ih (i+1) _ a' w' (by omega) (by omega) (by omega) (by simpa using hs) (λj hj=>?_) h') hw'
   by_cases hij:i=j
   ·subst hij
    have:i<listed.size:=by rw [hs];exact hlt
    simp [this]
   ·rw [getD_set_ne true hij,hl j hj]
    have:(j<i)=(j<i+1):=by
     apply propext;constructor<;>intro _<;>omega
    simp [this]
def unl(listed:Array Bool)(n:Nat):Nat:=(List.range n).countP λi=>!listed.getD i true
theorem Oe(hi:i<listed.size)(hu:listed.getD i true=false): ∀n,unl (listed.setIfInBounds i true) n+(if i<n then 1 else 0)=unl listed n:=by
 intro n
 induction n with
 |zero=>rfl
 |succ n ih=>
  unfold unl at ih⊢;rw [List.range_succ,List.countP_append];simp only [List.countP_singleton];by_cases hin:i=n
  ·simp_all
  ·rw [getD_set_ne true hin]
   grind
theorem Of(hu:listed.getD i true=false): ∀n,i<n->0<unl listed n:=by
 intro n hn;unfold unl;rw [List.countP_pos_iff]
 grind
theorem C1(h:dst≠some d):(a.put (some d) v).put dst u=(a.put dst u).put (some d) v:=by
 cases dst with
 |none=>rfl
 |some e=>
  have hne:d≠e:=λe'=>h (by grind)
  unfold Act.put;simp;rw [Array.setIfInBounds_comm _ _ hne]
theorem Qp{Q:Exit->Act->World->Prop}{K' K:Act->World->Prop}{d:Nat}{v:Value}(ho:ops[i]? =some o)(hq: ∀e a w,e≠.normal->¬Q0 e a w)(hs: ∀cs b,o.op≠.select cs b)
  (hl:d∉o.looksAt ops) (hd:o.dst≠some d) (hK: ∀a1 w1,(∀x,o.dst≠some x->a1.tmps[x]? =a.tmps[x]?)->K' (a1.put (some d) v) w1->K a1 w1)
  (h:wpOp P ops Q0 i K' (a.put (some d) v) w):wpOp P ops Q i K a w:=by
 unfold wpOp at h⊢;simp only [ho]at h⊢;rw [wanted_put o a (some d) v (λd' hd'=>by cases hd';exact hl)]at h
 split
 ·rename_i hw
  rw [if_pos hw]at h;rcases h with h|⟨_,_,_,h⟩
  ·left
   unfold Oper.wp at h⊢;rw [execOp_put (ops:=ops) o hs a (some d) v (λd' hd'=>by cases hd';exact hl)]at h
   generalize (execOp a.eval o).run P w=r at h⊢;cases r with
   |ok n w'=>
    cases n with
    |value u=>exact hK _ _ (λx hx=>Bt hx) (C1 hd▸h)
    |skip=>exact hK _ _ (λx hx=>Bt hx) (C1 hd▸h)
    |defer u=>exact hK ({a with defers:=u::a.defers}.put o.dst undef) w' (λx hx=>Bt (a:={a with defers:=u::a.defers}) hx) (C1 hd▸h)
    |enter f args=>exact Calls.mono h (λe w'' he=>by
      cases e with
      |returned u=>exact hK _ _ (λx hx=>Bt hx) (C1 hd▸he)
      |panicked c=>exact(hq _ _ _ (by simp) he).elim
      |outgrown=>obtain⟨_,_,he⟩:=he;exact(hq _ _ _ (by simp) he).elim)
    |row r args=>exact Rows.mono h (λu w'' he=>hK _ _ (λx hx=>Bt hx) (C1 hd▸he))
    |_=>exact h
   |halt x w'=>
    cases x<;>first|exact h.elim|exact(hq _ _ _ (by simp) h).elim
  ·exact(hq _ _ _ (by simp) h).elim
 ·rename_i hw
  rw [if_neg hw]at h;exact hK _ _ (λx hx=>Bt hx) (C1 hd▸h)
def QN(Q:Exit->Act->World->Prop):Exit->Act->World->Prop:=λe a w=>e= .normal/\Q .normal a w
theorem AaC: ∀e a w,e≠.normal->¬QN Q e a w:=λ_ _ _ h h'=>h h'.1
theorem UP{Q:Exit->Act->World->Prop}{i:Nat}(hq: ∀e a w,e≠.normal->¬Q0 e a w)(hK: ∀a1 w1,K' a1 w1->K a1 w1)
  (h:wpOp P ops Q0 i K' a w):wpOp P ops Q i K a w:=by
 unfold wpOp at h⊢;split
 ·grind
 rename_i o ho;simp only [ho]at h;split
 ·rename_i hw
  rw [if_pos hw]at h;rcases h with h|⟨_,_,_,h⟩
  ·left
   unfold Oper.wp at h⊢;generalize (execOp a.eval o).run P w=r at h⊢;cases r with
   |ok n w'=>
    cases n with
    |value u=>exact hK _ _ h
    |skip=>exact hK _ _ h
    |defer u=>exact hK _ _ h
    |enter f args=>exact Calls.mono h (λe w'' he=>by
      cases e with
      |returned u=>exact hK _ _ he
      |panicked c=>grind
      |outgrown=>obtain⟨_,_,he⟩:=he;grind)
    |row r args=>exact Rows.mono h (λu w'' he=>hK _ _ he)
    |_=>exact h
   |halt x w'=>
    cases x<;>first|exact h.elim|exact(hq _ _ _ (by simp) h).elim
  grind
 grind
theorem IY: ∀ (m:Nat) (a:Act) (w:World),ops.size-m<=ops.size->wpList P ops (QN Q) (ops.toList.drop m) a w->wpList P ops Q (ops.toList.drop m) a w:=by
 intro m
 induction hk:ops.size-m generalizing m with
 |zero=>
  intro a w _ h;have e:ops.toList.drop m= []:=List.drop_eq_nil_of_le (by simp;omega)
  rw [e]at h⊢;exact h.2
 |succ k ih=>
  intro a w _ h;have hlt:m<ops.size:=by omega
  have hdrop:=by
   have:=List.drop_eq_getElem_cons (l:=ops.toList) (i:=m) (by grind)
   omega
  rw [hdrop]at h⊢
  have h':wpOp P ops (QN Q) m (wpList P ops (QN Q) (ops.toList.drop (m+1))) a w:=by
   unfold wpOp;simp only [show ops[m]? =some ops[m] by simp];exact h
  have:=UP (Q:=Q) AaC (λa1 w1 h1=>ih (m+1) (by omega) a1 w1 (by omega) h1) h'
  unfold wpOp at this;simp only [show ops[m]? =some ops[m] by simp [hlt]]at this
  exact this
structure FI(P:Program)(ops:Array Oper)(Q:Exit->Act->World->Prop)(f m:Nat)(d y c:Nat)(v:Value)(listed:Array Bool)(a:Act)(w:World):Prop where
 sz:listed.size=ops.size
 ls: ∀j,j<ops.size->listed.getD j true=decide (j<m/\j≠f)
 pu: ∃cs,a.tmps[y]? =some (.tuple cs)/\cs[c]? =some v
 wl:wpList P ops (QN Q) (ops.toList.drop m) (a.put (some d) v) w
theorem IM{j:Nat}{p:Prop} [Decidable p](hs:listed.size=ops.size)(hj:j<ops.size)(h:listed.getD j true=decide p):listed.getD j false=decide p:=by grind
theorem KO{Q:Exit->Act->World->Prop}{m c:Nat}{v:Value}(hfm:f<m)(hm:m<ops.size){listed:Array Bool}{a:Act}{w:World}{ot:Oper}(hot:ops[m]? =some ot)(h1:d∉ot.looksAt ops)(h2:ot.dst≠some d)(h3:ot.dst≠some y)(h4: ∀cs b,ot.op≠.select cs b)
  (h:FI P ops Q f m d y c v listed a w):wpOp P ops Q m (FI P ops Q f (m+1) d y c v (listed.setIfInBounds m true)) a w:=by
 have hdrop:ops.toList.drop m=ot::ops.toList.drop (m+1):=by
  have:=List.drop_eq_getElem_cons (l:=ops.toList) (i:=m) (by simpa using hm)
  grind
 have hw:=h.wl;rw [hdrop]at hw
 have hw':wpOp P ops (QN Q) m (wpList P ops (QN Q) (ops.toList.drop (m+1))) (a.put (some d) v) w:=by
  unfold wpOp;simp only [hot];exact hw
 refine Qp hot AaC h4 h1 h2 (λa1 w1 hag hk=>⟨by simpa using h.sz,λj hj=>?_,?_,hk⟩) hw'
 ·by_cases hjm:m=j
  ·subst hjm
   have:m<listed.size:=by rw [h.sz];exact hm
   have hne:m≠f:=by omega
   simp [this,hne]
  ·rw [getD_set_ne true hjm,h.ls j hj]
   grind
 ·obtain⟨cs,g1,g2⟩:=h.pu
  exact⟨cs,by rw [hag y h3];exact g1,g2⟩
theorem Yg{Q:Exit->Act->World->Prop}(hq:QOK ops n)(hc:Region.chainB .any ops n=true)(fl:FL ops n f)(hof:ops[f]? =some o)(hog:o.guard=none)(hop:o.op= .extract (.tmp y) c)(hod:o.dst=some d)
  (hot: ∀t ot,n<=t->ops[t]? =some ot->Region.waitsFor .any ops t f=false->d∉ot.looksAt ops/\ot.dst≠some d/\ot.dst≠some y/\∀cs b,ot.op≠.select cs b) {v:Value}:
  ∀ (fuel m:Nat) (listed:Array Bool) (a:Act) (w:World),n<=m->m<=ops.size->ops.size+1<=m+fuel->FI P ops Q f m d y c v listed a w->wpAny P .any ops Q fuel listed a w:=by
 intro fuel
 induction fuel with
 |zero=>intro m listed a w _ h1 h2;omega
 |succ g ih=>
  intro m listed a w hnm hms hf h;have hfn:=fl.fn;have hfs:f<ops.size:=by have:=hq.le;omega
  have hfr:f∈Region.ready .any ops listed:=by
   refine mem_ready.2 ⟨by rw [h.ls f hfs];simp,o,hof,λe he hb=>?_⟩
   have h1:=hq.back f o e hof he hb;rw [IM h.sz (by omega) (h.ls e.on (by omega))]
   exact dT ⟨by omega,by omega⟩
  refine⟨λh0=>(by rw [h0]at hfr;cases hfr),λi hi=>?_⟩
  obtain⟨h1,oi,hoi,hall⟩:=mem_ready.1 hi;have his:i<ops.size:=(Array.getElem?_eq_some_iff.1 hoi).1;rw [h.ls i his]at h1;have h1:=of_decide_eq_false h1;by_cases hif:i=f
  ·subst hif
   obtain rfl:oi=o:=Option.some.inj (hoi.symm.trans hof);unfold wpOp;simp only [hoi];have hw:Region.wanted oi (yielded ops a.tmps)=true:=by simp [Region.wanted,hog]
   rw [if_pos hw];left;obtain⟨cs,g1,g2⟩:=h.pu;have hev:a.eval (.tmp y)= .tuple cs:=by
    show a.tmps.getD y undef=_;simp [Array.getD_eq_getD_getElem?,g1]
   have hrun:(execOp a.eval oi).run P w= .ok (.value v) w:=by
    unfold execOp;rw [hop];simp [Instr.extract,hev,g2]
   unfold Oper.wp;rw [hrun];show wpAny P .any ops Q g _ (a.put oi.dst v) w;rw [hod];refine I4 hq (.inr hc) g m _ _ w hnm hms (by omega) (by simpa using h.sz) (λj hj=>?_) (IY m _ w (by omega) h.wl)
   by_cases hij:i=j
   ·subst hij
    have:i<listed.size:=by rw [h.sz];exact his
    have hlt:i<m:=by omega
    simp [this,hlt]
   ·rw [getD_set_ne true hij,h.ls j hj]
    have:(j<m/\j≠i)=(j<m):=propext ⟨λh=>h.1,λh=>⟨h,Ne.symm hij⟩⟩
    simp only [this]
  ·have hnot: ¬i<m:=λh=>h1 ⟨h,hif⟩
   have him:i=m:=by
    have h2:=aET.1 hc i (List.mem_range.2 his);simp only [Bool.or_eq_true,decide_eq_true_eq]at h2;rcases h2 with h2|h2
    ·omega
    ·by_cases he:i=m
     ·exact he
     ·obtain⟨o',ho',e,he',hb,hon⟩:=Region.waitsFor_spec h2
      obtain rfl:o'=oi:=Option.some.inj (ho'.symm.trans hoi);have h3:=hall e he' hb;rw [hon,IM h.sz (by omega) (h.ls (i-1) (by omega))]at h3
      have:=(of_decide_eq_true h3).1;omega
   subst him;have hnw:Region.waitsFor .any ops i f=false:=by
    cases hwf:Region.waitsFor .any ops i f with
    |false=>rfl
    |true=>
     obtain⟨o',ho',e,he',hb,hon⟩:=Region.waitsFor_spec hwf;obtain rfl:o'=oi:=Option.some.inj (ho'.symm.trans hoi);have h3:=hall e he' hb;rw [hon,IM h.sz hfs (h.ls f hfs)]at h3;exact absurd rfl (of_decide_eq_true h3).2
   obtain⟨g1,g2,g3,g4⟩:=hot i oi hnm hoi hnw;exact wpOp_mono (λa1 w1 hk=>ih (i+1) _ a1 w1 (by omega) (by omega) (by omega) hk) (KO (by omega) his hoi g1 g2 g3 g4 h)
theorem VR(hq:QOK ops n)(hm:MOK A B ops n m)(hs:listed.size=ops.size)(hall: ∀i,i<n->listed.getD i true=true):pt ops n r m t0 listed=BY ops r m t0 n:=by
 have hle:=hq.le;have ld: ∀k,k<n->listed.getD k false=true:=λk hk=>by
  grind
 funext x
 rw [Ha hq hm r t0 x n (Nat.le_refl _)];unfold pt;cases ho:Co ops n x with
 |none=>exact B8 n λi hi=>by grind
 |some k=>
  have hk:=(A8 ho).1;simp only [ld k hk,hk,if_true];exact B8 n λi hi=>by grind
theorem IX{Q:Exit->Act->World->Prop}{K:Act->World->Prop}{i:Nat}{a:Act}{w:World}
  (hh:wpOp P ops Q i (λa' w'=>(∀o y z,ops[i]? =some o->o.guard=none->o.op= .move (.tmp y)->o.dst=some z->a'=a.put (some z) (a.eval (.tmp y)))->K a' w') a w):wpOp P ops Q i K a w:=by
 unfold wpOp at hh⊢;cases ho:ops[i]? with
 |none=>
  simp only [ho]at hh⊢;exact hh λo _ _ h=>by cases h
 |some o=>
  simp only [ho]at hh⊢;by_cases hmv: ∃y z,o.guard=none/\o.op= .move (.tmp y)/\o.dst=some z
  ·obtain⟨y,z,hg,hop,hd⟩:=hmv
   have hw:Region.wanted o (yielded ops a.tmps)=true:=by simp [Region.wanted,hg]
   rw [if_pos hw]at hh⊢;rcases hh with hh|hh
   ·left
    have hrun:(execOp a.eval o).run P w= .ok (.value (a.eval (.tmp y))) w:=by unfold execOp;rw [hop];rfl
    unfold Oper.wp at hh⊢;rw [hrun]at hh⊢;rw [Oper.upon_value]at hh⊢
    grind
   ·exact .inr hh
  ·have key: ∀a' w',((∀o' y z,some o=some o'->o'.guard=none->o'.op= .move (.tmp y)->o'.dst=some z->a'=a.put (some z) (a.eval (.tmp y)))->K a' w')->K a' w':=λa' w' h=>h λo' y z h1 h2 h3 h4=>by
    cases h1;exact absurd ⟨y,z,h2,h3,h4⟩ hmv
   split
   ·rename_i hw
    rw [if_pos hw]at hh;exact hh.imp (Oper.wp_mono λa' w'=>key a' w') id
   ·rename_i hw
    rw [if_neg hw]at hh;exact key _ _ hh
def AlI(h:Cg)(ops:Array Oper)(n:Nat)(listed:Array Bool)(a:Act):Prop:=∀j,j<n->listed.getD j false=true->∀c,ops[j]? =some c->alM h ops c=true->∀y z,c.op= .move (.tmp y)->c.dst=some z->a.tmps.getD z undef=a.tmps.getD y undef
theorem AlI.at(hI:AlI h ops n listed a)(hq:QOK ops n)(hi:i<n)(hr:i∈Region.ready .any ops listed): ∀oi,ops[i]? =some oi->∀z y,AlP h ops oi z y->a.tmps.getD z undef=a.tmps.getD y undef:=by
 rintro oi hoi z y ⟨e,he,hb,c,hc,hal,hop,hd⟩
 obtain⟨hun,o2,ho2,hall⟩:=mem_ready.1 hr;obtain rfl:oi=o2:=Option.some.inj (hoi.symm.trans ho2);have hlt:=hq.back i oi e hoi he hb;exact hI e.on (by omega) (hall e he hb) c hc hal y z hop hd
theorem AlI.set{a':Act}(hI:AlI h ops n listed a)(hq:QOK ops n)
  (hst: ∀j,j<n->∀o,ops[j]? =some o->ID P h ops σ o (BY ops r m t0 j) (r j) (m j)) (inv:HeadInv .any ops n listed) {i:Nat} (hi:i<n) (hsz:a.tmps.size=h.n)
  (htm: ∀x,AA ops i≠some x->a'.tmps[x]? =a.tmps[x]?) (hmv: ∀o y z,ops[i]? =some o->o.guard=none->o.op= .move (.tmp y)->o.dst=some z->a'=a.put (some z) (a.eval (.tmp y))):AlI h ops n (listed.setIfInBounds i true) a':=by
 intro j hj hl c hc hal y z hop hd;obtain⟨hg,y2,z2,hop2,hd2,hnd⟩:=Mk hal;rw [hop]at hop2;cases hop2;have hy:a'.tmps.getD y undef=a.tmps.getD y undef:=by
  rw [Array.getD_eq_getD_getElem?,Array.getD_eq_getD_getElem?,htm y (hnd i)]
 by_cases hji:j=i
 ·subst hji
  have hz:z<h.n:=by
   rcases hst j hj c hc with⟨hna,_⟩|⟨_,d,hd3,hdn,_⟩
   ·rw [hal]at hna;cases hna
   grind
  have e:=hmv c y z hc hg hop hd;rw [hy,e,BK];have hz2:z<a.tmps.size:=by rw [hsz];exact hz
  show _=a.eval (.tmp y);simp [hz2]
 ·rw [getD_set_ne false (Ne.symm hji)]at hl
  have hz:AA ops i≠some z:=by
   intro he;exact(hq.ne i j z c hi hj (Ne.symm hji) he hc).1 hd
  rw [hy,Array.getD_eq_getD_getElem?,htm z hz,<-Array.getD_eq_getD_getElem?];exact hI j hj hl c hc hal y z hop hd
theorem Aah{Q:Exit->Act->World->Prop}(hq:QOK ops n)(htl:Qm ops n)(hm:MOK (isA h ops) (isB h ops) ops n m)
  (hst: ∀j,j<n->∀o,ops[j]? =some o->ID P h ops σ o (BY ops r m t0 j) (r j) (m j))
  {a0:Act} (hend: ∀a w D T,PR C h.n σ ρ F (BY ops r m t0 n) a w D T->(∀x b,T x b->Pa ops n X x)->(∀x,(∀i,i<n->AA ops i≠some x)->a.tmps[x]? =a0.tmps[x]?)->wpList P ops Q (ops.toList.drop n) a w)
  (hend0: ∀a w D T,PR C h.n σ ρ F (BY ops r m t0 n) a w D T->(∀x b,T x b->Pa ops n X x)->(∀x,(∀i,i<n->AA ops i≠some x)->a.tmps[x]? =a0.tmps[x]?)->wpList P ops (QN Q) (ops.toList.drop n) a w):
  ∀ (fuel:Nat) (listed:Array Bool) (a:Act) (w:World) (D:Nat->Prop) (T:Nat->Nat->Prop),HeadInv .any ops n listed->unl listed n+(ops.size-n)<=fuel->
   PR C h.n σ ρ F (pt ops n r m t0 listed) a w D T->(∀x b,T x b->Pa ops n X x)->(∀x,(∀i,i<n->AA ops i≠some x)->a.tmps[x]? =a0.tmps[x]?)->AlI h ops n listed a->wpAny P .any ops Q fuel listed a w:=by
 intro fuel
 induction fuel with
 |zero=>
  intro listed a w D T inv hf hp hT hA hI;have hle:=hq.le;have hall: ∀i,i<n->listed.getD i true=true:=by
   intro i hi;cases hu:listed.getD i true with
   |true=>rfl
   |false=>have:=Of hu n hi;omega
  have hpt:pt ops n r m t0 listed=BY ops r m t0 n:=by
   funext x
   rw [Ha hq hm r t0 x n (Nat.le_refl _)];unfold pt;have ld: ∀k,k<n->listed.getD k false=true:=λk hk=>by
    have h1:=hall k hk;have h2:k<listed.size:=by rw [inv.size];omega
    simp [h2]at h1⊢;exact h1
   cases ho:Co ops n x with
   |none=>exact B8 n λi hi=>by rw [ld i hi];simp [hi]
   |some k=>
    have hk:=(A8 ho).1;simp only [ld k hk,hk,if_true];exact B8 n λi hi=>by rw [ld i hi];simp [hi]
  rw [hpt]at hp;refine I4 hq (htl.imp id And.left) 0 n listed a w (Nat.le_refl _) hle (by omega) inv.size (λj hj=>?_) (hend _ _ _ _ hp hT hA)
  by_cases hjn:j<n
  ·rw [hall j hjn];simp [hjn]
  ·rw [inv.tail j (by omega) hj];simp [hjn]
 |succ f ih=>
  intro listed a w D T inv hf hp hT hA hI;have hle:=hq.le;by_cases hall: ∀i,i<n->listed.getD i true=true
  ·have hpt:pt ops n r m t0 listed=BY ops r m t0 n:=by
    funext x
    rw [Ha hq hm r t0 x n (Nat.le_refl _)];unfold pt;have ld: ∀k,k<n->listed.getD k false=true:=λk hk=>by
     have h1:=hall k hk;have h2:k<listed.size:=by rw [inv.size];omega
     simp [h2]at h1⊢;exact h1
    cases ho:Co ops n x with
    |none=>exact B8 n λi hi=>by rw [ld i hi];simp [hi]
    |some k=>
     have hk:=(A8 ho).1;simp only [ld k hk,hk,if_true];exact B8 n λi hi=>by rw [ld i hi];simp [hi]
   rw [hpt]at hp;refine I4 hq (htl.imp id And.left) (f+1) n listed a w (Nat.le_refl _) hle (by omega) inv.size (λj hj=>?_) (hend _ _ _ _ hp hT hA)
   by_cases hjn:j<n
   ·rw [hall j hjn];simp [hjn]
   ·rw [inv.tail j (by omega) hj];simp [hjn]
  ·have hex: ∃i,i<n/\listed.getD i true=false:=by
    apply Classical.byContradiction;intro hno;apply hall;intro i hi;cases hu:listed.getD i true with
    |true=>rfl
    |false=>exact absurd ⟨i,hi,hu⟩ hno
   obtain⟨i,⟨hin,hun⟩,hmin⟩:=OT hex;have hoi:ops[i]? =some ops[i]:=by
    have:i<ops.size:=by omega
    simp [this]
   have hir:i∈Region.ready .any ops listed:=by
    refine mem_ready.2 ⟨hun,ops[i],hoi,λe he hb=>?_⟩
    have h1:=hq.back i ops[i] e hoi he hb;have h2:=hmin e.on h1;have h3:e.on<listed.size:=by rw [inv.size];omega
    cases hu:listed.getD e.on true with
    |false=>exact absurd ⟨by omega,hu⟩ h2
    |true=>simp [h3]at hu⊢;exact hu
   refine⟨λh0=>(by rw [h0]at hir;cases hir),λj hj=>?_⟩
   have hjs:j<ops.size:=by
    obtain⟨_,o,ho,_⟩:=mem_ready.1 hj;exact(Array.getElem?_eq_some_iff.1 ho).1
   rcases Nat.lt_or_ge j n with hjn|hjn
   case inr=>
    rcases htl with ht|⟨hc,hs|⟨ff,fl⟩⟩
    ·omega
    ·exact absurd hj (tail_waits hs hc (by omega) inv _ i rfl hin hun j hjn)
    ·obtain⟨hju,oj,hoj,hallj⟩:=mem_ready.1 hj
     have hjn':j=n:=by
      have h2:=aET.1 hc j (List.mem_range.2 hjs);simp only [Bool.or_eq_true,decide_eq_true_eq]at h2;rcases h2 with h2|h2
      ·omega
      ·by_cases he:j=n
       ·exact he
       ·obtain⟨o',ho',e,he',hb,hon⟩:=Region.waitsFor_spec h2
        obtain rfl:o'=oj:=Option.some.inj (ho'.symm.trans hoj);have h3:=hallj e he' hb;rw [hon,getD_both (inv.tail (j-1) (by omega) (by omega))]at h3
        cases h3
     subst hjn';have lst: ∀k,k<j->k≠ff->listed.getD k false=true:=λk hk hkf=>by
      obtain⟨o',ho',e,he',hb,hon⟩:=Region.waitsFor_spec (fl.others k hk hkf);obtain rfl:o'=oj:=Option.some.inj (ho'.symm.trans hoj);have h3:=hallj e he' hb;rwa [hon]at h3
     have lstT: ∀k,k<j->k≠ff->listed.getD k true=true:=λk hk hkf=>by
      have h1:=lst k hk hkf;have h2:k<listed.size:=by rw [inv.size];omega
      simp [h2]at h1⊢;exact h1
     have hif:i=ff:=by
      by_cases he:i=ff
      ·exact he
      ·have:=lstT i hin he
       rw [hun]at this;cases this
     subst hif;obtain⟨o,y,c,d,hof,hog,hop,hod,hot⟩:=fl.it;have hfr:i∈Region.ready .any ops listed:=hir;have hinv':=inv.set hfr hin
     have hallL: ∀k,k<j->(listed.setIfInBounds i true).getD k true=true:=λk hk=>by
      by_cases hki:i=k
      ·subst hki
       have:i<listed.size:=by rw [inv.size];omega
       simp [this]
      ·rw [getD_set_ne true hki];exact lstT k hk (Ne.symm hki)
     have hst0:=Hs (P:=P) (h:=h) (ops:=ops) (Q:=λ_ _ _=>False) (K:=wpList P ops (QN Q) (ops.toList.drop j)) hq hm inv hin hfr hst hp hT (hI.at hq hin hfr) (λa' w' D' T' hp' hT' htm'=>by
      rw [VR hq hm hinv'.size hallL]at hp';exact hend0 a' w' D' T' hp' hT' λx hx=>(htm' x (hx i hin)).trans (hA x hx))
     unfold wpOp at hst0;simp only [hof]at hst0;have hw:Region.wanted o (yielded ops a.tmps)=true:=by simp [Region.wanted,hog]
     rw [if_pos hw]at hst0;rcases hst0 with hst0|⟨_,_,_,hst0⟩
     case inr=>exact hst0.elim
     have hFI: ∃v,FI P ops Q i j d y c v listed a w:=by
      unfold Oper.wp at hst0;have hex:execOp a.eval o=(do let v<-Instr.extract (a.eval (.tmp y)) c;pure (.value v)):=by unfold execOp;rw [hop]
      rw [hex]at hst0
      have hlsd: ∀k,k<ops.size->listed.getD k true=decide (k<j/\k≠i):=λk hk=>by
       by_cases hkj:k<j
       ·by_cases hki:k=i
        ·subst hki;rw [hun];simp
        ·rw [lstT k hkj hki];simp [hkj,hki]
       ·rw [inv.tail k (by omega) hk];simp [hkj]
      have hevd:a.eval (.tmp y)=a.tmps.getD y undef:=rfl;cases hv:a.eval (.tmp y)with
      |tuple cs=>
       cases hcs:cs[c]? with
       |some v=>
        refine⟨v,inv.size,hlsd,⟨cs,?_,hcs⟩,?_⟩
        ·rw [hevd,Array.getD_eq_getD_getElem?]at hv
         cases hty:a.tmps[y]? with
         |none=>rw [hty]at hv;cases hv;simp at hcs
         |some u=>rw [hty]at hv;simp at hv;rw [hv]
        ·simp only [hv,Instr.extract,hcs]at hst0
         have hst0:wpList P ops (QN Q) (ops.toList.drop j) (a.put o.dst v) w:=by simpa [Oper.upon]using hst0
         rw [hod]at hst0;exact hst0
       |none=>
        simp only [hv,Instr.extract,hcs]at hst0;simp [Oper.upon,stuck]at hst0
      |_=>
       simp only [hv,Instr.extract]at hst0;simp [Oper.upon,stuck]at hst0
     obtain⟨v,hFI⟩:=hFI;have hnw:Region.waitsFor .any ops j i=false:=by
      cases hwf:Region.waitsFor .any ops j i with
      |false=>rfl
      |true=>
       obtain⟨o',ho',e,he',hb,hon⟩:=Region.waitsFor_spec hwf;obtain rfl:o'=oj:=Option.some.inj (ho'.symm.trans hoj);have h3:=hallj e he' hb;rw [hon,getD_both hun]at h3;cases h3
     obtain⟨g1,g2,g3,g4⟩:=hot j oj (Nat.le_refl _) hoj hnw;have hu:0<unl listed j:=Of hun j hin;exact wpOp_mono (λa1 w1 hk=>Yg hq hc fl hof hog hop hod hot f (j+1) _ a1 w1 (by omega) (by omega) (by omega) hk) (KO hin hjs hoj g1 g2 g3 g4 hFI)
   have hju:=(mem_ready.1 hj).1;have hcount:=Oe (by rw [inv.size];exact hjs) hju n
   rw [if_pos hjn]at hcount;refine IX (Hs hq hm inv hjn hj hst hp hT (hI.at hq hjn hj) λa' w' D' T' hp' hT' htm' hmv=>ih _ a' w' D' T' (inv.set hj hjn) (by omega) hp' hT' (λx hx=>(htm' x (hx j hjn)).trans (hA x hx)) (hI.set hq hst inv hjn hp.sz htm' hmv))
theorem PR.prom{N:Nat}{t:Nat->V}{a:Act}{w:World}{D:Nat->Prop}{T:Nat->Nat->Prop}(hp:PR C N σ ρ F t a w D T){d:Nat}(hdn:d<N):
  ∃ρ' F',PR C N (σ++(Go.Ve.prom (t d) σ.length).2) ρ' F' (Az t d (Go.Ve.prom (t d) σ.length).1) a w D (λx=>if x=d then noF else T x):=by
 obtain⟨ρ',F',ok,hr'⟩:=HU (t d) σ ρ F _ (T d) hp.wr (hp.tm d hdn) (hp.tD d) (λi b hb=>hp.tF i d b hb)
 refine⟨ρ',F',hp.df,hp.sz,λx hx=>?_,ok.wr,λx hx=>?_,λx b hb=>?_,λi x b hb hT=>?_,λx y b hxy h1 h2=>?_,λx b hb=>?_,hp.fr,λi b hb=>?_,hp.D1,hp.D2,
  λi hi=>(ok.rt i (Nat.lt_of_lt_of_le hi hp.ml)).trans (hp.rt i hi),by have:=hp.ml;simp;omega,λx b hx hb=>?_⟩
 ·have: ¬x=d:=by omega
  simp only [Az,this,if_false];exact hp.dd x hx
 ·by_cases hxd:x=d
  ·subst hxd;simp only [Az,if_true];exact hr'
  ·simp only [Az,hxd,if_false]
   exact Rel.mono (λ_ h=>h) (λv cv hv=>Ag.ext ok.rt _ _ hv) _ _ _ (λ_ _=>rfl) (hp.tm x hx)
 ·split at hb
  ·exact hb.elim
  ·exact hp.tD x b hb
 ·split at hT
  ·exact hT
  ·rename_i hxd
   by_cases hi:i<σ.length
   ·rw [ok.old i hi]at hb;exact hp.tF i x b hb hT
   ·exact hp.tT d x b (Ne.symm hxd) (ok.new i b (Nat.le_of_not_lt hi) hb) hT
 ·split at h1
  ·exact h1
  ·split at h2
   ·exact h2
   ·exact hp.tT x y b hxy h1 h2
 ·split at hb
  ·exact hb.elim
  ·exact hp.tn x b hb
 ·by_cases hi:i<σ.length
  ·rw [ok.old i hi]at hb;exact hp.Fn i b hb
  ·exact hp.tn d b (ok.new i b (Nat.le_of_not_lt hi) hb)
 ·split at hb
  ·exact hb
  ·exact hp.tx x b hx hb
end
theorem PR.close{C:Ctx}: ∀ (ds:List (Option Nat)) (t:Nat->V) (σ:List V) (ρ:Nat->Value) (F:Nat->Nat->Prop) (T:Nat->Nat->Prop),PR C N σ ρ F t a w D T->
  (∀x b,T x b->some x∈ds)->AI C N (promA ds ⟨t,σ⟩) a w:=by
 intro ds
 induction ds with
 |nil=>
  intro t σ ρ F T hp ho;refine⟨hp.df,hp.dd,D,ρ,F,hp.wr,by simpa using hp.sz,λx hx=>?_,hp.fr,hp.Fn,hp.D1,hp.D2,hp.rt,hp.ml⟩
  have hx':x<N:=by simpa using hx
  have h1:=hp.tm x hx';have e:T x=noF:=AY (λb hb=>by cases ho x b hb)
  rw [e]at h1;rw [AV hx'];exact h1
 |cons d ds ih=>
  intro t σ ρ F T hp ho;cases d with
  |none=>
   refine ih t σ ρ F T hp λx b h=>?_
   have:=ho x b h;simpa using this
  |some d=>
   unfold promA;split
   ·rename_i hown
    have hdn:d<N:=by
     rcases Nat.lt_or_ge d N with h|h
     ·exact h
     ·simp only [hp.dd d h]at hown;cases hown
    obtain⟨ρ',F',hp'⟩:=hp.prom hdn;refine ih _ _ ρ' F' _ hp' λx b h=>?_
    split at h
    ·exact h.elim
    grind
   ·rename_i hown
    refine ih t σ ρ F T hp λx b h=>?_
    have:=ho x b h;rcases List.mem_cons.1 this with he|he
    ·cases he
     by_cases hx:d<N
     ·exact absurd h (Au _ _ _ (by simpa using hown) (hp.tm d hx) b)
     ·exact absurd h (hp.tx d b (Nat.le_of_not_lt hx))
    ·exact he
end Go.Ve

