/- Regions that draw their order: quiet operations in whatever order, then a tail in order. -/
import Derived.Test.YtpaekmpjbalnfabVp
import Derived.StillTail
import Derived.Laws.IdiomCopy
namespace Go.Ve
theorem Kz{P:Program}{σ:List V}{ev ev':Operand->V}{op:Op}{K:V->Prop}(h: ∀x∈op.operands,ev x=ev' x)(hq:OD P σ ev op K):OD P σ ev' op K:=by
 have pairs: ∀ps:Array (Nat×Operand),(∀x∈(ps.toList.map (·.2)).toArray,ev x=ev' x)->(ps.toList.map fun p=>(p.1,ev p.2))=ps.toList.map fun p=>(p.1,ev' p.2):=by
  intro ps hp;apply List.map_congr_left;intro p hm;rw [hp p.2 (by simp only [List.mem_toArray,List.mem_map];exact⟨p,hm,rfl⟩)]
 unfold OD at hq⊢;cases op<;>simp only [Op.operands]at h<;>simp only at hq⊢ <;>try exact hq
 case call c=>
  obtain⟨callee,args,ats⟩:=c;have hm:args.toList.map ev=args.toList.map ev':=List.map_congr_left fun x hx=>h x (by simp [Call.operands];right;simpa using hx)
  cases callee with
  |value f=>
   have hf:ev f=ev' f:=h f (by simp [Call.operands])
   cases f<;>simp only at hq⊢ <;>first|exact hq|(rw [<-hm,<-hf];exact hq)|(rw [<-hm];exact hq)
  |invoke r m=>
   have hf:ev r=ev' r:=h r (by simp [Call.operands])
   simp only at hq⊢;rw [<-hm,<-hf];exact hq
  |builtin b=>simp only at hq⊢;rw [<-hm];exact hq
 case build t ps=>rw [<-pairs ps h];exact hq
 case buildSlice t n ps=>rw [<-pairs ps h];exact hq
 case slice t x lo hi mx=>
  have h1:lo.map ev=lo.map ev':=by cases lo with|none=>rfl|some y=>simp;exact h y (by simp)
  have h2:hi.map ev=hi.map ev':=by cases hi with|none=>rfl|some y=>simp;exact h y (by simp)
  rw [<-h1,<-h2,<-h x (by simp)];exact hq
 case makeFunc fn first cs=>
  have hm:cs.toList.map ev=cs.toList.map ev':=List.map_congr_left fun x hx=>h x (by simp;right;simpa using hx)
  rw [<-hm];exact hq
 all_goals (simp at h;simp_all)
theorem PN{P:Program}{σ:List V}{ev:Operand->V}{op:Op}{K:V->Prop}(hq:OD P σ ev op K): ∃r,K r/\∀K':V->Prop,K' r->OD P σ ev op K':=by
 unfold OD at hq⊢;cases op<;>simp only at hq⊢ <;>try exact hq.elim
 case move x=>exact⟨_,hq.2,fun K' h'=>⟨hq.1,h'⟩⟩
 case assign x=>exact⟨_,hq.2,fun K' h'=>⟨hq.1,h'⟩⟩
 case pick c x y=>
  unfold Q7 at hq⊢;split at hq<;>try exact hq.elim
  rename_i b hb;obtain⟨h1,h2,h3,h4⟩:=hq;cases b
  ·exact⟨_,h4 rfl,fun K' h'=>⟨h1,h2,(fun h=>by cases h),fun _=>h'⟩⟩
  ·exact⟨_,h3 rfl,fun K' h'=>⟨h1,h2,fun _=>h',(fun h=>by cases h)⟩⟩
 case load t x=>
  unfold HB at hq⊢;split at hq<;>try exact hq.elim
  ·split at hq<;>try exact hq.elim
   ·exact⟨_,hq.2,fun K' h'=>⟨hq.1,h'⟩⟩
   ·exact⟨_,hq.2,fun K' h'=>⟨hq.1,h'⟩⟩
   ·exact⟨_,hq.2,fun K' h'=>⟨hq.1,h'⟩⟩
  ·split at hq<;>try exact hq.elim
   ·exact⟨_,hq.2,fun K' h'=>⟨hq.1,h'⟩⟩
   ·exact⟨_,hq.2.2,fun K' h'=>⟨hq.1,hq.2.1,h'⟩⟩
   ·exact⟨_,hq.2,fun K' h'=>⟨hq.1,h'⟩⟩
 case fieldAddr t x k=>
  unfold Jv at hq⊢;split at hq<;>try exact hq.elim
  split at hq<;>try exact hq.elim
  ·exact⟨_,hq.2,fun K' h'=>⟨hq.1,h'⟩⟩
  ·exact⟨_,hq.2,fun K' h'=>⟨hq.1,h'⟩⟩
  ·exact⟨_,hq.2,fun K' h'=>⟨hq.1,h'⟩⟩
 case indexAddr t x i=>
  unfold B9 at hq⊢;split at hq<;>try exact hq.elim
  split at hq<;>try exact hq.elim
  ·exact⟨_,hq.2.2.2,fun K' h'=>⟨hq.1,hq.2.1,hq.2.2.1,h'⟩⟩
  ·exact⟨_,hq.2.2.2,fun K' h'=>⟨hq.1,hq.2.1,hq.2.2.1,h'⟩⟩
 case index t x i=>
  unfold Nj at hq⊢;obtain⟨h1,hq⟩:=hq;split at hq<;>try exact hq.elim
  exact⟨_,hq.2,fun K' h'=>⟨h1,hq.1,h'⟩⟩
 case nilCheck x=>
  unfold ZT at hq⊢;split at hq<;>try exact hq.elim
  ·exact⟨_,hq,fun K' h'=>h'⟩
  ·exact⟨_,hq,fun K' h'=>h'⟩
  ·exact⟨_,hq.2,fun K' h'=>⟨hq.1,h'⟩⟩
 case binOp op t x y yt=>
  unfold Ue at hq⊢;split at hq
  ·split at hq
   ·rename_i h;exact⟨_,hq.2,fun K' h'=>by first|exact⟨hq.1,h'⟩|(simp only [h];exact⟨hq.1,h'⟩)⟩
   ·rename_i h;obtain⟨z,h1,h2,h3,hK⟩:=hq;exact⟨z,hK,fun K' h'=>by first|exact⟨z,h1,h2,h3,h'⟩|(simp only [h];exact⟨z,h1,h2,h3,h'⟩)⟩
  ·obtain⟨z,h1,h2,h3,hK⟩:=hq;exact⟨z,hK,fun K' h'=>⟨z,h1,h2,h3,h'⟩⟩
 case unOp op t x=>
  unfold qUn at hq⊢;split at hq<;>try exact hq.elim
  ·exact⟨_,hq,fun K' h'=>h'⟩
  ·exact⟨_,hq,fun K' h'=>h'⟩
 case convert s d x=>
  cases hcb:cvB P s d with
  |some e=>
   unfold Du at hq⊢;simp only [hcb]at hq⊢;split at hq
   ·exact⟨_,hq.2,fun K' h'=>by first|exact⟨hq.1,h'⟩|(simp only [*];exact⟨hq.1,h'⟩)⟩
   ·exact hq.elim
   ·contradiction
  |none=>
  unfold Du at hq⊢;simp only [hcb]at hq⊢;unfold Nn at hq⊢;split at hq
  ·exact⟨_,hq,fun K' h'=>h'⟩
  ·exact⟨_,hq,fun K' h'=>h'⟩
  ·split at hq
   ·rename_i h;exact⟨_,hq,fun K' h'=>by first|exact h'|(simp only [h];exact h')⟩
   ·exact hq.elim
  ·obtain⟨z,h1,h2,hK⟩:=hq;exact⟨z,hK,fun K' h'=>⟨z,h1,h2,h'⟩⟩
 case extract x i=>
  unfold CA at hq⊢;split at hq<;>try exact hq.elim
  exact⟨_,hq.2.2,fun K' h'=>⟨hq.1,hq.2.1,h'⟩⟩
 case build t ps=>
  unfold KC at hq⊢;split at hq<;>try exact hq.elim
  obtain⟨h1,hq⟩:=hq;split at hq<;>try exact hq.elim
  rename_i h;exact⟨_,hq,fun K' h'=>⟨h1,h'⟩⟩
 case buildSlice t n ps=>
  unfold Cb at hq⊢;split at hq<;>try exact hq.elim
  obtain⟨h1,h2,hq⟩:=hq;split at hq<;>try exact hq.elim
  rename_i h;exact⟨_,hq.2,fun K' h'=>⟨h1,h2,hq.1,h'⟩⟩
 case alloc t=>
  unfold Nv at hq⊢;split at hq<;>try exact hq.elim
  exact⟨_,hq.2,fun K' h'=>⟨hq.1,h'⟩⟩
 case box t x=>
  obtain⟨h1,h2|h2⟩:=hq
  ·exact⟨_,h2.2,fun K' h'=>⟨h1,.inl ⟨h2.1,h'⟩⟩⟩
  ·exact⟨_,h2,fun K' h'=>⟨h1,.inr h'⟩⟩
 case makeSlice t l c=>
  unfold VX at hq⊢;split at hq<;>try exact hq.elim
  exact⟨_,hq.2.2,fun K' h'=>⟨hq.1,hq.2.1,h'⟩⟩
 case slice t x lo hi mx=>
  obtain⟨h0,hq⟩:=hq;unfold KA at hq⊢;split at hq<;>try exact hq.elim
  all_goals
   split at hq<;>try exact hq.elim
   rename_i h1 h2
  ·exact⟨_,hq.2,fun K' h'=>⟨h0,hq.1,h'⟩⟩
  ·exact⟨_,hq.2.2,fun K' h'=>⟨h0,hq.1,hq.2.1,h'⟩⟩
  ·exact⟨_,hq.2.2,fun K' h'=>⟨h0,hq.1,hq.2.1,h'⟩⟩
 case call c=>
  obtain⟨callee,args,ats⟩:=c;simp only at hq⊢;split at hq
  ·obtain⟨r,h1,h2,hK⟩:=hq;exact⟨r,hK,fun K' h'=>⟨r,h1,h2,h'⟩⟩
  ·unfold Nq at hq⊢
   split at hq
   case h_2=>exact hq.elim
   obtain⟨h0,r,h1,h2,hK⟩:=hq;exact⟨r,hK,fun K' h'=>⟨h0,r,h1,h2,h'⟩⟩
  ·unfold LM at hq⊢
   split at hq<;>try exact hq.elim
   ·obtain⟨h1,hq⟩:=hq
    unfold qLen at hq⊢;split at hq<;>first|exact hq.elim|exact⟨_,hq,fun K' h'=>⟨h1,h'⟩⟩
   ·unfold DF at hq⊢
    split at hq<;>first|exact hq.elim|exact⟨_,hq,fun K' h'=>h'⟩
   ·unfold DF at hq⊢
    split at hq<;>first|exact hq.elim|exact⟨_,hq,fun K' h'=>h'⟩
  ·unfold Ns at hq⊢
   split at hq
   case h_2=>exact hq.elim
   obtain⟨t,fn,h0,r,h1,h2,hK⟩:=hq;exact⟨r,hK,fun K' h'=>⟨t,fn,h0,r,h1,h2,h'⟩⟩
  ·exact hq.elim
 case makeInterface t x=>exact⟨_,hq.2,fun K' h'=>⟨hq.1,h'⟩⟩
 case makeFunc fn first cs=>
  split at hq
  case h_2=>exact hq.elim
  exact⟨_,hq.2,fun K' h'=>⟨hq.1,h'⟩⟩
theorem VU{P:Program}{σ:List V}{ev ev':Operand->V}{op:Op}{K:V->Prop}(h: ∀x∈op.operands,ev x=ev' x)(hq:qop P σ ev op K):qop P σ ev' op K:=Kz h hq
theorem VT{P:Program}{σ:List V}{ev:Operand->V}{op:Op}{K:V->Prop}(hq:qop P σ ev op K): ∃r,K r/\qop P σ ev op (fun r'=>r'=r):=by
 obtain⟨r0,⟨r,hs,hK⟩,hd⟩:=PN hq;exact⟨r,hK,hd _ ⟨r,hs,rfl⟩⟩
theorem Nf{P:Program}{σ:List V}{ev:Operand->V}{op:Op}{K K':V->Prop}(hq:OD P σ ev op K)(h: ∀r,K r->K' r):OD P σ ev op K':=by
 obtain⟨r,hK,hd⟩:=PN hq;exact hd K' (h r hK)
end Go.Ve


namespace Go.Ve
def QK(h:CC)(d:Option Nat)(t:Nat->V)(K:(Nat->V)->Prop)(r:V):Prop:=
 match d with
 |some d=>d<h.n/\K (AV t d (if h.fz.contains d then frz r else r))
 |none=>False
def Ka(t:Nat->V)(d:Option Nat):Nat->V:=
 match d with
 |some d=>AV t d udV
 |none=>t
def X3(ops:Array Oper)(y:Nat):Bool:=decide (((List.range ops.size).filter fun j=>match ops[j]? with
 |some o=>(o.looksAt ops).contains y
 |none=>false).length<=1)
def AX(ops:Array Oper)(i:Nat):Option Nat:=(ops[i]?).bind (·.dst)
def mvB(ops:Array Oper)(o:Oper)(y:Nat):Bool:=(o.looksAt ops).contains y&&X3 ops y&&o.after.toList.any fun e=>Region.binds .any e&&(match AX ops e.on with
 |some d=>Nat.beq d y
 |none=>false)
def NN(c:Nat):V->V
 | .many t n f=>.many t n fun k=>if k=c then .dead else f k
 |v=>v
inductive Tk where
 |all
 |part (c:Nat)
 |put (v:V)
def Tk.isPart:Tk->Bool
 | .part _=>true
 |_=>false
def hdV:V->V
 | .nd true true _ n _=>.nd true false 0 n fun _ _=>.dead
 |_=>.dead
theorem Rel.hd{D:Nat->Prop}{w:World}{R:V->Value->Prop}{v:V}{cv:Value}{fp:Nat->Prop}(h:Rel D w R v cv fp):Rel D w R (hdV v) cv noF:=by
 unfold hdV;split
 ·rcases h with⟨h1,h2,h3,_⟩|⟨b,o,cap,F,hcv,hcap,hmax,hs,_⟩
  ·exact .inl ⟨h1,h2,P2 h3,fun _ h=>h⟩
  ·exact .inr ⟨b,o,cap,fun _ _=>noF,hcv,hcap,hmax,hs,fun _ _ _ hk=>absurd hk (Nat.not_lt_zero _),fun _=>⟨fun h=>absurd h (by simp),fun _ _ _ _ hk=>absurd hk (Nat.not_lt_zero _),fun _ h=>h⟩,fun h=>by cases h⟩
 ·exact fun _ h=>h
def kapp(tk:Tk)(v:V):V:=match tk with
 | .all=>.dead
 | .part c=>NN c v
 | .put u=>u
def H8(o:Option Tk)(v:V):V:=match o with
 |some tk=>kapp tk v
 |none=>v
theorem Ur(a b:Nat)(v:V):NN a (NN b v)=NN b (NN a v):=by
 cases v<;>try rfl
 show V.many _ _ _=V.many _ _ _
 congr 1
 funext k
 by_cases h1:k=a<;>by_cases h2:k=b<;>simp [h1,h2]
theorem Wm(a b:Option Tk)(v:V)(h: ∀x y,a=some x->b=some y->x.isPart=true/\y.isPart=true):H8 a (H8 b v)=H8 b (H8 a v):=by
 cases a with
 |none=>rfl
 |some x=>
  cases b with
  |none=>rfl
  |some y=>
   obtain⟨h1,h2⟩:=h x y rfl rfl;cases x<;>first|cases h1|skip
   cases y<;>first|cases h2|skip
   exact Ur _ _ _
def Bj:List (Nat×Tk)->Nat->Option Tk
 | [],_=>none
 |(y,tk)::l,x=>if y=x then some tk else Bj l x
theorem CJ: ∀ {l:List (Nat×Tk)} {x:Nat} {tk:Tk},Bj l x=some tk->(x,tk)∈l
 | [],_,_,h=>by cases h
 |(y,tk')::l,x,tk,h=>by
  unfold Bj at h;split at h
  ·rename_i e;cases h;rw [e];exact List.mem_cons_self ..
  ·exact mCM _ (CJ h)
def AU(ys:List (Nat×Tk))(t:Nat->V):Nat->V:=fun x=>H8 (Bj ys x) (t x)
theorem DN(t:Nat->V):AU [] t=t:=rfl
def D9(ops:Array Oper)(y:Nat):Bool:=(List.range ops.size).all fun j=>match AX ops j with
 |some d=>!Nat.beq d y
 |none=>true
def mvR(ops:Array Oper)(o:Oper)(y:Nat):Bool:=(o.looksAt ops).contains y&&X3 ops y&&D9 ops y
def LZ(ops:Array Oper)(y:Nat):List Nat:=(List.range ops.size).filter fun j=>match ops[j]? with
 |some o=>(o.looksAt ops).contains y
 |none=>false
def K8(ops:Array Oper):List Nat->Bool
 | []=>true
 |i::l=>(match l with
  | []=>true
  |j::_=>Region.waitsFor .any ops j i)&&K8 ops l
def mvC(ops:Array Oper)(o:Oper)(y:Nat):Bool:=(o.looksAt ops).contains y&&D9 ops y&&K8 ops (LZ ops y)
def DH(op:Op):List Nat:=op.operands.toList.filterMap fun x=>match x with
 | .tmp y=>some y
 |_=>none
def isFn:Op->Bool
 | .call c=>match c.callee with
  | .value (.func _)=>true
  |_=>false
 |_=>false
def alM(h:CC)(ops:Array Oper)(o:Oper):Bool:=o.guard.isNone&&(match o.op,o.dst with
 | .move (.tmp y),some z=>h.fz.contains (3000000+y)&&D9 ops y&&ops.toList.any fun c=>isFn c.op&&(DH c.op).contains z
 |_,_=>false)
def alB(h:CC)(ops:Array Oper)(o:Oper)(y:Nat):Bool:=o.after.toList.any fun e=>Region.binds .any e&&(match ops[e.on]? with
 |some c=>alM h ops c&&(match c.op,c.dst with
  | .move (.tmp y'),some z=>Nat.beq y' y&&(DH o.op).contains z
  |_,_=>false)
 |none=>false)
def alU(h:CC)(ops:Array Oper)(y:Nat):List Nat:=(List.range ops.size).filter fun j=>match ops[j]? with
 |some o=>alB h ops o y
 |none=>false
def QG(h:CC)(ops:Array Oper)(o:Oper)(p:Nat×Tk):Bool:=!p.2.isPart&&alB h ops o p.1&&D9 ops p.1&&K8 ops (alU h ops p.1)&&(List.range ops.size).all fun j=>match ops[j]? with
 |some oj=>!(oj.looksAt ops).contains p.1||alM h ops oj
 |none=>true
def AlP(h:CC)(ops:Array Oper)(o:Oper)(z y:Nat):Prop:=∃e∈o.after,Region.binds .any e=true/\∃c,ops[e.on]? =some c/\alM h ops c=true/\c.op= .move (.tmp y)/\c.dst=some z
def WS(ops:Array Oper)(i j:Nat):Prop:=j<i/\∀listed:Array Bool,(∀k ok,ops[k]? =some ok->listed.getD k false=true->∀e∈ok.after,Region.binds .any e=true->listed.getD e.on false=true)->
 (∀oi,ops[i]? =some oi->∀e∈oi.after,Region.binds .any e=true->listed.getD e.on false=true)->listed.getD j false=true
theorem WS.of{ops:Array Oper}{i j:Nat}(hb: ∀o e,ops[i]? =some o->e∈o.after->Region.binds .any e=true->e.on<i)(h:Region.waitsFor .any ops i j=true):WS ops i j:=by
 obtain⟨o,ho,e,he,h1,h2⟩:=Region.waitsFor_spec h;exact⟨h2▸hb o e ho he h1,fun listed _ h3=>h2▸h3 o ho e he h1⟩
theorem WS.trans{ops:Array Oper}{i j k:Nat}(hs: ∃o,ops[j]? =some o)(h:WS ops i j)(h':WS ops j k):WS ops i k:=by
 refine⟨Nat.lt_trans h'.1 h.1,fun listed hc hi=>h'.2 listed hc fun oj hoj e he hb=>?_⟩
 exact hc j oj hoj (h.2 listed hc hi) e he hb
theorem WS.listed{ops:Array Oper}{i j:Nat}(h:WS ops i j){listed:Array Bool}(hc: ∀k ok,ops[k]? =some ok->listed.getD k false=true->∀e∈ok.after,Region.binds .any e=true->listed.getD e.on false=true)(hl:listed.getD i false=true):listed.getD j false=true:=
 h.2 listed hc fun oi hoi e he hb=>hc i oi hoi hl e he hb
theorem JT{ops:Array Oper}(hb: ∀j o e,ops[j]? =some o->e∈o.after->Region.binds .any e=true->e.on<j): ∀ {l:List Nat},K8 ops l=true->(∀i∈l,∃o,ops[i]? =some o)->l.Pairwise fun i j=>WS ops j i
 | [],_,_=>List.Pairwise.nil
 |i::l,h,hs=>by
  unfold K8 at h;rw [bAE]at h;have ih:=JT hb h.2 fun i hi=>hs i (mCM _ hi)
  refine List.pairwise_cons.2 ⟨fun k hk=>?_,ih⟩
  cases l with
  |nil=>cases hk
  |cons j l=>
   have h1:WS ops j i:=WS.of (hb j) h.1;rcases List.mem_cons.1 hk with rfl|hk
   ·exact h1
   ·exact((List.pairwise_cons.1 ih).1 k hk).trans (hs j (by simp)) h1
theorem UI{ops:Array Oper}{y i j:Nat}{oi oj:Oper}(hb: ∀j o e,ops[j]? =some o->e∈o.after->Region.binds .any e=true->e.on<j)(h:K8 ops (LZ ops y)=true)(hi:ops[i]? =some oi)(hyi:y∈oi.looksAt ops)(hj:ops[j]? =some oj)(hyj:y∈oj.looksAt ops):j=i\/WS ops i j\/WS ops j i:=by
 have hin: ∀k ok,ops[k]? =some ok->y∈ok.looksAt ops->k∈LZ ops y:=by
  intro k ok hk hyk;unfold LZ;rw [List.mem_filter,List.mem_range];refine⟨(Array.getElem?_eq_some_iff.1 hk).1,?_⟩;rw [hk];simpa using hyk
 have hp:=JT hb h fun k hk=>by
  have hk:=List.mem_range.1 (List.mem_filter.1 hk).1;exact⟨ops[k],by simp [hk]⟩
 obtain⟨a,ha,ea⟩:=List.getElem_of_mem (hin i oi hi hyi);obtain⟨b,hb',eb⟩:=List.getElem_of_mem (hin j oj hj hyj);rcases Nat.lt_trichotomy a b with hlt|heq|hlt
 ·have:=List.pairwise_iff_getElem.1 hp a b ha hb' hlt
  rw [ea,eb]at this;exact .inr (.inr this)
 ·subst heq
  exact .inl (eb.symm.trans ea)
 ·have:=List.pairwise_iff_getElem.1 hp b a hb' ha hlt
  rw [ea,eb]at this;exact .inr (.inl this)
theorem CI{ops:Array Oper}{y:Nat}(h:D9 ops y=true): ∀j,AX ops j≠some y:=by
 intro j hj;have hs:j<ops.size:=by
  rcases Nat.lt_or_ge j ops.size with h|h
  ·exact h
  ·unfold AX at hj
   rw [Array.getElem?_eq_none h]at hj;cases hj
 have:=aET.1 h j (List.mem_range.2 hs);rw [hj]at this;simp [Nat.beq_refl]at this
def exB(ops:Array Oper)(o:Oper)(y c:Nat):Bool:=(o.looksAt ops).contains y&&((List.range ops.size).all fun j=>match ops[j]? with
 |some oj=>!(oj.looksAt ops).contains y||(oj.guard.isNone&&(match oj.op with
  | .extract (.tmp y') c'=>Nat.beq y' y&&(!Nat.beq c' c||oj.dst==o.dst)
  |_=>false))
 |none=>true)&&o.after.toList.any fun e=>Region.binds .any e&&(match AX ops e.on with
 |some d=>Nat.beq d y
 |none=>false)
def Jd(ops:Array Oper)(o:Oper)(p:Nat×Tk):Bool:=match p.2 with
 | .all=>mvB ops o p.1
 | .part c=>exB ops o p.1 c
 | .put _=>mvB ops o p.1||mvR ops o p.1||mvC ops o p.1
structure PR(C:Ctx)(N:Nat)(σ:List V)(ρ:Nat->Value)(F:Nat->Nat->Prop)(t:Nat->V)(a:Act)(w:World)(D:Nat->Prop)(T:Nat->Nat->Prop):Prop where
 df:a.defers= []
 sz:a.tmps.size=N
 dd: ∀x,N<=x->t x= .dead
 wr:Bt σ w D ρ F
 tm: ∀x,x<N->Rel D w (An σ ρ w) (t x) (a.tmps.getD x undef) (T x)
 tD: ∀x b,T x b->¬D b
 tF: ∀i x b,F i b->¬T x b
 tT: ∀x y b,x≠y->T x b->¬T y b
 tn: ∀x b,T x b->C.W b\/C.w0.heap.size<=b
 fr:Fr C.w0 w C.W
 Fn: ∀i b,F i b->C.W b\/C.w0.heap.size<=b
 D1: ∀b,C.D0 b->D b
 D2: ∀b,D b->b<C.w0.heap.size->C.D0 b\/C.W b
 rt: ∀i,i<C.m->ρ i=C.ρ0 i
 ml:C.m<=σ.length
 tx: ∀x b,N<=x->¬T x b
def mq(t:Nat->V)(o:Oper)(ys:List (Nat×Tk))(r:V):Prop:=
 (∃y,(o.op= .assign (.tmp y)\/o.op= .move (.tmp y))/\ys= [(y,.put (hdV r))]/\r=t y)\/
 ∃y c n f,o.op= .extract (.tmp y) c/\ys= [(y,.part c)]/\t y= .many .tu n f/\c<n/\r=f c
def ID(d:Option Nat)(r:V)(t:Nat->V):Nat->V:=match d with
 |some d=>AV t d r
 |none=>t
def Uj:Op->Bool
 | .extract _ _=>false
 |_=>true
theorem PR.ok{C:Ctx}{N:Nat}{σ:List V}{ρ:Nat->Value}{F:Nat->Nat->Prop}{t:Nat->V}{a:Act}{w:World}{D:Nat->Prop}{T:Nat->Nat->Prop}(h:PR C N σ ρ F t a w D T):Wok w:=
 C.ok.1.same fun p hp=>h.fr.block p.1 (C.ok.1.lt hp) (C.ok.2 p hp)
def LQ(P:Program)(N:Nat)(σ:List V)(Al:Nat->Nat->Prop)(o:Oper)(t:Nat->V)(ys:List (Nat×Tk))(r:V):Prop:=
 ∀ (C:Ctx) (ρ:Nat->Value) (F:Nat->Nat->Prop) (a:Act) (w:World) (D:Nat->Prop) (T:Nat->Nat->Prop) (t':Nat->V),(∀x,(x∈DH o.op\/Bj ys x≠none)->t' x=t x)->(∀z y,Al z y->a.tmps.getD z undef=a.tmps.getD y undef)->PR C N σ ρ F t' a w D T->
  ∀ (next:Act->World->Prop) (Q:Exit->Act->World->Prop),(∀a' w' D' T',PR C N σ ρ F (ID o.dst r (AU ys t')) a' w' D' T'->(∀x b,T' x b->o.dst=some x\/∃b',T x b')->(∀x,o.dst≠some x->a'.tmps[x]? =a.tmps[x]?)->next a' w')->o.wp P a w next Q
def vq(P:Program)(h:CC)(ops:Array Oper)(σ:List V):List Oper->((Nat->V)->Prop)->(Nat->V)->Prop
 | [],K,t=>K t
 |o::rest,K,t=>match o.guard with
  |none=>(alM h ops o=false/\(qop P σ (Ms.ev ⟨t,σ⟩) o.op (QK h o.dst t (vq P h ops σ rest K))\/(∃ys d r,o.dst=some d/\d<h.n/\h.fz.contains d=false/\(∀p∈ys,Jd ops o p=true)/\mq t o ys r/\vq P h ops σ rest K (AV (AU ys t) d r))\/
   ∃ys r,(∀p∈ys,Jd ops o p=true\/QG h ops o p=true)/\Uj o.op=true/\LQ P h.n σ (AlP h ops o) o t ys r/\vq P h ops σ rest K (ID o.dst r (AU ys t))))\/
   (alM h ops o=true/\∃d,o.dst=some d/\d<h.n/\vq P h ops σ rest K (AV t d .dead))
  |some (j,want)=>match gv t ops j with
   | .c (.bool b)=>(b=want->qop P σ (Ms.ev ⟨t,σ⟩) o.op (QK h o.dst t (vq P h ops σ rest K)))/\(b=(!want)->(∀d,o.dst=some d->d<h.n)/\vq P h ops σ rest K (Ka t o.dst))
   |v=>v=udV/\(∀d,o.dst=some d->d<h.n)/\vq P h ops σ rest K (Ka t o.dst)
def gskip(v:V)(want:Bool):Prop:=v= .c (.bool (!want))\/v=udV
def promA:List (Option Nat)->Ms->Ms
 | [],S=>S
 |none::ds,S=>promA ds S
 |some d::ds,S=>if AS (S.t d)then promA ds ⟨AV S.t d (prom (S.t d) S.σ.length).1,S.σ++(prom (S.t d) S.σ.length).2⟩else promA ds S
def notSel:Op->Bool
 | .select _ _=>false
 |_=>true
def flB(ops:Array Oper)(n f:Nat):Bool:=(List.range n).all (fun i=>i==f||Region.waitsFor .any ops n i)&&match ops[f]? with
 |some o=>o.guard.isNone&&match o.op,o.dst with
  | .extract (.tmp y) _,some d=>(List.range ops.size).all fun t=>decide (t<n)||Region.waitsFor .any ops t f||match ops[t]? with
   |some ot=>!(ot.looksAt ops).contains d&&ot.dst !=some d&&ot.dst !=some y&&notSel ot.op
   |none=>true
  |_,_=>false
 |none=>false
structure FL(ops:Array Oper)(n f:Nat):Prop where
 fn:f<n
 others: ∀i,i<n->i≠f->Region.waitsFor .any ops n i=true
 it: ∃o y c d,ops[f]? =some o/\o.guard=none/\o.op= .extract (.tmp y) c/\o.dst=some d/\∀t ot,n<=t->ops[t]? =some ot->Region.waitsFor .any ops t f=false->d∉ot.looksAt ops/\ot.dst≠some d/\ot.dst≠some y/\∀cs b,ot.op≠.select cs b
theorem Yr{ops:Array Oper}{n f:Nat}(hf:f<n)(h:flB ops n f=true):FL ops n f:=by
 unfold flB at h;rw [bAE]at h;obtain⟨h1,h2⟩:=h;refine⟨hf,fun i hi hne=>?_,?_⟩
 ·have:=aET.1 h1 i (List.mem_range.2 hi)
  rw [Bool.or_eq_true,beq_iff_eq]at this;exact this.resolve_left hne
 ·split at h2
  case h_2=>cases h2
  rename_i o ho;rw [bAE]at h2;obtain⟨hg,h2⟩:=h2;split at h2
  case h_2=>cases h2
  rename_i y c d hop hd;refine⟨o,y,c,d,ho,by simpa using hg,hop,hd,fun t ot ht hot hw=>?_⟩
  have:=aET.1 h2 t (List.mem_range.2 (Array.getElem?_eq_some_iff.1 hot).1);rw [hot,hw]at this;have hnt: ¬t<n:=by omega
  simp only [hnt,decide_false,Bool.false_or,bAE,Bool.not_eq_true',bne_iff_ne,ne_eq]at this;obtain⟨⟨⟨g1,g2⟩,g3⟩,g4⟩:=this;refine⟨fun hm=>?_,g2,g3,fun cs b e=>?_⟩
  ·have:(ot.looksAt ops).contains d=true:=by simpa using hm
   rw [g1]at this;cases this
  ·rw [e]at g4;cases g4
def Hg(ops:Array Oper)(n:Nat):Bool:=
 decide (n<=ops.size)&&
 (List.range n).all (fun i=>match ops[i]? with
  |none=>false
  |some oi=>match oi.dst with
   |none=>true
   |some d=>!(oi.looksAt ops).contains d&&(List.range n).all fun j=>j==i||match ops[j]? with
    |none=>false
    |some oj=>oj.dst !=some d&&(!(oj.looksAt ops).contains d||Region.waitsFor .any ops j i))&&
 (List.range ops.size).all (fun j=>match ops[j]? with
  |some o=>o.after.toList.all fun e=>!Region.binds .any e||decide (e.on<j)
  |none=>false)&&
 (n==ops.size||(Region.chainB .any ops n&&(Region.sinkB .any ops n||(List.range n).any (flB ops n))))
structure QOK(ops:Array Oper)(n:Nat):Prop where
 le:n<=ops.size
 dst: ∀i,i<n->∃oi,ops[i]? =some oi/\∀d,oi.dst=some d->d∉oi.looksAt ops
 ne: ∀i j d oj,i<n->j<n->i≠j->AX ops i=some d->ops[j]? =some oj->oj.dst≠some d/\(d∈oj.looksAt ops->∃e∈oj.after,Region.binds .any e=true/\e.on=i)
 back: ∀j o e,ops[j]? =some o->e∈o.after->Region.binds .any e=true->e.on<j
 tail:n=ops.size\/(Region.chainB .any ops n=true/\(Region.sinkB .any ops n=true\/∃f,FL ops n f))
theorem Nc{ops:Array Oper}{n:Nat}(h:Hg ops n=true):QOK ops n:=by
 simp only [Hg,bAE,decide_eq_true_eq,Bool.or_eq_true,beq_iff_eq]at h;obtain⟨⟨⟨h1,h2⟩,h3⟩,h4⟩:=h
 have hd: ∀i,i<n->∃oi,ops[i]? =some oi/\∀d,oi.dst=some d->d∉oi.looksAt ops/\∀j,j<n->j≠i->∃oj,ops[j]? =some oj/\oj.dst≠some d/\(d∈oj.looksAt ops->Region.waitsFor .any ops j i=true):=by
  intro i hi;have:=aET.1 h2 i (List.mem_range.2 hi);split at this
  ·cases this
  ·rename_i oi hoi
   refine⟨oi,hoi,fun d hd=>?_⟩
   rw [hd]at this
   ·simp only [bAE,Bool.not_eq_true']at this
    obtain⟨ha,hb⟩:=this;refine⟨by simpa using ha,fun j hj hne=>?_⟩
    have hj2:=aET.1 hb j (List.mem_range.2 hj);simp only [Bool.or_eq_true,beq_iff_eq,hne,false_or]at hj2;split at hj2
    ·cases hj2
    ·rename_i oj hoj
     simp only [bAE,bne_iff_ne,ne_eq,Bool.or_eq_true,Bool.not_eq_true']at hj2;refine⟨oj,hoj,hj2.1,fun hm=>?_⟩
     rcases hj2.2 with h|h
     ·simp at h;exact absurd hm h
     ·exact h
 have h4:n=ops.size\/(Region.chainB .any ops n=true/\(Region.sinkB .any ops n=true\/∃f,FL ops n f)):=by
  rcases h4 with h4|⟨h4,h5|h5⟩
  ·exact .inl h4
  ·exact .inr ⟨h4,.inl h5⟩
  ·obtain⟨f,hf,hb⟩:=List.any_eq_true.1 h5
   exact .inr ⟨h4,.inr ⟨f,Yr (List.mem_range.1 hf) hb⟩⟩
 refine⟨h1,fun i hi=>?_,fun i j d oj hi hj hij hdi hoj=>?_,fun j o e hj he hb=>?_,h4⟩
 ·obtain⟨oi,a,b⟩:=hd i hi;exact⟨oi,a,fun d h=>(b d h).1⟩
 ·obtain⟨oi,hoi,hd'⟩:=hd i hi
  have hdd:oi.dst=some d:=by simpa [AX,hoi]using hdi
  obtain⟨_,hall⟩:=hd' d hdd;obtain⟨oj',hoj',g1,g2⟩:=hall j hj (Ne.symm hij);have:oj'=oj:=Option.some.inj (hoj'.symm.trans hoj);subst this;refine⟨g1,fun hm=>?_⟩
  obtain⟨oj2,hoj2,e,he,hb,hon⟩:=Region.waitsFor_spec (g2 hm);have:oj2=oj':=Option.some.inj (hoj2.symm.trans hoj);subst this;exact⟨e,he,hb,hon⟩
 ·have hlt:j<ops.size:=(Array.getElem?_eq_some_iff.1 hj).1
  have:=aET.1 h3 j (List.mem_range.2 hlt);rw [hj]at this;have:=aET.1 this e (by simpa using he)
  simp [hb]at this;exact this
def Kh(P:Program)(h:CC)(ops:Array Oper)(σ:List V)(o:Oper)(t:Nat->V)(r:V)(ys:List (Nat×Tk)):Prop:=
 (alM h ops o=false/\((∃d:Nat,o.dst=some d/\
  (((d<h.n/\((o.guard=none\/∃j want,o.guard=some (j,want)/\gv t ops j= .c (.bool want))/\∃r',qop P σ (Ms.ev ⟨t,σ⟩) o.op (fun x=>x=r')/\r=(if h.fz.contains d then frz r' else r'))\/
   (∃j want,o.guard=some (j,want)/\gskip (gv t ops j) want/\d<h.n/\r=udV))/\ys= [])\/
   (d<h.n/\o.guard=none/\h.fz.contains d=false/\(∀p∈ys,Jd ops o p=true)/\mq t o ys r)))\/
 (o.guard=none/\(∀p∈ys,Jd ops o p=true\/QG h ops o p=true)/\Uj o.op=true/\LQ P h.n σ (AlP h ops o) o t ys r)\/
 (∃j want,o.guard=some (j,want)/\gskip (gv t ops j) want/\o.dst=none/\ys= [])))\/
 (alM h ops o=true/\∃d,o.dst=some d/\d<h.n/\r= .dead/\ys= [])
theorem De{h:CC}{ops:Array Oper}{o:Oper}{g:Nat×Bool}(hg:o.guard=some g):alM h ops o=false:=by
 unfold alM;rw [hg];rfl
theorem Mo{h:CC}{ops:Array Oper}{o:Oper}(hm:alM h ops o=true):o.guard=none/\∃y z,o.op= .move (.tmp y)/\o.dst=some z/\∀j,AX ops j≠some y:=by
 unfold alM at hm;rw [bAE]at hm;refine⟨by simpa using hm.1,?_⟩
 have h2:=hm.2;split at h2
 ·rename_i y z hop hd
  simp only [bAE]at h2;exact⟨y,z,hop,hd,CI h2.1.2⟩
 ·cases h2
def CT(ops:Array Oper)(r:Nat->V)(m:Nat->List (Nat×Tk))(t:Nat->V):Nat->(Nat->V)
 |0=>t
 |i+1=>ID (AX ops i) (r i) (AU (m i) (CT ops r m t i))
theorem Xv{P:Program}{h:CC}{ops:Array Oper}{σ:List V}{t0:Nat->V}{K:(Nat->V)->Prop}{n:Nat}(hn:n<=ops.size)(hq:QOK ops n): ∀ (k i:Nat) (r:Nat->V) (m:Nat->List (Nat×Tk)),i+k=n->
  vq P h ops σ ((ops.toList.drop i).take k) K (CT ops r m t0 i)->(∀j,j<i->∀o,ops[j]? =some o->Kh P h ops σ o (CT ops r m t0 j) (r j) (m j))->
  ∃ (r':Nat->V) (m':Nat->List (Nat×Tk)),(∀j,j<n->∀o,ops[j]? =some o->Kh P h ops σ o (CT ops r' m' t0 j) (r' j) (m' j))/\K (CT ops r' m' t0 n):=by
 intro k
 induction k with
 |zero=>
  intro i r m hi hv hs;obtain rfl:i=n:=by omega
  simp [vq]at hv;exact⟨r,m,hs,hv⟩
 |succ k ih=>
  intro i r m hi hv hs;have hlt:i<ops.toList.length:=by simp;omega
  rw [List.drop_eq_getElem_cons hlt,List.take_succ_cons]at hv;obtain⟨oi,hoi,hnl⟩:=hq.dst i (by omega)
  have hdo:AX ops i=oi.dst:=by simp [AX,hoi]
  have he:ops.toList[i]=oi:=by
   have:=hoi;rw [<-Array.getElem?_toList,gEE hlt]at this;exact Option.some.inj this
  rw [he]at hv
  -- go on with the value v at place i
  have go: ∀v ys,Kh P h ops σ oi (CT ops r m t0 i) v ys->vq P h ops σ ((ops.toList.drop (i+1)).take k) K (ID oi.dst v (AU ys (CT ops r m t0 i)))->∃ (r':Nat->V) (m':Nat->List (Nat×Tk)),(∀j,j<n->∀o,ops[j]? =some o->Kh P h ops σ o (CT ops r' m' t0 j) (r' j) (m' j))/\K (CT ops r' m' t0 n):=by
   intro v ys hst hv
   have same: ∀j,j<=i->CT ops (fun x=>if x=i then v else r x) (fun x=>if x=i then ys else m x) t0 j=CT ops r m t0 j:=by
    intro j
    induction j with
    |zero=>intro _;rfl
    |succ j ihj=>
     intro hj;have h1:j≠i:=by omega
     simp only [CT,ihj (by omega),h1,if_false]
   refine ih (i+1) (fun x=>if x=i then v else r x) (fun x=>if x=i then ys else m x) (by omega) ?_ ?_
   ·have:CT ops (fun x=>if x=i then v else r x) (fun x=>if x=i then ys else m x) t0 (i+1)=ID oi.dst v (AU ys (CT ops r m t0 i)):=by
     simp only [CT,hdo,same i (Nat.le_refl _),if_true]
    rw [this];exact hv
   ·intro j hj o ho
    by_cases hji:j=i
    ·subst hji
     have:o=oi:=Option.some.inj (ho.symm.trans hoi);subst this;rw [same j (Nat.le_refl _)];simpa using hst
    ·rw [same j (by omega)]
     simp only [hji,if_false];exact hs j (by omega) o ho
  have go0: ∀v d,oi.dst=some d->Kh P h ops σ oi (CT ops r m t0 i) v []->vq P h ops σ ((ops.toList.drop (i+1)).take k) K (AV (CT ops r m t0 i) d v)->∃ (r':Nat->V) (m':Nat->List (Nat×Tk)),(∀j,j<n->∀o,ops[j]? =some o->Kh P h ops σ o (CT ops r' m' t0 j) (r' j) (m' j))/\K (CT ops r' m' t0 n):=
   fun v d hd h1 h2=>go v [] h1 (by rw [DN,hd];exact h2)
  unfold vq at hv;split at hv
  ·rename_i hg
   have dsome: ∀ (K:(Nat->V)->Prop) r',QK h oi.dst (CT ops r m t0 i) K r'->∃d,oi.dst=some d:=by
    intro K r' hK;unfold QK at hK;split at hK
    ·exact⟨_,by assumption⟩
    ·exact hK.elim
   rcases hv with⟨hna,hv|⟨ys,d,v,hd,hdn,hfz,hmv,hmq,hv⟩|⟨ys,v,hmv,hne,hlq,hv⟩⟩|⟨hal,d,hd,hdn,hv⟩
   ·obtain⟨r',hK,hdet⟩:=VT hv
    obtain⟨d,hd⟩:=dsome _ _ hK;rw [hd]at hK;obtain⟨hdn,hK⟩:=hK;exact go0 _ d hd (.inl ⟨hna,.inl ⟨d,hd,.inl ⟨.inl ⟨hdn,.inl hg,r',hdet,rfl⟩,rfl⟩⟩⟩) hK
   ·exact go v ys (.inl ⟨hna,.inl ⟨d,hd,.inr ⟨hdn,hg,hfz,hmv,hmq⟩⟩⟩) (by rw [hd];exact hv)
   ·exact go v ys (.inl ⟨hna,.inr (.inl ⟨hg,hmv,hne,hlq⟩)⟩) hv
   ·exact go0 .dead d hd (.inr ⟨hal,d,hd,hdn,rfl,rfl⟩) hv
  ·rename_i j want hg
   split at hv
   ·rename_i b hb
    by_cases hbw:b=want
    ·obtain⟨r',hK,hdet⟩:=VT (hv.1 hbw)
     unfold QK at hK;split at hK
     case h_2=>exact hK.elim
     rename_i d hd;obtain⟨hdn,hK⟩:=hK;exact go0 _ d hd (.inl ⟨De hg,.inl ⟨d,hd,.inl ⟨.inl ⟨hdn,.inr ⟨j,want,hg,by rw [hb,hbw]⟩,r',hdet,rfl⟩,rfl⟩⟩⟩) hK
    ·have hbn:b=(!want):=by cases b<;>cases want<;>simp_all
     obtain⟨hlt,hK⟩:=hv.2 hbn;cases hd:oi.dst with
     |none=>
      rw [hd]at hK;exact go .dead [] (.inl ⟨De hg,.inr (.inr ⟨j,want,hg,.inl (by rw [hb,hbn]),hd,rfl⟩)⟩) (by rw [hd];exact hK)
     |some d=>
      rw [hd]at hK;exact go0 udV d hd (.inl ⟨De hg,.inl ⟨d,hd,.inl ⟨.inr ⟨j,want,hg,.inl (by rw [hb,hbn]),hlt d hd,rfl⟩,rfl⟩⟩⟩) hK
   ·obtain⟨hu,hlt,hK⟩:=hv
    cases hd:oi.dst with
    |none=>
     rw [hd]at hK;exact go .dead [] (.inl ⟨De hg,.inr (.inr ⟨j,want,hg,.inr hu,hd,rfl⟩)⟩) (by rw [hd];exact hK)
    |some d=>
     rw [hd]at hK;exact go0 udV d hd (.inl ⟨De hg,.inl ⟨d,hd,.inl ⟨.inr ⟨j,want,hg,.inr hu,hlt d hd,rfl⟩,rfl⟩⟩⟩) hK
structure MOK1(A:Nat->Prop)(ops:Array Oper)(n i:Nat)(p:Nat×Tk)(oi:Oper):Prop where
 at_:ops[i]? =some oi
 na: ¬A i
 looks:p.1∈oi.looksAt ops
 one:p.2.isPart=false->∀j oj,ops[j]? =some oj->p.1∈oj.looksAt ops->j=i\/WS ops i j\/WS ops j i
 nx:p.2.isPart=false->∀y c,oi.op≠.extract y c
 part: ∀c,p.2= .part c->∀j oj,j<n->ops[j]? =some oj->p.1∈oj.looksAt ops->oj.guard=none/\∃c',oj.op= .extract (.tmp p.1) c'/\(j≠i->c'≠c)
 edge:(∃e∈oi.after,Region.binds .any e=true/\AX ops e.on=some p.1)\/(p.2.isPart=false/\∀j,AX ops j≠some p.1)
structure MOKA(A:Nat->Prop)(B:Nat->Nat->Prop)(ops:Array Oper)(n i:Nat)(p:Nat×Tk)(oi:Oper):Prop where
 at_:ops[i]? =some oi
 put:p.2.isPart=false
 nd: ∀j,AX ops j≠some p.1
 us:B i p.1
 one: ∀j,B j p.1->j=i\/WS ops i j\/WS ops j i
 look: ∀j oj,ops[j]? =some oj->p.1∈oj.looksAt ops->A j
def MOK(A:Nat->Prop)(B:Nat->Nat->Prop)(ops:Array Oper)(n:Nat)(m:Nat->List (Nat×Tk)):Prop:=∀i,i<n->∀p∈m i,∃oi,MOK1 A ops n i p oi\/MOKA A B ops n i p oi
def isA(h:CC)(ops:Array Oper)(i:Nat):Prop:=∃o,ops[i]? =some o/\alM h ops o=true
def isB(h:CC)(ops:Array Oper)(i x:Nat):Prop:=i∈alU h ops x
theorem le_one{α:Type}{l:List α}(h:l.length<=1){a b:α}(ha:a∈l)(hb:b∈l):a=b:=by
 match l,h with
 | [c],_=>rw [List.mem_singleton.1 ha,List.mem_singleton.1 hb]
theorem Hn{ops:Array Oper}{oi:Oper}{y:Nat}(h3:(oi.after.toList.any fun e=>Region.binds .any e&&(match AX ops e.on with
 |some d=>Nat.beq d y
 |none=>false))=true): ∃e∈oi.after,Region.binds .any e=true/\AX ops e.on=some y:=by
 obtain⟨e,he,hb⟩:=List.any_eq_true.1 h3;rw [bAE]at hb;refine⟨e,by simpa using he,hb.1,?_⟩
 have:=hb.2;split at this
 ·rename_i d' hd'
  rw [hd',bqE this]
 ·cases this
theorem mok_of{P:Program}{h:CC}{ops:Array Oper}{σ:List V}{t0 r:Nat->V}{m:Nat->List (Nat×Tk)}{n:Nat}(hq:QOK ops n)
  (hst: ∀j,j<n->∀o,ops[j]? =some o->Kh P h ops σ o (CT ops r m t0 j) (r j) (m j)):MOK (isA h ops) (isB h ops) ops n m:=by
 intro i hi p hp;obtain⟨oi,hoi,_⟩:=hq.dst i hi;have hdo:AX ops i=oi.dst:=by simp [AX,hoi]
 have hm: ¬isA h ops i/\(Jd ops oi p=true\/QG h ops oi p=true)/\(p.2.isPart=false->∀y c,oi.op≠.extract y c):=by
  rcases hst i hi oi hoi with⟨hna,hs⟩|⟨_,_,_,_,_,he⟩
  rotate_left
  ·rw [he]at hp;cases hp
  refine⟨fun⟨o',ho',hal⟩=>?_,?_⟩
  ·obtain rfl:o'=oi:=Option.some.inj (ho'.symm.trans hoi)
   rw [hna]at hal;cases hal
  rcases hs with⟨_,_,⟨_,he⟩|⟨_,_,_,hm,hmq⟩⟩|⟨_,hm,hne,_⟩|⟨_,_,_,_,_,he⟩
  ·rw [he]at hp;cases hp
  ·refine⟨.inl (hm p hp),fun hpt y c hop=>?_⟩
   rcases hmq with⟨z,hz,_⟩|⟨z,c',n',f,_,hys,_⟩
   ·rcases hz with hz|hz<;>(rw [hop]at hz;cases hz)
   ·rw [hys,List.mem_singleton]at hp
    rw [hp]at hpt;cases hpt
  ·exact⟨hm p hp,fun _ y c hop=>by rw [hop]at hne;cases hne⟩
  ·rw [he]at hp;cases hp
 obtain⟨hna,hm,hnx⟩:=hm;rcases hm with hm|hm
 rotate_left
 ·unfold QG at hm
  simp only [bAE,Bool.not_eq_true']at hm;obtain⟨⟨⟨⟨h1,h2⟩,h3⟩,h4⟩,h5⟩:=hm;have hin: ∀j oj,ops[j]? =some oj->alB h ops oj p.1=true->j∈alU h ops p.1:=by
   intro j oj hoj hb;unfold alU;rw [List.mem_filter,List.mem_range];refine⟨(Array.getElem?_eq_some_iff.1 hoj).1,?_⟩;rw [hoj];exact hb
  refine⟨oi,.inr ⟨hoi,h1,CI h3,hin i oi hoi h2,fun j hj=>?_,fun j oj hoj hl=>?_⟩⟩
  ·have hp:=JT hq.back h4 fun k hk=>by
    have hk:=List.mem_range.1 (List.mem_filter.1 hk).1;exact⟨ops[k],by simp [hk]⟩
   obtain⟨a,ha,ea⟩:=List.getElem_of_mem (hin i oi hoi h2);obtain⟨b,hb',eb⟩:=List.getElem_of_mem (show j∈alU h ops p.1 from hj)
   rcases Nat.lt_trichotomy a b with hlt|heq|hlt
   ·have:=List.pairwise_iff_getElem.1 hp a b ha hb' hlt
    rw [ea,eb]at this;exact .inr (.inr this)
   ·subst heq
    exact .inl (eb.symm.trans ea)
   ·have:=List.pairwise_iff_getElem.1 hp b a hb' ha hlt
    rw [ea,eb]at this;exact .inr (.inl this)
  ·have:=aET.1 h5 j (List.mem_range.2 (Array.getElem?_eq_some_iff.1 hoj).1)
   rw [hoj]at this;simp only [Bool.or_eq_true,Bool.not_eq_true']at this;rcases this with h6|h6
   ·have:(oj.looksAt ops).contains p.1=true:=by simpa using hl
    rw [h6]at this;cases this
   ·exact⟨oj,hoj,h6⟩
 obtain⟨y,tk⟩:=p
 have wholeC:mvC ops oi y=true->tk.isPart=false->∃oi,MOK1 (isA h ops) ops n i (y,tk) oi\/MOKA (isA h ops) (isB h ops) ops n i (y,tk) oi:=by
  intro hm htk;unfold mvC at hm;rw [bAE,bAE]at hm;have h1:y∈oi.looksAt ops:=by simpa using hm.1.1
  exact⟨oi,.inl ⟨hoi,hna,h1,fun _ j oj hoj hyj=>UI hq.back hm.2 hoi h1 hoj hyj,hnx,(fun c hc=>by have hc:tk= .part c:=hc;rw [hc]at htk;cases htk),.inr ⟨htk,CI hm.1.2⟩⟩⟩
 have B8:mvB ops oi y=true\/mvR ops oi y=true->tk.isPart=false->∃oi,MOK1 (isA h ops) ops n i (y,tk) oi\/MOKA (isA h ops) (isB h ops) ops n i (y,tk) oi:=by
  intro hm htk
  obtain⟨h1,h2,h3⟩:(oi.looksAt ops).contains y=true/\X3 ops y=true/\((∃e∈oi.after,Region.binds .any e=true/\AX ops e.on=some y)\/(tk.isPart=false/\∀j,AX ops j≠some y)):=by
   rcases hm with hm|hm
   ·unfold mvB at hm
    rw [bAE,bAE]at hm;exact⟨hm.1.1,hm.1.2,.inl (Hn hm.2)⟩
   ·unfold mvR at hm
    rw [bAE,bAE]at hm;exact⟨hm.1.1,hm.1.2,.inr ⟨htk,CI hm.2⟩⟩
  have h1:y∈oi.looksAt ops:=by simpa using h1
  refine⟨oi,.inl ⟨hoi,hna,h1,fun _ j oj hoj hyj=>.inl ?_,hnx,(fun c hc=>by have hc:tk= .part c:=hc;rw [hc]at htk;cases htk),h3⟩⟩
  unfold X3 at h2;have h2:=of_decide_eq_true h2
  have hin: ∀k ok,ops[k]? =some ok->y∈ok.looksAt ops->k∈(List.range ops.size).filter fun j=>match ops[j]? with
    |some o=>(o.looksAt ops).contains y
    |none=>false:=by
   intro k ok hk hyk;rw [List.mem_filter,List.mem_range];refine⟨(Array.getElem?_eq_some_iff.1 hk).1,?_⟩;rw [hk];simpa using hyk
  exact le_one h2 (hin j oj hoj hyj) (hin i oi hoi h1)
 unfold Jd at hm;cases tk with
 |all=>exact B8 (.inl hm) rfl
 |put v=>
  have hm:(mvB ops oi y||mvR ops oi y||mvC ops oi y)=true:=hm;rw [Bool.or_eq_true,Bool.or_eq_true]at hm;exact hm.elim (fun h=>B8 h rfl) fun h=>wholeC h rfl
 |part c=>
  have hm:exB ops oi y c=true:=hm;unfold exB at hm;rw [bAE,bAE]at hm;obtain⟨⟨h1,h2⟩,h3⟩:=hm;have h1:y∈oi.looksAt ops:=by simpa using h1
  refine⟨oi,.inl ⟨hoi,hna,h1,(fun hc=>by cases hc),(fun hc=>by cases hc),fun c0 hc j oj hj hoj hyj=>?_,.inl (Hn h3)⟩⟩
  cases hc;have hown:=aET.1 h2 i (List.mem_range.2 (Array.getElem?_eq_some_iff.1 hoi).1);have:=aET.1 h2 j (List.mem_range.2 (Array.getElem?_eq_some_iff.1 hoj).1);rw [hoj]at this;simp only [Bool.or_eq_true,Bool.not_eq_true',bAE]at this;rcases this with h4|⟨h4,h5⟩
  ·have hyj:y∈oj.looksAt ops:=hyj
   have:(oj.looksAt ops).contains y=true:=by simpa using hyj
   rw [h4]at this;cases this
  ·refine⟨by simpa using h4,?_⟩
   split at h5
   case h_2=>cases h5
   rename_i y' c' hop;simp only [bAE,Bool.or_eq_true,Bool.not_eq_true',beq_iff_eq]at h5;obtain⟨h6,h7⟩:=h5;have h6:=bqE h6;subst h6;refine⟨c',hop,fun hji hcc=>?_⟩
   rcases h7 with h7|h7
   ·rw [hcc,Nat.beq_refl]at h7;cases h7
   ·cases hdi:oi.dst with
    |some d=>exact(hq.ne i j d oj hi hj (Ne.symm hji) (hdo.trans hdi) hoj).1 (h7.trans hdi)
    |none=>
     rcases hst i hi oi hoi with⟨_,⟨d,hd,_⟩|⟨_,_,hne,_⟩|⟨_,_,_,_,_,he⟩⟩|⟨_,d,hd,_⟩
     ·rw [hdi]at hd;cases hd
     rotate_left
     ·rw [he]at hp;cases hp
     ·rw [hdi]at hd;cases hd
     ·rw [hoi]at hown
      simp only [Bool.or_eq_true,Bool.not_eq_true',bAE]at hown;rcases hown with h8|⟨_,h8⟩
      ·have:(oi.looksAt ops).contains y'=true:=by simpa using h1
       rw [h8]at this;cases this
      ·split at h8
       ·rename_i hop';rw [hop']at hne;cases hne
       ·cases h8
def apS(S:Nat->Bool)(m:Nat->List (Nat×Tk))(x:Nat)(v:V):Nat->V
 |0=>v
 |n+1=>if S n=true then H8 (Bj (m n) x) (apS S m x v n)else apS S m x v n
theorem H6{S:Nat->Bool}{m:Nat->List (Nat×Tk)}{x:Nat}{v:V}: ∀n,(∀i,i<n->S i=true->Bj (m i) x=none)->apS S m x v n=v
 |0,_=>rfl
 |n+1,h=>by
  unfold apS;rw [H6 n fun i hi=>h i (by omega)]
  split
  ·rename_i hs;rw [h n (by omega) hs];rfl
  ·rfl
theorem Cv{S S':Nat->Bool}{m:Nat->List (Nat×Tk)}{x:Nat}{v:V}: ∀n,(∀i,i<n->S i=S' i)->apS S m x v n=apS S' m x v n
 |0,_=>rfl
 |n+1,h=>by
  unfold apS;rw [Cv n fun i hi=>h i (by omega),h n (by omega)]
theorem J2{S S':Nat->Bool}{m:Nat->List (Nat×Tk)}{x j:Nat}{v:V}(h1:S j=false)(h2:S' j=true)(h3: ∀i,i≠j->S' i=S i): ∀n,(∀i,i<n->j<i->S i=true->∀u,H8 (Bj (m i) x) (H8 (Bj (m j) x) u)=H8 (Bj (m j) x) (H8 (Bj (m i) x) u))->j<n->apS S' m x v n=H8 (Bj (m j) x) (apS S m x v n)
 |0,_,h=>by omega
 |n+1,hc,h=>by
  unfold apS;by_cases hj:j=n
  ·subst hj
   rw [if_pos h2,h1,Cv (S:=S') (S':=S) j fun i hi=>h3 i (by omega)]
   simp
  ·rw [J2 h1 h2 h3 n (fun i hi=>hc i (by omega)) (by omega),h3 n (Ne.symm hj)]
   split
   ·rename_i hs
    exact hc n (by omega) (by omega) hs _
   ·rfl
def EqC(c:Nat)(v v':V):Prop:=v=v'\/∃tg n f g,v= .many tg n f/\v'= .many tg n g/\f c=g c
theorem EqC.symm{c:Nat}{v v':V}(h:EqC c v v'):EqC c v' v:=by
 rcases h with rfl|⟨tg,n,f,g,h1,h2,h3⟩
 ·exact .inl rfl
 ·exact .inr ⟨tg,n,g,f,h2,h1,h3.symm⟩
theorem EqC.trans{c:Nat}{v v' v'':V}(h:EqC c v v')(h':EqC c v' v''):EqC c v v'':=by
 rcases h with rfl|⟨tg,n,f,g,h1,h2,h3⟩
 ·exact h'
 ·rcases h' with rfl|⟨tg',n',f',g',h1',h2',h3'⟩
  ·exact .inr ⟨tg,n,f,g,h1,h2,h3⟩
  ·rw [h2]at h1'
   cases h1';exact .inr ⟨tg,n,f,g',h1,h2',h3.trans h3'⟩
theorem EqC.kill{c c':Nat}(h:c'≠c)(v:V):EqC c v (NN c' v):=by
 cases v<;>try exact .inl rfl
 exact .inr ⟨_,_,_,_,rfl,rfl,by rw [if_neg (Ne.symm h)]⟩
theorem W4{S:Nat->Bool}{m:Nat->List (Nat×Tk)}{x c:Nat}{v:V}: ∀n,(∀i,i<n->S i=true->∀tk,Bj (m i) x=some tk->∃c',tk= .part c'/\c'≠c)->EqC c v (apS S m x v n)
 |0,_=>.inl rfl
 |n+1,h=>by
  have ih:=W4 (S:=S) (m:=m) (x:=x) (c:=c) (v:=v) n fun i hi=>h i (by omega)
  unfold apS;split
  ·rename_i hs
   cases hl:Bj (m n) x with
   |none=>exact ih
   |some tk=>
    obtain⟨c',rfl,hc⟩:=h n (by omega) hs tk hl
    exact ih.trans (EqC.kill hc _)
  ·exact ih
def CH(ops:Array Oper)(n x:Nat):Option Nat:=(List.range n).find? fun i=>AX ops i==some x
theorem Bi{ops:Array Oper}{n x i:Nat}(h:CH ops n x=some i):i<n/\AX ops i=some x:=by
 unfold CH at h;have h1:=List.find?_some h;have h2:=List.mem_of_find?_eq_some h;exact⟨List.mem_range.1 h2,by simpa using h1⟩
theorem KJ{ops:Array Oper}{n x:Nat}(h:CH ops n x=none): ∀i,i<n->AX ops i≠some x:=by
 unfold CH at h;intro i hi he;have:=List.find?_eq_none.1 h i (List.mem_range.2 hi);simp [he]at this
theorem LU{ops:Array Oper}{n x i:Nat}(hq:QOK ops n)(hi:i<n)(h:AX ops i=some x):CH ops n x=some i:=by
 cases ho:CH ops n x with
 |none=>exact absurd h (KJ ho i hi)
 |some j=>
  obtain⟨hj,hdj⟩:=Bi ho;by_cases he:j=i
  ·rw [he]
  ·obtain⟨oi,hoi,_⟩:=hq.dst i hi
   have:=(hq.ne j i x oi hj hi he hdj hoi).1;simp [AX,hoi]at h;exact absurd h this
theorem Do{ops:Array Oper}{n:Nat}{m:Nat->List (Nat×Tk)}{A:Nat->Prop}{B:Nat->Nat->Prop}(hq:QOK ops n)(hm:MOK A B ops n m){x i:Nat}{tk:Tk}(hi:i<n)(h:Bj (m i) x=some tk):CH ops n x=none\/∃k,CH ops n x=some k/\k<i/\∃oi,ops[i]? =some oi/\∃e∈oi.after,Region.binds .any e=true/\e.on=k:=by
 obtain⟨oi,ho⟩:=hm i hi _ (CJ h);rcases ho with ho|ho
 rotate_left
 ·left
  cases hw:CH ops n x with
  |none=>rfl
  |some k=>exact absurd (Bi hw).2 (ho.nd k)
 rcases ho.edge with⟨e,he,hb,hd⟩|⟨_,hnd⟩
 rotate_left
 ·left
  cases ho:CH ops n x with
  |none=>rfl
  |some k=>exact absurd (Bi ho).2 (hnd k)
 right;have hlt:=hq.back i oi e ho.at_ he hb;exact⟨e.on,LU hq (by omega) hd,hlt,oi,ho.at_,e,he,hb,rfl⟩
theorem P3{ops:Array Oper}{n:Nat}{m:Nat->List (Nat×Tk)}{A:Nat->Prop}{B:Nat->Nat->Prop}(hm:MOK A B ops n m){x i j:Nat}(hi:i<n)(hj:j<n)(hij:i≠j)(h1: ¬WS ops i j)(h2: ¬WS ops j i)(u:V):H8 (Bj (m i) x) (H8 (Bj (m j) x) u)=H8 (Bj (m j) x) (H8 (Bj (m i) x) u):=by
 refine Wm _ _ _ fun a b ha hb=>?_
 obtain⟨oi,mi⟩:=hm i hi _ (CJ ha);obtain⟨oj,mj⟩:=hm j hj _ (CJ hb);rcases mi with mi|mi
 rotate_left
 ·rcases mj with mj|mj
  ·exact absurd (mi.look j oj mj.at_ mj.looks) mj.na
  ·rcases mi.one j mj.us with h3|h3|h3<;>first|exact absurd h3.symm hij|exact absurd h3 h1|exact absurd h3 h2
 rcases mj with mj|mj
 rotate_left
 ·exact absurd (mj.look i oi mi.at_ mi.looks) mi.na
 refine⟨?_,?_⟩
 ·cases h:a.isPart with
  |true=>rfl
  |false=>rcases mi.one h j oj mj.at_ mj.looks with h3|h3|h3<;>first|exact absurd h3.symm hij|exact absurd h3 h1|exact absurd h3 h2
 ·cases h:b.isPart with
  |true=>rfl
  |false=>rcases mj.one h i oi mi.at_ mi.looks with h3|h3|h3<;>first|exact absurd h3 hij|exact absurd h3 h1|exact absurd h3 h2
def pt(ops:Array Oper)(n:Nat)(r:Nat->V)(m:Nat->List (Nat×Tk))(t0:Nat->V)(listed:Array Bool)(x:Nat):V:=
 match CH ops n x with
 |some k=>if listed.getD k false then apS (fun i=>listed.getD i false) m x (r k) n else .dead
 |none=>apS (fun i=>listed.getD i false) m x (t0 x) n
theorem Hx{ops:Array Oper}{n:Nat}{m:Nat->List (Nat×Tk)}{A:Nat->Prop}{B:Nat->Nat->Prop}(hq:QOK ops n)(hm:MOK A B ops n m)(r t0:Nat->V)(x:Nat): ∀j,j<=n->CT ops r m t0 j x=match CH ops n x with
  |some k=>if k<j then apS (fun i=>decide (i<j)) m x (r k) n else t0 x
  |none=>apS (fun i=>decide (i<j)) m x (t0 x) n:=by
 intro j
 induction j with
 |zero=>
  intro _;cases CH ops n x with
  |none=>exact(H6 n fun i _ hs=>by simp at hs).symm
  |some k=>simp [CT]
 |succ j ih=>
  intro hj;obtain⟨oj,hoj,_⟩:=hq.dst j (by omega)
  have hdo:AX ops j=oj.dst:=by simp [AX,hoj]
  have other:AX ops j≠some x->CT ops r m t0 (j+1) x=match CH ops n x with
    |some k=>if k<j+1 then apS (fun i=>decide (i<j+1)) m x (r k) n else t0 x
    |none=>apS (fun i=>decide (i<j+1)) m x (t0 x) n:=by
   intro hx
   have e:CT ops r m t0 (j+1) x=AU (m j) (CT ops r m t0 j) x:=by
    show ID (AX ops j) (r j) (AU (m j) (CT ops r m t0 j)) x=_;cases hd:AX ops j with
    |none=>rfl
    |some d=>
     show AV _ d _ x=_;unfold AV;rw [if_neg]
     rintro rfl
     exact hx hd
   rw [e];unfold AU;rw [ih (by omega)]
   cases ho:CH ops n x with
   |none=>
    exact(J2 (by simp) (by simp) (fun i hi=>by
      simp only [decide_eq_decide];omega) n (fun i _ hij hs=>absurd (of_decide_eq_true hs) (by omega)) (by omega)).symm
   |some k=>
    have hkj:k≠j:=by
     rintro rfl
     exact hx (Bi ho).2
    simp only;by_cases hlt:k<j
    ·rw [if_pos hlt,if_pos (by omega)]
     exact(J2 (by simp) (by simp) (fun i hi=>by
      simp only [decide_eq_decide];omega) n (fun i _ hij hs=>absurd (of_decide_eq_true hs) (by omega)) (by omega)).symm
    ·rw [if_neg hlt,if_neg (by omega)]
     cases hl:Bj (m j) x with
     |none=>rfl
     |some tk=>
      rcases Do hq hm (by omega:j<n) hl with hk'|⟨k',hk',hkj',_⟩
      ·rw [ho]at hk';cases hk'
      ·rw [ho]at hk';cases hk';omega
  by_cases hx:AX ops j=some x
  ·have ho:=LU hq (by omega:j<n) hx
   have e:CT ops r m t0 (j+1) x=r j:=by
    show ID (AX ops j) (r j) (AU (m j) (CT ops r m t0 j)) x=_;rw [hx];show AV _ x _ x=_;unfold AV;rw [if_pos rfl]
   rw [e,ho];simp only [Nat.lt_succ_self,if_true];refine(H6 n fun i hi hs=>?_).symm
   cases hl:Bj (m i) x with
   |none=>rfl
   |some tk=>
    rcases Do hq hm hi hl with hk|⟨k,hk,hki,_⟩
    ·rw [ho]at hk;cases hk
    rw [ho]at hk;cases hk;have:=of_decide_eq_true hs;omega
  ·exact other hx
theorem PR.ev{C:Ctx}{N:Nat}{σ:List V}{ρ:Nat->Value}{F:Nat->Nat->Prop}{t:Nat->V}{a:Act}{w:World}{D:Nat->Prop}{T:Nat->Nat->Prop}(h:PR C N σ ρ F t a w D T)(x:Operand):OpR σ w D ρ F (Ms.ev ⟨t,σ⟩ x) (a.eval x):=by
 have plain: ∀v cv,Rel D w (An σ ρ w) v cv noF->OpR σ w D ρ F v cv:=fun v cv hr=>⟨noF,hr,fun _ h=>h.elim,fun _ _ _ h=>h⟩
 cases x with
 |tmp y=>
  by_cases hy:y<N
  ·exact⟨T y,h.tm y hy,h.tD y,fun i b hb=>h.tF i y b hb⟩
  ·refine plain _ _ ?_
   show Rel D w _ (t y) _ noF;rw [h.dd y (Nat.le_of_not_lt hy)];exact fun _ h=>h
 |const v=>exact plain _ _ (Iy v)
 |global g=>exact plain _ _ ⟨rfl,rfl,fun _ h=>h⟩
 |func f=>exact plain _ _ O9
theorem PR.gvN{C:Ctx}{N:Nat}{σ:List V}{ρ:Nat->Value}{F:Nat->Nat->Prop}{t:Nat->V}{a:Act}{w:World}{D:Nat->Prop}{T:Nat->Nat->Prop}(h:PR C N σ ρ F t a w D T){ops:Array Oper}{j:Nat}(hg:Go.Ve.gv t ops j=udV):yielded ops a.tmps j=none:=by
 unfold Go.Ve.gv at hg;split at hg
 ·rename_i d hd
  have hlt:d<N:=by
   rcases Nat.lt_or_ge d N with h'|h'
   ·exact h'
   ·rw [h.dd d h']at hg;cases hg
  have h1:=h.tm d hlt;rw [hg]at h1;obtain⟨cs,_,hcv,_⟩:=h1;have hcv:a.tmps.getD d undef= .tuple cs:=hcv;have h2:d<a.tmps.size:=by rw [h.sz];exact hlt
  have h3:a.tmps[d]? =some (.tuple cs):=by
   simp [h2]at hcv⊢;exact hcv
  unfold yielded;rw [hd];simp [h3]
 ·cases hg
theorem PR.gv{C:Ctx}{N:Nat}{σ:List V}{ρ:Nat->Value}{F:Nat->Nat->Prop}{t:Nat->V}{a:Act}{w:World}{D:Nat->Prop}{T:Nat->Nat->Prop}(h:PR C N σ ρ F t a w D T){ops:Array Oper}{j:Nat}{b:Bool}(hg:Go.Ve.gv t ops j= .c (.bool b)):yielded ops a.tmps j=some b:=by
 unfold Go.Ve.gv at hg;split at hg
 ·rename_i d hd
  have hlt:d<N:=by
   rcases Nat.lt_or_ge d N with h'|h'
   ·exact h'
   ·rw [h.dd d h']at hg;cases hg
  have h1:=h.tm d hlt;rw [hg]at h1;have h2:d<a.tmps.size:=by rw [h.sz];exact hlt
  have h3:a.tmps[d]? =some (.bool b):=by
   have:=h1.1;simp [h2]at this⊢;exact this
  unfold yielded;rw [hd];simp [h3]
 ·cases hg
theorem PR.put{C:Ctx}{N:Nat}{σ:List V}{ρ:Nat->Value}{F:Nat->Nat->Prop}{t:Nat->V}{a:Act}{w w':World}{D D':Nat->Prop}{T:Nat->Nat->Prop}(h:PR C N σ ρ F t a w D T){r:V}{v':Value}{fp:Nat->Prop}{d:Nat}(hB:Below w.heap.size w w')(hr:Rel D' w' (An σ ρ w') r v' fp)
  (hf: ∀b,fp b->w.heap.size<=b) (hd1: ∀b,D b->D' b) (hd2: ∀b,D' b->D b\/w.heap.size<=b) (hd3: ∀b,D' b->b<w'.heap.size/\¬fp b) (hdn:d<N):
  PR C N σ ρ F (AV t d r) (a.put (some d) v') w' D' (fun x=>if x=d then fp else T x):=by
 have hFlt: ∀i b,F i b->b<w.heap.size:=h.wr.lt;have hTlt: ∀x b,T x b->b<w.heap.size:=by
  intro x b hb;by_cases hx:x<N
  ·exact Rel.lt _ _ _ (h.tm x hx) b hb
  ·exact absurd hb (h.tx x b (Nat.le_of_not_lt hx))
 have wr':Bt σ w' D' ρ F:=by
  have h1:=h.wr.below hB;refine⟨fun i hi=>Rel.mono hd1 (fun _ _ h=>h) _ _ _ (fun _ _=>rfl) (h1.rel i hi),h1.disj,fun i b hb hD=>?_,fun b hb=>(hd3 b hb).1,h1.out⟩
  rcases hd2 b hD with h2|h2
  ·exact h1.dD i b hb h2
  ·have:=hFlt i b hb;omega
 refine⟨h.df,by rw [BW];simpa using h.sz,fun x hx=>?_,wr',fun x hx=>?_,fun x b hb=>?_,fun i x b hb hT=>?_,fun x y b hxy h1 h2=>?_,fun x b hb=>?_,h.fr.below hB,h.Fn,fun b hb=>hd1 b (h.D1 b hb),fun b hb hlt=>?_,h.rt,h.ml,fun x b hx hb=>?_⟩
 ·have: ¬x=d:=by omega
  simp only [AV,this,if_false];exact h.dd x hx
 ·have hlt:x<a.tmps.size:=by rw [h.sz];exact hx
  rw [BW];by_cases he:x=d
  ·subst he
   simp only [AV,if_true];simpa [hlt]using hr
  ·simp only [AV,he,if_false]
   rw [Array.getD_eq_getD_getElem?,Array.getElem?_setIfInBounds_ne (Ne.symm he),<-Array.getD_eq_getD_getElem?];refine Rel.mono hd1 (fun v cv hv=>An.same h.wr (fun i b hb=>hB.block b (hFlt i b hb)) v cv hv) _ _ _ (fun b hb=>hB.block b ?_) (h.tm x hx)
   exact hb.elim (h.wr.Dlt b) (hTlt x b)
 ·split at hb
  ·exact fun hD=>(hd3 b hD).2 hb
  ·intro hD
   rcases hd2 b hD with h2|h2
   ·exact h.tD x b hb h2
   ·have:=hTlt x b hb;omega
 ·split at hT
  ·have:=hFlt i b hb;have:=hf b hT;omega
  ·exact h.tF i x b hb hT
 ·split at h1<;>split at h2
  ·omega
  ·have:=hf b h1;have:=hTlt y b h2;omega
  ·have:=hf b h2;have:=hTlt x b h1;omega
  ·exact h.tT x y b hxy h1 h2
 ·split at hb
  ·exact .inr (Nat.le_trans h.fr.size (hf b hb))
  ·exact h.tn x b hb
 ·rcases hd2 b hb with h2|h2
  ·exact h.D2 b h2 hlt
  ·have:=h.fr.size;omega
 ·have: ¬x=d:=by omega
  simp only [this,if_false]at hb;exact h.tx x b hx hb
theorem PR.move{C:Ctx}{N:Nat}{σ:List V}{ρ:Nat->Value}{F:Nat->Nat->Prop}{t:Nat->V}{a:Act}{w w':World}{D D':Nat->Prop}{T:Nat->Nat->Prop}(h:PR C N σ ρ F t a w D T){r:V}{v':Value}{fp:Nat->Prop}{d:Nat}{t1:Nat->V}{T1:Nat->Nat->Prop}(g1: ∀x,x<N->Rel D w (An σ ρ w) (t1 x) (a.tmps.getD x undef) (T1 x))(g2: ∀x b,T1 x b->T x b)(g3: ∀x,N<=x->t1 x= .dead)(hB:Below w.heap.size w w')(hr:Rel D' w' (An σ ρ w') r v' fp)
  (hf: ∀b,fp b->(∃y,T y b/\∀x,¬T1 x b)\/w.heap.size<=b) (hd1: ∀b,D b->D' b) (hd2: ∀b,D' b->D b\/w.heap.size<=b) (hd3: ∀b,D' b->b<w'.heap.size/\¬fp b) (hdn:d<N):
  PR C N σ ρ F (AV t1 d r) (a.put (some d) v') w' D' (fun x=>if x=d then fp else T1 x):=by
 have hFlt: ∀i b,F i b->b<w.heap.size:=h.wr.lt;have hTlt: ∀x b,T x b->b<w.heap.size:=by
  intro x b hb;by_cases hx:x<N
  ·exact Rel.lt _ _ _ (h.tm x hx) b hb
  ·exact absurd hb (h.tx x b (Nat.le_of_not_lt hx))
 have wr':Bt σ w' D' ρ F:=by
  have h1:=h.wr.below hB;refine⟨fun i hi=>Rel.mono hd1 (fun _ _ h=>h) _ _ _ (fun _ _=>rfl) (h1.rel i hi),h1.disj,fun i b hb hD=>?_,fun b hb=>(hd3 b hb).1,h1.out⟩
  rcases hd2 b hD with h2|h2
  ·exact h1.dD i b hb h2
  ·have:=hFlt i b hb;omega
 refine⟨h.df,by rw [BW];simpa using h.sz,fun x hx=>?_,wr',fun x hx=>?_,fun x b hb=>?_,fun i x b hb hT=>?_,fun x y b hxy h1 h2=>?_,fun x b hb=>?_,h.fr.below hB,h.Fn,fun b hb=>hd1 b (h.D1 b hb),fun b hb hlt=>?_,h.rt,h.ml,fun x b hx hb=>?_⟩
 ·have: ¬x=d:=by omega
  simp only [AV,this,if_false];exact g3 x hx
 ·have hlt:x<a.tmps.size:=by rw [h.sz];exact hx
  rw [BW];by_cases he:x=d
  ·subst he
   simp only [AV,if_true];simpa [hlt]using hr
  ·simp only [AV,he,if_false]
   rw [Array.getD_eq_getD_getElem?,Array.getElem?_setIfInBounds_ne (Ne.symm he),<-Array.getD_eq_getD_getElem?];refine Rel.mono hd1 (fun v cv hv=>An.same h.wr (fun i b hb=>hB.block b (hFlt i b hb)) v cv hv) _ _ _ (fun b hb=>hB.block b ?_) (g1 x hx)
   exact hb.elim (h.wr.Dlt b) fun h'=>hTlt x b (g2 x b h')
 ·split at hb
  ·exact fun hD=>(hd3 b hD).2 hb
  ·intro hD
   rcases hd2 b hD with h2|h2
   ·exact h.tD x b (g2 x b hb) h2
   ·have:=hTlt x b (g2 x b hb);omega
 ·split at hT
  ·rcases hf b hT with⟨y,hy,_⟩|h2
   ·exact h.tF i y b hb hy
   ·have:=hFlt i b hb;omega
  ·exact h.tF i x b hb (g2 x b hT)
 ·have one: ∀x,fp b->T1 x b->False:=by
   intro x h3 h4;rcases hf b h3 with⟨z,_,h5⟩|h5
   ·exact h5 x h4
   ·have:=hTlt x b (g2 x b h4);omega
  split at h1<;>split at h2
  ·omega
  ·exact one y h1 h2
  ·exact one x h2 h1
  ·exact h.tT x y b hxy (g2 x b h1) (g2 y b h2)
 ·split at hb
  ·rcases hf b hb with⟨y,hy,_⟩|h2
   ·exact h.tn y b hy
   ·exact .inr (Nat.le_trans h.fr.size h2)
  ·exact h.tn x b (g2 x b hb)
 ·rcases hd2 b hb with h2|h2
  ·exact h.D2 b h2 hlt
  ·have:=h.fr.size;omega
 ·have: ¬x=d:=by omega
  simp only [this,if_false]at hb;exact h.tx x b hx (g2 x b hb)
end Go.Ve


namespace Go.Ve
theorem Below.drew(w:World):Below w.heap.size w {w with drawn:=w.drawn+1}:=
 ⟨rfl,rfl,rfl,Nat.le_refl _,fun _ _=>rfl,Nat.le_succ _⟩
theorem BJ{a:Act}{dst:Option Nat}{u:Value}{x:Nat}(h:dst≠some x):(a.put dst u).tmps[x]? =a.tmps[x]?:=by
 cases dst with
 |none=>rfl
 |some e=>
  show(a.tmps.setIfInBounds e u)[x]? =_;exact Array.getElem?_setIfInBounds_ne fun e'=>h (by rw [e'])
section
def AaE(ops:Array Oper)(n:Nat)(X:Nat->Prop)(x:Nat):Prop:=(∃i,i<n/\AX ops i=some x)\/X x
variable {X A:Nat->Prop} {B:Nat->Nat->Prop} {P:Program} {C:Ctx} {h:CC} {ops:Array Oper} {σ:List V} {ρ:Nat->Value} {F:Nat->Nat->Prop} {t0 r:Nat->V} {m:Nat->List (Nat×Tk)} {n:Nat}
theorem pt_set(hq:QOK ops n)(hm:MOK A B ops n m){listed:Array Bool}(inv:HeadInv .any ops n listed){i:Nat}(hi:i<n)(hr:i∈Region.ready .any ops listed):
  pt ops n r m t0 (listed.setIfInBounds i true)=ID (AX ops i) (r i) (AU (m i) (pt ops n r m t0 listed)):=by
 have hl:=inv.size;have hii:i<listed.size:=by rw [hl];exact Nat.lt_of_lt_of_le hi hq.le
 obtain⟨hun,o2,ho2,hall⟩:=mem_ready.1 hr;have hun:=getD_both hun;have eI:(listed.setIfInBounds i true).getD i false=true:=by simp [hii]
 funext x
 by_cases hx:AX ops i=some x
 ·have e:ID (AX ops i) (r i) (AU (m i) (pt ops n r m t0 listed)) x=r i:=by
   rw [hx];show AV _ x _ x=_;unfold AV;rw [if_pos rfl]
  rw [e];have ho:=LU hq hi hx;unfold pt;rw [ho];simp only;rw [if_pos eI];refine H6 n fun j hj hs=>?_
  cases hc:Bj (m j) x with
  |none=>rfl
  |some tk=>
   rcases Do hq hm hj hc with hk|⟨k,hk,hkj,oj,hoj,e,he,hb,hon⟩
   ·rw [ho]at hk;cases hk
   rw [ho]at hk;cases hk;rw [getD_set_ne false (by omega)]at hs
   have:=inv.closed j oj hoj hs e he hb;rw [hon,hun]at this;cases this
 ·have e:ID (AX ops i) (r i) (AU (m i) (pt ops n r m t0 listed)) x=AU (m i) (pt ops n r m t0 listed) x:=by
   cases hd:AX ops i with
   |none=>rfl
   |some d=>
    show AV _ d _ x=_;unfold AV;rw [if_neg]
    rintro rfl
    exact hx hd
  rw [e];unfold AU pt;cases ho:CH ops n x with
  |none=>
   exact J2 (S:=fun i=>listed.getD i false) hun eI (fun j hj=>getD_set_ne false (Ne.symm hj)) n (fun j hj hij hs u=>P3 hm hj hi (by omega) (fun h=>by have:=h.listed inv.closed hs;rw [hun]at this;cases this) (fun h=>absurd h.1 (by omega)) u) hi
  |some k=>
   have hne:i≠k:=by
    rintro rfl
    exact hx (Bi ho).2
   simp only;rw [getD_set_ne false hne];by_cases hlk:listed.getD k false=true
   ·rw [if_pos hlk,if_pos hlk]
    exact J2 (S:=fun i=>listed.getD i false) hun eI (fun j hj=>getD_set_ne false (Ne.symm hj)) n (fun j hj hij hs u=>P3 hm hj hi (by omega) (fun h=>by have:=h.listed inv.closed hs;rw [hun]at this;cases this) (fun h=>absurd h.1 (by omega)) u) hi
   ·rw [if_neg hlk,if_neg hlk]
    cases hc:Bj (m i) x with
    |none=>rfl
    |some tk=>
     rcases Do hq hm hi hc with hk'|⟨k',hk',hki,oi,hoi,e,he,hb,hon⟩
     ·rw [ho]at hk';cases hk'
     rw [ho]at hk';cases hk';obtain rfl:oi=o2:=Option.some.inj (hoi.symm.trans ho2);have:=hall e he hb;rw [hon]at this;exact absurd this hlk
theorem D6{S S':Nat->Bool}{x:Nat}{v:V}: ∀n,(∀i,i<n->Bj (m i) x≠none->S i=S' i)->apS S m x v n=apS S' m x v n
 |0,_=>rfl
 |n+1,h=>by
  unfold apS;rw [D6 n fun i hi=>h i (by omega)]
  cases hl:Bj (m n) x with
  |none=>
   have: ∀b:Bool,(if b=true then H8 none (apS S' m x v n)else apS S' m x v n)=apS S' m x v n:=by
    intro b;cases b<;>rfl
   rw [this,this]
  |some tk=>rw [h n (by omega) (by rw [hl];simp)]
theorem W8(hq:QOK ops n)(hm:MOK A B ops n m){listed:Array Bool}(inv:HeadInv .any ops n listed){i:Nat}{oi:Oper}(hoi:ops[i]? =some oi)(hi:i<n)(hr:i∈Region.ready .any ops listed)(hna: ¬A i){x:Nat}(hx:x∈oi.looksAt ops):
  CT ops r m t0 i x=pt ops n r m t0 listed x\/(oi.guard=none/\∃c,oi.op= .extract (.tmp x) c/\EqC c (CT ops r m t0 i x) (pt ops n r m t0 listed x)):=by
 rw [Hx hq hm r t0 x i (Nat.le_of_lt hi)];unfold pt
 have hm1: ∀j,j<n->∀tk,Bj (m j) x=some tk->∃oj,MOK1 A ops n j (x,tk) oj:=by
  intro j hj tk hl;obtain⟨oj,ok|ok⟩:=hm j hj _ (CJ hl)
  ·exact⟨oj,ok⟩
  ·exact absurd (ok.look i oi hoi hx) hna
 have one: ∀j,j<n->∀tk,Bj (m j) x=some tk->tk.isPart=false->decide (j<i)=listed.getD j false:=by
  intro j hj tk hl htk;obtain⟨oj,ok⟩:=hm1 j hj _ hl;obtain⟨hun,o2,ho2,hall⟩:=mem_ready.1 hr;have hun:=getD_both hun;rcases ok.one htk i oi hoi hx with h|h|h
  ·subst h
   rw [hun];simp
  ·have h1:=h.1
   have:listed.getD j false=false:=by
    cases hb:listed.getD j false with
    |false=>rfl
    |true=>have:=h.listed inv.closed hb;rw [hun]at this;cases this
   rw [this];exact dF (by omega)
  ·rw [h.2 listed inv.closed fun oi' hoi' e he hb=>by
    obtain rfl:oi'=o2:=Option.some.inj (hoi'.symm.trans ho2);exact hall e he hb]
   exact dT h.1
 cases ho:CH ops n x with
 |none=>
  left;refine D6 n fun j hj hl=>?_
  cases hlj:Bj (m j) x with
  |none=>exact absurd hlj hl
  |some tk=>
   obtain⟨oj,ok⟩:=hm1 j hj _ hlj;rcases ok.edge with⟨e,he,hb,hd⟩|⟨htk,_⟩
   ·have hlt:=hq.back j oj e ok.at_ he hb
    exact absurd hd (KJ ho e.on (by omega))
   ·exact one j hj tk hlj htk
 |some k=>
  obtain⟨hk,hdk⟩:=Bi ho;obtain⟨oi',hoi',hnl⟩:=hq.dst i hi;obtain rfl:oi'=oi:=Option.some.inj (hoi'.symm.trans hoi);have hne:k≠i:=by
   rintro rfl
   have:oi'.dst=some x:=by simpa [AX,hoi]using hdk
   exact hnl x this hx
  obtain⟨e,he,hb,hon⟩:=(hq.ne k i x oi' hk hi hne hdk hoi).2 hx;obtain⟨hun,o2,ho2,hall⟩:=mem_ready.1 hr;obtain rfl:o2=oi':=Option.some.inj (ho2.symm.trans hoi);have h1:=hall e he hb;rw [hon]at h1;have h2:=hq.back i o2 e hoi he hb;rw [hon]at h2;simp only [h1,h2,if_true];have hun:=getD_both hun;by_cases hex: ∃j c,j<n/\Bj (m j) x=some (.part c)
  ·obtain⟨j,c,hj,hl⟩:=hex
   obtain⟨oj,ok⟩:=hm1 j hj _ hl;obtain⟨hg,c',hop,_⟩:=ok.part c rfl i o2 hi hoi hx;right;refine⟨hg,c',hop,?_⟩
   have side: ∀S:Nat->Bool,S i=false->EqC c' (r k) (apS S m x (r k) n):=by
    intro S hSi;refine W4 n fun j' hj' hs tk hl'=>?_
    obtain⟨oj',ok'⟩:=hm1 j' hj' _ hl';cases htk:tk.isPart with
    |false=>
     obtain⟨_,c3,hop3,_⟩:=ok.part c rfl j' oj' hj' ok'.at_ ok'.looks;exact absurd hop3 (ok'.nx htk _ _)
    |true=>
     cases tk<;>first|cases htk|skip
     rename_i c2;obtain⟨_,c3,hop3,hne3⟩:=ok'.part c2 rfl i o2 hi hoi hx;rw [hop]at hop3;cases hop3;refine⟨c2,rfl,fun e=>?_⟩
     have hij:i≠j':=by
      rintro rfl
      rw [hSi]at hs;cases hs
     exact hne3 hij e.symm
   exact(side (fun j=>decide (j<i)) (by simp)).symm.trans (side (fun j=>listed.getD j false) hun)
  ·left
   refine D6 n fun j hj hl=>?_
   cases hlj:Bj (m j) x with
   |none=>exact absurd hlj hl
   |some tk=>
    cases htk:tk.isPart with
    |true=>
     cases tk<;>first|cases htk|skip
     exact absurd ⟨j,_,hj,hlj⟩ hex
    |false=>exact one j hj tk hlj htk
theorem agreeA(hq:QOK ops n)(hm:MOK A B ops n m){listed:Array Bool}(inv:HeadInv .any ops n listed){i:Nat}{oi:Oper}(hi:i<n)(hr:i∈Region.ready .any ops listed){x:Nat}{tk:Tk}(hk:MOKA A B ops n i (x,tk) oi):
  CT ops r m t0 i x=pt ops n r m t0 listed x:=by
 rw [Hx hq hm r t0 x i (Nat.le_of_lt hi)];unfold pt;have hon:CH ops n x=none:=by
  cases hw:CH ops n x with
  |none=>rfl
  |some k=>exact absurd (Bi hw).2 (hk.nd k)
 rw [hon];refine D6 n fun j hj hl=>?_
 cases hlj:Bj (m j) x with
 |none=>exact absurd hlj hl
 |some tk'=>
  obtain⟨hun,o2,ho2,hall⟩:=mem_ready.1 hr;have hun:=getD_both hun;have key:j=i\/WS ops i j\/WS ops j i:=by
   obtain⟨oj,ok|ok⟩:=hm j hj _ (CJ hlj)
   ·exact absurd (hk.look j oj ok.at_ ok.looks) ok.na
   ·exact hk.one j ok.us
  rcases key with h|h|h
  ·subst h
   rw [hun];simp
  ·rw [h.2 listed inv.closed fun oi' hoi' e he hb=>by
    obtain rfl:oi'=o2:=Option.some.inj (hoi'.symm.trans ho2);exact hall e he hb]
   exact dT h.1
  ·have h1:=h.1
   have:listed.getD j false=false:=by
    cases hb:listed.getD j false with
    |false=>rfl
    |true=>have:=h.listed inv.closed hb;rw [hun]at this;cases this
   rw [this];exact dF (by omega)
theorem Mp(hq:QOK ops n)(hm:MOK A B ops n m){listed:Array Bool}(inv:HeadInv .any ops n listed){i:Nat}{oi:Oper}(hoi:ops[i]? =some oi)(hi:i<n)(hr:i∈Region.ready .any ops listed)(hna: ¬A i){x:Nat}(hx:x∈oi.looksAt ops)(hne: ∀y c,oi.op≠.extract y c):
  CT ops r m t0 i x=pt ops n r m t0 listed x:=by
 rcases W8 (r:=r) (t0:=t0) hq hm inv hoi hi hr hna hx with h|⟨_,c,h,_⟩
 ·exact h
 ·exact absurd h (hne _ _)
theorem Nl{c:Nat}{v v':V}{K:V->Prop}(h:EqC c v v')(hq:CA v c K):CA v' c K:=by
 rcases h with rfl|⟨tg,n,f,g,rfl,rfl,h3⟩
 ·exact hq
 ·unfold CA at hq⊢
  cases tg with
  |tu=>simp only at hq⊢;rw [<-h3];exact hq
  |cl g=>exact hq.elim
  |ag=>exact hq.elim
  |bx=>exact hq.elim
theorem PR.skip{T:Nat->Nat->Prop}{D:Nat->Prop}{a:Act}{w:World}{N:Nat}{t:Nat->V}(hp:PR C N σ ρ F t a w D T){d:Nat}(hdn:d<N):
  ∃T',PR C N σ ρ F (AV t d udV) (a.put (some d) undef) w D T'/\∀x b,T' x b->T x b:=
 ⟨_,hp.put (r:=udV) (v':=undef) (fp:=noF) (Below.refl _ _) Rel.ud (fun _ h=>h.elim) (fun _ h=>h) (fun _ h=>.inl h) (fun b hb=>⟨hp.wr.Dlt b hb,fun h=>h⟩) hdn,fun x b hb=>by split at hb;exact hb.elim;exact hb⟩
theorem NQ{Q:Exit->Act->World->Prop}{K:Act->World->Prop}(hq:QOK ops n)(hm:MOK (isA h ops) (isB h ops) ops n m){listed:Array Bool}(inv:HeadInv .any ops n listed){i:Nat}(hi:i<n)(hr:i∈Region.ready .any ops listed)
  (hst: ∀j,j<n->∀o,ops[j]? =some o->Kh P h ops σ o (CT ops r m t0 j) (r j) (m j)) {D:Nat->Prop} {T:Nat->Nat->Prop} {a:Act} {w:World}
  (hp:PR C h.n σ ρ F (pt ops n r m t0 listed) a w D T) (hT: ∀x b,T x b->AaE ops n X x) (hal: ∀oi,ops[i]? =some oi->∀z y,AlP h ops oi z y->a.tmps.getD z undef=a.tmps.getD y undef)
  (hK: ∀a' w' D' T',PR C h.n σ ρ F (pt ops n r m t0 (listed.setIfInBounds i true)) a' w' D' T'->(∀x b,T' x b->AaE ops n X x)->(∀x,AX ops i≠some x->a'.tmps[x]? =a.tmps[x]?)->K a' w'):wpOp P ops Q i K a w:=by
 obtain⟨oi,hoi,hnl⟩:=hq.dst i hi;have hdoi:AX ops i=oi.dst:=by simp [AX,hoi]
 rw [pt_set hq hm inv hi hr,hdoi]at hK
 have hgv: ∀j want,oi.guard=some (j,want)->gv (pt ops n r m t0 listed) ops j=gv (CT ops r m t0 i) ops j:=by
  intro j want hg;unfold gv;split
  ·rename_i x hx
   rcases W8 (r:=r) (t0:=t0) hq hm inv hoi hi hr (fun⟨o',ho',ha⟩=>by
    obtain rfl:o'=oi:=Option.some.inj (ho'.symm.trans hoi);rw [De hg]at ha;cases ha) (x:=x) (by unfold Oper.looksAt;rw [hg];simp [hx])with h|⟨h,_⟩
   ·exact h.symm
   ·rw [hg]at h;cases h
  ·rfl
 unfold wpOp;simp only [hoi];rcases hst i hi oi hoi with⟨hna,hs⟩|⟨ha,d,hd,hdn,hri,hmi⟩
 rotate_left
 ·obtain⟨hg,y,z,hop,hz,_⟩:=Mo ha
  have hw:Region.wanted oi (yielded ops a.tmps)=true:=by simp [Region.wanted,hg]
  rw [if_pos hw];refine .inl ?_;have hrun:(execOp a.eval oi).run P w= .ok (.value (a.eval (.tmp y))) w:=by unfold execOp;rw [hop];rfl
  unfold Oper.wp;rw [hrun];show K (a.put oi.dst (a.eval (.tmp y))) w;rw [hd]at hK⊢;rw [hmi,DN,hri]at hK;refine hK _ _ _ _ (hp.put (fp:=noF) (Below.refl _ _) (show Rel D w (An σ ρ w) .dead (a.eval (.tmp y)) noF from fun _ h=>h) (fun _ h=>h.elim) (fun _ h=>h) (fun _ h=>.inl h) (fun b hb=>⟨hp.wr.Dlt b hb,fun h=>h⟩) hdn) (fun x b hb=>?_) fun x hx=>BJ hx
  split at hb
  ·exact hb.elim
  ·exact hT x b hb
 have hnA: ¬isA h ops i:=fun⟨o',ho',ha⟩=>by
  obtain rfl:o'=oi:=Option.some.inj (ho'.symm.trans hoi);rw [hna]at ha;cases ha
 rcases hs with⟨d,hd,hs⟩|⟨hg,hmv,hne,hlq⟩|⟨j,want,hg,hgj,hdn,hmi⟩
 rotate_left
 ·have hw:Region.wanted oi (yielded ops a.tmps)=true:=by simp [Region.wanted,hg]
  rw [if_pos hw];refine .inl (hlq C ρ F a w D T (pt ops n r m t0 listed) (fun x hx=>?_) (hal oi hoi) hp K Q fun a' w' D' T' hp' hT' htm=>hK a' w' D' T' hp' (fun x b hb=>?_) htm)
  ·have hnx: ∀y c,oi.op≠.extract y c:=fun y c e=>by rw [e]at hne;cases hne
   rcases hx with hx|hx
   rotate_left
   ·cases hl:Bj (m i) x with
    |none=>exact absurd hl hx
    |some tk=>
     obtain⟨oi',ok|ok⟩:=hm i hi _ (CJ hl)
     ·obtain rfl:oi'=oi:=Option.some.inj (ok.at_.symm.trans hoi)
      exact(Mp hq hm inv hoi hi hr hnA ok.looks hnx).symm
     ·exact(agreeA hq hm inv hi hr ok).symm
   refine(Mp hq hm inv hoi hi hr hnA ?_ hnx).symm;unfold DH at hx;obtain⟨u,hu,he⟩:=List.mem_filterMap.1 hx;cases u with
   |tmp y=>
    cases he;unfold Oper.looksAt;refine List.mem_append_left _ ?_;rw [List.mem_filterMap];exact⟨.tmp x,by simpa using hu,rfl⟩
   |const v=>cases he
   |global g=>cases he
   |func f=>cases he
  ·rcases hT' x b hb with h|⟨b',h⟩
   ·exact .inl ⟨i,hi,hdoi.trans h⟩
   ·exact hT x b' h
 ·have hgj':=hgj
  rw [<-hgv j want hg]at hgj'
  have hw:Region.wanted oi (yielded ops a.tmps)=false:=by
   rcases hgj' with hgj'|hgj'
   ·have:=hp.gv hgj'
    cases want<;>simp [Region.wanted,hg,this]
   ·simp [Region.wanted,hg,hp.gvN hgj']
  rw [if_neg (by simp [hw]),hdn]
  rw [hdn,hmi,DN]at hK;exact hK _ _ _ _ hp hT fun _ _=>rfl
 have hdo:AX ops i=some d:=hdoi.trans hd;have htm: ∀ (v:Value) x,some d≠some x->(a.put (some d) v).tmps[x]? =a.tmps[x]?:=fun v x hx=>BJ hx
 have hT': ∀ (fp:Nat->Prop) x b,(if x=d then fp else T x) b->AaE ops n X x:=by
  intro fp x b hb;split at hb
  ·rename_i hx;subst hx;exact .inl ⟨i,hi,hdo⟩
  ·exact hT x b hb
 rw [hd]at hK;rcases hs with⟨⟨hdn,hg,r',hqop,hri⟩|⟨j,want,hg,hgj,hdn,hri⟩,hmi⟩|⟨hdn,hg,hfz,hmv,hmq⟩
 ·rw [hmi,DN]at hK
  have hw:Region.wanted oi (yielded ops a.tmps)=true:=by
   rcases hg with hg|⟨j,want,hg,hgj⟩
   ·simp [Region.wanted,hg]
   ·rw [<-hgv j want hg]at hgj
    simp [Region.wanted,hg,hp.gv hgj]
  rw [if_pos hw];refine .inl ?_;have look: ∀y,Operand.tmp y∈oi.op.operands->y∈oi.looksAt ops:=by
   intro y hx;unfold Oper.looksAt;refine List.mem_append_left _ ?_;rw [List.mem_filterMap];exact⟨.tmp y,by simpa using hx,rfl⟩
  have hqop':qop P σ (Ms.ev ⟨pt ops n r m t0 listed,σ⟩) oi.op (fun x=>x=r'):=by
   by_cases hex: ∃y c,oi.op= .extract (.tmp y) c
   ·obtain⟨y,c,hop⟩:=hex
    have hE:EqC c (CT ops r m t0 i y) (pt ops n r m t0 listed y):=by
     rcases W8 (r:=r) (t0:=t0) hq hm inv hoi hi hr hnA (x:=y) (look y (by rw [hop];simp [Op.operands]))with h|⟨_,c',h,h'⟩
     ·exact .inl h
     ·rw [hop]at h;cases h;exact h'
    rw [hop]at hqop⊢;exact Nl (K:=fun r0=>∃r,Sub r0 r/\r=r') hE hqop
   ·refine VU (fun x hx=>?_) hqop
    cases x with
    |tmp y=>
     show CT ops r m t0 i y=pt ops n r m t0 listed y;rcases W8 (r:=r) (t0:=t0) hq hm inv hoi hi hr hnA (look y hx)with h|⟨_,c,h,_⟩
     ·exact h
     ·exact absurd ⟨y,c,h⟩ hex
    |const v=>rfl
    |global g=>rfl
    |func f=>rfl
  obtain⟨r2,rfl,hy⟩:=Nd (o:=oi) hp.ok hp.wr (fun x _=>hp.ev x) hqop'
  refine hy K Q fun v' w' D' fp hB hr' hf hd1 hd2 hd3=>?_
  rw [hd];rw [hri]at hK;split at hK
  ·refine hK _ _ _ _ (hp.put (D':=fun b=>D' b\/fp b) (fp:=noF) hB (Rel.frz _ _ _ hr') (fun _ h=>h.elim) (fun b hb=>.inl (hd1 b hb)) (fun b hb=>?_) (fun b hb=>⟨?_,fun h=>h⟩) hdn) (hT' _) (htm _)
   ·rcases hb with hb|hb
    ·exact hd2 b hb
    ·exact .inr (hf b hb)
   ·rcases hb with hb|hb
    ·exact(hd3 b hb).1
    ·exact Rel.lt _ _ _ hr' b hb
  ·exact hK _ _ _ _ (hp.put hB hr' hf hd1 hd2 hd3 hdn) (hT' _) (htm _)
 ·rw [hmi,DN]at hK
  have hgj':=hgj;rw [<-hgv j want hg]at hgj'
  have hw:Region.wanted oi (yielded ops a.tmps)=false:=by
   rcases hgj' with hgj'|hgj'
   ·have:=hp.gv hgj'
    cases want<;>simp [Region.wanted,hg,this]
   ·simp [Region.wanted,hg,hp.gvN hgj']
  rw [if_neg (by simp [hw]),hd]
  rw [hri]at hK;obtain⟨T',hp',hsub⟩:=hp.skip hdn;exact hK _ _ _ _ hp' (fun x b hb=>hT x b (hsub x b hb)) (htm _)
 ·have hw:Region.wanted oi (yielded ops a.tmps)=true:=by simp [Region.wanted,hg]
  rw [if_pos hw];refine .inl ?_;have hlook: ∀p∈m i,p.1∈oi.looksAt ops:=by
   intro p hp;have look: ∀y,Operand.tmp y∈oi.op.operands->y∈oi.looksAt ops:=by
    intro y hx;unfold Oper.looksAt;refine List.mem_append_left _ ?_;rw [List.mem_filterMap];exact⟨.tmp y,by simpa using hx,rfl⟩
   rcases hmq with⟨y,hop,hys,_⟩|⟨y,c,nn,f,hop,hys,_⟩
   ·rw [hys,List.mem_singleton]at hp
    rw [hp];exact look y (by rcases hop with hop|hop<;>(rw [hop];simp [Op.operands]))
   ·rw [hys,List.mem_singleton]at hp
    rw [hp];exact look y (by rw [hop];simp [Op.operands])
  rcases hmq with⟨y,hop,hys,hri⟩|⟨y,c,nn,f,hop,hys,hty,hcn,hri⟩
  ·rw [hys]at hK hlook
   rw [Mp hq hm inv hoi hi hr hnA (hlook (y,.put (hdV (r i))) (by simp)) (by rintro z c h;rcases hop with hop|hop<;>(rw [hop]at h;cases h))]at hri
   have hrun:(execOp a.eval oi).run P w= .ok (.value (a.eval (.tmp y))) w:=by unfold execOp;rcases hop with hop|hop<;>(rw [hop];rfl)
   unfold Oper.wp;rw [hrun];show K (a.put oi.dst (a.eval (.tmp y))) w;rw [hd]
   obtain⟨fp,hrel,hfp⟩: ∃fp,Rel D w (An σ ρ w) (r i) (a.eval (.tmp y)) fp/\∀b,fp b->T y b:=by
    rw [hri];by_cases hy:y<h.n
    ·exact⟨T y,hp.tm y hy,fun _ h=>h⟩
    ·exact⟨noF,by rw [hp.dd y (Nat.le_of_not_lt hy)];exact fun _ h=>h,fun _ h=>h.elim⟩
   have kM: ∀x,AU [(y,.put (hdV (r i)))] (pt ops n r m t0 listed) x=if x=y then hdV (r i)else pt ops n r m t0 listed x:=by
    intro x;unfold AU;by_cases hx:x=y
    ·subst hx
     rw [if_pos rfl];show H8 (if x=x then some (.put (hdV (r i)))else none) _=_
     rw [if_pos rfl];rfl
    ·rw [if_neg hx]
     show H8 (if y=x then some (.put (hdV (r i)))else none) _=_
     rw [if_neg (Ne.symm hx)];rfl
   refine hK _ _ _ _ (hp.move (t1:=AU [(y,.put (hdV (r i)))] (pt ops n r m t0 listed)) (T1:=fun x=>if x=y then noF else T x) (fun x hx=>?_) (fun x b hb=>?_) (fun x hx=>?_) (Below.refl _ _) hrel (fun b hb=>.inl ⟨y,hfp b hb,fun x hx=>?_⟩) (fun _ h=>h) (fun _ h=>.inl h) (fun b hb=>⟨hp.wr.Dlt b hb,fun h=>hp.tD y b (hfp b h) hb⟩) hdn) (fun x b hb=>?_) (htm _)
   ·rw [kM]
    by_cases hxy:x=y
    ·rw [if_pos hxy,if_pos hxy,hxy];exact hrel.hd
    ·rw [if_neg hxy,if_neg hxy];exact hp.tm x hx
   ·split at hb
    ·exact hb.elim
    ·exact hb
   ·rw [kM]
    split
    ·rename_i hxy
     rw [hri,<-hxy,hp.dd x hx];rfl
    ·exact hp.dd x hx
   ·split at hx
    ·exact hx.elim
    ·rename_i hxy;exact hp.tT x y b hxy hx (hfp b hb)
   ·split at hb
    ·rename_i hx;subst hx;exact .inl ⟨i,hi,hdo⟩
    ·split at hb
     ·exact hb.elim
     ·exact hT x b hb
  ·rw [hys]at hK hlook
   -- the part, and what is left
   obtain⟨g,hg',hgc⟩: ∃g,pt ops n r m t0 listed y= .many .tu nn g/\g c=f c:=by
    rcases W8 (r:=r) (t0:=t0) hq hm inv hoi hi hr hnA (hlook (y,.part c) (by simp))with h|⟨_,c',h,h'⟩
    ·exact⟨f,h▸hty,rfl⟩
    ·rw [hop]at h
     cases h;rcases h' with h'|⟨tg,n2,f2,g2,h1,h2,h3⟩
     ·exact⟨f,h'▸hty,rfl⟩
     ·rw [hty]at h1
      cases h1;exact⟨g2,h2,h3.symm⟩
   have hyn:y<h.n:=by
    rcases Nat.lt_or_ge y h.n with h'|h'
    ·exact h'
    ·rw [hp.dd y h']at hg';cases hg'
   have hry:=hp.tm y hyn;rw [hg']at hry;obtain⟨cs,G,hcv,hcs,hrel,hdis,hfp⟩:=hry;have hcv:a.eval (.tmp y)= .tuple cs:=hcv
   have hrun:(execOp a.eval oi).run P w= .ok (.value (cs.getD c undef)) w:=by
    unfold execOp;rw [hop];simp [Instr.extract,hcv,hcs,hcn]
   unfold Oper.wp;rw [hrun];show K (a.put oi.dst (cs.getD c undef)) w;rw [hd];have hrc:Rel D w (An σ ρ w) (r i) (cs.getD c undef) (G c):=by rw [hri,<-hgc];exact hrel c hcn
   have kM: ∀x,AU [(y,.part c)] (pt ops n r m t0 listed) x=if x=y then NN c (.many .tu nn g)else pt ops n r m t0 listed x:=by
    intro x;unfold AU;by_cases hx:x=y
    ·subst hx
     rw [if_pos rfl];show H8 (if x=x then some (.part c)else none) _=_
     rw [if_pos rfl,hg'];rfl
    ·rw [if_neg hx]
     show H8 (if y=x then some (.part c)else none) _=_
     rw [if_neg (Ne.symm hx)];rfl
   refine hK _ _ _ _ (hp.move (t1:=AU [(y,.part c)] (pt ops n r m t0 listed)) (T1:=fun x=>if x=y then fun b=>∃k,k<nn/\k≠c/\G k b else T x) (fun x hx=>?_) (fun x b hb=>?_) (fun x hx=>?_) (Below.refl _ _) hrc (fun b hb=>.inl ⟨y,(hfp b).2 ⟨c,hcn,hb⟩,fun x hx=>?_⟩) (fun _ h=>h) (fun _ h=>.inl h) (fun b hb=>⟨hp.wr.Dlt b hb,fun h=>hp.tD y b ((hfp b).2 ⟨c,hcn,h⟩) hb⟩) hdn) (fun x b hb=>?_) (htm _)
   ·rw [kM]
    by_cases hxy:x=y
    ·rw [if_pos hxy,if_pos hxy]
     subst hxy;refine⟨cs,fun k=>if k=c then noF else G k,hcv,hcs,fun k hk=>?_,fun k k' b hk hk' hne h1 h2=>?_,fun b=>⟨fun⟨k,h1,h2,h3⟩=>⟨k,h1,by show(if k=c then noF else G k) b;rw [if_neg h2];exact h3⟩,fun⟨k,h1,h2⟩=>?_⟩⟩
     ·show Rel D w _ (if k=c then .dead else g k) _ (if k=c then noF else G k)
      by_cases hkc:k=c
      ·rw [if_pos hkc,if_pos hkc];exact fun _ h=>h
      ·rw [if_neg hkc,if_neg hkc];exact hrel k hk
     ·have h1:(if k=c then noF else G k) b:=h1
      have h2:(if k'=c then noF else G k') b:=h2
      split at h1
      ·exact h1
      ·split at h2
       ·exact h2
       ·exact hdis k k' b hk hk' hne h1 h2
     ·have h2:(if k=c then noF else G k) b:=h2
      split at h2
      ·exact h2.elim
      ·rename_i hkc;exact⟨k,h1,hkc,h2⟩
    ·rw [if_neg hxy,if_neg hxy];exact hp.tm x hx
   ·split at hb
    ·rename_i hxy
     subst hxy;obtain⟨k,h1,_,h3⟩:=hb;exact(hfp b).2 ⟨k,h1,h3⟩
    ·exact hb
   ·rw [kM]
    have:x≠y:=fun e=>absurd hyn (Nat.not_lt.2 (e▸hx))
    rw [if_neg this];exact hp.dd x hx
   ·split at hx
    ·obtain⟨k,h1,h2,h3⟩:=hx
     exact hdis k c b h1 hcn h2 h3 hb
    ·rename_i hxy;exact hp.tT x y b hxy hx ((hfp b).2 ⟨c,hcn,hb⟩)
   ·split at hb
    ·rename_i hx;subst hx;exact .inl ⟨i,hi,hdo⟩
    ·split at hb
     ·rename_i hxy
      subst hxy;obtain⟨k,h1,_,h3⟩:=hb;exact hT x b ((hfp b).2 ⟨k,h1,h3⟩)
     ·exact hT x b hb
theorem Ok{Q:Exit->Act->World->Prop}(hq:QOK ops n): ∀ (fuel m:Nat) (listed:Array Bool) (a:Act) (w:World),n<=m->m<=ops.size->ops.size<=m+fuel->listed.size=ops.size->
  (∀j,j<ops.size->listed.getD j true=decide (j<m))->wpList P ops Q (ops.toList.drop m) a w->wpAny P .any ops Q fuel listed a w:=by
 have fals: ∀ {listed:Array Bool} {j m:Nat},listed.size=ops.size->(∀j,j<ops.size->listed.getD j true=decide (j<m))->j<ops.size->listed.getD j false=decide (j<m):=by
  intro listed j m hs hl hj;have:=hl j hj;rw [<-hs]at hj;simp [hj]at this⊢;exact this
 intro fuel
 induction fuel with
 |zero=>
  intro m listed a w hnm hm hf hs hl hw;obtain rfl:m=ops.size:=by omega
  refine⟨?_,?_⟩
  ·cases hr:Region.ready .any ops listed with
   |nil=>rfl
   |cons j js=>
    have hj:j∈Region.ready .any ops listed:=by rw [hr];simp
    obtain⟨h1,o,ho,_⟩:=mem_ready.1 hj;have hlt:j<ops.size:=(Array.getElem?_eq_some_iff.1 ho).1;rw [hl j hlt]at h1;simp [hlt]at h1
  ·have:ops.toList.drop ops.size= []:=by simp
   rw [this]at hw;exact hw
 |succ f ih=>
  intro m listed a w hnm hm hf hs hl hw;by_cases hms:m=ops.size
  ·subst hms
   have hnil:Region.ready .any ops listed= []:=by
    cases hr:Region.ready .any ops listed with
    |nil=>rfl
    |cons j js=>
     have hj:j∈Region.ready .any ops listed:=by rw [hr];simp
     obtain⟨h1,o,ho,_⟩:=mem_ready.1 hj;have hlt:j<ops.size:=(Array.getElem?_eq_some_iff.1 ho).1;rw [hl j hlt]at h1;simp [hlt]at h1
   refine⟨fun _=>?_,fun i hi=>by rw [hnil]at hi;cases hi⟩
   have:ops.toList.drop ops.size= []:=by simp
   rw [this]at hw;exact hw
  ·have hlt:m<ops.size:=by omega
   have hom:ops[m]? =some ops[m]:=by simp [hlt]
   have hmr:m∈Region.ready .any ops listed:=by
    refine mem_ready.2 ⟨by rw [hl m hlt];simp,ops[m],hom,fun e he hb=>?_⟩
    have h1:=hq.back m ops[m] e hom he hb;rw [fals hs hl (by omega)]
    simp [h1]
   refine⟨fun h0=>(by rw [h0]at hmr;cases hmr),fun i hi=>?_⟩
   have him:i=m:=by
    obtain⟨h1,o,ho,hall⟩:=mem_ready.1 hi;have hil:i<ops.size:=(Array.getElem?_eq_some_iff.1 ho).1;rw [hl i hil]at h1;simp at h1;by_cases he:i=m
    ·exact he
    ·rcases hq.tail with ht|⟨hc,_⟩
     ·omega
     ·have h2:=aET.1 hc i (List.mem_range.2 hil)
      simp only [Bool.or_eq_true,decide_eq_true_eq]at h2;rcases h2 with h2|h2
      ·omega
      ·obtain⟨o',ho',e,he',hb,hon⟩:=Region.waitsFor_spec h2
       obtain rfl:o'=o:=Option.some.inj (ho'.symm.trans ho);have h3:=hall e he' hb;rw [hon,fals hs hl (by omega)]at h3
       simp at h3;omega
   subst him
   have hdrop:ops.toList.drop i=ops[i]::ops.toList.drop (i+1):=by
    have:=List.drop_eq_getElem_cons (l:=ops.toList) (i:=i) (by simpa using hlt)
    simpa using this
   rw [hdrop]at hw
   have hw':wpOp P ops Q i (wpList P ops Q (ops.toList.drop (i+1))) a w:=by
    unfold wpOp;simp only [hom];exact hw
   refine wpOp_mono (fun a' w' h'=>ih (i+1) _ a' w' (by omega) (by omega) (by omega) (by simpa using hs) (fun j hj=>?_) h') hw'
   by_cases hij:i=j
   ·subst hij
    have:i<listed.size:=by rw [hs];exact hlt
    simp [this]
   ·rw [getD_set_ne true hij,hl j hj]
    have:(j<i)=(j<i+1):=by
     apply propext;constructor<;>intro _<;>omega
    simp [this]
def unl(listed:Array Bool)(n:Nat):Nat:=(List.range n).countP fun i=>!listed.getD i true
theorem Zm{listed:Array Bool}{i:Nat}(hi:i<listed.size)(hu:listed.getD i true=false): ∀n,unl (listed.setIfInBounds i true) n+(if i<n then 1 else 0)=unl listed n:=by
 intro n
 induction n with
 |zero=>simp [unl]
 |succ n ih=>
  unfold unl at ih⊢;rw [List.range_succ,List.countP_append,List.countP_append];simp only [List.countP_singleton];by_cases hin:i=n
  ·subst hin
   have e:(listed.setIfInBounds i true).getD i true=true:=by simp [hi]
   simp only [Nat.lt_irrefl,if_false]at ih;simp [e,hu]at ih⊢;exact ih
  ·rw [getD_set_ne true hin]
   have:(i<n+1)=(i<n):=by
    apply propext;constructor<;>intro _<;>omega
   simp only [this];omega
theorem U2{listed:Array Bool}{i:Nat}(hu:listed.getD i true=false): ∀n,i<n->0<unl listed n:=by
 intro n hn;unfold unl;rw [List.countP_pos_iff];exact⟨i,List.mem_range.2 hn,by simp [hu]⟩
theorem DX{a:Act}{d:Nat}{dst:Option Nat}{u v:Value}(h:dst≠some d):(a.put (some d) v).put dst u=(a.put dst u).put (some d) v:=by
 cases dst with
 |none=>rfl
 |some e=>
  have hne:d≠e:=fun e'=>h (by rw [e'])
  unfold Act.put;simp only;rw [Array.setIfInBounds_comm _ _ hne]
theorem Qy{Q0 Q:Exit->Act->World->Prop}{K' K:Act->World->Prop}{i:Nat}{o:Oper}{a:Act}{w:World}{d:Nat}{v:Value}(ho:ops[i]? =some o)(hq: ∀e a w,e≠.normal->¬Q0 e a w)(hs: ∀cs b,o.op≠.select cs b)
  (hl:d∉o.looksAt ops) (hd:o.dst≠some d) (hK: ∀a1 w1,(∀x,o.dst≠some x->a1.tmps[x]? =a.tmps[x]?)->K' (a1.put (some d) v) w1->K a1 w1)
  (h:wpOp P ops Q0 i K' (a.put (some d) v) w):wpOp P ops Q i K a w:=by
 unfold wpOp at h⊢;simp only [ho]at h⊢;rw [wanted_put o a (some d) v (fun d' hd'=>by cases hd';exact hl)]at h
 split
 ·rename_i hw
  rw [if_pos hw]at h;rcases h with h|⟨_,_,_,h⟩
  ·left
   unfold Oper.wp at h⊢;rw [execOp_put (ops:=ops) o hs a (some d) v (fun d' hd'=>by cases hd';exact hl)]at h
   generalize (execOp a.eval o).run P w=r at h⊢;cases r with
   |ok n w'=>
    cases n with
    |value u=>exact hK _ _ (fun x hx=>BJ hx) (DX hd▸h)
    |skip=>exact hK _ _ (fun x hx=>BJ hx) (DX hd▸h)
    |defer u=>exact hK ({a with defers:=u::a.defers}.put o.dst undef) w' (fun x hx=>BJ (a:={a with defers:=u::a.defers}) hx) (DX (a:={a with defers:=u::a.defers}) hd▸h)
    |enter f args=>exact Calls.mono h (fun e w'' he=>by
      cases e with
      |returned u=>exact hK _ _ (fun x hx=>BJ hx) (DX hd▸he)
      |panicked c=>exact(hq _ _ _ (by simp) he).elim
      |outgrown=>obtain⟨_,_,he⟩:=he;exact(hq _ _ _ (by simp) he).elim)
    |row r args=>exact Rows.mono h (fun u w'' he=>hK _ _ (fun x hx=>BJ hx) (DX hd▸he))
    |_=>exact h
   |halt x w'=>
    cases x<;>first|exact h.elim|exact(hq _ _ _ (by simp) h).elim
  ·exact(hq _ _ _ (by simp) h).elim
 ·rename_i hw
  rw [if_neg hw]at h;exact hK _ _ (fun x hx=>BJ hx) (DX hd▸h)
def QN(Q:Exit->Act->World->Prop):Exit->Act->World->Prop:=fun e a w=>e= .normal/\Q .normal a w
theorem QN_no{Q:Exit->Act->World->Prop}: ∀e a w,e≠.normal->¬QN Q e a w:=fun _ _ _ h h'=>h h'.1
theorem UZ{Q0 Q:Exit->Act->World->Prop}{K' K:Act->World->Prop}{i:Nat}{a:Act}{w:World}(hq: ∀e a w,e≠.normal->¬Q0 e a w)(hK: ∀a1 w1,K' a1 w1->K a1 w1)
  (h:wpOp P ops Q0 i K' a w):wpOp P ops Q i K a w:=by
 unfold wpOp at h⊢;split
 ·rename_i ho;simp only [ho]at h;exact hK _ _ h
 rename_i o ho;simp only [ho]at h;split
 ·rename_i hw
  rw [if_pos hw]at h;rcases h with h|⟨_,_,_,h⟩
  ·left
   unfold Oper.wp at h⊢;generalize (execOp a.eval o).run P w=r at h⊢;cases r with
   |ok n w'=>
    cases n with
    |value u=>exact hK _ _ h
    |skip=>exact hK _ _ h
    |defer u=>exact hK _ _ h
    |enter f args=>exact Calls.mono h (fun e w'' he=>by
      cases e with
      |returned u=>exact hK _ _ he
      |panicked c=>exact(hq _ _ _ (by simp) he).elim
      |outgrown=>obtain⟨_,_,he⟩:=he;exact(hq _ _ _ (by simp) he).elim)
    |row r args=>exact Rows.mono h (fun u w'' he=>hK _ _ he)
    |_=>exact h
   |halt x w'=>
    cases x<;>first|exact h.elim|exact(hq _ _ _ (by simp) h).elim
  ·exact(hq _ _ _ (by simp) h).elim
 ·rename_i hw
  rw [if_neg hw]at h;exact hK _ _ h
theorem Oi{Q:Exit->Act->World->Prop}: ∀ (m:Nat) (a:Act) (w:World),ops.size-m<=ops.size->wpList P ops (QN Q) (ops.toList.drop m) a w->wpList P ops Q (ops.toList.drop m) a w:=by
 intro m
 induction hk:ops.size-m generalizing m with
 |zero=>
  intro a w _ h;have e:ops.toList.drop m= []:=List.drop_eq_nil_of_le (by simp;omega)
  rw [e]at h⊢;exact h.2
 |succ k ih=>
  intro a w _ h;have hlt:m<ops.size:=by omega
  have hdrop:ops.toList.drop m=ops[m]::ops.toList.drop (m+1):=by
   have:=List.drop_eq_getElem_cons (l:=ops.toList) (i:=m) (by simpa using hlt)
   simpa using this
  rw [hdrop]at h⊢
  have h':wpOp P ops (QN Q) m (wpList P ops (QN Q) (ops.toList.drop (m+1))) a w:=by
   unfold wpOp;simp only [show ops[m]? =some ops[m] by simp [hlt]];exact h
  have:=UZ (Q:=Q) QN_no (fun a1 w1 h1=>ih (m+1) (by omega) a1 w1 (by omega) h1) h'
  unfold wpOp at this;simp only [show ops[m]? =some ops[m] by simp [hlt]]at this
  exact this
structure FI(P:Program)(ops:Array Oper)(Q:Exit->Act->World->Prop)(f m:Nat)(d y c:Nat)(v:Value)(listed:Array Bool)(a:Act)(w:World):Prop where
 sz:listed.size=ops.size
 ls: ∀j,j<ops.size->listed.getD j true=decide (j<m/\j≠f)
 pu: ∃cs,a.tmps[y]? =some (.tuple cs)/\cs[c]? =some v
 wl:wpList P ops (QN Q) (ops.toList.drop m) (a.put (some d) v) w
theorem L2{listed:Array Bool}{j:Nat}{p:Prop} [Decidable p](hs:listed.size=ops.size)(hj:j<ops.size)(h:listed.getD j true=decide p):listed.getD j false=decide p:=by
 rw [<-hs]at hj;simp [hj]at h⊢;exact h
theorem KU{Q:Exit->Act->World->Prop}{f m d y c:Nat}{v:Value}(hfm:f<m)(hm:m<ops.size){listed:Array Bool}{a:Act}{w:World}{ot:Oper}(hot:ops[m]? =some ot)(h1:d∉ot.looksAt ops)(h2:ot.dst≠some d)(h3:ot.dst≠some y)(h4: ∀cs b,ot.op≠.select cs b)
  (h:FI P ops Q f m d y c v listed a w):wpOp P ops Q m (FI P ops Q f (m+1) d y c v (listed.setIfInBounds m true)) a w:=by
 have hdrop:ops.toList.drop m=ot::ops.toList.drop (m+1):=by
  have:=List.drop_eq_getElem_cons (l:=ops.toList) (i:=m) (by simpa using hm)
  rw [this]
  congr 1
  have:ops[m]? =some ops[m]:=by simp [hm]
  rw [this]at hot;simpa using hot
 have hw:=h.wl;rw [hdrop]at hw
 have hw':wpOp P ops (QN Q) m (wpList P ops (QN Q) (ops.toList.drop (m+1))) (a.put (some d) v) w:=by
  unfold wpOp;simp only [hot];exact hw
 refine Qy hot QN_no h4 h1 h2 (fun a1 w1 hag hk=>⟨by simpa using h.sz,fun j hj=>?_,?_,hk⟩) hw'
 ·by_cases hjm:m=j
  ·subst hjm
   have:m<listed.size:=by rw [h.sz];exact hm
   have hne:m≠f:=by omega
   simp [this,hne]
  ·rw [getD_set_ne true hjm,h.ls j hj]
   have:(j<m/\j≠f)=(j<m+1/\j≠f):=propext ⟨fun⟨h1,h2⟩=>⟨by omega,h2⟩,fun⟨h1,h2⟩=>⟨by omega,h2⟩⟩
   simp only [this]
 ·obtain⟨cs,g1,g2⟩:=h.pu
  exact⟨cs,by rw [hag y h3];exact g1,g2⟩
theorem Yp{Q:Exit->Act->World->Prop}(hq:QOK ops n)(hc:Region.chainB .any ops n=true){f:Nat}(fl:FL ops n f){o:Oper}{y c d:Nat}(hof:ops[f]? =some o)(hog:o.guard=none)(hop:o.op= .extract (.tmp y) c)(hod:o.dst=some d)
  (hot: ∀t ot,n<=t->ops[t]? =some ot->Region.waitsFor .any ops t f=false->d∉ot.looksAt ops/\ot.dst≠some d/\ot.dst≠some y/\∀cs b,ot.op≠.select cs b) {v:Value}:
  ∀ (fuel m:Nat) (listed:Array Bool) (a:Act) (w:World),n<=m->m<=ops.size->ops.size+1<=m+fuel->FI P ops Q f m d y c v listed a w->wpAny P .any ops Q fuel listed a w:=by
 intro fuel
 induction fuel with
 |zero=>intro m listed a w _ h1 h2;omega
 |succ g ih=>
  intro m listed a w hnm hms hf h;have hfn:=fl.fn;have hfs:f<ops.size:=by have:=hq.le;omega
  have hfr:f∈Region.ready .any ops listed:=by
   refine mem_ready.2 ⟨by rw [h.ls f hfs];simp,o,hof,fun e he hb=>?_⟩
   have h1:=hq.back f o e hof he hb;rw [L2 h.sz (by omega) (h.ls e.on (by omega))]
   exact dT ⟨by omega,by omega⟩
  refine⟨fun h0=>(by rw [h0]at hfr;cases hfr),fun i hi=>?_⟩
  obtain⟨h1,oi,hoi,hall⟩:=mem_ready.1 hi;have his:i<ops.size:=(Array.getElem?_eq_some_iff.1 hoi).1;rw [h.ls i his]at h1;have h1:=of_decide_eq_false h1;by_cases hif:i=f
  ·subst hif
   obtain rfl:oi=o:=Option.some.inj (hoi.symm.trans hof);unfold wpOp;simp only [hoi];have hw:Region.wanted oi (yielded ops a.tmps)=true:=by simp [Region.wanted,hog]
   rw [if_pos hw];left;obtain⟨cs,g1,g2⟩:=h.pu;have hev:a.eval (.tmp y)= .tuple cs:=by
    show a.tmps.getD y undef=_;simp [Array.getD_eq_getD_getElem?,g1]
   have hrun:(execOp a.eval oi).run P w= .ok (.value v) w:=by
    unfold execOp;rw [hop];simp [Instr.extract,hev,g2]
   unfold Oper.wp;rw [hrun];show wpAny P .any ops Q g _ (a.put oi.dst v) w;rw [hod];refine Ok hq g m _ _ w hnm hms (by omega) (by simpa using h.sz) (fun j hj=>?_) (Oi m _ w (by omega) h.wl)
   by_cases hij:i=j
   ·subst hij
    have:i<listed.size:=by rw [h.sz];exact his
    have hlt:i<m:=by omega
    simp [this,hlt]
   ·rw [getD_set_ne true hij,h.ls j hj]
    have:(j<m/\j≠i)=(j<m):=propext ⟨fun h=>h.1,fun h=>⟨h,Ne.symm hij⟩⟩
    simp only [this]
  ·have hnot: ¬i<m:=fun h=>h1 ⟨h,hif⟩
   have him:i=m:=by
    have h2:=aET.1 hc i (List.mem_range.2 his);simp only [Bool.or_eq_true,decide_eq_true_eq]at h2;rcases h2 with h2|h2
    ·omega
    ·by_cases he:i=m
     ·exact he
     ·obtain⟨o',ho',e,he',hb,hon⟩:=Region.waitsFor_spec h2
      obtain rfl:o'=oi:=Option.some.inj (ho'.symm.trans hoi);have h3:=hall e he' hb;rw [hon,L2 h.sz (by omega) (h.ls (i-1) (by omega))]at h3
      have:=(of_decide_eq_true h3).1;omega
   subst him;have hnw:Region.waitsFor .any ops i f=false:=by
    cases hwf:Region.waitsFor .any ops i f with
    |false=>rfl
    |true=>
     obtain⟨o',ho',e,he',hb,hon⟩:=Region.waitsFor_spec hwf;obtain rfl:o'=oi:=Option.some.inj (ho'.symm.trans hoi);have h3:=hall e he' hb;rw [hon,L2 h.sz hfs (h.ls f hfs)]at h3;exact absurd rfl (of_decide_eq_true h3).2
   obtain⟨g1,g2,g3,g4⟩:=hot i oi hnm hoi hnw;exact wpOp_mono (fun a1 w1 hk=>ih (i+1) _ a1 w1 (by omega) (by omega) (by omega) hk) (KU (by omega) his hoi g1 g2 g3 g4 h)
theorem pt_all(hq:QOK ops n)(hm:MOK A B ops n m){listed:Array Bool}(hs:listed.size=ops.size)(hall: ∀i,i<n->listed.getD i true=true):pt ops n r m t0 listed=CT ops r m t0 n:=by
 have hle:=hq.le;have ld: ∀k,k<n->listed.getD k false=true:=fun k hk=>by
  have h1:=hall k hk;have h2:k<listed.size:=by rw [hs];omega
  simp [h2]at h1⊢;exact h1
 funext x
 rw [Hx hq hm r t0 x n (Nat.le_refl _)];unfold pt;cases ho:CH ops n x with
 |none=>exact Cv n fun i hi=>by rw [ld i hi];simp [hi]
 |some k=>
  have hk:=(Bi ho).1;simp only [ld k hk,hk,if_true];exact Cv n fun i hi=>by rw [ld i hi];simp [hi]
theorem UY{Q:Exit->Act->World->Prop}{K:Act->World->Prop}{i:Nat}{a:Act}{w:World}
  (hh:wpOp P ops Q i (fun a' w'=>(∀o y z,ops[i]? =some o->o.guard=none->o.op= .move (.tmp y)->o.dst=some z->a'=a.put (some z) (a.eval (.tmp y)))->K a' w') a w):wpOp P ops Q i K a w:=by
 unfold wpOp at hh⊢;cases ho:ops[i]? with
 |none=>
  simp only [ho]at hh⊢;exact hh fun o _ _ h=>by cases h
 |some o=>
  simp only [ho]at hh⊢;by_cases hmv: ∃y z,o.guard=none/\o.op= .move (.tmp y)/\o.dst=some z
  ·obtain⟨y,z,hg,hop,hd⟩:=hmv
   have hw:Region.wanted o (yielded ops a.tmps)=true:=by simp [Region.wanted,hg]
   rw [if_pos hw]at hh⊢;rcases hh with hh|hh
   ·left
    have hrun:(execOp a.eval o).run P w= .ok (.value (a.eval (.tmp y))) w:=by unfold execOp;rw [hop];rfl
    unfold Oper.wp at hh⊢;rw [hrun]at hh⊢;rw [Oper.upon_value]at hh⊢;rw [hd]at hh⊢;exact hh fun o' y' z' h1 _ h3 h4=>by
     cases h1;rw [hop]at h3;cases h3;rw [hd]at h4;cases h4;rfl
   ·exact .inr hh
  ·have key: ∀a' w',((∀o' y z,some o=some o'->o'.guard=none->o'.op= .move (.tmp y)->o'.dst=some z->a'=a.put (some z) (a.eval (.tmp y)))->K a' w')->K a' w':=fun a' w' h=>h fun o' y z h1 h2 h3 h4=>by
    cases h1;exact absurd ⟨y,z,h2,h3,h4⟩ hmv
   split
   ·rename_i hw
    rw [if_pos hw]at hh;exact hh.imp (Oper.wp_mono fun a' w'=>key a' w') id
   ·rename_i hw
    rw [if_neg hw]at hh;exact key _ _ hh
def AlI(h:CC)(ops:Array Oper)(n:Nat)(listed:Array Bool)(a:Act):Prop:=∀j,j<n->listed.getD j false=true->∀c,ops[j]? =some c->alM h ops c=true->∀y z,c.op= .move (.tmp y)->c.dst=some z->a.tmps.getD z undef=a.tmps.getD y undef
theorem AlI.at{listed:Array Bool}{a:Act}(hI:AlI h ops n listed a)(hq:QOK ops n){i:Nat}(hi:i<n)(hr:i∈Region.ready .any ops listed): ∀oi,ops[i]? =some oi->∀z y,AlP h ops oi z y->a.tmps.getD z undef=a.tmps.getD y undef:=by
 rintro oi hoi z y ⟨e,he,hb,c,hc,hal,hop,hd⟩
 obtain⟨hun,o2,ho2,hall⟩:=mem_ready.1 hr;obtain rfl:oi=o2:=Option.some.inj (hoi.symm.trans ho2);have hlt:=hq.back i oi e hoi he hb;exact hI e.on (by omega) (hall e he hb) c hc hal y z hop hd
theorem AlI.set{listed:Array Bool}{a a':Act}(hI:AlI h ops n listed a)(hq:QOK ops n)
  (hst: ∀j,j<n->∀o,ops[j]? =some o->Kh P h ops σ o (CT ops r m t0 j) (r j) (m j)) (inv:HeadInv .any ops n listed) {i:Nat} (hi:i<n) (hsz:a.tmps.size=h.n)
  (htm: ∀x,AX ops i≠some x->a'.tmps[x]? =a.tmps[x]?) (hmv: ∀o y z,ops[i]? =some o->o.guard=none->o.op= .move (.tmp y)->o.dst=some z->a'=a.put (some z) (a.eval (.tmp y))):AlI h ops n (listed.setIfInBounds i true) a':=by
 intro j hj hl c hc hal y z hop hd;obtain⟨hg,y2,z2,hop2,hd2,hnd⟩:=Mo hal;rw [hop]at hop2;cases hop2;have hy:a'.tmps.getD y undef=a.tmps.getD y undef:=by
  rw [Array.getD_eq_getD_getElem?,Array.getD_eq_getD_getElem?,htm y (hnd i)]
 by_cases hji:j=i
 ·subst hji
  have hz:z<h.n:=by
   rcases hst j hj c hc with⟨hna,_⟩|⟨_,d,hd3,hdn,_⟩
   ·rw [hal]at hna;cases hna
   ·rw [hd]at hd3;cases hd3;exact hdn
  have e:=hmv c y z hc hg hop hd;rw [hy,e,BW];have hz2:z<a.tmps.size:=by rw [hsz];exact hz
  show _=a.eval (.tmp y);simp [hz2]
 ·rw [getD_set_ne false (Ne.symm hji)]at hl
  have hz:AX ops i≠some z:=by
   intro he;obtain⟨oi,hoi,_⟩:=hq.dst i hi;exact(hq.ne i j z c hi hj (Ne.symm hji) he hc).1 hd
  rw [hy,Array.getD_eq_getD_getElem?,htm z hz,<-Array.getD_eq_getD_getElem?];exact hI j hj hl c hc hal y z hop hd
theorem Aar{Q:Exit->Act->World->Prop}(hq:QOK ops n)(hm:MOK (isA h ops) (isB h ops) ops n m)
  (hst: ∀j,j<n->∀o,ops[j]? =some o->Kh P h ops σ o (CT ops r m t0 j) (r j) (m j))
  {a0:Act} (hend: ∀a w D T,PR C h.n σ ρ F (CT ops r m t0 n) a w D T->(∀x b,T x b->AaE ops n X x)->(∀x,(∀i,i<n->AX ops i≠some x)->a.tmps[x]? =a0.tmps[x]?)->wpList P ops Q (ops.toList.drop n) a w)
  (hend0: ∀a w D T,PR C h.n σ ρ F (CT ops r m t0 n) a w D T->(∀x b,T x b->AaE ops n X x)->(∀x,(∀i,i<n->AX ops i≠some x)->a.tmps[x]? =a0.tmps[x]?)->wpList P ops (QN Q) (ops.toList.drop n) a w):
  ∀ (fuel:Nat) (listed:Array Bool) (a:Act) (w:World) (D:Nat->Prop) (T:Nat->Nat->Prop),HeadInv .any ops n listed->unl listed n+(ops.size-n)<=fuel->
   PR C h.n σ ρ F (pt ops n r m t0 listed) a w D T->(∀x b,T x b->AaE ops n X x)->(∀x,(∀i,i<n->AX ops i≠some x)->a.tmps[x]? =a0.tmps[x]?)->AlI h ops n listed a->wpAny P .any ops Q fuel listed a w:=by
 intro fuel
 induction fuel with
 |zero=>
  intro listed a w D T inv hf hp hT hA hI;have hle:=hq.le;have hall: ∀i,i<n->listed.getD i true=true:=by
   intro i hi;cases hu:listed.getD i true with
   |true=>rfl
   |false=>have:=U2 hu n hi;omega
  have hpt:pt ops n r m t0 listed=CT ops r m t0 n:=by
   funext x
   rw [Hx hq hm r t0 x n (Nat.le_refl _)];unfold pt;have ld: ∀k,k<n->listed.getD k false=true:=fun k hk=>by
    have h1:=hall k hk;have h2:k<listed.size:=by rw [inv.size];omega
    simp [h2]at h1⊢;exact h1
   cases ho:CH ops n x with
   |none=>exact Cv n fun i hi=>by rw [ld i hi];simp [hi]
   |some k=>
    have hk:=(Bi ho).1;simp only [ld k hk,hk,if_true];exact Cv n fun i hi=>by rw [ld i hi];simp [hi]
  rw [hpt]at hp;refine Ok hq 0 n listed a w (Nat.le_refl _) hle (by omega) inv.size (fun j hj=>?_) (hend _ _ _ _ hp hT hA)
  by_cases hjn:j<n
  ·rw [hall j hjn];simp [hjn]
  ·rw [inv.tail j (by omega) hj];simp [hjn]
 |succ f ih=>
  intro listed a w D T inv hf hp hT hA hI;have hle:=hq.le;by_cases hall: ∀i,i<n->listed.getD i true=true
  ·have hpt:pt ops n r m t0 listed=CT ops r m t0 n:=by
    funext x
    rw [Hx hq hm r t0 x n (Nat.le_refl _)];unfold pt;have ld: ∀k,k<n->listed.getD k false=true:=fun k hk=>by
     have h1:=hall k hk;have h2:k<listed.size:=by rw [inv.size];omega
     simp [h2]at h1⊢;exact h1
    cases ho:CH ops n x with
    |none=>exact Cv n fun i hi=>by rw [ld i hi];simp [hi]
    |some k=>
     have hk:=(Bi ho).1;simp only [ld k hk,hk,if_true];exact Cv n fun i hi=>by rw [ld i hi];simp [hi]
   rw [hpt]at hp;refine Ok hq (f+1) n listed a w (Nat.le_refl _) hle (by omega) inv.size (fun j hj=>?_) (hend _ _ _ _ hp hT hA)
   by_cases hjn:j<n
   ·rw [hall j hjn];simp [hjn]
   ·rw [inv.tail j (by omega) hj];simp [hjn]
  ·have hex: ∃i,i<n/\listed.getD i true=false:=by
    apply Classical.byContradiction;intro hno;apply hall;intro i hi;cases hu:listed.getD i true with
    |true=>rfl
    |false=>exact absurd ⟨i,hi,hu⟩ hno
   obtain⟨i,⟨hin,hun⟩,hmin⟩:=Aag hex;have hoi:ops[i]? =some ops[i]:=by
    have:i<ops.size:=by omega
    simp [this]
   have hir:i∈Region.ready .any ops listed:=by
    refine mem_ready.2 ⟨hun,ops[i],hoi,fun e he hb=>?_⟩
    have h1:=hq.back i ops[i] e hoi he hb;have h2:=hmin e.on h1;have h3:e.on<listed.size:=by rw [inv.size];omega
    cases hu:listed.getD e.on true with
    |false=>exact absurd ⟨by omega,hu⟩ h2
    |true=>simp [h3]at hu⊢;exact hu
   refine⟨fun h0=>(by rw [h0]at hir;cases hir),fun j hj=>?_⟩
   have hjs:j<ops.size:=by
    obtain⟨_,o,ho,_⟩:=mem_ready.1 hj;exact(Array.getElem?_eq_some_iff.1 ho).1
   rcases Nat.lt_or_ge j n with hjn|hjn
   case inr=>
    rcases hq.tail with ht|⟨hc,hs|⟨ff,fl⟩⟩
    ·omega
    ·exact absurd hj (tail_waits hs hc (by omega) inv _ i rfl hin hun j hjn)
    ·obtain⟨hju,oj,hoj,hallj⟩:=mem_ready.1 hj
     have hjn':j=n:=by
      have h2:=aET.1 hc j (List.mem_range.2 hjs);simp only [Bool.or_eq_true,decide_eq_true_eq]at h2;rcases h2 with h2|h2
      ·omega
      ·by_cases he:j=n
       ·exact he
       ·obtain⟨o',ho',e,he',hb,hon⟩:=Region.waitsFor_spec h2
        obtain rfl:o'=oj:=Option.some.inj (ho'.symm.trans hoj);have h3:=hallj e he' hb;rw [hon,getD_both (inv.tail (j-1) (by omega) (by omega))]at h3
        cases h3
     subst hjn';have lst: ∀k,k<j->k≠ff->listed.getD k false=true:=fun k hk hkf=>by
      obtain⟨o',ho',e,he',hb,hon⟩:=Region.waitsFor_spec (fl.others k hk hkf);obtain rfl:o'=oj:=Option.some.inj (ho'.symm.trans hoj);have h3:=hallj e he' hb;rwa [hon]at h3
     have lstT: ∀k,k<j->k≠ff->listed.getD k true=true:=fun k hk hkf=>by
      have h1:=lst k hk hkf;have h2:k<listed.size:=by rw [inv.size];omega
      simp [h2]at h1⊢;exact h1
     have hif:i=ff:=by
      by_cases he:i=ff
      ·exact he
      ·have:=lstT i hin he
       rw [hun]at this;cases this
     subst hif;obtain⟨o,y,c,d,hof,hog,hop,hod,hot⟩:=fl.it;have hfr:i∈Region.ready .any ops listed:=hir;have hinv':=inv.set hfr hin
     have hallL: ∀k,k<j->(listed.setIfInBounds i true).getD k true=true:=fun k hk=>by
      by_cases hki:i=k
      ·subst hki
       have:i<listed.size:=by rw [inv.size];omega
       simp [this]
      ·rw [getD_set_ne true hki];exact lstT k hk (Ne.symm hki)
     have hst0:=NQ (P:=P) (h:=h) (ops:=ops) (Q:=fun _ _ _=>False) (K:=wpList P ops (QN Q) (ops.toList.drop j)) hq hm inv hin hfr hst hp hT (hI.at hq hin hfr) (fun a' w' D' T' hp' hT' htm'=>by
      rw [pt_all hq hm hinv'.size hallL]at hp';exact hend0 a' w' D' T' hp' hT' fun x hx=>(htm' x (hx i hin)).trans (hA x hx))
     unfold wpOp at hst0;simp only [hof]at hst0;have hw:Region.wanted o (yielded ops a.tmps)=true:=by simp [Region.wanted,hog]
     rw [if_pos hw]at hst0;rcases hst0 with hst0|⟨_,_,_,hst0⟩
     case inr=>exact hst0.elim
     have hFI: ∃v,FI P ops Q i j d y c v listed a w:=by
      unfold Oper.wp at hst0;have hex:execOp a.eval o=(do let v<-Instr.extract (a.eval (.tmp y)) c;pure (.value v)):=by unfold execOp;rw [hop]
      rw [hex]at hst0
      have hlsd: ∀k,k<ops.size->listed.getD k true=decide (k<j/\k≠i):=fun k hk=>by
       by_cases hkj:k<j
       ·by_cases hki:k=i
        ·subst hki;rw [hun];simp
        ·rw [lstT k hkj hki];simp [hkj,hki]
       ·rw [inv.tail k (by omega) hk];simp [hkj]
      have hevd:a.eval (.tmp y)=a.tmps.getD y undef:=rfl;cases hv:a.eval (.tmp y)with
      |tuple cs=>
       cases hcs:cs[c]? with
       |some v=>
        refine⟨v,inv.size,hlsd,⟨cs,?_,hcs⟩,?_⟩
        ·rw [hevd,Array.getD_eq_getD_getElem?]at hv
         cases hty:a.tmps[y]? with
         |none=>rw [hty]at hv;cases hv;simp at hcs
         |some u=>rw [hty]at hv;simp at hv;rw [hv]
        ·simp only [hv,Instr.extract,hcs]at hst0
         have hst0:wpList P ops (QN Q) (ops.toList.drop j) (a.put o.dst v) w:=by simpa [Oper.upon]using hst0
         rw [hod]at hst0;exact hst0
       |none=>
        simp only [hv,Instr.extract,hcs]at hst0;simp [Oper.upon,stuck]at hst0
      |_=>
       simp only [hv,Instr.extract]at hst0;simp [Oper.upon,stuck]at hst0
     obtain⟨v,hFI⟩:=hFI;have hnw:Region.waitsFor .any ops j i=false:=by
      cases hwf:Region.waitsFor .any ops j i with
      |false=>rfl
      |true=>
       obtain⟨o',ho',e,he',hb,hon⟩:=Region.waitsFor_spec hwf;obtain rfl:o'=oj:=Option.some.inj (ho'.symm.trans hoj);have h3:=hallj e he' hb;rw [hon,getD_both hun]at h3;cases h3
     obtain⟨g1,g2,g3,g4⟩:=hot j oj (Nat.le_refl _) hoj hnw;have hu:0<unl listed j:=U2 hun j hin;exact wpOp_mono (fun a1 w1 hk=>Yp hq hc fl hof hog hop hod hot f (j+1) _ a1 w1 (by omega) (by omega) (by omega) hk) (KU hin hjs hoj g1 g2 g3 g4 hFI)
   have hju:=(mem_ready.1 hj).1;have hcount:=Zm (by rw [inv.size];exact hjs) hju n
   rw [if_pos hjn]at hcount;refine UY (NQ hq hm inv hjn hj hst hp hT (hI.at hq hjn hj) fun a' w' D' T' hp' hT' htm' hmv=>ih _ a' w' D' T' (inv.set hj hjn) (by omega) hp' hT' (fun x hx=>(htm' x (hx j hjn)).trans (hA x hx)) (hI.set hq hst inv hjn hp.sz htm' hmv))
theorem PR.prom{N:Nat}{t:Nat->V}{a:Act}{w:World}{D:Nat->Prop}{T:Nat->Nat->Prop}(hp:PR C N σ ρ F t a w D T){d:Nat}(hdn:d<N):
  ∃ρ' F',PR C N (σ++(Go.Ve.prom (t d) σ.length).2) ρ' F' (AV t d (Go.Ve.prom (t d) σ.length).1) a w D (fun x=>if x=d then noF else T x):=by
 obtain⟨ρ',F',ok,hr'⟩:=Im (t d) σ ρ F _ (T d) hp.wr (hp.tm d hdn) (hp.tD d) (fun i b hb=>hp.tF i d b hb)
 refine⟨ρ',F',hp.df,hp.sz,fun x hx=>?_,ok.wr,fun x hx=>?_,fun x b hb=>?_,fun i x b hb hT=>?_,fun x y b hxy h1 h2=>?_,fun x b hb=>?_,hp.fr,fun i b hb=>?_,hp.D1,hp.D2,
  fun i hi=>(ok.rt i (Nat.lt_of_lt_of_le hi hp.ml)).trans (hp.rt i hi),by have:=hp.ml;simp;omega,fun x b hx hb=>?_⟩
 ·have: ¬x=d:=by omega
  simp only [AV,this,if_false];exact hp.dd x hx
 ·by_cases hxd:x=d
  ·subst hxd;simp only [AV,if_true];exact hr'
  ·simp only [AV,hxd,if_false]
   exact Rel.mono (fun _ h=>h) (fun v cv hv=>An.ext ok.rt _ _ hv) _ _ _ (fun _ _=>rfl) (hp.tm x hx)
 ·split at hb
  ·exact hb.elim
  ·exact hp.tD x b hb
 ·split at hT
  ·exact hT
  ·rename_i hxd
   by_cases hi:i<σ.length
   ·rw [ok.old i hi]at hb;exact hp.tF i x b hb hT
   ·exact hp.tT d x b (Ne.symm hxd) (ok.new i b (Nat.le_of_not_lt hi) hb) hT
 ·split at h1
  ·exact h1
  ·split at h2
   ·exact h2
   ·exact hp.tT x y b hxy h1 h2
 ·split at hb
  ·exact hb.elim
  ·exact hp.tn x b hb
 ·by_cases hi:i<σ.length
  ·rw [ok.old i hi]at hb;exact hp.Fn i b hb
  ·exact hp.tn d b (ok.new i b (Nat.le_of_not_lt hi) hb)
 ·split at hb
  ·exact hb
  ·exact hp.tx x b hx hb
end
theorem PR.close{C:Ctx}{N:Nat}{a:Act}{w:World}{D:Nat->Prop}: ∀ (ds:List (Option Nat)) (t:Nat->V) (σ:List V) (ρ:Nat->Value) (F:Nat->Nat->Prop) (T:Nat->Nat->Prop),PR C N σ ρ F t a w D T->
  (∀x b,T x b->some x∈ds)->A0 C N (promA ds ⟨t,σ⟩) a w:=by
 intro ds
 induction ds with
 |nil=>
  intro t σ ρ F T hp ho;refine⟨hp.df,hp.dd,D,ρ,F,hp.wr,by simpa using hp.sz,fun x hx=>?_,hp.fr,hp.Fn,hp.D1,hp.D2,hp.rt,hp.ml⟩
  have hx':x<N:=by simpa using hx
  have h1:=hp.tm x hx';have e:T x=noF:=Bb (fun b hb=>by cases ho x b hb)
  rw [e]at h1;show Rel D w _ (((List.range N).map t).getD x .dead) _ noF;rw [AY hx'];exact h1
 |cons d ds ih=>
  intro t σ ρ F T hp ho;cases d with
  |none=>
   refine ih t σ ρ F T hp fun x b h=>?_
   have:=ho x b h;simpa using this
  |some d=>
   unfold promA;split
   ·rename_i hown
    have hdn:d<N:=by
     rcases Nat.lt_or_ge d N with h|h
     ·exact h
     ·simp only [hp.dd d h]at hown;cases hown
    obtain⟨ρ',F',hp'⟩:=hp.prom hdn;refine ih _ _ ρ' F' _ hp' fun x b h=>?_
    split at h
    ·exact h.elim
    ·rename_i hxd
     have:=ho x b h;simpa [hxd]using this
   ·rename_i hown
    refine ih t σ ρ F T hp fun x b h=>?_
    have:=ho x b h;rcases List.mem_cons.1 this with he|he
    ·cases he
     by_cases hx:d<N
     ·exact absurd h (AG _ _ _ (by simpa using hown) (hp.tm d hx) b)
     ·exact absurd h (hp.tx d b (Nat.le_of_not_lt hx))
    ·exact he
end Go.Ve


namespace Go.Ve
structure Xt(D:Nat->Prop)(w:World)(R:V->Value->Prop)(l:List V)(cs:Array Value)(G:Nat->Nat->Prop):Prop where
 sz:cs.size=l.length
 rel: ∀j,j<l.length->Rel D w R (l.getD j .dead) (cs.getD j undef) (G j)
 dis: ∀i j b,i≠j->G i b->¬G j b
def HE:V->Bool
 | .many .tu _ _=>false
 | .many .bx _ _=>false
 | .many (.cl _) _ _=>false
 | .many .ag _ _=>true
 | .dead=>false
 |_=>true
section
variable {D:Nat->Prop} {w:World} {R:V->Value->Prop}
theorem JV(hR: ∀v cv,R v cv->cv.oneCell'=true){v:V}{cv:Value}{fp:Nat->Prop}(hp:HE v=true)(h:Rel D w R v cv fp): ∃H,Xt D w R (cellsV v) cv.cells H/\∀j b,H j b->fp b:=by
 have single:Xl v=true->cellsV v= [v]->∃H,Xt D w R (cellsV v) cv.cells H/\∀j b,H j b->fp b:=by
  intro hm hcv;obtain⟨hc,_⟩:=Rel.cells1 h hR hm;rw [hcv,hc];refine⟨fun j=>if j=0 then fp else noF,⟨rfl,fun j hj=>?_,fun i j b hij h1 h2=>?_⟩,fun j b hb=>?_⟩
  ·obtain rfl:j=0:=by simp at hj;omega
   exact h
  ·by_cases hi:i=0
   ·have hj:j≠0:=by omega
    simp only [hj,if_false]at h2;exact h2
   ·simp only [hi,if_false]at h1
    exact h1
  ·have hb:(if j=0 then fp else noF) b:=hb
   split at hb
   ·exact hb
   ·exact hb.elim
 cases v with
 |c v=>exact single rfl rfl
 |dead=>cases hp
 |nd s own sz n f=>exact single rfl rfl
 |rs id p off len=>exact single rfl rfl
 |rp id p i k=>exact single rfl rfl
 |many t n f=>
  cases t with
  |bx=>cases hp
  |tu=>cases hp
  |cl _=>cases hp
  |ag=>
   obtain⟨cs,F',rfl,hn,hr,hd,hfp⟩:=h;refine⟨fun j b=>j<n/\F' j b,⟨by simp [cellsV,Value.cells,hn],fun j hj=>?_,fun i j b hij h1 h2=>hd i j b h1.1 h2.1 hij h1.2 h2.2⟩,fun j b hb=>(hfp b).2 ⟨j,hb⟩⟩
   simp [cellsV]at hj;have e:(cellsV (.many .ag n f)).getD j .dead=f j:=by simp [cellsV,hj]
   rw [e];exact Rel.fp_congr (fun b=>⟨fun h=>⟨hj,h⟩,fun h=>h.2⟩) (hr j hj)
theorem VB(l:List V): ∀ (vs:List Value) (k off:Nat) (cells:List V) (cs:Array Value) (G H:Nat->Nat->Prop),vs.length=l.length->(∀j,j<l.length->Rel D w R (l.getD j .dead) (vs.getD j undef) (H (k+j)))->(∀i j b,i≠j->H i b->¬H j b)->Xt D w R cells cs G->
  (∀j b i,k<=i->G j b->¬H i b)->∃G',Xt D w R ((l.zipIdx k).foldl (fun cs (c,j)=>cs.set (off+j) c) cells) ((vs.zipIdx k).foldl (fun cs (c,j)=>cs.setIfInBounds (off+j) c) cs) G'/\∀j b,G' j b->G j b\/∃i,H i b:=by
 induction l with
 |nil=>intro vs k off cells cs G H hl _ _ h _;cases vs<;>first|exact⟨G,h,fun _ _ h=>.inl h⟩|cases hl
 |cons v l ih=>
  intro vs k off cells cs G H hl hr hH h hGH;cases vs with
  |nil=>cases hl
  |cons x vs=>
   simp only [List.zipIdx_cons,List.foldl_cons];have h0:Rel D w R v x (H k):=by simpa using hr 0 (by simp)
   have g1: ∀j,j<l.length->Rel D w R (l.getD j .dead) (vs.getD j undef) (H (k+1+j)):=fun j hj=>by
    have:=hr (j+1) (by simp;omega)
    rw [show k+1+j=k+(j+1) by omega]
    simpa using this
   have g2:Xt D w R (cells.set (off+k) v) (cs.setIfInBounds (off+k) x) (fun j=>if j=off+k then H k else G j):=by
    refine⟨by simp [h.sz],fun j hj=>?_,fun i j b hij h1 h2=>?_⟩
    ·simp only [List.length_set]at hj
     by_cases he:off+k=j
     ·subst he
      have h1:off+k<cs.size:=by rw [h.sz];exact hj
      simp [hj,h1];exact h0
     ·have:=h.rel j hj
      have h1:j<cs.size:=by rw [h.sz];exact hj
      simp only [Ne.symm he,if_false];simp only [gDE,List.getElem?_set_ne he];simp only [Array.getD_eq_getD_getElem?,Array.getElem?_setIfInBounds_ne he];simpa using this
    ·have h1:(if i=off+k then H k else G i) b:=h1
     have h2:(if j=off+k then H k else G j) b:=h2
     split at h1<;>split at h2
     ·omega
     ·exact hGH j b k (Nat.le_refl _) h2 h1
     ·exact hGH i b k (Nat.le_refl _) h1 h2
     ·exact h.dis i j b hij h1 h2
   have g3: ∀j b i,k+1<=i->(if j=off+k then H k else G j) b->¬H i b:=fun j b i hi hb=>by
    split at hb
    ·exact hH k i b (by omega) hb
    ·exact hGH j b i (by omega) hb
   obtain⟨G',h1,h2⟩:=ih vs (k+1) off _ _ _ H (by simpa using hl) g1 hH g2 g3
   refine⟨G',h1,fun j b hb=>?_⟩
   rcases h2 j b hb with h3|h3
   ·have h3:(if j=off+k then H k else G j) b:=h3
    split at h3
    ·exact .inr ⟨_,h3⟩
    ·exact .inl h3
   ·exact .inr h3
theorem Qi(hR: ∀v cv,R v cv->cv.oneCell'=true)(place:Nat->Option (Nat×Nat)): ∀ (parts:List (Nat×V)) (cparts:List (Nat×Value)) (cells l':List V) (cs:Array Value) (G Fp:Nat->Nat->Prop),Cf place cells parts=some l'->Xt D w R cells cs G->
  parts.length=cparts.length->(∀ (j i:Nat) (v:V),parts[j]? =some (i,v)->HE v=true/\∃x,cparts[j]? =some (i,x)/\Rel D w R v x (Fp j))->(∀i j b,i≠j->Fp i b->¬Fp j b)->(∀j b i,G j b->¬Fp i b)->
  ∃cs' G',Instr.fill place cs cparts=some cs'/\Xt D w R l' cs' G'/\∀j b,G' j b->G j b\/∃i,Fp i b:=by
 intro parts
 induction parts with
 |nil=>
  intro cparts cells l' cs G Fp h hr hl _ _ _;cases cparts with
  |nil=>simp [Cf]at h;subst h;exact⟨cs,G,rfl,hr,fun _ _ h=>.inl h⟩
  |cons=>cases hl
 |cons p parts ih=>
  intro cparts cells l' cs G Fp h hr hl hp hF hGF;obtain⟨i,v⟩:=p;cases cparts with
  |nil=>cases hl
  |cons c cparts=>
   obtain⟨hpl,x,hx,hrx⟩:=hp 0 i v rfl;simp at hx;subst hx;unfold Cf at h;split at h
   ·cases h
   rename_i off size hplc;split at h
   ·cases h
   rename_i hcond;obtain⟨H,hcr,hHF⟩:=JV hR hpl hrx;have h1:x.cells.size=(cellsV v).length:=hcr.sz;have h2:cs.size=cells.length:=hr.sz
   have hn: ¬ ((decide (x.cells.size≠size)||decide (off+x.cells.size>cs.size))=true):=by
    simp only [Bool.or_eq_true,decide_eq_true_eq];rw [h1,h2];omega
   unfold Instr.fill;simp only [hplc];rw [if_neg hn]
   obtain⟨G1,hset,hG1⟩: ∃G1,Xt D w R (XN cells off (cellsV v)) (x.cells.zipIdx.foldl (fun cs (c,j)=>cs.setIfInBounds (off+j) c) cs) G1/\∀j b,G1 j b->G j b\/∃i,H i b:=by
    have:=VB (cellsV v) x.cells.toList 0 off cells cs G H (by simpa using h1) (fun j hj=>by simpa using hcr.rel j hj) hcr.dis hr (fun j b i _ hb hh=>hGF j b 0 hb (hHF i b hh))
    rw [<-Array.foldl_toList];simpa [XN]using this
   obtain⟨cs',G',e,h3,h4⟩:=ih cparts _ l' _ G1 (fun j=>Fp (j+1)) h hset (by simpa using hl) (fun j i v hj=>by simpa using hp (j+1) i v (by simpa using hj)) (fun i j b hij=>hF (i+1) (j+1) b (by omega)) (fun j b i hb hh=>by
    rcases hG1 j b hb with h5|⟨q,h5⟩
    ·exact hGF j b (i+1) h5 hh
    ·exact hF 0 (i+1) b (by omega) (hHF q b h5) hh)
   refine⟨cs',G',e,h3,fun j b hb=>?_⟩
   rcases h4 j b hb with h5|⟨q,h5⟩
   ·rcases hG1 j b h5 with h6|⟨q,h6⟩
    ·exact .inl h6
    ·exact .inr ⟨0,hHF q b h6⟩
   ·exact .inr ⟨q+1,h5⟩
end
def Is(t:Nat->V):Operand->Option Nat
 | .tmp y=>if AS (t y)then some y else none
 |_=>none
def Cu:List (Option Nat)->Bool
 | []=>true
 |none::l=>Cu l
 |some a::l=>l.all (fun b=>match b with
  |some b=>!Nat.beq a b
  |none=>true)&&Cu l
theorem J1: ∀ {l:List (Option Nat)},Cu l=true->∀ (i k a:Nat),i≠k->l[i]? =some (some a)->l[k]?≠some (some a)
 |none::l,h,i,k,a,hne,h1=>by
  cases i with
  |zero=>cases h1
  |succ i=>cases k with
   |zero=>intro h2;cases h2
   |succ k=>exact J1 (l:=l) h i k a (by omega) (by simpa using h1)
 |some b::l,h,i,k,a,hne,h1=>by
  simp only [Cu,bAE]at h
  have key: ∀k:Nat,l[k]?≠some (some b):=by
   intro k h2;have h3:=aET.1 h.1 (some b) (List.mem_of_getElem? h2);simp [Nat.beq_refl]at h3
  cases i with
  |zero=>
   cases h1;cases k with
   |zero=>omega
   |succ k=>simpa using key k
  |succ i=>cases k with
   |zero=>
    intro h2;cases h2;exact key i (by simpa using h1)
   |succ k=>exact J1 (l:=l) h.2 i k a (by omega) (by simpa using h1)
 | [],_,_,_,_,_,h1=>by cases h1
def Bc(t:Nat->V)(xs:List Operand):List Nat:=xs.filterMap (Is t)
theorem I2{t:Nat->V}{y:Nat}(h:AS (t y)=true):Is t (.tmp y)=some y:=if_pos h
theorem NG(l:List Nat)(x:Nat):Bj (l.map fun y=>(y,Tk.all)) x=if x∈l then some .all else none:=by
 induction l with
 |nil=>rfl
 |cons y l ih=>
  show(if y=x then some Tk.all else Bj (l.map fun y=>(y,Tk.all)) x)=_
  by_cases h:y=x
  ·rw [if_pos h,if_pos (by rw [h];exact List.mem_cons_self ..)]
  ·rw [if_neg h,ih]
   have:x∈y::l↔x∈l:=by simp [Ne.symm h]
   simp only [this]
theorem Db(l:List Nat)(t:Nat->V)(x:Nat):AU (l.map fun y=>(y,Tk.all)) t x=if x∈l then .dead else t x:=by
 unfold AU;rw [NG];split<;>rfl
section
variable {C:Ctx} {N:Nat} {σ:List V} {ρ:Nat->Value} {F:Nat->Nat->Prop} {t:Nat->V} {a:Act} {w:World} {D:Nat->Prop} {T:Nat->Nat->Prop}
def opF(t:Nat->V)(T:Nat->Nat->Prop)(xs:List Operand)(j b:Nat):Prop:=∃y,xs[j]? =some (.tmp y)/\AS (t y)=true/\T y b
theorem DI{xs:List Operand}{j b:Nat}(h:opF t T xs j b): ∃y,xs[j]? =some (.tmp y)/\AS (t y)=true/\y∈Bc t xs/\T y b:=by
 obtain⟨y,h1,h2,h3⟩:=h;exact⟨y,h1,h2,List.mem_filterMap.2 ⟨.tmp y,List.mem_of_getElem? h1,I2 h2⟩,h3⟩
theorem PR.opF_rel(h:PR C N σ ρ F t a w D T){xs:List Operand}{j:Nat}{x:Operand}(hx:xs[j]? =some x):Rel D w (An σ ρ w) (Ms.ev ⟨t,σ⟩ x) (a.eval x) (opF t T xs j):=by
 have plain: ∀v cv,Rel D w (An σ ρ w) v cv noF->(∀b,¬opF t T xs j b)->Rel D w (An σ ρ w) v cv (opF t T xs j):=fun v cv hr e=>by rw [Bb e];exact hr
 have oth:(∀y,x≠.tmp y)->∀b,¬opF t T xs j b:=by
  rintro hne b ⟨y,h1,_⟩
  rw [hx]at h1;exact hne y (Option.some.inj h1)
 cases x with
 |tmp y=>
  by_cases hy:y<N
  ·have h1:=h.tm y hy
   cases ho:AS (t y)with
   |true=>
    refine Rel.fp_congr (fun b=>⟨fun hb=>⟨y,hx,ho,hb⟩,fun⟨z,h2,_,h3⟩=>?_⟩) h1
    rw [hx]at h2;cases h2;exact h3
   |false=>
    refine plain _ _ (Bb (AG _ _ _ ho h1)▸h1) ?_
    rintro b ⟨z,h2,h3,_⟩
    rw [hx]at h2;cases h2;rw [ho]at h3;cases h3
  ·have hd:=h.dd y (Nat.le_of_not_lt hy)
   refine plain _ _ ?_ ?_
   ·show Rel D w _ (t y) _ noF
    rw [hd];exact fun _ h=>h
   ·rintro b ⟨z,h2,h3,_⟩
    rw [hx]at h2;cases h2;rw [hd]at h3;cases h3
 |const v=>exact plain _ _ (Iy v) (oth fun y e=>by cases e)
 |global g=>exact plain _ _ ⟨rfl,rfl,fun _ h=>h⟩ (oth fun y e=>by cases e)
 |func f=>exact plain _ _ O9 (oth fun y e=>by cases e)
theorem PR.opF_dis(h:PR C N σ ρ F t a w D T){xs:List Operand}(hap:Cu (xs.map (Is t))=true): ∀i j b,i≠j->opF t T xs i b->¬opF t T xs j b:=by
 intro i j b hij h1 h2;obtain⟨y,e1,o1,_,t1⟩:=DI h1;obtain⟨z,e2,o2,_,t2⟩:=DI h2;have hyz:y≠z:=by
  rintro rfl
  have f1:(xs.map (Is t))[i]? =some (some y):=by rw [List.getElem?_map,e1];exact congrArg some (I2 o1)
  have f2:(xs.map (Is t))[j]? =some (some y):=by rw [List.getElem?_map,e2];exact congrArg some (I2 o2)
  exact J1 hap i j y hij f1 f2
 exact h.tT y z b hyz t1 t2
theorem PR.take(h:PR C N σ ρ F t a w D T){xs:List Operand}{r:V}{v':Value}{fp:Nat->Prop}{d:Nat}{w':World}(hB:Below w.heap.size w w')(hr:Rel D w' (An σ ρ w') r v' fp)(hf: ∀b,fp b->(∃j,opF t T xs j b)\/w.heap.size<=b)(hdn:d<N):
  ∃T',PR C N σ ρ F (AV (AU ((Bc t xs).map fun y=>(y,.all)) t) d r) (a.put (some d) v') w' D T'/\∀x b,T' x b->d=x\/∃b',T x b':=by
 refine⟨_,h.move (t1:=AU ((Bc t xs).map fun y=>(y,.all)) t) (T1:=fun x b=>x∉Bc t xs/\T x b) (fun x hx=>?_) (fun x b hb=>hb.2) (fun x hx=>?_) hB hr (fun b hb=>?_) (fun _ h=>h) (fun _ h=>.inl h) (fun b hb=>⟨Nat.lt_of_lt_of_le (h.wr.Dlt b hb) hB.size,fun hfb=>?_⟩) hdn,fun x b hb=>?_⟩
 ·rw [Db]
  by_cases hm:x∈Bc t xs
  ·rw [if_pos hm];exact fun b hb=>hb.1 hm
  ·rw [if_neg hm]
   exact Rel.fp_congr (fun b=>⟨fun h=>⟨hm,h⟩,fun h=>h.2⟩) (h.tm x hx)
 ·rw [Db]
  split
  ·rfl
  ·exact h.dd x hx
 ·rcases hf b hb with⟨j,hj⟩|hj
  ·obtain⟨y,_,_,hm,hT⟩:=DI hj
   refine .inl ⟨y,hT,fun x hx=>?_⟩
   have hxy:x≠y:=by rintro rfl;exact hx.1 hm
   exact h.tT x y b hxy hx.2 hT
  ·exact .inr hj
 ·rcases hf b hfb with⟨j,hj⟩|hj
  ·obtain⟨y,_,_,_,hT⟩:=DI hj
   exact h.tD y b hT hb
  ·have:=h.wr.Dlt b hb;omega
 ·have hb:(if x=d then fp else fun b=>x∉Bc t xs/\T x b) b:=hb
  split at hb
  ·rename_i e;exact .inl e.symm
  ·exact .inr ⟨b,hb.2⟩
end
theorem Di{t t':Nat->V}{xs:List Operand}(h: ∀x∈xs,∀y,x= .tmp y->t' y=t y):xs.map (Is t')=xs.map (Is t):=by
 refine List.map_congr_left fun x hx=>?_
 cases x with
 |tmp y=>show(if AS (t' y)then some y else none)=if AS (t y)then some y else none;rw [h _ hx y rfl]
 |const v=>rfl
 |global g=>rfl
 |func f=>rfl
theorem BS(t:Nat->V)(xs:List Operand):Bc t xs=(xs.map (Is t)).filterMap id:=by
 unfold Bc;rw [List.filterMap_map];rfl
theorem Dr{op:Op}{y:Nat}(h:Operand.tmp y∈op.operands):y∈DH op:=by
 unfold DH;exact List.mem_filterMap.2 ⟨.tmp y,by simpa using h,rfl⟩
theorem YE{Al:Nat->Nat->Prop}{P:Program}{N:Nat}{σ:List V}{o:Oper}{t:Nat->V}{ty:TypeId}{ps:Array (Nat×Operand)}{d:Nat}{places:List (Nat×Nat)}{zero:List Value}{l:List V}(ho:o.op= .build ty ps)(hd:o.dst=some d)(hdn:d<N)(hbi:Zg P ty=some (places,zero))
  (hap:Cu ((ps.toList.map (·.2)).map (Is t))=true) (hok: ∀p∈ps.toList,HE (Ms.ev ⟨t,σ⟩ p.2)=true) (hl:Cf (fun i=>places[i]?) (zero.map .c) (ps.toList.map fun p=>(p.1,Ms.ev ⟨t,σ⟩ p.2))=some l):
  LQ P N σ Al o t ((Bc t (ps.toList.map (·.2))).map fun y=>(y,.all)) (Ai l):=by
 intro C ρ F a w D T t' hag hal hp next Q hn
 obtain⟨xs,hxs⟩: ∃xs,xs=ps.toList.map (·.2):=⟨_,rfl⟩
 rw [<-hxs]at hap hn;have hopx: ∀y,Operand.tmp y∈xs->t' y=t y:=fun y hy=>hag y (.inl<|Dr (by rw [ho];show _∈(ps.toList.map (·.2)).toArray;rw [hxs]at hy;simpa using hy))
 have hev: ∀x∈xs,Ms.ev ⟨t',σ⟩ x=Ms.ev ⟨t,σ⟩ x:=by
  intro x hx;cases x with
  |tmp y=>exact hopx y hx
  |const v=>rfl
  |global g=>rfl
  |func f=>rfl
 have hmap:xs.map (Is t')=xs.map (Is t):=Di fun x hx y e=>hopx y (e▸hx)
 have hap':Cu (xs.map (Is t'))=true:=by rw [hmap];exact hap
 have htk:Bc t' xs=Bc t xs:=by rw [BS,BS,hmap]
 have hb: ∃z:Value,z.cells.toList=zero/\(∀v∈zero,v.oneCell'=true)/\∀parts cells,Instr.fill (fun i=>places[i]?) z.cells parts=some cells->P.built ty parts=some cells:=by
  unfold Zg at hbi;split at hbi<;>try (cases hbi;done)
  rename_i it fields hit hu;split at hbi<;>try (cases hbi;done)
  rename_i z places' hz hpl;split at hbi<;>try (cases hbi;done)
  rename_i hone;simp only [Option.some.injEq,Prod.mk.injEq]at hbi;obtain⟨rfl,rfl⟩:=hbi;refine⟨z,rfl,aET.1 hone,fun parts cells hf=>?_⟩
  unfold Program.built;simp only [hit,hu,hz,hpl];simpa using hf
 obtain⟨z,rfl,hz1,hbuilt⟩:=hb
 have hzero:Xt D w (An σ ρ w) (z.cells.toList.map .c) z.cells fun _=>noF:=by
  refine⟨by simp,fun j hj=>?_,fun _ _ _ _ h=>h.elim⟩
  simp at hj;simp [hj];exact⟨rfl,hz1 _ (by simp),fun _ h=>h⟩
 obtain⟨cs',G',hfill,hrel,hG⟩:=Qi (fun v cv h=>An.one h) (fun i=>places[i]?) (ps.toList.map fun p=>(p.1,Ms.ev ⟨t,σ⟩ p.2)) (ps.toList.map fun p=>(p.1,a.eval p.2)) _ l _ _ (opF t' T xs) hl hzero (by simp) (fun j i v hj=>by
  simp only [List.getElem?_map]at hj⊢;cases hq:ps.toList[j]? with
  |none=>simp [hq]at hj
  |some q=>
   simp only [hq,Option.map_some,Option.some.injEq,Prod.mk.injEq]at hj⊢;obtain⟨rfl,rfl⟩:=hj;have hqm:=List.mem_of_getElem? hq;refine⟨hok q hqm,_,⟨rfl,rfl⟩,?_⟩;have hx:xs[j]? =some q.2:=by rw [hxs,List.getElem?_map,hq];rfl
   rw [<-hev q.2 (List.mem_of_getElem? hx)];exact hp.opF_rel hx) (hp.opF_dis hap') (fun _ _ _ h=>h.elim)
 have hrun:=run_build w ty (ps.map fun p=>(p.1,a.eval p.2)) cs' (hbuilt _ _ (by simpa using hfill))
 have hex:(execOp a.eval o).run P w= .ok (.value (.agg cs')) w:=by
  unfold execOp;rw [ho];simp only [Sem.run_bind];rw [show(Array.map (fun x=>match x with|(i,x)=>(i,a.eval x)) ps)=ps.map (fun p=>(p.1,a.eval p.2))from rfl,hrun]
  rfl
 unfold Oper.wp;rw [hex];show next (a.put o.dst (.agg cs')) w
 rw [hd]at hn⊢;have hr:Rel D w (An σ ρ w) (Ai l) (.agg cs') (fun b=>∃k,k<l.length/\G' k b):=⟨cs',G',rfl,hrel.sz,fun k hk=>hrel.rel k hk,fun k k' b _ _ hne=>hrel.dis k k' b hne,fun b=>Iff.rfl⟩
 obtain⟨T',hp',hT'⟩:=hp.take (xs:=xs) (d:=d) (Below.refl _ _) hr (fun b ⟨k,_,hb⟩=>.inl ((hG k b hb).resolve_left fun h=>h)) hdn
 rw [htk]at hp';exact hn _ _ _ _ hp' (fun x b hb=>(hT' x b hb).imp (fun e=>by rw [e]) fun h=>h) fun _ hx=>BJ hx
theorem Mu{Al:Nat->Nat->Prop}{P:Program}{N:Nat}{σ:List V}{o:Oper}{t:Nat->V}{ty:TypeId}{len:Nat}{ps:Array (Nat×Operand)}{d:Nat}{e:TypeId}{size bytes:Nat}{zero:List Value}{l:List V}(ho:o.op= .buildSlice ty len ps)(hd:o.dst=some d)(hdn:d<N)(hsi:slI P ty=some ⟨e,size,bytes,zero⟩)
  (hs00:0<size) (hlen:len*size<=16777216) (hap:Cu ((ps.toList.map (·.2)).map (Is t))=true) (hok: ∀p∈ps.toList,HE (Ms.ev ⟨t,σ⟩ p.2)=true) (hl:Cf (fun i=>some (i*size,size)) ((List.range (len*size)).map fun j=>.c (zero.getD (j % size) undef)) (ps.toList.map fun p=>(p.1,Ms.ev ⟨t,σ⟩ p.2))=some l)
  (himm: ∀v∈l,BX v=true\/∃s sz n f,v= .nd s true sz n f):
  LQ P N σ Al o t ((Bc t (ps.toList.map (·.2))).map fun y=>(y,.all)) (.nd true true size len fun i k=>l.getD (i*size+k) .dead):=by
 intro C ρ F a w D T t' hag hal hp next Q hn
 obtain⟨xs,hxs⟩: ∃xs,xs=ps.toList.map (·.2):=⟨_,rfl⟩
 rw [<-hxs]at hap hn;have hopx: ∀y,Operand.tmp y∈xs->t' y=t y:=fun y hy=>hag y (.inl<|Dr (by rw [ho];show _∈(ps.toList.map (·.2)).toArray;rw [hxs]at hy;simpa using hy))
 have hev: ∀x∈xs,Ms.ev ⟨t',σ⟩ x=Ms.ev ⟨t,σ⟩ x:=by
  intro x hx;cases x with
  |tmp y=>exact hopx y hx
  |const v=>rfl
  |global g=>rfl
  |func f=>rfl
 have hmap:xs.map (Is t')=xs.map (Is t):=Di fun x hx y e=>hopx y (e▸hx)
 have hap':Cu (xs.map (Is t'))=true:=by rw [hmap];exact hap
 have htk:Bc t' xs=Bc t xs:=by rw [BS,BS,hmap]
 obtain⟨hu,i0,z,hi0,hz,his,_,hzl,hzs,hz1⟩:=CW hsi;simp only at hu hi0 his hzl hzs hz1
 have hzero:Xt D w (An σ ρ w) ((List.range (len*size)).map fun j=>.c (zero.getD (j % size) undef)) ((Array.range (len*size)).map (z.cells[· % z.cells.size]!)) fun _=>noF:=by
  refine⟨by simp,fun j hj=>?_,fun _ _ _ _ h=>h.elim⟩
  simp at hj;have hm:j % size<z.cells.size:=by rw [hzs];exact Nat.mod_lt _ hs00
  have e1:(zero.getD (j % size) undef)=z.cells[j % z.cells.size]!:=by
   rw [<-hzl,hzs,getElem!_pos z.cells (j % size) hm];simp [hm]
  simp [hj];refine⟨?_,?_,fun _ h=>h⟩
  ·have:=e1.symm
   simpa using this
  ·refine hz1 _ ?_
   have hl0:j % size<zero.length:=by rw [<-hzl];simpa using hm
   simp [gEE hl0]
 obtain⟨cs',G',hfill,hrel,hG⟩:=Qi (fun v cv h=>An.one h) (fun i=>some (i*size,size)) (ps.toList.map fun p=>(p.1,Ms.ev ⟨t,σ⟩ p.2)) (ps.toList.map fun p=>(p.1,a.eval p.2)) _ l _ _ (opF t' T xs) hl hzero (by simp) (fun j i v hj=>by
  simp only [List.getElem?_map]at hj⊢;cases hq:ps.toList[j]? with
  |none=>simp [hq]at hj
  |some q=>
   simp only [hq,Option.map_some,Option.some.injEq,Prod.mk.injEq]at hj⊢;obtain⟨rfl,rfl⟩:=hj;have hqm:=List.mem_of_getElem? hq;refine⟨hok q hqm,_,⟨rfl,rfl⟩,?_⟩;have hx:xs[j]? =some q.2:=by rw [hxs,List.getElem?_map,hq];rfl
   rw [<-hev q.2 (List.mem_of_getElem? hx)];exact hp.opF_rel hx) (hp.opF_dis hap') (fun _ _ _ h=>h.elim)
 have hlenl:l.length=len*size:=by
  have h2: ∀ (parts:List (Nat×V)) (cells l':List V),Cf (fun i=>some (i*size,size)) cells parts=some l'->l'.length=cells.length:=by
   intro parts
   induction parts with
   |nil=>intro cells l' h;simp [Cf]at h;rw [h]
   |cons p parts ih=>
    intro cells l' h;obtain⟨i,v⟩:=p;simp only [Cf]at h;split at h
    ·cases h
    ·rw [ih _ _ h]
     have: ∀ (l:List V) (k:Nat) (c:List V),((l.zipIdx k).foldl (fun cs (c,j)=>cs.set (i*size+j) c) c).length=c.length:=by
      intro l
      induction l with
      |nil=>intro k c;rfl
      |cons v l ih=>intro k c;simp only [List.zipIdx_cons,List.foldl_cons];rw [ih];simp
     exact this _ 0 _
  have:=h2 _ _ _ hl;simpa using this
 have hex:(execOp a.eval o).run P w= .ok (.value (.slice (some ⟨w.heap.size,0,none⟩) len len)) (w.alloc (.cells cs' e)):=by
  have hn: ¬ (16777216<len*size):=by omega
  unfold execOp;rw [ho];by_cases h0:len*size=0
  ·have hfill':Instr.fill (fun i=>some (i*size,size)) #[] (ps.toList.map fun p=>(p.1,a.eval p.2))=some cs':=by
    have:(Array.range (len*size)).map (z.cells[· % z.cells.size]!)= #[]:=by rw [h0];simp
    rw [<-this];exact hfill
   simp [Instr.buildSlice,run_underlying hu,sizeOf,typeInfo,hi0,his,hn,h0,newRow];simp [Array.range_zero',hfill']
  ·simp [Instr.buildSlice,run_underlying hu,sizeOf,typeInfo,zeroValue,hi0,hz,his,hn,h0,newRow]
   simp [hfill]
 have hB:Below w.heap.size w (w.alloc (.cells cs' e)):=(Below.refl _ _).alloc (Nat.le_refl _) _;have hblk:(w.alloc (.cells cs' e)).heap[w.heap.size]? =some (.cells cs' e (0,0)):=by show(w.heap.push _)[w.heap.size]? =_;simp
 have hold: ∀k b,G' k b->b<w.heap.size:=by
  intro k b hb;obtain⟨i,hi⟩:=(hG k b hb).resolve_left fun h=>h
  obtain⟨y,_,_,_,hT⟩:=DI hi;by_cases hy:y<N
  ·exact Rel.lt _ _ _ (hp.tm y hy) b hT
  ·exact absurd hT (hp.tx y b (Nat.le_of_not_lt hy))
 have hsz:cs'.size=len*size:=by rw [hrel.sz];exact hlenl
 have hcell: ∀i k,i<len->k<size->i*size+k<l.length:=fun i k hi hk=>by
  rw [hlenl];have:(i+1)*size<=len*size:=Nat.mul_le_mul_right _ (by omega)
  rw [Nat.add_mul]at this;omega
 have hmax:len<=maxLen:=by have:=Nat.le_mul_of_pos_right len hs00;unfold maxLen;omega
 have hr:Rel D (w.alloc (.cells cs' e)) (An σ ρ (w.alloc (.cells cs' e))) (.nd true true size len fun i k=>l.getD (i*size+k) .dead) (.slice (some ⟨w.heap.size,0,none⟩) len len) (fun b=>b=w.heap.size\/∃i k,i<len/\k<size/\G' (i*size+k) b):=by
  refine .inr ⟨w.heap.size,0,len,fun i k=>G' (i*size+k),rfl,Nat.le_refl _,hmax,(fun h=>by cases h),fun i k hi hk=>?_,(fun h=>by cases h),fun _=>⟨⟨cs',e,.plain hblk,by rw [hsz,Nat.zero_add];exact Nat.le_refl _⟩,fun i k hi hk hF=>?_,fun i k i' k' b hi hk hi' hk' hne hF hF'=>?_,fun _=>Iff.rfl⟩⟩
  ·have hlt:=hcell i k hi hk
   refine⟨cs'.getD (i*size+k) undef,?_,?_⟩
   ·unfold World.cell?
    have:i*size+k<cs'.size:=by rw [hsz,<-hlenl];exact hlt
    simp only [hblk,Option.isSome_none,Bool.false_eq_true,if_false,Nat.zero_add];simp [this]
   ·have h5:=hrel.rel _ hlt
    refine Rel.mono (fun _ h=>h) (fun _ _ h=>h) _ _ _ (fun b hb=>Below.heap_alloc _ _ _ ?_) (?_:Rel D w noR _ _ _)
    ·rcases hb with hb|hb
     ·exact hp.wr.Dlt b hb
     ·exact hold _ b hb
    ·have hm:l.getD (i*size+k) .dead∈l:=by
      rw [gDE,gEE hlt];exact List.getElem_mem hlt
     rcases himm _ hm with h6|⟨s,sz,n,f,h6⟩
     ·exact CL h6 h5
     ·show Rel D w noR (l.getD (i*size+k) .dead) _ (G' (i*size+k))
      rw [h6]at h5⊢;exact h5
  ·have:=hold _ _ hF
   omega
  ·refine hrel.dis _ _ b ?_ hF hF'
   intro he;have e1:=congrArg (· /size) he
   have e2:=congrArg (· % size) he
   simp only [Nat.mul_comm i size,Nat.mul_comm i' size,Nat.mul_add_mod,Nat.mod_eq_of_lt hk,Nat.mod_eq_of_lt hk']at e2;subst e2;have:i*size=i'*size:=by omega
   have:=Nat.eq_of_mul_eq_mul_right hs00 this;omega
 unfold Oper.wp;rw [hex];show next (a.put o.dst _) _
 rw [hd]at hn⊢
 obtain⟨T',hp',hT'⟩:=hp.take (xs:=xs) (d:=d) hB hr (fun b hb=>by
  rcases hb with rfl|⟨i,k,_,_,hb⟩
  ·exact .inr (Nat.le_refl _)
  ·exact .inl ((hG _ b hb).resolve_left fun h=>h)) hdn
 rw [htk]at hp';exact hn _ _ _ _ hp' (fun x b hb=>(hT' x b hb).imp (fun e=>by rw [e]) fun h=>h) fun _ hx=>BJ hx
theorem D8(b:Nat): ∀ (vs:List Value) (o:Nat) (w:World) (k:Nat),k≠b->(w.setCells b o vs).heap[k]? =w.heap[k]?
 | [],_,_,_,_=>rfl
 |v::r,o,w,k,h=>by
  rw [World.setCells,D8 b r (o+1) _ k h];exact Below.heap_setCell w ⟨b,o,none⟩ v k h
theorem II(b:Nat){T:TypeId}{fz:Nat×Nat}: ∀ (vs:List Value) (o:Nat) (w:World) (cs:Array Value),w.heap[b]? =some (.cells cs T fz)->∃cs',(w.setCells b o vs).heap[b]? =some (.cells cs' T fz)/\cs'.size=cs.size
 | [],_,_,cs,h=>⟨cs,h,rfl⟩
 |v::r,o,w,cs,h=>by
  have h1:(w.setCell ⟨b,o,none⟩ v).heap[b]? =some (.cells (cs.setIfInBounds o v) T fz):=by
   unfold World.setCell;simp only [Array.getElem?_modify,h];simp
  obtain⟨cs',h2,h3⟩:=II b r (o+1) _ _ h1;exact⟨cs',h2,by rw [h3];simp⟩
theorem Hu(b:Nat): ∀ (vs:List Value) (o:Nat) (w:World),(w.setCells b o vs).os=w.os/\(w.setCells b o vs).tape=w.tape/\(w.setCells b o vs).output=w.output/\(w.setCells b o vs).heap.size=w.heap.size/\(w.setCells b o vs).drawn=w.drawn
 | [],_,_=>⟨rfl,rfl,rfl,rfl,rfl⟩
 |v::r,o,w=>by
  obtain⟨h1,h2,h3,h4,h5⟩:=Hu b r (o+1) (w.setCell ⟨b,o,none⟩ v);exact⟨h1,h2,h3,by rw [World.setCells,h4];simp,h5⟩
theorem HK{y x:Nat}{tk:Tk}{l:List (Nat×Tk)}(h:x≠y):Bj ((y,tk)::l) x=Bj l x:=if_neg (Ne.symm h)
theorem HL{y:Nat}{tk:Tk}{l:List (Nat×Tk)}:Bj ((y,tk)::l) y=some tk:=if_pos rfl
theorem YD{Al:Nat->Nat->Prop}{P:Program}{N:Nat}{σ:List V}{o:Oper}{t:Nat->V}{ty:TypeId}{p:Nat}{x:Operand}{size:Nat}{agg:Bool}{zero:List Value}{lp:List V}(ho:o.op= .store ty (.tmp p) x)(hd:o.dst=none)(hti:tyI P ty=some ⟨agg,size,zero⟩)
  (htp:t p=Bk true lp) (hlp:lp.length=size) (hpn:p<N) (hxp:x≠.tmp p) (hok:HE (Ms.ev ⟨t,σ⟩ x)=true) (hlen:(cellsV (Ms.ev ⟨t,σ⟩ x)).length=size) (himm: ∀v∈cellsV (Ms.ev ⟨t,σ⟩ x),BX v=true\/∃s sz n f,v= .nd s true sz n f)
  (hone: ∀v∈cellsV (Ms.ev ⟨t,σ⟩ x),Xl v=true):
  LQ P N σ Al o t ((p,.put (Bk true (cellsV (Ms.ev ⟨t,σ⟩ x))))::(Bc t [x]).map fun y=>(y,.all)) .dead:=by
 intro C ρ F a w D T t' hag hal hp next Q hn
 rw [hd]at hn;have hopp:t' p=t p:=hag p (.inl<|Dr (by rw [ho];simp [Op.operands]))
 have hopx: ∀y,x= .tmp y->t' y=t y:=fun y hy=>hag y (.inl<|Dr (by rw [ho,hy];simp [Op.operands]))
 have hev:Ms.ev ⟨t',σ⟩ x=Ms.ev ⟨t,σ⟩ x:=by
  cases x with
  |tmp y=>exact hopx y rfl
  |const v=>rfl
  |global g=>rfl
  |func f=>rfl
 have hmap: [x].map (Is t')= [x].map (Is t):=Di fun x' hx y e=>by rw [List.mem_singleton]at hx;subst hx;exact hopx y e
 have htk:Bc t' [x]=Bc t [x]:=by rw [BS,BS,hmap]
 have hnp:p∉Bc t [x]:=by
  intro hm;obtain⟨u,hu,he⟩:=List.mem_filterMap.1 hm;rw [List.mem_singleton]at hu;subst hu;cases u with
  |tmp z=>
   cases ho':AS (t z)with
   |true=>
    rw [I2 ho']at he;cases he;exact hxp rfl
   |false=>
    have:Is t (.tmp z)=none:=by show(if AS (t z)=true then some z else none)=none;rw [if_neg (by simp [ho'])]
    rw [this]at he;cases he
  |const v=>cases he
  |global g=>cases he
  |func f=>cases he
 -- the value's cells
 have hrx:=hp.opF_rel (xs:=[x]) (j:=0) (x:=x) rfl;rw [hev]at hrx;obtain⟨H,hcr,hHF⟩:=JV (fun v cv h=>An.one h) hok hrx
 obtain⟨L,hL⟩: ∃L,L=cellsV (Ms.ev ⟨t,σ⟩ x):=⟨_,rfl⟩;rw [<-hL]at hcr hlen himm hone hn;obtain⟨vs,hvs⟩: ∃vs,vs=(a.eval x).cells.toList:=⟨_,rfl⟩;have hvl:vs.length=L.length:=by rw [hvs];simpa using hcr.sz
 have hcell: ∀j,j<L.length->Rel D w (An σ ρ w) (L.getD j .dead) (vs.getD j undef) (H j):=fun j hj=>by
  have:=hcr.rel j hj;rw [hvs];simpa using this
 -- the struct's block
 have hrp:=hp.tm p hpn;rw [hopp,htp]at hrp;rcases hrp with⟨h0,h1,_⟩|⟨b,of,cap,F0,hcv,hcap,hmax,hs1,hc,_,hown⟩
 ·cases h1
 obtain⟨⟨cs,Tt,hb1,hb2⟩,hbF,hFd,hfp⟩:=hown rfl;have hTb:T p b:=(hfp b).2 (.inl rfl);have hcv:a.eval (.tmp p)= .pointer (some ⟨b,of,none⟩):=hcv;have hlt:b<w.heap.size:=hb1.lt;have hob:=hb1;obtain⟨fzz,hb1,hbz⟩:=hb1;have hcap1:cap*lp.length≥lp.length:=Nat.le_mul_of_pos_left _ (by omega)
 have hcells: ∀j,j<vs.length->∃y,w.cell? ⟨b,of+j,none⟩=some y:=by
  intro j hj;have:of+j<cs.size:=by omega
  unfold World.cell?;simp only [hb1,Option.isSome_none,Bool.false_eq_true,if_false];exact⟨_,Array.getElem?_eq_getElem this⟩
 have hfz: ∀j,j<vs.length->w.frozen? ⟨b,of+j,none⟩=false:=fun j hj=>by
  obtain⟨y,hy⟩:=hcells j hj;exact hob.frozen hy
 have h1c: ∀v∈vs,v.oneCell'=true:=by
  intro v hv;obtain⟨j,hj,rfl⟩:=List.getElem_of_mem hv;have hj':j<L.length:=by omega
  have h1:=hcell j hj';have hm:L.getD j .dead∈L:=by
   rw [gDE,gEE hj'];exact List.getElem_mem hj'
  have:=(Rel.cells1 h1 (fun v cv h=>An.one h) (hone _ hm)).2
  simpa [hj]using this
 obtain⟨dd,tii,z,hdt,hit,hz,his,_⟩:=Dh hti;simp only at his;have hrun:=run_storeCells_cells (P:=P) b of vs 0 w (fun j hj=>by obtain⟨y,hy⟩:=hcells j hj;simp [hy]) (fun j hj=>by rw [Nat.add_zero];exact hfz j hj) h1c
 obtain⟨w',hw'⟩: ∃w',w'=w.setCells b (of+0) vs:=⟨_,rfl⟩;rw [<-hw']at hrun;obtain⟨g1,g2,g3,g4,g5⟩:=Hu b vs (of+0) w;obtain⟨cs2,hb3,hb4⟩:=II b vs (of+0) w cs hb1;have hoth: ∀k,k≠b->w'.heap[k]? =w.heap[k]?:=fun k hk=>by rw [hw'];exact D8 b vs _ w k hk
 rw [<-hw']at g1 g2 g3 g4 g5 hb3
 have hin: ∀j (hj:j<vs.length),w'.cell? ⟨b,of+j,none⟩=some vs[j]:=by
  intro j hj;rw [hw'];exact World.cell?_setCells_in b vs (of+0) w (fun j hj=>by obtain⟨y,hy⟩:=hcells j hj;simp [hy]) j hj
 have hsv:(storeVar ty ⟨b,of,none⟩ (a.eval x)).run P w= .ok () w':=by
  have e:(a.eval x).cells.size=size:=by rw [hcr.sz];exact hlen
  simp only [storeVar,Sem.run_bind,sizeOf,typeInfo];rw [<-hvs];simp [hit,his,hrun,e]
 have hex:(execOp a.eval o).run P w= .ok .skip w':=by
  unfold execOp;rw [ho];simp [Instr.storeAt,hcv,Instr.sureAddr,hsv]
 unfold Oper.wp;rw [hex,Oper.upon_skip,hd]
 -- nothing else lies in the block
 have hTn: ∀y k,y≠p->T y k->k≠b:=fun y k hy hk e=>hp.tT y p k hy hk (e▸hTb)
 have hDn: ∀k,D k->k≠b:=fun k hk e=>hp.tD p b hTb (e▸hk)
 have hFn: ∀i k,F i k->k≠b:=fun i k hk e=>hp.tF i p k hk (e▸hTb)
 have hHT: ∀j k,H j k->∃y,y∈Bc t [x]/\T y k:=fun j k hk=>by
  obtain⟨y,_,_,hm,hT⟩:=DI (hHF j k hk);exact⟨y,htk▸hm,hT⟩
 have hHn: ∀j k,H j k->k≠b:=fun j k hk=>by
  obtain⟨y,hm,hT⟩:=hHT j k hk;exact hTn y k (fun e=>hnp (e▸hm)) hT
 have kM: ∀y,AU ((p,.put (Bk true L))::(Bc t [x]).map fun y=>(y,.all)) t' y=if y=p then Bk true L else if y∈Bc t [x]then .dead else t' y:=by
  intro y;unfold AU;by_cases hy:y=p
  ·subst hy
   rw [HL,if_pos rfl];rfl
  ·rw [HK hy,NG,if_neg hy]
   split<;>rfl
 have hsame: ∀k,k≠b->w'.heap[k]? =w.heap[k]?:=hoth
 have hnew:Rel D w' (An σ ρ w') (Bk true L) (a.tmps.getD p undef) (fun k=>k=b\/∃j,j<L.length/\H j k):=by
  refine .inr ⟨b,of,cap,fun i j=>H j,hcv,hcap,hmax,fun _=>rfl,fun i k hi hk=>?_,(fun h=>by cases h),fun _=>⟨⟨cs2,Tt,⟨fzz,hb3,by rw [hb4];exact hbz⟩,?_⟩,fun i k hi hk hF=>hHn k b hF rfl,fun i k i' k' c hi hk hi' hk' hne hF hF'=>?_,fun c=>?_⟩⟩
  ·obtain rfl:i=0:=by omega
   have hk':k<vs.length:=by omega
   refine⟨vs[k],by simpa using hin k hk',?_⟩
   have h5:=hcell k hk;have e5:vs.getD k undef=vs[k]:=by simp [hk']
   rw [e5]at h5;refine Rel.mono (fun _ h=>h) (fun _ _ h=>h) _ _ _ (fun c hc=>hsame c ?_) (?_:Rel D w noR _ _ _)
   ·rcases hc with hc|hc
    ·exact hDn c hc
    ·exact hHn k c hc
   ·have hm:L.getD k .dead∈L:=by
     rw [gDE,gEE hk];exact List.getElem_mem hk
    show Rel D w noR (L.getD k .dead) vs[k] (H k);rcases himm _ hm with h6|⟨s,sz,n,f,h6⟩
    ·exact CL h6 h5
    ·rw [h6]at h5⊢
     exact h5
  ·rw [hb4,hlen,<-hlp];exact hb2
  ·exact hcr.dis k k' c (by omega) hF hF'
  ·constructor
   ·rintro (h|⟨j,hj,h⟩)
    ·exact .inl h
    ·exact .inr ⟨0,j,by omega,hj,h⟩
   ·rintro (h|⟨_,j,_,hj,h⟩)
    ·exact .inl h
    ·exact .inr ⟨j,hj,h⟩
 have wr':Bt σ w' D ρ F:=⟨fun i hi=>Rel.mono (fun _ h=>h) (fun _ _ h=>h) _ _ _ (fun k hk=>hsame k (hk.elim (hDn k) (hFn i k))) (hp.wr.rel i hi),hp.wr.disj,hp.wr.dD,fun k hk=>by rw [g4];exact hp.wr.Dlt k hk,hp.wr.out⟩
 have hsub: ∀k,(k=b\/∃j,j<L.length/\H j k)->T p k\/∃y,y∈Bc t [x]/\T y k:=by
  rintro k (rfl|⟨j,_,h⟩)
  ·exact .inl hTb
  ·exact .inr (hHT j k h)
 refine hn a w' D (fun y k=>if y=p then(k=b\/∃j,j<L.length/\H j k)else y∉Bc t [x]/\T y k) ⟨hp.df,hp.sz,fun y hy=>?_,wr',fun y hy=>?_,fun y k hk=>?_,fun i y k hk hT=>?_,fun y y' k hyy h1 h2=>?_,fun y k hk=>?_,⟨g1.trans hp.fr.os,g2.trans hp.fr.tape,g3.trans hp.fr.output,by rw [g4];exact hp.fr.size,fun k hk hW=>?_,by rw [g5];exact hp.fr.drawn⟩,hp.Fn,hp.D1,hp.D2,hp.rt,hp.ml,fun y k hy hk=>?_⟩ (fun y k hk=>?_) fun _ _=>rfl
 ·show AU _ t' y=_
  rw [kM,if_neg (by omega)]
  split
  ·rfl
  ·exact hp.dd y hy
 ·show Rel D w' (An σ ρ w') (AU _ t' y) _ _
  rw [kM];by_cases hyp:y=p
  ·subst hyp
   rw [if_pos rfl];exact Rel.fp_congr (fun k=>by show _↔(if y=y then _ else _);rw [if_pos rfl]) hnew
  ·rw [if_neg hyp]
   by_cases hm:y∈Bc t [x]
   ·rw [if_pos hm]
    intro k hk;have hk:(if y=p then(k=b\/∃j,j<L.length/\H j k)else y∉Bc t [x]/\T y k):=hk
    rw [if_neg hyp]at hk;exact hk.1 hm
   ·rw [if_neg hm]
    refine Rel.fp_congr (fp:=T y) (fun k=>by show _↔(if y=p then _ else _);rw [if_neg hyp];exact⟨fun h=>⟨hm,h⟩,fun h=>h.2⟩) ?_
    exact Rel.mono (fun _ h=>h) (fun v cv hv=>An.same hp.wr (fun i k hk=>hsame k (hFn i k hk)) v cv hv) _ _ _ (fun k hk=>hsame k (hk.elim (hDn k) (hTn y k hyp))) (hp.tm y hy)
 ·split at hk
  ·rcases hsub k hk with h|⟨y',_,h⟩
   ·exact hp.tD p k h
   ·exact hp.tD y' k h
  ·exact hp.tD y k hk.2
 ·split at hT
  ·rcases hsub k hT with h|⟨y',_,h⟩
   ·exact hp.tF i p k hk h
   ·exact hp.tF i y' k hk h
  ·exact hp.tF i y k hk hT.2
 ·have one: ∀z,z≠p->z∉Bc t [x]->T z k->(k=b\/∃j,j<L.length/\H j k)->False:=by
   intro z hz hm hT h;rcases hsub k h with h|⟨y'',hm',h⟩
   ·exact hp.tT z p k hz hT h
   ·exact hp.tT z y'' k (fun e=>hm (e▸hm')) hT h
  split at h1<;>split at h2
  ·rename_i e1 e2;exact absurd (e1.trans e2.symm) hyy
  ·rename_i e1 e2;exact one y' e2 h2.1 h2.2 h1
  ·rename_i e1 e2;exact one y e1 h1.1 h1.2 h2
  ·exact hp.tT y y' k hyy h1.2 h2.2
 ·split at hk
  ·rcases hsub k hk with h|⟨y',_,h⟩
   ·exact hp.tn p k h
   ·exact hp.tn y' k h
  ·exact hp.tn y k hk.2
 ·have:k≠b:=fun e=>by
   rcases hp.tn p b hTb with h|h
   ·exact hW (e▸h)
   ·omega
  rw [hsame k this];exact hp.fr.block k hk hW
 ·have hk:(if y=p then(k=b\/∃j,j<L.length/\H j k)else y∉Bc t [x]/\T y k):=hk
  rw [if_neg (by omega)]at hk
  exact hp.tx y k hy hk.2
 ·have hk:(if y=p then(k=b\/∃j,j<L.length/\H j k)else y∉Bc t [x]/\T y k):=hk
  split at hk
  ·rename_i e;exact .inr ⟨b,e▸hTb⟩
  ·exact .inr ⟨k,hk.2⟩
end Go.Ve


namespace Go.Ve
def FCU(P:Program)(f:FuncId)(k:Nat)(args:List V)(c0 r c1:V):Prop:=
 ∀ (w:World) (D H:Nat->Prop) (cvs:Array Value),Wok w->(∀p,Zx=some p->¬H p.1)->(∀b,D b->b<w.heap.size)->(∀b,H b->¬D b)->cvs.size=args.length->
  Rel D w noR c0 (cvs.getD k undef) H->(∀i,i<args.length->i≠k->Rel D w noR (args.getD i .dead) (cvs.getD i undef) noF)->
  Calls P f cvs w fun e w'=>∃cv fp D' H',e= .returned cv/\Fr w w' H/\Rel D' w' noR r cv fp/\Rel D' w' noR c1 (cvs.getD k undef) H'/\
   (∀b,fp b->H b\/w.heap.size<=b)/\(∀b,H' b->H b\/w.heap.size<=b)/\(∀b,fp b->¬H' b)/\
   (∀b,D b->D' b)/\(∀b,D' b->D b\/H b\/w.heap.size<=b)/\∀b,D' b->b<w'.heap.size/\¬fp b/\¬H' b
def clean:V->Prop
 | .many _ n f=>∀k,k<n->clean (f k)
 | .rs _ _ _ _=>False
 | .rp _ _ _ _=>False
 |_=>True
theorem Rel.clean{D:Nat->Prop}{w:World}: ∀ (v:V) (R R':V->Value->Prop) (cv:Value) (fp:Nat->Prop),Go.Ve.clean v->Rel D w R v cv fp->Rel D w R' v cv fp:=by
 intro v
 induction v with
 |c v=>intro R R' cv fp _ h;exact h
 |dead=>intro R R' cv fp _ h;exact h
 |many t n f ih=>
  intro R R' cv fp hc h;obtain⟨cs,F,hcv,hn,hr,hd,hf⟩:=h;exact⟨cs,F,hcv,hn,fun k hk=>ih k R R' _ _ (hc k hk) (hr k hk),hd,hf⟩
 |nd s own sz n f ih=>intro R R' cv fp _ h;exact h
 |rs=>intro R R' cv fp hc h;exact hc.elim
 |rp=>intro R R' cv fp hc h;exact hc.elim
def KQ(c:V):Prop:=∃s sz n f,c= .nd s true sz n f/\(s=false\/0<n)
theorem KQ.some{D:Nat->Prop}{w:World}{R:V->Value->Prop}{c:V}{cv:Value}{H:Nat->Prop}(hc:KQ c)(h:Rel D w R c cv H): ∃b,H b:=by
 obtain⟨s,sz,n,f,rfl,hs⟩:=hc;rcases h with⟨h1,h2,_⟩|⟨b,o,cap,F,hcv,hcap,hmax,hs1,hr,hi,ho⟩
 ·rcases hs with hs|hs
  ·rw [hs]at h2;cases h2
  ·omega
 ·exact⟨b,((ho rfl).2.2.2 b).2 (.inl rfl)⟩
section
variable {C:Ctx} {N:Nat} {σ:List V} {ρ:Nat->Value} {F:Nat->Nat->Prop} {t:Nat->V} {a:Act} {w:World} {D:Nat->Prop} {T:Nat->Nat->Prop}
theorem PR.turn(h:PR C N σ ρ F t a w D T){y d:Nat}{r c1:V}{v':Value}{fp H' D':Nat->Prop}{w':World}(hy:y<N)(hdn:d<N)(hyd:y≠d)(hfr:Fr w w' (T y))(hr:Rel D' w' noR r v' fp)(hc:Rel D' w' noR c1 (a.tmps.getD y undef) H')
  (hf: ∀b,fp b->T y b\/w.heap.size<=b) (hH: ∀b,H' b->T y b\/w.heap.size<=b) (hfH: ∀b,fp b->¬H' b) (hd1: ∀b,D b->D' b) (hd2: ∀b,D' b->D b\/T y b\/w.heap.size<=b) (hd3: ∀b,D' b->b<w'.heap.size/\¬fp b/\¬H' b):
  PR C N σ ρ F (AV (AU [(y,.put c1)] t) d r) (a.put (some d) v') w' D' (fun x b=>if x=d then fp b else if x=y then H' b else T x b):=by
 have hFlt: ∀i b,F i b->b<w.heap.size:=h.wr.lt;have hTlt: ∀x b,T x b->b<w.heap.size:=by
  intro x b hb;by_cases hx:x<N
  ·exact Rel.lt _ _ _ (h.tm x hx) b hb
  ·exact absurd hb (h.tx x b (Nat.le_of_not_lt hx))
 have kM: ∀x,AU [(y,.put c1)] t x=if x=y then c1 else t x:=by
  intro x;unfold AU;by_cases hx:x=y
  ·subst hx
   rw [if_pos rfl];show H8 (if x=x then some (.put c1)else none) _=_
   rw [if_pos rfl];rfl
  ·rw [if_neg hx]
   show H8 (if y=x then some (.put c1)else none) _=_
   rw [if_neg (Ne.symm hx)];rfl
 have hD: ∀b,D b->w'.heap[b]? =w.heap[b]?:=fun b hb=>hfr.block b (h.wr.Dlt b hb) fun hT=>h.tD y b hT hb
 have hFs: ∀i b,F i b->w'.heap[b]? =w.heap[b]?:=fun i b hb=>hfr.block b (hFlt i b hb) fun hT=>h.tF i y b hb hT
 have hTs: ∀x b,x≠y->T x b->w'.heap[b]? =w.heap[b]?:=fun x b hx hb=>hfr.block b (hTlt x b hb) fun hT=>h.tT x y b hx hb hT
 have wr':Bt σ w' D' ρ F:=by
  refine⟨fun i hi=>Rel.mono hd1 (fun _ _ h=>h) _ _ _ (fun b hb=>hb.elim (hD b) (hFs i b)) (h.wr.rel i hi),h.wr.disj,fun i b hb hDb=>?_,fun b hb=>(hd3 b hb).1,h.wr.out⟩
  rcases hd2 b hDb with h1|h1|h1
  ·exact h.wr.dD i b hb h1
  ·exact h.tF i y b hb h1
  ·have:=hFlt i b hb;omega
 have hW: ∀b,T y b\/w.heap.size<=b->C.W b\/C.w0.heap.size<=b:=fun b hb=>hb.elim (h.tn y b) fun hb=>.inr (Nat.le_trans h.fr.size hb)
 refine⟨h.df,by rw [BW];simpa using h.sz,fun x hx=>?_,wr',fun x hx=>?_,fun x b hb=>?_,fun i x b hb hT=>?_,fun x z b hxz h1 h2=>?_,fun x b hb=>?_,⟨hfr.os.trans h.fr.os,hfr.tape.trans h.fr.tape,hfr.output.trans h.fr.output,Nat.le_trans h.fr.size hfr.size,fun b hb hWb=>?_,Nat.le_trans h.fr.drawn hfr.drawn⟩,h.Fn,fun b hb=>hd1 b (h.D1 b hb),fun b hb hlt=>?_,h.rt,h.ml,fun x b hx hb=>?_⟩
 ·have h1: ¬x=d:=by omega
  have h2: ¬x=y:=by omega
  simp only [AV,h1,if_false];rw [kM,if_neg h2];exact h.dd x hx
 ·have hlt:x<a.tmps.size:=by rw [h.sz];exact hx
  rw [BW];by_cases he:x=d
  ·subst he
   simp only [AV,if_true];have:Rel D' w' (An σ ρ w') r v' (fun b=>if x=x then fp b else if x=y then H' b else T x b):=Rel.fp_congr (fun b=>by rw [if_pos rfl]) (Rel.noR_mono hr)
   simpa [hlt]using this
  ·simp only [AV,he,if_false]
   rw [Array.getD_eq_getD_getElem?,Array.getElem?_setIfInBounds_ne (Ne.symm he),<-Array.getD_eq_getD_getElem?,kM];by_cases hxy:x=y
   ·subst hxy
    simp only [if_true];exact Rel.noR_mono hc
   ·simp only [hxy,if_false]
    exact Rel.mono hd1 (fun v cv hv=>An.same h.wr hFs v cv hv) _ _ _ (fun b hb=>hb.elim (hD b) (hTs x b hxy)) (h.tm x hx)
 ·split at hb
  ·exact fun hDb=>(hd3 b hDb).2.1 hb
  ·split at hb
   ·exact fun hDb=>(hd3 b hDb).2.2 hb
   ·rename_i hxy
    intro hDb;rcases hd2 b hDb with h1|h1|h1
    ·exact h.tD x b hb h1
    ·exact h.tT x y b hxy hb h1
    ·have:=hTlt x b hb;omega
 ·have key:T y b\/w.heap.size<=b->False:=fun h1=>h1.elim (h.tF i y b hb) fun h1=>by have:=hFlt i b hb;omega
  split at hT
  ·exact key (hf b hT)
  ·split at hT
   ·exact key (hH b hT)
   ·exact h.tF i x b hb hT
 ·have key: ∀x,x≠y->T x b->T y b\/w.heap.size<=b->False:=fun x hxy hx h1=>h1.elim (h.tT x y b hxy hx) fun h1=>by have:=hTlt x b hx;omega
  split at h1<;>split at h2
  ·omega
  ·split at h2
   ·exact hfH b h1 h2
   ·rename_i _ _ hz;exact key z hz h2 (hf b h1)
  ·split at h1
   ·exact hfH b h2 h1
   ·rename_i hx _;exact key x (by assumption) h1 (hf b h2)
  ·split at h1<;>split at h2
   ·omega
   ·exact key z (by assumption) h2 (hH b h1)
   ·exact key x (by assumption) h1 (hH b h2)
   ·exact h.tT x z b hxz h1 h2
 ·split at hb
  ·exact hW b (hf b hb)
  ·split at hb
   ·exact hW b (hH b hb)
   ·exact h.tn x b hb
 ·rw [hfr.block b (Nat.lt_of_lt_of_le hb h.fr.size) fun hT=>by
   rcases h.tn y b hT with h1|h1
   ·exact hWb h1
   ·omega]
  exact h.fr.block b hb hWb
 ·rcases hd2 b hb with h1|h1|h1
  ·exact h.D2 b h1 hlt
  ·rcases h.tn y b h1 with h2|h2
   ·exact .inr h2
   ·omega
  ·have:=h.fr.size;omega
 ·have h1: ¬x=d:=by omega
  have h2: ¬x=y:=by omega
  simp only [h1,h2,if_false]at hb;exact h.tx x b hx hb
end
theorem An.setD{σ:List V}{ρ:Nat->Value}{w:World}{id:Nat}{u:V}(hd:σ.getD id .dead= .dead): ∀v cv,An σ ρ w v cv->An (σ.set id u) ρ w v cv:=by
 have ne: ∀ {p:List (Nat×Nat)} {cv cv':Value} {s o:Bool} {sz n:Nat} {f:Nat->Nat->V},¬At w p .dead cv (.nd s o sz n f) cv':=by
  intro p cv cv' s o sz n f h;cases p with
  |nil=>cases h.1
  |cons _ _=>exact h
 have get: ∀ {i:Nat},i≠id->(σ.set id u).getD i .dead=σ.getD i .dead:=by
  intro i hi;simp only [gDE];rw [List.getElem?_set_ne (Ne.symm hi)]
 intro v cv h;cases v with
 |rs i p off len=>
  obtain⟨h1,sz,n,f,cn,hat,h2⟩:=h;have hi:i≠id:=by
   rintro rfl
   rw [hd]at hat;exact ne hat
  exact⟨by simpa using h1,sz,n,f,cn,by rw [get hi];exact hat,h2⟩
 |rp i p j k=>
  obtain⟨h1,s,sz,n,f,b,o,cap,hat,h2⟩:=h;have hi:i≠id:=by
   rintro rfl
   rw [hd]at hat;exact ne hat
  exact⟨by simpa using h1,s,sz,n,f,b,o,cap,by rw [get hi];exact hat,h2⟩
 |_=>exact h
theorem PR.back{C:Ctx}{N:Nat}{σ:List V}{ρ:Nat->Value}{F:Nat->Nat->Prop}{t:Nat->V}{a:Act}{w:World}{D:Nat->Prop}{T:Nat->Nat->Prop}(h:PR C N σ ρ F t a w D T){y id sz:Nat}{f:Nat->Nat->V}(hy:y<N)(hid:id<σ.length)(hd:σ.getD id .dead= .dead)(ht:t y= .nd false true sz 1 f)(hsz:0<sz)(hv:a.tmps.getD y undef=ρ id):
  PR C N (σ.set id (t y)) ρ (fun i b=>if i=id then T y b else F i b) (AV t y (.rp id [] 0 0)) a w D (fun x b=>x≠y/\T x b):=by
 have get: ∀ {i:Nat},i≠id->(σ.set id (t y)).getD i .dead=σ.getD i .dead:=by
  intro i hi;simp only [gDE];rw [List.getElem?_set_ne (Ne.symm hi)]
 have self:(σ.set id (t y)).getD id .dead=t y:=by simp [hid]
 have hrel:Rel D w noR (t y) (ρ id) (T y):=by
  have h1:=h.tm y hy;rw [hv,ht]at h1;rw [ht];exact h1
 refine⟨h.df,h.sz,fun x hx=>?_,⟨fun i hi=>?_,fun i j b hij h1 h2=>?_,fun i b hb=>?_,h.wr.Dlt,fun i b hi hb=>?_⟩,fun x hx=>?_,fun x b hb=>h.tD x b hb.2,fun i x b hb hT=>?_,fun x z b hxz h1 h2=>h.tT x z b hxz h1.2 h2.2,fun x b hb=>h.tn x b hb.2,h.fr,fun i b hb=>?_,h.D1,h.D2,h.rt,by simpa using h.ml,fun x b hx hb=>h.tx x b hx hb.2⟩
 ·have: ¬x=y:=by omega
  simp only [AV,this,if_false];exact h.dd x hx
 ·have hi:i<σ.length:=by simpa using hi
  by_cases he:i=id
  ·subst he
   rw [self];exact Rel.fp_congr (fun b=>by rw [if_pos rfl]) hrel
  ·rw [get he]
   exact Rel.fp_congr (fun b=>by rw [if_neg he]) (h.wr.rel i hi)
 ·split at h1<;>split at h2
  ·omega
  ·exact h.tF j y b h2 h1
  ·exact h.tF i y b h1 h2
  ·exact h.wr.disj i j b hij h1 h2
 ·split at hb
  ·exact h.tD y b hb
  ·exact h.wr.dD i b hb
 ·have hi:σ.length<=i:=by simpa using hi
  rw [if_neg (by omega)]at hb
  exact h.wr.out i b hi hb
 ·by_cases he:x=y
  ·subst he
   simp only [AV,if_true];refine⟨?_,fun b hb=>hb.1 rfl⟩
   rw [ht]at hrel;rcases hrel with⟨h1,_⟩|⟨b,o,cap,G,hcv,_⟩
   ·omega
   ·refine⟨by simpa using hid,false,sz,1,f,b,o,cap,⟨by rw [self,ht],hcv.symm⟩,by omega,hsz,?_⟩
    rw [hv,hcv];simp [AD]
  ·simp only [AV,he,if_false]
   exact Rel.fp_congr (fun b=>⟨fun h=>⟨he,h⟩,fun h=>h.2⟩) (Rel.mono (fun _ h=>h) (An.setD hd) _ _ _ (fun _ _=>rfl) (h.tm x hx))
 ·split at hb
  ·exact h.tT x y b hT.1 hT.2 hb
  ·exact h.tF i x b hb hT.2
 ·split at hb
  ·exact h.tn y b hb
  ·exact h.Fn i b hb
theorem YC{Al:Nat->Nat->Prop}{P:Program}{N:Nat}{σ:List V}{o:Oper}{t:Nat->V}{f:FuncId}{xs:Array Operand}{ats:Array TypeId}{k y z d:Nat}{args:List V}{c0 r c1:V}(ho:o.op= .call ⟨.value (.func f),xs,ats⟩)(hd:o.dst=some d)(hdn:d<N)(hyn:y<N)(hyd:y≠d)(hcall:Af P f=true)
  (hk:xs[k]? =some (.tmp z)) (hz:z=y\/Al z y) (ht:Sub (t y) c0) (hnd: ∃s sz n f,c0= .nd s true sz n f) (hb:KQ c0\/c1= .dead) (hsz:xs.size=args.length) (hargs: ∀i x,i≠k->xs[i]? =some x->AS (Ms.ev ⟨t,σ⟩ x)=false/\clean (Ms.ev ⟨t,σ⟩ x)/\Sub (Ms.ev ⟨t,σ⟩ x) (args.getD i .dead)) (hc:FCU P f k args c0 r c1):
  LQ P N σ Al o t [(y,.put c1)] r:=by
 intro C ρ F a w D T t' hag hal hp next Q hn
 have hopx: ∀z,Operand.tmp z∈xs.toList->t' z=t z:=fun z hz=>hag z (.inl<|Dr (by rw [ho];simp [Op.operands,Call.operands]at hz⊢;simp [hz]))
 have hrun:(execOp a.eval o).run P w= .ok (.enter f (xs.map a.eval)) w:=by
  unfold Af at hcall;split at hcall
  ·rename_i fn hfn
   simp only [bAE,Bool.not_eq_true']at hcall;obtain⟨h1,h2⟩:=hcall;have h2':fn.body.isNone=false:=by cases hb:fn.body<;>simp [hb]at h2⊢
   have e0:a.eval (.func f)= .func (.func f) #[] #[]:=rfl;unfold execOp;rw [ho];simp [resolve,e0,Deferred.ofValue,invoke,callFunc,hfn,h2'];simp at h1;simp [h1];intro hb;simp [hb]at h2
  ·cases hcall
 have hks:k<xs.size:=(Array.getElem?_eq_some_iff.1 hk).1
 have hxk:(xs.map a.eval).getD k undef=a.tmps.getD y undef:=by
  have:xs[k]= .tmp z:=by
   have:=(Array.getElem?_eq_some_iff.1 hk).2;exact this
  have e:(xs.map a.eval).getD k undef=a.eval xs[k]:=by simp [hks]
  rw [e,this];show a.tmps.getD z undef=_;rcases hz with rfl|hz
  ·rfl
  ·exact hal z y hz
 have hty:t' y=t y:=hag y (.inr (by
  show(if y=y then some (Tk.put c1)else none)≠none
  rw [if_pos rfl];simp))
 have htm:=hp.tm y hyn;rw [hty]at htm;obtain⟨s0,sz0,n0,f0,hc0⟩:=hnd
 have hc0r:Rel D w noR c0 (a.tmps.getD y undef) (T y):=by
  have h1:=Rel.sub ht htm;rw [hc0]at h1⊢;exact h1
 unfold Oper.wp;rw [hrun,Oper.upon_enter];refine(hc w D (T y) (xs.map a.eval) hp.ok (fun p hp' hT=>?_) hp.wr.Dlt (hp.tD y) (by simp [hsz]) (by rw [hxk];exact hc0r) fun i hi hik=>?_).mono fun e w' hpost=>?_
 ·rcases hp.tn y p.1 hT with h1|h1
  ·exact C.ok.2 p hp' h1
  ·have:=C.ok.1.lt hp';omega
 ·have hi':i<xs.size:=by omega
  have hxi:xs[i]? =some xs[i]:=by simp [hi']
  obtain⟨h1,h2,h3⟩:=hargs i xs[i] hik hxi;have hev:Ms.ev ⟨t',σ⟩ xs[i]=Ms.ev ⟨t,σ⟩ xs[i]:=by
   cases hx:xs[i]with
   |tmp z=>exact hopx z (by rw [<-hx];simp)
   |const v=>rfl
   |global g=>rfl
   |func f=>rfl
  obtain⟨fp,hrel,_⟩:=hp.ev xs[i];rw [hev]at hrel;rw [Bb (AG _ _ _ h1 hrel)]at hrel;have e:(xs.map a.eval).getD i undef=a.eval xs[i]:=by simp [hi']
  rw [e];exact Rel.sub h3 (Rel.clean _ _ _ _ _ h2 hrel)
 ·obtain⟨cv,fp,D',H',rfl,hfr,hr',hc1,hf,hH,hfH,hd1,hd2,hd3⟩:=hpost
  rw [hxk]at hc1;have hp':=hp.turn (d:=d) hyn hdn hyd hfr hr' hc1 hf hH hfH hd1 hd2 hd3;rw [hd]at hn⊢;refine hn _ _ _ _ hp' (fun x b hbb=>?_) fun _ hx=>BJ hx
  by_cases hxd:x=d
  ·exact .inl (by rw [hxd])
  ·right
   simp only [hxd,if_false]at hbb;by_cases hxy:x=y
   ·rw [if_pos hxy]at hbb
    rw [hxy];rcases hb with hb|hb
    ·exact KQ.some hb hc0r
    ·rw [hb]at hc1
     exact absurd hbb (hc1 b)
   ·simp only [hxy,if_false]at hbb
    exact⟨b,hbb⟩
theorem PR.freeze{C:Ctx}{N:Nat}{σ:List V}{ρ:Nat->Value}{F:Nat->Nat->Prop}{t:Nat->V}{a:Act}{w:World}{D:Nat->Prop}{T:Nat->Nat->Prop}(h:PR C N σ ρ F t a w D T){d:Nat}(hd:d<N):
  PR C N σ ρ F (AV t d (Go.Ve.frz (t d))) a w (fun b=>D b\/T d b) (fun x b=>x≠d/\T x b):=by
 have hTlt: ∀x b,T x b->b<w.heap.size:=by
  intro x b hb;by_cases hx:x<N
  ·exact Rel.lt _ _ _ (h.tm x hx) b hb
  ·exact absurd hb (h.tx x b (Nat.le_of_not_lt hx))
 refine⟨h.df,h.sz,fun x hx=>?_,⟨fun i hi=>Rel.mono (fun _ h=>.inl h) (fun _ _ h=>h) _ _ _ (fun _ _=>rfl) (h.wr.rel i hi),h.wr.disj,fun i b hb hD=>?_,fun b hb=>?_,h.wr.out⟩,fun x hx=>?_,fun x b hb hD=>?_,fun i x b hb hT=>h.tF i x b hb hT.2,fun x z b hxz h1 h2=>h.tT x z b hxz h1.2 h2.2,fun x b hb=>h.tn x b hb.2,h.fr,h.Fn,fun b hb=>.inl (h.D1 b hb),fun b hb hlt=>?_,h.rt,h.ml,fun x b hx hb=>h.tx x b hx hb.2⟩
 ·have: ¬x=d:=by omega
  simp only [AV,this,if_false];exact h.dd x hx
 ·exact hD.elim (h.wr.dD i b hb) (h.tF i d b hb)
 ·exact hb.elim (h.wr.Dlt b) (hTlt d b)
 ·by_cases he:x=d
  ·subst he
   simp only [AV,if_true];exact Rel.fp_congr (fun b=>⟨fun h=>h.elim,fun h=>(h.1 rfl).elim⟩) (Rel.frz _ _ _ (h.tm x hx))
  ·simp only [AV,he,if_false]
   exact Rel.fp_congr (fun b=>⟨fun h=>⟨he,h⟩,fun h=>h.2⟩) (Rel.mono (fun _ h=>.inl h) (fun _ _ h=>h) _ _ _ (fun _ _=>rfl) (h.tm x hx))
 ·exact hD.elim (h.tD x b hb.2) (h.tT x d b hb.1 hb.2)
 ·rcases hb with hb|hb
  ·exact h.D2 b hb hlt
  ·rcases h.tn d b hb with h1|h1
   ·exact .inr h1
   ·omega
theorem LQ.frzR{P:Program}{N:Nat}{σ:List V}{Al:Nat->Nat->Prop}{o:Oper}{t:Nat->V}{ys:List (Nat×Tk)}{r:V}{d:Nat}(h:LQ P N σ Al o t ys r)(hd:o.dst=some d)(hdn:d<N):LQ P N σ Al o t ys (Go.Ve.frz r):=by
 intro C ρ F a w D T t' hag hal hp next Q hn
 refine h C ρ F a w D T t' hag hal hp next Q fun a' w' D' T' hp' hT' htm=>?_
 have hf:=hp'.freeze hdn
 have e:AV (ID o.dst r (AU ys t')) d (Go.Ve.frz (ID o.dst r (AU ys t') d))=ID o.dst (Go.Ve.frz r) (AU ys t'):=by
  rw [hd]
  funext x
  show(if x=d then Go.Ve.frz (if d=d then r else _)else(if x=d then r else AU ys t' x))=(if x=d then Go.Ve.frz r else AU ys t' x)
  rw [if_pos rfl];split<;>rfl
 rw [e]at hf;exact hn a' w' _ _ hf (fun x b hb=>hT' x b hb.2) htm
end Go.Ve


namespace Go.Ve
def Ky(id:Nat):V->V
 | .nd true _ _ n _=>.rs id [] 0 n
 |_=>.rp id [] 0 0
theorem LJ{σ:List V}{ρ:Nat->Value}{w:World}{D:Nat->Prop}{H:Nat->Prop}{id sz n:Nat}{s:Bool}{f:Nat->Nat->V}(hid:id<σ.length)(hg:σ.getD id .dead= .nd s true sz n f)(hsz:s=false->0<sz/\n=1)
  (h:Rel D w noR (.nd s true sz n f) (ρ id) H):Rel D w (An σ ρ w) (Ky id (.nd s true sz n f)) (ρ id) noF:=by
 cases s with
 |false=>
  obtain⟨h0,rfl⟩:=hsz rfl;refine⟨?_,fun b hb=>hb⟩
  rcases h with⟨h1,_⟩|⟨b,o,cap,G,hcv,_⟩
  ·omega
  ·refine⟨hid,false,sz,1,f,b,o,cap,⟨hg.symm,hcv.symm⟩,by omega,h0,?_⟩
   rw [hcv];simp [AD]
 |true=>
  refine⟨?_,fun b hb=>hb⟩
  rcases h with⟨h1,_,h3,_⟩|⟨b,o,cap,G,hcv,_⟩
  ·subst h1
   refine⟨hid,sz,0,f,ρ id,⟨hg.symm,rfl⟩,Nat.le_refl _,.inr ⟨rfl,none,?_,(fun _ _=>rfl),fun p e=>by cases e⟩⟩
   rw [DL h3];rfl
  ·refine⟨hid,sz,n,f,ρ id,⟨hg.symm,rfl⟩,by omega,.inl ⟨b,o,cap,hcv,?_⟩⟩
   rw [hcv];simp [AD]
theorem VO{σ:List V}{ρ:Nat->Value}{w:World}{D D':Nat->Prop}{H fp:Nat->Prop}{id sz n:Nat}{s:Bool}{f:Nat->Nat->V}{v:V}{cv:Value}(h1:v= .nd s true sz n f)(h2:s=false->0<sz/\n=1)(h3:σ.getD id .dead=v)
  (hrel:Rel D w noR v (ρ id) H) (hr:Rel D' w (An σ ρ w) (Ky id v) cv fp):cv=ρ id:=by
 subst h1;cases s with
 |true=>
  obtain⟨⟨_,sz',n',f',cn,hat,_,hcv⟩,_⟩:=hr;have hat:V.nd true true sz' n' f'=σ.getD id .dead/\cn=ρ id:=hat;obtain⟨e1,e2⟩:=hat;rw [h3]at e1;cases e1;rw [<-e2];rcases hcv with⟨b,o,cap,g1,g2⟩|⟨g1,ad,_,g3,_⟩
  ·rw [g1,g2]
   show Value.slice (some ⟨b,o+0*sz,none⟩) n (cap-0)=Value.slice (some ⟨b,o,none⟩) n cap;rw [Nat.zero_mul,Nat.add_zero,Nat.sub_zero]
  ·exact g3 rfl g1
 |false=>
  obtain⟨⟨_,s',sz',n',f',b,o,cap,hat,_,_,hcv⟩,_⟩:=hr;have hat:V.nd s' true sz' n' f'=σ.getD id .dead/\AD s' b o n' cap=ρ id:=hat;obtain⟨e1,e2⟩:=hat;rw [h3]at e1;cases e1;rw [<-e2,hcv];simp [AD]
theorem PR.back2{C:Ctx}{N:Nat}{σ:List V}{ρ:Nat->Value}{F:Nat->Nat->Prop}{t:Nat->V}{a:Act}{w:World}{D:Nat->Prop}{T:Nat->Nat->Prop}(h:PR C N σ ρ F t a w D T){y id sz n:Nat}{s:Bool}{f:Nat->Nat->V}(hy:y<N)(hid:id<σ.length)(hd:σ.getD id .dead= .dead)(ht:t y= .nd s true sz n f)(hsz:s=false->0<sz/\n=1)(hv:a.tmps.getD y undef=ρ id):
  PR C N (σ.set id (t y)) ρ (fun i b=>if i=id then T y b else F i b) (AV t y (Ky id (t y))) a w D (fun x b=>x≠y/\T x b):=by
 have get: ∀ {i:Nat},i≠id->(σ.set id (t y)).getD i .dead=σ.getD i .dead:=by
  intro i hi;simp only [gDE];rw [List.getElem?_set_ne (Ne.symm hi)]
 have self:(σ.set id (t y)).getD id .dead=t y:=by simp [hid]
 have hrel:Rel D w noR (t y) (ρ id) (T y):=by
  have h1:=h.tm y hy;rw [hv,ht]at h1;rw [ht];exact h1
 refine⟨h.df,h.sz,fun x hx=>?_,⟨fun i hi=>?_,fun i j b hij h1 h2=>?_,fun i b hb=>?_,h.wr.Dlt,fun i b hi hb=>?_⟩,fun x hx=>?_,fun x b hb=>h.tD x b hb.2,fun i x b hb hT=>?_,fun x z b hxz h1 h2=>h.tT x z b hxz h1.2 h2.2,fun x b hb=>h.tn x b hb.2,h.fr,fun i b hb=>?_,h.D1,h.D2,h.rt,by simpa using h.ml,fun x b hx hb=>h.tx x b hx hb.2⟩
 ·have: ¬x=y:=by omega
  simp only [AV,this,if_false];exact h.dd x hx
 ·have hi:i<σ.length:=by simpa using hi
  by_cases he:i=id
  ·subst he
   rw [self];exact Rel.fp_congr (fun b=>by rw [if_pos rfl]) hrel
  ·rw [get he]
   exact Rel.fp_congr (fun b=>by rw [if_neg he]) (h.wr.rel i hi)
 ·split at h1<;>split at h2
  ·omega
  ·exact h.tF j y b h2 h1
  ·exact h.tF i y b h1 h2
  ·exact h.wr.disj i j b hij h1 h2
 ·split at hb
  ·exact h.tD y b hb
  ·exact h.wr.dD i b hb
 ·have hi:σ.length<=i:=by simpa using hi
  rw [if_neg (by omega)]at hb
  exact h.wr.out i b hi hb
 ·by_cases he:x=y
  ·subst he
   simp only [AV,if_true];rw [hv];have h2:=LJ (σ:=σ.set id (t x)) (ρ:=ρ) (id:=id) (s:=s) (sz:=sz) (n:=n) (f:=f) (by simpa using hid) (by rw [self,ht]) hsz (by rw [<-ht];exact hrel)
   rw [<-ht]at h2;exact Rel.fp_congr (fun b=>⟨fun h=>h.elim,fun h=>(h.1 rfl).elim⟩) h2
  ·simp only [AV,he,if_false]
   exact Rel.fp_congr (fun b=>⟨fun h=>⟨he,h⟩,fun h=>h.2⟩) (Rel.mono (fun _ h=>h) (An.setD hd) _ _ _ (fun _ _=>rfl) (h.tm x hx))
 ·split at hb
  ·exact h.tT x y b hT.1 hT.2 hb
  ·exact h.tF i x b hb hT.2
 ·split at hb
  ·exact h.tn y b hb
  ·exact h.Fn i b hb
end Go.Ve

