/- Regions that draw their order. -/
import Derived.Test.YteakdlfnmhlifaaVp
import Derived.StillTail
open List(range mem_cons mem_range mem_filter getElem_of_mem any_eq_true mem_singleton mem_filterMap)
open Nat(beq lt_or_ge le_refl le_of_not_lt)
open Bool(not_eq_true' or_eq_true)
open Array(getD_eq_getD_getElem?)
set_option linter.all false
namespace Go.Ve
variable{σ:List V}{op:Op}{ev ev':Operand->V}{P:Program}{K:V->Prop}
theorem Lq(h:∀x∈op.operands,ev x=ev' x)(H:Oe P σ ev op K):Oe P σ ev' op K:=by
 have U:∀ps:Array (Nat×Operand),(∀x∈(ps.toList.map (·.2)).toArray,ev x=ev' x)->(ps.toList.map λp=>(p.1,ev p.2))=ps.toList.map λp=>(p.1,ev' p.2):=by
  intro ps hp;apply List.map_congr_left;intro p hm;rw[hp p.2 (by simp only[List.mem_toArray,List.mem_map];exact⟨p,hm,rfl⟩)]
 unfold Oe at H⊢;cases op<;>simp only[Op.operands]at h<;>simp only at H⊢ <;>try exact H
 case call c=>
  obtain⟨callee,args,ats⟩:=c;have hm:args.toList.map ev=args.toList.map ev':=List.map_congr_left λx Y=>h x (by simp[Call.operands];right;simpa using Y)
  cases callee with
  |value f=>
   have Z:ev f=ev' f:=h f (by simp[Call.operands])
   cases f<;>simp only at H⊢ <;>first|exact H|(rw[<-hm,<-Z];exact H)|(rw[<-hm];exact H)
  |invoke r m=>
   have Z:ev r=ev' r:=h r (by simp[Call.operands])
   simp only at H⊢;rw[<-hm,<-Z];exact H
  |builtin b=>simp only at H⊢;rw[<-hm];exact H
 case build t ps=>rw[<-U ps h];exact H
 case buildSlice t n ps=>rw[<-U ps h];exact H
 case slice t x W hi mx=>
  have h1:W.map ev=W.map ev':=by cases W with|none=>rfl|some y=>simp;exact h y (by simp)
  have h2:hi.map ev=hi.map ev':=by cases hi with|none=>rfl|some y=>simp;exact h y (by simp)
  rw[<-h1,<-h2,<-h x (by simp)];exact H
 case makeFunc fn first cs=>
  have hm:cs.toList.map ev=cs.toList.map ev':=List.map_congr_left λx Y=>h x (by simp;right;simpa using Y)
  rw[<-hm];exact H
 all_goals (simp at h;simp_all)
theorem Q3(H:Oe P σ ev op K):∃r,K r/\∀K':V->Prop,K' r->Oe P σ ev op K':=by
 unfold Oe at H⊢;cases op<;>simp only at H⊢ <;>try exact H.elim
 case move x=>exact⟨_,H.2,λK' U=>⟨H.1,U⟩⟩
 case assign x=>exact⟨_,H.2,λK' U=>⟨H.1,U⟩⟩
 case pick c x y=>
  unfold Xs at H⊢;split at H<;>try exact H.elim
  rename_i b hb;obtain⟨W,Y,h3,h4⟩:=H;cases b
  .exact⟨_,h4 rfl,λK' U=>⟨W,Y,(λh=>by cases h),λ_=>U⟩⟩
  .exact⟨_,h3 rfl,λK' U=>⟨W,Y,λ_=>U,(λh=>by cases h)⟩⟩
 case load t x=>
  unfold Iu at H⊢;split at H<;>try exact H.elim
  .split at H<;>try exact H.elim
   .exact⟨_,H.2,λK' U=>⟨H.1,U⟩⟩
   .exact⟨_,H.2,λK' U=>⟨H.1,U⟩⟩
   .exact⟨_,H.2,λK' U=>⟨H.1,U⟩⟩
  .split at H<;>try exact H.elim
   .exact⟨_,H.2,λK' U=>⟨H.1,U⟩⟩
   .exact⟨_,H.2.2,λK' U=>⟨H.1,H.2.1,U⟩⟩
   .exact⟨_,H.2,λK' U=>⟨H.1,U⟩⟩
 case fieldAddr t x k=>
  unfold J0 at H⊢;split at H<;>try exact H.elim
  split at H<;>try exact H.elim
  .exact⟨_,H.2,λK' U=>⟨H.1,U⟩⟩
  .exact⟨_,H.2,λK' U=>⟨H.1,U⟩⟩
  .exact⟨_,H.2,λK' U=>⟨H.1,U⟩⟩
 case indexAddr t x i=>
  unfold B1 at H⊢;split at H<;>try exact H.elim
  split at H<;>try exact H.elim
  .exact⟨_,H.2.2.2,λK' U=>⟨H.1,H.2.1,H.2.2.1,U⟩⟩
  .exact⟨_,H.2.2.2,λK' U=>⟨H.1,H.2.1,H.2.2.1,U⟩⟩
 case index t x i=>
  unfold Q5 MN at H⊢;rcases H with⟨W,H⟩|⟨W,H⟩
  .split at H<;>try exact H.elim
   exact⟨_,H.2,λK' U=>.inl ⟨W,H.1,U⟩⟩
  .split at H<;>try exact H.elim
   exact⟨_,H.2.2.2,λK' U=>.inr ⟨W,H.1,H.2.1,H.2.2.1,U⟩⟩
 case nilCheck x=>
  unfold Ab8 at H⊢;split at H<;>try exact H.elim
  .exact⟨_,H,λK' U=>U⟩
  .exact⟨_,H,λK' U=>U⟩
  .exact⟨_,H.2,λK' U=>⟨H.1,U⟩⟩
 case binOp op t x y yt=>
  unfold Vx at H⊢;split at H
  .split at H
   .rename_i h;exact⟨_,H.2,λK' U=>by first|exact⟨H.1,U⟩|(simp only[h];exact⟨H.1,U⟩)⟩
   .rename_i h;obtain⟨z,W,Y,h3,Z⟩:=H;exact⟨z,Z,λK' U=>by first|exact⟨z,W,Y,h3,U⟩|(simp only[h];exact⟨z,W,Y,h3,U⟩)⟩
  .obtain⟨z,W,Y,h3,Z⟩:=H;exact⟨z,Z,λK' U=>⟨z,W,Y,h3,U⟩⟩
 case unOp op t x=>
  unfold qUn at H⊢;split at H<;>try exact H.elim
  .exact⟨_,H,λK' U=>U⟩
  .exact⟨_,H,λK' U=>U⟩
 case convert s d x=>
  unfold Ol at H⊢;unfold Vu at H⊢;split at H
  .exact⟨_,H,λK' U=>U⟩
  .exact⟨_,H,λK' U=>U⟩
  .split at H
   .rename_i h;exact⟨_,H,λK' U=>by first|exact U|(simp only[h];exact U)⟩
   .exact H.elim
  .obtain⟨z,W,Y,Z⟩:=H;exact⟨z,Z,λK' U=>⟨z,W,Y,U⟩⟩
 case extract x i=>
  unfold Cs at H⊢;split at H<;>try exact H.elim
  exact⟨_,H.2.2,λK' U=>⟨H.1,H.2.1,U⟩⟩
 case build t ps=>
  unfold Lt at H⊢;split at H<;>try exact H.elim
  obtain⟨W,H⟩:=H;split at H<;>try exact H.elim
  rename_i h;exact⟨_,H,λK' U=>⟨W,U⟩⟩
 case buildSlice t n ps=>
  unfold B2 at H⊢;split at H<;>try exact H.elim
  obtain⟨W,Y,H⟩:=H;split at H<;>try exact H.elim
  rename_i h;exact⟨_,H.2,λK' U=>⟨W,Y,H.1,U⟩⟩
 case alloc t=>
  unfold Ot at H⊢;split at H<;>try exact H.elim
  exact⟨_,H.2,λK' U=>⟨H.1,U⟩⟩
 case box t x=>
  obtain⟨W,Y|Y⟩:=H
  .exact⟨_,Y.2,λK' U=>⟨W,.inl ⟨Y.1,U⟩⟩⟩
  .exact⟨_,Y,λK' U=>⟨W,.inr U⟩⟩
 case makeSlice t l c=>
  unfold Xu at H⊢;split at H<;>try exact H.elim
  exact⟨_,H.2.2,λK' U=>⟨H.1,H.2.1,U⟩⟩
 case slice t x lo hi mx=>
  obtain⟨h0,H⟩:=H;unfold Lr at H⊢;split at H<;>try exact H.elim
  all_goals
   split at H<;>try exact H.elim
   rename_i W Y
  .exact⟨_,H.2,λK' U=>⟨h0,H.1,U⟩⟩
  .exact⟨_,H.2.2,λK' U=>⟨h0,H.1,H.2.1,U⟩⟩
  .exact⟨_,H.2.2,λK' U=>⟨h0,H.1,H.2.1,U⟩⟩
 case call c=>
  obtain⟨callee,args,ats⟩:=c;simp only at H⊢;split at H
  .obtain⟨r,W,Y,Z⟩:=H;exact⟨r,Z,λK' U=>⟨r,W,Y,U⟩⟩
  .exact False.elim H
  .unfold MO at H⊢
   split at H<;>try exact H.elim
   .rcases H with⟨W,H⟩|⟨W,l,Y,H⟩
    case inr=>exact⟨_,H,λK' U=>.inr ⟨W,l,Y,U⟩⟩
    unfold qLen at H⊢;split at H<;>first|exact H.elim|exact⟨_,H,λK' U=>.inl ⟨W,U⟩⟩
   .unfold DK at H⊢
    split at H<;>first|exact H.elim|exact⟨_,H,λK' U=>U⟩
   .unfold DK at H⊢
    split at H<;>first|exact H.elim|exact⟨_,H,λK' U=>U⟩
  .exact False.elim H
  .exact H.elim
 case makeFunc fn first cs=>
  split at H
  case h_2=>exact H.elim
  exact⟨_,H.2,λK' U=>⟨H.1,U⟩⟩
def Xq(h:∀x∈op.operands,ev x=ev' x)(H:qop P σ ev op K):qop P σ ev' op K:=Lq h H
def Xp(U:qop P σ ev op K):∃r,K r/\qop P σ ev op (λr'=>r'=r):=by
 obtain⟨r0,⟨r,H,W⟩,hd⟩:=Q3 U;exact⟨r,W,hd _ ⟨r,H,rfl⟩⟩
theorem Od{K':V->Prop}(H:Oe P σ ev op K)(h:∀r,K r->K' r):Oe P σ ev op K':=by
 obtain⟨r,U,hd⟩:=Q3 H
 grind
end Go.Ve


namespace Go.Ve
variable{a:Act}{ops:Array Oper}{h:BW}{C:Ctx}{σ:List V}{N i j n x y:Nat}{B F T:Nat->Nat->Prop}{A D fp:Nat->Prop}{t:Nat->V}{ρ:Nat->Value}{o:Oper}{w:World}
def QK(h:BW)(d:Option Nat)(t:Nat->V)(K:(Nat->V)->Prop)(r:V):Prop:=
 match d with
 |some d=>d<h.n/\K (AD t d (if h.fz.contains d then frz r else r))
 |none=>False
def KY(t:Nat->V)(d:Option Nat):Nat->V:=
 match d with
 |some d=>AD t d udV
 |none=>t
def ZJ(ops:Array Oper)(y:Nat):Bool:=decide (((range ops.size).filter λj=>match ops[j]? with
 |some o=>(o.looksAt ops).contains y
 |none=>false).length<=1)
def AG(ops:Array Oper)(i:Nat):Option Nat:=(ops[i]?).bind (·.dst)
def mvB(ops:Array Oper)(o:Oper)(y:Nat):Bool:=(o.looksAt ops).contains y&&ZJ ops y&&o.after.toList.any λe=>Region.binds .any e&&(match AG ops e.on with
 |some d=>beq d y
 |none=>false)
def OS(c:Nat):V->V
 |.many t n f=>.many t n λk=>if k=c then .dead else f k
 |v=>v
inductive Tk where
 |all
 |part (c:Nat)
 |put (v:V)
variable{m:Nat->List (Nat×Tk)}
def Tk.isPart:Tk->Bool
 |.part _=>true
 |_=>false
def hdV:V->V
 |.nd true true _ n _=>.nd true false 0 n λ_ _=>.dead
 |_=>.dead
theorem Rel.hd{R:V->Value->Prop}{v:V}{cv:Value}(h:Rel D w R v cv fp):Rel D w R (hdV v) cv noF:=by
 unfold hdV;split
 .rcases h with⟨h1,h2,h3,_⟩|⟨b,o,cap,F,Y,U,H,Z,_⟩
  .exact .inl ⟨h1,h2,Ug h3,λ_ h=>h⟩
  .exact .inr ⟨b,o,cap,λ_ _=>noF,Y,U,H,Z,λ_ _ _ W=>absurd W (Nat.not_lt_zero _),λ_=>⟨λh=>absurd h (by simp),λ_ _ _ _ W=>absurd W (Nat.not_lt_zero _),λ_ h=>h⟩,λh=>by grind⟩
 .exact λ_ h=>h
def kapp(H:Tk)(v:V):V:=match H with
 |.all=>.dead
 |.part c=>OS c v
 |.put u=>u
def Ig(o:Option Tk)(v:V):V:=match o with
 |some H=>kapp H v
 |none=>v
theorem VN(a b:Nat)(v:V):OS a (OS b v)=OS b (OS a v):=by
 cases v<;>try rfl
 show V.many _ _ _=V.many _ _ _
 grind
def X0(a b:Option Tk)(v:V)(h:∀x y,a=some x->b=some y->x.isPart=true/\y.isPart=true):Ig a (Ig b v)=Ig b (Ig a v):=by
 cases a with
 |none=>rfl
 |some x=>
  cases b with
  |none=>rfl
  |some y=>
   obtain⟨U,H⟩:=h x y rfl rfl;cases x<;>first|trivial|skip
   cases y<;>first|cases H|rfl
   exact VN _ _ _
def Bl:List (Nat×Tk)->Nat->Option Tk
 |[],_=>none
 |(y,tk)::l,x=>if y=x then some tk else Bl l x
def CF:∀{l:List (Nat×Tk)}{x:Nat}{H:Tk},Bl l x=some H->(x,H)∈l
 |[],_,_,h=>by cases h
 |(y,tk')::l,x,H,h=>by
  unfold Bl at h;split at h
  .grind
  .exact mCM _ (CF h)
def AL(ys:List (Nat×Tk))(t:Nat->V):Nat->V:=λx=>Ig (Bl ys x) (t x)
def DT(t:Nat->V):AL [] t=t:=rfl
def Hf(ops:Array Oper)(y:Nat):Bool:=(range ops.size).all λj=>match AG ops j with
 |some d=>!beq d y
 |none=>true
def mvR(ops:Array Oper)(o:Oper)(y:Nat):Bool:=(o.looksAt ops).contains y&&ZJ ops y&&Hf ops y
def M1(ops:Array Oper)(y:Nat):List Nat:=(range ops.size).filter λj=>match ops[j]? with
 |some o=>(o.looksAt ops).contains y
 |none=>false
def L4(ops:Array Oper):List Nat->Bool
 |[]=>true
 |i::l=>(match l with
  |[]=>true
  |j::_=>Region.waitsFor .any ops j i)&&L4 ops l
def mvC(ops:Array Oper)(o:Oper)(y:Nat):Bool:=(o.looksAt ops).contains y&&Hf ops y&&L4 ops (M1 ops y)
def Hk(op:Op):List Nat:=op.operands.toList.filterMap λx=>match x with
 |.tmp y=>some y
 |_=>none
def isFn:Op->Bool
 |.call c=>match c.callee with
  |.value (.func _)=>true
  |_=>false
 |_=>false
def alM(h:BW)(ops:Array Oper)(o:Oper):Bool:=o.guard.isNone&&(match o.op,o.dst with
 |.move (.tmp y),some z=>h.fz.contains (3000000+y)&&Hf ops y&&ops.toList.any λc=>isFn c.op&&(Hk c.op).contains z
 |_,_=>false)
def alB(h:BW)(ops:Array Oper)(o:Oper)(y:Nat):Bool:=o.after.toList.any λe=>Region.binds .any e&&(match ops[e.on]? with
 |some c=>alM h ops c&&(match c.op,c.dst with
  |.move (.tmp y'),some z=>beq y' y&&(Hk o.op).contains z
  |_,_=>false)
 |none=>false)
def alU(h:BW)(ops:Array Oper)(y:Nat):List Nat:=(range ops.size).filter λj=>match ops[j]? with
 |some o=>alB h ops o y
 |none=>false
def U2(h:BW)(ops:Array Oper)(o:Oper)(p:Nat×Tk):Bool:=!p.2.isPart&&alB h ops o p.1&&Hf ops p.1&&L4 ops (alU h ops p.1)&&(range ops.size).all λj=>match ops[j]? with
 |some oj=>!(oj.looksAt ops).contains p.1||alM h ops oj
 |none=>true
def AlP(h:BW)(ops:Array Oper)(o:Oper)(z y:Nat):Prop:=∃e∈o.after,Region.binds .any e=true/\∃c,ops[e.on]? =some c/\alM h ops c=true/\c.op=.move (.tmp y)/\c.dst=some z
def WS(ops:Array Oper)(i j:Nat):Prop:=j<i/\∀listed:Array Bool,(∀k ok,ops[k]? =some ok->listed.getD k false=true->∀e∈ok.after,Region.binds .any e=true->listed.getD e.on false=true)->
 (∀oi,ops[i]? =some oi->∀e∈oi.after,Region.binds .any e=true->listed.getD e.on false=true)->listed.getD j false=true
theorem WS.of(Z:∀o e,ops[i]? =some o->e∈o.after->Region.binds .any e=true->e.on<i)(h:Region.waitsFor .any ops i j=true):WS ops i j:=by
 obtain⟨o,H,e,U,Y,W⟩:=Region.waitsFor_spec h;exact⟨W▸Z o e H U Y,λlisted _ h3=>W▸h3 o H e U Y⟩
theorem WS.trans{k:Nat}(hs:∃o,ops[j]? =some o)(h:WS ops i j)(W:WS ops j k):WS ops i k:=by
 refine⟨Nat.lt_trans W.1 h.1,λlisted U hi=>W.2 listed U λoj H e Y Z=>?_⟩
 exact U j oj H (h.2 listed U hi) e Y Z
theorem WS.listed{ops:Array Oper}{i j:Nat}(h:WS ops i j){listed:Array Bool}(U:∀k ok,ops[k]? =some ok->listed.getD k false=true->∀e∈ok.after,Region.binds .any e=true->listed.getD e.on false=true)(W:listed.getD i false=true):listed.getD j false=true:=
 h.2 listed U λoi H e Y Z=>U i oi H W e Y Z
theorem KA{ops:Array Oper}(W:∀j o e,ops[j]? =some o->e∈o.after->Region.binds .any e=true->e.on<j):∀{l:List Nat},L4 ops l=true->(∀i∈l,∃o,ops[i]? =some o)->l.Pairwise λi j=>WS ops j i
 |[],_,_=>List.Pairwise.nil
 |i::l,h,hs=>by
  unfold L4 at h;rw[bAE]at h;have U:=KA W h.2 λi hi=>hs i (mCM _ hi)
  refine List.pairwise_cons.2 ⟨λk H=>?_,U⟩
  cases l with
  |nil=>grind
  |cons j l=>
   have Y:=WS.of (W j) h.1;rcases mem_cons.1 H with rfl|H
   .grind
   .exact((List.pairwise_cons.1 U).1 k H).trans (hs j (by simp)) Y
theorem V3{oi oj:Oper}(hb:∀j o e,ops[j]? =some o->e∈o.after->Region.binds .any e=true->e.on<j)(h:L4 ops (M1 ops y)=true)(hi:ops[i]? =some oi)(Y:y∈oi.looksAt ops)(hj:ops[j]? =some oj)(W:y∈oj.looksAt ops):j=i\/WS ops i j\/WS ops j i:=by
 have H:∀k ok,ops[k]? =some ok->y∈ok.looksAt ops->k∈M1 ops y:=by
  intro k ok Z hyk;unfold M1
  grind
 have hp:=KA hb h λk Z=>by
  have Z:=mem_range.1 (mem_filter.1 Z).1;exact⟨ops[k],by simp⟩
 obtain⟨a,ha,ea⟩:=getElem_of_mem (H i oi hi Y);obtain⟨b,U,eb⟩:=getElem_of_mem (H j oj hj W);rcases Nat.lt_trichotomy a b with hlt|heq|hlt
 .have:=List.pairwise_iff_getElem.1 hp a b ha U hlt
  rw[ea,eb]at this;exact .inr (.inr this)
 .subst heq
  exact .inl (eb.symm.trans ea)
 .have:=List.pairwise_iff_getElem.1 hp b a U ha hlt
  rw[ea,eb]at this;exact .inr (.inl this)
theorem CD(h:Hf ops y=true):∀j,AG ops j≠some y:=by
 intro j hj;have H:j<ops.size:=by
  rcases lt_or_ge j ops.size with h|h
  .omega
  .unfold AG at hj
   grind
 have:=aET.1 h j (mem_range.2 H)
 simp_all
def exB(ops:Array Oper)(o:Oper)(y c:Nat):Bool:=(o.looksAt ops).contains y&&((range ops.size).all λj=>match ops[j]? with
 |some oj=>!(oj.looksAt ops).contains y||(oj.guard.isNone&&(match oj.op with
  |.extract (.tmp y') c'=>beq y' y&&(!beq c' c||oj.dst==o.dst)
  |_=>false))
 |none=>true)&&o.after.toList.any λe=>Region.binds .any e&&(match AG ops e.on with
 |some d=>beq d y
 |none=>false)
def JF(ops:Array Oper)(o:Oper)(p:Nat×Tk):Bool:=match p.2 with
 |.all=>mvB ops o p.1
 |.part c=>exB ops o p.1 c
 |.put _=>mvB ops o p.1||mvR ops o p.1||mvC ops o p.1
structure PR(C:Ctx)(N:Nat)(σ:List V)(ρ:Nat->Value)(F:Nat->Nat->Prop)(t:Nat->V)(a:Act)(w:World)(D:Nat->Prop)(T:Nat->Nat->Prop):Prop where
 df:a.defers=C.dfs
 sz:a.tmps.size=N
 dd:∀x,N<=x->t x=.dead
 wr:Be σ w D ρ F
 tm:∀x,x<N->Rel D w (Ae σ ρ w) (t x) (a.tmps.getD x undef) (T x)
 tD:∀x b,T x b->¬D b
 tF:∀i x b,F i b->¬T x b
 tT:∀x y b,x≠y->T x b->¬T y b
 tn:∀x b,T x b->C.W b\/C.w0.heap.size<=b
 fr:Fr C.w0 w C.W
 Fn:∀i b,F i b->C.W b\/C.w0.heap.size<=b
 D1:∀b,C.D0 b->D b
 D2:∀b,D b->b<C.w0.heap.size->C.D0 b\/C.W b
 rt:∀i,i<C.m->ρ i=C.ρ0 i
 ml:C.m<=σ.length
 tx:∀x b,N<=x->¬T x b
def mq(t:Nat->V)(o:Oper)(ys:List (Nat×Tk))(r:V):Prop:=
 (∃y,(o.op=.assign (.tmp y)\/o.op=.move (.tmp y))/\ys=[(y,.put (hdV r))]/\r=t y)\/
 ∃y c n f,o.op=.extract (.tmp y) c/\ys=[(y,.part c)]/\t y=.many .tu n f/\c<n/\r=f c
def IU(d:Option Nat)(r:V)(t:Nat->V):Nat->V:=match d with
 |some d=>AD t d r
 |none=>t
def VC:Op->Bool
 |.extract _ _=>false
 |_=>true
def PR.ok{C:Ctx}{N:Nat}{σ:List V}{ρ:Nat->Value}{F:Nat->Nat->Prop}{t:Nat->V}{a:Act}{w:World}{D:Nat->Prop}{T:Nat->Nat->Prop}(h:PR C N σ ρ F t a w D T):Wok w:=
 C.ok.1.same λp H=>h.fr.block p.1 (C.ok.1.lt H) (C.ok.2 p H)
def LQ(P:Program)(N:Nat)(σ:List V)(Al:Nat->Nat->Prop)(o:Oper)(t:Nat->V)(ys:List (Nat×Tk))(r:V):Prop:=
 ∀(C:Ctx) (ρ:Nat->Value) (F:Nat->Nat->Prop) (a:Act) (w:World) (D:Nat->Prop) (T:Nat->Nat->Prop) (H:Nat->V),(∀x,(x∈Hk o.op\/Bl ys x≠none)->H x=t x)->(∀z y,Al z y->a.tmps.getD z undef=a.tmps.getD y undef)->PR C N σ ρ F H a w D T->
  ∀(next:Act->World->Prop) (Q:Exit->Act->World->Prop),(∀U w' D' T',PR C N σ ρ F (IU o.dst r (AL ys H)) U w' D' T'->(∀x b,T' x b->o.dst=some x\/∃W,T x W)->(∀x,o.dst≠some x->U.tmps[x]? =a.tmps[x]?)->next U w')->o.wp P a w next Q
def vq(P:Program)(h:BW)(ops:Array Oper)(σ:List V):List Oper->((Nat->V)->Prop)->(Nat->V)->Prop
 |[],K,t=>K t
 |o::rest,K,t=>match o.guard with
  |none=>(alM h ops o=false/\(qop P σ (Ms.ev ⟨t,σ⟩) o.op (QK h o.dst t (vq P h ops σ rest K))\/(∃ys d r,o.dst=some d/\d<h.n/\h.fz.contains d=false/\(∀p∈ys,JF ops o p=true)/\mq t o ys r/\vq P h ops σ rest K (AD (AL ys t) d r))\/
   ∃ys r,(∀p∈ys,JF ops o p=true\/U2 h ops o p=true)/\VC o.op=true/\LQ P h.n σ (AlP h ops o) o t ys r/\vq P h ops σ rest K (IU o.dst r (AL ys t))))\/
   (alM h ops o=true/\∃d,o.dst=some d/\d<h.n/\vq P h ops σ rest K (AD t d .dead))
  |some (j,want)=>match gv t ops j with
   |.c (.bool b)=>(b=want->qop P σ (Ms.ev ⟨t,σ⟩) o.op (QK h o.dst t (vq P h ops σ rest K)))/\(b=(!want)->(∀d,o.dst=some d->d<h.n)/\vq P h ops σ rest K (KY t o.dst))
   |v=>v=udV/\(∀d,o.dst=some d->d<h.n)/\vq P h ops σ rest K (KY t o.dst)
def gskip(v:V)(H:Bool):Prop:=v=.c (.bool (!H))\/v=udV
def promA:List (Option Nat)->Ms->Ms
 |[],S=>S
 |none::ds,S=>promA ds S
 |some d::ds,S=>if AJ (S.t d)then promA ds ⟨AD S.t d (prom (S.t d) S.σ.length).1,S.σ++(prom (S.t d) S.σ.length).2⟩else promA ds S
def AaW:Op->Bool
 |.select _ _=>false
 |_=>true
def flB(ops:Array Oper)(n f:Nat):Bool:=(range n).all (λi=>i==f||Region.waitsFor .any ops n i)&&match ops[f]? with
 |some o=>o.guard.isNone&&match o.op,o.dst with
  |.extract (.tmp y) _,some d=>(range ops.size).all λt=>decide (t<n)||Region.waitsFor .any ops t f||match ops[t]? with
   |some ot=>!(ot.looksAt ops).contains d&&ot.dst !=some d&&ot.dst !=some y&&AaW ot.op
   |none=>true
  |_,_=>false
 |none=>false
structure FL(ops:Array Oper)(n f:Nat):Prop where
 fn:f<n
 others:∀i,i<n->i≠f->Region.waitsFor .any ops n i=true
 it:∃o y c d,ops[f]? =some o/\o.guard=none/\o.op=.extract (.tmp y) c/\o.dst=some d/\∀t ot,n<=t->ops[t]? =some ot->Region.waitsFor .any ops t f=false->d∉ot.looksAt ops/\ot.dst≠some d/\ot.dst≠some y/\∀cs b,ot.op≠.select cs b
theorem Aab{f:Nat}(hf:f<n)(h:flB ops n f=true):FL ops n f:=by
 unfold flB at h;rw[bAE]at h;obtain⟨h1,H⟩:=h;refine⟨hf,λi hi hne=>?_,?_⟩
 .grind
 .split at H
  case h_2=>cases H
  rename_i o ho;rw[bAE]at H;obtain⟨hg,H⟩:=H;split at H
  case h_2=>cases H
  rename_i y c d W hd;refine⟨o,y,c,d,ho,by simpa using hg,W,hd,λt ot ht U Z=>?_⟩
  have:=aET.1 H t (mem_range.2 (Array.getElem?_eq_some_iff.1 U).1);rw[U,Z]at this;have Y:¬t<n:=by omega
  simp only[Y,decide_false,Bool.false_or,bAE,not_eq_true',bne_iff_ne,ne_eq]at this;obtain⟨⟨⟨g1,g2⟩,g3⟩,g4⟩:=this;refine⟨λhm=>?_,g2,g3,λcs b e=>?_⟩
  .have:(ot.looksAt ops).contains d=true:=by simpa using hm
   rw[g1]at this;cases this
  .rw[e]at g4;cases g4
def Q2(ops:Array Oper)(n:Nat):Bool:=
 decide (n<=ops.size)&&
 (range n).all (λi=>match ops[i]? with
  |none=>false
  |some oi=>match oi.dst with
   |none=>true
   |some d=>!(oi.looksAt ops).contains d&&(range n).all λj=>j==i||match ops[j]? with
    |none=>false
    |some oj=>oj.dst !=some d&&(!(oj.looksAt ops).contains d||Region.waitsFor .any ops j i))&&
 (range ops.size).all (λj=>match ops[j]? with
  |some o=>o.after.toList.all λe=>!Region.binds .any e||decide (e.on<j)
  |none=>false)
def It(ops:Array Oper)(n:Nat):Bool:=
 Q2 ops n&&(n==ops.size||(Region.chainB .any ops n&&(Region.sinkB .any ops n||(range n).any (flB ops n))))
structure QOK(ops:Array Oper)(n:Nat):Prop where
 le:n<=ops.size
 dst:∀i,i<n->∃oi,ops[i]? =some oi/\∀d,oi.dst=some d->d∉oi.looksAt ops
 ne:∀i j d oj,i<n->j<n->i≠j->AG ops i=some d->ops[j]? =some oj->oj.dst≠some d/\(d∈oj.looksAt ops->∃e∈oj.after,Region.binds .any e=true/\e.on=i)
 back:∀j o e,ops[j]? =some o->e∈o.after->Region.binds .any e=true->e.on<j
def UU(ops:Array Oper)(n:Nat):Prop:=n=ops.size\/(Region.chainB .any ops n=true/\(Region.sinkB .any ops n=true\/∃f,FL ops n f))
theorem JX(h:Q2 ops n=true):QOK ops n:=by
 simp only[Q2,bAE,decide_eq_true_eq]at h;obtain⟨⟨h1,h2⟩,h3⟩:=h
 have hd:∀i,i<n->∃oi,ops[i]? =some oi/\∀d,oi.dst=some d->d∉oi.looksAt ops/\∀j,j<n->j≠i->∃oj,ops[j]? =some oj/\oj.dst≠some d/\(d∈oj.looksAt ops->Region.waitsFor .any ops j i=true):=by
  intro i hi;have:=aET.1 h2 i (mem_range.2 hi);split at this
  .cases this
  .rename_i oi W
   refine⟨oi,W,λd hd=>?_⟩
   rw[hd]at this
   .simp only[bAE,not_eq_true']at this
    obtain⟨ha,hb⟩:=this;refine⟨by simpa using ha,λj hj hne=>?_⟩
    have H:=aET.1 hb j (mem_range.2 hj);simp only[or_eq_true,beq_iff_eq,hne,false_or]at H;split at H
    .cases H
    .rename_i oj U
     simp only[bAE,bne_iff_ne,ne_eq,or_eq_true,not_eq_true']at H;refine⟨oj,U,H.1,λhm=>?_⟩
     rcases H.2 with h|h
     .simp at h;exact absurd hm h
     .exact h
 refine⟨h1,λi hi=>?_,λi j d oj hi hj hij hdi U=>?_,λj o e hj he hb=>?_⟩
 .obtain⟨oi,a,b⟩:=hd i hi;exact⟨oi,a,λd h=>(b d h).1⟩
 .obtain⟨oi,W,hd'⟩:=hd i hi
  have hdd:oi.dst=some d:=by simpa [AG,W]using hdi
  obtain⟨_,hall⟩:=hd' d hdd;obtain⟨Y,hoj',g1,g2⟩:=hall j hj (Ne.symm hij);have:Y=oj:=Option.some.inj (hoj'.symm.trans U);subst this;refine⟨g1,λhm=>?_⟩
  obtain⟨oj2,Z,e,he,hb,hon⟩:=Region.waitsFor_spec (g2 hm);have:oj2=Y:=Option.some.inj (Z.symm.trans U);subst this;exact⟨e,he,hb,hon⟩
 .have hlt:j<ops.size:=(Array.getElem?_eq_some_iff.1 hj).1
  have:=aET.1 h3 j (mem_range.2 hlt);rw[hj]at this;have:=aET.1 this e (by simpa using he)
  simp[hb]at this;exact this
theorem Ob(h:It ops n=true):QOK ops n/\UU ops n:=by
 simp only[It,bAE,or_eq_true,beq_iff_eq]at h;refine⟨JX h.1,?_⟩;have h4:=h.2;rcases h4 with h4|⟨h4,H|H⟩
 .exact .inl h4
 .exact .inr ⟨h4,.inl H⟩
 .obtain⟨f,U,W⟩:=any_eq_true.1 H
  exact .inr ⟨h4,.inr ⟨f,Aab (mem_range.1 U) W⟩⟩
def Adp:Op->Bool
 |.fieldAddr _ _ _=>true
 |.load _ _=>true
 |.move _=>true
 |.indexAddr _ _ _=>true
 |_=>false
def flsB(ops:Array Oper)(n:Nat)(fs:List Nat):Bool:=decide (n+1<ops.size)&&Region.chainB .any ops n&&fs.all (λf=>decide (f<n)&&Region.waitsFor .any ops (n+1) f)&&
 (range n).all (λi=>fs.contains i||(range (n+1)).any λj=>decide (i<j)&& !fs.contains j&&Region.waitsFor .any ops j i)&&
 match ops[n]? with
 |some on=>on.guard.isNone&&AaW on.op&&match on.dst with
  |some dn=>fs.all λf=>match ops[f]? with
   |some o=>o.guard.isNone&&Adp o.op&&match o.dst with
    |some d=>!(on.looksAt ops).contains d&&dn !=d&& !(o.looksAt ops).contains dn
    |none=>false
   |none=>false
  |none=>false
 |none=>false
structure FLS(ops:Array Oper)(n:Nat)(fs:List Nat):Prop where
 lt1:n+1<ops.size
 chain:Region.chainB .any ops n=true
 lt:∀f∈fs,f<n/\Region.waitsFor .any ops (n+1) f=true
 others:∀i,i<n->i∉fs->∃j,i<j/\j<=n/\j∉fs/\Region.waitsFor .any ops j i=true
 it:∃on dn,ops[n]? =some on/\on.guard=none/\on.dst=some dn/\(∀cs b,on.op≠.select cs b)/\∀f∈fs,∃o d,ops[f]? =some o/\o.guard=none/\Adp o.op=true/\o.dst=some d/\d∉on.looksAt ops/\dn≠d/\dn∉o.looksAt ops
theorem Yi{fs:List Nat}(h:flsB ops n fs=true):FLS ops n fs:=by
 unfold flsB at h;simp only[bAE,decide_eq_true_eq]at h;obtain⟨⟨⟨⟨h1,h2⟩,h3⟩,h4⟩,h5⟩:=h;refine⟨h1,h2,λf W=>?_,λi hi hn=>?_,?_⟩
 .have:=aET.1 h3 f W
  simpa using this
 .have:=aET.1 h4 i (mem_range.2 hi)
  rw[or_eq_true]at this;rcases this with h|h
  .exact absurd (by simpa using h) hn
  .obtain⟨j,hj,H⟩:=any_eq_true.1 h
   simp only[bAE,decide_eq_true_eq,not_eq_true']at H;have:=mem_range.1 hj;exact⟨j,H.1.1,by omega,by simpa using H.1.2,H.2⟩
 .split at h5
  case h_2=>cases h5
  rename_i on U;rw[bAE,bAE]at h5;obtain⟨⟨g1,g2⟩,h5⟩:=h5;split at h5
  case h_2=>cases h5
  rename_i dn Y;refine⟨on,dn,U,by simpa using g1,Y,(λcs b e=>by rw[e]at g2;cases g2),λf W=>?_⟩
  have:=aET.1 h5 f W;split at this
  case h_2=>cases this
  rename_i o ho;rw[bAE,bAE]at this;obtain⟨⟨k1,k2⟩,this⟩:=this;split at this
  case h_2=>cases this
  rename_i d hd;simp only[bAE,not_eq_true',bne_iff_ne,ne_eq]at this;obtain⟨⟨m1,Z⟩,m3⟩:=this;exact⟨o,d,ho,by simpa using k1,k2,hd,by simpa using m1,Z,by simpa using m3⟩
def Je(P:Program)(h:BW)(ops:Array Oper)(σ:List V)(o:Oper)(t:Nat->V)(r:V)(ys:List (Nat×Tk)):Prop:=
 (alM h ops o=false/\((∃d:Nat,o.dst=some d/\
  (((d<h.n/\((o.guard=none\/∃j H,o.guard=some (j,H)/\gv t ops j=.c (.bool H))/\∃r',qop P σ (Ms.ev ⟨t,σ⟩) o.op (λx=>x=r')/\r=(if h.fz.contains d then frz r' else r'))\/
   (∃j H,o.guard=some (j,H)/\gskip (gv t ops j) H/\d<h.n/\r=udV))/\ys=[])\/
   (d<h.n/\o.guard=none/\h.fz.contains d=false/\(∀p∈ys,JF ops o p=true)/\mq t o ys r)))\/
 (o.guard=none/\(∀p∈ys,JF ops o p=true\/U2 h ops o p=true)/\VC o.op=true/\LQ P h.n σ (AlP h ops o) o t ys r)\/
 (∃j H,o.guard=some (j,H)/\gskip (gv t ops j) H/\o.dst=none/\ys=[])))\/
 (alM h ops o=true/\∃d,o.dst=some d/\d<h.n/\r=.dead/\ys=[])
theorem Dh{g:Nat×Bool}(H:o.guard=some g):alM h ops o=false:=by
 unfold alM;grind
theorem Nx(hm:alM h ops o=true):o.guard=none/\∃y z,o.op=.move (.tmp y)/\o.dst=some z/\∀j,AG ops j≠some y:=by
 unfold alM at hm;rw[bAE]at hm;refine⟨by simp_all,?_⟩
 have U:=hm.2;split at U
 .rename_i y z H hd
  simp at U;exact⟨y,z,H,hd,CD U.1.2⟩
 grind
def Cb(ops:Array Oper)(r:Nat->V)(m:Nat->List (Nat×Tk))(t:Nat->V):Nat->(Nat->V)
 |0=>t
 |i+1=>IU (AG ops i) (r i) (AL (m i) (Cb ops r m t i))
theorem Y3{P:Program}{h:BW}{σ:List V}{t0:Nat->V}{K:(Nat->V)->Prop}(hn:n<=ops.size)(hq:QOK ops n):∀(k i:Nat) (r:Nat->V) (m:Nat->List (Nat×Tk)),i+k=n->
  vq P h ops σ ((ops.toList.drop i).take k) K (Cb ops r m t0 i)->(∀j,j<i->∀o,ops[j]? =some o->Je P h ops σ o (Cb ops r m t0 j) (r j) (m j))->
  ∃(r':Nat->V) (m':Nat->List (Nat×Tk)),(∀j,j<n->∀o,ops[j]? =some o->Je P h ops σ o (Cb ops r' m' t0 j) (r' j) (m' j))/\K (Cb ops r' m' t0 n):=by
 intro k
 induction k with
 |zero=>
  intro i r m hi hv hs;obtain rfl:i=n:=by omega
  simp[vq]at hv;exact⟨r,m,hs,hv⟩
 |succ k ih=>
  intro i r m hi hv hs;have Z:i<ops.toList.length:=by simp;omega
  rw[List.drop_eq_getElem_cons Z,List.take_succ_cons]at hv;obtain⟨oi,hoi,hnl⟩:=hq.dst i (by omega)
  have hdo:AG ops i=oi.dst:=by simp[AG,hoi]
  have he:ops.toList[i]=oi:=by
   have:=hoi;rw[<-Array.getElem?_toList,gEE Z]at this;exact Option.some.inj this
  rw[he]at hv
  -- go on with the value v at place i
  have go:∀v ys,Je P h ops σ oi (Cb ops r m t0 i) v ys->vq P h ops σ ((ops.toList.drop (i+1)).take k) K (IU oi.dst v (AL ys (Cb ops r m t0 i)))->∃(r':Nat->V) (m':Nat->List (Nat×Tk)),(∀j,j<n->∀o,ops[j]? =some o->Je P h ops σ o (Cb ops r' m' t0 j) (r' j) (m' j))/\K (Cb ops r' m' t0 n):=by
   intro v ys hst hv
   have same:∀j,j<=i->Cb ops (λx=>if x=i then v else r x) (λx=>if x=i then ys else m x) t0 j=Cb ops r m t0 j:=by
    intro j
    induction j with
    |zero=>intro _;rfl
    |succ j ihj=>
     intro hj;have h1:j≠i:=by omega
     simp only[Cb,ihj (by omega),h1,if_false]
   refine ih (i+1) (λx=>if x=i then v else r x) (λx=>if x=i then ys else m x) (by omega) ?_ ?_
   .have:Cb ops (λx=>if x=i then v else r x) (λx=>if x=i then ys else m x) t0 (i+1)=IU oi.dst v (AL ys (Cb ops r m t0 i)):=by
     simp only[Cb,hdo,same i (le_refl _),if_true]
    rw[this];exact hv
   .intro j hj o ho
    by_cases hji:j=i
    .subst hji
     have:o=oi:=Option.some.inj (ho.symm.trans hoi);subst this;rw[same j (le_refl _)];simpa using hst
    .rw[same j (by omega)]
     simp only[hji,if_false];exact hs j (by omega) o ho
  have go0:∀v d,oi.dst=some d->Je P h ops σ oi (Cb ops r m t0 i) v []->vq P h ops σ ((ops.toList.drop (i+1)).take k) K (AD (Cb ops r m t0 i) d v)->∃(r':Nat->V) (m':Nat->List (Nat×Tk)),(∀j,j<n->∀o,ops[j]? =some o->Je P h ops σ o (Cb ops r' m' t0 j) (r' j) (m' j))/\K (Cb ops r' m' t0 n):=
   λv d hd h1 h2=>go v [] h1 (by rw[DT,hd];exact h2)
  unfold vq at hv;split at hv
  .rename_i Y
   have dsome:∀(K:(Nat->V)->Prop) r',QK h oi.dst (Cb ops r m t0 i) K r'->∃d,oi.dst=some d:=by
    intro K r' U;unfold QK at U;split at U
    .exact⟨_,by assumption⟩
    .exact U.elim
   rcases hv with⟨hna,hv|⟨ys,d,v,hd,W,hfz,hmv,hmq,hv⟩|⟨ys,v,hmv,hne,hlq,hv⟩⟩|⟨hal,d,hd,W,hv⟩
   .obtain⟨r',U,hdet⟩:=Xp hv
    obtain⟨d,hd⟩:=dsome _ _ U;rw[hd]at U;obtain⟨W,U⟩:=U;exact go0 _ d hd (.inl ⟨hna,.inl ⟨d,hd,.inl ⟨.inl ⟨W,.inl Y,r',hdet,rfl⟩,rfl⟩⟩⟩) U
   .exact go v ys (.inl ⟨hna,.inl ⟨d,hd,.inr ⟨W,Y,hfz,hmv,hmq⟩⟩⟩) (by rw[hd];exact hv)
   .exact go v ys (.inl ⟨hna,.inr (.inl ⟨Y,hmv,hne,hlq⟩)⟩) hv
   .exact go0 .dead d hd (.inr ⟨hal,d,hd,W,rfl,rfl⟩) hv
  .rename_i j H Y
   split at hv
   .rename_i b hb
    by_cases hbw:b=H
    .obtain⟨r',U,hdet⟩:=Xp (hv.1 hbw)
     unfold QK at U;split at U
     case h_2=>exact U.elim
     rename_i d hd;obtain⟨W,U⟩:=U;exact go0 _ d hd (.inl ⟨Dh Y,.inl ⟨d,hd,.inl ⟨.inl ⟨W,.inr ⟨j,H,Y,by rw[hb,hbw]⟩,r',hdet,rfl⟩,rfl⟩⟩⟩) U
    .have hbn:b=(!H):=by cases b<;>cases H<;>simp_all
     obtain⟨Z,U⟩:=hv.2 hbn;cases hd:oi.dst with
     |none=>
      rw[hd]at U;exact go .dead [] (.inl ⟨Dh Y,.inr (.inr ⟨j,H,Y,.inl (by rw[hb,hbn]),hd,rfl⟩)⟩) (by rw[hd];exact U)
     |some d=>
      rw[hd]at U;exact go0 udV d hd (.inl ⟨Dh Y,.inl ⟨d,hd,.inl ⟨.inr ⟨j,H,Y,.inl (by rw[hb,hbn]),Z d hd,rfl⟩,rfl⟩⟩⟩) U
   .obtain⟨hu,Z,U⟩:=hv
    cases hd:oi.dst with
    |none=>
     rw[hd]at U;exact go .dead [] (.inl ⟨Dh Y,.inr (.inr ⟨j,H,Y,.inr hu,hd,rfl⟩)⟩) (by rw[hd];exact U)
    |some d=>
     rw[hd]at U;exact go0 udV d hd (.inl ⟨Dh Y,.inl ⟨d,hd,.inl ⟨.inr ⟨j,H,Y,.inr hu,Z d hd,rfl⟩,rfl⟩⟩⟩) U
structure MOK1(A:Nat->Prop)(ops:Array Oper)(n i:Nat)(p:Nat×Tk)(oi:Oper):Prop where
 at_:ops[i]? =some oi
 na:¬A i
 looks:p.1∈oi.looksAt ops
 one:p.2.isPart=false->∀j oj,ops[j]? =some oj->p.1∈oj.looksAt ops->j=i\/WS ops i j\/WS ops j i
 nx:p.2.isPart=false->∀y c,oi.op≠.extract y c
 part:∀c,p.2=.part c->∀j oj,j<n->ops[j]? =some oj->p.1∈oj.looksAt ops->oj.guard=none/\∃c',oj.op=.extract (.tmp p.1) c'/\(j≠i->c'≠c)
 edge:(∃e∈oi.after,Region.binds .any e=true/\AG ops e.on=some p.1)\/(p.2.isPart=false/\∀j,AG ops j≠some p.1)
structure MOKA(A:Nat->Prop)(B:Nat->Nat->Prop)(ops:Array Oper)(n i:Nat)(p:Nat×Tk)(oi:Oper):Prop where
 at_:ops[i]? =some oi
 put:p.2.isPart=false
 nd:∀j,AG ops j≠some p.1
 us:B i p.1
 one:∀j,B j p.1->j=i\/WS ops i j\/WS ops j i
 look:∀j oj,ops[j]? =some oj->p.1∈oj.looksAt ops->A j
def MOK(A:Nat->Prop)(B:Nat->Nat->Prop)(ops:Array Oper)(n:Nat)(m:Nat->List (Nat×Tk)):Prop:=∀i,i<n->∀p∈m i,∃oi,MOK1 A ops n i p oi\/MOKA A B ops n i p oi
def isA(h:BW)(ops:Array Oper)(i:Nat):Prop:=∃o,ops[i]? =some o/\alM h ops o=true
def isB(h:BW)(ops:Array Oper)(i x:Nat):Prop:=i∈alU h ops x
theorem le_one{α:Type}{l:List α}(h:l.length<=1){a b:α}(U:a∈l)(H:b∈l):a=b:=by
 match l,h with
 |[c],_=>grind
theorem Hq{ops:Array Oper}{oi:Oper}{y:Nat}(h3:(oi.after.toList.any λe=>Region.binds .any e&&(match AG ops e.on with
 |some d=>beq d y
 |none=>false))=true):∃e∈oi.after,Region.binds .any e=true/\AG ops e.on=some y:=by
 obtain⟨e,U,H⟩:=any_eq_true.1 h3;rw[bAE]at H;refine⟨e,by grind,H.1,?_⟩
 have:=H.2;split at this
 .simp_all
 grind
theorem AaZ{P:Program}{h:BW}{σ:List V}{t0 r:Nat->V}{m:Nat->List (Nat×Tk)}(hq:QOK ops n)
  (hst:∀j,j<n->∀o,ops[j]? =some o->Je P h ops σ o (Cb ops r m t0 j) (r j) (m j)):MOK (isA h ops) (isB h ops) ops n m:=by
 intro i hi p Z;obtain⟨oi,U,_⟩:=hq.dst i hi;have hdo:AG ops i=oi.dst:=by simp[AG,U]
 have hm:¬isA h ops i/\(JF ops oi p=true\/U2 h ops oi p=true)/\(p.2.isPart=false->∀y c,oi.op≠.extract y c):=by
  rcases hst i hi oi U with⟨hna,hs⟩|⟨_,_,_,_,_,he⟩
  rotate_left
  .rw[he]at Z;cases Z
  refine⟨fun⟨o',ho',hal⟩=>?_,?_⟩
  .obtain rfl:o'=oi:=Option.some.inj (ho'.symm.trans U)
   rw[hna]at hal;cases hal
  rcases hs with⟨_,_,⟨_,he⟩|⟨_,_,_,hm,hmq⟩⟩|⟨_,hm,hne,_⟩|⟨_,_,_,_,_,he⟩
  .rw[he]at Z;cases Z
  .refine⟨.inl (hm p Z),λhpt y c hop=>?_⟩
   rcases hmq with⟨z,hz,_⟩|⟨z,c',n',f,_,hys,_⟩
   .rcases hz with hz|hz<;>(rw[hop]at hz;cases hz)
   .rw[hys,mem_singleton]at Z
    rw[Z]at hpt;cases hpt
  .exact⟨hm p Z,λ_ y c hop=>by rw[hop]at hne;cases hne⟩
  .rw[he]at Z;cases Z
 obtain⟨hna,hm,hnx⟩:=hm;rcases hm with hm|hm
 rotate_left
 .unfold U2 at hm
  simp only[bAE,not_eq_true']at hm;obtain⟨⟨⟨⟨h1,h2⟩,h3⟩,h4⟩,h5⟩:=hm;have hin:∀j oj,ops[j]? =some oj->alB h ops oj p.1=true->j∈alU h ops p.1:=by
   intro j oj H hb;unfold alU;rw[mem_filter,mem_range];refine⟨(Array.getElem?_eq_some_iff.1 H).1,?_⟩;rw[H];exact hb
  refine⟨oi,.inr ⟨U,h1,CD h3,hin i oi U h2,λj hj=>?_,λj oj H hl=>?_⟩⟩
  .have Z:=KA hq.back h4 λk hk=>by
    have hk:=mem_range.1 (mem_filter.1 hk).1;exact⟨ops[k],by simp[hk]⟩
   obtain⟨a,ha,ea⟩:=getElem_of_mem (hin i oi U h2);obtain⟨b,hb',eb⟩:=getElem_of_mem (show j∈alU h ops p.1 from hj)
   rcases Nat.lt_trichotomy a b with hlt|heq|hlt
   .have:=List.pairwise_iff_getElem.1 Z a b ha hb' hlt
    rw[ea,eb]at this;exact .inr (.inr this)
   .subst heq
    exact .inl (eb.symm.trans ea)
   .have:=List.pairwise_iff_getElem.1 Z b a hb' ha hlt
    rw[ea,eb]at this;exact .inr (.inl this)
  .have:=aET.1 h5 j (mem_range.2 (Array.getElem?_eq_some_iff.1 H).1)
   rw[H]at this;simp only[or_eq_true,not_eq_true']at this;rcases this with h6|h6
   .have:(oj.looksAt ops).contains p.1=true:=by simpa using hl
    rw[h6]at this;cases this
   .exact⟨oj,H,h6⟩
 obtain⟨y,tk⟩:=p
 have wholeC:mvC ops oi y=true->tk.isPart=false->∃oi,MOK1 (isA h ops) ops n i (y,tk) oi\/MOKA (isA h ops) (isB h ops) ops n i (y,tk) oi:=by
  intro hm Y;unfold mvC at hm;rw[bAE,bAE]at hm;have h1:y∈oi.looksAt ops:=by simpa using hm.1.1
  exact⟨oi,.inl ⟨U,hna,h1,λ_ j oj H W=>V3 hq.back hm.2 U h1 H W,hnx,(λc hc=>by have hc:tk=.part c:=hc;rw[hc]at Y;cases Y),.inr ⟨Y,CD hm.1.2⟩⟩⟩
 have whole:mvB ops oi y=true\/mvR ops oi y=true->tk.isPart=false->∃oi,MOK1 (isA h ops) ops n i (y,tk) oi\/MOKA (isA h ops) (isB h ops) ops n i (y,tk) oi:=by
  intro hm Y
  obtain⟨h1,h2,h3⟩:(oi.looksAt ops).contains y=true/\ZJ ops y=true/\((∃e∈oi.after,Region.binds .any e=true/\AG ops e.on=some y)\/(tk.isPart=false/\∀j,AG ops j≠some y)):=by
   rcases hm with hm|hm
   .unfold mvB at hm
    rw[bAE,bAE]at hm;exact⟨hm.1.1,hm.1.2,.inl (Hq hm.2)⟩
   .unfold mvR at hm
    rw[bAE,bAE]at hm;exact⟨hm.1.1,hm.1.2,.inr ⟨Y,CD hm.2⟩⟩
  have h1:y∈oi.looksAt ops:=by simpa using h1
  refine⟨oi,.inl ⟨U,hna,h1,λ_ j oj H W=>.inl ?_,hnx,(λc hc=>by have hc:tk=.part c:=hc;rw[hc]at Y;cases Y),h3⟩⟩
  unfold ZJ at h2;have h2:=of_decide_eq_true h2
  have hin:∀k ok,ops[k]? =some ok->y∈ok.looksAt ops->k∈(range ops.size).filter λj=>match ops[j]? with
    |some o=>(o.looksAt ops).contains y
    |none=>false:=by
   intro k ok hk hyk;rw[mem_filter,mem_range];refine⟨(Array.getElem?_eq_some_iff.1 hk).1,?_⟩;rw[hk];simpa using hyk
  exact le_one h2 (hin j oj H W) (hin i oi U h1)
 unfold JF at hm;cases tk with
 |all=>exact whole (.inl hm) rfl
 |put v=>
  have hm:(mvB ops oi y||mvR ops oi y||mvC ops oi y)=true:=hm;rw[or_eq_true,or_eq_true]at hm;exact hm.elim (λh=>whole h rfl) λh=>wholeC h rfl
 |part c=>
  have hm:exB ops oi y c=true:=hm;unfold exB at hm;rw[bAE,bAE]at hm;obtain⟨⟨h1,h2⟩,h3⟩:=hm;have h1:y∈oi.looksAt ops:=by simpa using h1
  refine⟨oi,.inl ⟨U,hna,h1,(λhc=>by cases hc),(λhc=>by cases hc),λc0 hc j oj hj H W=>?_,.inl (Hq h3)⟩⟩
  cases hc;have hown:=aET.1 h2 i (mem_range.2 (Array.getElem?_eq_some_iff.1 U).1);have:=aET.1 h2 j (mem_range.2 (Array.getElem?_eq_some_iff.1 H).1);rw[H]at this;simp only[or_eq_true,not_eq_true',bAE]at this;rcases this with h4|⟨h4,h5⟩
  .have W:y∈oj.looksAt ops:=W
   have:(oj.looksAt ops).contains y=true:=by simpa using W
   rw[h4]at this;cases this
  .refine⟨by simpa using h4,?_⟩
   split at h5
   case h_2=>cases h5
   rename_i y' c' hop;simp only[bAE,or_eq_true,not_eq_true',beq_iff_eq]at h5;obtain⟨h6,h7⟩:=h5;have h6:=bqE h6;subst h6;refine⟨c',hop,λhji hcc=>?_⟩
   rcases h7 with h7|h7
   .rw[hcc,Nat.beq_refl]at h7;cases h7
   .cases hdi:oi.dst with
    |some d=>exact(hq.ne i j d oj hi hj (Ne.symm hji) (hdo.trans hdi) H).1 (h7.trans hdi)
    |none=>
     rcases hst i hi oi U with⟨_,⟨d,hd,_⟩|⟨_,_,hne,_⟩|⟨_,_,_,_,_,he⟩⟩|⟨_,d,hd,_⟩
     .rw[hdi]at hd;cases hd
     rotate_left
     .rw[he]at Z;cases Z
     .rw[hdi]at hd;cases hd
     .rw[U]at hown
      simp only[or_eq_true,not_eq_true',bAE]at hown;rcases hown with h8|⟨_,h8⟩
      .have:(oi.looksAt ops).contains y'=true:=by simpa using h1
       rw[h8]at this;cases this
      .split at h8
       .rename_i hop';rw[hop']at hne;cases hne
       .cases h8
def apS(S:Nat->Bool)(m:Nat->List (Nat×Tk))(x:Nat)(v:V):Nat->V
 |0=>v
 |n+1=>if S n=true then Ig (Bl (m n) x) (apS S m x v n)else apS S m x v n
def Ic{S:Nat->Bool}{m:Nat->List (Nat×Tk)}{x:Nat}{v:V}:∀n,(∀i,i<n->S i=true->Bl (m i) x=none)->apS S m x v n=v
 |0,_=>rfl
 |n+1,h=>by
  unfold apS;rw[Ic n λi hi=>h i (by omega)]
  split
  .rename_i H;rw[h n (by simp) H];rfl
  rfl
def Cp{S S':Nat->Bool}{m:Nat->List (Nat×Tk)}{x:Nat}{v:V}:∀n,(∀i,i<n->S i=S' i)->apS S m x v n=apS S' m x v n
 |0,_=>rfl
 |n+1,h=>by
  unfold apS;rw[Cp n λi hi=>h i (by omega),h n (by simp)]
def KM{S S':Nat->Bool}{m:Nat->List (Nat×Tk)}{x j:Nat}{v:V}(U:S j=false)(H:S' j=true)(h3:∀i,i≠j->S' i=S i):∀n,(∀i,i<n->j<i->S i=true->∀u,Ig (Bl (m i) x) (Ig (Bl (m j) x) u)=Ig (Bl (m j) x) (Ig (Bl (m i) x) u))->j<n->apS S' m x v n=Ig (Bl (m j) x) (apS S m x v n)
 |0,_,h=>by omega
 |n+1,hc,h=>by
  unfold apS;by_cases hj:j=n
  .subst hj
   rw[if_pos H,U,Cp (S':=S) j λi hi=>h3 i (by omega)]
   simp
  .rw[KM U H h3 n (λi hi=>hc i (by omega)) (by omega),h3 n (Ne.symm hj)]
   grind
def EqC(c:Nat)(v v':V):Prop:=v=v'\/∃H n f g,v=.many H n f/\v'=.many H n g/\f c=g c
theorem EqC.symm{c:Nat}{v v':V}(h:EqC c v v'):EqC c v' v:=by
 rcases h with rfl|⟨H,n,f,g,W,U,h3⟩
 .exact .inl rfl
 .exact .inr ⟨H,n,g,f,U,W,h3.symm⟩
theorem EqC.trans{c:Nat}{v v' H:V}(h:EqC c v v')(h':EqC c v' H):EqC c v H:=by
 rcases h with rfl|⟨Z,n,f,g,h1,h2,h3⟩
 .omega
 .rcases h' with rfl|⟨tg',n',f',g',U,Y,W⟩
  .exact .inr ⟨Z,n,f,g,h1,h2,h3⟩
  .rw[h2]at U
   cases U;exact .inr ⟨Z,n,f,g',h1,Y,h3.trans W⟩
theorem EqC.kill{c c':Nat}(h:c'≠c)(v:V):EqC c v (OS c' v):=by
 cases v<;>try exact .inl rfl
 exact .inr ⟨_,_,_,_,rfl,rfl,by grind⟩
theorem YF{S:Nat->Bool}{m:Nat->List (Nat×Tk)}{x c:Nat}{v:V}:∀n,(∀i,i<n->S i=true->∀H,Bl (m i) x=some H->∃c',H=.part c'/\c'≠c)->EqC c v (apS S m x v n)
 |0,_=>.inl rfl
 |n+1,h=>by
  have U:=YF (v:=v) n λi hi=>h i (by omega)
  unfold apS;split
  .rename_i W
   cases Y:Bl (m n) x with
   |none=>trivial
   |some H=>
    obtain⟨c',rfl,Z⟩:=h n (by simp) W H Y
    exact U.trans (EqC.kill Z _)
  grind
def CC(ops:Array Oper)(n x:Nat):Option Nat:=(range n).find? λi=>AG ops i==some x
theorem Bj(h:CC ops n x=some i):i<n/\AG ops i=some x:=by
 unfold CC at h
 grind
theorem LA(h:CC ops n x=none):∀i,i<n->AG ops i≠some x:=by
 unfold CC at h
 grind
theorem MT(W:QOK ops n)(hi:i<n)(h:AG ops i=some x):CC ops n x=some i:=by
 cases Y:CC ops n x with
 |none=>exact absurd h (LA Y i hi)
 |some j=>
  obtain⟨hj,U⟩:=Bj Y;by_cases Z:j=i
  .grind
  .obtain⟨oi,H,_⟩:=W.dst i hi
   have:=(W.ne j i x oi hj hi Z U H).1;simp[AG,H]at h
   grind
def Do(Y:QOK ops n)(hm:MOK A B ops n m){tk:Tk}(hi:i<n)(h:Bl (m i) x=some tk):CC ops n x=none\/∃k,CC ops n x=some k/\k<i/\∃oi,ops[i]? =some oi/\∃e∈oi.after,Region.binds .any e=true/\e.on=k:=by
 obtain⟨oi,H⟩:=hm i hi _ (CF h);rcases H with H|H
 rotate_left
 .left
  cases hw:CC ops n x with
  |none=>rfl
  |some k=>exact absurd (Bj hw).2 (H.nd k)
 rcases H.edge with⟨e,Z,hb,hd⟩|⟨_,U⟩
 rotate_left
 .left
  cases H:CC ops n x with
  |none=>rfl
  |some k=>exact absurd (Bj H).2 (U k)
 right;have W:=Y.back i oi e H.at_ Z hb;exact⟨e.on,MT Y (by omega) hd,W,oi,H.at_,e,Z,hb,rfl⟩
theorem Ui(hm:MOK A B ops n m)(hi:i<n)(hj:j<n)(Y:i≠j)(h1:¬WS ops i j)(W:¬WS ops j i)(u:V):Ig (Bl (m i) x) (Ig (Bl (m j) x) u)=Ig (Bl (m j) x) (Ig (Bl (m i) x) u):=by
 refine X0 _ _ _ λa b ha Z=>?_
 obtain⟨oi,U⟩:=hm i hi _ (CF ha);obtain⟨oj,H⟩:=hm j hj _ (CF Z);rcases U with U|U
 rotate_left
 .rcases H with H|H
  .exact absurd (U.look j oj H.at_ H.looks) H.na
  .rcases U.one j H.us with h3|h3|h3<;>first|omega|exact absurd h3 h1|exact absurd h3 W
 rcases H with H|H
 rotate_left
 .exact absurd (H.look i oi U.at_ U.looks) U.na
 refine⟨?_,?_⟩
 .cases h:a.isPart with
  |true=>rfl
  |false=>rcases U.one h j oj H.at_ H.looks with h3|h3|h3<;>first|grind|rfl|rfl
 .cases h:b.isPart with
  |true=>rfl
  |false=>rcases H.one h i oi U.at_ U.looks with h3|h3|h3<;>first|grind|rfl|exact absurd h3 W
def pt(ops:Array Oper)(n:Nat)(r:Nat->V)(m:Nat->List (Nat×Tk))(t0:Nat->V)(listed:Array Bool)(x:Nat):V:=
 match CC ops n x with
 |some k=>if listed.getD k false then apS (λi=>listed.getD i false) m x (r k) n else .dead
 |none=>apS (λi=>listed.getD i false) m x (t0 x) n
theorem HG(hq:QOK ops n)(hm:MOK A B ops n m)(r t0:Nat->V)(x:Nat):∀j,j<=n->Cb ops r m t0 j x=match CC ops n x with
  |some k=>if k<j then apS (λi=>decide (i<j)) m x (r k) n else t0 x
  |none=>apS (λi=>decide (i<j)) m x (t0 x) n:=by
 intro j
 induction j with
 |zero=>
  intro _;cases CC ops n x with
  |none=>exact(Ic n λi _ U=>by simp at U).symm
  |some k=>simp[Cb]
 |succ j ih=>
  intro hj;obtain⟨oj,hoj,_⟩:=hq.dst j (by omega)
  have hdo:AG ops j=oj.dst:=by simp[AG,hoj]
  have other:AG ops j≠some x->Cb ops r m t0 (j+1) x=match CC ops n x with
    |some k=>if k<j+1 then apS (λi=>decide (i<j+1)) m x (r k) n else t0 x
    |none=>apS (λi=>decide (i<j+1)) m x (t0 x) n:=by
   intro Y
   have e:Cb ops r m t0 (j+1) x=AL (m j) (Cb ops r m t0 j) x:=by
    show IU (AG ops j) (r j) (AL (m j) (Cb ops r m t0 j)) x=_;cases hd:AG ops j with
    |none=>rfl
    |some d=>
     show AD _ d _ x=_;unfold AD;rw[if_neg]
     rintro rfl
     exact Y hd
   rw[e];unfold AL;rw[ih (by omega)]
   cases W:CC ops n x with
   |none=>
    exact(KM (by simp) (by simp) (λi hi=>by
      simp only[decide_eq_decide];omega) n (λi _ hij U=>absurd (of_decide_eq_true U) (by omega)) (by omega)).symm
   |some k=>
    have hkj:k≠j:=by
     rintro rfl
     exact Y (Bj W).2
    simp only;by_cases Z:k<j
    .rw[if_pos Z,if_pos (by omega)]
     exact(KM (by simp) (by simp) (λi hi=>by
      simp only[decide_eq_decide];omega) n (λi _ hij U=>absurd (of_decide_eq_true U) (by omega)) (by omega)).symm
    .rw[if_neg Z,if_neg (by omega)]
     cases hl:Bl (m j) x with
     |none=>rfl
     |some tk=>
      rcases Do hq hm (by omega:j<n) hl with H|⟨k',H,hkj',_⟩
      .rw[W]at H;cases H
      .rw[W]at H;cases H;omega
  by_cases Y:AG ops j=some x
  .have W:=MT hq (by omega:j<n) Y
   have e:Cb ops r m t0 (j+1) x=r j:=by
    show IU (AG ops j) (r j) (AL (m j) (Cb ops r m t0 j)) x=_;rw[Y];show AD _ x _ x=_;unfold AD;rw[if_pos rfl]
   rw[e,W];simp only[Nat.lt_succ_self,if_true];refine(Ic n λi hi U=>?_).symm
   cases hl:Bl (m i) x with
   |none=>rfl
   |some tk=>
    rcases Do hq hm hi hl with hk|⟨k,hk,hki,_⟩
    .rw[W]at hk;cases hk
    rw[W]at hk;cases hk;have:=of_decide_eq_true U;omega
  .exact other Y
theorem PR.ev{C:Ctx}{N:Nat}{σ:List V}{ρ:Nat->Value}{F:Nat->Nat->Prop}{t:Nat->V}{a:Act}{w:World}{D:Nat->Prop}{T:Nat->Nat->Prop}(h:PR C N σ ρ F t a w D T)(x:Operand):OpR σ w D ρ F (Ms.ev ⟨t,σ⟩ x) (a.eval x):=by
 have plain:∀v cv,Rel D w (Ae σ ρ w) v cv noF->OpR σ w D ρ F v cv:=λv cv U=>⟨noF,U,λ_ h=>h.elim,λ_ _ _ h=>h⟩
 cases x with
 |tmp y=>
  by_cases H:y<N
  .exact⟨T y,h.tm y H,h.tD y,λi b W=>h.tF i y b W⟩
  .refine plain _ _ ?_
   show Rel D w _ (t y) _ noF;rw[h.dd y (le_of_not_lt H)];exact λ_ h=>h
 |const v=>exact plain _ _ (IM v)
 |global g=>exact plain _ _ ⟨rfl,rfl,λ_ h=>h⟩
 |func f=>exact plain _ _ Qe
theorem PR.gvN(h:PR C N σ ρ F t a w D T)(H:Go.Ve.gv t ops j=udV):yielded ops a.tmps j=none:=by
 unfold Go.Ve.gv at H;split at H
 .rename_i d hd
  have U:d<N:=by
   rcases lt_or_ge d N with h'|h'
   .grind
   .rw[h.dd d h']at H;cases H
  have Y:=h.tm d U;rw[H]at Y;obtain⟨cs,_,W,_⟩:=Y;have Z:d<a.tmps.size:=by rw[h.sz];omega
  have h3:a.tmps[d]? =some (.tuple cs):=by
   simp[Z]at W⊢
   trivial
  unfold yielded
  grind
 trivial
theorem PR.gv{C:Ctx}{N:Nat}{σ:List V}{ρ:Nat->Value}{F:Nat->Nat->Prop}{t:Nat->V}{a:Act}{w:World}{D:Nat->Prop}{T:Nat->Nat->Prop}(h:PR C N σ ρ F t a w D T){ops:Array Oper}{j:Nat}{b:Bool}(H:Go.Ve.gv t ops j=.c (.bool b)):yielded ops a.tmps j=some b:=by
 unfold Go.Ve.gv at H;split at H
 .rename_i d hd
  have U:d<N:=by
   rcases lt_or_ge d N with h'|h'
   .omega
   .rw[h.dd d h']at H;grind
  have W:=h.tm d U;rw[H]at W;have Y:d<a.tmps.size:=by rw[h.sz];grind
  have h3:a.tmps[d]? =some (.bool b):=by
   have:=W.1
   simp_all
  unfold yielded
  grind
 grind
theorem PR.put{C:Ctx}{N:Nat}{σ:List V}{ρ:Nat->Value}{F:Nat->Nat->Prop}{t:Nat->V}{a:Act}{w w':World}{D D':Nat->Prop}{T:Nat->Nat->Prop}(h:PR C N σ ρ F t a w D T){r:V}{v':Value}{fp:Nat->Prop}{d:Nat}(hB:Below w.heap.size w w')(hr:Rel D' w' (Ae σ ρ w') r v' fp)
  (hf:∀b,fp b->w.heap.size<=b) (hd1:∀b,D b->D' b) (hd2:∀b,D' b->D b\/w.heap.size<=b) (hd3:∀b,D' b->b<w'.heap.size/\¬fp b) (hdn:d<N):
  PR C N σ ρ F (AD t d r) (a.put (some d) v') w' D' (λx=>if x=d then fp else T x):=by
 have Y:∀i b,F i b->b<w.heap.size:=h.wr.lt;have U:∀x b,T x b->b<w.heap.size:=by
  intro x b H;by_cases Z:x<N
  .exact Rel.lt _ _ _ (h.tm x Z) b H
  .exact absurd H (h.tx x b (le_of_not_lt Z))
 have wr':Be σ w' D' ρ F:=by
  have h1:=h.wr.below hB;refine⟨λi hi=>Rel.mono hd1 (λ_ _ h=>h) _ _ _ (λ_ _=>rfl) (h1.rel i hi),h1.disj,λi b H hD=>?_,λb H=>(hd3 b H).1,h1.out⟩
  rcases hd2 b hD with W|W
  .exact h1.dD i b H W
  .have:=Y i b H;omega
 refine⟨h.df,by rw[BC];simpa using h.sz,λx Z=>?_,wr',λx Z=>?_,λx b H=>?_,λi x b H hT=>?_,λx y b hxy h1 W=>?_,λx b H=>?_,h.fr.below hB,h.Fn,λb H=>hd1 b (h.D1 b H),λb H hlt=>?_,h.rt,h.ml,λx b Z H=>?_⟩
 .have:¬x=d:=by omega
  simp only[AD,this,if_false];exact h.dd x Z
 .have hlt:x<a.tmps.size:=by rw[h.sz];exact Z
  rw[BC];by_cases he:x=d
  .subst he
   simp only[AD,if_true];simpa [hlt]using hr
  .simp only[AD,he,if_false]
   rw[getD_eq_getD_getElem?,Array.getElem?_setIfInBounds_ne (Ne.symm he),<-getD_eq_getD_getElem?];refine Rel.mono hd1 (λv cv hv=>Ae.same h.wr (λi b H=>hB.block b (Y i b H)) v cv hv) _ _ _ (λb H=>hB.block b ?_) (h.tm x Z)
   exact H.elim (h.wr.Dlt b) (U x b)
 .split at H
  .exact λhD=>(hd3 b hD).2 H
  .intro hD
   rcases hd2 b hD with W|W
   .exact h.tD x b H W
   .have:=U x b H;omega
 .split at hT
  .have:=Y i b H;have:=hf b hT;omega
  .exact h.tF i x b H hT
 .split at h1<;>split at W
  .omega
  .have:=hf b h1;have:=U y b W;omega
  .have:=hf b W;have:=U x b h1;omega
  .exact h.tT x y b hxy h1 W
 .split at H
  .exact .inr (Nat.le_trans h.fr.size (hf b H))
  .exact h.tn x b H
 .rcases hd2 b H with W|W
  .exact h.D2 b W hlt
  .have:=h.fr.size;omega
 .have:¬x=d:=by omega
  simp only[this,if_false]at H;exact h.tx x b Z H
theorem PR.move{w':World}{D':Nat->Prop}(h:PR C N σ ρ F t a w D T){r:V}{v':Value}{d:Nat}{t1:Nat->V}{T1:Nat->Nat->Prop}(g1:∀x,x<N->Rel D w (Ae σ ρ w) (t1 x) (a.tmps.getD x undef) (T1 x))(g2:∀x b,T1 x b->T x b)(g3:∀x,N<=x->t1 x=.dead)(hB:Below w.heap.size w w')(hr:Rel D' w' (Ae σ ρ w') r v' fp)
  (hf:∀b,fp b->(∃y,T y b/\∀x,¬T1 x b)\/w.heap.size<=b) (hd1:∀b,D b->D' b) (hd2:∀b,D' b->D b\/w.heap.size<=b) (hd3:∀b,D' b->b<w'.heap.size/\¬fp b) (hdn:d<N):
  PR C N σ ρ F (AD t1 d r) (a.put (some d) v') w' D' (λx=>if x=d then fp else T1 x):=by
 have Y:∀i b,F i b->b<w.heap.size:=h.wr.lt;have W:∀x b,T x b->b<w.heap.size:=by
  intro x b H;by_cases Z:x<N
  .exact Rel.lt _ _ _ (h.tm x Z) b H
  .exact absurd H (h.tx x b (le_of_not_lt Z))
 have wr':Be σ w' D' ρ F:=by
  have h1:=h.wr.below hB;refine⟨λi hi=>Rel.mono hd1 (λ_ _ h=>h) _ _ _ (λ_ _=>rfl) (h1.rel i hi),h1.disj,λi b H hD=>?_,λb H=>(hd3 b H).1,h1.out⟩
  rcases hd2 b hD with U|U
  .exact h1.dD i b H U
  .have:=Y i b H;omega
 refine⟨h.df,by rw[BC];simpa using h.sz,λx Z=>?_,wr',λx Z=>?_,λx b H=>?_,λi x b H hT=>?_,λx y b hxy h1 U=>?_,λx b H=>?_,h.fr.below hB,h.Fn,λb H=>hd1 b (h.D1 b H),λb H hlt=>?_,h.rt,h.ml,λx b Z H=>?_⟩
 .have:¬x=d:=by omega
  simp only[AD,this,if_false];exact g3 x Z
 .have hlt:x<a.tmps.size:=by rw[h.sz];exact Z
  rw[BC];by_cases he:x=d
  .subst he
   simp only[AD,if_true];simpa [hlt]using hr
  .simp only[AD,he,if_false]
   rw[getD_eq_getD_getElem?,Array.getElem?_setIfInBounds_ne (Ne.symm he),<-getD_eq_getD_getElem?];refine Rel.mono hd1 (λv cv hv=>Ae.same h.wr (λi b H=>hB.block b (Y i b H)) v cv hv) _ _ _ (λb H=>hB.block b ?_) (g1 x Z)
   exact H.elim (h.wr.Dlt b) λh'=>W x b (g2 x b h')
 .split at H
  .exact λhD=>(hd3 b hD).2 H
  .intro hD
   rcases hd2 b hD with U|U
   .exact h.tD x b (g2 x b H) U
   .have:=W x b (g2 x b H);omega
 .split at hT
  .rcases hf b hT with⟨y,hy,_⟩|U
   .exact h.tF i y b H hy
   .have:=Y i b H;omega
  .exact h.tF i x b H (g2 x b hT)
 .have one:∀x,fp b->T1 x b->False:=by
   intro x h3 h4;rcases hf b h3 with⟨z,_,h5⟩|h5
   .exact h5 x h4
   .have:=W x b (g2 x b h4);omega
  split at h1<;>split at U
  .omega
  .exact one y h1 U
  .exact one x U h1
  .exact h.tT x y b hxy (g2 x b h1) (g2 y b U)
 .split at H
  .rcases hf b H with⟨y,hy,_⟩|U
   .exact h.tn y b hy
   .exact .inr (Nat.le_trans h.fr.size U)
  .exact h.tn x b (g2 x b H)
 .rcases hd2 b H with U|U
  .exact h.D2 b U hlt
  .have:=h.fr.size;omega
 .have:¬x=d:=by omega
  simp only[this,if_false]at H;exact h.tx x b Z (g2 x b H)
end Go.Ve


namespace Go.Ve
variable{a:Act}{K K':Act->World->Prop}{listed:Array Bool}{Q Q0:Exit->Act->World->Prop}{N c d f i x y:Nat}{D:Nat->Prop}{o oi:Oper}{dst:Option Nat}{u v:Value}{w:World}
def Below.drew(w:World):Below w.heap.size w {w with drawn:=w.drawn+1}:=
 ⟨rfl,rfl,rfl,le_refl _,λ_ _=>rfl,Nat.le_succ _⟩
theorem BD(h:dst≠some x):(a.put dst u).tmps[x]? =a.tmps[x]?:=by
 cases dst with
 |none=>rfl
 |some e=>
  show(a.tmps.setIfInBounds e u)[x]? =_
  grind
section
def Qm(ops:Array Oper)(n:Nat)(X:Nat->Prop)(x:Nat):Prop:=(∃i,i<n/\AG ops i=some x)\/X x
variable {X A:Nat->Prop}{B:Nat->Nat->Prop}{P:Program}{C:Ctx}{h:BW}{ops:Array Oper}{σ:List V}{ρ:Nat->Value}{F:Nat->Nat->Prop}{t0 r:Nat->V}{m:Nat->List (Nat×Tk)}{n:Nat}
theorem pt_set(hq:QOK ops n)(hm:MOK A B ops n m)(Y:HeadInv .any ops n listed)(hi:i<n)(hr:i∈Region.ready .any ops listed):
  pt ops n r m t0 (listed.setIfInBounds i true)=IU (AG ops i) (r i) (AL (m i) (pt ops n r m t0 listed)):=by
 have hl:=Y.size;have hii:i<listed.size:=by rw[hl];exact Nat.lt_of_lt_of_le hi hq.le
 obtain⟨H,o2,ho2,hall⟩:=mem_ready.1 hr;have H:=getD_both H;have eI:(listed.setIfInBounds i true).getD i false=true:=by simp[hii]
 funext x
 by_cases hx:AG ops i=some x
 .have e:IU (AG ops i) (r i) (AL (m i) (pt ops n r m t0 listed)) x=r i:=by
   rw[hx];show AD _ x _ x=_;unfold AD;rw[if_pos rfl]
  rw[e];have ho:=MT hq hi hx;unfold pt;rw[ho];simp only;rw[if_pos eI];refine Ic n λj hj hs=>?_
  cases hc:Bl (m j) x with
  |none=>rfl
  |some tk=>
   rcases Do hq hm hj hc with hk|⟨k,hk,hkj,oj,hoj,e,he,hb,Z⟩
   .rw[ho]at hk;cases hk
   rw[ho]at hk;cases hk;rw[getD_set_ne false (by omega)]at hs
   have:=Y.closed j oj hoj hs e he hb;rw[Z,H]at this;cases this
 .have e:IU (AG ops i) (r i) (AL (m i) (pt ops n r m t0 listed)) x=AL (m i) (pt ops n r m t0 listed) x:=by
   cases hd:AG ops i with
   |none=>rfl
   |some d=>
    show AD _ d _ x=_;unfold AD;rw[if_neg]
    rintro rfl
    exact hx hd
  rw[e];unfold AL pt;cases ho:CC ops n x with
  |none=>
   exact KM (S:=λi=>listed.getD i false) H eI (λj hj=>getD_set_ne false (Ne.symm hj)) n (λj hj hij hs u=>Ui hm hj hi (by omega) (λh=>by have:=h.listed Y.closed hs;rw[H]at this;cases this) (λh=>absurd h.1 (by omega)) u) hi
  |some k=>
   have hne:i≠k:=by
    rintro rfl
    exact hx (Bj ho).2
   simp only;rw[getD_set_ne false hne];by_cases U:listed.getD k false=true
   .rw[if_pos U,if_pos U]
    exact KM (S:=λi=>listed.getD i false) H eI (λj hj=>getD_set_ne false (Ne.symm hj)) n (λj hj hij hs u=>Ui hm hj hi (by omega) (λh=>by have:=h.listed Y.closed hs;rw[H]at this;cases this) (λh=>absurd h.1 (by omega)) u) hi
   .rw[if_neg U,if_neg U]
    cases hc:Bl (m i) x with
    |none=>rfl
    |some tk=>
     rcases Do hq hm hi hc with W|⟨k',W,hki,oi,hoi,e,he,hb,Z⟩
     .rw[ho]at W;cases W
     rw[ho]at W;cases W;obtain rfl:oi=o2:=Option.some.inj (hoi.symm.trans ho2);have:=hall e he hb;rw[Z]at this;exact absurd this U
theorem Hc{S S':Nat->Bool}{x:Nat}{v:V}:∀n,(∀i,i<n->Bl (m i) x≠none->S i=S' i)->apS S m x v n=apS S' m x v n
 |0,_=>rfl
 |n+1,h=>by
  unfold apS;rw[Hc n λi hi=>h i (by omega)]
  cases U:Bl (m n) x with
  |none=>
   have:∀b,(if b=true then Ig none (apS S' m x v n)else apS S' m x v n)=apS S' m x v n:=by
    intro b;cases b<;>rfl
   simp_all
  |some H=>grind
theorem YK(hq:QOK ops n)(hm:MOK A B ops n m)(inv:HeadInv .any ops n listed)(U:ops[i]? =some oi)(hi:i<n)(hr:i∈Region.ready .any ops listed)(hna:¬A i)(hx:x∈oi.looksAt ops):
  Cb ops r m t0 i x=pt ops n r m t0 listed x\/(oi.guard=none/\∃c,oi.op=.extract (.tmp x) c/\EqC c (Cb ops r m t0 i x) (pt ops n r m t0 listed x)):=by
 rw[HG hq hm r t0 x i (Nat.le_of_lt hi)];unfold pt
 have hm1:∀j,j<n->∀Y,Bl (m j) x=some Y->∃oj,MOK1 A ops n j (x,Y) oj:=by
  intro j hj Y hl;obtain⟨oj,ok|ok⟩:=hm j hj _ (CF hl)
  .exact⟨oj,ok⟩
  .exact absurd (ok.look i oi U hx) hna
 have one:∀j,j<n->∀Y,Bl (m j) x=some Y->Y.isPart=false->decide (j<i)=listed.getD j false:=by
  intro j hj Y hl H;obtain⟨oj,ok⟩:=hm1 j hj _ hl;obtain⟨W,o2,ho2,hall⟩:=mem_ready.1 hr;have W:=getD_both W;rcases ok.one H i oi U hx with h|h|h
  .subst h
   rw[W];simp
  .have h1:=h.1
   have:listed.getD j false=false:=by
    cases hb:listed.getD j false with
    |false=>rfl
    |true=>have:=h.listed inv.closed hb;rw[W]at this;cases this
   rw[this];exact dF (by omega)
  .rw[h.2 listed inv.closed λoi' hoi' e he hb=>by
    obtain rfl:oi'=o2:=Option.some.inj (hoi'.symm.trans ho2);exact hall e he hb]
   exact dT h.1
 cases ho:CC ops n x with
 |none=>
  left;refine Hc n λj hj hl=>?_
  cases Z:Bl (m j) x with
  |none=>exact absurd Z hl
  |some Y=>
   obtain⟨oj,ok⟩:=hm1 j hj _ Z;rcases ok.edge with⟨e,he,hb,hd⟩|⟨H,_⟩
   .have hlt:=hq.back j oj e ok.at_ he hb
    exact absurd hd (LA ho e.on (by omega))
   .exact one j hj Y Z H
 |some k=>
  obtain⟨hk,hdk⟩:=Bj ho;obtain⟨oi',hoi',hnl⟩:=hq.dst i hi;obtain rfl:oi'=oi:=Option.some.inj (hoi'.symm.trans U);have hne:k≠i:=by
   rintro rfl
   have:oi'.dst=some x:=by simpa [AG,U]using hdk
   exact hnl x this hx
  obtain⟨e,he,hb,hon⟩:=(hq.ne k i x oi' hk hi hne hdk U).2 hx;obtain⟨W,o2,ho2,hall⟩:=mem_ready.1 hr;obtain rfl:o2=oi':=Option.some.inj (ho2.symm.trans U);have h1:=hall e he hb;rw[hon]at h1;have h2:=hq.back i o2 e U he hb;rw[hon]at h2;simp only[h1,h2,if_true];have W:=getD_both W;by_cases hex:∃j c,j<n/\Bl (m j) x=some (.part c)
  .obtain⟨j,c,hj,hl⟩:=hex
   obtain⟨oj,ok⟩:=hm1 j hj _ hl;obtain⟨hg,c',hop,_⟩:=ok.part c rfl i o2 hi U hx;right;refine⟨hg,c',hop,?_⟩
   have side:∀S:Nat->Bool,S i=false->EqC c' (r k) (apS S m x (r k) n):=by
    intro S hSi;refine YF n λj' hj' hs Y hl'=>?_
    obtain⟨oj',ok'⟩:=hm1 j' hj' _ hl';cases H:Y.isPart with
    |false=>
     obtain⟨_,c3,hop3,_⟩:=ok.part c rfl j' oj' hj' ok'.at_ ok'.looks;exact absurd hop3 (ok'.nx H _ _)
    |true=>
     cases Y<;>first|cases H|skip
     rename_i c2;obtain⟨_,c3,hop3,hne3⟩:=ok'.part c2 rfl i o2 hi U hx;rw[hop]at hop3;cases hop3;refine⟨c2,rfl,λe=>?_⟩
     have hij:i≠j':=by
      rintro rfl
      rw[hSi]at hs;cases hs
     exact hne3 hij e.symm
   exact(side (λj=>decide (j<i)) (by simp)).symm.trans (side (λj=>listed.getD j false) W)
  .left
   refine Hc n λj hj hl=>?_
   cases Z:Bl (m j) x with
   |none=>exact absurd Z hl
   |some Y=>
    cases H:Y.isPart with
    |true=>
     cases Y<;>first|cases H|skip
     exact absurd ⟨j,_,hj,Z⟩ hex
    |false=>exact one j hj Y Z H
theorem agreeA(hq:QOK ops n)(hm:MOK A B ops n m)(U:HeadInv .any ops n listed)(hi:i<n)(hr:i∈Region.ready .any ops listed){tk:Tk}(Z:MOKA A B ops n i (x,tk) oi):
  Cb ops r m t0 i x=pt ops n r m t0 listed x:=by
 rw[HG hq hm r t0 x i (Nat.le_of_lt hi)];unfold pt;have Y:CC ops n x=none:=by
  cases hw:CC ops n x with
  |none=>rfl
  |some k=>exact absurd (Bj hw).2 (Z.nd k)
 rw[Y];refine Hc n λj hj hl=>?_
 cases W:Bl (m j) x with
 |none=>exact absurd W hl
 |some tk'=>
  obtain⟨H,o2,ho2,hall⟩:=mem_ready.1 hr;have H:=getD_both H;have key:j=i\/WS ops i j\/WS ops j i:=by
   obtain⟨oj,ok|ok⟩:=hm j hj _ (CF W)
   .exact absurd (Z.look j oj ok.at_ ok.looks) ok.na
   .exact Z.one j ok.us
  rcases key with h|h|h
  .subst h
   rw[H];simp
  .rw[h.2 listed U.closed λoi' hoi' e he hb=>by
    grind]
   exact dT h.1
  .have h1:=h.1
   have:listed.getD j false=false:=by
    cases hb:listed.getD j false with
    |false=>rfl
    |true=>have:=h.listed U.closed hb;rw[H]at this;cases this
   grind
theorem Ny(hq:QOK ops n)(hm:MOK A B ops n m)(H:HeadInv .any ops n listed)(U:ops[i]? =some oi)(hi:i<n)(Z:i∈Region.ready .any ops listed)(W:¬A i)(Y:x∈oi.looksAt ops)(hne:∀y c,oi.op≠.extract y c):
  Cb ops r m t0 i x=pt ops n r m t0 listed x:=by
 rcases YK hq hm H U hi Z W Y with h|⟨_,c,h,_⟩
 .omega
 grind
theorem Oj{v v':V}{K:V->Prop}(h:EqC c v v')(H:Cs v c K):Cs v' c K:=by
 rcases h with rfl|⟨U,n,f,g,rfl,rfl,h3⟩
 .omega
 .unfold Cs at H⊢
  grind
theorem PR.skip{T:Nat->Nat->Prop}{t:Nat->V}(W:PR C N σ ρ F t a w D T)(U:d<N):
  ∃T',PR C N σ ρ F (AD t d udV) (a.put (some d) undef) w D T'/\∀x b,T' x b->T x b:=
 ⟨_,W.put (Below.refl _ _) Rel.ud (λ_ h=>h.elim) (λ_ h=>h) (λ_ h=>.inl h) (λb H=>⟨W.wr.Dlt b H,λh=>h⟩) U,λx b H=>by split at H;exact H.elim;grind⟩
theorem HY{Q:Exit->Act->World->Prop}{K:Act->World->Prop}(hq:QOK ops n)(hm:MOK (isA h ops) (isB h ops) ops n m)(inv:HeadInv .any ops n listed)(hi:i<n)(hr:i∈Region.ready .any ops listed)
  (hst:∀j,j<n->∀o,ops[j]? =some o->Je P h ops σ o (Cb ops r m t0 j) (r j) (m j)) {D:Nat->Prop}{T:Nat->Nat->Prop}{a:Act}{w:World}
  (hp:PR C h.n σ ρ F (pt ops n r m t0 listed) a w D T) (hT:∀x b,T x b->Qm ops n X x) (hal:∀oi,ops[i]? =some oi->∀z y,AlP h ops oi z y->a.tmps.getD z undef=a.tmps.getD y undef)
  (hK:∀a' w' D' T',PR C h.n σ ρ F (pt ops n r m t0 (listed.setIfInBounds i true)) a' w' D' T'->(∀x b,T' x b->Qm ops n X x)->(∀x,AG ops i≠some x->a'.tmps[x]? =a.tmps[x]?)->K a' w'):wpOp P ops Q i K a w:=by
 obtain⟨oi,hoi,hnl⟩:=hq.dst i hi;have hdoi:AG ops i=oi.dst:=by simp[AG,hoi]
 rw[pt_set hq hm inv hi hr,hdoi]at hK
 have hgv:∀j want,oi.guard=some (j,want)->gv (pt ops n r m t0 listed) ops j=gv (Cb ops r m t0 i) ops j:=by
  intro j want hg;unfold gv;split
  .rename_i x U
   rcases YK (r:=r) (t0:=t0) hq hm inv hoi hi hr (fun⟨o',ho',ha⟩=>by
    obtain rfl:o'=oi:=Option.some.inj (ho'.symm.trans hoi);rw[Dh hg]at ha;cases ha) (x:=x) (by unfold Oper.looksAt;rw[hg];simp[U])with h|⟨h,_⟩
   .exact h.symm
   .rw[hg]at h;cases h
  .rfl
 unfold wpOp;simp only[hoi];rcases hst i hi oi hoi with⟨hna,hs⟩|⟨ha,d,hd,hdn,hri,hmi⟩
 rotate_left
 .obtain⟨hg,y,z,W,hz,_⟩:=Nx ha
  have hw:Region.wanted oi (yielded ops a.tmps)=true:=by simp[Region.wanted,hg]
  rw[if_pos hw];refine .inl ?_;have hrun:(execOp a.eval oi).run P w=.ok (.value (a.eval (.tmp y))) w:=by unfold execOp;rw[W];rfl
  unfold Oper.wp;rw[hrun];show K (a.put oi.dst (a.eval (.tmp y))) w;rw[hd]at hK⊢;rw[hmi,DT,hri]at hK;refine hK _ _ _ _ (hp.put (fp:=noF) (Below.refl _ _) (show Rel D w (Ae σ ρ w) .dead (a.eval (.tmp y)) noF from λ_ h=>h) (λ_ h=>h.elim) (λ_ h=>h) (λ_ h=>.inl h) (λb H=>⟨hp.wr.Dlt b H,λh=>h⟩) hdn) (λx b H=>?_) λx U=>BD U
  split at H
  .exact H.elim
  .exact hT x b H
 have hnA:¬isA h ops i:=fun⟨o',ho',ha⟩=>by
  obtain rfl:o'=oi:=Option.some.inj (ho'.symm.trans hoi);rw[hna]at ha;cases ha
 rcases hs with⟨d,hd,hs⟩|⟨hg,hmv,hne,hlq⟩|⟨j,want,hg,hgj,hdn,hmi⟩
 rotate_left
 .have hw:Region.wanted oi (yielded ops a.tmps)=true:=by simp[Region.wanted,hg]
  rw[if_pos hw];refine .inl (hlq C ρ F a w D T (pt ops n r m t0 listed) (λx U=>?_) (hal oi hoi) hp K Q λa' w' D' T' hp' hT' htm=>hK a' w' D' T' hp' (λx b H=>?_) htm)
  .have hnx:∀y c,oi.op≠.extract y c:=λy c e=>by rw[e]at hne;cases hne
   rcases U with U|U
   rotate_left
   .cases hl:Bl (m i) x with
    |none=>exact absurd hl U
    |some tk=>
     obtain⟨oi',ok|ok⟩:=hm i hi _ (CF hl)
     .obtain rfl:oi'=oi:=Option.some.inj (ok.at_.symm.trans hoi)
      exact(Ny hq hm inv hoi hi hr hnA ok.looks hnx).symm
     .exact(agreeA hq hm inv hi hr ok).symm
   refine(Ny hq hm inv hoi hi hr hnA ?_ hnx).symm;unfold Hk at U;obtain⟨u,hu,he⟩:=mem_filterMap.1 U;cases u with
   |tmp y=>
    cases he;unfold Oper.looksAt;refine List.mem_append_left _ ?_;rw[mem_filterMap];exact⟨.tmp x,by simpa using hu,rfl⟩
   |const v=>cases he
   |global g=>cases he
   |func f=>cases he
  .rcases hT' x b H with h|⟨b',h⟩
   .exact .inl ⟨i,hi,hdoi.trans h⟩
   .exact hT x b' h
 .have Z:=hgj
  rw[<-hgv j want hg]at Z
  have hw:Region.wanted oi (yielded ops a.tmps)=false:=by
   rcases Z with Z|Z
   .have:=hp.gv Z
    cases want<;>simp[Region.wanted,hg,this]
   .simp[Region.wanted,hg,hp.gvN Z]
  rw[if_neg (by simp[hw]),hdn]
  rw[hdn,hmi,DT]at hK;exact hK _ _ _ _ hp hT λ_ _=>rfl
 have hdo:AG ops i=some d:=hdoi.trans hd;have htm:∀(v:Value) x,some d≠some x->(a.put (some d) v).tmps[x]? =a.tmps[x]?:=λv x U=>BD U
 have hT':∀(fp:Nat->Prop) x b,(if x=d then fp else T x) b->Qm ops n X x:=by
  intro fp x b H;split at H
  .rename_i U;subst U;exact .inl ⟨i,hi,hdo⟩
  .exact hT x b H
 rw[hd]at hK;rcases hs with⟨⟨hdn,hg,r',hqop,hri⟩|⟨j,want,hg,hgj,hdn,hri⟩,hmi⟩|⟨hdn,hg,hfz,hmv,hmq⟩
 .rw[hmi,DT]at hK
  have hw:Region.wanted oi (yielded ops a.tmps)=true:=by
   rcases hg with hg|⟨j,want,hg,hgj⟩
   .simp[Region.wanted,hg]
   .rw[<-hgv j want hg]at hgj
    simp[Region.wanted,hg,hp.gv hgj]
  rw[if_pos hw];refine .inl ?_;have look:∀y,Operand.tmp y∈oi.op.operands->y∈oi.looksAt ops:=by
   intro y U;unfold Oper.looksAt;refine List.mem_append_left _ ?_;rw[mem_filterMap];exact⟨.tmp y,by simpa using U,rfl⟩
  have hqop':qop P σ (Ms.ev ⟨pt ops n r m t0 listed,σ⟩) oi.op (λx=>x=r'):=by
   by_cases hex:∃y c,oi.op=.extract (.tmp y) c
   .obtain⟨y,c,W⟩:=hex
    have hE:EqC c (Cb ops r m t0 i y) (pt ops n r m t0 listed y):=by
     rcases YK (r:=r) (t0:=t0) hq hm inv hoi hi hr hnA (x:=y) (look y (by rw[W];simp[Op.operands]))with h|⟨_,c',h,h'⟩
     .exact .inl h
     .rw[W]at h;cases h;exact h'
    rw[W]at hqop⊢;exact Oj (K:=λr0=>∃r,Sub r0 r/\r=r') hE hqop
   .refine Xq (λx U=>?_) hqop
    cases x with
    |tmp y=>
     show Cb ops r m t0 i y=pt ops n r m t0 listed y;rcases YK (r:=r) (t0:=t0) hq hm inv hoi hi hr hnA (look y U)with h|⟨_,c,h,_⟩
     .exact h
     .exact absurd ⟨y,c,h⟩ hex
    |const v=>rfl
    |global g=>rfl
    |func f=>rfl
  obtain⟨r2,rfl,hy⟩:=Oc (o:=oi) hp.ok hp.wr (λx _=>hp.ev x) hqop'
  refine hy K Q λv' w' D' fp hB hr' hf hd1 hd2 hd3=>?_
  rw[hd];rw[hri]at hK;split at hK
  .refine hK _ _ _ _ (hp.put (D':=λb=>D' b\/fp b) (fp:=noF) hB (Rel.frz _ _ _ hr') (λ_ h=>h.elim) (λb H=>.inl (hd1 b H)) (λb H=>?_) (λb H=>⟨?_,λh=>h⟩) hdn) (hT' _) (htm _)
   .rcases H with H|H
    .exact hd2 b H
    .exact .inr (hf b H)
   .rcases H with H|H
    .exact(hd3 b H).1
    .exact Rel.lt _ _ _ hr' b H
  .exact hK _ _ _ _ (hp.put hB hr' hf hd1 hd2 hd3 hdn) (hT' _) (htm _)
 .rw[hmi,DT]at hK
  have Z:=hgj;rw[<-hgv j want hg]at Z
  have hw:Region.wanted oi (yielded ops a.tmps)=false:=by
   rcases Z with Z|Z
   .have:=hp.gv Z
    cases want<;>simp[Region.wanted,hg,this]
   .simp[Region.wanted,hg,hp.gvN Z]
  rw[if_neg (by simp[hw]),hd]
  rw[hri]at hK;obtain⟨T',hp',hsub⟩:=hp.skip hdn;exact hK _ _ _ _ hp' (λx b H=>hT x b (hsub x b H)) (htm _)
 .have hw:Region.wanted oi (yielded ops a.tmps)=true:=by simp[Region.wanted,hg]
  rw[if_pos hw];refine .inl ?_;have hlook:∀p∈m i,p.1∈oi.looksAt ops:=by
   intro p hp;have look:∀y,Operand.tmp y∈oi.op.operands->y∈oi.looksAt ops:=by
    intro y U;unfold Oper.looksAt;refine List.mem_append_left _ ?_;rw[mem_filterMap];exact⟨.tmp y,by simpa using U,rfl⟩
   rcases hmq with⟨y,W,hys,_⟩|⟨y,c,nn,f,W,hys,_⟩
   .rw[hys,mem_singleton]at hp
    rw[hp];exact look y (by rcases W with W|W<;>(rw[W];simp[Op.operands]))
   .rw[hys,mem_singleton]at hp
    rw[hp];exact look y (by rw[W];simp[Op.operands])
  rcases hmq with⟨y,W,hys,hri⟩|⟨y,c,nn,f,W,hys,hty,hcn,hri⟩
  .rw[hys]at hK hlook
   rw[Ny hq hm inv hoi hi hr hnA (hlook (y,.put (hdV (r i))) (by simp)) (by rintro z c h;rcases W with W|W<;>(rw[W]at h;cases h))]at hri
   have hrun:(execOp a.eval oi).run P w=.ok (.value (a.eval (.tmp y))) w:=by unfold execOp;rcases W with W|W<;>(rw[W];rfl)
   unfold Oper.wp;rw[hrun];show K (a.put oi.dst (a.eval (.tmp y))) w;rw[hd]
   obtain⟨fp,hrel,hfp⟩:∃fp,Rel D w (Ae σ ρ w) (r i) (a.eval (.tmp y)) fp/\∀b,fp b->T y b:=by
    rw[hri];by_cases hy:y<h.n
    .exact⟨T y,hp.tm y hy,λ_ h=>h⟩
    .exact⟨noF,by rw[hp.dd y (le_of_not_lt hy)];exact λ_ h=>h,λ_ h=>h.elim⟩
   have kM:∀x,AL [(y,.put (hdV (r i)))] (pt ops n r m t0 listed) x=if x=y then hdV (r i)else pt ops n r m t0 listed x:=by
    intro x;unfold AL;by_cases U:x=y
    .subst U
     rw[if_pos rfl];show Ig (if x=x then some (.put (hdV (r i)))else none) _=_
     rw[if_pos rfl];rfl
    .rw[if_neg U]
     show Ig (if y=x then some (.put (hdV (r i)))else none) _=_
     rw[if_neg (Ne.symm U)];rfl
   refine hK _ _ _ _ (hp.move (t1:=AL [(y,.put (hdV (r i)))] (pt ops n r m t0 listed)) (T1:=λx=>if x=y then noF else T x) (λx U=>?_) (λx b H=>?_) (λx U=>?_) (Below.refl _ _) hrel (λb H=>.inl ⟨y,hfp b H,λx U=>?_⟩) (λ_ h=>h) (λ_ h=>.inl h) (λb H=>⟨hp.wr.Dlt b H,λh=>hp.tD y b (hfp b h) H⟩) hdn) (λx b H=>?_) (htm _)
   .rw[kM]
    by_cases Y:x=y
    .rw[if_pos Y,if_pos Y,Y];exact hrel.hd
    .rw[if_neg Y,if_neg Y];exact hp.tm x U
   .split at H
    .exact H.elim
    .exact H
   .rw[kM]
    split
    .rename_i Y
     rw[hri,<-Y,hp.dd x U];rfl
    .exact hp.dd x U
   .split at U
    .exact U.elim
    .rename_i Y;exact hp.tT x y b Y U (hfp b H)
   .split at H
    .rename_i U;subst U;exact .inl ⟨i,hi,hdo⟩
    .split at H
     .exact H.elim
     .exact hT x b H
  .rw[hys]at hK hlook
   -- the part, and what is left
   obtain⟨g,hg',hgc⟩:∃g,pt ops n r m t0 listed y=.many .tu nn g/\g c=f c:=by
    rcases YK (r:=r) (t0:=t0) hq hm inv hoi hi hr hnA (hlook (y,.part c) (by simp))with h|⟨_,c',h,h'⟩
    .exact⟨f,h▸hty,rfl⟩
    .rw[W]at h
     cases h;rcases h' with h'|⟨tg,n2,f2,g2,h1,h2,h3⟩
     .exact⟨f,h'▸hty,rfl⟩
     .rw[hty]at h1
      cases h1;exact⟨g2,h2,h3.symm⟩
   have hyn:y<h.n:=by
    rcases lt_or_ge y h.n with h'|h'
    .exact h'
    .rw[hp.dd y h']at hg';cases hg'
   have hry:=hp.tm y hyn;rw[hg']at hry;obtain⟨cs,G,hcv,hcs,hrel,hdis,hfp⟩:=hry;have hcv:a.eval (.tmp y)=.tuple cs:=hcv
   have hrun:(execOp a.eval oi).run P w=.ok (.value (cs.getD c undef)) w:=by
    unfold execOp;rw[W];simp[Instr.extract,hcv,hcs,hcn]
   unfold Oper.wp;rw[hrun];show K (a.put oi.dst (cs.getD c undef)) w;rw[hd];have hrc:Rel D w (Ae σ ρ w) (r i) (cs.getD c undef) (G c):=by rw[hri,<-hgc];exact hrel c hcn
   have kM:∀x,AL [(y,.part c)] (pt ops n r m t0 listed) x=if x=y then OS c (.many .tu nn g)else pt ops n r m t0 listed x:=by
    intro x;unfold AL;by_cases U:x=y
    .subst U
     rw[if_pos rfl];show Ig (if x=x then some (.part c)else none) _=_
     rw[if_pos rfl,hg'];rfl
    .rw[if_neg U]
     show Ig (if y=x then some (.part c)else none) _=_
     rw[if_neg (Ne.symm U)];rfl
   refine hK _ _ _ _ (hp.move (t1:=AL [(y,.part c)] (pt ops n r m t0 listed)) (T1:=λx=>if x=y then λb=>∃k,k<nn/\k≠c/\G k b else T x) (λx U=>?_) (λx b H=>?_) (λx U=>?_) (Below.refl _ _) hrc (λb H=>.inl ⟨y,(hfp b).2 ⟨c,hcn,H⟩,λx U=>?_⟩) (λ_ h=>h) (λ_ h=>.inl h) (λb H=>⟨hp.wr.Dlt b H,λh=>hp.tD y b ((hfp b).2 ⟨c,hcn,h⟩) H⟩) hdn) (λx b H=>?_) (htm _)
   .rw[kM]
    by_cases Y:x=y
    .rw[if_pos Y,if_pos Y]
     subst Y;refine⟨cs,λk=>if k=c then noF else G k,hcv,hcs,λk hk=>?_,λk k' b hk hk' hne h1 h2=>?_,λb=>⟨fun⟨k,h1,h2,h3⟩=>⟨k,h1,by show(if k=c then noF else G k) b;rw[if_neg h2];exact h3⟩,fun⟨k,h1,h2⟩=>?_⟩⟩
     .show Rel D w _ (if k=c then .dead else g k) _ (if k=c then noF else G k)
      by_cases hkc:k=c
      .rw[if_pos hkc,if_pos hkc];exact λ_ h=>h
      .rw[if_neg hkc,if_neg hkc];exact hrel k hk
     .have h1:(if k=c then noF else G k) b:=h1
      have h2:(if k'=c then noF else G k') b:=h2
      split at h1
      .exact h1
      .split at h2
       .exact h2
       .exact hdis k k' b hk hk' hne h1 h2
     .have h2:(if k=c then noF else G k) b:=h2
      split at h2
      .exact h2.elim
      .rename_i hkc;exact⟨k,h1,hkc,h2⟩
    .rw[if_neg Y,if_neg Y];exact hp.tm x U
   .split at H
    .rename_i Y
     subst Y;obtain⟨k,h1,_,h3⟩:=H;exact(hfp b).2 ⟨k,h1,h3⟩
    .exact H
   .rw[kM]
    have:x≠y:=λe=>absurd hyn (Nat.not_lt.2 (e▸U))
    rw[if_neg this];exact hp.dd x U
   .split at U
    .obtain⟨k,h1,h2,h3⟩:=U
     exact hdis k c b h1 hcn h2 h3 H
    .rename_i Y;exact hp.tT x y b Y U ((hfp b).2 ⟨c,hcn,H⟩)
   .split at H
    .rename_i U;subst U;exact .inl ⟨i,hi,hdo⟩
    .split at H
     .rename_i Y
      subst Y;obtain⟨k,h1,_,h3⟩:=H;exact hT x b ((hfp b).2 ⟨k,h1,h3⟩)
     .exact hT x b H
theorem JG{Q:Exit->Act->World->Prop}(hq:QOK ops n)(htl:n=ops.size\/Region.chainB .any ops n=true):∀(U m:Nat) (listed:Array Bool) (a:Act) (w:World),n<=m->m<=ops.size->ops.size<=m+U->listed.size=ops.size->
  (∀j,j<ops.size->listed.getD j true=decide (j<m))->wpList P ops Q (ops.toList.drop m) a w->wpAny P .any ops Q U listed a w:=by
 have Z:∀{listed:Array Bool}{j m:Nat},listed.size=ops.size->(∀j,j<ops.size->listed.getD j true=decide (j<m))->j<ops.size->listed.getD j false=decide (j<m):=by
  intro listed j m hs W hj;have:=W j hj;rw[<-hs]at hj;simp[hj]at this⊢;exact this
 intro U
 induction U with
 |zero=>
  intro m listed a w hnm hm hf hs W hw;obtain rfl:m=ops.size:=by omega
  refine⟨?_,?_⟩
  .cases hr:Region.ready .any ops listed with
   |nil=>rfl
   |cons j js=>
    have hj:j∈Region.ready .any ops listed:=by rw[hr];simp
    obtain⟨Y,o,ho,_⟩:=mem_ready.1 hj;have H:j<ops.size:=(Array.getElem?_eq_some_iff.1 ho).1;rw[W j H]at Y;simp[H]at Y
  .have:ops.toList.drop ops.size=[]:=by simp
   rw[this]at hw;exact hw
 |succ f ih=>
  intro m listed a w hnm hm hf hs W hw;by_cases hms:m=ops.size
  .subst hms
   have hnil:Region.ready .any ops listed=[]:=by
    cases hr:Region.ready .any ops listed with
    |nil=>rfl
    |cons j js=>
     have hj:j∈Region.ready .any ops listed:=by rw[hr];simp
     obtain⟨Y,o,ho,_⟩:=mem_ready.1 hj;have H:j<ops.size:=(Array.getElem?_eq_some_iff.1 ho).1;rw[W j H]at Y;simp[H]at Y
   refine⟨λ_=>?_,λi hi=>by rw[hnil]at hi;cases hi⟩
   have:ops.toList.drop ops.size=[]:=by simp
   rw[this]at hw;exact hw
  .have H:m<ops.size:=by omega
   have hom:ops[m]? =some ops[m]:=by simp[H]
   have hmr:m∈Region.ready .any ops listed:=by
    refine mem_ready.2 ⟨by rw[W m H];simp,ops[m],hom,λe he hb=>?_⟩
    have Y:=hq.back m ops[m] e hom he hb;rw[Z hs W (by omega)]
    simp[Y]
   refine⟨λh0=>(by rw[h0]at hmr;cases hmr),λi hi=>?_⟩
   have him:i=m:=by
    obtain⟨Y,o,ho,hall⟩:=mem_ready.1 hi;have hil:i<ops.size:=(Array.getElem?_eq_some_iff.1 ho).1;rw[W i hil]at Y;simp at Y;by_cases he:i=m
    .exact he
    .rcases htl with ht|hc
     .omega
     .have h2:=aET.1 hc i (mem_range.2 hil)
      simp only[or_eq_true,decide_eq_true_eq]at h2;rcases h2 with h2|h2
      .omega
      .obtain⟨o',ho',e,he',hb,hon⟩:=Region.waitsFor_spec h2
       obtain rfl:o'=o:=Option.some.inj (ho'.symm.trans ho);have h3:=hall e he' hb;rw[hon,Z hs W (by omega)]at h3
       simp at h3;omega
   subst him
   have hdrop:ops.toList.drop i=ops[i]::ops.toList.drop (i+1):=by
    have:=List.drop_eq_getElem_cons (l:=ops.toList) (i:=i) (by simpa using H)
    simpa using this
   rw[hdrop]at hw
   have hw':wpOp P ops Q i (wpList P ops Q (ops.toList.drop (i+1))) a w:=by
    unfold wpOp;simp only[hom];exact hw
   refine wpOp_mono (λa' w' h'=>ih (i+1) _ a' w' (by omega) (by omega) (by omega) (by simpa using hs) (λj hj=>?_) h') hw'
   by_cases hij:i=j
   .subst hij
    have:i<listed.size:=by rw[hs];exact H
    simp[this]
   .rw[getD_set_ne true hij,W j hj]
    have:(j<i)=(j<i+1):=by
     apply propext;constructor<;>intro _<;>omega
    simp[this]
def unl(listed:Array Bool)(n:Nat):Nat:=(range n).countP λi=>!listed.getD i true
theorem Pq(hi:i<listed.size)(W:listed.getD i true=false):∀n,unl (listed.setIfInBounds i true) n+(if i<n then 1 else 0)=unl listed n:=by
 intro n
 induction n with
 |zero=>rfl
 |succ n U=>
  unfold unl at U⊢;rw[List.range_succ,List.countP_append];simp only[List.countP_singleton];by_cases H:i=n
  .simp_all
  .rw[getD_set_ne true H]
   grind
theorem Pr(H:listed.getD i true=false):∀n,i<n->0<unl listed n:=by
 intro n U;unfold unl;rw[List.countP_pos_iff]
 grind
theorem Dn(h:dst≠some d):(a.put (some d) v).put dst u=(a.put dst u).put (some d) v:=by
 cases dst with
 |none=>rfl
 |some e=>
  have H:d≠e:=λU=>h (by grind)
  unfold Act.put;simp;rw[Array.setIfInBounds_comm _ _ H]
theorem UW{Q:Exit->Act->World->Prop}{K' K:Act->World->Prop}{d:Nat}{v:Value}(ho:ops[i]? =some o)(Z:∀e a w,e≠.normal->¬Q0 e a w)(hs:∀cs b,o.op≠.select cs b)
  (hl:d∉o.looksAt ops) (hd:o.dst≠some d) (Y:∀a1 w1,(∀x,o.dst≠some x->a1.tmps[x]? =a.tmps[x]?)->K' (a1.put (some d) v) w1->K a1 w1)
  (h:wpOp P ops Q0 i K' (a.put (some d) v) w):wpOp P ops Q i K a w:=by
 unfold wpOp at h⊢;simp only[ho]at h⊢;rw[wanted_put o a (some d) v (λd' W=>by cases W;exact hl)]at h
 split
 .rename_i hw
  rw[if_pos hw]at h;rcases h with h|⟨_,_,_,h⟩
  .left
   unfold Oper.wp at h⊢;rw[execOp_put (ops:=ops) o hs a (some d) v (λd' W=>by cases W;exact hl)]at h
   generalize (execOp a.eval o).run P w=r at h⊢;cases r with
   |ok n w'=>
    cases n with
    |value u=>exact Y _ _ (λx H=>BD H) (Dn hd▸h)
    |skip=>exact Y _ _ (λx H=>BD H) (Dn hd▸h)
    |defer u=>exact Y ({a with defers:=u::a.defers}.put o.dst undef) w' (λx H=>BD (a:={a with defers:=u::a.defers}) H) (Dn hd▸h)
    |enter f args=>exact Calls.mono h (λe w'' U=>by
      cases e with
      |returned u=>exact Y _ _ (λx H=>BD H) (Dn hd▸U)
      |panicked c=>exact(Z _ _ _ (by simp) U).elim
      |outgrown=>obtain⟨_,_,U⟩:=U;exact(Z _ _ _ (by simp) U).elim)
    |row r args=>exact Rows.mono h (λu w'' U=>Y _ _ (λx H=>BD H) (Dn hd▸U))
    |_=>exact h
   |halt x w'=>
    cases x<;>first|exact h.elim|exact(Z _ _ _ (by simp) h).elim
  .exact(Z _ _ _ (by simp) h).elim
 .rename_i hw
  rw[if_neg hw]at h;exact Y _ _ (λx H=>BD H) (Dn hd▸h)
def QN(Q:Exit->Act->World->Prop):Exit->Act->World->Prop:=λe a w=>e=.normal/\Q .normal a w
theorem Ade:∀e a w,e≠.normal->¬QN Q e a w:=λ_ _ _ h H=>h H.1
theorem Wm{Q:Exit->Act->World->Prop}{i:Nat}(hq:∀e a w,e≠.normal->¬Q0 e a w)(U:∀a1 Y,K' a1 Y->K a1 Y)
  (h:wpOp P ops Q0 i K' a w):wpOp P ops Q i K a w:=by
 unfold wpOp at h⊢;split
 .grind
 rename_i o ho;simp only[ho]at h;split
 .rename_i Z
  rw[if_pos Z]at h;rcases h with h|⟨_,_,_,h⟩
  .left
   unfold Oper.wp at h⊢;generalize (execOp a.eval o).run P w=r at h⊢;cases r with
   |ok n w'=>
    cases n with
    |value u=>exact U _ _ h
    |skip=>exact U _ _ h
    |defer u=>exact U _ _ h
    |enter f args=>exact Calls.mono h (λe W H=>by
      cases e with
      |returned u=>exact U _ _ H
      |panicked c=>grind
      |outgrown=>obtain⟨_,_,H⟩:=H;grind)
    |row r args=>exact Rows.mono h (λu W H=>U _ _ H)
    |_=>exact h
   |halt x w'=>
    cases x<;>first|exact h.elim|exact(hq _ _ _ (by simp) h).elim
  grind
 grind
theorem Jz:∀(m:Nat) (a:Act) (w:World),ops.size-m<=ops.size->wpList P ops (QN Q) (ops.toList.drop m) a w->wpList P ops Q (ops.toList.drop m) a w:=by
 intro m
 induction hk:ops.size-m generalizing m with
 |zero=>
  intro a w _ h;have e:ops.toList.drop m=[]:=List.drop_eq_nil_of_le (by simp;omega)
  rw[e]at h⊢;exact h.2
 |succ k Y=>
  intro a w _ h;have U:m<ops.size:=by omega
  have H:=by
   have:=List.drop_eq_getElem_cons (l:=ops.toList) (i:=m) (by grind)
   omega
  rw[H]at h⊢
  have h':wpOp P ops (QN Q) m (wpList P ops (QN Q) (ops.toList.drop (m+1))) a w:=by
   unfold wpOp;simp only[show ops[m]? =some ops[m] by simp];exact h
  have:=Wm (Q:=Q) Ade (λa1 W Z=>Y (m+1) (by omega) a1 W (by omega) Z) h'
  unfold wpOp at this;simp only[show ops[m]? =some ops[m] by simp[U]]at this
  exact this
structure FI(P:Program)(ops:Array Oper)(Q:Exit->Act->World->Prop)(f m:Nat)(d y c:Nat)(v:Value)(listed:Array Bool)(a:Act)(w:World):Prop where
 sz:listed.size=ops.size
 ls:∀j,j<ops.size->listed.getD j true=decide (j<m/\j≠f)
 pu:∃cs,a.tmps[y]? =some (.tuple cs)/\cs[c]? =some v
 wl:wpList P ops (QN Q) (ops.toList.drop m) (a.put (some d) v) w
theorem Jn{j:Nat}{p:Prop} [Decidable p](H:listed.size=ops.size)(hj:j<ops.size)(h:listed.getD j true=decide p):listed.getD j false=decide p:=by grind
theorem LS{Q:Exit->Act->World->Prop}{m c:Nat}{v:Value}(hfm:f<m)(hm:m<ops.size){listed:Array Bool}{a:Act}{w:World}{ot:Oper}(U:ops[m]? =some ot)(h1:d∉ot.looksAt ops)(h2:ot.dst≠some d)(h3:ot.dst≠some y)(h4:∀cs b,ot.op≠.select cs b)
  (h:FI P ops Q f m d y c v listed a w):wpOp P ops Q m (FI P ops Q f (m+1) d y c v (listed.setIfInBounds m true)) a w:=by
 have H:ops.toList.drop m=ot::ops.toList.drop (m+1):=by
  have:=List.drop_eq_getElem_cons (l:=ops.toList) (i:=m) (by simpa using hm)
  grind
 have hw:=h.wl;rw[H]at hw
 have Y:wpOp P ops (QN Q) m (wpList P ops (QN Q) (ops.toList.drop (m+1))) (a.put (some d) v) w:=by
  unfold wpOp;simp only[U];exact hw
 refine UW U Ade h4 h1 h2 (λa1 w1 hag hk=>⟨by simpa using h.sz,λj hj=>?_,?_,hk⟩) Y
 .by_cases W:m=j
  .subst W
   have:m<listed.size:=by rw[h.sz];exact hm
   have Z:m≠f:=by omega
   simp[this,Z]
  .rw[getD_set_ne true W,h.ls j hj]
   grind
 .obtain⟨cs,g1,g2⟩:=h.pu
  exact⟨cs,by rw[hag y h3];exact g1,g2⟩
theorem Aaa{Q:Exit->Act->World->Prop}(hq:QOK ops n)(hc:Region.chainB .any ops n=true)(fl:FL ops n f)(hof:ops[f]? =some o)(hog:o.guard=none)(hop:o.op=.extract (.tmp y) c)(hod:o.dst=some d)
  (hot:∀t ot,n<=t->ops[t]? =some ot->Region.waitsFor .any ops t f=false->d∉ot.looksAt ops/\ot.dst≠some d/\ot.dst≠some y/\∀cs b,ot.op≠.select cs b) {v:Value}:
  ∀(U m:Nat) (listed:Array Bool) (a:Act) (w:World),n<=m->m<=ops.size->ops.size+1<=m+U->FI P ops Q f m d y c v listed a w->wpAny P .any ops Q U listed a w:=by
 intro U
 induction U with
 |zero=>intro m listed a w _ h1 h2;omega
 |succ g ih=>
  intro m listed a w hnm hms hf h;have hfn:=fl.fn;have hfs:f<ops.size:=by have:=hq.le;omega
  have hfr:f∈Region.ready .any ops listed:=by
   refine mem_ready.2 ⟨by rw[h.ls f hfs];simp,o,hof,λe he hb=>?_⟩
   have h1:=hq.back f o e hof he hb;rw[Jn h.sz (by omega) (h.ls e.on (by omega))]
   exact dT ⟨by omega,by omega⟩
  refine⟨λh0=>(by rw[h0]at hfr;cases hfr),λi hi=>?_⟩
  obtain⟨h1,oi,H,Y⟩:=mem_ready.1 hi;have W:i<ops.size:=(Array.getElem?_eq_some_iff.1 H).1;rw[h.ls i W]at h1;have h1:=of_decide_eq_false h1;by_cases hif:i=f
  .subst hif
   obtain rfl:oi=o:=Option.some.inj (H.symm.trans hof);unfold wpOp;simp only[H];have hw:Region.wanted oi (yielded ops a.tmps)=true:=by simp[Region.wanted,hog]
   rw[if_pos hw];left;obtain⟨cs,g1,g2⟩:=h.pu;have hev:a.eval (.tmp y)=.tuple cs:=by
    show a.tmps.getD y undef=_;simp[getD_eq_getD_getElem?,g1]
   have hrun:(execOp a.eval oi).run P w=.ok (.value v) w:=by
    unfold execOp;rw[hop];simp[Instr.extract,hev,g2]
   unfold Oper.wp;rw[hrun];show wpAny P .any ops Q g _ (a.put oi.dst v) w;rw[hod];refine JG hq (.inr hc) g m _ _ w hnm hms (by omega) (by simpa using h.sz) (λj hj=>?_) (Jz m _ w (by omega) h.wl)
   by_cases hij:i=j
   .subst hij
    have:i<listed.size:=by rw[h.sz];exact W
    have hlt:i<m:=by omega
    simp[this,hlt]
   .rw[getD_set_ne true hij,h.ls j hj]
    have:(j<m/\j≠i)=(j<m):=propext ⟨λh=>h.1,λh=>⟨h,Ne.symm hij⟩⟩
    simp only[this]
  .have hnot:¬i<m:=λh=>h1 ⟨h,hif⟩
   have him:i=m:=by
    have h2:=aET.1 hc i (mem_range.2 W);simp only[or_eq_true,decide_eq_true_eq]at h2;rcases h2 with h2|h2
    .omega
    .by_cases he:i=m
     .exact he
     .obtain⟨o',ho',e,he',hb,Z⟩:=Region.waitsFor_spec h2
      obtain rfl:o'=oi:=Option.some.inj (ho'.symm.trans H);have h3:=Y e he' hb;rw[Z,Jn h.sz (by omega) (h.ls (i-1) (by omega))]at h3
      have:=(of_decide_eq_true h3).1;omega
   subst him;have hnw:Region.waitsFor .any ops i f=false:=by
    cases hwf:Region.waitsFor .any ops i f with
    |false=>rfl
    |true=>
     obtain⟨o',ho',e,he',hb,Z⟩:=Region.waitsFor_spec hwf;obtain rfl:o'=oi:=Option.some.inj (ho'.symm.trans H);have h3:=Y e he' hb;rw[Z,Jn h.sz hfs (h.ls f hfs)]at h3;exact absurd rfl (of_decide_eq_true h3).2
   obtain⟨g1,g2,g3,g4⟩:=hot i oi hnm H hnw;exact wpOp_mono (λa1 w1 hk=>ih (i+1) _ a1 w1 (by omega) (by omega) (by omega) hk) (LS (by omega) W H g1 g2 g3 g4 h)
theorem Xx(U:QOK ops n)(hm:MOK A B ops n m)(hs:listed.size=ops.size)(W:∀i,i<n->listed.getD i true=true):pt ops n r m t0 listed=Cb ops r m t0 n:=by
 have hle:=U.le;have Y:∀k,k<n->listed.getD k false=true:=λk H=>by
  grind
 funext x
 rw[HG U hm r t0 x n (le_refl _)];unfold pt;cases Z:CC ops n x with
 |none=>exact Cp n λi hi=>by grind
 |some k=>
  have H:=(Bj Z).1;simp only[Y k H,H,if_true];exact Cp n λi hi=>by grind
theorem Jy{Q:Exit->Act->World->Prop}{K:Act->World->Prop}{i:Nat}{a:Act}{w:World}
  (H:wpOp P ops Q i (λU w'=>(∀o y z,ops[i]? =some o->o.guard=none->o.op=.move (.tmp y)->o.dst=some z->U=a.put (some z) (a.eval (.tmp y)))->K U w') a w):wpOp P ops Q i K a w:=by
 unfold wpOp at H⊢;cases ho:ops[i]? with
 |none=>
  simp only[ho]at H⊢;exact H λo _ _ h=>by cases h
 |some o=>
  simp only[ho]at H⊢;by_cases hmv:∃y z,o.guard=none/\o.op=.move (.tmp y)/\o.dst=some z
  .obtain⟨y,z,hg,hop,hd⟩:=hmv
   have Y:Region.wanted o (yielded ops a.tmps)=true:=by simp[Region.wanted,hg]
   rw[if_pos Y]at H⊢;rcases H with H|H
   .left
    have Z:(execOp a.eval o).run P w=.ok (.value (a.eval (.tmp y))) w:=by unfold execOp;rw[hop];rfl
    unfold Oper.wp at H⊢;rw[Z]at H⊢;rw[Oper.upon_value]at H⊢
    grind
   .exact .inr H
  .have key:∀U w',((∀W y z,some o=some W->W.guard=none->W.op=.move (.tmp y)->W.dst=some z->U=a.put (some z) (a.eval (.tmp y)))->K U w')->K U w':=λU w' h=>h λW y z h1 h2 h3 h4=>by
    cases h1;exact absurd ⟨y,z,h2,h3,h4⟩ hmv
   split
   .rename_i Y
    rw[if_pos Y]at H;exact H.imp (Oper.wp_mono λU w'=>key U w') id
   .rename_i Y
    rw[if_neg Y]at H;exact key _ _ H
def AlI(h:BW)(ops:Array Oper)(n:Nat)(listed:Array Bool)(a:Act):Prop:=∀j,j<n->listed.getD j false=true->∀c,ops[j]? =some c->alM h ops c=true->∀y z,c.op=.move (.tmp y)->c.dst=some z->a.tmps.getD z undef=a.tmps.getD y undef
theorem AlI.at(hI:AlI h ops n listed a)(hq:QOK ops n)(hi:i<n)(hr:i∈Region.ready .any ops listed):∀oi,ops[i]? =some oi->∀z y,AlP h ops oi z y->a.tmps.getD z undef=a.tmps.getD y undef:=by
 rintro oi H z y ⟨e,he,hb,c,hc,Z,W,hd⟩
 obtain⟨hun,o2,Y,U⟩:=mem_ready.1 hr;obtain rfl:oi=o2:=Option.some.inj (H.symm.trans Y);have hlt:=hq.back i oi e H he hb;exact hI e.on (by omega) (U e he hb) c hc Z y z W hd
theorem AlI.set{a':Act}(hI:AlI h ops n listed a)(hq:QOK ops n)
  (hst:∀j,j<n->∀o,ops[j]? =some o->Je P h ops σ o (Cb ops r m t0 j) (r j) (m j)) (inv:HeadInv .any ops n listed) {i:Nat} (hi:i<n) (hsz:a.tmps.size=h.n)
  (Z:∀x,AG ops i≠some x->a'.tmps[x]? =a.tmps[x]?) (hmv:∀o y z,ops[i]? =some o->o.guard=none->o.op=.move (.tmp y)->o.dst=some z->a'=a.put (some z) (a.eval (.tmp y))):AlI h ops n (listed.setIfInBounds i true) a':=by
 intro j hj hl c hc Y y z U hd;obtain⟨hg,y2,z2,H,hd2,hnd⟩:=Nx Y;rw[U]at H;cases H;have hy:a'.tmps.getD y undef=a.tmps.getD y undef:=by
  rw[getD_eq_getD_getElem?,getD_eq_getD_getElem?,Z y (hnd i)]
 by_cases W:j=i
 .subst W
  have hz:z<h.n:=by
   rcases hst j hj c hc with⟨hna,_⟩|⟨_,d,hd3,hdn,_⟩
   .rw[Y]at hna;cases hna
   grind
  have e:=hmv c y z hc hg U hd;rw[hy,e,BC];have hz2:z<a.tmps.size:=by rw[hsz];exact hz
  show _=a.eval (.tmp y);simp[hz2]
 .rw[getD_set_ne false (Ne.symm W)]at hl
  have hz:AG ops i≠some z:=by
   intro he;exact(hq.ne i j z c hi hj (Ne.symm W) he hc).1 hd
  rw[hy,getD_eq_getD_getElem?,Z z hz,<-getD_eq_getD_getElem?];exact hI j hj hl c hc Y y z U hd
theorem AcH{Q:Exit->Act->World->Prop}(hq:QOK ops n)(htl:UU ops n)(hm:MOK (isA h ops) (isB h ops) ops n m)
  (hst:∀j,j<n->∀o,ops[j]? =some o->Je P h ops σ o (Cb ops r m t0 j) (r j) (m j))
  {a0:Act} (hend:∀a w D T,PR C h.n σ ρ F (Cb ops r m t0 n) a w D T->(∀x b,T x b->Qm ops n X x)->(∀x,(∀i,i<n->AG ops i≠some x)->a.tmps[x]? =a0.tmps[x]?)->wpList P ops Q (ops.toList.drop n) a w)
  (hend0:∀a w D T,PR C h.n σ ρ F (Cb ops r m t0 n) a w D T->(∀x b,T x b->Qm ops n X x)->(∀x,(∀i,i<n->AG ops i≠some x)->a.tmps[x]? =a0.tmps[x]?)->wpList P ops (QN Q) (ops.toList.drop n) a w):
  ∀(fuel:Nat) (listed:Array Bool) (a:Act) (w:World) (D:Nat->Prop) (T:Nat->Nat->Prop),HeadInv .any ops n listed->unl listed n+(ops.size-n)<=fuel->
   PR C h.n σ ρ F (pt ops n r m t0 listed) a w D T->(∀x b,T x b->Qm ops n X x)->(∀x,(∀i,i<n->AG ops i≠some x)->a.tmps[x]? =a0.tmps[x]?)->AlI h ops n listed a->wpAny P .any ops Q fuel listed a w:=by
 intro fuel
 induction fuel with
 |zero=>
  intro listed a w D T U hf hp hT hA hI;have hle:=hq.le;have Y:∀i,i<n->listed.getD i true=true:=by
   intro i hi;cases hu:listed.getD i true with
   |true=>rfl
   |false=>have:=Pr hu n hi;omega
  have hpt:pt ops n r m t0 listed=Cb ops r m t0 n:=by
   funext x
   rw[HG hq hm r t0 x n (le_refl _)];unfold pt;have ld:∀k,k<n->listed.getD k false=true:=λk Z=>by
    have h1:=Y k Z;have h2:k<listed.size:=by rw[U.size];omega
    simp[h2]at h1⊢;exact h1
   cases ho:CC ops n x with
   |none=>exact Cp n λi hi=>by rw[ld i hi];simp[hi]
   |some k=>
    have Z:=(Bj ho).1;simp only[ld k Z,Z,if_true];exact Cp n λi hi=>by rw[ld i hi];simp[hi]
  rw[hpt]at hp;refine JG hq (htl.imp id And.left) 0 n listed a w (le_refl _) hle (by omega) U.size (λj hj=>?_) (hend _ _ _ _ hp hT hA)
  by_cases W:j<n
  .rw[Y j W];simp[W]
  .rw[U.tail j (by omega) hj];simp[W]
 |succ f ih=>
  intro listed a w D T U hf hp hT hA hI;have hle:=hq.le;by_cases Y:∀i,i<n->listed.getD i true=true
  .have hpt:pt ops n r m t0 listed=Cb ops r m t0 n:=by
    funext x
    rw[HG hq hm r t0 x n (le_refl _)];unfold pt;have ld:∀k,k<n->listed.getD k false=true:=λk Z=>by
     have h1:=Y k Z;have h2:k<listed.size:=by rw[U.size];omega
     simp[h2]at h1⊢;exact h1
    cases ho:CC ops n x with
    |none=>exact Cp n λi hi=>by rw[ld i hi];simp[hi]
    |some k=>
     have Z:=(Bj ho).1;simp only[ld k Z,Z,if_true];exact Cp n λi hi=>by rw[ld i hi];simp[hi]
   rw[hpt]at hp;refine JG hq (htl.imp id And.left) (f+1) n listed a w (le_refl _) hle (by omega) U.size (λj hj=>?_) (hend _ _ _ _ hp hT hA)
   by_cases W:j<n
   .rw[Y j W];simp[W]
   .rw[U.tail j (by omega) hj];simp[W]
  .have hex:∃i,i<n/\listed.getD i true=false:=by
    apply Classical.byContradiction;intro hno;apply Y;intro i hi;cases hu:listed.getD i true with
    |true=>rfl
    |false=>exact absurd ⟨i,hi,hu⟩ hno
   obtain⟨i,⟨hin,hun⟩,hmin⟩:=VL hex;have hoi:ops[i]? =some ops[i]:=by
    have:i<ops.size:=by omega
    simp[this]
   have hir:i∈Region.ready .any ops listed:=by
    refine mem_ready.2 ⟨hun,ops[i],hoi,λe he hb=>?_⟩
    have h1:=hq.back i ops[i] e hoi he hb;have h2:=hmin e.on h1;have h3:e.on<listed.size:=by rw[U.size];omega
    cases hu:listed.getD e.on true with
    |false=>exact absurd ⟨by omega,hu⟩ h2
    |true=>simp[h3]at hu⊢;exact hu
   refine⟨λh0=>(by rw[h0]at hir;cases hir),λj hj=>?_⟩
   have hjs:j<ops.size:=by
    obtain⟨_,o,ho,_⟩:=mem_ready.1 hj;exact(Array.getElem?_eq_some_iff.1 ho).1
   rcases lt_or_ge j n with W|W
   case inr=>
    rcases htl with ht|⟨hc,hs|⟨ff,fl⟩⟩
    .omega
    .exact absurd hj (tail_waits hs hc (by omega) U _ i rfl hin hun j W)
    .obtain⟨hju,oj,hoj,hallj⟩:=mem_ready.1 hj
     have hjn':j=n:=by
      have h2:=aET.1 hc j (mem_range.2 hjs);simp only[or_eq_true,decide_eq_true_eq]at h2;rcases h2 with h2|h2
      .omega
      .by_cases he:j=n
       .exact he
       .obtain⟨o',ho',e,he',hb,hon⟩:=Region.waitsFor_spec h2
        obtain rfl:o'=oj:=Option.some.inj (ho'.symm.trans hoj);have h3:=hallj e he' hb;rw[hon,getD_both (U.tail (j-1) (by omega) (by omega))]at h3
        cases h3
     subst hjn';have lst:∀k,k<j->k≠ff->listed.getD k false=true:=λk Z hkf=>by
      obtain⟨o',ho',e,he',hb,hon⟩:=Region.waitsFor_spec (fl.others k Z hkf);obtain rfl:o'=oj:=Option.some.inj (ho'.symm.trans hoj);have h3:=hallj e he' hb;rwa [hon]at h3
     have lstT:∀k,k<j->k≠ff->listed.getD k true=true:=λk Z hkf=>by
      have h1:=lst k Z hkf;have h2:k<listed.size:=by rw[U.size];omega
      simp[h2]at h1⊢;exact h1
     have hif:i=ff:=by
      by_cases he:i=ff
      .exact he
      .have:=lstT i hin he
       rw[hun]at this;cases this
     subst hif;obtain⟨o,y,c,d,hof,hog,hop,hod,hot⟩:=fl.it;have hfr:i∈Region.ready .any ops listed:=hir;have hinv':=U.set hfr hin
     have hallL:∀k,k<j->(listed.setIfInBounds i true).getD k true=true:=λk Z=>by
      by_cases hki:i=k
      .subst hki
       have:i<listed.size:=by rw[U.size];omega
       simp[this]
      .rw[getD_set_ne true hki];exact lstT k Z (Ne.symm hki)
     have H:=HY (P:=P) (h:=h) (ops:=ops) (Q:=λ_ _ _=>False) (K:=wpList P ops (QN Q) (ops.toList.drop j)) hq hm U hin hfr hst hp hT (hI.at hq hin hfr) (λa' w' D' T' hp' hT' htm'=>by
      rw[Xx hq hm hinv'.size hallL]at hp';exact hend0 a' w' D' T' hp' hT' λx hx=>(htm' x (hx i hin)).trans (hA x hx))
     unfold wpOp at H;simp only[hof]at H;have hw:Region.wanted o (yielded ops a.tmps)=true:=by simp[Region.wanted,hog]
     rw[if_pos hw]at H;rcases H with H|⟨_,_,_,H⟩
     case inr=>exact H.elim
     have hFI:∃v,FI P ops Q i j d y c v listed a w:=by
      unfold Oper.wp at H;have hex:execOp a.eval o=(do let v<-Instr.extract (a.eval (.tmp y)) c;pure (.value v)):=by unfold execOp;rw[hop]
      rw[hex]at H
      have hlsd:∀k,k<ops.size->listed.getD k true=decide (k<j/\k≠i):=λk Z=>by
       by_cases hkj:k<j
       .by_cases hki:k=i
        .subst hki;rw[hun];simp
        .rw[lstT k hkj hki];simp[hkj,hki]
       .rw[U.tail k (by omega) Z];simp[hkj]
      have hevd:a.eval (.tmp y)=a.tmps.getD y undef:=rfl;cases hv:a.eval (.tmp y)with
      |tuple cs=>
       cases hcs:cs[c]? with
       |some v=>
        refine⟨v,U.size,hlsd,⟨cs,?_,hcs⟩,?_⟩
        .rw[hevd,getD_eq_getD_getElem?]at hv
         cases hty:a.tmps[y]? with
         |none=>rw[hty]at hv;cases hv;simp at hcs
         |some u=>rw[hty]at hv;simp at hv;rw[hv]
        .simp only[hv,Instr.extract,hcs]at H
         have H:wpList P ops (QN Q) (ops.toList.drop j) (a.put o.dst v) w:=by simpa [Oper.upon]using H
         rw[hod]at H;exact H
       |none=>
        simp only[hv,Instr.extract,hcs]at H;simp[Oper.upon,stuck]at H
      |_=>
       simp only[hv,Instr.extract]at H;simp[Oper.upon,stuck]at H
     obtain⟨v,hFI⟩:=hFI;have hnw:Region.waitsFor .any ops j i=false:=by
      cases hwf:Region.waitsFor .any ops j i with
      |false=>rfl
      |true=>
       obtain⟨o',ho',e,he',hb,hon⟩:=Region.waitsFor_spec hwf;obtain rfl:o'=oj:=Option.some.inj (ho'.symm.trans hoj);have h3:=hallj e he' hb;rw[hon,getD_both hun]at h3;cases h3
     obtain⟨g1,g2,g3,g4⟩:=hot j oj (le_refl _) hoj hnw;have hu:0<unl listed j:=Pr hun j hin;exact wpOp_mono (λa1 w1 Z=>Aaa hq hc fl hof hog hop hod hot f (j+1) _ a1 w1 (by omega) (by omega) (by omega) Z) (LS hin hjs hoj g1 g2 g3 g4 hFI)
   have hju:=(mem_ready.1 hj).1;have hcount:=Pq (by rw[U.size];exact hjs) hju n
   rw[if_pos W]at hcount;refine Jy (HY hq hm U W hj hst hp hT (hI.at hq W hj) λa' w' D' T' hp' hT' htm' hmv=>ih _ a' w' D' T' (U.set hj W) (by omega) hp' hT' (λx hx=>(htm' x (hx j W)).trans (hA x hx)) (hI.set hq hst U W hp.sz htm' hmv))
theorem PR.prom{N:Nat}{t:Nat->V}{a:Act}{w:World}{D:Nat->Prop}{T:Nat->Nat->Prop}(H:PR C N σ ρ F t a w D T){d:Nat}(hdn:d<N):
  ∃ρ' F',PR C N (σ++(Go.Ve.prom (t d) σ.length).2) ρ' F' (AD t d (Go.Ve.prom (t d) σ.length).1) a w D (λx=>if x=d then noF else T x):=by
 obtain⟨ρ',F',ok,hr'⟩:=Ix (t d) σ ρ F _ (T d) H.wr (H.tm d hdn) (H.tD d) (λi b U=>H.tF i d b U)
 refine⟨ρ',F',H.df,H.sz,λx Y=>?_,ok.wr,λx Y=>?_,λx b U=>?_,λi x b U Z=>?_,λx y b hxy h1 h2=>?_,λx b U=>?_,H.fr,λi b U=>?_,H.D1,H.D2,
  λi hi=>(ok.rt i (Nat.lt_of_lt_of_le hi H.ml)).trans (H.rt i hi),by have:=H.ml;simp;omega,λx b Y U=>?_⟩
 .have:¬x=d:=by omega
  simp only[AD,this,if_false];exact H.dd x Y
 .by_cases W:x=d
  .subst W;simp only[AD,if_true];exact hr'
  .simp only[AD,W,if_false]
   exact Rel.mono (λ_ h=>h) (λv cv hv=>Ae.ext ok.rt _ _ hv) _ _ _ (λ_ _=>rfl) (H.tm x Y)
 .split at U
  .exact U.elim
  .exact H.tD x b U
 .split at Z
  .exact Z
  .rename_i W
   by_cases hi:i<σ.length
   .rw[ok.old i hi]at U;exact H.tF i x b U Z
   .exact H.tT d x b (Ne.symm W) (ok.new i b (le_of_not_lt hi) U) Z
 .split at h1
  .exact h1
  .split at h2
   .exact h2
   .exact H.tT x y b hxy h1 h2
 .split at U
  .exact U.elim
  .exact H.tn x b U
 .by_cases hi:i<σ.length
  .rw[ok.old i hi]at U;exact H.Fn i b U
  .exact H.tn d b (ok.new i b (le_of_not_lt hi) U)
 .split at U
  .exact U
  .exact H.tx x b Y U
end
theorem PR.close{C:Ctx}:∀(ds:List (Option Nat)) (t:Nat->V) (σ:List V) (ρ:Nat->Value) (F:Nat->Nat->Prop) (T:Nat->Nat->Prop),PR C N σ ρ F t a w D T->
  (∀x b,T x b->some x∈ds)->AA C N (promA ds ⟨t,σ⟩) a w:=by
 intro ds
 induction ds with
 |nil=>
  intro t σ ρ F T H Z;refine⟨H.df,H.dd,D,ρ,F,H.wr,by simpa using H.sz,λx Y=>?_,H.fr,H.Fn,H.D1,H.D2,H.rt,H.ml⟩
  have W:x<N:=by simpa using Y
  have h1:=H.tm x W;have e:T x=noF:=A2 (λb hb=>by cases Z x b hb)
  rw[e]at h1;rw[Ay W];exact h1
 |cons d ds ih=>
  intro t σ ρ F T H Z;cases d with
  |none=>
   refine ih t σ ρ F T H λx b h=>?_
   have:=Z x b h;simpa using this
  |some d=>
   unfold promA;split
   .rename_i U
    have hdn:d<N:=by
     rcases lt_or_ge d N with h|h
     .exact h
     .simp only[H.dd d h]at U;cases U
    obtain⟨ρ',F',hp'⟩:=H.prom hdn;refine ih _ _ ρ' F' _ hp' λx b h=>?_
    split at h
    .exact h.elim
    grind
   .rename_i U
    refine ih t σ ρ F T H λx b h=>?_
    have:=Z x b h;rcases mem_cons.1 this with he|he
    .cases he
     by_cases Y:d<N
     .exact absurd h (AB _ _ _ (by simpa using U) (H.tm d Y) b)
     .exact absurd h (H.tx d b (le_of_not_lt Y))
    .exact he
end Go.Ve

